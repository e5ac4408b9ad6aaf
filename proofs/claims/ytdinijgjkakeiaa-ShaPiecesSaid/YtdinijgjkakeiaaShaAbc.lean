/- The digest of three bytes. Plain. No program is in sight. -/
import Derived.Test.YtdinijgjkakeiaaShaFold
namespace Ks
open Go Go.RowKit
set_option linter.unusedVariables false
def abcL : List UInt8 := [186, 120, 22, 191, 143, 1, 207, 234, 65, 65, 64, 222, 93, 174, 34, 35, 176, 3, 97, 163, 150, 23, 122, 156, 180, 16, 255, 97, 242, 0, 21, 173]
def abcB : List UInt8 := [97, 98, 99] ++ padL 3
set_option maxRecDepth 100000 in
theorem abc_turn : textL (turnN st0 abcB) = abcL := by decide +kernel
theorem abc_sum : shaL [97, 98, 99] = abcL := by
  rw [← abc_turn, shaL, show ([97, 98, 99] : List UInt8).length = 3 from rfl, foldN_ge _ _ (by decide), foldN_lt _ _ (by decide)]
  rfl
end Ks
