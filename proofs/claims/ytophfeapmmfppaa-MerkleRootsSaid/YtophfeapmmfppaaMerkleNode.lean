/- A node's text and its sum: plain. -/
import Derived.Test.YtophfeapmmfppaaMerklePlain
namespace Ks
open Go
set_option linter.unusedVariables false
def insideS (a b : ByteArray) : ByteArray := ⟨(insideL a b).toArray⟩
theorem nodeS_size (a b : ByteArray) : (nodeS a b).size = 32 := sha1_size _
end Ks
