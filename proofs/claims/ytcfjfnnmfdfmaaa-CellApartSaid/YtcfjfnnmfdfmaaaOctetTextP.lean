/- What octet.Text answers. -/
import Derived.Test.YtcfjfnnmfdfmaaaProg
import Derived.Test.YtcfjfnnmfdfmaaaTextPlain
import Derived.Test.YtcfjfnnmfdfmaaaAfter
import Derived.Test.YtcfjfnnmfdfmaaaOctetPut
namespace Go.Proofs.Ytcfjfnnmfdfmaaa
open Go.RowKit Ks
set_option linter.unusedVariables false

set_option maxHeartbeats 400000 in
theorem text_any (s : ByteArray) (w : World) (hs : s.size < 4294967296) :
    Calls Try.prog 24 #[.string s] w fun e w' => e = .returned (.string (textS s)) ∧ Below w.heap.size w w' := by
  refine calls_by fun R HR => ?_
  have hm := text_mask s.size hs
  have hz := putS_size s.size 4
  go_enter Try.func24, Try.ntmps24
  go_wp2_with fail
  refine (put_any _ _ _ (by omega)).mono ?_
  rintro e w1 ⟨rfl, hb1⟩
  go_wp2
  refine HR.out _ _ ⟨?_, hb1⟩
  rw [← textS_eq s hs]
  rfl

end Go.Proofs.Ytcfjfnnmfdfmaaa
