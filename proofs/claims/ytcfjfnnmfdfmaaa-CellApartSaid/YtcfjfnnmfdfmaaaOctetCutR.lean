/- What the reference's Cut answers. -/
import Derived.Test.YtcfjfnnmfdfmaaaProg
import Derived.Test.YtcfjfnnmfdfmaaaTextPlain
import Derived.Test.YtcfjfnnmfdfmaaaAfter
import Derived.Test.YtcfjfnnmfdfmaaaOctetRGet
namespace Go.Proofs.Ytcfjfnnmfdfmaaa
open Go.RowKit Ks
set_option linter.unusedVariables false

set_option maxHeartbeats 400000 in
theorem rcut_any (s : ByteArray) (w : World) (hs : s.size ≤ 4611686018427387904) :
    Calls Try.prog 32 #[.string s] w fun e w' => e = .returned (.tuple #[.string (cutA s), .string (cutB s), .int .i64 (cutE s)]) ∧ Below w.heap.size w w' := by
  refine calls_by fun R HR => ?_
  by_cases h4 : s.size < 4
  · go_enter Try.func32, Try.ntmps32
    go_wp2
    go_ret3
    refine HR.out _ _ ⟨?_, Below.refl _ _⟩
    have hf : ¬ cutOk s = true := by simp only [cutOk, decide_eq_true_eq]; omega
    rw [cutA, cutB, cutE, if_neg hf, if_neg hf, if_neg hf]
    rfl
  · have h4' : 4 ≤ s.size := by omega
    obtain ⟨hv, hn⟩ := getV_four s h4'
    go_enter Try.func32, Try.ntmps32
    go_wp2_with fail
    refine (rget_any _ _).mono ?_
    rintro e w1 ⟨rfl, rfl⟩
    by_cases hc : cutN s ≤ s.size - 4
    · go_wp2
      go_quiet (fail)
      go_wp2
      go_ret3
      refine HR.out _ _ ⟨?_, below_drewN (Below.refl _ _) _⟩
      have hf : cutOk s = true := by simp only [cutOk, decide_eq_true_eq]; omega
      rw [cutA, cutB, cutE, if_pos hf, if_pos hf, if_pos hf]
      rfl
    · go_wp2
      go_ret3
      refine HR.out _ _ ⟨?_, Below.refl _ _⟩
      have hf : ¬ cutOk s = true := by simp only [cutOk, decide_eq_true_eq]; omega
      rw [cutA, cutB, cutE, if_neg hf, if_neg hf, if_neg hf]
      rfl

end Go.Proofs.Ytcfjfnnmfdfmaaa
