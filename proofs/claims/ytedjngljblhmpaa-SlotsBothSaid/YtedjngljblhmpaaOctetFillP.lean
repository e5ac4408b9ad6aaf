/- What octet.Fill answers. -/
import Derived.Test.YtedjngljblhmpaaProg
import Derived.Test.YtedjngljblhmpaaTextPlain
import Derived.Test.YtedjngljblhmpaaAfter
import Derived.Test.YtedjngljblhmpaaShelf
namespace Go.Proofs.Ytedjngljblhmpaa
open Go.RowKit Ks
set_option linter.unusedVariables false

set_option maxHeartbeats 400000 in
theorem fill_any (s : ByteArray) (n : Int) (w : World) :
    Calls Try.prog 22 #[.string s, .int .i64 n] w fun e w' => e = .returned (.tuple #[.string (fillS s n), .int .i64 (fillE s n)]) ∧ Below w.heap.size w w' := by
  refine calls_by fun R HR => ?_
  by_cases h : (s.size : Int) ≤ n ∧ n ≤ 65536
  · obtain ⟨n, rfl⟩ := Int.eq_ofNat_of_zero_le (show 0 ≤ n by omega)
    obtain ⟨h1, h2⟩ := h
    obtain ⟨m, rfl⟩ : ∃ m, n = s.size + m := ⟨n - s.size, by omega⟩
    go_enter Try.func22, Try.ntmps22
    go_wp2_with fail
    rw [show ((s.size : Int) + (m : Int) - (s.size : Int)) = (m : Int) by omega]
    refine (Try.strings_Repeat ⟨#[0]⟩ m _ (by omega) (by show 1 * m ≤ _; omega)).mono ?_
    rintro e w1 ⟨rfl, hb1⟩
    rw [repeat_zeros]
    have hz : (zerosS m).size = m := zerosS_size m
    go_wp2
    refine HR.out _ _ ⟨?_, hb1⟩
    have hf : fillOk s (s.size + m : Nat) = true := by simp only [fillOk, decide_eq_true_eq]; omega
    rw [fillS, fillE, if_pos hf, if_pos hf, show (((s.size + m : Nat) : Int) - (s.size : Int)) = (m : Int) by omega]
    rfl
  · go_enter Try.func22, Try.ntmps22
    go_wp2
    all_goals
      refine HR.out _ _ ⟨?_, Below.refl _ _⟩
      have hf : ¬ fillOk s n = true := by simpa only [fillOk, decide_eq_true_eq] using h
      rw [fillS, fillE, if_neg hf, if_neg hf]
      try rfl

end Go.Proofs.Ytedjngljblhmpaa
