/- What the reference's Put answers. -/
import Derived.Test.YtophfeapmmfppaaProg
import Derived.Test.YtophfeapmmfppaaOctetPlain
namespace Go.Proofs.Ytophfeapmmfppaa
open Go.RowKit Ks
set_option linter.unusedVariables false

set_option maxHeartbeats 400000 in
theorem rput_err (n width : Int) (w : World) (h : width < 1 ∨ 8 < width ∨ n < 0) :
    Calls Try.prog 57 #[.int .i64 n, .int .i64 width] w fun e w' => e = .returned (.tuple #[.string ⟨#[]⟩, .int .i64 2]) ∧ w = w' := by
  rcases h with h | h | h
  all_goals
    go_enter Try.func57, Try.ntmps57
    go_wp2
    all_goals first
      | (go_ret2; exact ⟨rfl, rfl⟩)
      | (exfalso; omega)

set_option maxHeartbeats 400000 in
theorem rput_ok (n : Nat) (width : Nat) (w : World) (h1 : 1 ≤ width) (h2 : width ≤ 8) (h4 : n ≤ 9223372036854775807) :
    Calls Try.prog 57 #[.int .i64 n, .int .i64 width] w fun e w' => (n / 256 ^ width = 0 → e = .returned (.tuple #[.string ⟨(putL width n).toArray⟩, .int .i64 0])) ∧ (0 < n / 256 ^ width → e = .returned (.tuple #[.string ⟨#[]⟩, .int .i64 2])) ∧ Below w.heap.size w w' := by
  refine calls_by fun R HR => ?_
  have hc := @conv_one Try.prog 90 9 5 Try.underlying90 Try.underlying5 Try.underlying9
  go_enter Try.func57, Try.ntmps57
  go_wp2
  go_loopw [0, 6, 7] (fun nv out i wr => ∃ k m : Nat, k ≤ width ∧ i = .int .i64 k ∧ nv = .int .i64 m ∧ m ≤ n ∧ Hid (m = n / 256 ^ k) ∧ out = .string ⟨(putL k n).toArray⟩ ∧ Below w.heap.size w wr) (fun _ _ i _ => width - (intOf i).toNat)
  case atStart => exact ⟨0, n, by omega, rfl, rfl, by omega, Lib.hid (by simp), rfl, Below.refl _ _⟩
  case round =>
    obtain ⟨k, m, hk, rfl, rfl, hm, hmk, rfl, hbel⟩ := hrel
    by_cases hlt : k < width
    · go_wp2
      go_roundw
      case rel =>
        refine ⟨k + 1, m / 256, by omega, by go_num, by simp, by omega, Lib.hid ?_, ?_, hbel.alloc hbel.size _⟩
        · rw [hmk.out, Nat.div_div_eq_div_mul, Nat.pow_succ]
        · rw [putL_succ', hmk.out, ByteArray.mk_append_one, ofNat_mod]
      case measure => simp [intOf]; omega
    · obtain rfl : k = width := by omega
      by_cases h0 : 0 < (m : Int)
      · go_wp2
        exact HR.out _ _ ⟨fun h => absurd h (by rw [← hmk.out]; omega), fun _ => rfl, hbel⟩
      · go_wp2
        exact HR.out _ _ ⟨fun _ => rfl, fun h => absurd h (by rw [← hmk.out]; omega), hbel⟩

theorem rput_any (n width : Int) (w : World) (hn : n ≤ 9223372036854775807) :
    Calls Try.prog 57 #[.int .i64 n, .int .i64 width] w fun e w' => e = .returned (.tuple #[.string (putS n width), .int .i64 (putE n width)]) ∧ Below w.heap.size w w' := by
  unfold putS putE
  by_cases h : width < 1 ∨ 8 < width ∨ n < 0
  · have hf : ¬ putOk n width = true := by simp only [putOk, decide_eq_true_eq]; omega
    rw [if_neg hf, if_neg hf]
    exact (rput_err n width w h).mono fun e w' ⟨he, hw⟩ => ⟨he, hw ▸ Below.refl _ _⟩
  · obtain ⟨n, rfl⟩ := Int.eq_ofNat_of_zero_le (show 0 ≤ n by omega)
    obtain ⟨width, rfl⟩ := Int.eq_ofNat_of_zero_le (show 0 ≤ width by omega)
    refine (rput_ok n width w (by omega) (by omega) (by omega)).mono fun e w' ⟨h1, h2, h3⟩ => ?_
    have hp : putOk n width = true ↔ n / 256 ^ width = 0 := by
      simp only [putOk, decide_eq_true_eq, Int.toNat_natCast]
      rw [show (256 : Nat) ^ width = 2 ^ (8 * width) by rw [Nat.pow_mul]]
      constructor
      · rintro ⟨_, _, _, h⟩
        by_cases hw : width < 8
        · exact h (by omega)
        · obtain rfl : width = 8 := by omega
          exact Nat.div_eq_of_lt (by omega)
      · exact fun h => ⟨by omega, by omega, by omega, fun _ => h⟩
    by_cases h0 : n / 256 ^ width = 0
    · rw [if_pos (hp.2 h0), if_pos (hp.2 h0)]
      exact ⟨h1 h0, h3⟩
    · have hf : ¬ putOk n width = true := fun h => h0 (hp.1 h)
      rw [if_neg hf, if_neg hf]
      exact ⟨h2 (Nat.pos_of_ne_zero h0), h3⟩

end Go.Proofs.Ytophfeapmmfppaa
