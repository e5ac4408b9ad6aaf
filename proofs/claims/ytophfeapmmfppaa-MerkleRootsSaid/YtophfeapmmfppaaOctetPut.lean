/- What octet.Put answers. -/
import Derived.Test.YtophfeapmmfppaaProg
import Derived.Test.YtophfeapmmfppaaOctetPlain
namespace Go.Proofs.Ytophfeapmmfppaa
open Go.RowKit Ks
set_option linter.unusedVariables false

theorem Try.infoByte : (Try.prog.info? 5).map (fun i => (i.zero, i.size, i.bytes)) = some (some (.int .u8 0), 1, 1) := by kernel_rfl

set_option maxHeartbeats 400000 in
theorem put_ok (n : Nat) (width : Nat) (w : World) (h1 : 1 ≤ width) (h2 : width ≤ 8) (h4 : n ≤ 9223372036854775807) (h5 : width < 8 → (n : Int) / 2 ^ (8 * width) ≤ 0) :
    Calls Try.prog 54 #[.int .i64 n, .int .i64 width] w fun e w' => e = .returned (.tuple #[.string ⟨(putL width n).toArray⟩, .int .i64 0]) ∧ Below w.heap.size w w' := by
  have hmk := fun w => run_make_row' (P := Try.prog) 90 5 (.int .u8 0) 1 Try.underlying90 Try.infoByte rfl .i64 .i64 width (by omega) (by omega) w
  have hcase : (width < 8 ∧ ¬ (0 < (n : Int) / 2 ^ (8 * width))) ∨ ¬ width < 8 := by
    by_cases h : width < 8
    · exact .inl ⟨h, by have := h5 h; omega⟩
    · exact .inr h
  clear h5
  rcases hcase with ⟨hA, hB⟩ | hA
  all_goals
    go_enter Try.func54, Try.ntmps54
    go_wp2
    go_loopw [32, 7] (fun i _ wr => ∃ k : Nat, k ≤ width ∧ i = .int .i64 k ∧ wr.rowIs w.heap.size 5 width (putCell n width k) ∧ Below w.heap.size w wr) (fun i _ _ => width - (intOf i).toNat)
    case atStart => exact ⟨0, by omega, rfl, (World.rowIs_made w (.int .u8 0) width 5).congr (by simp [putCell]), (Below.refl _ _).alloc (Nat.le_refl _) _⟩
    case round =>
      obtain ⟨k, hk, rfl, hrow, hbel⟩ := hrel
      by_cases hlt : k < width
      · have hcell : wr.cell? ⟨w.heap.size, width - 1 - k, none⟩ = some (putCell n width k (width - 1 - k)) := hrow.cell (by omega)
        have hfr := hrow.frozen (width - 1 - k)
        go_wp2
        go_roundw
        case rel => exact ⟨k + 1, by omega, by go_num, (hrow.set _ _).congr (fun j hj => putCell_succ n width k j hlt hj), hbel.setCell (Nat.le_refl _) _⟩
        case measure => simp [intOf]; omega
      · obtain rfl : k = width := by omega
        have hconv := conv_row (P := Try.prog) (src := 90) (dst := 9) (cap := k) (putL k n) Try.underlying90 Try.underlying5 Try.underlying9 hrow (by simp) (putCell_done n k)
        go_wp2
        go_ret2
        exact ⟨rfl, hbel⟩

set_option maxHeartbeats 400000 in
theorem put_err (n width : Int) (w : World) (h : width < 1 ∨ 8 < width ∨ n < 0 ∨ (1 ≤ width ∧ width < 8 ∧ 0 < n / 2 ^ (8 * width).toNat)) :
    Calls Try.prog 54 #[.int .i64 n, .int .i64 width] w fun e w' => e = .returned (.tuple #[.string ⟨#[]⟩, .int .i64 2]) ∧ w = w' := by
  rcases h with h | h | h | ⟨h1, h2, h3⟩
  · go_enter Try.func54, Try.ntmps54
    go_wp2
    go_ret2
    exact ⟨rfl, rfl⟩
  · go_enter Try.func54, Try.ntmps54
    go_wp2
    go_ret2
    exact ⟨rfl, rfl⟩
  · go_enter Try.func54, Try.ntmps54
    go_wp2
    all_goals first
      | (go_ret2; exact ⟨rfl, rfl⟩)
      | (exfalso; omega)
  · go_enter Try.func54, Try.ntmps54
    go_wp2
    all_goals first
      | (go_ret2; exact ⟨rfl, rfl⟩)
      | (go_ways; exfalso; omega)

theorem put_any (n width : Int) (w : World) (hn : n ≤ 9223372036854775807) :
    Calls Try.prog 54 #[.int .i64 n, .int .i64 width] w fun e w' => e = .returned (.tuple #[.string (putS n width), .int .i64 (putE n width)]) ∧ Below w.heap.size w w' := by
  unfold putS putE
  by_cases h : putOk n width = true
  · rw [if_pos h, if_pos h]
    simp only [putOk, decide_eq_true_eq] at h
    obtain ⟨h1, h2, h3, h4⟩ := h
    obtain ⟨n, rfl⟩ := Int.eq_ofNat_of_zero_le h3
    obtain ⟨width, rfl⟩ := Int.eq_ofNat_of_zero_le (show 0 ≤ width by omega)
    simp only [Int.toNat_natCast] at h4 ⊢
    refine put_ok n width w (by omega) (by omega) (by omega) (fun hw => ?_)
    have := h4 (by omega)
    have h2 : ((n / 2 ^ (8 * width) : Nat) : Int) = (n : Int) / 2 ^ (8 * width) := by simp
    omega
  · rw [if_neg h, if_neg h]
    simp only [putOk, decide_eq_true_eq] at h
    refine (put_err n width w ?_).mono fun e w' ⟨he, hw⟩ => ⟨he, hw ▸ Below.refl _ _⟩
    by_cases h1 : width < 1
    · exact .inl h1
    by_cases h2 : 8 < width
    · exact .inr (.inl h2)
    by_cases h3 : n < 0
    · exact .inr (.inr (.inl h3))
    refine .inr (.inr (.inr ?_))
    have h4 : ¬ (width < 8 → n.toNat / 2 ^ (8 * width.toNat) = 0) := fun hh => h ⟨by omega, by omega, by omega, hh⟩
    have h5 : width < 8 := by
      by_cases hh : width < 8
      · exact hh
      · exact absurd (fun x => absurd x hh) h4
    refine ⟨by omega, h5, ?_⟩
    have h6 : ¬ (n.toNat / 2 ^ (8 * width.toNat) = 0) := fun hh => h4 (fun _ => hh)
    obtain ⟨n, rfl⟩ := Int.eq_ofNat_of_zero_le (show 0 ≤ n by omega)
    obtain ⟨width, rfl⟩ := Int.eq_ofNat_of_zero_le (show 0 ≤ width by omega)
    have h2 : ((n / 2 ^ (8 * width) : Nat) : Int) = (n : Int) / 2 ^ (8 * width) := by simp
    rw [show (8 * (width : Int)).toNat = 8 * width by omega]
    rw [Int.toNat_natCast, Int.toNat_natCast] at h6
    rw [← h2]
    exact Int.natCast_pos.2 (Nat.pos_of_ne_zero h6)

end Go.Proofs.Ytophfeapmmfppaa
