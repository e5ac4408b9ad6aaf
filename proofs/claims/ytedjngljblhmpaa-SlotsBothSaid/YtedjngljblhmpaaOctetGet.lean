/- What octet.Get and the reference's Get answer. -/
import Derived.Test.YtedjngljblhmpaaProg
import Derived.Test.YtedjngljblhmpaaOctetPlain
namespace Go.Proofs.Ytedjngljblhmpaa
open Go.RowKit Ks
set_option linter.unusedVariables false

set_option maxHeartbeats 400000 in
theorem get_err (s : ByteArray) (w : World) (h : s.size = 0 ∨ 8 < s.size ∨ ∃ h : s.size = 8, 127 < (s[0]'(by omega)).toNat) :
    Calls Try.prog 28 #[.string s] w fun e w' => e = .returned (.tuple #[.int .i64 0, .int .i64 3]) ∧ w = w' := by
  refine calls_by fun R HR => ?_
  rcases h with h | h | ⟨h, h'⟩
  · obtain rfl := str_none s h
    go_enter Try.func28, Try.ntmps28
    go_wp2
    exact HR.out _ _ ⟨rfl, rfl⟩
  · obtain ⟨h1, h2⟩ := str_some s (by omega)
    go_enter Try.func28, Try.ntmps28
    go_wp2
    exact HR.out _ _ ⟨rfl, rfl⟩
  · obtain ⟨h1, h2⟩ := str_some s (by omega)
    go_enter Try.func28, Try.ntmps28
    go_wp2
    exact HR.out _ _ ⟨rfl, rfl⟩

set_option maxHeartbeats 400000 in
theorem get_ok (s : ByteArray) (w : World) (h : 0 < s.size) (hs : s.size < 8 ∨ ∃ h : s.size = 8, ¬ 127 < (s[0]'(by omega)).toNat) (hN : getN s.data.toList ≤ 9223372036854775807) :
    Calls Try.prog 28 #[.string s] w fun e w' => e = .returned (.tuple #[.int .i64 (getN s.data.toList), .int .i64 0]) ∧ w = w' := by
  refine calls_by fun R HR => ?_
  obtain ⟨h1, h2⟩ := str_some s (by omega)
  have h8 : ¬ 8 < (s.size : Int) := by rcases hs with hs | ⟨hs, _⟩ <;> omega
  have HS : Hid (∀ k, (hk : k < s.size) → getN (s.data.toList.take (k + 1)) = getN (s.data.toList.take k) * 256 + (s[k]).toNat) := by
    intro k hk; rw [take_snoc s k hk, getN_snoc]
  have HL : Hid (∀ k, getN (s.data.toList.take k) ≤ 9223372036854775807) := fun k => Nat.le_trans (getN_take_le _ _) hN
  have HE : Hid (getN (s.data.toList.take s.size) = getN s.data.toList) := Lib.hid (by rw [List.take_of_length_le (by rw [data_length]; omega)])
  clear hN
  rcases hs with hs | ⟨hs, hs'⟩
  all_goals
    go_enter Try.func28, Try.ntmps28
    go_wp2
    go_loop [4, 25, 5] (fun n i _ => ∃ k m : Nat, k ≤ s.size ∧ i = .int .i64 k ∧ n = .int .i64 m ∧ Hid (m = getN (s.data.toList.take k))) (fun _ i _ => s.size - (intOf i).toNat)
    case atStart => exact ⟨0, 0, by omega, rfl, rfl, Lib.hid (by simp [getN])⟩
    case round =>
      obtain ⟨k, m, hk, rfl, rfl, hm⟩ := hrel
      by_cases hlt : k < s.size
      · have hb := (s[k]).toNat_lt
        have hm1 : m * 256 + (s[k]).toNat ≤ 9223372036854775807 := by have a := HS.out k hlt; have b := HL.out (k + 1); rw [hm.out]; omega
        have hm2 : (m : Int) * 256 ≤ 9223372036854775807 := by omega
        have hor := or8 m (s[k]).toNat hm1 hb
        go_wp2
        go_round
        case rel => exact ⟨k + 1, m * 256 + (s[k]).toNat, by omega, by go_num, by go_num, Lib.hid (by rw [hm.out, HS.out k hlt])⟩
        case measure => simp [intOf]; omega
      · obtain rfl : k = s.size := by omega
        go_wp2
        refine HR.out _ _ ⟨?_, rfl⟩
        rw [hm.out, HE.out]

theorem get_any (s : ByteArray) (w : World) :
    Calls Try.prog 28 #[.string s] w fun e w' => e = .returned (.tuple #[.int .i64 (getV s), .int .i64 (getE s)]) ∧ w = w' := by
  unfold getV getE
  have hl := data_length s
  by_cases h : getOk s.data.toList = true
  · rw [if_pos h, if_pos h]
    simp only [getOk, decide_eq_true_eq, hl] at h
    refine get_ok s w (by omega) ?_ h.2.2
    by_cases h8 : s.size = 8
    · exact .inr ⟨h8, (getN_head s h8).1 h.2.2⟩
    · exact .inl (by omega)
  · rw [if_neg h, if_neg h]
    simp only [getOk, decide_eq_true_eq, hl] at h
    refine get_err s w ?_
    by_cases h0 : s.size = 0
    · exact .inl h0
    by_cases h8 : 8 < s.size
    · exact .inr (.inl h8)
    have hn : ¬ getN s.data.toList ≤ 9223372036854775807 := fun hh => h ⟨by omega, by omega, hh⟩
    by_cases h9 : s.size = 8
    · refine .inr (.inr ⟨h9, ?_⟩)
      have := mt (getN_head s h9).2 hn
      omega
    · exfalso
      have h1 := getN_lt s.data.toList
      have h2 : 256 ^ s.data.toList.length ≤ 256 ^ 7 := Nat.pow_le_pow_right (by omega) (by omega)
      have h7 : (256 : Nat) ^ 7 = 72057594037927936 := by decide
      omega

end Go.Proofs.Ytedjngljblhmpaa
