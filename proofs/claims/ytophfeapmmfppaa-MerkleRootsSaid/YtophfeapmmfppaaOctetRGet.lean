/- What the reference's Get answers. -/
import Derived.Test.YtophfeapmmfppaaProg
import Derived.Test.YtophfeapmmfppaaOctetPlain
namespace Go.Proofs.Ytophfeapmmfppaa
open Go.RowKit Ks
set_option linter.unusedVariables false

set_option maxHeartbeats 400000 in
theorem rget_err (s : ByteArray) (w : World) (h : s.size = 0 ∨ 8 < s.size ∨ ∃ h : s.size = 8, 127 < (s[0]'(by omega)).toNat) :
    Calls Try.prog 58 #[.string s] w fun e w' => e = .returned (.tuple #[.int .i64 0, .int .i64 3]) ∧ w = w' := by
  refine calls_by fun R HR => ?_
  replace h : s.size = 0 ∨ 8 < s.size ∨ ∃ h : s.size = 8, (128 : Int) ≤ ((s[0]'(by omega)).toNat : Int) := by
    rcases h with h | h | ⟨h, h'⟩
    · exact .inl h
    · exact .inr (.inl h)
    · exact .inr (.inr ⟨h, by omega⟩)
  rcases h with h | h | ⟨h, h'⟩
  all_goals
    go_enter Try.func58, Try.ntmps58
    go_wp2
    exact HR.out _ _ ⟨rfl, rfl⟩

set_option maxHeartbeats 400000 in
theorem rget_ok (s : ByteArray) (w : World) (h : 0 < s.size) (hs : s.size < 8 ∨ ∃ h : s.size = 8, ¬ 127 < (s[0]'(by omega)).toNat) (hN : getN s.data.toList ≤ 9223372036854775807) :
    Calls Try.prog 58 #[.string s] w fun e w' => e = .returned (.tuple #[.int .i64 (getN s.data.toList), .int .i64 0]) ∧ w = w' := by
  refine calls_by fun R HR => ?_
  have h8 : ¬ 8 < (s.size : Int) := by rcases hs with hs | ⟨hs, _⟩ <;> omega
  have HS : Hid (∀ k, (hk : k < s.size) → getN (s.data.toList.take (k + 1)) = getN (s.data.toList.take k) * 256 + (s[k]).toNat) := by
    intro k hk; rw [take_snoc s k hk, getN_snoc]
  have HL : Hid (∀ k, getN (s.data.toList.take k) ≤ 9223372036854775807) := fun k => Nat.le_trans (getN_take_le _ _) hN
  have HE : Hid (getN (s.data.toList.take s.size) = getN s.data.toList) := Lib.hid (by rw [List.take_of_length_le (by rw [data_length]; omega)])
  clear hN
  replace hs : s.size < 8 ∨ ∃ h : s.size = 8, ¬ (128 : Int) ≤ ((s[0]'(by omega)).toNat : Int) := by
    rcases hs with hs | ⟨hs, h'⟩
    · exact .inl hs
    · exact .inr ⟨hs, by omega⟩
  rcases hs with hs | ⟨hs, hs'⟩
  all_goals
    go_enter Try.func58, Try.ntmps58
    go_wp2
    go_loop [4, 5] (fun n i => ∃ k m : Nat, k ≤ s.size ∧ i = .int .i64 k ∧ n = .int .i64 m ∧ Hid (m = getN (s.data.toList.take k))) (fun _ i => s.size - (intOf i).toNat)
    case atStart => exact ⟨0, 0, by omega, rfl, rfl, Lib.hid (by simp [getN])⟩
    case round =>
      obtain ⟨k, m, hk, rfl, rfl, hm⟩ := hrel
      try clear hs'
      by_cases hlt : k < s.size
      · have hb := (s[k]).toNat_lt
        have hm1 : m * 256 + (s[k]).toNat ≤ 9223372036854775807 := by have a := HS.out k hlt; have b := HL.out (k + 1); rw [hm.out]; omega
        have hm2 : 256 * (m : Int) + (s[k]).toNat ≤ 9223372036854775807 := by omega
        go_wp2
        go_round
        case rel => exact ⟨k + 1, m * 256 + (s[k]).toNat, by omega, by go_num, by go_num, Lib.hid (by rw [hm.out, HS.out k hlt])⟩
        case measure => simp [intOf]; omega
      · obtain rfl : k = s.size := by omega
        go_wp2
        refine HR.out _ _ ⟨?_, rfl⟩
        rw [hm.out, HE.out]

theorem rget_any (s : ByteArray) (w : World) :
    Calls Try.prog 58 #[.string s] w fun e w' => e = .returned (.tuple #[.int .i64 (getV s), .int .i64 (getE s)]) ∧ w = w' := by
  unfold getV getE
  rcases get_cases s with ⟨h, h1, h2, h3⟩ | ⟨h, h1⟩
  · rw [if_pos h, if_pos h]
    exact rget_ok s w h1 h2 h3
  · rw [if_neg (by simp [h]), if_neg (by simp [h])]
    exact rget_err s w h1

end Go.Proofs.Ytophfeapmmfppaa
