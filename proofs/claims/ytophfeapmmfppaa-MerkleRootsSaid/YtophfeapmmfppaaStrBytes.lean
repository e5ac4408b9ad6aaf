/- The reference's Bytes: of how many bytes texts are (of the first 2000, at most 100000 each). -/
import Derived.Test.YtophfeapmmfppaaProg
import Derived.Test.YtophfeapmmfppaaStrE
import Derived.WalkLawsBesides
namespace Ks
open Go Go.RowKit
set_option linter.unusedVariables false
def bytesN (l : List ByteArray) : Nat := ((l.take 2000).map fun s => min s.size 100000).sum
theorem bytesN_join (l : List ByteArray) (h : l.length ≤ 2000) (hb : bytesN l < 100000) : (joinL l).length = bytesN l := by
  rw [bytesN, List.take_of_length_le h] at hb ⊢
  clear h
  induction l with
  | nil => rfl
  | cons s l ih =>
    simp only [List.map_cons, List.sum_cons] at hb ⊢
    have := ih (by omega)
    rw [← this, joinL, List.flatMap_cons, List.length_append, data_length]
    have : min s.size 100000 = s.size := by omega
    rw [this]; rfl
theorem bytesN_take (l : List ByteArray) (k : Nat) (h : k < l.length) (h2 : k < 2000) : ((l.take (k + 1)).map fun s => min s.size 100000).sum = ((l.take k).map fun s => min s.size 100000).sum + min l[k].size 100000 := by
  rw [List.take_succ_eq_append_getElem h, List.map_append, List.sum_append]; simp
end Ks
namespace Go.Proofs.Ytophfeapmmfppaa
open Go.RowKit Ks
set_option linter.unusedVariables false
set_option maxHeartbeats 1000000 in
theorem bytes_any (l : List ByteArray) (v : Value) (w : World) (hv : Rd strE w v l) : Calls Try.prog 24 #[v] w fun e w' => e = .returned (.int .i64 (bytesN l : Nat)) ∧ w' = w := by
  refine calls_by fun R HR => ?_
  obtain ⟨a, cap, rfl, _, _⟩ := hv.shape
  have HV := Lib.hid hv
  clear hv
  go_enter Try.func24, Try.ntmps24
  go_wp2
  go_loop [4, 3] (fun i x => ∃ (k n : Nat), k ≤ l.length ∧ k ≤ 2000 ∧ n ≤ 100000 * k ∧ i = .int .i64 k ∧ x = .int .i64 n ∧ Hid (n = ((l.take k).map fun s => min s.size 100000).sum)) (fun i _ => 2000 - (intOf i).toNat)
  case atStart => exact ⟨0, 0, by omega, by omega, by omega, rfl, rfl, Lib.hid rfl⟩
  case round =>
    obtain ⟨k, n, hk, hk2, hnb, rfl, rfl, hn⟩ := hrel
    have hend : Hid (k = l.length ∨ k = 2000 → n = bytesN l) := Lib.hid fun h => by
      rw [hn.out, bytesN]
      rcases h with h | h
      · rw [h, List.take_of_length_le (Nat.le_refl _), List.take_of_length_le (by omega)]
      · rw [h]
    have hni : (n : Int) ≤ 200000000 := by omega
    have HNB := Lib.hid (And.intro hk2 hnb)
    by_cases hlt : k < l.length
    · by_cases h2 : k < 2000
      · obtain ⟨b, o, rfl, _, hc⟩ := HV.out.str k hlt
        have HS := Lib.hid (bytesN_take l k hlt h2)
        generalize l[k] = s at *
        have h2i : (k : Int) < 2000 := by omega
        have H2 := Lib.hid h2
        clear hk2 hnb h2 hend
        by_cases hs : s.size < 100000
        · have hsi : (s.size : Int) < 100000 := by omega
          have HM := Lib.hid (show min s.size 100000 = s.size by omega)
          clear hs
          go_wp2
          all_goals
            go_round
            case rel => exact ⟨k + 1, n + s.size, by omega, by have := H2.out; omega, by have := HNB.out.2; omega, by go_num, by go_num, Lib.hid (by rw [HS.out, ← hn.out, HM.out])⟩
            case measure => simp [intOf]; have := H2.out; omega
        · have hsi : ¬ (s.size : Int) < 100000 := by omega
          have HM := Lib.hid (show min s.size 100000 = 100000 by omega)
          clear hs
          go_wp2
          all_goals
            go_round
            case rel => exact ⟨k + 1, n + 100000, by omega, by have := H2.out; omega, by have := HNB.out.2; omega, by go_num, by go_num, Lib.hid (by rw [HS.out, ← hn.out, HM.out])⟩
            case measure => simp [intOf]; have := H2.out; omega
      · have hv := Lib.hid (hend.out (Or.inr (by omega)))
        have h2i : ¬ (k : Int) < 2000 := by omega
        clear hend hk2 hnb h2
        go_wp2
        exact HR.out _ _ ⟨by rw [hv.out], rfl⟩
    · have hv := Lib.hid (hend.out (Or.inl (by omega)))
      clear hend hk2 hnb
      go_wp2
      exact HR.out _ _ ⟨by rw [hv.out], rfl⟩
end Go.Proofs.Ytophfeapmmfppaa
