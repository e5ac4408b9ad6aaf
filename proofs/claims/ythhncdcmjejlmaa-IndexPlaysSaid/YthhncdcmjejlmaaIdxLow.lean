/- How two versions stand; whether one may be. -/
import Derived.Test.YthhncdcmjejlmaaProg
import Derived.Test.YthhncdcmjejlmaaIdxPlain
import Derived.StillTailTactics
namespace Go.Proofs.Ythhncdcmjejlmaa
open Go.RowKit Ks
set_option linter.unusedVariables false

theorem nan_any (x : Int) (w : World) : Calls Try.prog 40 #[.int .i64 x] w fun e w' => e = .returned (.bool false) ∧ w' = w := by
  refine calls_by fun R HR => ?_
  go_enter Try.func40, Try.ntmps40
  go_wp2
  exact HR.out _ _ ⟨by simp, rfl⟩

theorem compare_any (x y : Int) (w : World) : Calls Try.prog 37 #[.int .i64 x, .int .i64 y] w fun e w' => e = .returned (.int .i64 (cmpI x y)) ∧ w' = w := by
  refine calls_by fun R HR => ?_
  by_cases h1 : x < y
  · have Q := Lib.hid (show cmpI x y = -1 by rw [cmpI, if_pos h1])
    go_enter Try.func37, Try.ntmps37
    go_wp2_with (go_at_call 40; refine (nan_any _ _).mono ?_; rintro e w' ⟨rfl, rfl⟩)
    exact HR.out _ _ ⟨by rw [Q.out]; try rfl, rfl⟩
  by_cases h2 : y < x
  · have Q := Lib.hid (show cmpI x y = 1 by rw [cmpI, if_neg h1, if_pos h2])
    go_enter Try.func37, Try.ntmps37
    go_wp2_with (go_at_call 40; refine (nan_any _ _).mono ?_; rintro e w' ⟨rfl, rfl⟩)
    exact HR.out _ _ ⟨by rw [Q.out]; try rfl, rfl⟩
  · have Q := Lib.hid (show cmpI x y = 0 by rw [cmpI, if_neg h1, if_neg h2])
    go_enter Try.func37, Try.ntmps37
    go_wp2_with (go_at_call 40; refine (nan_any _ _).mono ?_; rintro e w' ⟨rfl, rfl⟩)
    exact HR.out _ _ ⟨by rw [Q.out]; try rfl, rfl⟩

theorem or_any (a b c : Int) (g cap : Nat) (T : TypeId) (fr : Nat × Nat) (w : World) (h : w.heap[g]? = some (.cells #[.int .i64 a, .int .i64 b, .int .i64 c] T fr)) :
    Calls Try.prog 36 #[.slice (some ⟨g, 0, none⟩) 3 cap] w fun e w' => e = .returned (.int .i64 (orI a b c)) ∧ w' = w := by
  refine calls_by fun R HR => ?_
  have c0 : w.cell? ⟨g, 0, none⟩ = some (.int .i64 a) := by rw [cell_of_row w g 0 _ _ _ h]; rfl
  have c1 : w.cell? ⟨g, 1, none⟩ = some (.int .i64 b) := by rw [cell_of_row w g 1 _ _ _ h]; rfl
  have c2 : w.cell? ⟨g, 2, none⟩ = some (.int .i64 c) := by rw [cell_of_row w g 2 _ _ _ h]; rfl
  clear h
  go_enter Try.func36, Try.ntmps36
  go_wp2
  go_loop [8] (fun i => ∃ k : Nat, k ≤ 3 ∧ i = .int .i64 k ∧ Hid ((1 ≤ k → a = 0) ∧ (2 ≤ k → b = 0) ∧ (3 ≤ k → c = 0))) (fun i => 3 - (intOf i).toNat)
  case atStart => exact ⟨0, by omega, rfl, Lib.hid ⟨by omega, by omega, by omega⟩⟩
  case round =>
    obtain ⟨k, hk, rfl, hz⟩ := hrel
    by_cases h0 : k = 0
    · subst h0
      by_cases ha : a = 0
      · have hb : (a != 0) = false := by simp [ha]
        have Ha := Lib.hid ha
        clear ha
        go_wp2
        go_round
        case rel => exact ⟨1, by omega, rfl, Lib.hid ⟨fun _ => Ha.out, by omega, by omega⟩⟩
        case measure => simp [intOf]
      · have hb : (a != 0) = true := by simp [ha]
        have Q := Lib.hid (show orI a b c = a by rw [orI, if_neg ha])
        go_wp2
        exact HR.out _ _ ⟨by rw [Q.out]; try rfl, rfl⟩
    by_cases h1 : k = 1
    · subst h1
      by_cases hb : b = 0
      · have hbb : (b != 0) = false := by simp [hb]
        have Hb := Lib.hid hb
        clear hb
        go_wp2
        go_round
        case rel => exact ⟨2, by omega, rfl, Lib.hid ⟨fun _ => hz.out.1 (by omega), fun _ => Hb.out, by omega⟩⟩
        case measure => simp [intOf]
      · have hbb : (b != 0) = true := by simp [hb]
        have Q := Lib.hid (show orI a b c = b by rw [orI, if_pos (hz.out.1 (by omega)), if_neg hb])
        go_wp2
        exact HR.out _ _ ⟨by rw [Q.out]; try rfl, rfl⟩
    by_cases h2 : k = 2
    · subst h2
      by_cases hc : c = 0
      · have hbb : (c != 0) = false := by simp [hc]
        have Hc := Lib.hid hc
        clear hc
        go_wp2
        go_round
        case rel => exact ⟨3, by omega, rfl, Lib.hid ⟨fun _ => hz.out.1 (by omega), fun _ => hz.out.2.1 (by omega), fun _ => Hc.out⟩⟩
        case measure => simp [intOf]
      · have hbb : (c != 0) = true := by simp [hc]
        have Q := Lib.hid (show orI a b c = c by rw [orI, if_pos (hz.out.1 (by omega)), if_pos (hz.out.2.1 (by omega))])
        go_wp2
        exact HR.out _ _ ⟨by rw [Q.out]; try rfl, rfl⟩
    · obtain rfl : k = 3 := by omega
      have Q := Lib.hid (show orI a b c = 0 by rw [orI, if_pos (hz.out.1 (by omega)), if_pos (hz.out.2.1 (by omega)), hz.out.2.2 (by omega)])
      go_wp2
      exact HR.out _ _ ⟨by rw [Q.out]; try rfl, rfl⟩

theorem within_any (n most : Int) (w : World) : Calls Try.prog 35 #[.int .i64 n, .int .i64 most] w fun e w' => e = .returned (.bool (decide (0 ≤ n ∧ n ≤ most))) ∧ w' = w := by
  refine calls_by fun R HR => ?_
  by_cases h1 : 0 ≤ n
  · by_cases h2 : n ≤ most
    · have Q := Lib.hid (show decide (0 ≤ n ∧ n ≤ most) = true by simp [h1, h2])
      go_enter Try.func35, Try.ntmps35
      go_wp2
      exact HR.out _ _ ⟨by rw [Q.out]; try rfl, rfl⟩
    · have Q := Lib.hid (show decide (0 ≤ n ∧ n ≤ most) = false by simp [h2])
      go_enter Try.func35, Try.ntmps35
      go_wp2
      exact HR.out _ _ ⟨by rw [Q.out]; try rfl, rfl⟩
  · have Q := Lib.hid (show decide (0 ≤ n ∧ n ≤ most) = false by simp [h1])
    go_enter Try.func35, Try.ntmps35
    go_wp2
    exact HR.out _ _ ⟨by rw [Q.out]; try rfl, rfl⟩

set_option maxHeartbeats 1000000 in
theorem may_any (v : Ver) (w : World) : Calls Try.prog 26 #[verV v] w fun e w' => e = .returned (.bool (mayV v)) ∧ Below w.heap.size w w' := by
  refine calls_by fun R HR => ?_
  obtain ⟨a, b, c⟩ := v
  have hA : Below w.heap.size w (w.alloc (.cells #[.int .i64 a, .int .i64 b, .int .i64 c] 27)) := (Below.refl _ _).alloc (Nat.le_refl _) _
  have k1 := fun w => within_any a 4095 w
  have k2 := fun w => within_any b 4294967295 w
  have k3 := fun w => within_any c 4294967295 w
  by_cases h1 : 0 ≤ a ∧ a ≤ 4095
  · rw [decide_eq_true h1] at k1
    by_cases h2 : 0 ≤ b ∧ b ≤ 4294967295
    · rw [decide_eq_true h2] at k2
      by_cases h3 : 0 ≤ c ∧ c ≤ 4294967295
      · rw [decide_eq_true h3] at k3
        have Q := Lib.hid (show mayV (a, b, c) = true by simp [mayV, h1, h2, h3])
        have K1 := Lib.hid k1
        have K2 := Lib.hid k2
        have K3 := Lib.hid k3
        clear k1 k2 k3 h1 h2 h3
        go_enter Try.func26, Try.ntmps26
        go_wp2_with fail
        refine (K1.out _).mono ?_
        rintro e w' ⟨rfl, rfl⟩
        go_wp2_with fail
        refine (K2.out _).mono ?_
        rintro e w' ⟨rfl, rfl⟩
        go_wp2_with fail
        refine (K3.out _).mono ?_
        rintro e w' ⟨rfl, rfl⟩
        go_wp2
        exact HR.out _ _ ⟨by rw [Q.out]; try rfl, hA⟩
      · rw [decide_eq_false h3] at k3
        have Q := Lib.hid (show mayV (a, b, c) = false by simp only [mayV, decide_eq_false_iff_not]; omega)
        have K1 := Lib.hid k1
        have K2 := Lib.hid k2
        have K3 := Lib.hid k3
        clear k1 k2 k3 h1 h2 h3
        go_enter Try.func26, Try.ntmps26
        go_wp2_with fail
        refine (K1.out _).mono ?_
        rintro e w' ⟨rfl, rfl⟩
        go_wp2_with fail
        refine (K2.out _).mono ?_
        rintro e w' ⟨rfl, rfl⟩
        go_wp2_with fail
        refine (K3.out _).mono ?_
        rintro e w' ⟨rfl, rfl⟩
        go_wp2
        exact HR.out _ _ ⟨by rw [Q.out]; try rfl, hA⟩
    · rw [decide_eq_false h2] at k2
      have Q := Lib.hid (show mayV (a, b, c) = false by simp only [mayV, decide_eq_false_iff_not]; omega)
      have K1 := Lib.hid k1
      have K2 := Lib.hid k2
      clear k1 k2 k3 h1 h2
      go_enter Try.func26, Try.ntmps26
      go_wp2_with fail
      refine (K1.out _).mono ?_
      rintro e w' ⟨rfl, rfl⟩
      go_wp2_with fail
      refine (K2.out _).mono ?_
      rintro e w' ⟨rfl, rfl⟩
      go_wp2
      exact HR.out _ _ ⟨by rw [Q.out]; try rfl, hA⟩
  · rw [decide_eq_false h1] at k1
    have Q := Lib.hid (show mayV (a, b, c) = false by simp only [mayV, decide_eq_false_iff_not]; omega)
    have K1 := Lib.hid k1
    clear k1 k2 k3 h1
    go_enter Try.func26, Try.ntmps26
    go_wp2_with fail
    refine (K1.out _).mono ?_
    rintro e w' ⟨rfl, rfl⟩
    go_wp2
    exact HR.out _ _ ⟨by rw [Q.out]; try rfl, hA⟩

theorem lastc_any (v : Ver) (b1 b2 : Nat) (lba epoch : Int) (w : World) (c1 : w.cell? ⟨b1, 0, none⟩ = some (.int .i64 lba)) (c2 : w.cell? ⟨b2, 0, none⟩ = some (.int .i64 epoch)) (z : Value) :
    Calls Try.prog 34 #[verV v, z, .pointer (some ⟨b1, 0, none⟩), .pointer (some ⟨b2, 0, none⟩)] w fun e w' => e = .returned (.int .i64 (lastC lba epoch v)) ∧ Below w.heap.size w w' := by
  refine calls_by fun R HR => ?_
  obtain ⟨a, b, c⟩ := v
  have hA : Below w.heap.size w (w.alloc (.cells #[.int .i64 a, .int .i64 b, .int .i64 c] 27)) := (Below.refl _ _).alloc (Nat.le_refl _) _
  have e1 := (hA.cell (p := ⟨b1, 0, none⟩) (World.block_lt_of_cell? _ _ c1)).trans c1
  have e2 := (hA.cell (p := ⟨b2, 0, none⟩) (World.block_lt_of_cell? _ _ c2)).trans c2
  by_cases h1 : a < lba
  · have Q := Lib.hid (show lastC lba epoch (a, b, c) = -1 by rw [lastC, if_pos (Or.inl h1)])
    go_enter Try.func34, Try.ntmps34
    go_wp2
    exact HR.out _ _ ⟨by rw [Q.out]; try rfl, hA⟩
  by_cases h2 : a = lba
  · have hb : (a == lba) = true := by simpa using h2
    by_cases h3 : b ≤ epoch
    · have Q := Lib.hid (show lastC lba epoch (a, b, c) = -1 by rw [lastC, if_pos (Or.inr ⟨h2, h3⟩)])
      clear h2
      go_enter Try.func34, Try.ntmps34
      go_wp2
      exact HR.out _ _ ⟨by rw [Q.out]; try rfl, hA⟩
    · have Q := Lib.hid (show lastC lba epoch (a, b, c) = 1 by rw [lastC, if_neg (by intro h; rcases h with h | h; exact h1 h; exact h3 h.2)])
      clear h2
      go_enter Try.func34, Try.ntmps34
      go_wp2
      exact HR.out _ _ ⟨by rw [Q.out]; try rfl, hA⟩
  · have hb : (a == lba) = false := by simpa using h2
    have Q := Lib.hid (show lastC lba epoch (a, b, c) = 1 by rw [lastC, if_neg (by intro h; rcases h with h | h; exact h1 h; exact h2 h.1)])
    go_enter Try.func34, Try.ntmps34
    go_wp2
    exact HR.out _ _ ⟨by rw [Q.out]; try rfl, hA⟩

set_option maxHeartbeats 1000000 in
theorem order_any (a b : Ver) (w : World) : Calls Try.prog 28 #[verV a, verV b] w fun e w' => e = .returned (.int .i64 (ordV a b)) ∧ Below w.heap.size w w' := by
  refine calls_by fun R HR => ?_
  obtain ⟨a1, a2, a3⟩ := a
  obtain ⟨b1, b2, b3⟩ := b
  have hA : Below w.heap.size w (w.alloc (.cells #[.int .i64 a1, .int .i64 a2, .int .i64 a3] 27)) := (Below.refl _ _).alloc (Nat.le_refl _) _
  obtain ⟨W2, hW2⟩ : ∃ W2, (w.alloc (.cells #[.int .i64 a1, .int .i64 a2, .int .i64 a3] 27)).alloc (.cells #[.int .i64 b1, .int .i64 b2, .int .i64 b3] 27) = W2 := ⟨_, rfl⟩
  have hB : Below w.heap.size w W2 := by rw [← hW2]; exact hA.alloc hA.size _
  have k1 : W2.heap[w.heap.size]? = some (.cells #[.int .i64 a1, .int .i64 a2, .int .i64 a3] 27 (0, 0)) := by rw [← hW2, Below.heap_alloc _ _ _ (by simp)]; exact heap_alloc_new w _
  have k2 : W2.heap[w.heap.size + 1]? = some (.cells #[.int .i64 b1, .int .i64 b2, .int .i64 b3] 27 (0, 0)) := by
    rw [← hW2]
    have := heap_alloc_new (w.alloc (.cells #[.int .i64 a1, .int .i64 a2, .int .i64 a3] 27)) (.cells #[.int .i64 b1, .int .i64 b2, .int .i64 b3] 27)
    rw [show (w.alloc (.cells #[.int .i64 a1, .int .i64 a2, .int .i64 a3] 27)).heap.size = w.heap.size + 1 by simp] at this
    exact this
  have x0 : W2.cell? ⟨w.heap.size, 0, none⟩ = some (.int .i64 a1) := by rw [cell_of_row W2 _ 0 _ _ _ k1]; rfl
  have x1 : W2.cell? ⟨w.heap.size, 1, none⟩ = some (.int .i64 a2) := by rw [cell_of_row W2 _ 1 _ _ _ k1]; rfl
  have x2 : W2.cell? ⟨w.heap.size, 2, none⟩ = some (.int .i64 a3) := by rw [cell_of_row W2 _ 2 _ _ _ k1]; rfl
  have y0 : W2.cell? ⟨w.heap.size + 1, 0, none⟩ = some (.int .i64 b1) := by rw [cell_of_row W2 _ 0 _ _ _ k2]; rfl
  have y1 : W2.cell? ⟨w.heap.size + 1, 1, none⟩ = some (.int .i64 b2) := by rw [cell_of_row W2 _ 1 _ _ _ k2]; rfl
  have y2 : W2.cell? ⟨w.heap.size + 1, 2, none⟩ = some (.int .i64 b3) := by rw [cell_of_row W2 _ 2 _ _ _ k2]; rfl
  clear hA k1 k2
  go_enter Try.func28, Try.ntmps28
  go_wp2_with fail
  refine wp_region_still_tail 15 (by kernel_rfl) (by kernel_rfl) ?_
  simp only [List.take_succ_cons, List.take_zero, List.drop_succ_cons, List.drop_zero]
  repeat (first | still_call (compare_any _ _ _) | still_step)
  refine wpStill_nil ?_
  change wpList _ _ _ _ _ W2.drew
  have hB3 := hB.trans (((Below.refl W2.heap.size W2).drew).mono hB.size)
  generalize W2.drew = W3 at *
  clear hW2 x0 x1 x2 y0 y1 y2
  obtain ⟨A, hA⟩ : ∃ A, cmpI a1 b1 = A := ⟨_, rfl⟩
  obtain ⟨B, hB'⟩ : ∃ B, cmpI a2 b2 = B := ⟨_, rfl⟩
  obtain ⟨C, hC⟩ : ∃ C, cmpI a3 b3 = C := ⟨_, rfl⟩
  have Q := Lib.hid (show ordV (a1, a2, a3) (b1, b2, b3) = orI A B C by rw [ordV, hA, hB', hC])
  rw [hA, hB', hC]
  clear hA hB' hC
  go_wp2_with fail
  refine (or_any A B C _ _ 3 (0, 0) _ (heap_alloc_new W3 _)).mono ?_
  rintro e w' ⟨rfl, rfl⟩
  go_wp2
  exact HR.out _ _ ⟨by rw [Q.out]; try rfl, hB3.alloc hB3.size _⟩

end Go.Proofs.Ythhncdcmjejlmaa
