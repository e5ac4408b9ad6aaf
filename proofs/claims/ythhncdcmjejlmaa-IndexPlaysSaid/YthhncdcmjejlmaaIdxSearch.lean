/- A binary search among versions. -/
import Derived.Test.YthhncdcmjejlmaaProg
import Derived.Test.YthhncdcmjejlmaaIdxPlain
import Derived.Test.YthhncdcmjejlmaaAfter
import Derived.Deep.LoopGhost
import Derived.Deep.QuietTactic
import Derived.BigQuiet
namespace Ks
def metB (c : Ver → Int) (L : List Ver) (p : Nat) : Bool := match L[p]? with | some x => decide (c x = 0) | none => false
end Ks
namespace Go.Proofs.Ythhncdcmjejlmaa
open Go.RowKit Ks
set_option linter.unusedVariables false

set_option maxHeartbeats 2000000 in
theorem search_any (g : Nat) (lb : Array Value) (eg : ∀ args w, (callFunc g args).run Try.prog w = .ok (.enter g args) w) (c : Ver → Int) (v : Value) (t : Ver) (L : List Ver) (p : Nat) (w : World) (hl : Rd verE w v L) (hlen : L.length ≤ 1000000) (hp : p ≤ L.length)
    (h1 : ∀ i x, i < p → L[i]? = some x → c x < 0) (h2 : ∀ i x, p ≤ i → L[i]? = some x → ¬ c x < 0)
    (hc : ∀ x w', Below w.heap.size w w' → Calls Try.prog g (#[verV x, verV t] ++ lb) w' fun e w'' => e = .returned (.int .i64 (c x)) ∧ Below w'.heap.size w' w'') :
    Calls Try.prog 27 #[v, verV t, .func (.func g) #[] lb] w fun e w' => e = .returned (.tuple #[.int .i64 p, .bool (metB c L p)]) ∧ Below w.heap.size w w' := by
  refine calls_by fun R HR => ?_
  obtain ⟨a, cap, hv, hcap, -⟩ := hl.shape
  subst hv
  have HL := Lib.hid hl
  have H12 := Lib.hid (And.intro h1 h2)
  have Hc := Lib.hid hc
  clear h1 h2 hc hl
  obtain ⟨t1, t2, t3⟩ := t
  obtain ⟨W0, hW0⟩ : ∃ W0, w.alloc (.cells #[.int .i64 t1, .int .i64 t2, .int .i64 t3] 27) = W0 := ⟨_, rfl⟩
  have hB0 : Below w.heap.size w W0 := by rw [← hW0]; exact (Below.refl _ _).alloc (Nat.le_refl _) _
  have k0 : W0.heap[w.heap.size]? = some (.cells #[.int .i64 t1, .int .i64 t2, .int .i64 t3] 27 (0, 0)) := by rw [← hW0]; exact heap_alloc_new w _
  have H0 := Lib.hid (And.intro hB0 k0)
  clear hB0 k0
  go_enter Try.func27, Try.ntmps27
  go_wp2
  go_loopg [9, 10] L.length (fun gh i j wr => ∃ (lo hi : Nat), hi - lo ≤ gh ∧ lo ≤ p ∧ p ≤ hi ∧ hi ≤ L.length ∧ i = .int .i64 lo ∧ j = .int .i64 hi ∧ Below W0.heap.size W0 wr)
  case atStart => exact ⟨0, L.length, by omega, by omega, by omega, by omega, rfl, rfl, Below.refl _ _⟩
  case round =>
    obtain ⟨lo, hi, hgh, hlo, hhi, hhl, rfl, rfl, hbel⟩ := hrel
    by_cases hlt : lo < hi
    · obtain ⟨m, hm⟩ : ∃ m : Nat, ((lo : Int) + (hi : Int)) / 2 = (m : Int) := ⟨(lo + hi) / 2, by omega⟩
      have hm1 : lo ≤ m ∧ m < hi := by omega
      obtain ⟨x, hx⟩ : ∃ x, L[m]? = some x := ⟨_, List.getElem?_eq_getElem (by omega)⟩
      have hbw : Below w.heap.size w wr := H0.out.1.trans (hbel.mono H0.out.1.size)
      obtain ⟨b, o, ha, hb, dd⟩ := (HL.out.below hbw).at m x hx
      subst ha
      have k0 := (hbel.block _ (lt_of_block H0.out.2)).trans H0.out.2
      obtain ⟨x1, x2, x3⟩ := x
      have d0 := after_cell (dd 0 _ rfl)
      have d1 := after_cell (dd 1 _ rfl)
      have d2 := after_cell (dd 2 _ rfl)
      have e0 := after_cell (show wr.cell? ⟨w.heap.size, 0, none⟩ = some (.int .i64 t1) by rw [cell_of_row wr _ 0 _ _ _ k0]; rfl)
      have e1 := after_cell (show wr.cell? ⟨w.heap.size, 1, none⟩ = some (.int .i64 t2) by rw [cell_of_row wr _ 1 _ _ _ k0]; rfl)
      have e2 := after_cell (show wr.cell? ⟨w.heap.size, 2, none⟩ = some (.int .i64 t3) by rw [cell_of_row wr _ 2 _ _ _ k0]; rfl)
      have cP := fun q => calls_after (Hc.out (x1, x2, x3) (After wr q) (hbw.trans ((after_below wr q).mono hbw.size)))
      have hmi : (0 : Int) ≤ (m : Int) := by omega
      have hmi2 : (m : Int) < (L.length : Int) := by omega
      obtain ⟨cx, hcx⟩ : ∃ cx, c (x1, x2, x3) = cx := ⟨_, rfl⟩
      rw [hcx] at cP
      have HX := Lib.hid (And.intro hx hcx)
      clear dd k0 hx hcx
      change ∀ p : Regrown, (After wr p).cell? ⟨b, o + m * 3, none⟩ = some (.int .i64 x1) at d0
      change ∀ p : Regrown, (After wr p).cell? ⟨b, o + m * 3 + 1, none⟩ = some (.int .i64 x2) at d1
      change ∀ p : Regrown, (After wr p).cell? ⟨b, o + m * 3 + 2, none⟩ = some (.int .i64 x3) at d2
      go_wp2_with fail
      refine wp_region_after (by kernel_rfl) (by kernel_rfl) ?_
      repeat (quiet_step (exact cP _))
      refine wpQuiet_nil ?_
      rintro w1 ⟨q, rfl⟩
      have hb1 := after_below wr q
      generalize After wr q = w1 at *
      clear d0 d1 d2 e0 e1 e2 cP
      by_cases hneg : cx < 0
      · have hmp : m < p := by
          refine Nat.lt_of_not_le fun hle => ?_
          have := H12.out.2 m _ hle HX.out.1
          rw [HX.out.2] at this
          omega
        go_wp2
        go_roundg (hi - (m + 1))
        case measure => omega
        case rel => exact ⟨m + 1, hi, by omega, by omega, by omega, by omega, by go_num, rfl, hbel.trans (hb1.mono hbel.size)⟩
      · have hmp : p ≤ m := by
          refine Nat.le_of_not_lt fun hlt => ?_
          have := H12.out.1 m _ hlt HX.out.1
          rw [HX.out.2] at this
          omega
        go_wp2
        go_roundg (m - lo)
        case measure => omega
        case rel => exact ⟨lo, m, by omega, by omega, by omega, by omega, rfl, rfl, hbel.trans (hb1.mono hbel.size)⟩
    · obtain rfl : lo = p := by omega
      obtain rfl : hi = lo := by omega
      have hbw : Below w.heap.size w wr := H0.out.1.trans (hbel.mono H0.out.1.size)
      by_cases hpl : hi < L.length
      · obtain ⟨x, hx⟩ : ∃ x, L[hi]? = some x := ⟨_, List.getElem?_eq_getElem hpl⟩
        obtain ⟨b, o, ha, hb, dd⟩ := (HL.out.below hbw).at hi x hx
        subst ha
        have k0 := (hbel.block _ (lt_of_block H0.out.2)).trans H0.out.2
        obtain ⟨x1, x2, x3⟩ := x
        have d0 := after_cell (dd 0 _ rfl)
        have d1 := after_cell (dd 1 _ rfl)
        have d2 := after_cell (dd 2 _ rfl)
        have e0 := after_cell (show wr.cell? ⟨w.heap.size, 0, none⟩ = some (.int .i64 t1) by rw [cell_of_row wr _ 0 _ _ _ k0]; rfl)
        have e1 := after_cell (show wr.cell? ⟨w.heap.size, 1, none⟩ = some (.int .i64 t2) by rw [cell_of_row wr _ 1 _ _ _ k0]; rfl)
        have e2 := after_cell (show wr.cell? ⟨w.heap.size, 2, none⟩ = some (.int .i64 t3) by rw [cell_of_row wr _ 2 _ _ _ k0]; rfl)
        have cP := fun q => calls_after (Hc.out (x1, x2, x3) (After wr q) (hbw.trans ((after_below wr q).mono hbw.size)))
        have hmi : (0 : Int) ≤ (hi : Int) := by omega
        have hmi2 : (hi : Int) < (L.length : Int) := by omega
        obtain ⟨cx, hcx⟩ : ∃ cx, c (x1, x2, x3) = cx := ⟨_, rfl⟩
        rw [hcx] at cP
        have Q := Lib.hid (show metB c L hi = (cx == 0) by unfold metB; rw [hx]; simp only [hcx]; rfl)
        clear dd k0 hx hcx
        change ∀ p : Regrown, (After wr p).cell? ⟨b, o + hi * 3, none⟩ = some (.int .i64 x1) at d0
        change ∀ p : Regrown, (After wr p).cell? ⟨b, o + hi * 3 + 1, none⟩ = some (.int .i64 x2) at d1
        change ∀ p : Regrown, (After wr p).cell? ⟨b, o + hi * 3 + 2, none⟩ = some (.int .i64 x3) at d2
        have hd2 : decide (hi < L.length) = true := by simpa using hpl
        go_wp2_with fail
        refine wp_region_after (by kernel_rfl) (by kernel_rfl) ?_
        repeat (quiet_step (exact cP _))
        refine wpQuiet_nil ?_
        rintro w1 ⟨q, rfl⟩
        have hb1 := after_below wr q
        generalize After wr q = w1 at *
        clear d0 d1 d2 e0 e1 e2 cP
        go_wp2
        exact HR.out _ _ ⟨by rw [Q.out]; try rfl, hbw.trans (hb1.mono hbw.size)⟩
      · have Q := Lib.hid (show metB c L hi = false by unfold metB; rw [List.getElem?_eq_none (by omega)])
        have hd : decide ((hi : Int) < (L.length : Int)) = false := by simp; omega
        have hd2 : decide (hi < L.length) = false := by simp; omega
        clear hlt
        go_wp2_with fail
        go_quiet (fail)
        go_wp2
        exact HR.out _ _ ⟨by rw [Q.out]; try rfl, below_drewN hbw _⟩

end Go.Proofs.Ythhncdcmjejlmaa
