/- May letters be sent: the law's own answer. -/
import Derived.Test.YtpdnjhofmngfdaaProg
import Derived.Test.YtpdnjhofmngfdaaNetBase
namespace Go.Proofs.Ytpdnjhofmngfdaa
open Go.RowKit Ks
set_option linter.unusedVariables false

set_option maxHeartbeats 2000000 in
theorem may_any (lv : Value) (l : List Let) (w : World) (hl : RdL w lv l) (hlen : l.length ≤ 1000000) :
    Calls Try.prog 21 #[lv] w fun e w' => e = .returned (.bool (!l.any badL)) ∧ Below w.heap.size w w' := by
  refine calls_by fun R HR => ?_
  obtain ⟨a, cap, rfl, hcap, -, hcell⟩ := hl
  have Hc := Lib.hid hcell
  clear hcell
  go_enter Try.func21, Try.ntmps21
  go_wp2
  go_loopw [7] (fun i wr => ∃ k : Nat, k ≤ l.length ∧ i = .int .i64 k ∧ Hid (∀ (i : Nat), i < k → ∀ (y : Let), l[i]? = some y → badL y = false) ∧ Below w.heap.size w wr) (fun i _ => l.length - (intOf i).toNat)
  case atStart => exact ⟨0, by omega, rfl, Lib.hid (fun i hi => absurd hi (by omega)), Below.refl _ _⟩
  case round =>
    obtain ⟨k, hk, rfl, hno, hbel⟩ := hrel
    by_cases hlt : k < l.length
    · obtain ⟨b, o, rfl, hb, c1, c2⟩ := Hc.out k l[k] (List.getElem?_eq_getElem hlt)
      have d1 := (hbel.cell (p := ⟨b, o + k * 2, none⟩) hb).trans c1
      have d2 := (hbel.cell (p := ⟨b, o + k * 2 + 1, none⟩) hb).trans c2
      clear c1 c2
      have hx := Lib.hid (List.getElem?_eq_getElem hlt)
      generalize l[k] = x at d1 d2 hx
      obtain ⟨t, s⟩ := x
      simp only at d1 d2
      have hB : Below w.heap.size w (wr.alloc (.cells #[.int .i64 t, .string s] 24)) := hbel.alloc hbel.size _
      have HB := Lib.hid hB
      clear hB
      have hbad : badL (t, s) = true → (!l.any badL) = false := fun h => by
        have : l.any badL = true := List.any_eq_true.2 ⟨(t, s), List.mem_of_getElem? hx.out, h⟩
        rw [this]; rfl
      by_cases h0 : t = 0
      · subst h0
        by_cases hs : (10000 : Int) < s.size
        · have Q := Lib.hid (hbad (by simp only [badL, decide_eq_true_eq]; omega))
          clear hbad
          go_wp2
          exact HR.out _ _ ⟨by rw [Q.out]; rfl, HB.out⟩
        · have Q := Lib.hid (show badL (0, s) = false by simp only [badL, decide_eq_false_iff_not]; omega)
          clear hbad
          go_wp2
          go_roundw
          case rel =>
            refine ⟨k + 1, by omega, by go_num, Lib.hid fun i hi y hy => ?_, HB.out⟩
            by_cases e : i = k
            · subst e; rw [hx.out] at hy; cases hy; exact Q.out
            · exact hno.out i (by omega) y hy
          case measure => simp [intOf]; omega
      by_cases h1 : t = 1
      · subst h1
        by_cases hs : (10000 : Int) < s.size
        · have Q := Lib.hid (hbad (by simp only [badL, decide_eq_true_eq]; omega))
          clear hbad
          go_wp2
          exact HR.out _ _ ⟨by rw [Q.out]; rfl, HB.out⟩
        · have Q := Lib.hid (show badL (1, s) = false by simp only [badL, decide_eq_false_iff_not]; omega)
          clear hbad
          go_wp2
          go_roundw
          case rel =>
            refine ⟨k + 1, by omega, by go_num, Lib.hid fun i hi y hy => ?_, HB.out⟩
            by_cases e : i = k
            · subst e; rw [hx.out] at hy; cases hy; exact Q.out
            · exact hno.out i (by omega) y hy
          case measure => simp [intOf]; omega
      · have Q := Lib.hid (hbad (by simp only [badL, decide_eq_true_eq]; omega))
        have n0 : (t != 0) = true := by simp [h0]
        have n1 : (t != 1) = true := by simp [h1]
        clear hbad
        go_wp2
        exact HR.out _ _ ⟨by rw [Q.out]; rfl, HB.out⟩
    · obtain rfl : k = l.length := by omega
      have Q := Lib.hid (show (!l.any badL) = true by
        rw [Bool.not_eq_true', List.any_eq_false]
        intro y hy
        obtain ⟨i, hi, e⟩ := List.getElem_of_mem hy
        rw [hno.out i hi y (by rw [List.getElem?_eq_getElem hi, e])]; simp)
      go_wp2
      exact HR.out _ _ ⟨by rw [Q.out]; rfl, hbel⟩

end Go.Proofs.Ytpdnjhofmngfdaa
