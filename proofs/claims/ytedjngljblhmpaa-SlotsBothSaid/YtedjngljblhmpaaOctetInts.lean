/- Are two rows of numbers the same: the reference's Ints. -/
import Derived.Test.YtedjngljblhmpaaProg
import Derived.Test.YtedjngljblhmpaaAfter
namespace Go.Proofs.Ytedjngljblhmpaa
open Go.RowKit Ks
set_option linter.unusedVariables false

theorem ints_take_succ (l m : List Int) (k : Nat) (hl : k < l.length) (hm : k < m.length) (h : l[k] = m[k]) (ht : l.take k = m.take k) : l.take (k + 1) = m.take (k + 1) := by
  rw [List.take_succ_eq_append_getElem hl, List.take_succ_eq_append_getElem hm, h, ht]

set_option maxHeartbeats 400000 in
theorem ints_any (va vb : Value) (la lb : List Int) (w : World) (ha : RdI w va la) (hb : RdI w vb lb) (hlen : la.length ≤ 4611686018427387904) :
    Calls Try.prog 16 #[va, vb] w fun e w' => e = .returned (.bool (decide (la = lb))) ∧ Below w.heap.size w w' := by
  refine calls_by fun R HR => ?_
  have Ha := Lib.hid ha
  have Hb := Lib.hid hb
  obtain ⟨aa, ca, rfl, -, -⟩ := ha
  obtain ⟨ab, cb, rfl, -, -⟩ := hb
  by_cases hne : la.length = lb.length
  · have hbb : ((la.length : Int) != (lb.length : Int)) = false := by simp [hne]
    have Hne := Lib.hid hne
    clear hne
    go_enter Try.func16, Try.ntmps16
    go_wp2
    go_loopw [5] (fun i wr => ∃ k : Nat, k ≤ la.length ∧ i = .int .i64 k ∧ Hid (la.take k = lb.take k) ∧ Below w.heap.size w wr) (fun i _ => la.length - (intOf i).toNat)
    case atStart => exact ⟨0, by omega, rfl, Lib.hid (by simp), Below.refl _ _⟩
    case round =>
      obtain ⟨k, hk, rfl, ht, hbel⟩ := hrel
      by_cases hlt : k < la.length
      · have hlt' : k < lb.length := by have := Hne.out; omega
        obtain ⟨b1, o1, rfl, hl1, hc1⟩ := Ha.out.cell k hlt
        obtain ⟨b2, o2, rfl, hl2, hc2⟩ := Hb.out.cell k hlt'
        have k1 := after_cell ((hbel.cell (p := ⟨b1, o1 + k, none⟩) hl1).trans hc1)
        have k2 := after_cell ((hbel.cell (p := ⟨b2, o2 + k, none⟩) hl2).trans hc2)
        clear hc1 hc2
        go_wp2_with fail
        refine wp_region_after (by kernel_rfl) (by kernel_rfl) ?_
        repeat (quiet_step (fail))
        refine wpQuiet_nil ?_
        rintro w1 ⟨p, rfl⟩
        have hb1 := after_below wr p
        generalize After wr p = w1 at *
        clear k1 k2
        by_cases he : la[k] = lb[k]
        · have hbn : (la[k] != lb[k]) = false := by simp [he]
          have He := Lib.hid he
          clear he
          go_wp2
          go_roundw
          case rel => exact ⟨k + 1, by omega, by go_num, Lib.hid (ints_take_succ _ _ _ hlt hlt' He.out ht.out), hbel.trans (hb1.mono hbel.size)⟩
          case measure => simp [intOf]; omega
        · have hbn : (la[k] != lb[k]) = true := by simp [he]
          have He := Lib.hid he
          clear he
          go_wp2
          refine HR.out _ _ ⟨?_, hbel.trans (hb1.mono hbel.size)⟩
          rw [decide_eq_false (fun h => He.out (by subst h; rfl))]
          rfl
      · obtain rfl : k = la.length := by omega
        go_wp2
        refine HR.out _ _ ⟨?_, hbel⟩
        rw [decide_eq_true]
        · rfl
        · have := ht.out
          rw [List.take_of_length_le (by omega), List.take_of_length_le (by have := Hne.out; omega)] at this
          exact this
  · have hbb : ((la.length : Int) != (lb.length : Int)) = true := by simp; omega
    have Hne := Lib.hid hne
    clear hne
    go_enter Try.func16, Try.ntmps16
    go_wp2
    refine HR.out _ _ ⟨?_, Below.refl _ _⟩
    rw [decide_eq_false (fun h => Hne.out (by rw [h]))]
    rfl

end Go.Proofs.Ytedjngljblhmpaa
