/- Which key is picked: slots.Pick and the reference's. -/
import Derived.Test.YtedjngljblhmpaaSlotTake
import Derived.Test.YtedjngljblhmpaaNumE
namespace Ks
open Go Go.RowKit
set_option linter.unusedVariables false
theorem ep_ok {ep : Int} : epOk ep = true ↔ 0 ≤ ep ∧ ep ≤ 4294967295 := by simp [epOk]
theorem tmod2 (ep : Int) (h : 0 ≤ ep) : ep.tmod 2 = ep % 2 := Int.tmod_eq_emod_of_nonneg h
theorem pick_none {a b : ByteArray} {ep : Int} (h : ¬ epOk ep = true) : pickE a b ep = 2 ∧ pickK a b ep = ⟨#[]⟩ := by
  have e : pickE a b ep = 2 := by rw [pickE, if_neg h]
  exact ⟨e, by rw [pickK, if_neg (by rw [e]; decide)]⟩
theorem pick_err {a b : ByteArray} {ep : Int} (h : epOk ep = true) (h2 : slotX (pickB a b ep) ≠ 0) : pickE a b ep = slotX (pickB a b ep) ∧ pickK a b ep = ⟨#[]⟩ := by
  have e : pickE a b ep = slotX (pickB a b ep) := by rw [pickE, if_pos h, if_neg h2]
  exact ⟨e, by rw [pickK, if_neg (by rw [e]; exact h2)]⟩
theorem pick_other {a b : ByteArray} {ep : Int} (h : epOk ep = true) (h2 : slotX (pickB a b ep) = 0) (h3 : slotXN (pickB a b ep) ≠ ep) : pickE a b ep = 7 ∧ pickK a b ep = ⟨#[]⟩ := by
  have e : pickE a b ep = 7 := by rw [pickE, if_pos h, if_pos h2, if_neg h3]
  exact ⟨e, by rw [pickK, if_neg (by rw [e]; decide)]⟩
theorem pick_yes {a b : ByteArray} {ep : Int} (h : epOk ep = true) (h2 : slotX (pickB a b ep) = 0) (h3 : slotXN (pickB a b ep) = ep) : pickE a b ep = 0 ∧ pickK a b ep = slotXK (pickB a b ep) := by
  have e : pickE a b ep = 0 := by rw [pickE, if_pos h, if_pos h2, if_pos h3]
  exact ⟨e, by rw [pickK, if_pos e]⟩
end Ks
namespace Go.Proofs.Ytedjngljblhmpaa
open Go.RowKit Ks
set_option linter.unusedVariables false
theorem idx2_0 (x y : ByteArray) (w : World) : (Instr.index 47 (.agg #[.string x, .string y]) (.int .i64 0)).run Try.prog w = .ok (.string x) w := by kernel_rfl
theorem idx2_1 (x y : ByteArray) (w : World) : (Instr.index 47 (.agg #[.string x, .string y]) (.int .i64 1)).run Try.prog w = .ok (.string y) w := by kernel_rfl
set_option maxRecDepth 100000 in
set_option maxHeartbeats 1000000 in
theorem slpick_any (a b : ByteArray) (ep : Int) (ha : a.size ≤ 9223372036854775807) (hb : b.size ≤ 9223372036854775807) (w : World) : Calls Try.prog 14 #[.string a, .string b, .int .i64 ep] w fun e w' => e = .returned (.tuple #[.string (pickK a b ep), .int .i64 (pickE a b ep)]) ∧ Below w.heap.size w w' := by
  refine calls_by fun R HR => ?_
  have HM := Lib.hid (slmay_any ep w)
  by_cases hep : epOk ep = true
  · rw [hep] at HM
    obtain ⟨h0, h1⟩ := ep_ok.1 hep
    have hm2 : ep % 2 = 0 ∨ ep % 2 = 1 := by omega
    have hT := tmod2 ep h0
    have HT := Lib.hid (sltake_any (pickB a b ep) (by unfold pickB; split <;> assumption) w)
    have HEP := Lib.hid hep
    clear hep ha hb
    rcases hm2 with hm | hm
    all_goals
      rw [hm] at hT
      have hB : (if ep % 2 = 1 then b else a) = pickB a b ep := rfl
      rw [hm] at hB
      simp at hB
      have HB := Lib.hid hB
      clear hB
      have q0 := idx2_0
      have q1 := idx2_1
      go_enter Try.func14, Try.ntmps14
      go_wp2_with fail
      refine HM.out.mono ?_
      rintro e w1 ⟨rfl, rfl⟩
      go_wp2_with fail
      rw [HB.out]
      refine HT.out.mono ?_
      rintro e w2 ⟨rfl, hb2⟩
      have H2 := Lib.hid hb2
      clear hb2
      by_cases hx : slotX (pickB a b ep) = 0
      · by_cases hn : slotXN (pickB a b ep) = ep
        · have HV := Lib.hid (pick_yes HEP.out hx hn)
          have hnb : (slotXN (pickB a b ep) != ep) = false := by rw [hn]; simp
          rw [hx]
          clear hx hn
          go_wp2
          exact HR.out _ _ ⟨by rw [HV.out.1, HV.out.2] <;> rfl, H2.out⟩
        · have HV := Lib.hid (pick_other HEP.out hx hn)
          have hnb : (slotXN (pickB a b ep) != ep) = true := by rw [bne_iff_ne]; exact hn
          rw [hx]
          clear hx hn
          go_wp2
          exact HR.out _ _ ⟨by rw [HV.out.1, HV.out.2] <;> rfl, H2.out⟩
      · have HV := Lib.hid (pick_err HEP.out hx)
        have hxb : (slotX (pickB a b ep) != 0) = true := by rw [bne_iff_ne]; exact hx
        clear hx
        go_wp2
        exact HR.out _ _ ⟨by rw [HV.out.1, HV.out.2] <;> rfl, H2.out⟩
  · have HV := Lib.hid (pick_none (a := a) (b := b) hep)
    have hf : epOk ep = false := by simpa using hep
    rw [hf] at HM
    clear hf hep ha hb
    go_enter Try.func14, Try.ntmps14
    go_wp2_with fail
    refine HM.out.mono ?_
    rintro e w1 ⟨rfl, rfl⟩
    go_wp2
    exact HR.out _ _ ⟨by rw [HV.out.1, HV.out.2] <;> rfl, Below.refl _ _⟩
set_option maxRecDepth 100000 in
set_option maxHeartbeats 1000000 in
theorem rslpick_any (a b : ByteArray) (ep : Int) (w : World) : Calls Try.prog 15 #[.string a, .string b, .int .i64 ep] w fun e w' => e = .returned (.tuple #[.string (pickK a b ep), .int .i64 (pickE a b ep)]) ∧ Below w.heap.size w w' := by
  refine calls_by fun R HR => ?_
  have HM := Lib.hid (slright_any ep w)
  by_cases hep : epOk ep = true
  · rw [hep] at HM
    obtain ⟨h0, h1⟩ := ep_ok.1 hep
    have hm2 : ep % 2 = 0 ∨ ep % 2 = 1 := by omega
    have hT := tmod2 ep h0
    have HT := Lib.hid (rsltake_any (pickB a b ep) w)
    have HEP := Lib.hid hep
    clear hep
    rcases hm2 with hm | hm
    all_goals
      rw [hm] at hT
      have hB : (if ep % 2 = 1 then b else a) = pickB a b ep := rfl
      rw [hm] at hB
      simp at hB
      have HB := Lib.hid hB
      clear hB
      go_enter Try.func15, Try.ntmps15
      go_wp2_with fail
      refine HM.out.mono ?_
      rintro e w1 ⟨rfl, rfl⟩
      go_wp2_with fail
      rw [HB.out]
      refine HT.out.mono ?_
      rintro e w2 ⟨rfl, hb2⟩
      have H2 := Lib.hid hb2
      clear hb2
      by_cases hx : slotX (pickB a b ep) = 0
      · by_cases hn : slotXN (pickB a b ep) = ep
        · have HV := Lib.hid (pick_yes HEP.out hx hn)
          have hnb : (slotXN (pickB a b ep) != ep) = false := by rw [hn]; simp
          rw [hx]
          clear hx hn
          go_wp2
          exact HR.out _ _ ⟨by rw [HV.out.1, HV.out.2] <;> rfl, H2.out⟩
        · have HV := Lib.hid (pick_other HEP.out hx hn)
          have hnb : (slotXN (pickB a b ep) != ep) = true := by rw [bne_iff_ne]; exact hn
          rw [hx]
          clear hx hn
          go_wp2
          exact HR.out _ _ ⟨by rw [HV.out.1, HV.out.2] <;> rfl, H2.out⟩
      · have HV := Lib.hid (pick_err HEP.out hx)
        have hxb : (slotX (pickB a b ep) == 0) = false := by rw [beq_eq_false_iff_ne]; exact hx
        have hk : slotXK (pickB a b ep) = ⟨#[]⟩ := by rw [slotXK, if_neg hx]
        rw [hk]
        clear hx hk
        go_wp2
        exact HR.out _ _ ⟨by rw [HV.out.1, HV.out.2] <;> rfl, H2.out⟩
  · have HV := Lib.hid (pick_none (a := a) (b := b) hep)
    have hf : epOk ep = false := by simpa using hep
    rw [hf] at HM
    clear hf hep
    go_enter Try.func15, Try.ntmps15
    go_wp2_with fail
    refine HM.out.mono ?_
    rintro e w1 ⟨rfl, rfl⟩
    go_wp2
    exact HR.out _ _ ⟨by rw [HV.out.1, HV.out.2] <;> rfl, Below.refl _ _⟩
end Go.Proofs.Ytedjngljblhmpaa
