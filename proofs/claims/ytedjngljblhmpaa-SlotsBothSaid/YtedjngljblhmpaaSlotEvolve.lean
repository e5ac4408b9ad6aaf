/- What both blocks become: slots.Evolve and the reference's. -/
import Derived.Test.YtedjngljblhmpaaSlotPick
namespace Ks
open Go Go.RowKit
set_option linter.unusedVariables false
theorem ev_err {a b k : ByteArray} {ep : Int} (h : pickE a b ep ≠ 0) : evE a b ep k = pickE a b ep ∧ evA a b ep k = ⟨#[]⟩ ∧ evB a b ep k = ⟨#[]⟩ := by
  have e : evE a b ep k = pickE a b ep := by rw [evE, if_neg h]
  exact ⟨e, by rw [evA, if_neg (by rw [e]; exact h)], by rw [evB, if_neg (by rw [e]; exact h)]⟩
theorem ev_last {a b k : ByteArray} {ep : Int} (h : pickE a b ep = 0) (h2 : ep = 4294967295) : evE a b ep k = 6 ∧ evA a b ep k = ⟨#[]⟩ ∧ evB a b ep k = ⟨#[]⟩ := by
  have e : evE a b ep k = 6 := by rw [evE, if_pos h, if_pos h2]
  exact ⟨e, by rw [evA, if_neg (by rw [e]; decide)], by rw [evB, if_neg (by rw [e]; decide)]⟩
theorem ev_no {a b k : ByteArray} {ep : Int} (h : pickE a b ep = 0) (h2 : ep ≠ 4294967295) (h3 : ¬ slotOk (ep + 1) k = true) : evE a b ep k = 2 ∧ evA a b ep k = ⟨#[]⟩ ∧ evB a b ep k = ⟨#[]⟩ := by
  have e : evE a b ep k = 2 := by rw [evE, if_pos h, if_neg h2, slotE, if_neg h3]
  exact ⟨e, by rw [evA, if_neg (by rw [e]; decide)], by rw [evB, if_neg (by rw [e]; decide)]⟩
theorem ev_odd {a b k : ByteArray} {ep : Int} (h : pickE a b ep = 0) (h2 : ep ≠ 4294967295) (h3 : slotOk (ep + 1) k = true) (h4 : ep % 2 = 1) : evE a b ep k = 0 ∧ evA a b ep k = slotS (ep + 1) k ∧ evB a b ep k = b := by
  have e : evE a b ep k = 0 := by rw [evE, if_pos h, if_neg h2, slotE, if_pos h3]
  exact ⟨e, by rw [evA, if_pos e, if_pos h4], by rw [evB, if_pos e, if_pos h4]⟩
theorem ev_even {a b k : ByteArray} {ep : Int} (h : pickE a b ep = 0) (h2 : ep ≠ 4294967295) (h3 : slotOk (ep + 1) k = true) (h4 : ep % 2 = 0) : evE a b ep k = 0 ∧ evA a b ep k = a ∧ evB a b ep k = slotS (ep + 1) k := by
  have e : evE a b ep k = 0 := by rw [evE, if_pos h, if_neg h2, slotE, if_pos h3]
  exact ⟨e, by rw [evA, if_pos e, if_neg (by rw [h4]; decide)], by rw [evB, if_pos e, if_neg (by rw [h4]; decide)]⟩
theorem pick_ep {a b : ByteArray} {ep : Int} (h : pickE a b ep = 0) : 0 ≤ ep ∧ ep ≤ 4294967295 := by
  by_cases h1 : epOk ep = true
  · exact ep_ok.1 h1
  · rw [(pick_none (a := a) (b := b) h1).1] at h; exact absurd h (by decide)
end Ks
namespace Go.Proofs.Ytedjngljblhmpaa
open Go.RowKit Ks
set_option linter.unusedVariables false
set_option maxRecDepth 100000 in
set_option maxHeartbeats 1000000 in
theorem slevolve_any (a b : ByteArray) (ep : Int) (k : ByteArray) (ha : a.size ≤ 9223372036854775807) (hb : b.size ≤ 9223372036854775807) (w : World) :
    Calls Try.prog 19 #[.string a, .string b, .int .i64 ep, .string k] w fun e w' => e = .returned (.tuple #[.string (evA a b ep k), .string (evB a b ep k), .int .i64 (evE a b ep k)]) ∧ Below w.heap.size w w' := by
  refine calls_by fun R HR => ?_
  have HP := Lib.hid (slpick_any a b ep ha hb w)
  clear ha hb
  by_cases hp : pickE a b ep = 0
  · obtain ⟨h0, h1⟩ := pick_ep hp
    rw [hp] at HP
    by_cases hl : ep = 4294967295
    · have HV := Lib.hid (ev_last (k := k) hp hl)
      have hlb : (ep == 4294967295) = true := by rw [beq_iff_eq]; exact hl
      clear hp hl h0 h1
      go_enter Try.func19, Try.ntmps19
      go_wp2_with fail
      refine HP.out.mono ?_
      rintro e w1 ⟨rfl, hb1⟩
      have H1 := Lib.hid hb1
      clear hb1
      go_wp2
      go_ret3
      exact HR.out _ _ ⟨by rw [HV.out.1, HV.out.2.1, HV.out.2.2] <;> rfl, H1.out⟩
    · have hlb : (ep == 4294967295) = false := by rw [beq_eq_false_iff_ne]; exact hl
      have HPT := Lib.hid (fun w => slput_any (ep + 1) k w (by omega))
      by_cases hok : slotOk (ep + 1) k = true
      · have hE : slotE (ep + 1) k = 0 := by rw [slotE, if_pos hok]
        have hm2 : ep % 2 = 0 ∨ ep % 2 = 1 := by omega
        have hT := tmod2 (ep + 1) (by omega)
        rw [hE] at HPT
        clear hE
        rcases hm2 with hm | hm
        · have HV := Lib.hid (ev_even hp hl hok hm)
          rw [show (ep + 1) % 2 = 1 by omega] at hT
          clear hp hl hok hm
          go_enter Try.func19, Try.ntmps19
          go_wp2_with fail
          refine HP.out.mono ?_
          rintro e w1 ⟨rfl, hb1⟩
          have H1 := Lib.hid hb1
          clear hb1
          go_wp2_with fail
          refine (HPT.out _).mono ?_
          rintro e w2 ⟨rfl, hb2⟩
          have H2 := Lib.hid (H1.out.trans (hb2.mono H1.out.size))
          clear hb2
          obtain ⟨X, hX⟩ : ∃ X, slotS (ep + 1) k = X := ⟨_, rfl⟩
          rw [hX]
          have HX := Lib.hid hX
          clear hX
          go_wp2_with fail
          go_quiet (fail)
          go_wp2
          go_ret3
          exact HR.out _ _ ⟨by rw [HV.out.1, HV.out.2.1, HV.out.2.2, HX.out] <;> rfl, H2.out.trans (((alloc_below w2 _).trans ((drewN_below _ _).mono (by simp))).mono H2.out.size)⟩
        · have HV := Lib.hid (ev_odd hp hl hok hm)
          rw [show (ep + 1) % 2 = 0 by omega] at hT
          clear hp hl hok hm
          go_enter Try.func19, Try.ntmps19
          go_wp2_with fail
          refine HP.out.mono ?_
          rintro e w1 ⟨rfl, hb1⟩
          have H1 := Lib.hid hb1
          clear hb1
          go_wp2_with fail
          refine (HPT.out _).mono ?_
          rintro e w2 ⟨rfl, hb2⟩
          have H2 := Lib.hid (H1.out.trans (hb2.mono H1.out.size))
          clear hb2
          obtain ⟨X, hX⟩ : ∃ X, slotS (ep + 1) k = X := ⟨_, rfl⟩
          rw [hX]
          have HX := Lib.hid hX
          clear hX
          go_wp2_with fail
          go_quiet (fail)
          go_wp2
          go_ret3
          exact HR.out _ _ ⟨by rw [HV.out.1, HV.out.2.1, HV.out.2.2, HX.out] <;> rfl, H2.out.trans (((alloc_below w2 _).trans ((drewN_below _ _).mono (by simp))).mono H2.out.size)⟩
      · have hE : slotE (ep + 1) k = 2 := by rw [slotE, if_neg hok]
        rw [hE] at HPT
        have HV := Lib.hid (ev_no hp hl hok)
        clear hp hl hok hE
        go_enter Try.func19, Try.ntmps19
        go_wp2_with fail
        refine HP.out.mono ?_
        rintro e w1 ⟨rfl, hb1⟩
        have H1 := Lib.hid hb1
        clear hb1
        go_wp2_with fail
        refine (HPT.out _).mono ?_
        rintro e w2 ⟨rfl, hb2⟩
        have H2 := Lib.hid (H1.out.trans (hb2.mono H1.out.size))
        clear hb2
        go_wp2
        go_ret3
        exact HR.out _ _ ⟨by rw [HV.out.1, HV.out.2.1, HV.out.2.2] <;> rfl, H2.out⟩
  · have HV := Lib.hid (ev_err (k := k) hp)
    have hpb : (pickE a b ep != 0) = true := by rw [bne_iff_ne]; exact hp
    clear hp
    go_enter Try.func19, Try.ntmps19
    go_wp2_with fail
    refine HP.out.mono ?_
    rintro e w1 ⟨rfl, hb1⟩
    have H1 := Lib.hid hb1
    clear hb1
    go_wp2
    go_ret3
    exact HR.out _ _ ⟨by rw [HV.out.1, HV.out.2.1, HV.out.2.2] <;> rfl, H1.out⟩

set_option maxRecDepth 100000 in
set_option maxHeartbeats 1000000 in
theorem rslevolve_any (a b : ByteArray) (ep : Int) (k : ByteArray) (w : World) :
    Calls Try.prog 20 #[.string a, .string b, .int .i64 ep, .string k] w fun e w' => e = .returned (.tuple #[.string (evA a b ep k), .string (evB a b ep k), .int .i64 (evE a b ep k)]) ∧ Below w.heap.size w w' := by
  refine calls_by fun R HR => ?_
  have HP := Lib.hid (rslpick_any a b ep w)
  by_cases hp : pickE a b ep = 0
  · obtain ⟨h0, h1⟩ := pick_ep hp
    rw [hp] at HP
    by_cases hl : ep = 4294967295
    · have HV := Lib.hid (ev_last (k := k) hp hl)
      have hlb : (ep == 4294967295) = true := by rw [beq_iff_eq]; exact hl
      clear hp hl h0 h1
      go_enter Try.func20, Try.ntmps20
      go_wp2_with fail
      refine HP.out.mono ?_
      rintro e w1 ⟨rfl, hb1⟩
      have H1 := Lib.hid hb1
      clear hb1
      go_wp2
      go_ret3
      exact HR.out _ _ ⟨by rw [HV.out.1, HV.out.2.1, HV.out.2.2] <;> rfl, H1.out⟩
    · have hlb : (ep == 4294967295) = false := by rw [beq_eq_false_iff_ne]; exact hl
      have HPT := Lib.hid (fun w => rslput_any (ep + 1) k w (by omega))
      by_cases hok : slotOk (ep + 1) k = true
      · have hm2 : ep % 2 = 0 ∨ ep % 2 = 1 := by omega
        have hT := tmod2 ep h0
        rw [hok] at HPT
        rcases hm2 with hm | hm
        · have HV := Lib.hid (ev_even hp hl hok hm)
          rw [hm] at hT
          clear hp hl hok hm
          go_enter Try.func20, Try.ntmps20
          go_wp2_with fail
          refine HP.out.mono ?_
          rintro e w1 ⟨rfl, hb1⟩
          have H1 := Lib.hid hb1
          clear hb1
          go_wp2_with fail
          refine (HPT.out _).mono ?_
          rintro e w2 ⟨rfl, hb2⟩
          have H2 := Lib.hid (H1.out.trans (hb2.mono H1.out.size))
          clear hb2
          obtain ⟨X, hX⟩ : ∃ X, slotS (ep + 1) k = X := ⟨_, rfl⟩
          rw [hX]
          have HX := Lib.hid hX
          clear hX
          go_wp2
          go_ret3
          exact HR.out _ _ ⟨by rw [HV.out.1, HV.out.2.1, HV.out.2.2, HX.out] <;> rfl, H2.out⟩
        · have HV := Lib.hid (ev_odd hp hl hok hm)
          rw [hm] at hT
          clear hp hl hok hm
          go_enter Try.func20, Try.ntmps20
          go_wp2_with fail
          refine HP.out.mono ?_
          rintro e w1 ⟨rfl, hb1⟩
          have H1 := Lib.hid hb1
          clear hb1
          go_wp2_with fail
          refine (HPT.out _).mono ?_
          rintro e w2 ⟨rfl, hb2⟩
          have H2 := Lib.hid (H1.out.trans (hb2.mono H1.out.size))
          clear hb2
          obtain ⟨X, hX⟩ : ∃ X, slotS (ep + 1) k = X := ⟨_, rfl⟩
          rw [hX]
          have HX := Lib.hid hX
          clear hX
          go_wp2
          go_ret3
          exact HR.out _ _ ⟨by rw [HV.out.1, HV.out.2.1, HV.out.2.2, HX.out] <;> rfl, H2.out⟩
      · have HV := Lib.hid (ev_no hp hl hok)
        have hf : slotOk (ep + 1) k = false := by simpa using hok
        rw [hf] at HPT
        clear hp hl hok hf
        go_enter Try.func20, Try.ntmps20
        go_wp2_with fail
        refine HP.out.mono ?_
        rintro e w1 ⟨rfl, hb1⟩
        have H1 := Lib.hid hb1
        clear hb1
        go_wp2_with fail
        refine (HPT.out _).mono ?_
        rintro e w2 ⟨rfl, hb2⟩
        have H2 := Lib.hid (H1.out.trans (hb2.mono H1.out.size))
        clear hb2
        go_wp2
        go_ret3
        exact HR.out _ _ ⟨by rw [HV.out.1, HV.out.2.1, HV.out.2.2] <;> rfl, H2.out⟩
  · have HV := Lib.hid (ev_err (k := k) hp)
    have hpb : (pickE a b ep != 0) = true := by rw [bne_iff_ne]; exact hp
    clear hp
    go_enter Try.func20, Try.ntmps20
    go_wp2_with fail
    refine HP.out.mono ?_
    rintro e w1 ⟨rfl, hb1⟩
    have H1 := Lib.hid hb1
    clear hb1
    go_wp2
    go_ret3
    exact HR.out _ _ ⟨by rw [HV.out.1, HV.out.2.1, HV.out.2.2] <;> rfl, H1.out⟩
end Go.Proofs.Ytedjngljblhmpaa
