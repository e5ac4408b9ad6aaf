/- The law SlotsBoth: what its walk gives. -/
import Derived.Test.YtedjngljblhmpaaLaw11a
namespace Ks
open Go Go.RowKit
set_option linter.unusedVariables false
theorem set_two0 {w : World} {b : Nat} {x y : Value} {t : TypeId} (h : w.heap[b]? = some (.cells #[x, y] t (0, 0))) (v : Value) : (w.setCell ⟨b, 0, none⟩ v).heap[b]? = some (.cells #[v, y] t (0, 0)) := by
  simp [World.setCell, Array.getElem?_modify, h]
theorem set_two1 {w : World} {b : Nat} {x y : Value} {t : TypeId} (h : w.heap[b]? = some (.cells #[x, y] t (0, 0))) (v : Value) : (w.setCell ⟨b, 1, none⟩ v).heap[b]? = some (.cells #[x, v] t (0, 0)) := by
  simp [World.setCell, Array.getElem?_modify, h]
theorem slot_ne_zeros (n : Int) (k : ByteArray) (hok : slotOk n k = true) : slotS n k ≠ zerosS 4096 := slot_nz n k hok
end Ks
namespace Go.Proofs.Ytedjngljblhmpaa
open Go.RowKit Ks
set_option linter.unusedVariables false
set_option maxRecDepth 100000 in
set_option maxHeartbeats 4000000 in
theorem law_slboth (ep : Int) (k next : ByteArray) (w : World) : Calls Try.prog 6 #[.int .i64 ep, .string k, .string next] w fun e w' => e = .returned (.bool true) ∧ Below w.heap.size w w' := by
  refine calls_by fun R HR => ?_
  have HA := Lib.hid (fun w => alive_any w)
  by_cases h1 : ep < 0
  · go_enter Try.func6, Try.ntmps6
    go_wp2_with fail
    refine (HA.out _).mono ?_
    rintro e w1 ⟨rfl, hb1⟩
    go_wp2
    exact HR.out _ _ ⟨rfl, hb1⟩
  by_cases h2 : 4294967295 ≤ ep
  · go_enter Try.func6, Try.ntmps6
    go_wp2_with fail
    refine (HA.out _).mono ?_
    rintro e w1 ⟨rfl, hb1⟩
    go_wp2
    exact HR.out _ _ ⟨rfl, hb1⟩
  by_cases h3 : ¬ k.size = 32
  · have hb : ((k.size : Int) != 32) = true := by rw [bne_iff_ne]; omega
    clear h3
    go_enter Try.func6, Try.ntmps6
    go_wp2_with fail
    refine (HA.out _).mono ?_
    rintro e w1 ⟨rfl, hb1⟩
    go_wp2
    exact HR.out _ _ ⟨rfl, hb1⟩
  have h3 : k.size = 32 := Decidable.not_not.1 h3
  by_cases h4 : ¬ next.size = 32
  · have hb : ((k.size : Int) != 32) = false := by rw [h3]; rfl
    have hb2 : ((next.size : Int) != 32) = true := by rw [bne_iff_ne]; omega
    clear h3 h4
    go_enter Try.func6, Try.ntmps6
    go_wp2_with fail
    refine (HA.out _).mono ?_
    rintro e w1 ⟨rfl, hb1⟩
    go_wp2
    exact HR.out _ _ ⟨rfl, hb1⟩
  have h4 : next.size = 32 := Decidable.not_not.1 h4
  have hkb : ((k.size : Int) != 32) = false := by rw [h3]; rfl
  have hnb : ((next.size : Int) != 32) = false := by rw [h4]; rfl
  have ok1 : slotOk ep k = true := slot_ok.2 ⟨by omega, by omega, h3⟩
  have ok2 : slotOk (ep + 1) next = true := slot_ok.2 ⟨by omega, by omega, h4⟩
  have e1 : epOk ep = true := ep_ok.2 ⟨by omega, by omega⟩
  have e2 : epOk (ep + 1) = true := ep_ok.2 ⟨by omega, by omega⟩
  have nz1 := slot_nz ep k ok1
  have nz2 := slot_nz (ep + 1) next ok2
  have hXs : (slotS ep k).size ≤ 9223372036854775807 := by rw [slot_size _ _ ok1]; decide
  have hYs : (slotS (ep + 1) next).size ≤ 9223372036854775807 := by rw [slot_size _ _ ok2]; decide
  have hZs : (zerosS 4096).size ≤ 9223372036854775807 := by show (zerosS ((4096 : Nat) : Int)).size ≤ _; rw [zerosS_size]; decide
  have HE := Lib.hid (fun w => slempty_any w)
  have HP := Lib.hid (fun w => slput_any ep k w (by omega))
  rw [show slotE ep k = 0 by rw [slotE, if_pos ok1]] at HP
  obtain ⟨X, hX⟩ : ∃ X, slotS ep k = X := ⟨_, rfl⟩
  obtain ⟨Y, hY⟩ : ∃ Y, slotS (ep + 1) next = Y := ⟨_, rfl⟩
  obtain ⟨Z, hZ⟩ : ∃ Z, zerosS 4096 = Z := ⟨_, rfl⟩
  have hm2 : ep % 2 = 0 ∨ ep % 2 = 1 := by omega
  have hT := tmod2 ep (by omega)
  rcases hm2 with hm | hm
  · -- even: the first block has the key, the second one the next
    have hm' : (ep + 1) % 2 = 1 := by omega
    have pe := pick_slot X Z ep k ok1 ep rfl (by unfold pickB; rw [hm, hX]; rfl)
    have ev := ev_even (b := Z) (k := next) pe.1 (by omega) ok2 hm
    have p1 := pick_slot X Y ep k ok1 ep rfl (by unfold pickB; rw [hm, hX]; rfl)
    have p2 := pick_slot X Y (ep + 1) next ok2 (ep + 1) rfl (by unfold pickB; rw [hm', hY]; rfl)
    have p3 := pick_zeros Z Y ep e1 (by unfold pickB; rw [hm, hZ]; rfl)
    have p4 := pick_slot Z Y (ep + 1) next ok2 (ep + 1) rfl (by unfold pickB; rw [hm', hY]; rfl)
    have s1 : staleL X Y (ep + 1) = [0] := by rw [staleL, if_pos e2, if_pos hm', if_neg (by rw [← hX]; exact nz1)]
    have s2 : staleL Z Y (ep + 1) = [] := by rw [staleL, if_pos e2, if_pos hm', if_pos hZ.symm]
    rw [hX] at hXs HP
    rw [hY] at hYs
    rw [hZ] at hZs HE
    have HV := Lib.hid (fun w => slevolve_any X Z ep next hXs hZs w)
    rw [ev.1, ev.2.1, ev.2.2, hY] at HV
    have K1 := Lib.hid (fun w => slpick_any X Y ep hXs hYs w)
    rw [p1.1, p1.2] at K1
    have K2 := Lib.hid (fun w => slpick_any X Y (ep + 1) hXs hYs w)
    rw [p2.1, p2.2] at K2
    have K3 := Lib.hid (fun w => slpick_any Z Y ep hZs hYs w)
    rw [p3.1, p3.2] at K3
    have K4 := Lib.hid (fun w => slpick_any Z Y (ep + 1) hZs hYs w)
    rw [p4.1, p4.2] at K4
    have S1 := Lib.hid (fun w => slstale_any X Y (ep + 1) w)
    rw [s1] at S1
    have S2 := Lib.hid (fun w => slstale_any Z Y (ep + 1) w)
    rw [s2] at S2
    rw [hm] at hT
    clear pe ev p1 p2 p3 p4 s1 s2 hXs hYs hZs hX hY hZ nz1 nz2 ok1 ok2 e1 e2 hm hm' h3 h4
    go_enter Try.func6, Try.ntmps6
    go_wp2_with fail
    refine (HE.out _).mono ?_
    rintro e w1 ⟨rfl, hb1⟩
    have H1 := Lib.hid hb1
    clear hb1
    go_wp2_with fail
    refine (HE.out _).mono ?_
    rintro e w2 ⟨rfl, hb2⟩
    have H2 := Lib.hid (H1.out.trans (hb2.mono H1.out.size))
    clear hb2
    go_wp2_with fail
    refine (HP.out _).mono ?_
    rintro e w3 ⟨rfl, hb3⟩
    have H3 := Lib.hid (And.intro (H2.out.trans (((alloc_below w2 _).trans (hb3.mono (by simp))).mono H2.out.size)) (blk_below hb3 (alloc_new w2 _)))
    clear hb3
    obtain ⟨c0, c1, f0, f1⟩ := blk2 H3.out.2
    go_wp2_with fail
    refine (HV.out _).mono ?_
    rintro e w4 ⟨rfl, hb4⟩
    have H4 := Lib.hid ((H3.out.1.setCell H2.out.size _).trans (hb4.mono (by simp; exact H3.out.1.size)))
    clear hb4 c0 c1 f0 f1
    go_wp2_with fail
    refine (K1.out _).mono ?_
    rintro e w5 ⟨rfl, hb5⟩
    have H5 := Lib.hid (H4.out.trans (hb5.mono H4.out.size))
    clear hb5
    go_wp2_with fail
    refine (K2.out _).mono ?_
    rintro e w6 ⟨rfl, hb6⟩
    have H6 := Lib.hid (H5.out.trans (hb6.mono H5.out.size))
    clear hb6
    go_wp2_with fail
    refine (S1.out _).mono ?_
    rintro e w7 ⟨v7, rfl, hr7, hb7⟩
    have H7 := Lib.hid (And.intro (H6.out.trans (((alloc_below w6 _).trans (hb7.mono (by simp))).mono H6.out.size)) (And.intro (blk_below hb7 (alloc_new w6 _)) H6.out.size))
    clear hb7
    obtain ⟨sa, sc, e7, -⟩ := id hr7
    subst e7
    obtain ⟨sb, so, e8, -, d0⟩ := hr7.cell 0 (by decide)
    subst e8
    clear hr7
    simp only [List.length_singleton, Nat.add_zero, List.getElem_cons_zero] at d0 ⊢
    go_wp2_with fail
    refine (HE.out _).mono ?_
    rintro e w8 ⟨rfl, hb8⟩
    have H8 := Lib.hid (And.intro (H7.out.1.trans (hb8.mono H7.out.1.size)) (blk_below hb8 H7.out.2.1))
    clear hb8 d0
    obtain ⟨c0, c1, f0, f1⟩ := blk2 H8.out.2
    go_wp2_with fail
    refine (K3.out _).mono ?_
    rintro e w9 ⟨rfl, hb9⟩
    have hs8 := H8.out.1.setCell (p := ⟨w6.heap.size, 0, none⟩) H7.out.2.2 (.string Z)
    have H9 := Lib.hid (And.intro (hs8.trans (hb9.mono hs8.size)) (blk_below hb9 (set_two0 H8.out.2 (.string Z))))
    clear hb9 hs8 c0 c1 f0 f1
    obtain ⟨c0, c1, f0, f1⟩ := blk2 H9.out.2
    go_wp2_with fail
    refine (K4.out _).mono ?_
    rintro e w10 ⟨rfl, hb10⟩
    have H10 := Lib.hid (And.intro (H9.out.1.trans (hb10.mono H9.out.1.size)) (blk_below hb10 H9.out.2))
    clear hb10 c0 c1 f0 f1
    obtain ⟨c0, c1, f0, f1⟩ := blk2 H10.out.2
    go_wp2_with fail
    refine (S2.out _).mono ?_
    rintro e w11 ⟨v11, rfl, hr11, hb11⟩
    have H11 := Lib.hid (H10.out.1.trans (hb11.mono H10.out.1.size))
    obtain ⟨ta, tc, e11, -⟩ := hr11
    subst e11
    clear hb11
    simp only [List.length_nil]
    go_wp2_with fail
    refine (HA.out _).mono ?_
    rintro e w12 ⟨rfl, hb12⟩
    have H12 := Lib.hid (H11.out.trans (hb12.mono H11.out.size))
    clear hb12
    go_wp2
    exact HR.out _ _ ⟨rfl, H12.out⟩
  · -- odd: the second block has the key, the first one the next
    have hm' : (ep + 1) % 2 = 0 := by omega
    have pe := pick_slot Z X ep k ok1 ep rfl (by unfold pickB; rw [hm, hX]; rfl)
    have ev := ev_odd (a := Z) (k := next) pe.1 (by omega) ok2 hm
    have p1 := pick_slot Y X ep k ok1 ep rfl (by unfold pickB; rw [hm, hX]; rfl)
    have p2 := pick_slot Y X (ep + 1) next ok2 (ep + 1) rfl (by unfold pickB; rw [hm', hY]; rfl)
    have p3 := pick_zeros Y Z ep e1 (by unfold pickB; rw [hm, hZ]; rfl)
    have p4 := pick_slot Y Z (ep + 1) next ok2 (ep + 1) rfl (by unfold pickB; rw [hm', hY]; rfl)
    have s1 : staleL Y X (ep + 1) = [1] := by rw [staleL, if_pos e2, if_neg (by rw [hm']; decide), if_neg (by rw [← hX]; exact nz1)]
    have s2 : staleL Y Z (ep + 1) = [] := by rw [staleL, if_pos e2, if_neg (by rw [hm']; decide), if_pos hZ.symm]
    rw [hX] at hXs HP
    rw [hY] at hYs
    rw [hZ] at hZs HE
    have HV := Lib.hid (fun w => slevolve_any Z X ep next hZs hXs w)
    rw [ev.1, ev.2.1, ev.2.2, hY] at HV
    have K1 := Lib.hid (fun w => slpick_any Y X ep hYs hXs w)
    rw [p1.1, p1.2] at K1
    have K2 := Lib.hid (fun w => slpick_any Y X (ep + 1) hYs hXs w)
    rw [p2.1, p2.2] at K2
    have K3 := Lib.hid (fun w => slpick_any Y Z ep hYs hZs w)
    rw [p3.1, p3.2] at K3
    have K4 := Lib.hid (fun w => slpick_any Y Z (ep + 1) hYs hZs w)
    rw [p4.1, p4.2] at K4
    have S1 := Lib.hid (fun w => slstale_any Y X (ep + 1) w)
    rw [s1] at S1
    have S2 := Lib.hid (fun w => slstale_any Y Z (ep + 1) w)
    rw [s2] at S2
    rw [hm] at hT
    clear pe ev p1 p2 p3 p4 s1 s2 hXs hYs hZs hX hY hZ nz1 nz2 ok1 ok2 e1 e2 hm hm' h3 h4
    go_enter Try.func6, Try.ntmps6
    go_wp2_with fail
    refine (HE.out _).mono ?_
    rintro e w1 ⟨rfl, hb1⟩
    have H1 := Lib.hid hb1
    clear hb1
    go_wp2_with fail
    refine (HE.out _).mono ?_
    rintro e w2 ⟨rfl, hb2⟩
    have H2 := Lib.hid (H1.out.trans (hb2.mono H1.out.size))
    clear hb2
    go_wp2_with fail
    refine (HP.out _).mono ?_
    rintro e w3 ⟨rfl, hb3⟩
    have H3 := Lib.hid (And.intro (H2.out.trans (((alloc_below w2 _).trans (hb3.mono (by simp))).mono H2.out.size)) (blk_below hb3 (alloc_new w2 _)))
    clear hb3
    obtain ⟨c0, c1, f0, f1⟩ := blk2 H3.out.2
    go_wp2_with fail
    refine (HV.out _).mono ?_
    rintro e w4 ⟨rfl, hb4⟩
    have H4 := Lib.hid ((H3.out.1.setCell H2.out.size _).trans (hb4.mono (by simp; exact H3.out.1.size)))
    clear hb4 c0 c1 f0 f1
    go_wp2_with fail
    refine (K1.out _).mono ?_
    rintro e w5 ⟨rfl, hb5⟩
    have H5 := Lib.hid (H4.out.trans (hb5.mono H4.out.size))
    clear hb5
    go_wp2_with fail
    refine (K2.out _).mono ?_
    rintro e w6 ⟨rfl, hb6⟩
    have H6 := Lib.hid (H5.out.trans (hb6.mono H5.out.size))
    clear hb6
    go_wp2_with fail
    refine (S1.out _).mono ?_
    rintro e w7 ⟨v7, rfl, hr7, hb7⟩
    have H7 := Lib.hid (And.intro (H6.out.trans (((alloc_below w6 _).trans (hb7.mono (by simp))).mono H6.out.size)) (And.intro (blk_below hb7 (alloc_new w6 _)) H6.out.size))
    clear hb7
    obtain ⟨sa, sc, e7, -⟩ := id hr7
    subst e7
    obtain ⟨sb, so, e8, -, d0⟩ := hr7.cell 0 (by decide)
    subst e8
    clear hr7
    simp only [List.length_singleton, Nat.add_zero, List.getElem_cons_zero] at d0 ⊢
    go_wp2_with fail
    refine (HE.out _).mono ?_
    rintro e w8 ⟨rfl, hb8⟩
    have H8 := Lib.hid (And.intro (H7.out.1.trans (hb8.mono H7.out.1.size)) (blk_below hb8 H7.out.2.1))
    clear hb8 d0
    obtain ⟨c0, c1, f0, f1⟩ := blk2 H8.out.2
    go_wp2_with fail
    refine (K3.out _).mono ?_
    rintro e w9 ⟨rfl, hb9⟩
    have hs8 := H8.out.1.setCell (p := ⟨w6.heap.size, 1, none⟩) H7.out.2.2 (.string Z)
    have H9 := Lib.hid (And.intro (hs8.trans (hb9.mono hs8.size)) (blk_below hb9 (set_two1 H8.out.2 (.string Z))))
    clear hb9 hs8 c0 c1 f0 f1
    obtain ⟨c0, c1, f0, f1⟩ := blk2 H9.out.2
    go_wp2_with fail
    refine (K4.out _).mono ?_
    rintro e w10 ⟨rfl, hb10⟩
    have H10 := Lib.hid (And.intro (H9.out.1.trans (hb10.mono H9.out.1.size)) (blk_below hb10 H9.out.2))
    clear hb10 c0 c1 f0 f1
    obtain ⟨c0, c1, f0, f1⟩ := blk2 H10.out.2
    go_wp2_with fail
    refine (S2.out _).mono ?_
    rintro e w11 ⟨v11, rfl, hr11, hb11⟩
    have H11 := Lib.hid (H10.out.1.trans (hb11.mono H10.out.1.size))
    obtain ⟨ta, tc, e11, -⟩ := hr11
    subst e11
    clear hb11
    simp only [List.length_nil]
    go_wp2_with fail
    refine (HA.out _).mono ?_
    rintro e w12 ⟨rfl, hb12⟩
    have H12 := Lib.hid (H11.out.trans (hb12.mono H11.out.size))
    clear hb12
    go_wp2
    exact HR.out _ _ ⟨rfl, H12.out⟩
end Go.Proofs.Ytedjngljblhmpaa
