/- The law IndexPlays: what its walk gives. -/
import Derived.Test.YthhncdcmjejlmaaIdxLawP
namespace Ks
open Go Go.RowKit
set_option linter.unusedVariables false
structure PlayIdx (w wr : World) (TX TV : TypeId) (n : Nat) (v r : Value) (L L' : List Ver) : Prop where
  own : OwnIdx w wr TX TV n v L
  rd : Rd verE wr r L'
  apart : ∀ b, r.ownBlock = some b → L' ≠ [] → b ≠ n ∧ v.ownBlock ≠ some b
theorem PlayIdx.step {w wr wA w4 wx : World} {TX TV : TypeId} {n : Nat} {v r v' r' : Value} {L L' M M' : List Ver} (h : PlayIdx w wr TX TV n v r L L') (hA : Below wr.heap.size wr wA) (hb : Below wA.heap.size wA w4) (hr : Rd verE w4 r' M') (hor : (r' = r ∧ M' = L') ∨ ∀ b, r'.ownBlock = some b → wA.heap.size ≤ b)
    (hi : IdxAt wx TX TV n v' M) (hT : Turned w4 wx n v v') : PlayIdx w wx TX TV n v' r' M M' := by
  have hb4 := hA.trans (hb.mono hA.size)
  have hap : ∀ b, r'.ownBlock = some b → M' ≠ [] → b ≠ n ∧ v.ownBlock ≠ some b := fun b e hne => by
    rcases hor with ⟨rfl, rfl⟩ | ho
    · exact h.apart b e hne
    · have h1 := ho b e
      have h2 := h.own.at_.held.lt
      have h3 := hA.size
      exact ⟨by omega, fun e2 => by have := (h.own.at_.held.own.lt e2).2; omega⟩
  refine ⟨h.own.step hb4 hi hT, ?_, fun b e hne => ⟨(hap b e hne).1, fun e2 => ?_⟩⟩
  · by_cases hne : M' = []
    · subst hne; exact hr.empty _
    · exact hr.turned hT (fun e => (hap n e hne).1 rfl) fun b e => (hap b e hne).2
  · have hlt := hr.lt' hne e
    rcases hT.own with e3 | e3
    · exact (hap b e hne).2 (e3 ▸ e2)
    · have := e3 b e2; omega
theorem PlayIdx.keep {w wr wx : World} {TX TV : TypeId} {n : Nat} {v r : Value} {L L' : List Ver} (h : PlayIdx w wr TX TV n v r L L') (hb : Below wr.heap.size wr wx) : PlayIdx w wx TX TV n v r L L' :=
  ⟨h.own.keep hb, h.rd.below hb, h.apart⟩
end Ks
namespace Go.Proofs.Ythhncdcmjejlmaa
open Go.RowKit Ks
set_option linter.unusedVariables false
set_option linter.unusedSimpArgs false

set_option maxHeartbeats 8000000 in
set_option maxRecDepth 100000 in
theorem law_plays (lv : Value) (l : List Ver) (lba ep : Int) (w : World) (hl : Rd verE w lv l) :
    Calls Try.prog 5 #[lv, .int .i64 lba, .int .i64 ep] w fun e w' => e = .returned (.bool true) ∧ Below w.heap.size w w' := by
  refine calls_by fun R HR => ?_
  have hnr := nev_run
  have HL := Lib.hid hl
  obtain ⟨la, lcap, hv, hcap, -⟩ := hl.shape
  subst hv
  clear hl
  by_cases h100 : (100 : Int) < l.length
  · go_enter Try.func5, Try.ntmps5
    go_wp2_with fail
    refine (alive_any _).mono ?_
    rintro e w2 ⟨rfl, hb2⟩
    go_wp2
    exact HR.out _ _ ⟨rfl, hb2⟩
  · have hl2 : l.length ≤ 100 := by omega
    go_enter Try.func5, Try.ntmps5
    go_wp2_with fail
    refine (new_any _).mono ?_
    rintro e w1 ⟨rfl, hw1⟩
    have HO1 := Lib.hid (own_new (TV := 27) hw1)
    clear hw1
    go_wp2
    go_loopg [28, 8] l.length (fun g i r wr => ∃ (k : Nat) (v : Value), k + g = l.length ∧ i = .int .i64 k ∧ PlayIdx w wr 46 27 w.heap.size v r (ofL (l.take k)) (refL (l.take k)))
    case atStart => exact ⟨0, _, by omega, rfl, HO1.out, Rd.nil _, fun b e => by simp [Value.ownBlock] at e⟩
    case round =>
      obtain ⟨k, v, hk, rfl, hP⟩ := hrel
      by_cases hlt : k < l.length
      · obtain ⟨x, hx⟩ : ∃ x, l[k]? = some x := ⟨_, List.getElem?_eq_getElem hlt⟩
        obtain ⟨b, o, ha, hb', dd⟩ := (HL.out.below hP.own.below).at k x hx
        subst ha
        have HS := Lib.hid (And.intro (ofL_snoc l k x hx) (And.intro (refL_snoc l k x hx) (same_err (l.take k) x)))
        have hle := ofL_length (l.take k)
        have hle2 := refL_length (l.take k)
        rw [List.length_take] at hle hle2
        obtain ⟨x1, x2, x3⟩ := x
        have d0 : wr.cell? ⟨b, o + k * 3, none⟩ = some (.int .i64 x1) := dd 0 _ rfl
        have d1 : wr.cell? ⟨b, o + k * 3 + 1, none⟩ = some (.int .i64 x2) := dd 1 _ rfl
        have d2 : wr.cell? ⟨b, o + k * 3 + 2, none⟩ = some (.int .i64 x3) := dd 2 _ rfl
        obtain ⟨WA, hWA⟩ : ∃ WA, wr.alloc (.cells #[.int .i64 x1, .int .i64 x2, .int .i64 x3] 27) = WA := ⟨_, rfl⟩
        have hA : Below wr.heap.size wr WA := by rw [← hWA]; exact alloc_below wr _
        have kA : WA.heap[wr.heap.size]? = some (.cells #[.int .i64 x1, .int .i64 x2, .int .i64 x3] 27 (0, 0)) := by rw [← hWA]; exact alloc_new wr _
        have HP := Lib.hid (And.intro hP (And.intro hA kA))
        obtain ⟨a0, a1, a2, -, -, -⟩ := blk3 kA
        clear dd hx hP hA kA
        go_wp2_with fail
        refine (radd_any _ _ (x1, x2, x3) _ (HP.out.1.rd.below HP.out.2.1) (by omega)).mono ?_
        rintro e w4 ⟨r', rfl, hr', hor, hb4⟩
        have kA4 := (hb4.block _ (lt_of_block HP.out.2.2)).trans HP.out.2.2
        have HR4 := Lib.hid (And.intro hr' (And.intro hor hb4))
        rw [HS.out.2.2]
        obtain ⟨ra, rn, rc, hrs⟩ : ∃ a n c, r' = .slice a n c := by obtain ⟨a, c, e, _⟩ := hr'.shape; exact ⟨a, _, c, e⟩
        subst hrs
        clear a0 a1 a2 d0 d1 d2 hr' hor hb4
        obtain ⟨a0, a1, a2, -, -, -⟩ := blk3 kA4
        clear kA4
        obtain ⟨E, hE⟩ : ∃ E, addE (ofL (l.take k)) (x1, x2, x3) = E := ⟨_, rfl⟩
        rw [hE]
        have HE := Lib.hid hE
        clear hE hWA
        go_wp2_with fail
        refine (add_live w.heap.size v _ (x1, x2, x3) _ ((HP.out.1.own.at_.keep HP.out.2.1).keep HR4.out.2.2) (by omega)).mono ?_
        rintro e w5 ⟨v', rfl, hi, hT⟩
        rw [HE.out]
        have hee : (E != E) = false := by simp
        have hR4 := HR4.out.1
        rw [← HS.out.2.1] at hR4
        have hor := HR4.out.2.1
        rw [← HS.out.2.1] at hor
        rw [← HS.out.1] at hi
        have HN := Lib.hid (HP.out.1.step HP.out.2.1 HR4.out.2.2 hR4 hor hi hT)
        clear hi hT hR4 hor
        go_wp2
        go_roundg (gk - 1)
        case measure => omega
        case rel => exact ⟨k + 1, v', by omega, by go_num, HN.out⟩
      · obtain rfl : k = l.length := by omega
        rw [List.take_length] at hP
        have hlo := ofL_length l
        have hlr := refL_length l
        have HP := Lib.hid hP
        obtain ⟨ra, rn, rc, hrs⟩ : ∃ a n c, u8 = .slice a n c := by obtain ⟨a, c, e, _⟩ := hP.rd.shape; exact ⟨a, _, c, e⟩
        subst hrs
        clear hP HO1
        obtain ⟨O, hO⟩ : ∃ O, lastO (ofL l) lba ep = O := ⟨_, rfl⟩
        obtain ⟨OO, hOO⟩ : ∃ OO, ofO (ofL l) lba ep = OO := ⟨_, rfl⟩
        obtain ⟨⟨y1, y2, y3⟩, hy⟩ : ∃ y, getV O = y := ⟨_, rfl⟩
        obtain ⟨⟨z1, z2, z3⟩, hz⟩ : ∃ z, getV OO = z := ⟨_, rfl⟩
        obtain ⟨s, hs⟩ : ∃ s, O.isSome = s := ⟨_, rfl⟩
        obtain ⟨t, ht⟩ : ∃ t, OO.isSome = t := ⟨_, rfl⟩
        have HY := Lib.hid (show optV (lastO (ofL l) lba ep) = .tuple #[.agg #[.int .i64 y1, .int .i64 y2, .int .i64 y3], .bool s] by rw [hO, optV, hy, hs])
        have HZ := Lib.hid (show optV (ofO (ofL l) lba ep) = .tuple #[.agg #[.int .i64 z1, .int .i64 z2, .int .i64 z3], .bool t] by rw [hOO, optV, hz, ht])
        clear hO hOO hy hz hs ht
        go_wp2_with fail
        refine (newest_live w.heap.size v _ lba ep _ HP.out.own.at_ (by omega)).mono ?_
        rintro e w2 ⟨rfl, hb2⟩
        rw [HY.out]
        have k3 := alloc_new w2 (.cells #[.int .i64 y1, .int .i64 y2, .int .i64 y3] 27)
        have hb3 := hb2.trans ((alloc_below w2 (.cells #[.int .i64 y1, .int .i64 y2, .int .i64 y3] 27)).mono hb2.size)
        have HP3 := Lib.hid (HP.out.keep hb3)
        have K3 := Lib.hid k3
        clear k3 hb2 hb3
        go_wp2_with fail
        refine (rnewest_any _ _ lba 0 ep _ HP3.out.rd (by omega)).mono ?_
        rintro e w4 ⟨rfl, hb4⟩
        rw [newest_eq, HY.out]
        have hb5 := hb4.trans ((alloc_below w4 (.cells #[.int .i64 y1, .int .i64 y2, .int .i64 y3] 27)).mono hb4.size)
        have K5 := Lib.hid (And.intro ((hb5.block _ (lt_of_block K3.out)).trans K3.out) (alloc_new w4 (.cells #[.int .i64 y1, .int .i64 y2, .int .i64 y3] 27)))
        have HP5 := Lib.hid (HP3.out.keep hb5)
        clear hb4 hb5 K3
        go_wp2_with fail
        refine (of_live w.heap.size v _ lba ep _ HP5.out.own.at_ (by omega)).mono ?_
        rintro e w6 ⟨rfl, hb6⟩
        rw [HZ.out]
        have hb7 := hb6.trans ((alloc_below w6 (.cells #[.int .i64 z1, .int .i64 z2, .int .i64 z3] 27)).mono hb6.size)
        have K7 := Lib.hid (And.intro ((hb7.block _ (lt_of_block K5.out.1)).trans K5.out.1) (And.intro ((hb7.block _ (lt_of_block K5.out.2)).trans K5.out.2) (alloc_new w6 (.cells #[.int .i64 z1, .int .i64 z2, .int .i64 z3] 27))))
        have HP7 := Lib.hid (HP5.out.keep hb7)
        clear hb6 hb7 K5
        go_wp2_with fail
        refine (rnewest_any _ _ lba ep ep _ HP7.out.rd (by omega)).mono ?_
        rintro e w8 ⟨rfl, hb8⟩
        rw [of_eq, HZ.out]
        obtain ⟨W9, hW9⟩ : ∃ W9, w8.alloc (.cells #[.int .i64 z1, .int .i64 z2, .int .i64 z3] 27) = W9 := ⟨_, rfl⟩
        have hb89 : Below w8.heap.size w8 W9 := by rw [← hW9]; exact alloc_below w8 _
        have k9 : W9.heap[w8.heap.size]? = some (.cells #[.int .i64 z1, .int .i64 z2, .int .i64 z3] 27 (0, 0)) := by rw [← hW9]; exact alloc_new w8 _
        have hb9 := hb8.trans (hb89.mono hb8.size)
        have HP9 := Lib.hid (HP7.out.keep hb9)
        obtain ⟨a0, a1, a2, -, -, -⟩ := blk3 ((hb9.block _ (lt_of_block K7.out.1)).trans K7.out.1)
        obtain ⟨b0, b1, b2, -, -, -⟩ := blk3 ((hb9.block _ (lt_of_block K7.out.2.1)).trans K7.out.2.1)
        obtain ⟨c0, c1, c2, -, -, -⟩ := blk3 ((hb9.block _ (lt_of_block K7.out.2.2)).trans K7.out.2.2)
        obtain ⟨d0, d1, d2, -, -, -⟩ := blk3 k9
        have hey : eqV (y1, y2, y3) (y1, y2, y3) = true := by simp [eqV]
        have hez : eqV (z1, z2, z3) (z1, z2, z3) = true := by simp [eqV]
        have hss : (s != s) = false := by simp
        have htt : (t != t) = false := by simp
        clear hb8 hb89 k9 hb9 K7 HP HP3 HP5 HP7
        go_wp2_with fail
        clear a0 a1 a2 b0 b1 b2 c0 c1 c2 d0 d1 d2 hW9
        refine (epoch_gen _ (ofL l) ep _ (by omega) ((all_live w.heap.size v _ _ HP9.out.own.at_ (by omega)).mono fun _ _ ⟨v', he, hr, hb⟩ => ⟨v', he, hr.rd, hb⟩)).mono ?_
        rintro e w10 ⟨v10, rfl, hr10, hb10⟩
        have HP10 := Lib.hid (And.intro (HP9.out.keep hb10) hr10.rd)
        clear hb10 hr10
        go_wp2_with fail
        refine (repoch_any _ _ ep _ HP10.out.1.rd (by omega)).mono ?_
        rintro e w11 ⟨v11, rfl, hr11, hb11⟩
        rw [epoch_eq] at hr11
        have HP11 := Lib.hid (And.intro (HP10.out.1.keep hb11) (And.intro (HP10.out.2.below hb11) hr11))
        have hel := epF_length ep (ofL l)
        clear hb11 hr11
        go_wp2_with fail
        refine (same_any _ _ _ _ _ HP11.out.2.1 HP11.out.2.2 (by omega) (by omega)).mono ?_
        rintro e w12 ⟨rfl, hb12⟩
        rw [decide_eq_true rfl]
        have HP12 := Lib.hid (HP11.out.1.keep hb12)
        clear hb12 HP10 HP11
        go_wp2_with fail
        refine (all_live w.heap.size v _ _ HP12.out.own.at_ (by omega)).mono ?_
        rintro e w13 ⟨v13, rfl, hr13, hb13⟩
        have HP13 := Lib.hid (And.intro (HP12.out.keep hb13) hr13.rd)
        clear hb13 hr13
        go_wp2_with fail
        refine (rall_any _ _ _ HP13.out.1.rd (by omega) (refL_nodup l)).mono ?_
        rintro e w14 ⟨v14, A, rfl, hr14, hsA, hmA, hlA, hb14⟩
        obtain rfl := all_eq hsA hmA
        have HP14 := Lib.hid (And.intro (HP13.out.1.keep hb14) (And.intro (HP13.out.2.below hb14) hr14))
        clear hb14 hr14 hsA hmA hlA
        go_wp2_with fail
        refine (same_any _ _ _ _ _ HP14.out.2.1 HP14.out.2.2 (by omega) (by omega)).mono ?_
        rintro e w15 ⟨rfl, hb15⟩
        rw [decide_eq_true rfl]
        have HP15 := Lib.hid (HP14.out.1.keep hb15)
        clear hb15 HP13 HP14
        go_wp2_with fail
        refine (places_live w.heap.size v _ _ HP15.out.own.at_ (by omega)).mono ?_
        rintro e w16 ⟨rfl, hb16⟩
        have HP16 := Lib.hid (HP15.out.keep hb16)
        clear hb16
        go_wp2_with fail
        refine (rplaces_any _ _ _ HP16.out.rd (by omega)).mono ?_
        rintro e w17 ⟨rfl, hb17⟩
        rw [places_eq]
        have HP17 := Lib.hid (HP16.out.keep hb17)
        clear hb17
        obtain ⟨P, hP⟩ : ∃ P, (plF (ofL l)).1 = P := ⟨_, rfl⟩
        rw [hP]
        clear hP
        have hpp : (P == P) = true := by simp
        go_wp2_with fail
        refine (copy_live w.heap.size v _ _ HP17.out.own.at_ (by omega)).mono ?_
        rintro e w18 ⟨n3, v3, rfl, hc, -, -, hb18⟩
        have HP18 := Lib.hid (And.intro (HP17.out.keep hb18) hc)
        clear hb18 hc
        go_wp2_with fail
        refine (all_live n3 v3 _ _ HP18.out.2 (by omega)).mono ?_
        rintro e w19 ⟨v19, rfl, hr19, hb19⟩
        have HP19 := Lib.hid (And.intro (HP18.out.1.keep hb19) hr19.rd)
        clear hb19 hr19
        go_wp2_with fail
        refine (all_live w.heap.size v _ _ HP19.out.1.own.at_ (by omega)).mono ?_
        rintro e w20 ⟨v20, rfl, hr20, hb20⟩
        have HP20 := Lib.hid (And.intro (HP19.out.1.keep hb20) (And.intro (HP19.out.2.below hb20) hr20.rd))
        clear hb20 hr20
        go_wp2_with fail
        refine (same_any _ _ _ _ _ HP20.out.2.1 HP20.out.2.2 (by omega) (by omega)).mono ?_
        rintro e w21 ⟨rfl, hb21⟩
        rw [decide_eq_true rfl]
        have HP21 := Lib.hid (HP20.out.1.keep hb21)
        clear hb21
        go_wp2_with fail
        refine (alive_any _).mono ?_
        rintro e w22 ⟨rfl, hb22⟩
        go_wp2
        exact HR.out _ _ ⟨rfl, HP21.out.own.below.trans (hb22.mono HP21.out.own.below.size)⟩

end Go.Proofs.Ythhncdcmjejlmaa
