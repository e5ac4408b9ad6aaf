/- The document's answer about versions: all of them in order. -/
import Derived.Test.YthhncdcmjejlmaaRIdxRest
import Derived.Deep.RegionLaw
namespace Ks
open Go Go.RowKit
set_option linter.unusedVariables false
structure AllInv (L Lf A : List Ver) : Prop where
  sorted : Sorted A
  mem : ∀ x, x ∈ L ↔ x ∈ A ∨ x ∈ Lf
  less : ∀ a ∈ A, ∀ b ∈ Lf, ltV a b
  nodup : Lf.Nodup
  len : A.length + Lf.length = L.length
theorem cut_mem {Lf : List Ver} {j : Nat} {x : Ver} (h : Lf[j]? = some x) (y : Ver) : y ∈ Lf ↔ y = x ∨ y ∈ Lf.take j ++ Lf.drop (j + 1) := by
  obtain ⟨hj, rfl⟩ := List.getElem?_eq_some_iff.1 h
  have e : Lf = Lf.take j ++ Lf[j] :: Lf.drop (j + 1) := by rw [← List.drop_eq_getElem_cons hj, List.take_append_drop]
  constructor
  · intro hy
    rw [e] at hy
    rcases List.mem_append.1 hy with hy | hy
    · exact Or.inr (List.mem_append_left _ hy)
    · rcases List.mem_cons.1 hy with hy | hy
      · exact Or.inl hy
      · exact Or.inr (List.mem_append_right _ hy)
  · rintro (rfl | hy)
    · exact List.getElem_mem hj
    · rcases List.mem_append.1 hy with hy | hy
      · exact List.mem_of_mem_take hy
      · exact List.mem_of_mem_drop hy
theorem AllInv.step {L Lf A : List Ver} (h : AllInv L Lf A) {j : Nat} {x : Ver} (hx : Lf[j]? = some x) (hmin : ∀ y ∈ Lf, ¬ ltV y x) : AllInv L (Lf.take j ++ Lf.drop (j + 1)) (A ++ [x]) := by
  obtain ⟨hj, hxe⟩ := List.getElem?_eq_some_iff.1 hx
  have e : Lf = Lf.take j ++ x :: Lf.drop (j + 1) := by rw [← hxe, ← List.drop_eq_getElem_cons hj, List.take_append_drop]
  have hnd : (Lf.take j ++ x :: Lf.drop (j + 1)).Nodup := by rw [← e]; exact h.nodup
  rw [List.nodup_append, List.nodup_cons] at hnd
  have hxn : x ∉ Lf.take j ++ Lf.drop (j + 1) := fun hm => by
    rcases List.mem_append.1 hm with hm | hm
    · exact hnd.2.2 x hm x List.mem_cons_self rfl
    · exact hnd.2.1.1 hm
  have hxm : x ∈ Lf := List.mem_of_getElem? hx
  refine ⟨?_, fun y => ?_, fun a ha b hb => ?_, ?_, ?_⟩
  · refine List.pairwise_append.2 ⟨h.sorted, List.pairwise_singleton _ _, fun a ha b hb => ?_⟩
    rw [List.mem_singleton.1 hb]
    exact h.less a ha x hxm
  · rw [h.mem y, cut_mem hx y]
    simp only [List.mem_append, List.mem_singleton, or_assoc]
  · have hbl : b ∈ Lf := (cut_mem hx b).2 (Or.inr hb)
    rcases List.mem_append.1 ha with ha | ha
    · exact h.less a ha b hbl
    · obtain rfl := List.mem_singleton.1 ha
      rcases ltV_tri a b with h1 | h1 | h1
      · exact h1
      · subst h1; exact absurd hb hxn
      · exact absurd h1 (hmin b hbl)
  · rw [List.nodup_append]
    exact ⟨hnd.1, hnd.2.1.2, fun a ha b hb => hnd.2.2 a ha b (List.mem_cons_of_mem _ hb)⟩
  · have := h.len
    have hl := congrArg List.length e
    simp only [List.length_append, List.length_cons, List.length_take, List.length_drop, List.length_nil] at hl ⊢
    omega
end Ks
namespace Go.Proofs.Ythhncdcmjejlmaa
open Go.RowKit Ks
set_option linter.unusedVariables false
set_option linter.unusedSimpArgs false

set_option maxHeartbeats 8000000 in
set_option maxRecDepth 100000 in
theorem rall_any (va : Value) (L : List Ver) (w : World) (ha : Rd verE w va L) (hla : L.length ≤ 1000000) (hnd : L.Nodup) :
    Calls Try.prog 22 #[va] w fun e w' => ∃ v' A, e = .returned v' ∧ Rd verE w' v' A ∧ Sorted A ∧ (∀ x, x ∈ A ↔ x ∈ L) ∧ A.length = L.length ∧ Below w.heap.size w w' := by
  refine calls_by fun R HR => ?_
  have HA := Lib.hid ha
  obtain ⟨aa, ca, hva, hcc, -⟩ := ha.shape
  subst hva
  clear ha
  obtain ⟨W1, hW1⟩ : ∃ W1, w.alloc (.cells #[] 27) = W1 := ⟨_, rfl⟩
  have hb1 : Below w.heap.size w W1 := by rw [← hW1]; exact alloc_below w _
  have hrow1 : Row verE W1 w.heap.size 27 (.slice (some ⟨w.heap.size, 0, none⟩) 0 0) [] := by rw [← hW1]; exact Row.made w _ _ (Nat.le_refl _)
  have H1 := Lib.hid (And.intro hb1 (And.intro hrow1 (HA.out.below hb1)))
  have HND := Lib.hid hnd
  clear hb1 hrow1 hnd
  go_enter Try.func22, Try.ntmps22
  go_wp2_with (at_builtin; refine wpList_append_row _ rfl _ _ 22 rfl verT w.heap.size _ _ [] L rfl rfl H1.out.2.1 H1.out.2.2 H1.out.1.size (by simp; omega) (by decide) ?_)
  intro vl w2 hG
  have HG := Lib.hid (And.intro hG.1 (hG.below H1.out.1 H1.out.1.size (fun b hb => by simp [Value.ownBlock] at hb; omega)))
  clear hG
  go_wp2_with fail
  go_loopg [3, 4] L.length (fun g l o wr => ∃ (Lf A : List Ver), Lf.length = g ∧ Row verE wr w.heap.size 27 l Lf ∧ Row verE wr w.heap.size 27 o A ∧ (∀ b, l.ownBlock = some b → o.ownBlock ≠ some b) ∧ Hid (AllInv L Lf A) ∧ Below w.heap.size w wr)
  case atStart => exact ⟨L, [], rfl, HG.out.1, Row.nil _ _ _, fun b _ => by simp [Value.ownBlock], Lib.hid ⟨List.Pairwise.nil, fun x => by simp, fun a ha => by simp at ha, HND.out, by simp⟩, HG.out.2⟩
  case round =>
    obtain ⟨Lf, A, hg, hl, ho, hap, hinv, hbel⟩ := hrel
    have hlen := hinv.out.len
    have HGK := Lib.hid hg
    clear hg
    by_cases hz : Lf.length = 0
    · obtain rfl : Lf = [] := List.length_eq_zero_iff.1 hz
      obtain ⟨la, lc, hlv, -⟩ := hl.shape
      subst hlv
      have HO := Lib.hid ho
      clear hl ho hap hz hlen
      go_wp2
      refine HR.out _ _ ⟨_, A, rfl, HO.out.rd, hinv.out.sorted, fun x => by rw [hinv.out.mem x]; simp, by have := hinv.out.len; simpa using this, hbel⟩
    · obtain ⟨g0, lc, hlv, hlc, -, hg0, hlm⟩ := hl.pos (by omega)
      subst hlv
      obtain ⟨oa, oc, hov, -⟩ := ho.shape
      subst hov
      have HL := Lib.hid hl
      have HO := Lib.hid (And.intro ho hap)
      have hpos : 0 < Lf.length := by omega
      clear hl ho hap
      go_wp2_with fail
      obtain ⟨wo, rfl⟩ : ∃ wo : World, wo = wr := ⟨_, rfl⟩
      go_loopg [6, 5] Lf.length (fun g i s wr => ∃ (i0 j : Nat), 1 ≤ i0 ∧ (i0 ≤ Lf.length) ∧ i0 + g = Lf.length + 1 ∧ j < Lf.length ∧ i = .int .i64 i0 ∧ s = .int .i64 j ∧ Hid (∀ m x y, m < i0 → Lf[m]? = some y → Lf[j]? = some x → ¬ ltV y x) ∧ Below wo.heap.size wo wr)
      case atStart =>
        refine ⟨1, 0, by omega, by omega, by omega, hpos, rfl, rfl, Lib.hid fun m x y hm hy hx => ?_, Below.refl _ _⟩
        obtain rfl : m = 0 := by omega
        rw [hx] at hy
        cases hy
        exact ltV_irrefl _
      case round =>
        obtain ⟨i0, j, hi1, hil, hig, hjl, rfl, rfl, hmin, hbel2⟩ := hrel
        by_cases hlt : i0 < Lf.length
        · obtain ⟨y, hy⟩ : ∃ y, Lf[i0]? = some y := ⟨_, List.getElem?_eq_getElem hlt⟩
          obtain ⟨x, hx⟩ : ∃ x, Lf[j]? = some x := ⟨_, List.getElem?_eq_getElem hjl⟩
          obtain ⟨b1, o1, h1, -, d⟩ := (HL.out.rd.below hbel2).at i0 y hy
          simp only [Option.some.injEq, Addr.mk.injEq, and_true] at h1
          obtain ⟨rfl, rfl⟩ := h1
          obtain ⟨b2, o2, h2, -, d'⟩ := (HL.out.rd.below hbel2).at j x hx
          simp only [Option.some.injEq, Addr.mk.injEq, and_true] at h2
          obtain ⟨rfl, rfl⟩ := h2
          have HXY := Lib.hid (And.intro hx hy)
          have cP := fun q => calls_after (less_any y x (After wr q))
          obtain ⟨y1, y2, y3⟩ := y
          obtain ⟨x1, x2, x3⟩ := x
          have d0 := after_cell (show wr.cell? ⟨g0, i0 * 3, none⟩ = some (.int .i64 y1) by have := d 0 _ rfl; rwa [Nat.zero_add] at this)
          have d1 := after_cell (show wr.cell? ⟨g0, i0 * 3 + 1, none⟩ = some (.int .i64 y2) by have := d 1 _ rfl; rwa [Nat.zero_add] at this)
          have d2 := after_cell (show wr.cell? ⟨g0, i0 * 3 + 2, none⟩ = some (.int .i64 y3) by have := d 2 _ rfl; rwa [Nat.zero_add] at this)
          have e0 := after_cell (show wr.cell? ⟨g0, j * 3, none⟩ = some (.int .i64 x1) by have := d' 0 _ rfl; rwa [Nat.zero_add] at this)
          have e1 := after_cell (show wr.cell? ⟨g0, j * 3 + 1, none⟩ = some (.int .i64 x2) by have := d' 1 _ rfl; rwa [Nat.zero_add] at this)
          have e2 := after_cell (show wr.cell? ⟨g0, j * 3 + 2, none⟩ = some (.int .i64 x3) by have := d' 2 _ rfl; rwa [Nat.zero_add] at this)
          have hi0 : (0 : Int) ≤ (i0 : Int) := by omega
          have hi2 : (i0 : Int) < (Lf.length : Int) := by omega
          have hj0 : (0 : Int) ≤ (j : Int) := by omega
          have hj1 : (j : Int) < (Lf.length : Int) := by omega
          have hlf : Lf.length ≤ 1000000 := by omega
          clear d d' hx hy
          obtain ⟨lt, hlt2⟩ : ∃ lt, decide (ltV (y1, y2, y3) (x1, x2, x3)) = lt := ⟨_, rfl⟩
          rw [hlt2] at cP
          have HLT := Lib.hid hlt2
          clear hlt2
          go_wp2_with fail
          refine wp_region_after (by kernel_rfl) (by kernel_rfl) ?_
          repeat (quiet_step (exact cP _))
          refine wpQuiet_nil ?_
          rintro w3 ⟨q, rfl⟩
          have hb3 := hbel2.trans ((after_below wr q).mono hbel2.size)
          generalize After wr q = w3 at *
          clear d0 d1 d2 e0 e1 e2 cP
          cases lt
          case true =>
            have hM : ∀ m x y, m < i0 + 1 → Lf[m]? = some y → Lf[i0]? = some x → ¬ ltV y x := fun m x' y' hm hy' hx' => by
              rw [HXY.out.2] at hx'
              cases hx'
              have hyx : ltV (y1, y2, y3) (x1, x2, x3) := by have := HLT.out; simpa using this
              by_cases he : m = i0
              · subst he; rw [HXY.out.2] at hy'; cases hy'; exact ltV_irrefl _
              · exact fun h => hmin.out m _ y' (by omega) hy' HXY.out.1 (ltV_trans h hyx)
            have HM := Lib.hid hM
            clear hM
            go_wp2
            go_roundg (gk - 1)
            case measure => omega
            case rel => exact ⟨i0 + 1, i0, by omega, by omega, by omega, by omega, by go_num, rfl, HM, hb3⟩
          case false =>
            have hM : ∀ m x y, m < i0 + 1 → Lf[m]? = some y → Lf[j]? = some x → ¬ ltV y x := fun m x' y' hm hy' hx' => by
              by_cases he : m = i0
              · subst he
                rw [HXY.out.2] at hy'
                rw [HXY.out.1] at hx'
                cases hy'; cases hx'
                have := HLT.out; simpa using this
              · exact hmin.out m x' y' (by omega) hy' hx'
            have HM := Lib.hid hM
            clear hM
            go_wp2
            go_roundg (gk - 1)
            case measure => omega
            case rel => exact ⟨i0 + 1, j, by omega, by omega, by omega, by omega, by go_num, rfl, HM, hb3⟩
        · obtain rfl : i0 = Lf.length := by omega
          obtain ⟨x, hx⟩ : ∃ x, Lf[j]? = some x := ⟨_, List.getElem?_eq_getElem hjl⟩
          have hI := hinv.out.step hx fun y hy => by
            obtain ⟨m, hm, e⟩ := List.getElem_of_mem hy
            exact hmin.out m x y (by omega) (by rw [List.getElem?_eq_getElem hm, e]) hx
          have HI := Lib.hid hI
          obtain ⟨b1, o1, h1, -, d⟩ := (HL.out.rd.below hbel2).at j x hx
          simp only [Option.some.injEq, Addr.mk.injEq, and_true] at h1
          obtain ⟨rfl, rfl⟩ := h1
          obtain ⟨x1, x2, x3⟩ := x
          have d0 : wr.cell? ⟨g0, j * 3, none⟩ = some (.int .i64 x1) := by have := d 0 _ rfl; rwa [Nat.zero_add] at this
          have d1 : wr.cell? ⟨g0, j * 3 + 1, none⟩ = some (.int .i64 x2) := by have := d 1 _ rfl; rwa [Nat.zero_add] at this
          have d2 : wr.cell? ⟨g0, j * 3 + 2, none⟩ = some (.int .i64 x3) := by have := d 2 _ rfl; rwa [Nat.zero_add] at this
          have hj0 : (0 : Int) ≤ (j : Int) := by omega
          have hj1 : (j : Int) < (Lf.length : Int) := by omega
          have hlf : Lf.length ≤ 1000000 := by omega
          have hB2 := hbel.trans (hbel2.mono hbel.size)
          have HL2 := Lib.hid (HL.out.below hbel2)
          have HO2 := Lib.hid (And.intro (HO.out.1.below hbel2) HO.out.2)
          have hA3 := alloc_below wr (.cells #[.int .i64 x1, .int .i64 x2, .int .i64 x3] 27)
          have k3 := alloc_new wr (.cells #[.int .i64 x1, .int .i64 x2, .int .i64 x3] 27)
          have H3 := Lib.hid (And.intro hA3 k3)
          clear d hI hx hmin hbel2 hA3 k3 HL HO
          go_wp2_with (at_builtin; refine wpList_append_row _ rfl _ _ 22 rfl verT w.heap.size _ _ A [(x1, x2, x3)] rfl rfl (HO2.out.1.below H3.out.1) (Rd.single (E := verE) (x1, x2, x3) H3.out.2 rfl) (Nat.le_trans hB2.size H3.out.1.size) (by simp; omega) (by decide) ?_)
          intro vo w4 hGo
          have hL4 : Row verE w4 w.heap.size 27 (.slice (some ⟨g0, 0, none⟩) Lf.length lc) Lf := (HL2.out.below H3.out.1).keep fun b e => hGo.2.1.block b ((HL2.out.below H3.out.1).lt e).2 (fun e2 => HO2.out.2 b e e2.symm)
          have hB4 := hGo.below (hB2.trans (H3.out.1.mono hB2.size)) (Nat.le_trans hB2.size H3.out.1.size) (fun b hb => (HO2.out.1.lt hb).1)
          have hap4 : ∀ b, (Value.slice (some ⟨g0, 0, none⟩) Lf.length lc).ownBlock = some b → vo.ownBlock ≠ some b := fun b e e2 => by
            rcases hGo.2.2.1 with h | h
            · exact HO2.out.2 b e (h ▸ e2)
            · have h5 := h b e2; have h6 := (HL2.out.lt e).2; simp at h5; omega
          have HO4 := Lib.hid hGo.1
          -- the row that is left
          obtain ⟨A0, hite⟩ : ∃ A0 : Option Addr, (if lc = j + 1 then some (⟨g0, 0, none⟩ : Addr) else some ⟨g0, (j + 1) * 3, none⟩) = A0 := ⟨_, rfl⟩
          have hA1 : j + 1 < Lf.length → A0 = some ⟨g0, 0 + (j + 1) * verE.k, none⟩ := fun hlt => by rw [← hite, if_neg (by omega), Nat.zero_add]; rfl
          have hA2 : A0 ≠ none := by rw [← hite]; split <;> simp
          have hD := drew_below w4
          have hOt := Row.take (hL4.below hD) j (by omega)
          have hS := Rd.drop (hL4.below hD).rd (show j + 1 ≤ Lf.length by omega) A0 hA1 hA2 (lc - (j + 1)) (by omega)
          obtain ⟨vl', w6, hrun, hGl⟩ := run_append_row (P := Try.prog) (t := 22) (ty := 22) verT w4.drew w.heap.size _ _ _ _ hOt hS (Nat.le_trans hB4.size hD.size) (by rw [List.length_take, List.length_drop]; omega) (by decide)
          have hO6 : Row verE w6 w.heap.size 27 vo (A ++ [(x1, x2, x3)]) := (HO4.out.below hD).keep fun b e => hGl.2.1.block b ((HO4.out.below hD).lt e).2 (fun e2 => hap4 b e2.symm e)
          have hB6 := hGl.below (hB4.trans (hD.mono hB4.size)) (Nat.le_trans hB4.size hD.size) (fun b hb => (hL4.lt hb).1)
          have hap6 : ∀ b, vl'.ownBlock = some b → vo.ownBlock ≠ some b := fun b e e2 => by
            rcases hGl.2.2.1 with h | h
            · exact hap4 b (h ▸ e) e2
            · have h5 := h b e; have h6 := (HO4.out.lt e2).2; simp at h5; omega
          have H6 := Lib.hid (And.intro hGl.1 (And.intro hO6 (And.intro hap6 hB6)))
          have Hrun := Lib.hid hrun
          obtain ⟨a3, n3, c3, hv3⟩ := Row.any hGl.1
          rw [hv3] at Hrun H6
          obtain ⟨a4, n4, c4, hv4⟩ := Row.any hGo.1
          rw [hv4] at H6
          subst hv4
          have hw : IntKind.i64.wrap ((j : Int) + 1) = ((j + 1 : Nat) : Int) := by rw [IntKind.wrap_i64]; omega
          have hjc : (j : Int) ≤ (lc : Int) := by omega
          have hjc2 : (0 : Int) ≤ (j : Int) + 1 := by omega
          have hj3 : (j : Int) + 1 ≤ (Lf.length : Int) := by omega
          have hj4 : ((j + 1 : Nat) : Int) ≤ (Lf.length : Int) := by omega
          have hlcI : (Lf.length : Int) ≤ (lc : Int) := by omega
          have hlc63 : lc ≤ 9223372036854775807 := HL2.out.capmax
          have hg1 : (Lf.take j ++ Lf.drop (j + 1)).length = Lf.length - 1 := by rw [List.length_append, List.length_take, List.length_drop]; omega
          have HG1 := Lib.hid hg1
          clear hGo hL4 hB4 hap4 HO4 hA1 hA2 hD hOt hS hrun hGl hO6 hB6 hap6 hv3 d0 d1 d2 hg1
          go_wp2_with fail
          go_region_law (refine step_append_of rfl (.tmp 38) (.tmp 42) 22 rfl Hrun.out (by simp [Act.eval, Act.put]) (by simp [Act.eval, Act.put]) ?_)
          all_goals
            go_wp2
            go_roundg (Lf.length - 1)
            case measure => have := HGK.out; omega
            case rel => exact ⟨_, _, HG1.out, H6.out.1, H6.out.2.1, H6.out.2.2.1, HI, H6.out.2.2.2⟩

end Go.Proofs.Ythhncdcmjejlmaa
