/- The program's disk: the writes of the cache are done. -/
import Derived.Test.YtielmlnbjliacaaDiskActs
import Derived.StillTailTactics
namespace Ks
open Go Go.RowKit
set_option linter.unusedVariables false
/-- the writes that are said, one by one -/
def putF (f : Nat → Bool) : List PutT → Nat → List ByteArray → List ByteArray
  | [], _, b => b
  | p :: c, k, b => putF f c (k + 1) (if f k then putC b p else b)
theorem putF_all (c : List PutT) (k : Nat) (b : List ByteArray) : putF (fun _ => true) c k b = c.foldl putC b := by
  induction c generalizing k b with
  | nil => rfl
  | cons p c ih => rw [putF, ih]; rfl
theorem putF_kept (keep : List Int) (c : List PutT) (k : Nat) (b : List ByteArray) : putF (fun k => decide ((k : Int) ∈ keep)) c k b = (keptC keep c k).foldl putC b := by
  induction c generalizing k b with
  | nil => rfl
  | cons p c ih =>
    rw [putF, ih, keptC]
    by_cases h : (k : Int) ∈ keep <;> simp [h]
theorem putF_step (f : Nat → Bool) (c : List PutT) (k : Nat) (b : List ByteArray) (p : PutT) (h : c[k]? = some p) : putF f (c.drop k) k b = putF f (c.drop (k + 1)) (k + 1) (if f k then putC b p else b) := by
  have hk := (List.getElem?_eq_some_iff.1 h).1
  have e : c[k] = p := (List.getElem?_eq_some_iff.1 h).2
  rw [List.drop_eq_getElem_cons hk, e, putF]
end Ks
namespace Go.Proofs.Ytielmlnbjliacaa
open Go.RowKit Ks
set_option linter.unusedVariables false
variable {n : Nat} {vb vc : Value} {s : DS}

theorem row_frozen {α : Type} {E : Enc α} {w : World} {B : Nat} {T : TypeId} {g m cap : Nat} {l : List α} (h : Row E w B T (.slice (some ⟨g, 0, none⟩) m cap) l) (o : Nat) : w.frozen? ⟨g, o, none⟩ = false := by
  rcases h.2 with ⟨e, _⟩ | ⟨g', cap', cur, e, _, hgb, _⟩
  · cases e
  · cases e
    exact frozen_of_row w g o _ _ hgb

set_option maxRecDepth 20000 in
set_option maxHeartbeats 2000000 in
theorem ddo_any (g : Nat) (lb : Array Value) (eg : ∀ args w, (callFunc g args).run Try.prog w = .ok (.enter g args) w) (f : Nat → Bool) (w : World) (h : DkAt w n vb vc s)
    (hc : ∀ (k : Nat) (wx : World), k < s.cache.length → Turn w wx (DF n vb vc) (DF n vb vc) → Calls Try.prog g (#[.int .i64 (k : Int)] ++ lb) wx fun e w'' => e = .returned (.bool (f k)) ∧ Below wx.heap.size wx w'') :
    Calls Try.prog 42 #[.pointer (some ⟨n, 0, none⟩), .func (.func g) #[] lb] w fun e w' => e = .returned (.tuple #[]) ∧ DkAt w' n vb (.slice none 0 0) { s with blocks := putF f s.cache 0 s.blocks, cache := [] } ∧ Turn w w' (DF n vb vc) (DF n vb (.slice none 0 0)) := by
  refine calls_by fun R HR => ?_
  have HH := Lib.hid h
  have c1 := h.cells.2.1
  obtain ⟨a1, cap1, hv1, _⟩ := h.rc.shape
  rw [hv1] at c1
  have HV1 := Lib.hid hv1
  have Hc := Lib.hid hc
  have hcl := h.ok.cache
  clear h hc hv1
  obtain ⟨ln, hln⟩ : ∃ ln, s.cache.length = ln := ⟨_, rfl⟩
  rw [hln] at c1 hcl
  have HLN := Lib.hid hln
  clear hln
  go_enter Try.func42, Try.ntmps42
  go_wp2_with fail
  go_loopw [12] (fun i wx => ∃ (k : Nat) (bk : List ByteArray), k ≤ ln ∧ i = .int .i64 k ∧ Hid (DkAt wx n vb vc { s with blocks := bk } ∧ Turn w wx (DF n vb vc) (DF n vb vc) ∧ bk.length = s.blocks.length ∧ putF f (s.cache.drop k) k bk = putF f s.cache 0 s.blocks)) (fun i _ => ln - (intOf i).toNat)
  case atStart => exact ⟨0, s.blocks, by omega, rfl, Lib.hid ⟨HH.out, Turn.refl _ _, rfl, rfl⟩⟩
  case round =>
    obtain ⟨k, bk, hk, rfl, hN⟩ := hrel
    by_cases hlt : k < ln
    · obtain ⟨p, hp⟩ : ∃ p, s.cache[k]? = some p := ⟨_, List.getElem?_eq_getElem (by rw [HLN.out]; exact hlt)⟩
      have hrc := hN.out.1.rc.rd
      rw [HV1.out] at hrc
      obtain ⟨gc, oc, rfl, hgc, d0, d1⟩ := hrc.putAt k p hp
      have HS := Lib.hid (putF_step f s.cache k bk p hp)
      have HPA := Lib.hid (HH.out.ok.at_ p (List.mem_of_getElem? hp))
      obtain ⟨pa, pd⟩ := p
      simp only at d0 d1
      have hki : (k : Int) < (ln : Int) := by omega
      clear hrc hp
      have hT1 : Turn w (wr.alloc (.cells #[.int .i64 pa, .string pd] 75)) (DF n vb vc) (DF n vb vc) := hN.out.2.1.trans (Turn.of_below _ (alloc_below wr _))
      have HD1 := Lib.hid (And.intro (hN.out.1.below (alloc_below wr (.cells #[.int .i64 pa, .string pd] 75))) (And.intro hT1 (alloc_new wr (.cells #[.int .i64 pa, .string pd] 75))))
      have TC := Lib.hid (Hc.out k _ (by rw [HLN.out]; exact hlt) hT1)
      clear hT1
      cases hf : f k
      · rw [hf] at TC HS
        clear hf
        go_wp2_with fail
        refine TC.out.mono ?_
        rintro e w2 ⟨rfl, hb⟩
        have HM := Lib.hid (And.intro (HD1.out.1.below hb) (And.intro (HD1.out.2.1.trans (Turn.of_below _ hb)) (And.intro hN.out.2.2.1 (HS.out.symm.trans hN.out.2.2.2))))
        clear hb d0 d1
        go_wp2_with fail
        go_roundw
        case rel => exact ⟨k + 1, bk, by omega, by go_num, HM⟩
        case measure => simp [intOf]; omega
      · rw [hf] at TC HS
        clear hf
        go_wp2_with fail
        refine TC.out.mono ?_
        rintro e w2 ⟨rfl, hb⟩
        have HM := Lib.hid (And.intro (HD1.out.1.below hb) (And.intro (HD1.out.2.1.trans (Turn.of_below _ hb)) ((hb.block _ (lt_of_block HD1.out.2.2)).trans HD1.out.2.2)))
        clear hb d0 d1
        obtain ⟨pi, rfl⟩ : ∃ pi : Nat, pa = (pi : Int) := Int.eq_ofNat_of_zero_le HPA.out.1
        have hpl : pi < bk.length := by have := HPA.out.2; have h2 := hN.out.2.2.1; omega
        obtain ⟨g1, cap, hvb, hcap, _, hg1, _⟩ := HM.out.1.rb.pos (by show 0 < bk.length; omega)
        change vb = .slice (some ⟨g1, 0, none⟩) bk.length cap at hvb
        have hrb : Row strE w2 0 9 (.slice (some ⟨g1, 0, none⟩) bk.length cap) bk := hvb ▸ HM.out.1.rb
        obtain ⟨g2, o2, e, _, cg⟩ := hrb.rd.str pi hpl
        simp only [Option.some.injEq, Addr.mk.injEq, and_true] at e
        obtain ⟨rfl, rfl⟩ := e
        rw [Nat.zero_add] at cg
        have fg := row_frozen hrb pi
        have c0 := HM.out.1.cells.1
        have e0 : w2.cell? ⟨wr.heap.size, 0, none⟩ = some (.int .i64 (pi : Nat)) := by rw [cell_of_row w2 _ 0 _ _ _ HM.out.2.2]; rfl
        have e1 : w2.cell? ⟨wr.heap.size, 1, none⟩ = some (.string pd) := by rw [cell_of_row w2 _ 1 _ _ _ HM.out.2.2]; rfl
        rw [hvb] at c0
        have hpli : (pi : Int) < (bk.length : Int) := by omega
        have HVB := Lib.hid (And.intro hvb hrb)
        have HPL := Lib.hid hpl
        clear hvb hrb
        obtain ⟨x, cg'⟩ : ∃ x, w2.cell? ⟨g1, pi, none⟩ = some (.string x) := ⟨_, cg⟩
        clear cg hpl
        go_wp2_with fail
        refine wp_region_still_tail 10 (by kernel_rfl) (by kernel_rfl) ?_
        simp only [List.take_succ_cons, List.take_zero, List.drop_succ_cons, List.drop_zero]
        repeat still_step
        refine wpStill_nil ?_
        change wpList _ _ _ _ _ w2.drew
        have hb3 := drew_below w2
        have HM3 := Lib.hid (And.intro (HM.out.1.below hb3) (And.intro (HM.out.2.1.trans (Turn.of_below _ hb3)) (HVB.out.2.below hb3)))
        have cg3 : w2.drew.cell? ⟨g1, pi, none⟩ = some (.string x) := cg'
        have fg3 : w2.drew.frozen? ⟨g1, pi, none⟩ = false := fg
        clear hb3 c0 e0 e1 cg' fg HM
        generalize w2.drew = w3 at *
        go_wp2_with fail
        obtain ⟨q1, q2⟩ := HM3.out.1.rows (Turn.cell1 w3 g1 pi (.string pd) |>.wide (G := fun k => vb.ownBlock = some k) (G' := fun k => vb.ownBlock = some k) (fun k hk => by subst hk; rw [HVB.out.1]; rfl) (fun k hk => Or.inr (Or.inl hk))) (bk.set pi pd) (by rw [HVB.out.1]; exact HM3.out.2.2.set1 rfl pi HPL.out pd _ rfl)
          ⟨by show (bk.set _ _).length ≤ _; rw [List.length_set]; exact HM3.out.1.ok.blocks, HM3.out.1.ok.cache, fun p hp => by show _ ∧ _ < ((bk.set _ _).length : Int); rw [List.length_set]; exact HM3.out.1.ok.at_ p hp, HM3.out.1.ok.left⟩
        have HQ := Lib.hid (And.intro q1 (And.intro (HM3.out.2.1.trans q2) (And.intro (show (bk.set pi pd).length = s.blocks.length by rw [List.length_set]; exact hN.out.2.2.1) (HS.out.symm.trans hN.out.2.2.2))))
        clear q1 q2
        go_roundw
        case rel => exact ⟨k + 1, bk.set pi pd, by omega, by go_num, HQ⟩
        case measure => simp [intOf]; omega
    · obtain rfl : k = ln := by omega
      have HF := Lib.hid (show bk = putF f s.cache 0 s.blocks by have := hN.out.2.2.2; rw [List.drop_eq_nil_of_le (by rw [HLN.out]; exact Nat.le_refl _)] at this; exact this)
      have d1 := hN.out.1.cells.2.1
      have f1 := hN.out.1.froz 1
      clear hlt hk c1
      go_wp2_with fail
      have hT := Turn.cell wr (F := fun k => k = n ∨ vc.ownBlock = some k) n 1 (.slice none 0 0) (Or.inl rfl)
      obtain ⟨q1, q2⟩ := hN.out.1.cached { s with blocks := bk, cache := [] } hT (set_blk hN.out.1.blk 1 (.slice none 0 0)) (Row.nil _ _ _) (fun b e => by simp [Value.ownBlock] at e) rfl
        ⟨hN.out.1.ok.blocks, Nat.zero_le _, (fun p hp => by cases hp), hN.out.1.ok.left⟩
      rw [HF.out] at q1
      go_end0
      exact HR.out _ _ ⟨rfl, q1, hN.out.2.1.trans q2⟩
end Go.Proofs.Ytielmlnbjliacaa
