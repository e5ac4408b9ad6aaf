/- The reference's disk: flush and crash. -/
import Derived.Test.YtielmlnbjliacaaRDiskActs
namespace Go.Proofs.Ytielmlnbjliacaa
open Go.RowKit Ks
set_option linter.unusedVariables false
variable {n : Nat} {vb vc : Value} {s : DS}

set_option maxHeartbeats 1000000 in
theorem in_any (kv : Value) (keep : List Int) (m : Int) (w : World) (hkv : RdI w kv keep) (hkl : keep.length ≤ 9223372036854775807) : Calls Try.prog 61 #[kv, .int .i64 m] w fun e w' => e = .returned (.bool (decide (m ∈ keep))) ∧ w' = w := by
  refine calls_by fun R HR => ?_
  obtain ⟨a, cap, hv, hcapP⟩ := id hkv
  subst hv
  have HH := Lib.hid hkv
  clear hkv hcapP
  obtain ⟨ln, hln⟩ : ∃ ln, keep.length = ln := ⟨_, rfl⟩
  have HL := Lib.hid hln
  have hlnI : (ln : Int) ≤ 9223372036854775807 := by omega
  rw [hln]
  clear hln hkl
  go_enter Try.func61, Try.ntmps61
  go_wp2
  go_loop [5] (fun i => ∃ k : Nat, k ≤ ln ∧ i = .int .i64 k ∧ Hid (m ∉ keep.take k)) (fun i => ln - (intOf i).toNat)
  case atStart => exact ⟨0, by omega, rfl, Lib.hid (by simp)⟩
  case round =>
    obtain ⟨k, hk, rfl, hN⟩ := hrel
    by_cases hlt : k < ln
    · obtain ⟨b1, o1, rfl, hb1, d0, x1, x2⟩ := HH.out.nth k (by rw [HL.out]; exact hlt)
      have HT := Lib.hid (show keep.take (k + 1) = keep.take k ++ [keep[k]'(by rw [HL.out]; exact hlt)] from List.take_succ_eq_append_getElem _)
      have HMM := Lib.hid (show keep[k]'(by rw [HL.out]; exact hlt) ∈ keep from List.getElem_mem _)
      obtain ⟨x, hx⟩ : ∃ x, keep[k]'(by rw [HL.out]; exact hlt) = x := ⟨_, rfl⟩
      rw [hx] at d0 x1 x2 HT HMM
      clear hx
      have hki : (k : Int) < (ln : Int) := by omega
      by_cases hxm : x = m
      · have heq : (x == m) = true := by rw [beq_iff_eq]; exact hxm
        have HV := Lib.hid (show decide (m ∈ keep) = true by rw [decide_eq_true_iff, ← hxm]; exact HMM.out)
        clear hxm x1 x2
        go_wp2
        exact HR.out _ _ ⟨by rw [HV.out] <;> rfl, rfl⟩
      · have heq : (x == m) = false := by rw [beq_eq_false_iff_ne]; exact hxm
        have HQ := Lib.hid (show m ∉ keep.take (k + 1) by rw [HT.out]; simp only [List.mem_append, List.mem_singleton, not_or]; exact ⟨hN.out, fun e => hxm e.symm⟩)
        clear hxm x1 x2
        go_wp2
        go_round
        case rel => exact ⟨k + 1, by omega, by go_num, HQ⟩
        case measure => simp [intOf]; omega
    · obtain rfl : k = ln := by omega
      have HV := Lib.hid (show decide (m ∈ keep) = false by rw [decide_eq_false_iff_not]; have := hN.out; rwa [List.take_of_length_le (by rw [HL.out]; exact Nat.le_refl _)] at this)
      go_wp2
      exact HR.out _ _ ⟨by rw [HV.out] <;> rfl, rfl⟩

set_option maxRecDepth 20000 in
set_option maxHeartbeats 2000000 in
theorem rflush_any (w : World) (h : RkAt w n vb vc s) : Calls Try.prog 34 #[.pointer (some ⟨n, 0, none⟩)] w fun e w' => ∃ vc', e = .returned (.int .i64 (flushE s)) ∧ RkAt w' n vb vc' (flushD s) ∧ Turn w w' (DF n vb vc) (DF n vb vc') := by
  refine calls_by fun R HR => ?_
  have HH := Lib.hid h
  cases hd : s.down
  · have c2 := h.cells.2.2.1
    rw [hd] at c2
    have HS := Lib.hid (rlast_any w h hd)
    cases hs : (stepD s).down
    · have HV := Lib.hid (show flushE s = 0 ∧ flushD s = { stepD s with blocks := s.cache.foldl putC s.blocks, cache := [] } by simp [flushE, flushD, hd, hs])
      rw [hs] at HS
      have hbl := h.ok.blocks
      clear h hd
      obtain ⟨ln, hln⟩ : ∃ ln, s.blocks.length = ln := ⟨_, rfl⟩
      rw [hln] at hbl
      have HLN := Lib.hid hln
      have HDN := Lib.hid hs
      clear hln hs
      go_enter Try.func34, Try.ntmps34
      go_wp2_with fail
      refine HS.out.mono ?_
      rintro e w2 ⟨rfl, hd2, ht2⟩
      have HD := Lib.hid (And.intro hd2 ht2)
      clear hd2 ht2 c2 HS
      obtain ⟨a0, cap0, hv0, _⟩ := HD.out.1.rb.shape
      rw [stepD_blocks, HLN.out] at hv0
      have HVB := Lib.hid hv0
      clear hv0
      have HSB := Lib.hid (stepD_blocks s)
      have HSC := Lib.hid (stepD_cache s)
      obtain ⟨t, ht⟩ : ∃ t, stepD s = t := ⟨_, rfl⟩
      rw [ht] at HD HSB HSC HV HDN
      have HTE := Lib.hid ht
      clear ht
      go_wp2_with fail
      go_loopw [3] (fun i wx => ∃ k : Nat, k ≤ ln ∧ i = .int .i64 k ∧ Hid (RkAt wx n vb vc { t with blocks := showTo s.blocks s.cache k } ∧ Turn w wx (DF n vb vc) (DF n vb vc))) (fun i _ => ln - (intOf i).toNat)
      case atStart => exact ⟨0, by omega, rfl, Lib.hid ⟨by rw [showTo_zero, ← HSB.out]; exact HD.out.1, HD.out.2⟩⟩
      case round =>
        obtain ⟨k, hk, rfl, hN⟩ := hrel
        by_cases hlt : k < ln
        · have hki : (k : Int) < (ln : Int) := by omega
          have hkb : k < (showTo s.blocks s.cache k).length := by rw [showTo_length, HLN.out]; exact hlt
          have TS := Lib.hid (rshown_any k wr.drew (hN.out.1.below (drew_below wr)) (by exact hkb))
          have HX := Lib.hid (show showC (showTo s.blocks s.cache k) t.cache (k : Nat) = showC s.blocks s.cache (k : Nat) by rw [HSC.out]; exact showTo_show _ _ _ k (by rw [HLN.out]; exact hlt))
          simp only at TS
          rw [HX.out] at TS
          have HST := Lib.hid (showTo_set s.blocks s.cache k (by rw [HLN.out]; exact hlt))
          have HB := Lib.hid (showTo_length s.blocks s.cache k)
          obtain ⟨y, hy⟩ : ∃ y, showC s.blocks s.cache (k : Nat) = y := ⟨_, rfl⟩
          rw [hy] at TS HST
          clear HX hy
          obtain ⟨bk, hbk⟩ : ∃ bk, showTo s.blocks s.cache k = bk := ⟨_, rfl⟩
          rw [hbk] at hN HST HB hkb
          obtain ⟨g1, cap, hvb, hcap, _, hg1, _⟩ := hN.out.1.rb.pos (by show 0 < bk.length; omega)
          change vb = .slice (some ⟨g1, 0, none⟩) bk.length cap at hvb
          have hrb : Row strE wr 0 9 (.slice (some ⟨g1, 0, none⟩) bk.length cap) bk := hvb ▸ hN.out.1.rb
          obtain ⟨g2, o2, e, _, cg⟩ := hrb.rd.str k hkb
          simp only [Option.some.injEq, Addr.mk.injEq, and_true] at e
          obtain ⟨rfl, rfl⟩ := e
          rw [Nat.zero_add] at cg
          have fg := row_frozen hrb k
          have c0 := hN.out.1.cells.1
          rw [hvb, HB.out, HLN.out] at c0
          have HROW := Lib.hid (And.intro hvb hrb)
          have HPL := Lib.hid hkb
          obtain ⟨x, cg'⟩ : ∃ x, wr.cell? ⟨g1, k, none⟩ = some (.string x) := ⟨_, cg⟩
          clear cg hkb hvb hrb hbk
          go_wp2_with fail
          refine wp_region_still_tail 10 (by kernel_rfl) (by kernel_rfl) ?_
          simp only [List.take_succ_cons, List.take_zero, List.drop_succ_cons, List.drop_zero]
          repeat (first | still_call TS.out | still_step)
          refine wpStill_nil ?_
          change wpList _ _ _ _ _ wr.drew
          have hb3 := drew_below wr
          have HM3 := Lib.hid (And.intro (hN.out.1.below hb3) (And.intro (hN.out.2.trans (Turn.of_below _ hb3)) (HROW.out.2.below hb3)))
          have cg3 : wr.drew.cell? ⟨g1, k, none⟩ = some (.string x) := cg'
          have fg3 : wr.drew.frozen? ⟨g1, k, none⟩ = false := fg
          clear hb3 c0 cg' fg TS
          generalize wr.drew = w3 at *
          go_wp2_with fail
          obtain ⟨q1, q2⟩ := HM3.out.1.rows (Turn.cell1 w3 g1 k (.string y) |>.wide (G := fun k => vb.ownBlock = some k) (G' := fun k => vb.ownBlock = some k) (fun k hk => by subst hk; rw [HROW.out.1]; rfl) (fun k hk => Or.inr (Or.inl hk))) (bk.set k y) (by rw [HROW.out.1]; exact HM3.out.2.2.set1 rfl k HPL.out y _ rfl)
            ⟨by show (bk.set _ _).length ≤ _; rw [List.length_set]; exact HM3.out.1.ok.blocks, HM3.out.1.ok.cache, fun p hp => by show _ ∧ _ < ((bk.set _ _).length : Int); rw [List.length_set]; exact HM3.out.1.ok.at_ p hp, HM3.out.1.ok.left⟩
          have HQ := Lib.hid (And.intro q1 (HM3.out.2.1.trans q2))
          clear q1 q2
          go_roundw
          case rel => exact ⟨k + 1, by omega, by go_num, by rw [← HST.out]; exact HQ⟩
          case measure => simp [intOf]; omega
        · obtain rfl : k = ln := by omega
          have HF := Lib.hid (show showTo s.blocks s.cache k = s.cache.foldl putC s.blocks by rw [← HLN.out]; exact showTo_all _ _ fun p hp => (HH.out.ok.at_ p hp).1)
          have c0 := hN.out.1.cells.1
          have d1 := hN.out.1.cells.2.1
          have f1 := hN.out.1.froz 1
          rw [HVB.out] at c0
          clear hlt hk
          go_wp2_with fail
          have hT := Turn.cell wr (F := fun k => k = n ∨ vc.ownBlock = some k) n 1 (.slice none 0 0) (Or.inl rfl)
          obtain ⟨q1, q2⟩ := hN.out.1.cached { t with blocks := s.cache.foldl putC s.blocks, cache := [] } hT (set_blk hN.out.1.blk 1 (.slice none 0 0)) (Row.nil _ _ _) (fun b e => by simp [Value.ownBlock] at e) (by rw [HF.out])
            ⟨by rw [← HF.out]; exact hN.out.1.ok.blocks, Nat.zero_le _, (fun p hp => by cases hp), hN.out.1.ok.left⟩
          exact HR.out _ _ ⟨.slice none 0 0, by rw [HV.out.1] <;> rfl, by rw [HV.out.2]; exact q1, hN.out.2.trans q2⟩
    · have HV := Lib.hid (show flushE s = 14 ∧ flushD s = stepD s by simp [flushE, flushD, hd, hs])
      rw [hs] at HS
      clear h hd hs
      go_enter Try.func34, Try.ntmps34
      go_wp2_with fail
      refine HS.out.mono ?_
      rintro e w2 ⟨rfl, hd2, ht2⟩
      have HD := Lib.hid (And.intro hd2 ht2)
      clear hd2 ht2
      go_wp2
      exact HR.out _ _ ⟨vc, by rw [HV.out.1] <;> rfl, by rw [HV.out.2]; exact HD.out.1, HD.out.2⟩
  · have c2 := h.cells.2.2.1
    rw [hd] at c2
    have HV := Lib.hid (show flushE s = 14 ∧ flushD s = s by simp [flushE, flushD, hd])
    clear h hd
    go_enter Try.func34, Try.ntmps34
    go_wp2
    exact HR.out _ _ ⟨vc, by rw [HV.out.1] <;> rfl, by rw [HV.out.2]; exact HH.out, Turn.refl _ _⟩

set_option maxRecDepth 20000 in
set_option maxHeartbeats 2000000 in
theorem rcrash_any (kv : Value) (keep : List Int) (w : World) (h : RkAt w n vb vc s) (hkv : RdI w kv keep) (hkl : keep.length ≤ 9223372036854775807) (hfar : keep ≠ [] → ∀ b o m cap, kv = .slice (some ⟨b, o, none⟩) m cap → ¬ DF n vb vc b) :
    Calls Try.prog 36 #[.pointer (some ⟨n, 0, none⟩), kv] w fun e w' => e = .returned (.tuple #[]) ∧ RkAt w' n vb (.slice none 0 0) (crashD s keep) ∧ Turn w w' (DF n vb vc) (DF n vb (.slice none 0 0)) := by
  refine calls_by fun R HR => ?_
  have HH := Lib.hid h
  have HKV := Lib.hid hkv
  have HFAR := Lib.hid hfar
  have HKL := Lib.hid hkl
  have c1 := h.cells.2.1
  obtain ⟨a1, cap1, hv1, _⟩ := h.rc.shape
  rw [hv1] at c1
  have HV1 := Lib.hid hv1
  obtain ⟨a0, cap0, hv0, _⟩ := h.rb.shape
  have HV0 := Lib.hid hv0
  have hcl := h.ok.cache
  have hbl := h.ok.blocks
  clear h hkv hfar hkl hv1 hv0
  obtain ⟨ln, hln⟩ : ∃ ln, s.cache.length = ln := ⟨_, rfl⟩
  rw [hln] at c1 hcl HV1
  have HLN := Lib.hid hln
  clear hln
  go_enter Try.func36, Try.ntmps36
  go_wp2_with fail
  go_loopw [4] (fun i wx => ∃ (k : Nat) (bk : List ByteArray), k ≤ ln ∧ i = .int .i64 k ∧ Hid (RkAt wx n vb vc { s with blocks := bk } ∧ Turn w wx (DF n vb vc) (DF n vb vc) ∧ bk.length = s.blocks.length ∧ putF (fun k => decide ((k : Int) ∈ keep)) (s.cache.drop k) k bk = putF (fun k => decide ((k : Int) ∈ keep)) s.cache 0 s.blocks)) (fun i _ => ln - (intOf i).toNat)
  case atStart => exact ⟨0, s.blocks, by omega, rfl, Lib.hid ⟨HH.out, Turn.refl _ _, rfl, rfl⟩⟩
  case round =>
    clear c1
    obtain ⟨k, bk, hk, rfl, hN⟩ := hrel
    have c1 := hN.out.1.cells.2.1
    rw [HV1.out] at c1
    by_cases hlt : k < ln
    · obtain ⟨p, hp⟩ : ∃ p, s.cache[k]? = some p := ⟨_, List.getElem?_eq_getElem (by rw [HLN.out]; exact hlt)⟩
      have hrc := hN.out.1.rc.rd
      rw [HV1.out] at hrc
      obtain ⟨gc, oc, rfl, hgc, d0, d1⟩ := hrc.putAt k p hp
      have HS := Lib.hid (putF_step (fun k => decide ((k : Int) ∈ keep)) s.cache k bk p hp)
      have HPA := Lib.hid (HH.out.ok.at_ p (List.mem_of_getElem? hp))
      obtain ⟨pa, pd⟩ := p
      simp only at d0 d1
      have hki : (k : Int) < (ln : Int) := by omega
      have hkw : RdI wr kv keep := by
        obtain ⟨a, cap, e, hc, hx⟩ := HKV.out
        refine ⟨a, cap, e, hc, fun i x hi => ?_⟩
        obtain ⟨⟨b, off, ha, hb, hcell⟩, hr⟩ := hx i x hi
        refine ⟨⟨b, off, ha, Nat.lt_of_lt_of_le hb hN.out.2.1.size, ?_⟩, hr⟩
        exact (World.cell?_of_block (a := ⟨b, off + i, none⟩) (hN.out.2.1.block b hb (HFAR.out (by rintro rfl; simp at hi) b off _ cap (by rw [e, ha])))).trans hcell
      have TC := Lib.hid (in_any kv keep k wr hkw HKL.out)
      clear hrc hp hkw
      cases hf : decide ((k : Int) ∈ keep)
      · simp only [hf] at TC HS
        clear hf
        go_wp2_with fail
        refine TC.out.mono ?_
        rintro e w2 ⟨rfl, rfl⟩
        have HM := Lib.hid (And.intro hN.out.1 (And.intro hN.out.2.1 (And.intro hN.out.2.2.1 (HS.out.symm.trans hN.out.2.2.2))))
        clear d0 d1
        go_wp2_with fail
        go_roundw
        case rel => exact ⟨k + 1, bk, by omega, by go_num, HM⟩
        case measure => simp [intOf]; omega
      · simp only [hf] at TC HS
        clear hf
        go_wp2_with fail
        refine TC.out.mono ?_
        rintro e w2 ⟨rfl, rfl⟩
        obtain ⟨pi, rfl⟩ : ∃ pi : Nat, pa = (pi : Int) := Int.eq_ofNat_of_zero_le HPA.out.1
        have hpl : pi < bk.length := by have := HPA.out.2; have h2 := hN.out.2.2.1; omega
        obtain ⟨g1, cap, hvb, hcap, _, hg1, _⟩ := hN.out.1.rb.pos (by show 0 < bk.length; omega)
        change vb = .slice (some ⟨g1, 0, none⟩) bk.length cap at hvb
        have hrb : Row strE w2 0 9 (.slice (some ⟨g1, 0, none⟩) bk.length cap) bk := hvb ▸ hN.out.1.rb
        obtain ⟨g2, o2, e, _, cg⟩ := hrb.rd.str pi hpl
        simp only [Option.some.injEq, Addr.mk.injEq, and_true] at e
        obtain ⟨rfl, rfl⟩ := e
        rw [Nat.zero_add] at cg
        have fg := row_frozen hrb pi
        have c0 := hN.out.1.cells.1
        rw [hvb] at c0
        have hpli : (pi : Int) < (bk.length : Int) := by omega
        have hbkl : (bk.length : Int) ≤ 1024 := by have := hN.out.2.2.1; omega
        have HVB := Lib.hid (And.intro hvb hrb)
        have HPL := Lib.hid hpl
        clear hvb hrb
        obtain ⟨x, cg'⟩ : ∃ x, w2.cell? ⟨g1, pi, none⟩ = some (.string x) := ⟨_, cg⟩
        clear cg hpl TC
        go_wp2_with fail
        refine wp_region_still_tail 24 (by kernel_rfl) (by kernel_rfl) ?_
        simp only [List.take_succ_cons, List.take_zero, List.drop_succ_cons, List.drop_zero]
        repeat still_step
        refine wpStill_nil ?_
        change wpList _ _ _ _ _ w2.drew
        have hb3 := drew_below w2
        have HM3 := Lib.hid (And.intro (hN.out.1.below hb3) (And.intro (hN.out.2.1.trans (Turn.of_below _ hb3)) (HVB.out.2.below hb3)))
        have cg3 : w2.drew.cell? ⟨g1, pi, none⟩ = some (.string x) := cg'
        have fg3 : w2.drew.frozen? ⟨g1, pi, none⟩ = false := fg
        clear hb3 c0 c1 d0 d1 cg' fg
        generalize w2.drew = w3 at *
        go_wp2_with fail
        obtain ⟨q1, q2⟩ := HM3.out.1.rows (Turn.cell1 w3 g1 pi (.string pd) |>.wide (G := fun k => vb.ownBlock = some k) (G' := fun k => vb.ownBlock = some k) (fun k hk => by subst hk; rw [HVB.out.1]; rfl) (fun k hk => Or.inr (Or.inl hk))) (bk.set pi pd) (by rw [HVB.out.1]; exact HM3.out.2.2.set1 rfl pi HPL.out pd _ rfl)
          ⟨by show (bk.set _ _).length ≤ _; rw [List.length_set]; exact HM3.out.1.ok.blocks, HM3.out.1.ok.cache, fun p hp => by show _ ∧ _ < ((bk.set _ _).length : Int); rw [List.length_set]; exact HM3.out.1.ok.at_ p hp, HM3.out.1.ok.left⟩
        have HQ := Lib.hid (And.intro q1 (And.intro (HM3.out.2.1.trans q2) (And.intro (show (bk.set pi pd).length = s.blocks.length by rw [List.length_set]; exact hN.out.2.2.1) (HS.out.symm.trans hN.out.2.2.2))))
        clear q1 q2
        go_roundw
        case rel => exact ⟨k + 1, bk.set pi pd, by omega, by go_num, HQ⟩
        case measure => simp [intOf]; omega
    · obtain rfl : k = ln := by omega
      have HF := Lib.hid (show bk = (keptC keep s.cache 0).foldl putC s.blocks by
        rw [← putF_kept]; have := hN.out.2.2.2; rw [List.drop_eq_nil_of_le (by rw [HLN.out]; exact Nat.le_refl _)] at this; exact this)
      have f1 := hN.out.1.froz 1
      have f2 := hN.out.1.froz 2
      have f3 := hN.out.1.froz 3
      have c2 := hN.out.1.cells.2.2.1
      have c3 := hN.out.1.cells.2.2.2
      clear hlt hk
      go_wp2_with fail
      have hT := ((Turn.cell wr (F := fun k => k = n ∨ vc.ownBlock = some k) n 1 (.slice none 0 0) (Or.inl rfl)).trans (Turn.cell _ n 2 (.bool true) (Or.inl rfl))).trans (Turn.cell _ n 3 (.int .i64 0) (Or.inl rfl))
      obtain ⟨q1, q2⟩ := hN.out.1.cached (crashD s keep) hT (set_blk (set_blk (set_blk hN.out.1.blk 1 (.slice none 0 0)) 2 (.bool true)) 3 (.int .i64 0)) (Row.nil _ _ _) (fun b e => by simp [Value.ownBlock] at e) (by rw [HF.out]; rfl) (crashD_ok HH.out.ok keep)
      go_end0
      exact HR.out _ _ ⟨rfl, q1, hN.out.2.1.trans q2⟩
end Go.Proofs.Ytielmlnbjliacaa
