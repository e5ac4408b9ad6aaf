/- Texts that the claim rests on, part 11: JrnRight, SuperRPut, SuperRTake, SuperUnpack, SuperTake. -/
import Derived.StillTailTactics
import Derived.Test.YteppfjgglelpbaaGreatM10
/- A disk put right: of the program's journal. -/
set_option maxRecDepth 100000
namespace Go.Proofs.YteppfjgglelpbaaGreat
open Go.RowKit Ks
set_option linter.unusedVariables false
set_option linter.unusedSimpArgs false
attribute [local go_sem] Oper.semAt_some
theorem eg_unlike : ∀ args w, (callFunc 53 args).run Tryz.prog w = .ok (.enter 53 args) w := fun _ _ => rfl
theorem numTJ : ElemT Tryz.prog 48 3 numE.k 8 := elemT_of Tryz.underlying48 (by kernel_rfl : (Tryz.prog.info? 3).map (fun i => (i.zero, i.size, i.bytes)) = some (some (.int .i64 0), 1, 8)) rfl
set_option maxRecDepth 100000 in
set_option maxHeartbeats 16000000 in
theorem jright_any {jn dn : Nat} {spv vb vc : Value} {s : SupT} {br : Bool} {d : DS} (w : World) (h : JHd w jn spv dn vb vc s br d) (hk : sOk s = true) :
    Calls Tryz.prog 50 #[.pointer (some ⟨jn, 0, none⟩)] w fun e w' => e = .returned (.int .i64 (rightE d s)) ∧ ∃ vc', JHd w' jn spv dn vb vc' s (br || decide (rightE d s ≠ 0)) (rightD d s) ∧ Turn w w' (FJ jn dn vb vc) (FJ jn dn vb vc') := by
  have hd : 0 ≤ placeG s 0 ∧ placeG s 0 ≤ 4 := by unfold placeG; split <;> omega
  have ho := sup_ok.1 hk
  have hg := geo_ok.1 ho.1
  have HFR := Lib.hid (show 0 ≤ placeG s 0 + s.tail ∧ placeG s 0 + s.tail ≤ 1024 ∧ 0 ≤ s.b ∧ s.b ≤ 1024 by omega)
  have HD := Lib.hid h
  have HK0 : Hid (∀ w, Calls Tryz.prog 40 #[.int .i64 0] w fun r w' => r = .returned (.int .i64 2) ∧ w' = w) := Lib.hid (fun w => gkey_any 0 w)
  have HK1 : Hid (∀ w, Calls Tryz.prog 40 #[.int .i64 1] w fun r w' => r = .returned (.int .i64 3) ∧ w' = w) := Lib.hid (fun w => gkey_any 1 w)
  have HR2 := Lib.hid (fun (A : World) (vc : Value) (h : DkAt A dn vb vc d) => dread_any 2 A h)
  have HR3 := Lib.hid (fun (A : World) (vc : Value) (h : DkAt A dn vb vc d) => dread_any 3 A h)
  have HSl := Lib.hid (fun w => slempty_any w)
  have HZE := Lib.hid (show ∀ dk x l, zerosE dk (x :: l) = (if writeE dk x (zerosS 4096) ≠ 0 then writeE dk x (zerosS 4096) else zerosE (writeD dk x (zerosS 4096)) l) ∧ zerosD dk (x :: l) = (if writeE dk x (zerosS 4096) ≠ 0 then writeD dk x (zerosS 4096) else zerosD (writeD dk x (zerosS 4096)) l) from fun _ _ _ => ⟨rfl, rfl⟩)
  have HRE : Hid (rightE d s = if zerosE d (rightL d s) ≠ 0 then zerosE d (rightL d s) else if rightL d s = [] then 0 else flushE (zerosD d (rightL d s))) := Lib.hid rfl
  have HRD : Hid (rightD d s = if zerosE d (rightL d s) ≠ 0 then zerosD d (rightL d s) else if rightL d s = [] then d else flushD (zerosD d (rightL d s))) := Lib.hid rfl
  generalize rightE d s = RE at *
  generalize rightD d s = RDD at *
  have HL : Hid (rightL d s = (staleL (readD d 2).1 (readD d 3).1 s.epoch).map keyP ++ unlikeL d (s.b - (placeG s 0 + s.tail)).toNat (placeG s 0 + s.tail)) := Lib.hid rfl
  generalize (readD d 2).1 = T2 at *
  generalize (readD d 2).2 = E2 at *
  generalize (readD d 3).1 = T3 at *
  generalize (readD d 3).2 = E3 at *
  have HST := Lib.hid (fun A => slstale_any T2 T3 s.epoch A)
  have HSL := Lib.hid (staleL_length T2 T3 s.epoch)
  generalize staleL T2 T3 s.epoch = SL at *
  clear hd ho hg hk
  refine (callsIn_wide (n := 5)).1 ?_
  refine callsIn_of_wp_marks Tryz.func50 rfl trivial ?_ rfl
  simp only [Tryz.ntmps50, List.size_toArray, List.length_cons, List.length_nil, Nat.reduceAdd, Nat.reduceSub, Array.replicate_succ, Array.replicate_zero, List.push_toArray, List.append_toArray, List.nil_append, List.cons_append]
  have hb1 := drew_below w
  have HJ1 := Lib.hid (h.below hb1)
  have HB1 := Lib.hid hb1
  clear h hb1
  obtain ⟨⟨z0, z1, z2, z3, z4, z5, z6, z7, z8, z9⟩, -⟩ := blkJ HJ1.out.blk
  have gz1 : w.drew.cell? ⟨jn, 1, none⟩ = some (.pointer (some ⟨dn, 0, none⟩)) := z1
  have HR2a := Lib.hid (HR2.out w.drew vc HJ1.out.dsk)
  gi_wp2
  refine wpIn_wide.2 ?_
  refine wp_region_still_lit (by kernel_rfl) (by kernel_rfl) ?_
  repeat (first | still_call (HK0.out _) | still_call HR2a.out | still_step)
  refine wpStill_nil ?_
  change Exit.then _ _ _ _ w.drew
  clear z0 z1 z2 z3 z4 z5 z6 z7 z8 z9 gz1 HR2a
  generalize w.drew = w1 at *
  have hb2 := drew_below w1
  have HJ2 := Lib.hid (HJ1.out.below hb2)
  have HB2 := Lib.hid (HB1.out.trans (hb2.mono HB1.out.size))
  clear hb2
  obtain ⟨⟨z0, z1, z2, z3, z4, z5, z6, z7, z8, z9⟩, -⟩ := blkJ HJ2.out.blk
  have HR3a := Lib.hid (HR3.out w1.drew vc HJ2.out.dsk)
  gi_wp2
  refine wpIn_wide.2 ?_
  refine wp_region_still_lit (by kernel_rfl) (by kernel_rfl) ?_
  repeat (first | still_call (HK1.out _) | still_call HR3a.out | still_step)
  refine wpStill_nil ?_
  change Exit.then _ _ _ _ w1.drew
  clear HR3a HJ1 HB1 z0 z1 z2 z3 z4 z5 z6 z7 z8 z9
  generalize w1.drew = w2 at *
  obtain ⟨W3, hW3⟩ : ∃ W, w2.alloc (.cells #[.slice none 0 0] 48) = W := ⟨_, rfl⟩
  have b3 : Below w2.heap.size w2 W3 := by rw [← hW3]; exact alloc_below _ _
  have k3 : W3.heap[w2.heap.size]? = some (.cells #[.slice none 0 0] 48 (0, 0)) := by rw [← hW3]; exact alloc_new _ _
  have H3 := Lib.hid (And.intro (HB2.out.trans (b3.mono HB2.out.size)) (And.intro (HJ2.out.below b3) k3))
  clear b3 k3
  have HO := Lib.hid (show ¬ FJ jn dn vb vc w2.heap.size ∧ w.heap.size ≤ w2.heap.size from ⟨fun q => by have := HJ2.out.lt _ q; omega, HB2.out.size⟩)
  obtain ⟨⟨z0, z1, z2, z3, z4, z5, z6, z7, z8, z9⟩, -⟩ := blkJ H3.out.2.1.blk
  gi_wp2
  refine ⟨trivial, (callsIn_wide.2 (HST.out _)).mono ?_⟩
  rintro e v4 ⟨vs, rfl, hv, hb⟩
  have H4 := Lib.hid (And.intro (H3.out.1.trans (hb.mono H3.out.1.size)) (And.intro (H3.out.2.1.below hb) (And.intro (blk_on hb H3.out.2.2) hv)))
  obtain ⟨sa, sc, rfl, -, hcells⟩ := hv
  have HCS := Lib.hid hcells
  clear hb hW3 H3 hcells z0 z1 z2 z3 z4 z5 z6 z7 z8 z9
  gi_wp2
  have HBR := Lib.hid (BoxRow.start (T := 3) H4.out.2.2.1)
  have HBL := Lib.hid (show w2.heap.size < v4.heap.size from lt_of_block H4.out.2.2.1)
  gi_loopw [41] (fun v wr => ∃ (k : Nat) (lv : Value), k ≤ SL.length ∧ v = .int .i64 (k : Int) ∧ Hid (BoxRow v4 w2.heap.size 48 3 lv ((SL.take k).map keyP) wr)) (fun v _ => SL.length - (intOf v).toNat)
  case atStart => exact ⟨0, _, Nat.zero_le _, rfl, HBR⟩
  case round =>
    obtain ⟨k, lv, hk, rfl, hN⟩ := hrel
    by_cases hlt : k < SL.length
    case pos =>
      have hz : decide ((k : Int) < (SL.length : Int)) = true := decide_eq_true (by omega)
      have hki : (k : Int) < (SL.length : Int) := by omega
      obtain ⟨x, hx⟩ : ∃ x, SL[k]? = some x := ⟨_, List.getElem?_eq_getElem hlt⟩
      obtain ⟨⟨b, off, rfl, hbl, hc⟩, hx1, hx2⟩ := HCS.out k x hx
      have hbne : b ≠ w2.heap.size := fun e => by
        subst e
        rw [cell_of_row _ _ _ _ _ _ H4.out.2.2.1] at hc
        cases h9 : off + k with
        | zero => rw [h9] at hc; simp at hc
        | succ q => rw [h9] at hc; simp at hc
      have c9 : wr.cell? ⟨b, off + k, none⟩ = some (.int .i64 x) := (World.cell?_of_block (hN.out.tn.block b hbl hbne)).trans hc
      have HQ := Lib.hid hN.out
      have c0 : wr.cell? ⟨w2.heap.size, 0, none⟩ = some lv := by rw [cell_of_row _ _ _ _ _ _ hN.out.blk]; rfl
      have fc0 : wr.frozen? ⟨w2.heap.size, 0, none⟩ = false := frozen_of_row _ _ _ _ _ hN.out.blk
      have hvbo := hN.out.ne
      have hBwr := hN.out.tn.size
      have HX := Lib.hid (show (SL.take (k + 1)).map keyP = (SL.take k).map keyP ++ [keyP x] by rw [List.take_add_one, hx]; simp)
      have HKX : Hid (∀ w9, Below wr.heap.size wr w9 → Calls Tryz.prog 40 #[.int .i64 x] w9 fun r w' => r = .returned (.int .i64 (keyP x)) ∧ Below w9.heap.size w9 w') := Lib.hid (fun w9 _ => (gkey_any x w9).mono fun e w' ⟨q1, q2⟩ => ⟨q1, by rw [q2]; exact Below.refl _ _⟩)
      have HLN := Lib.hid (show k + 1 ≤ SL.length from hlt)
      have hw2 : wrap64 ((k : Int) + 1) = ((k + 1 : Nat) : Int) := by have := HSL.out; unfold wrap64; omega
      generalize keyP x = y at *
      clear hc hx hx1 hx2 hbl hbne hN hlt hk
      gi_wp2
      refine wpIn_wide.2 ?_
      refine wp_region_mv (fun f => AppCall numE v4.heap.size wr 3 lv ((SL.take k).map keyP) [y] w2.heap.size (f 2) (f 0) (f 3) (f 4) (f 5)) (by kernel_rfl) (AppCall.start HQ.out.row (drew_below wr)) ?_
      obtain ⟨S, F, hF, hFC⟩ := moved_class (fun f => AppCall numE v4.heap.size wr 3 lv ((SL.take k).map keyP) [y] w2.heap.size (f 2) (f 0) (f 3) (f 4) (f 5))
      obtain ⟨S0, F0, hF0, hFC0⟩ := moved_classN (fun f => AppCall numE v4.heap.size wr 3 lv ((SL.take k).map keyP) [y] w2.heap.size (f 2) (f 0) (f 3) (f 4) (f 5)) 0
      have k1c : ∀ s, (F0 s).cell? ⟨w2.heap.size, 0, none⟩ = some lv := fun s => by
        have h := (hFC0 s).choose_spec
        have h2 := h.2
        simp only [h.1] at h2
        exact h2.box c0 hvbo
      show wpAnyM _ _ _ _ _ 6 (Array.replicate 6 false) _ _
      refine mv_readN 0 hF0 (fun f w v _ h => h.read v) rfl (by kernel_rfl) (by kernel_rfl) (by kernel_rfl) (fun K hK => ?_)
      go_simp
      first | refine ⟨_, fun _ => rfl, hK _ _ ?_⟩ | refine hK _ _ ?_
      clear hK K
      refine mv_read 1 hF (fun _ _ _ h => h) rfl (by kernel_rfl) (by kernel_rfl) (by kernel_rfl) (fun K hK => ?_)
      go_simp
      first | refine ⟨_, fun _ => rfl, hK _ _ ?_⟩ | refine hK _ _ ?_
      clear hK K
      refine mv_call1 2 40 rfl (by kernel_rfl) (by kernel_rfl) (by kernel_rfl) rfl rfl eg_gkey (args := #[.int .i64 x]) rfl (u := .int .i64 y) (fun g w9 ha h0 h => ?_) ?_
      · simp only [h0] at h
        exact (HKX.out w9 h.yet).mono fun e w' ⟨h1, h2⟩ => ⟨h1, h.call _ h2⟩
      refine mv_alone 3 rfl (by kernel_rfl) rfl (fun v => ∃ g, v = .slice (some ⟨g, 0, none⟩) 1 1) (fun g w9 ha h0 h D hD => ?_) ?_
      · have h9 := h
        simp only [h0] at h9
        have h8 := h9.made (told_by (agree_on 2 ha (by kernel_rfl)) (rfl : _ = some _)) #[.int .i64 y] rfl
        clear h h9
        go_simp
        exact hD _ _ ⟨_, rfl⟩ h8
      rintro _ ⟨gs, rfl⟩
      refine mv_append 4 rfl (by kernel_rfl) rfl (.tmp 45) (.tmp 48) 48 rfl numTJ v4.heap.size _ _ ((SL.take k).map keyP) [y] rfl rfl (by have := HSL.out; have := HLN.out; simp; omega) (by decide) (fun g w9 ha h0 h => ?_) (fun v' => ∃ a n c, v' = .slice a n c) (fun g w9 v' w' ha h0 h hG => ?_) ?_
      · have e1 : g 3 = some (.slice (some ⟨gs, 0, none⟩) 1 1) := (agree_on 3 ha (by kernel_rfl)).trans rfl
        simp only [e1, h0] at h
        exact h.rows hBwr
      · have e1 : g 3 = some (.slice (some ⟨gs, 0, none⟩) 1 1) := (agree_on 3 ha (by kernel_rfl)).trans rfl
        have e2 : g 0 = some lv := (agree_on 0 ha (by kernel_rfl)).trans rfl
        simp only [e1, e2, h0] at h
        obtain ⟨a9, c9, e9, -⟩ := hG.1.shape
        refine ⟨⟨_, _, _, e9⟩, ?_⟩
        show AppCall _ _ _ _ _ _ _ _ (g 2) (g 0) (g 3) _ _ _
        rw [e1, e2]
        exact h.grew hG
      rintro _ ⟨az, nz, cz, rfl⟩
      refine mv_alone 5 rfl (by kernel_rfl) rfl (fun _ => True) (fun g w9 ha h0 h D hD => ?_) ?_
      · have e1 : g 4 = some (.slice az nz cz) := (agree_on 4 ha (by kernel_rfl)).trans rfl
        simp only [e1, h0] at h
        have q1 := h.unread.cell c0 hvbo
        have q2 := h.unread.frozen c0 fc0 hvbo
        have hD2 := hD undef (w9.setCell ⟨w2.heap.size, 0, none⟩ (.slice az nz cz)) trivial (by show AppCall _ _ _ _ _ _ _ _ (g 2) (g 0) (g 3) (g 4) _ _; rw [e1]; exact h.stored)
        clear hD h
        go_simp
        exact hD2
      rintro vs -
      refine mv_end (by kernel_rfl) ?_
      intro w5 hw5
      obtain ⟨w6, hg6, hu6, hr6, rfl⟩ := AppCall.done4 (show AppCall numE v4.heap.size wr 3 lv ((SL.take k).map keyP) [y] w2.heap.size (some (.int .i64 y)) (some lv) (some (.slice (some ⟨gs, 0, none⟩) 1 1)) (some (.slice az nz cz)) (some vs) w5 from hw5)
      clear hw5 hF hFC hF0 hFC0 k1c
      have HQ2 := Lib.hid (HQ.out.put hr6 hg6 hu6)
      rw [← HX.out] at HQ2
      clear hr6 hg6 hu6 HQ HX c9 c0 fc0 hvbo hBwr
      gi_wp2
      exact ⟨⟨k + 1, _, HLN.out, by rw [hw2], HQ2⟩, by have := HLN.out; rw [hw2]; simp [intOf]; omega⟩
    have hz : decide ((k : Int) < (SL.length : Int)) = false := decide_eq_false (by omega)
    have hki : ¬ (k : Int) < (SL.length : Int) := by omega
    have HN9 : Hid (BoxRow v4 w2.heap.size 48 3 lv (SL.map keyP) wr) := Lib.hid (by have := hN.out; rw [List.take_of_length_le (by omega)] at this; exact this)
    have HJ5 := Lib.hid (H4.out.2.1.keep (w' := wr) fun k q => HN9.out.tn.block k (H4.out.2.1.lt k q) (fun e => HO.out.1 (e ▸ q)))
    have HB5 := Lib.hid (show Below w.heap.size w wr from H4.out.1.trans (HN9.out.tn.below (fun k (e : k = w2.heap.size) => e ▸ HO.out.2) H4.out.1.size))
    clear hN hk hlt HCS
    obtain ⟨⟨z0, z1, z2, z3, z4, z5, z6, z7, z8, z9⟩, -⟩ := blkJ HJ5.out.blk
    have HPl := Lib.hid (fun (A : World) (hA : Below wr.heap.size wr A) => jplace_any 0 A (HJ5.out.below hA) (by have := HFR.out; omega))
    have hwf : IntKind.i64.wrap (placeG s 0 + s.tail) = placeG s 0 + s.tail := by have := HFR.out; rw [IntKind.wrap_i64]; omega
    generalize placeG s 0 = PG at *
    gi_wp2
    refine wpIn_wide.2 ?_
    refine wp_region_mv (fun f => UnlC wr dn (PG + s.tail) s.b (f 18)) (by kernel_rfl) (UnlC.start _ _ _ _) ?_
    obtain ⟨S, F, hF, hFC⟩ := moved_class (fun f => UnlC wr dn (PG + s.tail) s.b (f 18))
    have kz1 : ∀ s2, (F s2).cell? ⟨jn, 1, none⟩ = some (.pointer (some ⟨dn, 0, none⟩)) := fun s2 => (cell_on (hFC s2).choose_spec.b z1).1
    have kz3 : ∀ s2, (F s2).cell? ⟨jn, 3, none⟩ = some (.int .i64 s.tail) := fun s2 => (cell_on (hFC s2).choose_spec.b z3).1
    have kz6 : ∀ s2, (F s2).cell? ⟨jn, 6, none⟩ = some (.int .i64 s.b) := fun s2 => (cell_on (hFC s2).choose_spec.b z6).1
    show wpAnyM _ _ _ _ _ 19 (Array.replicate 19 false) _ _
    refine mv_read 0 hF (fun _ _ _ h => h) rfl (by kernel_rfl) (by kernel_rfl) (by kernel_rfl) (fun K hK => ?_)
    go_simp
    first | refine ⟨_, fun _ => rfl, hK _ _ ?_⟩ | refine hK _ _ ?_
    clear hK K
    refine mv_read 1 hF (fun _ _ _ h => h) rfl (by kernel_rfl) (by kernel_rfl) (by kernel_rfl) (fun K hK => ?_)
    go_simp
    first | refine ⟨_, fun _ => rfl, hK _ _ ?_⟩ | refine hK _ _ ?_
    clear hK K
    refine mv_read 2 hF (fun _ _ _ h => h) rfl (by kernel_rfl) (by kernel_rfl) (by kernel_rfl) (fun K hK => ?_)
    go_simp
    first | refine ⟨_, fun _ => rfl, hK _ _ ?_⟩ | refine hK _ _ ?_
    clear hK K
    refine mv_read 3 hF (fun _ _ _ h => h) rfl (by kernel_rfl) (by kernel_rfl) (by kernel_rfl) (fun K hK => ?_)
    go_simp
    first | refine ⟨_, fun _ => rfl, hK _ _ ?_⟩ | refine hK _ _ ?_
    clear hK K
    refine mv_read 4 hF (fun _ _ _ h => h) rfl (by kernel_rfl) (by kernel_rfl) (by kernel_rfl) (fun K hK => ?_)
    go_simp
    first | refine ⟨_, fun _ => rfl, hK _ _ ?_⟩ | refine hK _ _ ?_
    clear hK K
    refine mv_read 6 hF (fun _ _ _ h => h) rfl (by kernel_rfl) (by kernel_rfl) (by kernel_rfl) (fun K hK => ?_)
    go_simp
    first | refine ⟨_, fun _ => rfl, hK _ _ ?_⟩ | refine hK _ _ ?_
    clear hK K
    refine mv_read 7 hF (fun _ _ _ h => h) rfl (by kernel_rfl) (by kernel_rfl) (by kernel_rfl) (fun K hK => ?_)
    go_simp
    first | refine ⟨_, fun _ => rfl, hK _ _ ?_⟩ | refine hK _ _ ?_
    clear hK K
    refine mv_read 8 hF (fun _ _ _ h => h) rfl (by kernel_rfl) (by kernel_rfl) (by kernel_rfl) (fun K hK => ?_)
    go_simp
    first | refine ⟨_, fun _ => rfl, hK _ _ ?_⟩ | refine hK _ _ ?_
    clear hK K
    refine mv_read 9 hF (fun _ _ _ h => h) rfl (by kernel_rfl) (by kernel_rfl) (by kernel_rfl) (fun K hK => ?_)
    go_simp
    first | refine ⟨_, fun _ => rfl, hK _ _ ?_⟩ | refine hK _ _ ?_
    clear hK K
    refine mv_read 10 hF (fun _ _ _ h => h) rfl (by kernel_rfl) (by kernel_rfl) (by kernel_rfl) (fun K hK => ?_)
    go_simp
    first | refine ⟨_, fun _ => rfl, hK _ _ ?_⟩ | refine hK _ _ ?_
    clear hK K
    refine mv_read 12 hF (fun _ _ _ h => h) rfl (by kernel_rfl) (by kernel_rfl) (by kernel_rfl) (fun K hK => ?_)
    go_simp
    first | refine ⟨_, fun _ => rfl, hK _ _ ?_⟩ | refine hK _ _ ?_
    clear hK K
    refine mv_read 13 hF (fun _ _ _ h => h) rfl (by kernel_rfl) (by kernel_rfl) (by kernel_rfl) (fun K hK => ?_)
    go_simp
    first | refine ⟨_, fun _ => rfl, hK _ _ ?_⟩ | refine hK _ _ ?_
    clear hK K
    refine mv_read 14 hF (fun _ _ _ h => h) rfl (by kernel_rfl) (by kernel_rfl) (by kernel_rfl) (fun K hK => ?_)
    go_simp
    first | refine ⟨_, fun _ => rfl, hK _ _ ?_⟩ | refine hK _ _ ?_
    clear hK K
    refine mv_read 15 hF (fun _ _ _ h => h) rfl (by kernel_rfl) (by kernel_rfl) (by kernel_rfl) (fun K hK => ?_)
    go_simp
    first | refine ⟨_, fun _ => rfl, hK _ _ ?_⟩ | refine hK _ _ ?_
    clear hK K
    refine mv_read 16 hF (fun _ _ _ h => h) rfl (by kernel_rfl) (by kernel_rfl) (by kernel_rfl) (fun K hK => ?_)
    go_simp
    first | refine ⟨_, fun _ => rfl, hK _ _ ?_⟩ | refine hK _ _ ?_
    clear hK K
    refine mv_read 17 hF (fun _ _ _ h => h) rfl (by kernel_rfl) (by kernel_rfl) (by kernel_rfl) (fun K hK => ?_)
    go_simp
    first | refine ⟨_, fun _ => rfl, hK _ _ ?_⟩ | refine hK _ _ ?_
    clear hK K
    refine mv_call 5 35 rfl (by kernel_rfl) rfl rfl eg_jplace (args := #[.pointer (some ⟨jn, 0, none⟩), .int .i64 0]) rfl (fun v => v = .int .i64 PG) (fun g w9 ha h0 h => ?_) ?_
    · refine (HPl.out w9 h.b).mono ?_
      rintro en w8 ⟨q1, q2⟩
      exact ⟨_, q1, rfl, h.on q2⟩
    rintro _ rfl
    refine mv_read 11 hF (fun _ _ _ h => h) rfl (by kernel_rfl) (by kernel_rfl) (by kernel_rfl) (fun K hK => ?_)
    go_simp
    first | refine ⟨_, fun _ => rfl, hK _ _ ?_⟩ | refine hK _ _ ?_
    clear hK K
    refine mv_call 18 53 rfl (by kernel_rfl) rfl rfl eg_unlike (args := #[.pointer (some ⟨dn, 0, none⟩), .int .i64 (PG + s.tail), .int .i64 s.b]) rfl (fun v => ∃ b, v = unlV b) (fun g w9 ha h0 h => ?_) ?_
    · refine (unlike_any dn (PG + s.tail) s.b w9).mono ?_
      rintro en w8 ⟨q1, q2, -, q4, q5, q6⟩
      refine ⟨_, q1, ⟨_, rfl⟩, ?_⟩
      show UnlC _ _ _ _ (upd g 18 _ 18) _
      rw [upd_self]
      exact h.call q2 (Nat.le_refl _) ⟨q4, q5, q6⟩
    rintro _ ⟨ub, rfl⟩
    refine mv_end (by kernel_rfl) ?_
    intro y9 hy9
    have HY := Lib.hid (show Below wr.heap.size wr y9 ∧ wr.heap.size ≤ ub ∧ UnlAt y9 ub dn (PG + s.tail) s.b from ⟨hy9.b, by obtain ⟨b, h1, h2, h3⟩ := hy9.at_ (unlV ub) rfl; cases h2; exact ⟨h1, h3⟩⟩)
    clear hy9 hF hFC kz1 kz3 kz6 z0 z1 z2 z3 z4 z5 z6 z7 z8 z9 HPl
    gi_wp2
    have HBR5 := Lib.hid (show BoxOld y9 w2.heap.size lv.ownBlock v4.heap.size 48 3 lv (SL.map keyP ++ unlikeL d 0 (PG + s.tail)) y9 by rw [show unlikeL d 0 (PG + s.tail) = [] from rfl, List.append_nil]; exact (HN9.out.on HY.out.1).old)
    have HOW := Lib.hid (show ∀ k, (FJ jn dn vb vc k ∨ k = ub ∨ k = ub + 1 ∨ k = ub + 2) → k < y9.heap.size ∧ ¬ (k = w2.heap.size ∨ lv.ownBlock = some k) from fun k hk => by
      have q1 := lt_of_block HY.out.2.2.u
      have q2 := HN9.out.tn.size
      have q3 := HY.out.2.1
      have q4 := HN9.out.lt
      rcases hk with q | q
      · have q5 := H4.out.2.1.lt k q
        refine ⟨by omega, fun e => ?_⟩
        rcases e with e | e
        · exact HO.out.1 (e ▸ q)
        · have := (HN9.out.row.lt e).1; omega
      · refine ⟨by omega, fun e => ?_⟩
        rcases e with e | e
        · omega
        · have := (HN9.out.row.lt e).2; omega)
    have HJ9 := Lib.hid (HJ5.out.below HY.out.1)
    have HB9 := Lib.hid (HB5.out.trans (HY.out.1.mono HB5.out.size))
    have HUY := Lib.hid HY.out.2.2
    have HIt := Lib.hid (unlike_iter 4 (ub + 1) (ub + 2) ub dn vb vc d (PG + s.tail) s.b (by have := HFR.out; omega) (by have := HFR.out; omega))
    have HUS := Lib.hid (fun k => unlikeL_snoc d k (PG + s.tail))
    have HUL := Lib.hid (fun k => unlikeL_length d k (PG + s.tail))
    have HLW := Lib.hid (show ∀ k, (k = w2.heap.size ∨ lv.ownBlock = some k) → w.heap.size ≤ k from fun k q => by
      rcases q with q | q
      · rw [q]; exact HO.out.2
      · have := (HN9.out.row.lt q).1; have := H4.out.1.size; omega)
    have HFL := Lib.hid (show ∀ k, FJ jn dn vb vc k → k < v4.heap.size from H4.out.2.1.lt)
    have HNB := Lib.hid HO.out.1
    clear HBR HN9 HJ5 HB5 HY H4 HBL HO HST HB2 HJ2
    refine wpIn_range_slot (σ := Nat) (α := Int) rfl (by omega) 10 (fun x => .int .i64 x) (gf := 83) (lb := #[.pointer (some ⟨ub + 1, 0, none⟩), .pointer (some ⟨ub + 2, 0, none⟩), .pointer (some ⟨ub, 0, none⟩)]) rfl trivial (enters_of Tryz.func83 (by kernel_rfl) rfl)
      (fun k W => ∃ v, BoxOld y9 w2.heap.size lv.ownBlock v4.heap.size 48 3 v (SL.map keyP ++ unlikeL d k (PG + s.tail)) W) (fun _ _ => False)
      (HIt.out _ y9 fun k A ⟨u, hk⟩ => ?cells) (boxOld_own (fun k => SL.map keyP ++ unlikeL d k (PG + s.tail))) (fun _ _ _ _ h => h.elim) (fun s A B ⟨lv, h⟩ _ hb => ⟨lv, h.on hb⟩) (fun k k' A ⟨u, h⟩ ⟨h1, h2, h3⟩ => ⟨u, by rw [h2, HUS.out, if_neg (fun q => q h3), List.append_nil]; exact h⟩) ⟨_, HBR5.out⟩ ?assign ?body ?done (fun _ _ _ _ h => h.elim)
    case cells =>
      have key : ∀ k, (FJ jn dn vb vc k ∨ k = ub ∨ k = ub + 1 ∨ k = ub + 2) → A.heap[k]? = y9.heap[k]? := fun k q => hk.tn.block k (HOW.out k q).1 (HOW.out k q).2
      have a0 := (key ub (Or.inr (Or.inl rfl))).trans HUY.out.d
      have a1 := (key (ub + 1) (Or.inr (Or.inr (Or.inl rfl)))).trans HUY.out.f
      have a2 := (key (ub + 2) (Or.inr (Or.inr (Or.inr rfl)))).trans HUY.out.u
      exact ⟨by rw [cell_of_row _ _ _ _ _ _ a1]; rfl, by rw [cell_of_row _ _ _ _ _ _ a2]; rfl, by rw [cell_of_row _ _ _ _ _ _ a0]; rfl, HJ9.out.dsk.keep fun k q => key k (Or.inl (Or.inr q))⟩
    case assign =>
      rintro lp x W K hK
      gi_wp2
      exact hK
    case body =>
      rintro lp k x W hW ⟨u, hI⟩ ⟨h1, h2, h3⟩
      have HI := Lib.hid hI
      have HX := Lib.hid (show unlikeL d (k + 1) (PG + s.tail) = unlikeL d k (PG + s.tail) ++ [x] by rw [HUS.out, if_pos (by rw [← h2]; exact h3), ← h2])
      have c0 : W.cell? ⟨w2.heap.size, 0, none⟩ = some u := by rw [cell_of_row _ _ _ _ _ _ hI.blk]; rfl
      have HLN := Lib.hid (show k < (s.b - (PG + s.tail)).toNat from h1)
      clear h1 h2 h3 hW hI
      gi_wp2_with (refine wpListIn_append_row _ rfl _ _ 48 rfl numTJ v4.heap.size _ _ (SL.map keyP ++ unlikeL d k (PG + s.tail)) [x] rfl rfl (HI.out.row.below (alloc_below _ _)) (Rd.single (E := numE) x (alloc_new _ _) rfl) (by have := HI.out.tn.size; have := HI.out.ge; simp; omega) (by have := HSL.out; have := HUL.out k; have := HFR.out; have := HLN.out; simp; omega) (by decide) ?_)
      rintro v' w' ⟨hr, hg, hu, -⟩
      rw [← List.append_assoc] at hr
      obtain ⟨a9, n9, c9, rfl⟩ := hr.any
      have HB1 := Lib.hid (HI.out.on (alloc_below W (.cells #[.int .i64 x] 3)))
      have HBP := Lib.hid (HB1.out.put hr hg hu)
      have c1 : w'.cell? ⟨w2.heap.size, 0, none⟩ = some u := by
        rw [cell_of_row _ _ _ _ _ _ ((hg.block w2.heap.size (lt_of_block HB1.out.blk) fun e => HB1.out.ne e.symm).trans HB1.out.blk)]; rfl
      have f1 : w'.frozen? ⟨w2.heap.size, 0, none⟩ = false := frozen_of_row _ _ _ _ _ ((hg.block w2.heap.size (lt_of_block HB1.out.blk) fun e => HB1.out.ne e.symm).trans HB1.out.blk)
      have HKp := Lib.hid ((KeepsOthers.alloc W (.cells #[.int .i64 x] 3)).trans ((KeepsOthers.of_grownBy hg (fun j o e ho => row_isCells HB1.out.row j o e ho)).trans (KeepsOthers.setCell w' ⟨w2.heap.size, 0, none⟩ (.slice a9 n9 c9))))
      rw [List.append_assoc, ← HX.out] at HBP
      clear hr hg hu HB1 HX c0 HI
      gi_wp2
      exact ⟨HKp.out.from _, k + 1, rfl, _, HBP.out⟩
    case done =>
      rintro D k W hD rfl ⟨u, hI⟩ hK
      have HI := Lib.hid hI
      have HD9 := Lib.hid (And.intro hD hK)
      rw [← HL.out] at HI
      have HF9 := Lib.hid (show (∀ k, FJ jn dn vb vc k → W.heap[k]? = y9.heap[k]?) from fun k q => HI.out.tn.block k (HOW.out k (Or.inl q)).1 (HOW.out k (Or.inl q)).2)
      have HJW := Lib.hid (HJ9.out.keep (w' := W) fun k q => HF9.out k q)
      have HBW := Lib.hid (show Below w.heap.size w W from HB9.out.trans (HI.out.tn.below (fun k q => HLW.out k q) HB9.out.size))
      have c0 : W.cell? ⟨w2.heap.size, 0, none⟩ = some u := by rw [cell_of_row _ _ _ _ _ _ HI.out.blk]; rfl
      have HRW := Lib.hid HI.out.row.rd
      have HOB := Lib.hid (show ∀ b, u.ownBlock = some b → b < W.heap.size ∧ ¬ FJ jn dn vb vc b from fun b e => ⟨(HI.out.row.lt e).2, fun q => by have := HFL.out b q; have := (HI.out.row.lt e).1; omega⟩)
      have hll : (rightL d s).length ≤ 1025 := by rw [HL.out]; have := HSL.out; have := HUL.out (s.b - (PG + s.tail)).toNat; have := HFR.out; simp; omega
      clear HIt HUS HUL HL HJ9 HUY HBR5
      generalize zerosS 4096 = ZS at *
      generalize rightL d s = RL at *
      obtain ⟨ua, uc, rfl, -⟩ := HI.out.row.shape
      have HDD := Lib.hid (show ¬ FJ jn dn vb vc D ∧ w.heap.size ≤ D ∧ D < W.heap.size from ⟨fun q => by have := (HOW.out D (Or.inl q)).1; have := HD9.out.1; omega, by have := HD9.out.1; have := HB9.out.size; omega, lt_of_block HD9.out.2⟩)
      have HKW := Lib.hid HD9.out.2
      have hli : (RL.length : Int) ≤ 1025 := by omega
      have HBK := Lib.hid HI.out.blk
      clear HI HOW HF9 HFL HLW HB9 HD9
      gi_wp2
      clear c0
      gi_loopw [77] (fun v wx => ∃ (k : Nat) (dk : DS) (vd : Value), k ≤ RL.length ∧ v = .int .i64 (k : Int) ∧ Hid (zerosE d RL = zerosE dk (RL.drop k) ∧ zerosD d RL = zerosD dk (RL.drop k) ∧ JHd wx jn spv dn vb vd s br dk ∧ Turn W wx (FJ jn dn vb vc) (FJ jn dn vb vd))) (fun v _ => RL.length - (intOf v).toNat)
      case atStart => exact ⟨0, d, vc, Nat.zero_le _, rfl, Lib.hid ⟨rfl, rfl, HJW.out, Turn.refl _ _⟩⟩
      case round =>
        obtain ⟨k2, dk, vd, hk2, rfl, hN2⟩ := hrel
        by_cases hlt2 : k2 < RL.length
        case pos =>
          have hz2 : decide ((k2 : Int) < (RL.length : Int)) = true := decide_eq_true (by omega)
          obtain ⟨x, hx⟩ : ∃ x, RL[k2]? = some x := ⟨_, List.getElem?_eq_getElem hlt2⟩
          obtain ⟨b, o, hua, hb0, dd⟩ := HRW.out.at k2 x hx
          cases hua
          have c9 : wr.cell? ⟨b, o + k2, none⟩ = some (.int .i64 x) := (World.cell?_of_block (hN2.out.2.2.2.block b hb0 (HOB.out b rfl).2)).trans (by have q := dd 0 _ rfl; rw [show o + k2 * numE.k + 0 = o + k2 from by show o + k2 * 1 + 0 = _; omega] at q; exact q)
          have HDR := Lib.hid (show RL.drop k2 = x :: RL.drop (k2 + 1) by obtain ⟨h2, h3⟩ := List.getElem?_eq_some_iff.1 hx; rw [List.drop_eq_getElem_cons h2, h3])
          have HN2 := Lib.hid (show zerosE d RL = zerosE dk (x :: RL.drop (k2 + 1)) ∧ zerosD d RL = zerosD dk (x :: RL.drop (k2 + 1)) by rw [← HDR.out]; exact ⟨hN2.out.1, hN2.out.2.1⟩)
          have HQ0 := Lib.hid (And.intro hN2.out.2.2.1 hN2.out.2.2.2)
          have HLN := Lib.hid (show k2 + 1 ≤ RL.length from hlt2)
          have hki2 : (k2 : Int) < (RL.length : Int) := by omega
          have hw3 : wrap64 ((k2 : Int) + 1) = ((k2 + 1 : Nat) : Int) := by unfold wrap64; omega
          rw [(HZE.out dk x _).1, (HZE.out dk x _).2] at HN2
          clear hx hb0 dd hN2 HDR hlt2 hk2
          gi_wp2
          refine ⟨trivial, (callsIn_wide.2 (HSl.out wr)).mono ?_⟩
          rintro e x1 ⟨rfl, hb⟩
          have HQ1 := Lib.hid (And.intro (HQ0.out.1.below hb) (HQ0.out.2.trans (Turn.of_below _ hb)))
          clear hb HQ0 c9
          gi_wp2
          refine ⟨trivial, (callsIn_wide.2 (jwrite_any jn x ZS x1)).mono ?_⟩
          rintro e x2 ⟨rfl, hb, hsz, n0, n1, n2⟩
          have HS := Lib.hid (show StpV x2 (FJ jn dn vb vd) jn dn (wrV x1.heap.size (x1.heap.size + 1) (x1.heap.size + 2)) (.wr x ZS) from stp_new HQ1.out.1.lt n0 n1 n2)
          have HQ2 := Lib.hid (And.intro (HQ1.out.1.below hb) (HQ1.out.2.trans (Turn.of_below _ hb)))
          clear hb hsz n0 n1 n2 HQ1
          obtain ⟨W9, hW9⟩ : ∃ W, x2.alloc (.cells #[.func (.func 64) #[] #[.pointer (some ⟨x1.heap.size, 0, none⟩), .pointer (some ⟨x1.heap.size + 1, 0, none⟩), .pointer (some ⟨x1.heap.size + 2, 0, none⟩)]] 43) = W := ⟨_, rfl⟩
          have hbW : Below x2.heap.size x2 W9 := by rw [← hW9]; exact alloc_below x2 _
          have HQ3 := Lib.hid (And.intro (HQ2.out.1.below hbW) (And.intro (HQ2.out.2.trans (Turn.of_below _ hbW)) (show StpL W9 (FJ jn dn vb vd) jn dn x2.heap.size 0 [.wr x ZS] by
            rw [← hW9]
            refine stpL_new HQ2.out.1.lt (fun k x hx => ?_)
            match k, hx with
            | 0, hx => cases hx; exact ⟨_, rfl, HS.out⟩
            | k + 1, hx => exact absurd hx (by simp))))
          clear hbW HQ2 HS
          have HCL := Lib.hid (jsteps_any [.wr x ZS] x2.heap.size 0 1 W9 HQ3.out.1 HQ3.out.2.2 (by simp) (by simp))
          rw [stepsE_one, stepsD_one, show stpE dk (.wr x ZS) = writeE dk x ZS from rfl, show stpD dk (.wr x ZS) = writeD dk x ZS from rfl] at HCL
          generalize writeE dk x ZS = WE at *
          generalize writeD dk x ZS = WD at *
          gi_wp2
          refine ⟨trivial, (callsIn_wide.2 HCL.out).mono ?_⟩
          rintro e y8 ⟨rfl, vc2, h1, h2⟩
          have HQ4 := Lib.hid (And.intro h1 (HQ3.out.2.1.trans h2))
          clear h1 h2 HCL HQ3 hW9
          by_cases hwe : WE = 0
          case pos =>
            subst hwe
            have HQ5 := Lib.hid (show zerosE d RL = zerosE WD (RL.drop (k2 + 1)) ∧ zerosD d RL = zerosD WD (RL.drop (k2 + 1)) ∧ JHd y8 jn spv dn vb vc2 s br WD ∧ Turn W y8 (FJ jn dn vb vc) (FJ jn dn vb vc2) from ⟨by rw [HN2.out.1]; exact if_neg (by simp), by rw [HN2.out.2]; exact if_neg (by simp), by have := HQ4.out.1; simpa using this, HQ4.out.2⟩)
            clear HN2 HQ4
            gi_wp2
            go_roundw
            case rel => exact ⟨k2 + 1, WD, vc2, HLN.out, by first | rw [hw3] | simp, HQ5⟩
            case measure => have := HLN.out; first | (rw [hw3]; simp [intOf]; omega) | (simp [intOf]; omega)
          have hweb : (WE != 0) = true := by simpa using hwe
          have HQ5 := Lib.hid (show RE = WE ∧ RDD = WD by rw [HRE.out, HRD.out, HN2.out.1, HN2.out.2]; simp [hwe])
          have HFN := Lib.hid (jfin HBW.out HDD.out HKW.out HQ4.out.1 HQ4.out.2)
          gi_wp2
          refine ⟨by simp, .inl ⟨_, _, rfl, run_takeDeferred HFN.out.1, ?_⟩⟩
          rw [HQ5.out.1, HQ5.out.2]
          exact ⟨.int .i64 WE, by simp [results, Tryz.results50, go_sem], rfl, vc2, HFN.out.2.1, HFN.out.2.2⟩
        have hz2 : decide ((k2 : Int) < (RL.length : Int)) = false := decide_eq_false (by omega)
        have HN2 := Lib.hid (show zerosE d RL = 0 ∧ zerosD d RL = dk by have h := hN2.out; rw [List.drop_of_length_le (by omega)] at h; exact ⟨h.1, h.2.1⟩)
        have HQ0 := Lib.hid (And.intro hN2.out.2.2.1 hN2.out.2.2.2)
        have hki2 : ¬ (k2 : Int) < (RL.length : Int) := by omega
        have c0 : wr.cell? ⟨w2.heap.size, 0, none⟩ = some (.slice ua RL.length uc) := by rw [cell_of_row _ _ _ _ _ _ ((HQ0.out.2.block _ (lt_of_block HBK.out) HNB.out).trans HBK.out)]; rfl
        clear hN2 hk2 hlt2
        by_cases hn : RL = []
        case pos =>
          have hl0 : RL.length = 0 := by rw [hn]; rfl
          have hl0b : ((RL.length : Int) == 0) = true := by rw [hl0]; rfl
          have HQ1 := Lib.hid (show RE = 0 ∧ RDD = d by rw [HRE.out, HRD.out, HN2.out.1]; exact ⟨by rw [if_neg (by simp), if_pos hn], by rw [if_neg (by simp), if_pos hn]⟩)
          have HQ2 := Lib.hid (show dk = d by rw [← HN2.out.2, hn]; rfl)
          have HFN := Lib.hid (jfin HBW.out HDD.out HKW.out HQ0.out.1 HQ0.out.2)
          rw [HQ2.out] at HFN
          have HFN2 := Lib.hid (show JHd (wr.putObj D (.deferred none)) jn spv dn vb vd s (br || decide ((0 : Int) ≠ 0)) d by have := HFN.out.2.1; simpa using this)
          clear hn hl0
          gi_wp2
          refine ⟨by simp, .inl ⟨_, _, rfl, run_takeDeferred HFN.out.1, ?_⟩⟩
          rw [HQ1.out.1, HQ1.out.2]
          exact ⟨.int .i64 0, by simp [results, Tryz.results50, go_sem], rfl, vd, by have := HFN2.out; simpa using this, HFN.out.2.2⟩
        have hl0b : ((RL.length : Int) == 0) = false := by
          have : RL.length ≠ 0 := fun q => hn (List.length_eq_zero_iff.1 q)
          simpa using hn
        have HQ1 := Lib.hid (show RE = flushE dk ∧ RDD = flushD dk by rw [HRE.out, HRD.out, HN2.out.1, HN2.out.2]; exact ⟨by rw [if_neg (by simp), if_neg hn], by rw [if_neg (by simp), if_neg hn]⟩)
        obtain ⟨⟨z0, z1, z2, z3, z4, z5, z6, z7, z8, z9⟩, -⟩ := blkJ HQ0.out.1.blk
        obtain ⟨W9, hW9⟩ : ∃ W, wr.alloc (.cells #[.func (.func 41) #[.pointer (some ⟨dn, 0, none⟩)] #[]] 43) = W := ⟨_, rfl⟩
        have hbW : Below wr.heap.size wr W9 := by rw [← hW9]; exact alloc_below wr _
        have HQ3 := Lib.hid (And.intro (HQ0.out.1.below hbW) (And.intro (HQ0.out.2.trans (Turn.of_below _ hbW)) (show StpL W9 (FJ jn dn vb vd) jn dn wr.heap.size 0 [.fl] by rw [← hW9]; exact fl_row HQ0.out.1.lt)))
        have HCL := Lib.hid (jsteps_any [.fl] wr.heap.size 0 1 W9 HQ3.out.1 HQ3.out.2.2 (by simp) (by simp))
        rw [stepsE_one, stepsD_one, show stpE dk .fl = flushE dk from rfl, show stpD dk .fl = flushD dk from rfl] at HCL
        clear hbW hn HQ0 HN2
        gi_wp2
        refine ⟨trivial, (callsIn_wide.2 HCL.out).mono ?_⟩
        rintro e y8 ⟨rfl, vc2, h1, h2⟩
        have HQ4 := Lib.hid (And.intro h1 (HQ3.out.2.1.trans h2))
        clear h1 h2 HCL HQ3 hW9 z0 z1 z2 z3 z4 z5 z6 z7 z8 z9
        have HFN := Lib.hid (jfin HBW.out HDD.out HKW.out HQ4.out.1 HQ4.out.2)
        generalize flushE dk = FE at *
        gi_wp2
        refine ⟨by simp, .inl ⟨_, _, rfl, run_takeDeferred HFN.out.1, ?_⟩⟩
        rw [HQ1.out.1, HQ1.out.2]
        exact ⟨.int .i64 FE, by simp [results, Tryz.results50, go_sem], rfl, vc2, by have := HFN.out.2.1; simpa using this, HFN.out.2.2⟩
end Go.Proofs.YteppfjgglelpbaaGreat
/- A superblock's bytes: the reference's. -/
namespace Go.Proofs.YteppfjgglelpbaaGreat
open Go.RowKit Ks
set_option linter.unusedVariables false
end Go.Proofs.YteppfjgglelpbaaGreat
/- Which superblock any bytes are: the reference's Take. -/
namespace Go.Proofs.YteppfjgglelpbaaGreat
open Go.RowKit Ks
set_option linter.unusedVariables false
/-- the superblock that bytes are -/
def stV (s : ByteArray) : Value := supV (stN s 9 8) (stN s 17 4) (stN s 21 4) (stN s 25 8) (stN s 33 4) (stN s 37 4) (stN s 41 4)
theorem stV_no {s : ByteArray} (h : ¬ stOk s = true) : stV s = supV 0 0 0 0 0 0 0 ∧ stOk s = false ∧ stE s = 3 := by
  have := st_no h
  exact ⟨by unfold stV; simp only [this.2.2], this.2.1, this.1⟩
theorem stV_yes {s : ByteArray} (h : stOk s = true) : stV s = supV (numAt s 9 8) (numAt s 17 4) (numAt s 21 4) (numAt s 25 8) (numAt s 33 4) (numAt s 37 4) (numAt s 41 4) ∧ stOk s = true ∧ stE s = 0 := by
  have := st_yes h
  exact ⟨by unfold stV; simp only [this.2], h, this.1⟩
end Go.Proofs.YteppfjgglelpbaaGreat
/- What a superblock's bytes are unpacked to. Plain. -/
namespace Ks
open Go Go.RowKit
set_option linter.unusedVariables false
theorem RdI.fourS {w : World} {v : Value} {x0 x1 x2 x3 : Int} (h : RdI w v [x0, x1, x2, x3]) : ∃ b o cap, v = .slice (some ⟨b, o, none⟩) 4 cap ∧ b < w.heap.size ∧
    w.cell? ⟨b, o, none⟩ = some (.int .i64 x0) ∧ w.cell? ⟨b, o + 1, none⟩ = some (.int .i64 x1) ∧ w.cell? ⟨b, o + 2, none⟩ = some (.int .i64 x2) ∧ w.cell? ⟨b, o + 3, none⟩ = some (.int .i64 x3) := by
  obtain ⟨a, cap, rfl, _, h⟩ := h
  obtain ⟨⟨b, o, rfl, hb, h0⟩, _⟩ := h 0 x0 rfl
  obtain ⟨⟨b1, o1, e1, _, h1⟩, _⟩ := h 1 x1 rfl
  obtain ⟨⟨b2, o2, e2, _, h2⟩, _⟩ := h 2 x2 rfl
  obtain ⟨⟨b3, o3, e3, _, h3⟩, _⟩ := h 3 x3 rfl
  cases e1; cases e2; cases e3
  exact ⟨b, o, cap, rfl, hb, h0, h1, h2, h3⟩
theorem sup_unpack (s : ByteArray) (hz : s.size = 4096) :
    (s.extract 9 s.size).size = 4087 ∧ (s.extract 9 s.size).extract 24 36 = s.extract 33 45 ∧
    ((numAt s 9 8 ≤ 9223372036854775807 ∧ numAt s 25 8 ≤ 9223372036854775807 ∧ unpackE [8, 4, 4, 8] ((s.extract 9 s.size).extract 0 24) = 0 ∧ unpackL [8, 4, 4, 8] ((s.extract 9 s.size).extract 0 24) = [(numAt s 9 8 : Int), (numAt s 17 4 : Int), (numAt s 21 4 : Int), (numAt s 25 8 : Int)]) ∨
    ((9223372036854775807 < numAt s 9 8 ∨ 9223372036854775807 < numAt s 25 8) ∧ unpackE [8, 4, 4, 8] ((s.extract 9 s.size).extract 0 24) = 3)) := by
  have hl := data_length s
  obtain ⟨L, hL⟩ : ∃ L, s.data.toList = L := ⟨_, rfl⟩
  have hLz : L.length = 4096 := by rw [← hL]; omega
  have hu : ((s.extract 9 s.size).extract 0 24).data.toList = (L.drop 9).take 24 := by
    rw [data_extract, data_extract, hL, hz, List.drop_zero, List.take_take]; rfl
  have hzu : ((s.extract 9 s.size).extract 0 24).size = 24 := by rw [ByteArray.size_extract, ByteArray.size_extract]; omega
  refine ⟨by rw [ByteArray.size_extract]; omega, ?_, ?_⟩
  · rw [ByteArray.extract_extract, show min (9 + 36) s.size = 45 by omega]
  obtain ⟨u, hU⟩ : ∃ u, (s.extract 9 s.size).extract 0 24 = u := ⟨_, rfl⟩
  rw [hU] at hu hzu ⊢
  have p0 : piece [8, 4, 4, 8] u.data.toList 0 = (L.drop 9).take 8 := by
    show (u.data.toList.drop 0).take 8 = _
    rw [hu, List.drop_zero, List.take_take]; rfl
  have p1 : piece [8, 4, 4, 8] u.data.toList 1 = (L.drop 17).take 4 := by
    show (u.data.toList.drop 8).take 4 = _
    rw [hu, List.drop_take, List.take_take, List.drop_drop]; rfl
  have p2 : piece [8, 4, 4, 8] u.data.toList 2 = (L.drop 21).take 4 := by
    show (u.data.toList.drop 12).take 4 = _
    rw [hu, List.drop_take, List.take_take, List.drop_drop]; rfl
  have p3 : piece [8, 4, 4, 8] u.data.toList 3 = (L.drop 25).take 8 := by
    show (u.data.toList.drop 16).take 8 = _
    rw [hu, List.drop_take, List.take_take, List.drop_drop]; rfl
  have n9 : numAt s 9 8 = getN ((L.drop 9).take 8) := by rw [← hL]; rfl
  have n17 : numAt s 17 4 = getN ((L.drop 17).take 4) := by rw [← hL]; rfl
  have n21 : numAt s 21 4 = getN ((L.drop 21).take 4) := by rw [← hL]; rfl
  have n25 : numAt s 25 8 = getN ((L.drop 25).take 8) := by rw [← hL]; rfl
  have l9 : ((L.drop 9).take 8).length = 8 := by rw [List.length_take, List.length_drop]; omega
  have l25 : ((L.drop 25).take 8).length = 8 := by rw [List.length_take, List.length_drop]; omega
  have ok8 : ∀ l : List UInt8, l.length = 8 → (getOk l = true ↔ getN l ≤ 9223372036854775807) := fun l h => by
    simp only [getOk, decide_eq_true_eq]
    rw [h]
    exact ⟨fun h => h.2.2, fun h => ⟨by omega, by omega, h⟩⟩
  by_cases hg : numAt s 9 8 ≤ 9223372036854775807 ∧ numAt s 25 8 ≤ 9223372036854775807
  · left
    have hE : unpackE [8, 4, 4, 8] u = 0 := by
      rw [unpackE, if_pos (by decide), if_pos (by rw [hzu]; rfl), if_pos]
      simp only [piecesOk, decide_eq_true_eq]
      intro i hi
      match i, hi with
      | 0, _ => rw [p0, ok8 _ l9, ← n9]; exact hg.1
      | 1, _ => rw [p1]; exact getOk_small _ (by simp; omega) (by simp; omega)
      | 2, _ => rw [p2]; exact getOk_small _ (by simp; omega) (by simp; omega)
      | 3, _ => rw [p3, ok8 _ l25, ← n25]; exact hg.2
      | n + 4, hi => exact absurd hi (by simp)
    refine ⟨hg.1, hg.2, hE, ?_⟩
    rw [unpackL, if_pos hE]
    show (List.range 4).map _ = _
    rw [show List.range 4 = [0, 1, 2, 3] from rfl]
    simp only [List.map_cons, List.map_nil]
    rw [p0, p1, p2, p3, n9, n17, n21, n25]
  · right
    refine ⟨by omega, ?_⟩
    rw [unpackE, if_pos (by decide), if_pos (by rw [hzu]; rfl), if_neg]
    simp only [piecesOk, decide_eq_true_eq]
    intro h
    refine hg ⟨?_, ?_⟩
    · have := h 0 (by decide); rw [p0, ok8 _ l9, ← n9] at this; exact this
    · have := h 3 (by decide); rw [p3, ok8 _ l25, ← n25] at this; exact this
end Ks
/- Which superblock any bytes are: super.Take. -/
namespace Go.Proofs.YteppfjgglelpbaaGreat
open Go.RowKit Ks
set_option linter.unusedVariables false
theorem swidths_rd (w : World) : Calls Tryz.prog 95 #[] w fun e w' => ∃ a cap, e = .returned (.slice a 4 cap) ∧ RdI w' (.slice a 4 cap) [8, 4, 4, 8] ∧ Below w.heap.size w w' := by
  refine (swidths_any w).mono ?_
  rintro en w1 ⟨rfl, rfl⟩
  exact ⟨_, _, rfl, RdI.block _ 3 (0, 0) 4 rfl (by decide) (alloc_new w _), alloc_below w _⟩
theorem rd4_drew (w : World) : RdI ((w.alloc (.cells #[.int .i64 8, .int .i64 4, .int .i64 4, .int .i64 8] 3)).drew) (.slice (some ⟨w.heap.size, 0, none⟩) 4 4) [8, 4, 4, 8] :=
  (RdI.block (w := w.alloc (.cells #[.int .i64 8, .int .i64 4, .int .i64 4, .int .i64 8] 3)) [8, 4, 4, 8] 3 (0, 0) 4 rfl (by decide) (alloc_new w _)).below (drew_below _)
set_option maxHeartbeats 4000000 in
set_option maxRecDepth 100000 in
theorem stake_any (s : ByteArray) (w : World) :
    Calls Tryz.prog 97 #[.string s] w fun en w' => en = .returned (.tuple #[stV s, .int .i64 (stE s)]) ∧ Below w.heap.size w w' := by
  refine calls_by fun R HR => ?_
  obtain ⟨W, hW⟩ : ∃ W, w.alloc (.cells #[.int .i64 0, .int .i64 0, .int .i64 0, .int .i64 0, .int .i64 0, .int .i64 0, .int .i64 0] 29) = W := ⟨_, rfl⟩
  have HW := Lib.hid (And.intro (show Below w.heap.size w W by rw [← hW]; exact alloc_below w _) (show W.heap[w.heap.size]? = some (.cells #[.int .i64 0, .int .i64 0, .int .i64 0, .int .i64 0, .int .i64 0, .int .i64 0, .int .i64 0] 29 (0, 0)) by rw [← hW]; exact alloc_new w _))
  by_cases hz : s.size = 4096
  · have hzb : ((s.size : Int) != 4096) = false := by rw [hz]; rfl
    have hs1 : (9 : Int) ≤ (s.size : Int) := by omega
    have hs2 : 9 ≤ s.size := by omega
    by_cases hm : (s.extract 0 9).data.toList = markL
    · have hmb : s.extract 0 9 = ByteArray.mk #[107, 101, 101, 112, 115, 97, 107, 101, 49] := by
        cases hx : s.extract 0 9 with
        | mk d => rw [hx] at hm; congr 1; exact Array.toList_inj.1 hm
      obtain ⟨hrz, hrg, hun⟩ := sup_unpack s hz
      obtain ⟨rest, hrest⟩ : ∃ rest, s.extract 9 s.size = rest := ⟨_, rfl⟩
      rw [hrest] at hrz hrg hun
      obtain ⟨u, hu⟩ : ∃ u, rest.extract 0 24 = u := ⟨_, rfl⟩
      rw [hu] at hun
      have huz : u.size = 24 := by rw [← hu, ByteArray.size_extract]; omega
      have HUZ := Lib.hid huz
      have HUN := Lib.hid hun
      have HRG := Lib.hid hrg
      have HU := Lib.hid hu
      have HRE : Hid (s.extract 9 4096 = rest) := Lib.hid (by rw [← hrest, hz])
      have HGT := Lib.hid (st_geo s hz)
      have HNO := Lib.hid (And.intro (@stV_no s) (And.intro (@stV_yes s) (@st_ok s)))
      have hr1 : (24 : Int) ≤ (rest.size : Int) ∧ (36 : Int) ≤ (rest.size : Int) := by omega
      have hr2 : 24 ≤ rest.size ∧ 36 ≤ rest.size := by omega
      obtain ⟨hr3, hr4⟩ := hr1
      obtain ⟨ht3, ht4⟩ := hr2
      clear hun hrg hu hrest huz hm hrz
      go_enter Tryz.func97, Tryz.ntmps97
      go_wp2_with fail
      refine (swidths_rd _).mono ?_
      rintro en w1 ⟨a, cap, rfl, hrd, hb1⟩
      have H1 := Lib.hid (And.intro (HW.out.1.trans (hb1.mono HW.out.1.size)) ((hb1.block _ (lt_of_block HW.out.2)).trans HW.out.2))
      obtain ⟨bL, oL, cL, hv, hbL, l0, l1, l2, l3⟩ := hrd.fourS
      injection hv with hva hvb hvc
      subst hva
      subst hvc
      clear hrd hb1 hvb hW
      go_wp2_with fail
      go_loopg [26, 4] 4 (fun g i v wx => ∃ (k : Nat) (x y : Int), k + g = 4 ∧ i = .int .i64 x ∧ v = .int .i64 y ∧ Hid ((k = 0 ∧ x = 0 ∧ y = 0) ∨ (k = 1 ∧ x = 1 ∧ y = 8) ∨ (k = 2 ∧ x = 2 ∧ y = 12) ∨ (k = 3 ∧ x = 3 ∧ y = 16) ∨ (k = 4 ∧ x = 4 ∧ y = 24)) ∧ wx = w1)
      case atStart => exact ⟨0, 0, 0, rfl, rfl, rfl, Lib.hid (.inl ⟨rfl, rfl, rfl⟩), rfl⟩
      case round =>
        obtain ⟨k, x, y, hk, rfl, rfl, hxy, rfl⟩ := hrel
        rcases hxy.out with ⟨rfl, rfl, rfl⟩ | ⟨rfl, rfl, rfl⟩ | ⟨rfl, rfl, rfl⟩ | ⟨rfl, rfl, rfl⟩ | ⟨rfl, rfl, rfl⟩
        · go_wp2_with fail
          go_roundg (gk - 1)
          case rel => exact ⟨1, 1, 8, by omega, rfl, rfl, Lib.hid (.inr (.inl ⟨rfl, rfl, rfl⟩)), rfl⟩
          case measure => omega
        · go_wp2_with fail
          go_roundg (gk - 1)
          case rel => exact ⟨2, 2, 12, by omega, rfl, rfl, Lib.hid (.inr (.inr (.inl ⟨rfl, rfl, rfl⟩))), rfl⟩
          case measure => omega
        · go_wp2_with fail
          go_roundg (gk - 1)
          case rel => exact ⟨3, 3, 16, by omega, rfl, rfl, Lib.hid (.inr (.inr (.inr (.inl ⟨rfl, rfl, rfl⟩)))), rfl⟩
          case measure => omega
        · go_wp2_with fail
          go_roundg (gk - 1)
          case rel => exact ⟨4, 4, 24, by omega, rfl, rfl, Lib.hid (.inr (.inr (.inr (.inr ⟨rfl, rfl, rfl⟩)))), rfl⟩
          case measure => omega
        · clear l0 l1 l2 l3
          go_wp2_with fail
          rw [HRE.out]
          have HUn := fun (w1 : World) (v : Value) (h : RdI w1 v [8, 4, 4, 8]) => unpack_any v [8, 4, 4, 8] u w1 h (by decide) (by have := HUZ.out; omega)
          obtain ⟨uE, hE⟩ : ∃ uE, unpackE [8, 4, 4, 8] u = uE := ⟨_, rfl⟩
          obtain ⟨uL, hL⟩ : ∃ uL, unpackL [8, 4, 4, 8] u = uL := ⟨_, rfl⟩
          rw [hE, hL] at HUN
          simp only [hE, hL] at HUn
          have HUM := Lib.hid HUn
          clear HUn
          obtain ⟨z0, -⟩ := blk7 H1.out.2
          have hz1 : w.heap.size < wr.heap.size := lt_of_block H1.out.2
          clear hE hL hxy hk hmb hbL
          go_region_held3 (fun w' => w'.cell? ⟨w.heap.size, 0, none⟩ = some (.int .i64 0))
            (first | go_keep)
            (first
              | (go_at_call 95; refine (swidths_any _).mono ?_; rintro en w2 ⟨rfl, rfl⟩)
              | (go_at_call 113; rw [HU.out]; refine (HUM.out _ _ (rd4_drew wr)).mono ?_; rintro en w3 ⟨v, rfl, hr, hb3⟩; have hbb := Below.trans (((Below.refl wr.heap.size wr).alloc (Nat.le_refl _) _).drew) (hb3.mono (by simp)); clear hb3; have k0 := (hbb.cell (p := ⟨w.heap.size, 0, none⟩) hz1).trans z0; have H3 := Lib.hid (And.intro (H1.out.1.trans (hbb.mono H1.out.1.size)) (And.intro ((hbb.block _ (lt_of_block H1.out.2)).trans H1.out.2) hr)); clear hbb hr))
          all_goals
            rename_i hHeld
            clear hHeld k0 z0 hz1
            have HGZ := Lib.hid HGT.out.1
            obtain ⟨p0, hp0⟩ : ∃ p0 : Int, gN0 (s.extract 33 45) = p0 := ⟨_, rfl⟩
            obtain ⟨p1, hp1⟩ : ∃ p1 : Int, gN1 (s.extract 33 45) = p1 := ⟨_, rfl⟩
            obtain ⟨p2, hp2⟩ : ∃ p2 : Int, gN2 (s.extract 33 45) = p2 := ⟨_, rfl⟩
            obtain ⟨te, hte⟩ : ∃ te : Int, gTE (s.extract 33 45) = te := ⟨_, rfl⟩
            have HT := Lib.hid (And.intro hp0 (And.intro hp1 (And.intro hp2 hte)))
            have hbad : (9223372036854775807 < numAt s 9 8 ∨ 9223372036854775807 < numAt s 25 8 ∨ geoT (s.extract 33 45) = false) → ¬ stOk s = true := by
              intro hb hok
              obtain ⟨-, ho, -⟩ := st_ok.1 hok
              obtain ⟨hg, o1, o2, o3, o4, o5, o6, o7, o8⟩ := sup_ok.1 ho
              rw [← HGT.out.2.1] at hg
              rcases hb with hb | hb | hb
              · omega
              · omega
              · rw [hb] at hg; cases hg
            clear hp0 hp1 hp2 hte
            go_wp2_with fail
            rw [HRG.out]
            refine (gtake_any _ _ (by rw [HGZ.out]; decide)).mono ?_
            rintro en w4 ⟨rfl, hb4⟩
            rw [HT.out.1, HT.out.2.1, HT.out.2.2.1, HT.out.2.2.2]
            obtain ⟨W5, hW5⟩ : ∃ W5, w4.alloc (.cells #[.int .i64 p0, .int .i64 p1, .int .i64 p2] 27) = W5 := ⟨_, rfl⟩
            have hb5 : Below w4.heap.size w4 W5 := by rw [← hW5]; exact alloc_below w4 _
            have k5 : W5.heap[w4.heap.size]? = some (.cells #[.int .i64 p0, .int .i64 p1, .int .i64 p2] 27 (0, 0)) := by rw [← hW5]; exact alloc_new w4 _
            have hbW := hb4.trans (hb5.mono hb4.size)
            have H5 := Lib.hid (And.intro (H3.out.1.trans (hbW.mono H3.out.1.size)) (And.intro ((hbW.block _ (lt_of_block H3.out.2.1)).trans H3.out.2.1) (And.intro (H3.out.2.2.below hbW) k5)))
            clear hb4 hb5 k5 hbW
            rcases HUN.out with ⟨e0, e3, rfl, rfl⟩ | ⟨hb, rfl⟩
            · cases hT : geoT (s.extract 33 45)
              · have HV := Lib.hid (stV_no (hbad (.inr (.inr hT))))
                obtain ⟨y0, y1, y2, y3, -⟩ := geoT_no (s := s.extract 33 45) (by rw [hT]; exact Bool.false_ne_true)
                obtain rfl : te = 3 := by rw [← HT.out.2.2.2]; exact y3
                clear y0 y1 y2 y3 hT hbad e0 e3
                obtain ⟨z0, z1, z2, z3, z4, z5, z6⟩ := blk7 H5.out.2.1
                obtain ⟨f0, f1, f2, f3, f4, f5, f6⟩ := fro7 H5.out.2.1
                go_wp2
                refine bodyPost_ret (v := .tuple #[supV 0 0 0 0 0 0 0, .int .i64 3]) (by simp [results, Tryz.results97, go_sem, supV, z0, z1, z2, z3, z4, z5, z6]) rfl ?_
                exact HR.out _ _ ⟨by rw [HV.out.1, HV.out.2.2], by (repeat refine Below.setCell ?_ (by simp) _); exact H5.out.1⟩
              · obtain ⟨y0, y1, y2, y3⟩ := geoT_yes hT
                obtain rfl : te = 0 := by rw [← HT.out.2.2.2]; exact y3
                have HQ := And.intro (fun (h : supOk (numAt s 9 8) (numAt s 17 4) (numAt s 21 4) (numAt s 25 8) (numAt s 33 4) (numAt s 37 4) (numAt s 41 4) = true ∧ supS (numAt s 9 8) (numAt s 17 4) (numAt s 21 4) (numAt s 25 8) (numAt s 33 4) (numAt s 37 4) (numAt s 41 4) = s) => stV_yes (st_ok.2 ⟨hz, h.1, h.2⟩)) (fun (h : ¬ (supOk (numAt s 9 8) (numAt s 17 4) (numAt s 21 4) (numAt s 25 8) (numAt s 33 4) (numAt s 37 4) (numAt s 41 4) = true ∧ supS (numAt s 9 8) (numAt s 17 4) (numAt s 21 4) (numAt s 25 8) (numAt s 33 4) (numAt s 37 4) (numAt s 41 4) = s)) => stV_no (s := s) fun ho => h (st_ok.1 ho).2)
                have hB := numAt_lt s 33
                have HB : Hid (-9223372036854775808 ≤ p0 ∧ p0 ≤ 9223372036854775807) := Lib.hid (by rw [← HT.out.1, y0, HGT.out.2.2.1]; omega)
                have hq0 : (numAt s 33 4 : Int) = p0 := by rw [← HT.out.1, y0, HGT.out.2.2.1]
                have hq1 : (numAt s 37 4 : Int) = p1 := by rw [← HT.out.2.1, y1, HGT.out.2.2.2.1]
                have hq2 : (numAt s 41 4 : Int) = p2 := by rw [← HT.out.2.2.1, y2, HGT.out.2.2.2.2]
                have HRD := H5.out.2.2.1
                rw [hq0, hq1, hq2] at HQ
                clear HUN HUM hbad HNO HGT e0 e3 y0 y1 y2 y3
                generalize (numAt s 9 8 : Int) = m0 at HQ HRD
                generalize (numAt s 17 4 : Int) = m1 at HQ HRD
                generalize (numAt s 21 4 : Int) = m2 at HQ HRD
                generalize (numAt s 25 8 : Int) = m3 at HQ HRD
                have HP := Lib.hid HQ
                have H6 := Lib.hid (And.intro H5.out.1 (And.intro H5.out.2.1 H5.out.2.2.2))
                obtain ⟨b8, o8, c8, rfl, hb8, l0, l1, l2, l3⟩ := HRD.fourS
                obtain ⟨y0, y1, y2, -, -, -⟩ := blk3 H6.out.2.2
                clear hT hB hq0 hq1 hq2 HRD HQ H5 H3
                go_wp2_with fail
                clear hW5
                go_region_held3 (fun w' => w'.cell? ⟨b8, o8, none⟩ = some (.int .i64 m0) ∧ w'.cell? ⟨b8, o8 + 1, none⟩ = some (.int .i64 m1) ∧ w'.cell? ⟨b8, o8 + 2, none⟩ = some (.int .i64 m2) ∧ w'.cell? ⟨b8, o8 + 3, none⟩ = some (.int .i64 m3) ∧ w'.cell? ⟨w4.heap.size, 0, none⟩ = some (.int .i64 p0) ∧ w'.cell? ⟨w4.heap.size, 1, none⟩ = some (.int .i64 p1) ∧ w'.cell? ⟨w4.heap.size, 2, none⟩ = some (.int .i64 p2))
                  (first | go_keep)
                  (first | fail)
                all_goals
                  rename_i hHeld
                  clear hHeld
                  obtain ⟨W7, hW7⟩ : ∃ W7, (W5.alloc (.cells #[.int .i64 m0, .int .i64 m1, .int .i64 m2, .int .i64 m3, .int .i64 p0, .int .i64 p1, .int .i64 p2] 29)).drew = W7 := ⟨_, rfl⟩
                  have hb7 : Below W5.heap.size W5 W7 := by rw [← hW7]; exact (alloc_below W5 _).drew
                  have k7 : W7.heap[W5.heap.size]? = some (.cells #[.int .i64 m0, .int .i64 m1, .int .i64 m2, .int .i64 m3, .int .i64 p0, .int .i64 p1, .int .i64 p2] 29 (0, 0)) := by rw [← hW7]; exact alloc_new W5 _
                  rw [hW7]
                  have H7 := Lib.hid (And.intro (H6.out.1.trans (hb7.mono H6.out.1.size)) (And.intro ((hb7.block _ (lt_of_block H6.out.2.1)).trans H6.out.2.1) k7))
                  obtain ⟨d0, d1, d2, d3, d4, d5, d6⟩ := blk7 k7
                  clear hb7 k7 hW7 l0 l1 l2 l3 y0 y1 y2 hb8
                  go_wp2_with fail
                  refine (sput_any m0 m1 m2 m3 p0 p1 p2 _ HB.out).mono ?_
                  rintro en w8 ⟨rfl, hb8⟩
                  have H8 := Lib.hid (And.intro (H7.out.1.trans (hb8.mono H7.out.1.size)) (And.intro ((hb8.block _ (lt_of_block H7.out.2.1)).trans H7.out.2.1) ((hb8.block _ (lt_of_block H7.out.2.2)).trans H7.out.2.2)))
                  clear hb8 d0 d1 d2 d3 d4 d5 d6
                  obtain ⟨d0, d1, d2, d3, d4, d5, d6⟩ := blk7 H8.out.2.2
                  cases hk : supOk m0 m1 m2 m3 p0 p1 p2
                  · have HV := Lib.hid (HP.out.2 (by rw [hk]; rintro ⟨h, -⟩; cases h))
                    rw [(sup_no hk).2]
                    clear hk
                    obtain ⟨z0, z1, z2, z3, z4, z5, z6⟩ := blk7 H8.out.2.1
                    obtain ⟨f0, f1, f2, f3, f4, f5, f6⟩ := fro7 H8.out.2.1
                    go_wp2
                    refine bodyPost_ret (v := .tuple #[supV 0 0 0 0 0 0 0, .int .i64 3]) (by simp [results, Tryz.results97, go_sem, supV, z0, z1, z2, z3, z4, z5, z6]) rfl ?_
                    exact HR.out _ _ ⟨by rw [HV.out.1, HV.out.2.2], by (repeat refine Below.setCell ?_ (by simp) _); exact H8.out.1⟩
                  · by_cases hs : supS m0 m1 m2 m3 p0 p1 p2 = s
                    · have HV := Lib.hid (HP.out.1 ⟨hk, hs⟩)
                      rw [hs, sup_yes hk]
                      clear hk hs
                      obtain ⟨z0, z1, z2, z3, z4, z5, z6⟩ := blk7 H8.out.2.1
                      obtain ⟨f0, f1, f2, f3, f4, f5, f6⟩ := fro7 H8.out.2.1
                      go_wp2
                      refine bodyPost_ret (v := .tuple #[supV m0 m1 m2 m3 p0 p1 p2, .int .i64 0]) (by simp [results, Tryz.results97, go_sem, supV, z0, z1, z2, z3, z4, z5, z6]) rfl ?_
                      exact HR.out _ _ ⟨by rw [HV.out.1, HV.out.2.2], by (repeat refine Below.setCell ?_ (by simp) _); exact H8.out.1⟩
                    · have HV := Lib.hid (HP.out.2 fun h => hs h.2)
                      have hsb := str_neq hs
                      rw [sup_yes hk]
                      clear hk
                      obtain ⟨z0, z1, z2, z3, z4, z5, z6⟩ := blk7 H8.out.2.1
                      obtain ⟨f0, f1, f2, f3, f4, f5, f6⟩ := fro7 H8.out.2.1
                      go_wp2
                      refine bodyPost_ret (v := .tuple #[supV 0 0 0 0 0 0 0, .int .i64 3]) (by simp [results, Tryz.results97, go_sem, supV, z0, z1, z2, z3, z4, z5, z6]) rfl ?_
                      exact HR.out _ _ ⟨by rw [HV.out.1, HV.out.2.2], by (repeat refine Below.setCell ?_ (by simp) _); exact H8.out.1⟩
            · have HV := Lib.hid (stV_no (hbad (hb.elim .inl fun h => .inr (.inl h))))
              clear hb hbad
              obtain ⟨z0, z1, z2, z3, z4, z5, z6⟩ := blk7 H5.out.2.1
              obtain ⟨f0, f1, f2, f3, f4, f5, f6⟩ := fro7 H5.out.2.1
              go_wp2
              refine bodyPost_ret (v := .tuple #[supV 0 0 0 0 0 0 0, .int .i64 3]) (by simp [results, Tryz.results97, go_sem, supV, z0, z1, z2, z3, z4, z5, z6]) rfl ?_
              exact HR.out _ _ ⟨by rw [HV.out.1, HV.out.2.2], by (repeat refine Below.setCell ?_ (by simp) _); exact H5.out.1⟩
    · have HV := Lib.hid (stV_no (s := s) fun h => hm (st_mark s h))
      have hmb : ((s.extract 0 9).toList == [107, 101, 101, 112, 115, 97, 107, 101, 49]) = false := by
        rw [beq_eq_false_iff_ne]
        intro e
        rw [ByteArray.toList_eq] at e
        exact hm e
      clear hm
      obtain ⟨z0, z1, z2, z3, z4, z5, z6⟩ := blk7 HW.out.2
      obtain ⟨f0, f1, f2, f3, f4, f5, f6⟩ := fro7 HW.out.2
      go_enter Tryz.func97, Tryz.ntmps97
      go_wp2
      refine bodyPost_ret (v := .tuple #[supV 0 0 0 0 0 0 0, .int .i64 3]) (by simp [results, Tryz.results97, go_sem, supV, z0, z1, z2, z3, z4, z5, z6]) rfl ?_
      exact HR.out _ _ ⟨by rw [HV.out.1, HV.out.2.2], by (repeat refine Below.setCell ?_ (by simp) _); exact HW.out.1⟩
  · have hzb : ((s.size : Int) != 4096) = true := by rw [bne_iff_ne]; omega
    have HV := Lib.hid (stV_no (s := s) fun h => hz (st_ok.1 h).1)
    clear hz
    obtain ⟨z0, z1, z2, z3, z4, z5, z6⟩ := blk7 HW.out.2
    obtain ⟨f0, f1, f2, f3, f4, f5, f6⟩ := fro7 HW.out.2
    go_enter Tryz.func97, Tryz.ntmps97
    go_wp2
    refine bodyPost_ret (v := .tuple #[supV 0 0 0 0 0 0 0, .int .i64 3]) (by simp [results, Tryz.results97, go_sem, supV, z0, z1, z2, z3, z4, z5, z6]) rfl ?_
    exact HR.out _ _ ⟨by rw [HV.out.1, HV.out.2.2], by (repeat refine Below.setCell ?_ (by simp) _); exact HW.out.1⟩
end Go.Proofs.YteppfjgglelpbaaGreat
