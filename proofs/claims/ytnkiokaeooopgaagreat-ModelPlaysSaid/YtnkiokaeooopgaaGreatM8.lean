/- Texts that the claim rests on, part 8: RMod, ModPlaces, ModWrite, ModApply, ModClose, RangeSeen, RangeGen. -/
import Derived.BigQuiet
import Derived.Test.YtnkiokaeooopgaaGreatShelf
import Derived.RangeFuncNested
import Derived.RangeFuncBound
import Derived.RangeFuncCalls
import Derived.RangeFuncLeaves
import Derived.Shelf.RegionOpen
import Derived.OwnWalkIn
import Derived.TacticsInMore
import Derived.LoopNIn
import Derived.LoopIn
import Derived.WalkMore
import Derived.Scope
import Derived.Test.YtnkiokaeooopgaaGreatM7
/- The document's model in memory; a record applied to its book. -/
set_option maxRecDepth 100000
namespace Go.Proofs.YtnkiokaeooopgaaGreat
open Go.RowKit Ks
set_option linter.unusedVariables false
set_option linter.unusedSimpArgs false
/-- the document's model -/
structure RMd (w : World) (n : Nat) (rv vv : Value) (m : ModT) : Prop where
  blk : w.heap[n]? = some (.cells #[.int .i64 m.geo.blocks, .int .i64 m.geo.lbas, .int .i64 m.geo.first, .int .i64 (m.used), .int .i64 (m.now), .int .i64 m.geo.first, rv, vv] 59 (0, 0))
  recs : Row recE w 0 72 rv m.recs
  vers : Row verD w 0 76 vv m.vers
  ne : ∀ k, rv.ownBlock = some k → vv.ownBlock ≠ some k
  far : ∀ k, rv.ownBlock = some k ∨ vv.ownBlock = some k → k ≠ n
/-- its blocks -/
def FR (n : Nat) (rv vv : Value) (k : Nat) : Prop := k = n ∨ rv.ownBlock = some k ∨ vv.ownBlock = some k
section
variable {w w' : World} {n : Nat} {rv vv : Value} {m : ModT}
theorem RMd.ltn (h : RMd w n rv vv m) : n < w.heap.size := lt_of_block h.blk
theorem RMd.lt (h : RMd w n rv vv m) : ∀ k, FR n rv vv k → k < w.heap.size := by
  rintro k (rfl | q | q)
  · exact h.ltn
  · exact (h.recs.lt q).2
  · exact (h.vers.lt q).2
theorem RMd.below (h : RMd w n rv vv m) (hb : Below w.heap.size w w') : RMd w' n rv vv m :=
  ⟨(hb.block n h.ltn).trans h.blk, h.recs.below hb, h.vers.below hb, h.ne, h.far⟩
theorem RMd.bk (h : RMd w n rv vv m) : BkR w n 5 m.geo.first rv m.recs := by
  obtain ⟨⟨z0, z1, z2, z3, z4, z5, z6, z7⟩, -⟩ := blkR h.blk
  exact ⟨z5, z6, h.recs.rd⟩
end
theorem infoRecR : (Tryz.prog.info? 72).map (fun i => (i.zero, i.size, i.bytes)) = some (some (recV noRec), 8, 80) := by kernel_rfl
theorem recTR : ElemT Tryz.prog 50 72 recE.k 80 := elemT_of Tryz.underlying50 infoRecR rfl
set_option maxRecDepth 100000 in
set_option maxHeartbeats 8000000 in
theorem rapply_any {n : Nat} {rv vv : Value} {m : ModT} (r : RecT) (w : World) (h : RMd w n rv vv m) (hl : m.recs.length ≤ 100000) (hf : 0 ≤ m.geo.first ∧ m.geo.first ≤ 4294967295) (hg : GoodR m.recs) :
    Calls Tryz.prog 57 #[.pointer (some ⟨n, 5, none⟩), recV r] w fun e w' => e = .returned (.int .i64 (mayE (bookR m.geo.first m.recs) r)) ∧ ∃ rv', RMd w' n rv' vv { m with recs := if mayE (bookR m.geo.first m.recs) r = 0 then m.recs ++ [r] else m.recs } ∧ Turn w w' (FR n rv vv) (FR n rv' vv) := by
  refine calls_by fun R HR => ?_
  have HD := Lib.hid h
  have HMy := Lib.hid (fun A (q : RMd A n rv vv m) => bkmay_any r A q.bk hl hf hg)
  have HU := Lib.hid hl
  have HY : Hid (∀ w' rv', mayE (bookR m.geo.first m.recs) r = 0 → RMd w' n rv' vv { m with recs := m.recs ++ [r] } → Turn w w' (FR n rv vv) (FR n rv' vv) → R (.returned (.int .i64 0)) w') := Lib.hid fun w' rv' q1 q2 q3 => HR.out _ _ ⟨by rw [q1], rv', by rw [if_pos q1]; exact q2, q3⟩
  have HN : Hid (∀ w', mayE (bookR m.geo.first m.recs) r ≠ 0 → RMd w' n rv vv m → Turn w w' (FR n rv vv) (FR n rv vv) → R (.returned (.int .i64 (mayE (bookR m.geo.first m.recs) r))) w') := Lib.hid fun w' q1 q2 q3 => HR.out _ _ ⟨rfl, rv, by rw [if_neg q1]; exact q2, q3⟩
  generalize mayE (bookR m.geo.first m.recs) r = ME at *
  obtain ⟨kd, ep, tm, ct, tg, un, rt, nm⟩ := r
  have HRr : Hid (∀ (kd ep tm ct tg un : Int) (rt nm : ByteArray), recE.enc ⟨kd, ep, tm, ct, tg, un, rt, nm⟩ = [.int .i64 kd, .int .i64 ep, .int .i64 tm, .int .i64 ct, .int .i64 tg, .int .i64 un, .string rt, .string nm]) := Lib.hid fun _ _ _ _ _ _ _ _ => rfl
  clear h hl hf hg HR
  have H1 := Lib.hid (And.intro (Below.refl w.heap.size w) (HD.out))
  obtain ⟨W1, hW1⟩ : ∃ W1, w.alloc (.cells #[.int .i64 kd, .int .i64 ep, .int .i64 tm, .int .i64 ct, .int .i64 tg, .int .i64 un, .string rt, .string nm] 72) = W1 := ⟨_, rfl⟩
  have hbW1 : Below w.heap.size w W1 := by rw [← hW1]; exact alloc_below w _
  have kW1 : W1.heap[w.heap.size]? = some (.cells #[.int .i64 kd, .int .i64 ep, .int .i64 tm, .int .i64 ct, .int .i64 tg, .int .i64 un, .string rt, .string nm] 72 (0, 0)) := by rw [← hW1]; exact alloc_new w _
  have H2 := Lib.hid (And.intro (H1.out.1.trans (hbW1.mono H1.out.1.size)) (And.intro (H1.out.2.below hbW1) (kW1)))
  clear hbW1 kW1
  obtain ⟨⟨r0, r1, r2, r3, r4, r5, r6, r7⟩, -⟩ := blkR H2.out.2.2
  go_enter Tryz.func57, Tryz.ntmps57
  go_wp2_with fail
  refine (HMy.out W1 H2.out.2.1).mono ?_
  rintro en v1 ⟨rfl, hb⟩
  have H3 := Lib.hid (And.intro (H2.out.1.trans (hb.mono H2.out.1.size)) (And.intro (H2.out.2.1.below hb) (blk_on hb H2.out.2.2)))
  clear hb
  clear hW1 HMy r0 r1 r2 r3 r4 r5 r6 r7
  by_cases he : ME = 0
  case neg =>
    have heb : (ME == 0) = false := by simpa using he
    have HZ := Lib.hid (HN.out _ he H3.out.2.1 (Turn.of_below _ H3.out.1))
    clear HN HY he
    go_wp2
    exact HZ.out
  subst he
  have HZ := Lib.hid (fun w' rv' => HY.out w' rv' rfl)
  clear HN HY
  have KR := Lib.hid H3.out.2.1.recs
  have KM := Lib.hid H3.out.2.1
  have KBl := Lib.hid H3.out.1
  have KA := Lib.hid H3.out.2.2
  have hrn : rv.ownBlock ≠ some n := fun e => KM.out.far n (Or.inl e) rfl
  have hra : rv.ownBlock ≠ some w.heap.size := fun e => by have := (HD.out.recs.lt e).2; omega
  have hwn : n < w.heap.size := HD.out.ltn
  obtain ⟨rra, rrc, hrs, -⟩ := KR.out.rd.shape
  subst hrs
  obtain ⟨⟨r0, r1, r2, r3, r4, r5, r6, r7⟩, -⟩ := blkR KA.out
  obtain ⟨⟨z0, z1, z2, z3, z4, z5, z6, z7⟩, fz⟩ := blkR KM.out.blk
  go_upto_region 3 with fail
  refine wp_region_mv (fun f => AppAt recE 0 v1 72 (.slice rra m.recs.length rrc) m.recs [⟨kd, ep, tm, ct, tg, un, rt, nm⟩] n 6 (f 4) (f 6) (f 7) (f 10)) (by kernel_rfl) (AppAt.start KR.out (drew_below v1)) ?_
  obtain ⟨S, F, hF, hFC⟩ := moved_class (fun f => AppAt recE 0 v1 72 (.slice rra m.recs.length rrc) m.recs [⟨kd, ep, tm, ct, tg, un, rt, nm⟩] n 6 (f 4) (f 6) (f 7) (f 10))
  obtain ⟨S0, F0, hF0, hFC0⟩ := moved_classN (fun f => AppAt recE 0 v1 72 (.slice rra m.recs.length rrc) m.recs [⟨kd, ep, tm, ct, tg, un, rt, nm⟩] n 6 (f 4) (f 6) (f 7) (f 10)) 4
  have k0 : ∀ s, (F s).cell? ⟨w.heap.size, 0, none⟩ = some (.int .i64 kd) := fun s => (hFC s).choose_spec.cell r0 hra (Or.inl (by show w.heap.size ≠ n; omega))
  have k1 : ∀ s, (F s).cell? ⟨w.heap.size, 1, none⟩ = some (.int .i64 ep) := fun s => (hFC s).choose_spec.cell r1 hra (Or.inl (by show w.heap.size ≠ n; omega))
  have k2 : ∀ s, (F s).cell? ⟨w.heap.size, 2, none⟩ = some (.int .i64 tm) := fun s => (hFC s).choose_spec.cell r2 hra (Or.inl (by show w.heap.size ≠ n; omega))
  have k3 : ∀ s, (F s).cell? ⟨w.heap.size, 3, none⟩ = some (.int .i64 ct) := fun s => (hFC s).choose_spec.cell r3 hra (Or.inl (by show w.heap.size ≠ n; omega))
  have k4 : ∀ s, (F s).cell? ⟨w.heap.size, 4, none⟩ = some (.int .i64 tg) := fun s => (hFC s).choose_spec.cell r4 hra (Or.inl (by show w.heap.size ≠ n; omega))
  have k5 : ∀ s, (F s).cell? ⟨w.heap.size, 5, none⟩ = some (.int .i64 un) := fun s => (hFC s).choose_spec.cell r5 hra (Or.inl (by show w.heap.size ≠ n; omega))
  have k6 : ∀ s, (F s).cell? ⟨w.heap.size, 6, none⟩ = some (.string rt) := fun s => (hFC s).choose_spec.cell r6 hra (Or.inl (by show w.heap.size ≠ n; omega))
  have k7 : ∀ s, (F s).cell? ⟨w.heap.size, 7, none⟩ = some (.string nm) := fun s => (hFC s).choose_spec.cell r7 hra (Or.inl (by show w.heap.size ≠ n; omega))
  have j0 : ∀ s, (F s).cell? ⟨n, 0, none⟩ = some (.int .i64 m.geo.blocks) := fun s => (hFC s).choose_spec.cell z0 hrn (Or.inr (by show (0 : Nat) ≠ 6; decide))
  have j7 : ∀ s, (F0 s).cell? ⟨n, 6, none⟩ = some (.slice rra m.recs.length rrc) := fun s => by
    have h := (hFC0 s).choose_spec
    have h2 := h.2
    simp only [h.1] at h2
    exact h2.box z6 hrn
  show wpAnyM _ _ _ _ _ 11 (Array.replicate 11 false) _ _
  refine mv_read 0 hF (fun _ _ _ h => h) rfl (by kernel_rfl) (by kernel_rfl) (by kernel_rfl) (fun K hK => ?_)
  go_simp
  first | refine ⟨_, fun _ => rfl, hK _ _ ?_⟩ | refine hK _ _ ?_
  clear hK K
  refine mv_read 1 hF (fun _ _ _ h => h) rfl (by kernel_rfl) (by kernel_rfl) (by kernel_rfl) (fun K hK => ?_)
  go_simp
  first | refine ⟨_, fun _ => rfl, hK _ _ ?_⟩ | refine hK _ _ ?_
  clear hK K
  refine mv_read 2 hF (fun _ _ _ h => h) rfl (by kernel_rfl) (by kernel_rfl) (by kernel_rfl) (fun K hK => ?_)
  go_simp
  first | refine ⟨_, fun _ => rfl, hK _ _ ?_⟩ | refine hK _ _ ?_
  clear hK K
  refine mv_read 3 hF (fun _ _ _ h => h) rfl (by kernel_rfl) (by kernel_rfl) (by kernel_rfl) (fun K hK => ?_)
  go_simp
  first | refine ⟨_, fun _ => rfl, hK _ _ ?_⟩ | refine hK _ _ ?_
  clear hK K
  refine mv_readN 4 hF0 (fun f w v _ h => h.read v) rfl (by kernel_rfl) (by kernel_rfl) (by kernel_rfl) (fun K hK => ?_)
  go_simp
  first | refine ⟨_, fun _ => rfl, hK _ _ ?_⟩ | refine hK _ _ ?_
  clear hK K
  refine mv_read 5 hF (fun _ _ _ h => h) rfl (by kernel_rfl) (by kernel_rfl) (by kernel_rfl) (fun K hK => ?_)
  go_simp
  first | refine ⟨_, fun _ => rfl, hK _ _ ?_⟩ | refine hK _ _ ?_
  clear hK K
  refine mv_alone 6 rfl (by kernel_rfl) rfl (fun v => ∃ g, v = .slice (some ⟨g, 0, none⟩) 1 1) (fun g w9 ha h0 h D hD => ?_) ?_
  · have h9 := h
    simp only [h0] at h9
    have h8 := h9.made #[.int .i64 kd, .int .i64 ep, .int .i64 tm, .int .i64 ct, .int .i64 tg, .int .i64 un, .string rt, .string nm] rfl
    clear h h9
    go_simp
    exact hD _ _ ⟨_, rfl⟩ h8
  rintro _ ⟨gs, rfl⟩
  refine mv_append 7 rfl (by kernel_rfl) rfl (.tmp 15) (.tmp 17) 50 rfl recTR 0 _ _ m.recs [⟨kd, ep, tm, ct, tg, un, rt, nm⟩] rfl rfl (by have := HU.out; simp; omega) (by decide) (fun g w9 ha h0 h => ?_) (fun v' => ∃ a n c, v' = .slice a n c) (fun g w9 v' w' ha h0 h hG => ?_) ?_
  · have e1 : g 6 = some (.slice (some ⟨gs, 0, none⟩) 1 1) := (agree_on 6 ha (by kernel_rfl)).trans rfl
    simp only [e1, h0] at h
    exact h.rows (Nat.zero_le _)
  · have e1 : g 6 = some (.slice (some ⟨gs, 0, none⟩) 1 1) := (agree_on 6 ha (by kernel_rfl)).trans rfl
    have e2 : g 4 = some (.slice rra m.recs.length rrc) := (agree_on 4 ha (by kernel_rfl)).trans rfl
    simp only [e1, e2, h0] at h
    obtain ⟨a9, c9, e9, -⟩ := hG.1.rd.shape
    refine ⟨⟨_, _, _, e9⟩, ?_⟩
    show AppAt _ _ _ _ _ _ _ _ _ (g 4) (g 6) _ _ _
    rw [e1, e2]
    exact h.grew hG
  rintro _ ⟨az, nz, cz, rfl⟩
  refine mv_read 8 hF (fun _ _ _ h => h) rfl (by kernel_rfl) (by kernel_rfl) (by kernel_rfl) (fun K hK => ?_)
  go_simp
  first | refine ⟨_, fun _ => rfl, hK _ _ ?_⟩ | refine hK _ _ ?_
  clear hK K
  refine mv_read 9 hF (fun _ _ _ h => h) rfl (by kernel_rfl) (by kernel_rfl) (by kernel_rfl) (fun K hK => ?_)
  go_simp
  first | refine ⟨_, fun _ => rfl, hK _ _ ?_⟩ | refine hK _ _ ?_
  clear hK K
  refine mv_alone 10 rfl (by kernel_rfl) rfl (fun _ => True) (fun g w9 ha h0 h D hD => ?_) ?_
  · have e1 : g 7 = some (.slice az nz cz) := (agree_on 7 ha (by kernel_rfl)).trans rfl
    simp only [e1, h0] at h
    have q1 := h.1.cell z6 hrn
    have q2 := h.1.frozen z6 (fz 6) hrn
    have hD2 := hD undef (w9.setCell ⟨n, 6, none⟩ (.slice az nz cz)) trivial (by show AppAt _ _ _ _ _ _ _ _ _ (g 4) (g 6) (g 7) _ _; rw [e1]; exact h.stored)
    clear hD h
    go_simp
    exact hD2
  rintro vs -
  refine mv_end (by kernel_rfl) ?_
  intro w2 hw2
  have HG : AppAt recE 0 v1 72 (.slice rra m.recs.length rrc) m.recs [⟨kd, ep, tm, ct, tg, un, rt, nm⟩] n 6 (some (.slice rra m.recs.length rrc)) (some (.slice (some ⟨gs, 0, none⟩) 1 1)) (some (.slice az nz cz)) (some vs) w2 := hw2
  obtain ⟨w3, g1, g3, g2, rfl⟩ := HG.done2
  have HG3 := Lib.hid (And.intro g1 (And.intro g2 g3))
  clear hw2 HG hF hFC hF0 hFC0 j0 j7 g1 g2 g3 k0 k1 k2 k3 k4 k5 k6 k7 r0 r1 r2 r3 r4 r5 r6 r7 z0 z1 z2 z3 z4 z5 z6 z7 fz
  have HB7 := Lib.hid (HG3.out.1.block n (lt_of_block KM.out.blk) (fun e => hrn e.symm))
  have HK5 : Hid (∀ k, k < v1.heap.size → ((.slice rra m.recs.length rrc) : Value).ownBlock ≠ some k → k ≠ n → (w3.setCell ⟨n, 6, none⟩ (.slice az nz cz)).heap[k]? = v1.heap[k]?) := Lib.hid fun k hk h1 h2 => (set_ne _ h2).trans (HG3.out.1.block k hk fun e => h1 e.symm)
  have hfar : ∀ k, (Value.slice az nz cz).ownBlock = some k → k ≠ n ∧ (((.slice rra m.recs.length rrc) : Value).ownBlock = some k ∨ v1.heap.size ≤ k) := fun k e => by
    rcases HG3.out.2.2 with q | q
    · exact ⟨KM.out.far k (Or.inl (q ▸ e)), Or.inl (q ▸ e)⟩
    · have := q k e; have := KM.out.ltn; exact ⟨by omega, Or.inr (by omega)⟩
  have HFa := Lib.hid hfar
  have HNR := Lib.hid hrn
  clear hfar hrn hra
  have HFin := Lib.hid (HZ.out (w3.setCell ⟨n, 6, none⟩ (.slice az nz cz)) (.slice az nz cz) ⟨set_blk (HB7.out.trans KM.out.blk) 6 _, HG3.out.2.1.keep fun k e => set_ne _ (HFa.out k e).1, KM.out.vers.keep fun k e => HK5.out k (KM.out.vers.lt e).2 (fun e2 => KM.out.ne k e2 e) (KM.out.far k (Or.inr e)), fun k e e2 => by
      rcases (HFa.out k e).2 with q | q
      · exact KM.out.ne k q e2
      · have := (KM.out.vers.lt e2).2; omega, fun k e => e.elim (fun e => (HFa.out k e).1) (fun e => KM.out.far k (Or.inr e))⟩
    ((Turn.of_below _ KBl.out).trans ⟨HG3.out.1.os, HG3.out.1.tape, HG3.out.1.output, by have := HG3.out.1.size; simp; omega, fun k hk hF => HK5.out k hk (fun e => hF (Or.inr (Or.inl e))) (fun e => hF (Or.inl e)), fun k hk => by
      rcases hk with q | q | q
      · exact Or.inl (Or.inl q)
      · rcases (HFa.out k q).2 with q2 | q2
        · exact Or.inl (Or.inr (Or.inl q2))
        · exact Or.inr q2
      · exact Or.inl (Or.inr (Or.inr q))⟩))
  clear HZ
  go_wp2
  exact HFin.out
end Go.Proofs.YtnkiokaeooopgaaGreat
/- How many places have a version; how many blocks may be taken: of the program's model. -/
set_option maxRecDepth 100000
namespace Go.Proofs.YtnkiokaeooopgaaGreat
open Go.RowKit Ks Go.Maps
set_option linter.unusedVariables false
set_option linter.unusedSimpArgs false
set_option maxHeartbeats 4000000 in
theorem mroom_any {n cc bn c mu mh mg : Nat} {rv vv : Value} {m : ModT} (w : World) (h : ModAt w n cc bn c mu mh mg rv vv m) (hg : -9223372036854775808 ≤ m.geo.blocks ∧ m.geo.blocks ≤ 9223372036854775807) :
    Calls Tryz.prog 41 #[.pointer (some ⟨n, 0, none⟩)] w fun e w' => e = .returned (.int .i64 (roomM m)) ∧ Below w.heap.size w w' := by
  refine calls_by fun R HR => ?_
  have HC := Lib.hid (fun w => groom_any m.geo m.used w hg)
  rw [show geoRoom m.geo m.used = roomM m from rfl] at HC
  obtain ⟨⟨z0, z1, z2, z3, z4, z5, z6, z7⟩, fz⟩ := blkR h.blk
  generalize roomM m = RM at *
  have g0 := fun p => after_cell z0 p
  have g1 := fun p => after_cell z1 p
  have g2 := fun p => after_cell z2 p
  have g3 := fun p => after_cell z3 p
  have cc0 := Lib.hid (fun p => calls_after (p := p) (HC.out (After w p)))
  clear h fz hg
  go_enter Tryz.func41, Tryz.ntmps41
  go_wp2_with fail
  refine wp_region_after (by kernel_rfl) (by kernel_rfl) ?_
  repeat (go_big_quiet_step (fail))
  go_big_quiet_step (exact cc0.out _)
  repeat (go_big_quiet_step (fail))
  refine wpQuiet_nil ?_
  rintro q1 ⟨p9, rfl⟩
  have hb := after_below w p9
  have H1 := Lib.hid hb
  generalize After w p9 = q1 at *
  clear hb g0 g1 g2 g3 cc0
  go_wp2
  exact HR.out _ _ ⟨rfl, H1.out⟩
set_option maxHeartbeats 4000000 in
theorem mplaces_any {n cc bn c mu mh mg : Nat} {rv vv : Value} {m : ModT} (ep : Int) (w : World) (h : ModAt w n cc bn c mu mh mg rv vv m) (hv : ∀ v ∈ m.vers, 0 ≤ v.1 ∧ v.1 < 4096) (hn : m.vers.length ≤ 1000000) :
    Calls Tryz.prog 46 #[.pointer (some ⟨n, 0, none⟩), .int .i64 ep] w fun e w' => e = .returned (.int .i64 (placesN m ep)) ∧ Below w.heap.size w w' := by
  refine calls_by fun R HR => ?_
  have HV := Lib.hid (And.intro hv hn)
  have hnn : (m.vers.length : Int) ≤ 1000000 := by omega
  obtain ⟨va, vc, hvs, -⟩ := h.vers.shape
  subst hvs
  have HOW := Lib.hid (fun k e => (h.vers.lt (b := k) e).2)
  obtain ⟨W1, hW1⟩ : ∃ W, w.alloc (.map #[] 0) = W := ⟨_, rfl⟩
  have b1 : Below w.heap.size w W1 := by rw [← hW1]; exact alloc_below _ _
  have n1 : MapAt ibKV W1 w.heap.size [] := by rw [← hW1]; exact MapAt.made _ _
  have H1 := Lib.hid (And.intro b1 (And.intro n1 (h.below b1)))
  have HP := Lib.hid (show placesN m ep = (placesL m.vers ep).length from rfl)
  generalize placesN m ep = PN at *
  clear b1 n1 h hv hn
  have hmm := @run_makeMap Tryz.prog
  obtain ⟨⟨z0, z1, z2, z3, z4, z5, z6, z7⟩, -⟩ := blkR H1.out.2.2.blk
  go_enter Tryz.func46, Tryz.ntmps46
  go_wp2_with fail
  clear hmm hW1
  go_loopw [14] (fun i wx => ∃ (k : Nat), k ≤ m.vers.length ∧ i = .int .i64 k ∧ Hid (MapAt ibKV wx w.heap.size (placesL (m.vers.take k) ep) ∧ Below w.heap.size w wx ∧ Row verD wx 0 89 (.slice va m.vers.length vc) m.vers)) (fun i _ => m.vers.length - (intOf i).toNat)
  case atStart => exact ⟨0, Nat.zero_le _, rfl, Lib.hid ⟨H1.out.2.1, H1.out.1, H1.out.2.2.vers⟩⟩
  case round =>
    obtain ⟨k, hk, rfl, hN⟩ := hrel
    by_cases hlt : k < m.vers.length
    · have hki : (k : Int) < (m.vers.length : Int) := by omega
      obtain ⟨x, hx⟩ : ∃ x, m.vers[k]? = some x := ⟨_, List.getElem?_eq_getElem hlt⟩
      have HX := Lib.hid (placesL_take m.vers ep k x hx)
      have HK := Lib.hid (HV.out.1 x (List.mem_of_getElem? hx))
      obtain ⟨b, o, ha, hb0, dd⟩ := (hN.out.2.2.rd).at k x hx
      cases ha
      obtain ⟨xl, xe, xt⟩ := x
      have d0 : wr.cell? ⟨b, o + k * 3, none⟩ = some (.int .i64 xl) := dd 0 _ rfl
      have d1 : wr.cell? ⟨b, o + k * 3 + 1, none⟩ = some (.int .i64 xe) := dd 1 _ rfl
      have d2 : wr.cell? ⟨b, o + k * 3 + 2, none⟩ = some (.string xt) := dd 2 _ rfl
      clear dd hx hb0
      obtain ⟨WA, hWA⟩ : ∃ W, wr.alloc (.cells #[.int .i64 xl, .int .i64 xe, .string xt] 89) = W := ⟨_, rfl⟩
      have bWA : Below wr.heap.size wr WA := by rw [← hWA]; exact alloc_below _ _
      have kWA : WA.heap[wr.heap.size]? = some (.cells #[.int .i64 xl, .int .i64 xe, .string xt] 89 (0, 0)) := by rw [← hWA]; exact alloc_new _ _
      obtain ⟨y0, y1, y2, fy0, fy1, fy2⟩ := blk3 kWA
      have H2 := Lib.hid (And.intro (hN.out.1.below bWA) (And.intro (hN.out.2.1.trans (bWA.mono hN.out.2.1.size)) (hN.out.2.2.below bWA)))
      clear bWA kWA
      have q5 : ibKV.ok xl := ibKV_ok (by have := HK.out; simp only at this; omega)
      have hwlt := H1.out.2.1.lt
      by_cases he : ep ≤ xe
      · have hed : decide (ep ≤ xe) = true := decide_eq_true he
        go_wp2_with (at_mapUpdate; refine wpList_put _ rfl _ _ _ 85 rfl 4 intKey Tryz.underlying85 H2.out.1 rfl xl true rfl rfl q5 ?_)
        intro w4 hm4 ht4
        have H4 := Lib.hid (And.intro (show MapAt ibKV w4 w.heap.size (placesL (m.vers.take (k + 1)) ep) by rw [HX.out, if_pos he]; exact hm4) (And.intro (H2.out.2.1.trans (ht4.below (fun k hk => by omega) H2.out.2.1.size)) (H2.out.2.2.keep fun k e => ht4.block k (H2.out.2.2.lt e).2 (fun e2 => by have := HOW.out k e; omega))))
        clear hm4 ht4 y0 y1 y2 fy0 fy1 fy2 hWA d0 d1 d2
        go_wp2_with fail
        go_roundw
        case rel => exact ⟨k + 1, by omega, by go_num, H4⟩
        case measure => first | (simp [intOf]; done) | (simp [intOf]; omega)
      · have hed : decide (ep ≤ xe) = false := decide_eq_false he
        have H4 := Lib.hid (And.intro (show MapAt ibKV WA w.heap.size (placesL (m.vers.take (k + 1)) ep) by rw [HX.out, if_neg he]; exact H2.out.1) (And.intro H2.out.2.1 H2.out.2.2))
        go_wp2_with fail
        go_roundw
        case rel => exact ⟨k + 1, by omega, by go_num, H4⟩
        case measure => first | (simp [intOf]; done) | (simp [intOf]; omega)
    · obtain rfl : k = m.vers.length := by omega
      have hki : ¬ (m.vers.length : Int) < (m.vers.length : Int) := by omega
      rw [List.take_length] at hN
      go_wp2_with (at_len; refine wpList_mlen _ rfl _ 85 rfl 4 Tryz.underlying85 hN.out.1 rfl ?_)
      exact HR.out _ _ ⟨by rw [HP.out]; try rfl, hN.out.2.1⟩
end Go.Proofs.YtnkiokaeooopgaaGreat
/- A version written: of the program's model. -/
set_option maxRecDepth 100000
namespace Go.Proofs.YtnkiokaeooopgaaGreat
open Go.RowKit Ks Go.Maps
set_option linter.unusedVariables false
set_option linter.unusedSimpArgs false
theorem blk7c {w : World} {b : Nat} {c0 c1 c2 c3 c4 c5 c6 : Value} {T : TypeId} (h : w.heap[b]? = some (.cells #[c0, c1, c2, c3, c4, c5, c6] T (0, 0))) : w.cell? ⟨b, 0, none⟩ = some c0 ∧ w.cell? ⟨b, 1, none⟩ = some c1 ∧ w.cell? ⟨b, 2, none⟩ = some c2 ∧ w.cell? ⟨b, 3, none⟩ = some c3 ∧ w.cell? ⟨b, 4, none⟩ = some c4 ∧ w.cell? ⟨b, 5, none⟩ = some c5 ∧ w.cell? ⟨b, 6, none⟩ = some c6 :=
  ⟨by rw [cell_of_row w b 0 _ _ _ h]; rfl, by rw [cell_of_row w b 1 _ _ _ h]; rfl, by rw [cell_of_row w b 2 _ _ _ h]; rfl, by rw [cell_of_row w b 3 _ _ _ h]; rfl, by rw [cell_of_row w b 4 _ _ _ h]; rfl, by rw [cell_of_row w b 5 _ _ _ h]; rfl, by rw [cell_of_row w b 6 _ _ _ h]; rfl⟩
theorem infoVer : (Tryz.prog.info? 89).map (fun i => (i.zero, i.size, i.bytes)) = some (some (.agg #[.int .i64 0, .int .i64 0, .string ⟨#[]⟩]), 3, 32) := by kernel_rfl
theorem verT24 : ElemT Tryz.prog 51 89 verD.k 32 := elemT_of Tryz.underlying51 infoVer rfl
theorem eg_bepoch : ∀ args w, (callFunc 17 args).run Tryz.prog w = .ok (.enter 17 args) w := fun _ _ => rfl
theorem BookAt.same {w w' : World} {n c mu mh mg : Nat} {b : BookT} (h : BookAt w n c mu mh mg b) (hk : ∀ k o, FB n c mu mh mg k → w.heap[k]? = some o → w'.heap[k]? = some o) : BookAt w' n c mu mh mg b := by
  have key : ∀ k, FB n c mu mh mg k → w'.heap[k]? = w.heap[k]? := fun k hf => by
    have hlt := h.lt k hf
    rw [Array.getElem?_eq_getElem hlt]
    exact hk k _ hf (Array.getElem?_eq_getElem hlt)
  exact ⟨(key n (Or.inl rfl)).trans h.blk, (key c (Or.inr (Or.inl rfl))).trans h.clk, h.till.keep (key mu (Or.inr (Or.inr (Or.inl rfl)))), h.holds.keep (key mh (Or.inr (Or.inr (Or.inr (Or.inl rfl))))), h.gone.keep (key mg (Or.inr (Or.inr (Or.inr (Or.inr rfl)))))⟩
theorem bepoch_any {n c mu mh mg : Nat} {b : BookT} (w : World) (h : BookAt w n c mu mh mg b) : Calls Tryz.prog 17 #[.pointer (some ⟨n, 0, none⟩)] w fun e w' => e = .returned (.int .i64 b.epoch) ∧ w' = w := by
  refine calls_by fun R HR => ?_
  have HT := Lib.hid (bthere_yes w h)
  obtain ⟨⟨z0, z1, z2, z3, z4, z5⟩, fz⟩ := blk6 h.blk
  clear h fz
  go_enter Tryz.func17, Tryz.ntmps17
  go_wp2_with fail
  refine HT.out.mono ?_
  rintro en v1 ⟨rfl, hw⟩
  rw [hw]
  clear hw
  go_wp2
  exact HR.out _ _ ⟨rfl, rfl⟩
set_option maxRecDepth 100000 in
set_option maxHeartbeats 8000000 in
theorem mwrite_any {n cc bn c mu mh mg : Nat} {rv vv : Value} {m : ModT} (cl : CallT) (ka : Option Addr) (kn kc : Nat) (w : World) (h : ModAt w n cc bn c mu mh mg rv vv m) (h7 : Seven n cc bn c mu mh mg)
    (hg : -9223372036854775808 ≤ m.geo.blocks ∧ m.geo.blocks ≤ 9223372036854775807) (hu : 0 ≤ m.used ∧ m.used ≤ 1000000000) (hn : m.vers.length ≤ 1000000) :
    Calls Tryz.prog 16 #[.pointer (some ⟨n, 0, none⟩), .agg #[.int .i64 cl.kind, .int .i64 cl.lba, .int .i64 cl.epoch, .int .i64 cl.time, .string cl.data, .string cl.name, .slice ka kn kc]] w fun e w' =>
      e = .returned (.int .i64 (writeE m cl)) ∧ ∃ vv', ModAt w' n cc bn c mu mh mg rv vv' (writeM m cl) ∧ Turn w w' (FM n cc bn c mu mh mg rv vv) (FM n cc bn c mu mh mg rv vv') := by
  refine calls_by fun R HR => ?_
  have HD := Lib.hid h
  have H7 := Lib.hid h7
  have HPl := Lib.hid (fun w (h : ModAt w n cc bn c mu mh mg rv vv m) => mplace_any cl.lba w h)
  have HRo := Lib.hid (fun w (h : ModAt w n cc bn c mu mh mg rv vv m) => mroom_any w h hg)
  have HZ0 : Hid (writeE m cl = if placeE m cl.lba ≠ 0 then placeE m cl.lba else if 4000 < cl.data.size then 2 else if roomM m = 0 then 5 else 0) := Lib.hid rfl
  have HM0 : Hid (writeM m cl = if writeE m cl = 0 then { m with used := m.used + 1, vers := m.vers ++ [(cl.lba, m.book.epoch, cl.data)] } else m) := Lib.hid rfl
  have HU := Lib.hid (And.intro hu hn)
  generalize writeM m cl = WM at *
  generalize writeE m cl = WE at *
  generalize placeE m cl.lba = PE at *
  generalize roomM m = RM at *
  obtain ⟨ki, lb, ce, ti, da, na⟩ := cl
  simp only at HPl HZ0 HM0
  clear h h7 hg hu hn
  have H1 := Lib.hid (And.intro (Below.refl w.heap.size w) (HD.out))
  obtain ⟨W1, hW1⟩ : ∃ W1, w.alloc (.cells #[.int .i64 ki, .int .i64 lb, .int .i64 ce, .int .i64 ti, .string da, .string na, .slice ka kn kc] 35) = W1 := ⟨_, rfl⟩
  have hbW1 : Below w.heap.size w W1 := by rw [← hW1]; exact alloc_below w _
  have kW1 : W1.heap[w.heap.size]? = some (.cells #[.int .i64 ki, .int .i64 lb, .int .i64 ce, .int .i64 ti, .string da, .string na, .slice ka kn kc] 35 (0, 0)) := by rw [← hW1]; exact alloc_new w _
  have H2 := Lib.hid (And.intro (H1.out.1.trans (hbW1.mono H1.out.1.size)) (And.intro (H1.out.2.below hbW1) (kW1)))
  clear hbW1 kW1
  obtain ⟨a0, a1, a2, a3, a4, a5, a6⟩ := blk7c H2.out.2.2
  have hwn : n < w.heap.size := HD.out.lt
  go_enter Tryz.func16, Tryz.ntmps16
  go_wp2_with fail
  refine (HPl.out _ H2.out.2.1).mono ?_
  rintro en y0 ⟨rfl, hw⟩
  rw [hw]
  clear hw
  by_cases hp : PE = 0
  case neg =>
    have hp2 : (PE != 0) = true := by simpa using hp
    have HZ := Lib.hid (show WE = PE by rw [HZ0.out]; simp [hp])
    have HQ := Lib.hid (show WM = m by rw [HM0.out, HZ.out]; simp [hp])
    go_wp2
    exact HR.out _ _ ⟨by rw [HZ.out]; try rfl, vv, by rw [HQ.out]; exact H2.out.2.1, Turn.of_below _ H2.out.1⟩
  case pos =>
    subst hp
    by_cases hs : 4000 < da.size
    · have hsi : (4000 : Int) < (da.size : Int) := by omega
      have HZ := Lib.hid (show WE = 2 by rw [HZ0.out]; simp [hs])
      have HQ := Lib.hid (show WM = m by rw [HM0.out, HZ.out]; simp)
      go_wp2
      exact HR.out _ _ ⟨by rw [HZ.out]; try rfl, vv, by rw [HQ.out]; exact H2.out.2.1, Turn.of_below _ H2.out.1⟩
    have hsi : ¬ (4000 : Int) < (da.size : Int) := by omega
    go_wp2_with fail
    refine (HRo.out _ H2.out.2.1).mono ?_
    rintro en v1 ⟨rfl, hb⟩
    have H3 := Lib.hid (And.intro (H2.out.1.trans (hb.mono H2.out.1.size)) (And.intro (H2.out.2.1.below hb) (blk_on hb H2.out.2.2)))
    clear hb
    clear a0 a1 a2 a3 a4 a5 a6 hW1
    obtain ⟨a0, a1, a2, a3, a4, a5, a6⟩ := blk7c H3.out.2.2
    by_cases hr : RM = 0
    · subst hr
      have HZ := Lib.hid (show WE = 5 by rw [HZ0.out]; simp [hs])
      have HQ := Lib.hid (show WM = m by rw [HM0.out, HZ.out]; simp)
      go_wp2
      exact HR.out _ _ ⟨by rw [HZ.out]; try rfl, vv, by rw [HQ.out]; exact H3.out.2.1, Turn.of_below _ H3.out.1⟩
    have hr2 : (RM == 0) = false := by simpa using hr
    have HZ := Lib.hid (show WE = 0 by rw [HZ0.out]; simp [hs, hr])
    have HQ := Lib.hid (show WM = { m with used := m.used + 1, vers := m.vers ++ [(lb, m.book.epoch, da)] } by rw [HM0.out, HZ.out]; rfl)
    have hwr : wrap64 (m.used + 1) = m.used + 1 := by have := HU.out.1; unfold wrap64; omega
    obtain ⟨⟨z0, z1, z2, z3, z4, z5, z6, z7⟩, fz⟩ := blkR H3.out.2.1.blk
    have fz3 := fz 3
    clear fz
    obtain ⟨P1, hP1⟩ : ∃ W, v1.setCell ⟨n, 3, none⟩ (.int .i64 (m.used + 1)) = W := ⟨_, rfl⟩
    have HO := Lib.hid (show (∀ k, k ≠ n → P1.heap[k]? = v1.heap[k]?) from fun k hk => by rw [← hP1]; exact set_ne _ hk)
    have KP := Lib.hid (show P1.heap[n]? = some (.cells #[.int .i64 m.geo.blocks, .int .i64 m.geo.lbas, .int .i64 m.geo.first, .int .i64 (m.used + 1), .pointer (some ⟨cc, 0, none⟩), .pointer (some ⟨bn, 0, none⟩), rv, vv] 53 (0, 0)) by rw [← hP1]; exact set_blk H3.out.2.1.blk 3 _)
    have HTP := Lib.hid (show Turn w P1 (FM n cc bn c mu mh mg rv vv) (FM n cc bn c mu mh mg rv vv) by rw [← hP1]; exact (Turn.of_below _ H3.out.1).trans (Turn.cell _ n 3 _ (Or.inl rfl)))
    have HSz := Lib.hid (show P1.heap.size = v1.heap.size by rw [← hP1]; simp)
    have HMv := Lib.hid H3.out.2.1
    have HAv := Lib.hid H3.out.2.2
    have HBw := Lib.hid H3.out.1
    go_upto_region 9 with fail
    try rw [hP1]
    clear hP1 a0 a1 a2 a3 a4 a5 a6 z0 z1 z2 z3 z4 z5 z6 z7 fz3
    have hownv : ∀ k, vv.ownBlock = some k → Far n cc bn c mu mh mg k ∧ k < v1.heap.size := fun k e => ⟨HMv.out.far k (Or.inr e), (HMv.out.vers.lt e).2⟩
    have HOw := Lib.hid hownv
    have hva : vv.ownBlock ≠ some w.heap.size := fun e => by have := (HD.out.vers.lt e).2; omega
    have hvn : vv.ownBlock ≠ some n := fun e => (hownv n e).1.1 rfl
    have KA := Lib.hid (show P1.heap[w.heap.size]? = some (.cells #[.int .i64 ki, .int .i64 lb, .int .i64 ce, .int .i64 ti, .string da, .string na, .slice ka kn kc] 35 (0, 0)) from (HO.out _ (by omega)).trans HAv.out)
    have KB := Lib.hid (show BookAt P1 bn c mu mh mg m.book from HMv.out.book.same fun k o hf hk => (HO.out k (by have := (H7.out.2.2 k hf).1; omega)).trans hk)
    have KV := Lib.hid (show Row verD P1 0 89 vv m.vers from HMv.out.vers.keep fun k e => HO.out k (hownv k e).1.1)
    have HNV := Lib.hid (And.intro hva hvn)
    obtain ⟨vva, vvc, hvs, -⟩ := KV.out.shape
    subst hvs
    obtain ⟨a0, a1, a2, a3, a4, a5, a6⟩ := blk7c KA.out
    obtain ⟨⟨z0, z1, z2, z3, z4, z5, z6, z7⟩, fz⟩ := blkR KP.out
    refine wp_region_mv (fun f => AppAt verD 0 P1 89 (.slice vva m.vers.length vvc) m.vers [(lb, m.book.epoch, da)] n 7 (f 4) (f 15) (f 16) (f 19)) (by kernel_rfl) (AppAt.start KV.out (drew_below P1)) ?_
    obtain ⟨S, F, hF, hFC⟩ := moved_class (fun f => AppAt verD 0 P1 89 (.slice vva m.vers.length vvc) m.vers [(lb, m.book.epoch, da)] n 7 (f 4) (f 15) (f 16) (f 19))
    obtain ⟨S0, F0, hF0, hFC0⟩ := moved_classN (fun f => AppAt verD 0 P1 89 (.slice vva m.vers.length vvc) m.vers [(lb, m.book.epoch, da)] n 7 (f 4) (f 15) (f 16) (f 19)) 4
    have j1 : ∀ s, (F s).cell? ⟨w.heap.size, 1, none⟩ = some (.int .i64 lb) := fun s => (hFC s).choose_spec.cell a1 hva (Or.inl (by show w.heap.size ≠ n; omega))
    have j4 : ∀ s, (F s).cell? ⟨w.heap.size, 4, none⟩ = some (.string da) := fun s => (hFC s).choose_spec.cell a4 hva (Or.inl (by show w.heap.size ≠ n; omega))
    have j5 : ∀ s, (F s).cell? ⟨n, 5, none⟩ = some (.pointer (some ⟨bn, 0, none⟩)) := fun s => (hFC s).choose_spec.cell z5 hvn (Or.inr (by show (5 : Nat) ≠ 7; decide))
    have j0 : ∀ s, (F s).cell? ⟨n, 0, none⟩ = some (.int .i64 m.geo.blocks) := fun s => (hFC s).choose_spec.cell z0 hvn (Or.inr (by show (0 : Nat) ≠ 7; decide))
    have j7 : ∀ s, (F0 s).cell? ⟨n, 7, none⟩ = some (.slice vva m.vers.length vvc) := fun s => by
      have h := (hFC0 s).choose_spec
      have h2 := h.2
      simp only [h.1] at h2
      exact h2.box z7 hvn
    show wpAnyM _ _ _ _ _ 20 (Array.replicate 20 false) _ _
    refine mv_read 0 hF (fun _ _ _ h => h) rfl (by kernel_rfl) (by kernel_rfl) (by kernel_rfl) (fun K hK => ?_)
    go_simp
    first | refine ⟨_, fun _ => rfl, hK _ _ ?_⟩ | refine hK _ _ ?_
    clear hK K
    refine mv_read 1 hF (fun _ _ _ h => h) rfl (by kernel_rfl) (by kernel_rfl) (by kernel_rfl) (fun K hK => ?_)
    go_simp
    first | refine ⟨_, fun _ => rfl, hK _ _ ?_⟩ | refine hK _ _ ?_
    clear hK K
    refine mv_read 2 hF (fun _ _ _ h => h) rfl (by kernel_rfl) (by kernel_rfl) (by kernel_rfl) (fun K hK => ?_)
    go_simp
    first | refine ⟨_, fun _ => rfl, hK _ _ ?_⟩ | refine hK _ _ ?_
    clear hK K
    refine mv_read 3 hF (fun _ _ _ h => h) rfl (by kernel_rfl) (by kernel_rfl) (by kernel_rfl) (fun K hK => ?_)
    go_simp
    first | refine ⟨_, fun _ => rfl, hK _ _ ?_⟩ | refine hK _ _ ?_
    clear hK K
    refine mv_readN 4 hF0 (fun f w v _ h => h.read v) rfl (by kernel_rfl) (by kernel_rfl) (by kernel_rfl) (fun K hK => ?_)
    go_simp
    first | refine ⟨_, fun _ => rfl, hK _ _ ?_⟩ | refine hK _ _ ?_
    clear hK K
    refine mv_read 5 hF (fun _ _ _ h => h) rfl (by kernel_rfl) (by kernel_rfl) (by kernel_rfl) (fun K hK => ?_)
    go_simp
    first | refine ⟨_, fun _ => rfl, hK _ _ ?_⟩ | refine hK _ _ ?_
    clear hK K
    refine mv_read 6 hF (fun _ _ _ h => h) rfl (by kernel_rfl) (by kernel_rfl) (by kernel_rfl) (fun K hK => ?_)
    go_simp
    first | refine ⟨_, fun _ => rfl, hK _ _ ?_⟩ | refine hK _ _ ?_
    clear hK K
    refine mv_read 7 hF (fun _ _ _ h => h) rfl (by kernel_rfl) (by kernel_rfl) (by kernel_rfl) (fun K hK => ?_)
    go_simp
    first | refine ⟨_, fun _ => rfl, hK _ _ ?_⟩ | refine hK _ _ ?_
    clear hK K
    refine mv_read 8 hF (fun _ _ _ h => h) rfl (by kernel_rfl) (by kernel_rfl) (by kernel_rfl) (fun K hK => ?_)
    go_simp
    first | refine ⟨_, fun _ => rfl, hK _ _ ?_⟩ | refine hK _ _ ?_
    clear hK K
    refine mv_read 9 hF (fun _ _ _ h => h) rfl (by kernel_rfl) (by kernel_rfl) (by kernel_rfl) (fun K hK => ?_)
    go_simp
    first | refine ⟨_, fun _ => rfl, hK _ _ ?_⟩ | refine hK _ _ ?_
    clear hK K
    refine mv_read 10 hF (fun _ _ _ h => h) rfl (by kernel_rfl) (by kernel_rfl) (by kernel_rfl) (fun K hK => ?_)
    go_simp
    first | refine ⟨_, fun _ => rfl, hK _ _ ?_⟩ | refine hK _ _ ?_
    clear hK K
    refine mv_call1 11 17 rfl (by kernel_rfl) (by kernel_rfl) (by kernel_rfl) rfl rfl eg_bepoch (args := #[.pointer (some ⟨bn, 0, none⟩)]) rfl (u := .int .i64 m.book.epoch) (fun g w9 ha h0 h => (bepoch_any w9 (KB.out.same fun k o hf hk => h.block hk (fun e => (HOw.out k e).1.2.2 hf) (by have := (H7.out.2.2 k hf).1; omega))).mono fun en w8 ⟨q1, q2⟩ => ⟨q1, by rw [q2]; exact h⟩) ?_
    refine mv_read 12 hF (fun _ _ _ h => h) rfl (by kernel_rfl) (by kernel_rfl) (by kernel_rfl) (fun K hK => ?_)
    go_simp
    first | refine ⟨_, fun _ => rfl, hK _ _ ?_⟩ | refine hK _ _ ?_
    clear hK K
    refine mv_read 13 hF (fun _ _ _ h => h) rfl (by kernel_rfl) (by kernel_rfl) (by kernel_rfl) (fun K hK => ?_)
    go_simp
    first | refine ⟨_, fun _ => rfl, hK _ _ ?_⟩ | refine hK _ _ ?_
    clear hK K
    refine mv_read 14 hF (fun _ _ _ h => h) rfl (by kernel_rfl) (by kernel_rfl) (by kernel_rfl) (fun K hK => ?_)
    go_simp
    first | refine ⟨_, fun _ => rfl, hK _ _ ?_⟩ | refine hK _ _ ?_
    clear hK K
    refine mv_alone 15 rfl (by kernel_rfl) rfl (fun v => ∃ g, v = .slice (some ⟨g, 0, none⟩) 1 1) (fun g w9 _ h0 h D hD => ?_) ?_
    · have h9 := h
      simp only [h0] at h9
      have h8 := h9.made #[.int .i64 lb, .int .i64 m.book.epoch, .string da] rfl
      clear h h9
      go_simp
      exact hD _ _ ⟨_, rfl⟩ h8
    rintro _ ⟨gs, rfl⟩
    refine mv_append 16 rfl (by kernel_rfl) rfl (.tmp 33) (.tmp 44) 51 rfl verT24 0 _ _ m.vers [(lb, m.book.epoch, da)] rfl rfl (by have := HU.out.2; simp; omega) (by decide) (fun g w9 ha h0 h => ?_) (fun v' => ∃ a n c, v' = .slice a n c) (fun g w9 v' w' ha h0 h hG => ?_) ?_
    · have e1 : g 15 = some (.slice (some ⟨gs, 0, none⟩) 1 1) := (agree_on 15 ha (by kernel_rfl)).trans rfl
      simp only [e1, h0] at h
      exact h.rows (Nat.zero_le _)
    · have e1 : g 15 = some (.slice (some ⟨gs, 0, none⟩) 1 1) := (agree_on 15 ha (by kernel_rfl)).trans rfl
      have e2 : g 4 = some (.slice vva m.vers.length vvc) := (agree_on 4 ha (by kernel_rfl)).trans rfl
      simp only [e1, e2, h0] at h
      obtain ⟨a9, c9, e9, -⟩ := hG.1.shape
      refine ⟨⟨_, _, _, e9⟩, ?_⟩
      show AppAt _ _ _ _ _ _ _ _ _ (g 4) (g 15) _ _ _
      rw [e1, e2]
      exact h.grew hG
    rintro _ ⟨az, nz, cz, rfl⟩
    refine mv_read 17 hF (fun _ _ _ h => h) rfl (by kernel_rfl) (by kernel_rfl) (by kernel_rfl) (fun K hK => ?_)
    go_simp
    first | refine ⟨_, fun _ => rfl, hK _ _ ?_⟩ | refine hK _ _ ?_
    clear hK K
    refine mv_read 18 hF (fun _ _ _ h => h) rfl (by kernel_rfl) (by kernel_rfl) (by kernel_rfl) (fun K hK => ?_)
    go_simp
    first | refine ⟨_, fun _ => rfl, hK _ _ ?_⟩ | refine hK _ _ ?_
    clear hK K
    refine mv_alone 19 rfl (by kernel_rfl) rfl (fun _ => True) (fun g w9 ha h0 h D hD => ?_) ?_
    · have e1 : g 16 = some (.slice az nz cz) := (agree_on 16 ha (by kernel_rfl)).trans rfl
      simp only [e1, h0] at h
      have q1 := h.1.cell z7 hvn
      have q2 := h.1.frozen z7 (fz 7) hvn
      have hD2 := hD undef (w9.setCell ⟨n, 7, none⟩ (.slice az nz cz)) trivial (by show AppAt _ _ _ _ _ _ _ _ _ (g 4) (g 15) (g 16) _ _; rw [e1]; exact h.stored)
      clear hD h
      go_simp
      exact hD2
    rintro vs -
    refine mv_end (by kernel_rfl) ?_
    intro w2 hw2
    have HG : AppAt verD 0 P1 89 (.slice vva m.vers.length vvc) m.vers [(lb, m.book.epoch, da)] n 7 (some (.slice vva m.vers.length vvc)) (some (.slice (some ⟨gs, 0, none⟩) 1 1)) (some (.slice az nz cz)) (some vs) w2 := hw2
    obtain ⟨w3, g1, g3, g2, rfl⟩ := HG.done2
    have HG3 := Lib.hid (And.intro g1 (And.intro g2 g3))
    clear hw2 HG hF hFC hF0 hFC0 j0 j1 j4 j5 j7 g1 g2 g3 a0 a1 a2 a3 a4 a5 a6 z0 z1 z2 z3 z4 z5 z6 z7 fz
    have hk3 : ∀ k, k < P1.heap.size → (Value.slice vva m.vers.length vvc).ownBlock ≠ some k → k ≠ n → (w3.setCell ⟨n, 7, none⟩ (.slice az nz cz)).heap[k]? = P1.heap[k]? := fun k hk h1 h2 => (set_ne _ h2).trans (HG3.out.1.block k hk fun e => h1 e.symm)
    have HK3 := Lib.hid hk3
    clear hk3
    have HB7 := Lib.hid (HG3.out.1.block n (lt_of_block KP.out) (fun e => HNV.out.2 e.symm))
    have hrn : ∀ k, rv.ownBlock = some k → Far n cc bn c mu mh mg k ∧ k < v1.heap.size := fun k e => ⟨HMv.out.far k (Or.inl e), (HMv.out.recs.lt e).2⟩
    have HRn := Lib.hid hrn
    have hfar : ∀ k, (Value.slice az nz cz).ownBlock = some k → Far n cc bn c mu mh mg k := fun k e => by
      rcases HG3.out.2.2 with q | q
      · exact (HOw.out k (q ▸ e)).1
      · exact HMv.out.farNew (by have := q k e; have := HSz.out; omega)
    have HFa := Lib.hid hfar
    clear hfar
    go_wp2
    refine HR.out _ _ ⟨by rw [HZ.out]; try rfl, .slice az nz cz, ?_, ?_⟩
    · rw [HQ.out]
      refine ⟨set_blk (HB7.out.trans KP.out) 7 _, ?_, KB.out.same ?_, ?_, ?_, ?_, fun k e => e.elim (fun e => (HRn.out k e).1) (fun e => HFa.out k e)⟩
      · exact (HK3.out cc (by have := lt_of_block HMv.out.clk; have := HSz.out; omega) (fun e => (HOw.out cc e).1.2.1 rfl) (by have := H7.out.2.1; omega)).trans ((HO.out cc (by have := H7.out.2.1; omega)).trans HMv.out.clk)
      · exact fun k o hf hk => (HK3.out k (lt_of_block hk) (fun e => (HOw.out k e).1.2.2 hf) (by have := (H7.out.2.2 k hf).1; omega)).trans hk
      · exact HMv.out.recs.keep fun k e => (HK3.out k (by have := (HRn.out k e).2; have := HSz.out; omega) (HMv.out.ne k e) (HRn.out k e).1.1).trans (HO.out k (HRn.out k e).1.1)
      · exact HG3.out.2.1.keep fun k e => set_ne _ (HFa.out k e).1
      · intro k e e2
        rcases HG3.out.2.2 with q | q
        · exact HMv.out.ne k e (q ▸ e2)
        · have := q k e2; have := (HRn.out k e).2; have := HSz.out; omega
    · refine HTP.out.trans ⟨HG3.out.1.os, HG3.out.1.tape, HG3.out.1.output, by simpa using HG3.out.1.size, fun k hk hF => HK3.out k hk (fun e => hF (Or.inr (Or.inr (Or.inr (Or.inr e))))) (fun e => hF (Or.inl e)), fun k hk => ?_⟩
      rcases hk with q | q | q | q | q
      · exact Or.inl (Or.inl q)
      · exact Or.inl (Or.inr (Or.inl q))
      · exact Or.inl (Or.inr (Or.inr (Or.inl q)))
      · exact Or.inl (Or.inr (Or.inr (Or.inr (Or.inl q))))
      · rcases HG3.out.2.2 with q2 | q2
        · exact Or.inl (Or.inr (Or.inr (Or.inr (Or.inr (q2 ▸ q)))))
        · exact Or.inr (q2 k q)
end Go.Proofs.YtnkiokaeooopgaaGreat
/- A record applied: of the program's model. -/
set_option maxRecDepth 100000
namespace Go.Proofs.YtnkiokaeooopgaaGreat
open Go.RowKit Ks Go.Maps
set_option linter.unusedVariables false
set_option linter.unusedSimpArgs false
theorem infoRec24 : (Tryz.prog.info? 72).map (fun i => (i.zero, i.size, i.bytes)) = some (some (recV noRec), 8, 80) := by kernel_rfl
theorem recT24 : ElemT Tryz.prog 50 72 recE.k 80 := elemT_of Tryz.underlying50 infoRec24 rfl
set_option maxRecDepth 100000 in
set_option maxHeartbeats 8000000 in
theorem mapply_any {n cc bn c mu mh mg : Nat} {rv vv : Value} {m : ModT} (r : RecT) (w : World) (h : ModAt w n cc bn c mu mh mg rv vv m) (h7 : Seven n cc bn c mu mh mg) (hf : fitRec r)
    (hh : m.book.holds.length ≤ 1000000) (hu : 0 ≤ m.used ∧ m.used ≤ 1000000000) (hn : m.recs.length ≤ 1000000) :
    Calls Tryz.prog 50 #[.pointer (some ⟨n, 0, none⟩), recV r] w fun e w' =>
      e = .returned (.tuple #[]) ∧ ∃ rv', ModAt w' n cc bn c mu mh mg rv' vv (applyM m r) ∧ Turn w w' (FM n cc bn c mu mh mg rv vv) (FM n cc bn c mu mh mg rv' vv) := by
  refine calls_by fun R HR => ?_
  have HD := Lib.hid h
  have H7 := Lib.hid h7
  have HAp := Lib.hid (fun w h => bapply_any (b := m.book) r w h h7.1 hf hh)
  have HU := Lib.hid (And.intro hu hn)
  have HQ : Hid (applyM m r = { m with used := m.used + 1, book := applyB m.book r, recs := m.recs ++ [r] }) := Lib.hid rfl
  have HRr : Hid (∀ (kd ep tm ct tg un : Int) (rt nm : ByteArray), recE.enc ⟨kd, ep, tm, ct, tg, un, rt, nm⟩ = [.int .i64 kd, .int .i64 ep, .int .i64 tm, .int .i64 ct, .int .i64 tg, .int .i64 un, .string rt, .string nm]) := Lib.hid fun _ _ _ _ _ _ _ _ => rfl
  generalize applyM m r = AM at *
  generalize applyB m.book r = AB at *
  generalize mayE m.book r = ME at *
  obtain ⟨kd, ep, tm, ct, tg, un, rt, nm⟩ := r
  clear h h7 hf hh hu hn
  have H1 := Lib.hid (And.intro (Below.refl w.heap.size w) (HD.out))
  obtain ⟨W1, hW1⟩ : ∃ W1, w.alloc (.cells #[.int .i64 kd, .int .i64 ep, .int .i64 tm, .int .i64 ct, .int .i64 tg, .int .i64 un, .string rt, .string nm] 72) = W1 := ⟨_, rfl⟩
  have hbW1 : Below w.heap.size w W1 := by rw [← hW1]; exact alloc_below w _
  have kW1 : W1.heap[w.heap.size]? = some (.cells #[.int .i64 kd, .int .i64 ep, .int .i64 tm, .int .i64 ct, .int .i64 tg, .int .i64 un, .string rt, .string nm] 72 (0, 0)) := by rw [← hW1]; exact alloc_new w _
  have H2 := Lib.hid (And.intro (H1.out.1.trans (hbW1.mono H1.out.1.size)) (And.intro (H1.out.2.below hbW1) (kW1)))
  clear hbW1 kW1
  obtain ⟨⟨r0, r1, r2, r3, r4, r5, r6, r7⟩, -⟩ := blkR H2.out.2.2
  obtain ⟨⟨z0, z1, z2, z3, z4, z5, z6, z7⟩, -⟩ := blkR H2.out.2.1.blk
  have hwn : n < w.heap.size := HD.out.lt
  go_enter Tryz.func50, Tryz.ntmps50
  go_wp2_with fail
  have gr0 := fun p => after_cell r0 p
  have gr1 := fun p => after_cell r1 p
  have gr2 := fun p => after_cell r2 p
  have gr3 := fun p => after_cell r3 p
  have gr4 := fun p => after_cell r4 p
  have gr5 := fun p => after_cell r5 p
  have gr6 := fun p => after_cell r6 p
  have gr7 := fun p => after_cell r7 p
  have gz5 := fun p => after_cell z5 p
  refine wp_region_after_tail 5 (by kernel_rfl) (by kernel_rfl) ?_
  simp only [List.take_succ_cons, List.take_zero, List.drop_succ_cons, List.drop_zero]
  repeat (go_big_quiet_step (fail))
  refine wpQuiet_nil ?_
  rintro q1 ⟨p9, rfl⟩
  have hb := after_below W1 p9
  have H3 := Lib.hid (And.intro (H2.out.1.trans (hb.mono H2.out.1.size)) (And.intro (H2.out.2.1.below hb) (blk_on hb H2.out.2.2)))
  generalize After W1 p9 = q1 at *
  clear hb gz5 gr0 gr1 gr2 gr3 gr4 gr5 gr6 gr7 r0 r1 r2 r3 r4 r5 r6 r7 z0 z1 z2 z3 z4 z5 z6 z7
  go_wp2_with fail
  refine (HAp.out _ H3.out.2.1.book).mono ?_
  rintro en P1 ⟨rfl, hbk, htk⟩
  have HFn : Hid (∀ k, ¬ FB bn c mu mh mg k → k < q1.heap.size → P1.heap[k]? = q1.heap[k]?) := Lib.hid fun k h1 h2 => htk.block k h2 h1
  have HMv := Lib.hid H3.out.2.1
  have HAv := Lib.hid H3.out.2.2
  have HBw := Lib.hid H3.out.1
  have hnf : ∀ k, (k = n ∨ w.heap.size ≤ k) → ¬ FB bn c mu mh mg k := fun k hk hf => by
    rcases hk with hk | hk
    · exact (H7.out.2.2 k hf).1 hk
    · exact (HD.out.farNew hk).2.2 hf
  have HNF := Lib.hid hnf
  have KB := Lib.hid hbk
  have HSz := Lib.hid htk.size
  have HTP := Lib.hid (show Turn w P1 (FM n cc bn c mu mh mg rv vv) (FM n cc bn c mu mh mg rv vv) from (Turn.of_below _ HBw.out).trans (htk.wide (fun k hk => Or.inr (Or.inr (Or.inl hk))) (fun k hk => Or.inr (Or.inl hk))))
  have KP := Lib.hid (show P1.heap[n]? = some (.cells #[.int .i64 m.geo.blocks, .int .i64 m.geo.lbas, .int .i64 m.geo.first, .int .i64 m.used, .pointer (some ⟨cc, 0, none⟩), .pointer (some ⟨bn, 0, none⟩), rv, vv] 53 (0, 0)) from (HFn.out n (hnf n (Or.inl rfl)) HMv.out.lt).trans HMv.out.blk)
  have hownr : ∀ k, rv.ownBlock = some k → Far n cc bn c mu mh mg k ∧ k < q1.heap.size := fun k e => ⟨HMv.out.far k (Or.inl e), (HMv.out.recs.lt e).2⟩
  have HOr := Lib.hid hownr
  have hownv : ∀ k, vv.ownBlock = some k → Far n cc bn c mu mh mg k ∧ k < q1.heap.size := fun k e => ⟨HMv.out.far k (Or.inr e), (HMv.out.vers.lt e).2⟩
  have HOv := Lib.hid hownv
  have hra : rv.ownBlock ≠ some w.heap.size := fun e => by have := (HD.out.recs.lt e).2; omega
  have hrn : rv.ownBlock ≠ some n := fun e => (hownr n e).1.1 rfl
  have KA := Lib.hid (show P1.heap[w.heap.size]? = some (.cells #[.int .i64 kd, .int .i64 ep, .int .i64 tm, .int .i64 ct, .int .i64 tg, .int .i64 un, .string rt, .string nm] 72 (0, 0)) from (HFn.out _ (hnf _ (Or.inr (Nat.le_refl _))) (lt_of_block HAv.out)).trans HAv.out)
  have KR := Lib.hid (show Row recE P1 0 72 rv m.recs from HMv.out.recs.keep fun k e => HFn.out k (hownr k e).1.2.2 (hownr k e).2)
  have KV := Lib.hid (show Row verD P1 0 89 vv m.vers from HMv.out.vers.keep fun k e => HFn.out k (hownv k e).1.2.2 (hownv k e).2)
  have KC := Lib.hid (show P1.heap[cc]? = some (.cells #[.bool true, .int .i64 m.now] 82 (0, 0)) from (HFn.out cc (fun q => (H7.out.2.2 cc q).2 rfl) (lt_of_block HMv.out.clk)).trans HMv.out.clk)
  have HNR := Lib.hid (And.intro hra hrn)
  clear hbk htk hnf hownr hownv hW1
  obtain ⟨rra, rrc, hrs, -⟩ := KR.out.shape
  subst hrs
  obtain ⟨⟨r0, r1, r2, r3, r4, r5, r6, r7⟩, -⟩ := blkR KA.out
  obtain ⟨⟨z0, z1, z2, z3, z4, z5, z6, z7⟩, fz⟩ := blkR KP.out
  go_wp2_with fail
  refine wp_region_mv (fun f => AppAt recE 0 P1 72 (.slice rra m.recs.length rrc) m.recs [⟨kd, ep, tm, ct, tg, un, rt, nm⟩] n 6 (f 4) (f 6) (f 7) (f 10)) (by kernel_rfl) (AppAt.start KR.out (drew_below P1)) ?_
  obtain ⟨S, F, hF, hFC⟩ := moved_class (fun f => AppAt recE 0 P1 72 (.slice rra m.recs.length rrc) m.recs [⟨kd, ep, tm, ct, tg, un, rt, nm⟩] n 6 (f 4) (f 6) (f 7) (f 10))
  obtain ⟨S0, F0, hF0, hFC0⟩ := moved_classN (fun f => AppAt recE 0 P1 72 (.slice rra m.recs.length rrc) m.recs [⟨kd, ep, tm, ct, tg, un, rt, nm⟩] n 6 (f 4) (f 6) (f 7) (f 10)) 4
  have k0 : ∀ s, (F s).cell? ⟨w.heap.size, 0, none⟩ = some (.int .i64 kd) := fun s => (hFC s).choose_spec.cell r0 hra (Or.inl (by show w.heap.size ≠ n; omega))
  have k1 : ∀ s, (F s).cell? ⟨w.heap.size, 1, none⟩ = some (.int .i64 ep) := fun s => (hFC s).choose_spec.cell r1 hra (Or.inl (by show w.heap.size ≠ n; omega))
  have k2 : ∀ s, (F s).cell? ⟨w.heap.size, 2, none⟩ = some (.int .i64 tm) := fun s => (hFC s).choose_spec.cell r2 hra (Or.inl (by show w.heap.size ≠ n; omega))
  have k3 : ∀ s, (F s).cell? ⟨w.heap.size, 3, none⟩ = some (.int .i64 ct) := fun s => (hFC s).choose_spec.cell r3 hra (Or.inl (by show w.heap.size ≠ n; omega))
  have k4 : ∀ s, (F s).cell? ⟨w.heap.size, 4, none⟩ = some (.int .i64 tg) := fun s => (hFC s).choose_spec.cell r4 hra (Or.inl (by show w.heap.size ≠ n; omega))
  have k5 : ∀ s, (F s).cell? ⟨w.heap.size, 5, none⟩ = some (.int .i64 un) := fun s => (hFC s).choose_spec.cell r5 hra (Or.inl (by show w.heap.size ≠ n; omega))
  have k6 : ∀ s, (F s).cell? ⟨w.heap.size, 6, none⟩ = some (.string rt) := fun s => (hFC s).choose_spec.cell r6 hra (Or.inl (by show w.heap.size ≠ n; omega))
  have k7 : ∀ s, (F s).cell? ⟨w.heap.size, 7, none⟩ = some (.string nm) := fun s => (hFC s).choose_spec.cell r7 hra (Or.inl (by show w.heap.size ≠ n; omega))
  have j0 : ∀ s, (F s).cell? ⟨n, 0, none⟩ = some (.int .i64 m.geo.blocks) := fun s => (hFC s).choose_spec.cell z0 hrn (Or.inr (by show (0 : Nat) ≠ 6; decide))
  have j7 : ∀ s, (F0 s).cell? ⟨n, 6, none⟩ = some (.slice rra m.recs.length rrc) := fun s => by
    have h := (hFC0 s).choose_spec
    have h2 := h.2
    simp only [h.1] at h2
    exact h2.box z6 hrn
  show wpAnyM _ _ _ _ _ 11 (Array.replicate 11 false) _ _
  refine mv_read 0 hF (fun _ _ _ h => h) rfl (by kernel_rfl) (by kernel_rfl) (by kernel_rfl) (fun K hK => ?_)
  go_simp
  first | refine ⟨_, fun _ => rfl, hK _ _ ?_⟩ | refine hK _ _ ?_
  clear hK K
  refine mv_read 1 hF (fun _ _ _ h => h) rfl (by kernel_rfl) (by kernel_rfl) (by kernel_rfl) (fun K hK => ?_)
  go_simp
  first | refine ⟨_, fun _ => rfl, hK _ _ ?_⟩ | refine hK _ _ ?_
  clear hK K
  refine mv_read 2 hF (fun _ _ _ h => h) rfl (by kernel_rfl) (by kernel_rfl) (by kernel_rfl) (fun K hK => ?_)
  go_simp
  first | refine ⟨_, fun _ => rfl, hK _ _ ?_⟩ | refine hK _ _ ?_
  clear hK K
  refine mv_read 3 hF (fun _ _ _ h => h) rfl (by kernel_rfl) (by kernel_rfl) (by kernel_rfl) (fun K hK => ?_)
  go_simp
  first | refine ⟨_, fun _ => rfl, hK _ _ ?_⟩ | refine hK _ _ ?_
  clear hK K
  refine mv_readN 4 hF0 (fun f w v _ h => h.read v) rfl (by kernel_rfl) (by kernel_rfl) (by kernel_rfl) (fun K hK => ?_)
  go_simp
  first | refine ⟨_, fun _ => rfl, hK _ _ ?_⟩ | refine hK _ _ ?_
  clear hK K
  refine mv_read 5 hF (fun _ _ _ h => h) rfl (by kernel_rfl) (by kernel_rfl) (by kernel_rfl) (fun K hK => ?_)
  go_simp
  first | refine ⟨_, fun _ => rfl, hK _ _ ?_⟩ | refine hK _ _ ?_
  clear hK K
  refine mv_alone 6 rfl (by kernel_rfl) rfl (fun v => ∃ g, v = .slice (some ⟨g, 0, none⟩) 1 1) (fun g w9 _ h0 h D hD => ?_) ?_
  · have h9 := h
    simp only [h0] at h9
    have h8 := h9.made #[.int .i64 kd, .int .i64 ep, .int .i64 tm, .int .i64 ct, .int .i64 tg, .int .i64 un, .string rt, .string nm] rfl
    clear h h9
    go_simp
    exact hD _ _ ⟨_, rfl⟩ h8
  rintro _ ⟨gs, rfl⟩
  refine mv_append 7 rfl (by kernel_rfl) rfl (.tmp 14) (.tmp 16) 50 rfl recT24 0 _ _ m.recs [⟨kd, ep, tm, ct, tg, un, rt, nm⟩] rfl rfl (by have := HU.out.2; simp; omega) (by decide) (fun g w9 ha h0 h => ?_) (fun v' => ∃ a n c, v' = .slice a n c) (fun g w9 v' w' ha h0 h hG => ?_) ?_
  · have e1 : g 6 = some (.slice (some ⟨gs, 0, none⟩) 1 1) := (agree_on 6 ha (by kernel_rfl)).trans rfl
    simp only [e1, h0] at h
    exact h.rows (Nat.zero_le _)
  · have e1 : g 6 = some (.slice (some ⟨gs, 0, none⟩) 1 1) := (agree_on 6 ha (by kernel_rfl)).trans rfl
    have e2 : g 4 = some (.slice rra m.recs.length rrc) := (agree_on 4 ha (by kernel_rfl)).trans rfl
    simp only [e1, e2, h0] at h
    obtain ⟨a9, c9, e9, -⟩ := hG.1.shape
    refine ⟨⟨_, _, _, e9⟩, ?_⟩
    show AppAt _ _ _ _ _ _ _ _ _ (g 4) (g 6) _ _ _
    rw [e1, e2]
    exact h.grew hG
  rintro _ ⟨az, nz, cz, rfl⟩
  refine mv_read 8 hF (fun _ _ _ h => h) rfl (by kernel_rfl) (by kernel_rfl) (by kernel_rfl) (fun K hK => ?_)
  go_simp
  first | refine ⟨_, fun _ => rfl, hK _ _ ?_⟩ | refine hK _ _ ?_
  clear hK K
  refine mv_read 9 hF (fun _ _ _ h => h) rfl (by kernel_rfl) (by kernel_rfl) (by kernel_rfl) (fun K hK => ?_)
  go_simp
  first | refine ⟨_, fun _ => rfl, hK _ _ ?_⟩ | refine hK _ _ ?_
  clear hK K
  refine mv_alone 10 rfl (by kernel_rfl) rfl (fun _ => True) (fun g w9 ha h0 h D hD => ?_) ?_
  · have e1 : g 7 = some (.slice az nz cz) := (agree_on 7 ha (by kernel_rfl)).trans rfl
    simp only [e1, h0] at h
    have q1 := h.1.cell z6 hrn
    have q2 := h.1.frozen z6 (fz 6) hrn
    have hD2 := hD undef (w9.setCell ⟨n, 6, none⟩ (.slice az nz cz)) trivial (by show AppAt _ _ _ _ _ _ _ _ _ (g 4) (g 6) (g 7) _ _; rw [e1]; exact h.stored)
    clear hD h
    go_simp
    exact hD2
  rintro vs -
  refine mv_end (by kernel_rfl) ?_
  intro w2 hw2
  have HG : AppAt recE 0 P1 72 (.slice rra m.recs.length rrc) m.recs [⟨kd, ep, tm, ct, tg, un, rt, nm⟩] n 6 (some (.slice rra m.recs.length rrc)) (some (.slice (some ⟨gs, 0, none⟩) 1 1)) (some (.slice az nz cz)) (some vs) w2 := hw2
  obtain ⟨w3, g1, g3, g2, rfl⟩ := HG.done2
  have HG3 := Lib.hid (And.intro g1 (And.intro g2 g3))
  clear hw2 HG hF hFC hF0 hFC0 j0 j7 g1 g2 g3 k0 k1 k2 k3 k4 k5 k6 k7 r0 r1 r2 r3 r4 r5 r6 r7 z0 z1 z2 z3 z4 z5 z6 z7 fz
  have HB7 := Lib.hid (HG3.out.1.block n (lt_of_block KP.out) (fun e => HNR.out.2 e.symm))
  obtain ⟨P3, hP3⟩ : ∃ W, w3.setCell ⟨n, 6, none⟩ (.slice az nz cz) = W := ⟨_, rfl⟩
  have K3 := Lib.hid (show P3.heap[n]? = some (.cells #[.int .i64 m.geo.blocks, .int .i64 m.geo.lbas, .int .i64 m.geo.first, .int .i64 m.used, .pointer (some ⟨cc, 0, none⟩), .pointer (some ⟨bn, 0, none⟩), .slice az nz cz, vv] 53 (0, 0)) by rw [← hP3]; exact set_blk (HB7.out.trans KP.out) 6 _)
  have HPo := Lib.hid (show P3.os = P1.os ∧ P3.tape = P1.tape ∧ P3.output = P1.output by rw [← hP3]; exact ⟨HG3.out.1.os, HG3.out.1.tape, HG3.out.1.output⟩)
  have HS3 := Lib.hid (show w3.heap.size = P3.heap.size by rw [← hP3]; simp)
  have HK4 : Hid (∀ k, k ≠ n → P3.heap[k]? = w3.heap[k]?) := Lib.hid fun k hk => by rw [← hP3]; exact set_ne _ hk
  rw [hP3]
  clear hP3
  obtain ⟨⟨z0, z1, z2, z3, z4, z5, z6, z7⟩, fz⟩ := blkR K3.out
  have fz3 := fz 3
  clear fz
  have hwr : wrap64 (m.used + 1) = m.used + 1 := by have := HU.out.1; unfold wrap64; omega
  have HK5 : Hid (∀ k, k < P1.heap.size → (Value.slice rra m.recs.length rrc).ownBlock ≠ some k → k ≠ n → (P3.setCell ⟨n, 3, none⟩ (.int .i64 (m.used + 1))).heap[k]? = P1.heap[k]?) := Lib.hid fun k hk h1 h2 => (set_ne _ h2).trans ((HK4.out k h2).trans (HG3.out.1.block k hk fun e => h1 e.symm))
  have hfar : ∀ k, (Value.slice az nz cz).ownBlock = some k → Far n cc bn c mu mh mg k := fun k e => by
    rcases HG3.out.2.2 with q | q
    · exact (HOr.out k (q ▸ e)).1
    · exact HD.out.farNew (by have := q k e; have := HSz.out; have := HBw.out.size; omega)
  have HFa := Lib.hid hfar
  clear hfar
  go_wp2
  go_end0
  refine HR.out _ _ ⟨rfl, .slice az nz cz, ?_, ?_⟩
  · rw [HQ.out]
    refine ⟨set_blk K3.out 3 _, ?_, KB.out.same ?_, ?_, ?_, ?_, fun k e => e.elim (fun e => HFa.out k e) (fun e => (HOv.out k e).1)⟩
    · exact (HK5.out cc (lt_of_block KC.out) (fun e => (HOr.out cc e).1.2.1 rfl) (by have := H7.out.2.1; omega)).trans KC.out
    · exact fun k o hf hk => (HK5.out k (lt_of_block hk) (fun e => (HOr.out k e).1.2.2 hf) (by have := (H7.out.2.2 k hf).1; omega)).trans hk
    · exact HG3.out.2.1.keep fun k e => (set_ne _ (HFa.out k e).1).trans (HK4.out k (HFa.out k e).1)
    · exact KV.out.keep fun k e => HK5.out k (KV.out.lt e).2 (fun e2 => HMv.out.ne k e2 e) (HOv.out k e).1.1
    · intro k e e2
      rcases HG3.out.2.2 with q | q
      · exact HMv.out.ne k (q ▸ e) e2
      · have := q k e; have := (KV.out.lt e2).2; omega
  · have hos : P3.os = P1.os ∧ P3.tape = P1.tape ∧ P3.output = P1.output := HPo.out
    refine HTP.out.trans ⟨hos.1, hos.2.1, hos.2.2, by have := HG3.out.1.size; have := HS3.out; simp; omega, fun k hk hF => HK5.out k hk (fun e => hF (Or.inr (Or.inr (Or.inr (Or.inl e))))) (fun e => hF (Or.inl e)), fun k hk => ?_⟩
    rcases hk with q | q | q | q | q
    · exact Or.inl (Or.inl q)
    · exact Or.inl (Or.inr (Or.inl q))
    · exact Or.inl (Or.inr (Or.inr (Or.inl q)))
    · rcases HG3.out.2.2 with q2 | q2
      · exact Or.inl (Or.inr (Or.inr (Or.inr (Or.inl (q2 ▸ q)))))
      · exact Or.inr (q2 k q)
    · exact Or.inl (Or.inr (Or.inr (Or.inr (Or.inr q))))
end Go.Proofs.YtnkiokaeooopgaaGreat
/- The open epoch closed; a new model; a model that is none: of the program. -/
set_option maxRecDepth 100000
namespace Go.Proofs.YtnkiokaeooopgaaGreat
open Go.RowKit Ks Go.Maps
set_option linter.unusedVariables false
set_option linter.unusedSimpArgs false
theorem repeat32 (w : World) : Calls Tryz.prog 51 #[.string ⟨#[0]⟩, .int .i64 32] w fun e w' => e = .returned (.string (zerosS 32)) ∧ Below w.heap.size w w' :=
  (Tryz.strings_Repeat ⟨#[0]⟩ 32 w (by decide) (by decide)).mono fun e w' ⟨h1, h2⟩ => ⟨by rw [h1, repeat_zeros]; rfl, h2⟩
set_option maxRecDepth 100000 in
set_option maxHeartbeats 8000000 in
theorem mclose_any {n cc bn c mu mh mg : Nat} {rv vv : Value} {m : ModT} (w : World) (h : ModAt w n cc bn c mu mh mg rv vv m) (h7 : Seven n cc bn c mu mh mg)
    (hg : -9223372036854775808 ≤ m.geo.blocks ∧ m.geo.blocks ≤ 9223372036854775807) (hh : m.book.holds.length ≤ 1000000) (hu : 0 ≤ m.used ∧ m.used ≤ 1000000000) (hn : m.recs.length ≤ 1000000) (hv : ∀ v ∈ m.vers, 0 ≤ v.1 ∧ v.1 < 4096) (hl : m.vers.length ≤ 1000000) :
    Calls Tryz.prog 21 #[.pointer (some ⟨n, 0, none⟩)] w fun e w' =>
      e = .returned (.int .i64 (closeE m)) ∧ ∃ rv', ModAt w' n cc bn c mu mh mg rv' vv (closeM m (zerosS 32)) ∧ Turn w w' (FM n cc bn c mu mh mg rv vv) (FM n cc bn c mu mh mg rv' vv) := by
  refine calls_by fun R HR => ?_
  have HD := Lib.hid h
  have HE := Lib.hid (fun w (h : ModAt w n cc bn c mu mh mg rv vv m) => bepoch_any w h.book)
  have HN := Lib.hid (fun w (h : ModAt w n cc bn c mu mh mg rv vv m) => cnow_any cc m.now w h.clk)
  have HPs := Lib.hid (fun w (h : ModAt w n cc bn c mu mh mg rv vv m) => mplaces_any m.book.epoch w h hv hl)
  have HDa := Lib.hid (fun w => gdata_any m.geo.blocks m.geo.lbas m.geo.first w hg)
  have HAp := Lib.hid (fun w (h : ModAt w n cc bn c mu mh mg rv vv m) => mapply_any (m := m) (closeR m (zerosS 32)) w h h7 ⟨⟨by show (-9223372036854775808 : Int) ≤ 0; decide, by show (0 : Int) ≤ 9223372036854775807; decide⟩, by show (0 : Nat) ≤ maxLen; decide⟩ hh hu hn)
  have HZ0 : Hid (closeE m = if 4294967295 ≤ m.book.epoch ∨ geoData m.geo ≤ m.used then 6 else 0) := Lib.hid rfl
  have HM0 : Hid (closeM m (zerosS 32) = if closeE m = 0 then applyM m (closeR m (zerosS 32)) else m) := Lib.hid rfl
  rw [show geoD m.geo.blocks m.geo.lbas m.geo.first = geoData m.geo from rfl] at HDa
  unfold closeR at HAp HM0
  generalize applyM m ⟨1, m.book.epoch, m.now, placesN m m.book.epoch, 0, 0, zerosS 32, ⟨#[]⟩⟩ = AM at *
  generalize closeM m (zerosS 32) = CM at *
  generalize closeE m = CE at *
  generalize geoData m.geo = GD at *
  generalize placesN m m.book.epoch = PN at *
  obtain ⟨⟨z0, z1, z2, z3, z4, z5, z6, z7⟩, -⟩ := blkR h.blk
  clear h h7 hg hh hu hn hv hl
  have H1 := Lib.hid (And.intro (Below.refl w.heap.size w) (HD.out))
  go_enter Tryz.func21, Tryz.ntmps21
  go_wp2_with fail
  refine (HE.out _ H1.out.2).mono ?_
  rintro en y0 ⟨rfl, hw⟩
  rw [hw]
  clear hw
  go_wp2_with fail
  have gz0 := fun p => after_cell z0 p
  have gz1 := fun p => after_cell z1 p
  have gz2 := fun p => after_cell z2 p
  have gz3 := fun p => after_cell z3 p
  have gz4 := fun p => after_cell z4 p
  have gz5 := fun p => after_cell z5 p
  have gz6 := fun p => after_cell z6 p
  have gz7 := fun p => after_cell z7 p
  have cc0 := Lib.hid (fun p => calls_after (p := p) (HDa.out (After w p)))
  by_cases h1 : 4294967295 ≤ m.book.epoch
  · have h1d : decide (4294967295 ≤ m.book.epoch) = true := decide_eq_true h1
    have HZ := Lib.hid (show CE = 6 by rw [HZ0.out, if_pos (Or.inl h1)])
    have HQ := Lib.hid (show CM = m by rw [HM0.out, HZ.out]; rfl)
    refine wp_region_after (by kernel_rfl) (by kernel_rfl) ?_
    repeat (go_big_quiet_step (fail))
    refine wpQuiet_nil ?_
    rintro q1 ⟨p9, rfl⟩
    have hb := after_below w p9
    have H2 := Lib.hid (And.intro (H1.out.1.trans (hb.mono H1.out.1.size)) (H1.out.2.below hb))
    generalize After w p9 = q1 at *
    clear hb cc0 gz0 gz1 gz2 gz3 gz4 gz5 gz6 gz7 z0 z1 z2 z3 z4 z5 z6 z7
    go_wp2
    exact HR.out _ _ ⟨by rw [HZ.out]; try rfl, rv, by rw [HQ.out]; exact H2.out.2, Turn.of_below _ H2.out.1⟩
  have h1d : decide (4294967295 ≤ m.book.epoch) = false := decide_eq_false h1
  by_cases h2 : GD ≤ m.used
  · have h2d : decide (GD ≤ m.used) = true := decide_eq_true h2
    have HZ := Lib.hid (show CE = 6 by rw [HZ0.out, if_pos (Or.inr h2)])
    have HQ := Lib.hid (show CM = m by rw [HM0.out, HZ.out]; rfl)
    refine wp_region_after (by kernel_rfl) (by kernel_rfl) ?_
    repeat (go_big_quiet_step (fail))
    go_big_quiet_step (exact cc0.out _)
    repeat (go_big_quiet_step (fail))
    refine wpQuiet_nil ?_
    rintro q1 ⟨p9, rfl⟩
    have hb := after_below w p9
    have H2 := Lib.hid (And.intro (H1.out.1.trans (hb.mono H1.out.1.size)) (H1.out.2.below hb))
    generalize After w p9 = q1 at *
    clear hb cc0 gz0 gz1 gz2 gz3 gz4 gz5 gz6 gz7 z0 z1 z2 z3 z4 z5 z6 z7
    go_wp2
    exact HR.out _ _ ⟨by rw [HZ.out]; try rfl, rv, by rw [HQ.out]; exact H2.out.2, Turn.of_below _ H2.out.1⟩
  have h2d : decide (GD ≤ m.used) = false := decide_eq_false h2
  have HZ := Lib.hid (show CE = 0 by rw [HZ0.out, if_neg (fun q => q.elim h1 h2)])
  have HQ := Lib.hid (show CM = AM by rw [HM0.out, HZ.out]; rfl)
  refine wp_region_after (by kernel_rfl) (by kernel_rfl) ?_
  repeat (go_big_quiet_step (fail))
  go_big_quiet_step (exact cc0.out _)
  repeat (go_big_quiet_step (fail))
  refine wpQuiet_nil ?_
  rintro q1 ⟨p9, rfl⟩
  have hb := after_below w p9
  have H2 := Lib.hid (And.intro (H1.out.1.trans (hb.mono H1.out.1.size)) (H1.out.2.below hb))
  generalize After w p9 = q1 at *
  clear hb cc0 gz0 gz1 gz2 gz3 gz4 gz5 gz6 gz7 z0 z1 z2 z3 z4 z5 z6 z7
  obtain ⟨⟨z0, z1, z2, z3, z4, z5, z6, z7⟩, -⟩ := blkR H2.out.2.blk
  go_wp2_with fail
  refine (HN.out _ H2.out.2).mono ?_
  rintro en y1 ⟨rfl, hw⟩
  rw [hw]
  clear hw
  go_wp2_with fail
  refine (HPs.out _ H2.out.2).mono ?_
  rintro en v1 ⟨rfl, hb⟩
  have H3 := Lib.hid (And.intro (H2.out.1.trans (hb.mono H2.out.1.size)) (H2.out.2.below hb))
  clear hb
  go_wp2_with fail
  refine (repeat32 _).mono ?_
  rintro en v2 ⟨rfl, hb⟩
  have H4 := Lib.hid (And.intro (H3.out.1.trans (hb.mono H3.out.1.size)) (H3.out.2.below hb))
  clear hb
  clear z0 z1 z2 z3 z4 z5 z6 z7
  go_wp2_with fail
  refine (HAp.out _ H4.out.2).mono ?_
  rintro en v9 ⟨rfl, rv9, hm9, ht9⟩
  have H9 := Lib.hid (And.intro hm9 ((Turn.of_below (FM n cc bn c mu mh mg rv vv) H4.out.1).trans ht9))
  clear hm9 ht9
  go_wp2
  exact HR.out _ _ ⟨by rw [HZ.out]; try rfl, rv9, by rw [HQ.out]; exact H9.out.1, H9.out.2⟩
theorem mblock_no {v : Value} (s t : Int) (w : World) (h : ModNo w v) : Calls Tryz.prog 33 #[v, .int .i64 s, .int .i64 t] w fun e w' => e = .returned (.tuple #[.string ⟨#[]⟩, .bool false]) ∧ w' = w := by
  refine calls_by fun R HR => ?_
  have HT := Lib.hid (mthere_no w h)
  clear h
  go_enter Tryz.func33, Tryz.ntmps33
  go_wp2_with fail
  refine HT.out.mono ?_
  rintro en v1 ⟨rfl, hw⟩
  rw [hw]
  clear hw
  go_wp2
  exact HR.out _ _ ⟨rfl, rfl⟩
theorem mgone_no {v : Value} (t : Int) (w : World) (h : ModNo w v) : Calls Tryz.prog 35 #[v, .int .i64 t] w fun e w' => e = .returned (.bool false) ∧ w' = w := by
  refine calls_by fun R HR => ?_
  have HT := Lib.hid (mthere_no w h)
  clear h
  go_enter Tryz.func35, Tryz.ntmps35
  go_wp2_with fail
  refine HT.out.mono ?_
  rintro en v1 ⟨rfl, hw⟩
  rw [hw]
  clear hw
  go_wp2
  exact HR.out _ _ ⟨rfl, rfl⟩
theorem mrecords_no {v : Value}  (w : World) (h : ModNo w v) : Calls Tryz.prog 38 #[v] w fun e w' => e = .returned (.slice none 0 0) ∧ w' = w := by
  refine calls_by fun R HR => ?_
  have HT := Lib.hid (mthere_no w h)
  clear h
  go_enter Tryz.func38, Tryz.ntmps38
  go_wp2_with fail
  refine HT.out.mono ?_
  rintro en v1 ⟨rfl, hw⟩
  rw [hw]
  clear hw
  go_wp2
  exact HR.out _ _ ⟨rfl, rfl⟩
theorem mepoch_no {v : Value}  (w : World) (h : ModNo w v) : Calls Tryz.prog 37 #[v] w fun e w' => e = .returned (.int .i64 0) ∧ w' = w := by
  refine calls_by fun R HR => ?_
  have HT := Lib.hid (mthere_no w h)
  clear h
  go_enter Tryz.func37, Tryz.ntmps37
  go_wp2_with fail
  refine HT.out.mono ?_
  rintro en v1 ⟨rfl, hw⟩
  rw [hw]
  clear hw
  go_wp2
  exact HR.out _ _ ⟨rfl, rfl⟩
end Go.Proofs.YtnkiokaeooopgaaGreat
/- A range over a function that hands on what lies in memory (slices): the contract says of each what it reads as where it is handed. The loop's body leaves no way but its end. Plain. No program is in sight. -/
namespace Ks
open Go Go.RowKit
set_option linter.unusedVariables false

/-- What an iterator hands on: behind the last round (world A) x was made (world B), of which New tells; X is what it reads of x behind the round. -/
def SeenAll {α : Type} (F : Fence) (n : Nat) (P : Program) (g : Nat) (lb : Array Value) (encs : α → Array Value) (X : α → World → Prop) (New : List α → α → World → World → Prop) (x0 : α) (S : List α → Prop) (w : World) : Prop :=
  ∀ (l : Nat) (J : List α → World → Prop) (M : List α → α → World → Prop) (W : World), Below w.heap.size w W →
    (∀ pre A B, J pre A → Below A.heap.size A B → J pre B) → (∀ pre x A B, J pre A → Below A.heap.size A B → New pre x A B → M pre x B) →
    (∀ pre x W1, M pre x W1 → YieldAt F (n - 1) P l (encs x) W1 fun e W' => e = .returned (.bool true) ∧ J (pre ++ [x]) W' ∧ X x W') →
    (∀ A, Below W.heap.size W A → M [] x0 A) →
    CallsIn F n P g (#[.func (.yield l) #[] #[]] ++ lb) W fun e W' => (∃ v, e = .returned v) ∧ ∃ xs, S xs ∧ J xs W'

def seenPost {α : Type} (B : Nat) (I : List α → World → Prop) (X : α → World → Prop) (pre : List α) (x : α) (W : World) : Exit → Act → World → Prop
  | .normal, _, W' => KeepsFrom B W W' ∧ I (pre ++ [x]) W' ∧ X x W'
  | _, _, _ => False

theorem wpIn_range_seen {F : Fence} {n : Nat} {P : Program} {α : Type} {g : Operand} {ps : Array Tmp} {assign body : Code} {Q : Exit → Act → World → Prop} {a : Act} {w : World}
    (hro : F.round = none) (h1 : 1 ≤ n) {gf : Nat} {lb : Array Value} (hg : a.eval g = .func (.func gf) #[] lb) (hFg : F.fn gf) (eg : ∀ args w, (callFunc gf args).run P w = .ok (.enter gf args) w)
    {encs : α → Array Value} {X : α → World → Prop} {New : List α → α → World → World → Prop} {x0 : α} {S : List α → Prop} (hseq : SeenAll F (n - 1) P gf lb encs X New x0 S w) (hps : ∀ x, (encs x).size = ps.size)
    (I : List α → World → Prop) (M : List α → α → World → Prop) (hI : OwnFrom w.heap.size I) (hM : OwnFrom w.heap.size fun (s : List α × α) W => M s.1 s.2 W) (hX : OwnFrom w.heap.size X)
    (hIB : ∀ pre A B, I pre A → w.heap.size + 2 ≤ A.heap.size → Below A.heap.size A B → I pre B) (hIM : ∀ pre x A B, I pre A → w.heap.size + 2 ≤ A.heap.size → Below A.heap.size A B → New pre x A B → M pre x B)
    (h0 : ∀ A, Below w.heap.size w A → M [] x0 A) (a₁ : α → Act)
    (hassign : ∀ (l : Nat) (x : α) (W : World) (K : Act → World → Prop), K (a₁ x) W →
      assign.wpIn (F.inRound l) (n - 1 - 1) P (Exit.then K (fun _ _ _ => False)) { tmps := (ps.zip (encs x)).foldl (fun t (p, v) => t.setIfInBounds p v) a.tmps, defers := [] } W)
    (hbody : ∀ (l : Nat) (pre : List α) (x : α) (W : World), w.heap.size + 2 ≤ W.heap.size → M pre x W → body.wpIn (F.inRound l) (n - 1 - 1) P (seenPost w.heap.size I X pre x W) (a₁ x) W)
    (hdone : ∀ (D : Nat) (xs : List α) (W : World), w.heap.size ≤ D → S xs → I xs W → W.heap[D]? = some (.deferred (some [])) → Q .normal { a with defers := { target := .collected D, args := #[] } :: a.defers } W) :
    (Code.rangeFunc g ps assign body).wpIn F n P Q a w := by
  refine wpIn_rangeFunc fun fn hfn => ?_
  rw [hro]
  obtain ⟨mk, hmk⟩ : ∃ mk : LoopState → Loop, mk = fun st => { state := st, pending := none, fn, tmps := a.tmps, params := ps, assign, body, defers := w.heap.size } := ⟨_, rfl⟩
  obtain ⟨V, hV⟩ : ∃ V, (w.alloc (.deferred (some []))).alloc (.loop (mk .ready)) = V := ⟨_, rfl⟩
  have hs2 : V.heap.size = w.heap.size + 2 := by rw [← hV]; simp
  have hrec : V.heap[w.heap.size + 1]? = some (.loop (mk .ready)) := by
    rw [← hV]; have := World.alloc_heap_new (w.alloc (.deferred (some []))) (.loop (mk .ready)); rwa [World.size_alloc] at this
  have hdef : V.heap[w.heap.size]? = some (.deferred (some [])) := by
    rw [← hV]; exact (Below.heap_alloc _ _ _ (by simp)).trans (World.alloc_heap_new w _)
  have hwV : Below w.heap.size w V := by rw [← hV]; exact ((Below.refl _ w).alloc (Nat.le_refl _) _).alloc (by simp) _
  have lt : ∀ {A : World} {k : Nat} {o : Obj}, A.heap[k]? = some o → k < A.heap.size := fun h => (Array.getElem?_eq_some_iff.1 h).1
  refine ⟨w.heap.size + 1, [{ target := .collected w.heap.size, args := #[] }], V, { target := .fn (.func gf) lb, args := #[.func (.yield (w.heap.size + 1)) #[] #[]] }, V, gf,
    #[.func (.yield (w.heap.size + 1)) #[] #[]] ++ lb, V, by rw [← hV, hmk]; exact run_enterLoop_outer _ _ _ _ _, by simp only [resolve, hg]; simp [go_sem],
    fun f' hf' => by simp [Target.leads] at hf'; subst hf'; exact hFg, by simp [invoke, go_sem, eg], fun _ => h1, ?_⟩
  have key := hseq (w.heap.size + 1) (fun pre W => I pre W ∧ W.heap[w.heap.size + 1]? = some (.loop (mk .ready)) ∧ W.heap[w.heap.size]? = some (.deferred (some [])))
    (fun pre x W => M pre x W ∧ W.heap[w.heap.size + 1]? = some (.loop (mk .ready)) ∧ W.heap[w.heap.size]? = some (.deferred (some []))) V hwV
    (fun pre A B h hb => ⟨hIB pre A B h.1 (by have := lt h.2.1; omega) hb, (hb.block _ (lt h.2.1)).trans h.2.1, (hb.block _ (lt h.2.2)).trans h.2.2⟩)
    (fun pre x A B h hb hn => ⟨hIM pre x A B h.1 (by have := lt h.2.1; omega) hb hn, (hb.block _ (lt h.2.1)).trans h.2.1, (hb.block _ (lt h.2.2)).trans h.2.2⟩)
    (fun pre x W h => ?_) (fun A hb => ⟨h0 A (hwV.trans (hb.mono (by omega))), (hb.block _ (by omega)).trans hrec, (hb.block _ (by omega)).trans hdef⟩)
  · refine key.mono ?_
    rintro e W2 ⟨⟨v, rfl⟩, xs, hS, hi, hl, hk⟩
    exact ⟨none, _, by have := run_endLoop (P := P) hl (by rw [hmk]; simp); rw [hmk] at this; exact this, hdone _ xs _ (Nat.le_refl _) hS (hI.putObj _ hi (by omega) hl rfl) ((World.putObj_heap_other (by omega)).trans hk)⟩
  · obtain ⟨hm, hl, hk⟩ := h
    have hlt := lt hl
    have hy := run_yield (P := P) (args := encs x) hl (by rw [hmk]; exact hps x)
    rw [hmk] at hy
    refine ⟨fn, _, assign, body, hy, roundIn_of_wpIn hfn (hassign _ x W _ ⟨_, run_beginRound hl (by rw [hmk]), ?_⟩)⟩
    have hl2 : (W.putObj (w.heap.size + 1) (.loop { mk .ready with state := .busy })).heap[w.heap.size + 1]? = some (.loop { mk .ready with state := .busy }) := World.putObj_heap_same hlt
    have hk2 : (W.putObj (w.heap.size + 1) (.loop { mk .ready with state := .busy })).heap[w.heap.size]? = some (.deferred (some [])) := (World.putObj_heap_other (by omega)).trans hk
    refine wpIn_mono (hbody _ pre x _ (by simp; omega) (hM.putObj (s := (pre, x)) _ hm (by omega) hl rfl)) ?_
    rintro e a3 W3 hp
    cases e with
    | normal =>
      obtain ⟨hk3, hi3, hx3⟩ := hp
      have hl3 := hk3.same _ _ (by omega) hl2 rfl
      have hd3 := hk3.same _ _ (Nat.le_refl _) hk2 rfl
      have hr := run_endRound (P := P) none hl3
      have hlt3 := lt hl3
      refine ⟨_, _, hr, rfl, ⟨hI.putObj _ hi3 (by omega) hl3 rfl, ?_, (World.putObj_heap_other (by omega)).trans hd3⟩, hX.putObj _ hx3 (by omega) hl3 rfl⟩
      rw [World.putObj_heap_same hlt3, hmk]
      rfl
    | ret => exact hp.elim
    | exit id => exact hp.elim
    | goto t => exact hp.elim
    | panic ch => exact hp.elim
    | outgrown => exact hp.elim
end Ks
/- A range over a function whose walk rests on what the caller keeps; the body may leave early. Plain. No program is in sight. -/
namespace Ks
open Go Go.RowKit
set_option linter.unusedVariables false

/-- what an iterator does, whatever the caller keeps at the state s (J, which tells I); Gives: it may hand on x at s; Next: behind that round; Skip: it goes on by itself; End: it ends -/
def IterAll {σ α : Type} (F : Fence) (n : Nat) (P : Program) (g : Nat) (lb : Array Value) (encs : α → Array Value) (I : σ → World → Prop) (Gives : σ → α → Prop) (Next : σ → α → σ → Prop) (Skip : σ → σ → Prop) (s0 : σ) (End : σ → Prop) (w : World) : Prop :=
  ∀ (l : Nat) (J : σ → World → Prop) (Jx : World → Prop) (W : World), Below w.heap.size w W →
    (∀ s A, J s A → I s A) → (∀ s A B, J s A → Below A.heap.size A B → J s B) →
    (∀ s x A, J s A → Gives s x → YieldAt F (n - 1) P l (encs x) A fun e W' => (e = .returned (.bool true) ∧ ∃ s', Next s x s' ∧ J s' W') ∨ (e = .returned (.bool false) ∧ Jx W')) →
    (∀ s s' A, J s A → Skip s s' → J s' A) → J s0 W →
    CallsIn F n P g (#[.func (.yield l) #[] #[]] ++ lb) W fun e W' => (∃ v, e = .returned v) ∧ ((∃ s, End s ∧ J s W') ∨ Jx W')

def genPost {σ : Type} (B : Nat) (I : σ → World → Prop) (Ix : Code → World → Prop) (N : σ → Prop) (W : World) : Exit → Act → World → Prop
  | .normal, _, W' => KeepsFrom B W W' ∧ ∃ s', N s' ∧ I s' W'
  | .ret, _, W' => KeepsFrom B W W' ∧ Ix .ret W'
  | .exit id, _, W' => KeepsFrom B W W' ∧ Ix (.exit id) W'
  | .goto t, _, W' => KeepsFrom B W W' ∧ Ix (.goto t) W'
  | .panic _, _, _ => False
  | .outgrown, _, _ => False

theorem wpIn_range_gen {F : Fence} {n : Nat} {P : Program} {σ α : Type} {g : Operand} {ps : Array Tmp} {assign body : Code} {Q : Exit → Act → World → Prop} {a : Act} {w : World}
    (hro : F.round = none) (h1 : 1 ≤ n) {gf : Nat} {lb : Array Value} (hg : a.eval g = .func (.func gf) #[] lb) (hFg : F.fn gf) (eg : ∀ args w, (callFunc gf args).run P w = .ok (.enter gf args) w)
    {encs : α → Array Value} (I : σ → World → Prop) (Ix : Code → World → Prop) {Gives : σ → α → Prop} {Next : σ → α → σ → Prop} {Skip : σ → σ → Prop} {s0 : σ} {End : σ → Prop}
    (hseq : IterAll F (n - 1) P gf lb encs I Gives Next Skip s0 End w) (hps : ∀ x, (encs x).size = ps.size)
    (hI : OwnFrom w.heap.size I) (hIx : OwnFrom w.heap.size Ix)
    (hIB : ∀ s A B, I s A → w.heap.size + 2 ≤ A.heap.size → Below A.heap.size A B → I s B) (hIS : ∀ s s' A, I s A → Skip s s' → I s' A)
    (h0 : I s0 w) (a₁ : α → Nat → Act) (asg : α → World → World) (Nw : α × Nat → World → Prop) (hNw : OwnFrom w.heap.size Nw) (hasg : ∀ x W, Below W.heap.size W (asg x W) ∧ Nw (x, W.heap.size) (asg x W))
    (hassign : ∀ (l : Nat) (x : α) (W : World) (K : Act → World → Prop), K (a₁ x W.heap.size) (asg x W) →
      assign.wpIn (F.inRound l) (n - 1 - 1) P (Exit.then K (fun _ _ _ => False)) { tmps := (ps.zip (encs x)).foldl (fun t (p, v) => t.setIfInBounds p v) a.tmps, defers := [] } W)
    (hbody : ∀ (l : Nat) (s : σ) (x : α) (b : Nat) (W : World), w.heap.size + 2 ≤ b → b ≤ W.heap.size → I s W → Gives s x → Nw (x, b) W → body.wpIn (F.inRound l) (n - 1 - 1) P (genPost w.heap.size I Ix (Next s x) W) (a₁ x b) W)
    (hdone : ∀ (D : Nat) (s : σ) (W : World), w.heap.size ≤ D → End s → I s W → W.heap[D]? = some (.deferred (some [])) → Q .normal { a with defers := { target := .collected D, args := #[] } :: a.defers } W)
    (hstop : ∀ (D : Nat) (c : Code) (W : World), w.heap.size ≤ D → Ix c W → W.heap[D]? = some (.deferred (some [])) → c.wpIn F n P Q { a with defers := { target := .collected D, args := #[] } :: a.defers } W) :
    (Code.rangeFunc g ps assign body).wpIn F n P Q a w := by
  refine wpIn_rangeFunc fun fn hfn => ?_
  rw [hro]
  obtain ⟨mk, hmk⟩ : ∃ mk : LoopState → Option Code → Loop, mk = fun st pe => { state := st, pending := pe, fn, tmps := a.tmps, params := ps, assign, body, defers := w.heap.size } := ⟨_, rfl⟩
  obtain ⟨V, hV⟩ : ∃ V, (w.alloc (.deferred (some []))).alloc (.loop (mk .ready none)) = V := ⟨_, rfl⟩
  have hs2 : V.heap.size = w.heap.size + 2 := by rw [← hV]; simp
  have hrec : V.heap[w.heap.size + 1]? = some (.loop (mk .ready none)) := by
    rw [← hV]; have := World.alloc_heap_new (w.alloc (.deferred (some []))) (.loop (mk .ready none)); rwa [World.size_alloc] at this
  have hdef : V.heap[w.heap.size]? = some (.deferred (some [])) := by
    rw [← hV]; exact (Below.heap_alloc _ _ _ (by simp)).trans (World.alloc_heap_new w _)
  have hwV : Below w.heap.size w V := by rw [← hV]; exact ((Below.refl _ w).alloc (Nat.le_refl _) _).alloc (by simp) _
  have hIV : I s0 V := by rw [← hV]; exact hI.alloc _ (hI.alloc _ h0)
  have lt : ∀ {A : World} {k : Nat} {o : Obj}, A.heap[k]? = some o → k < A.heap.size := fun h => (Array.getElem?_eq_some_iff.1 h).1
  refine ⟨w.heap.size + 1, [{ target := .collected w.heap.size, args := #[] }], V, { target := .fn (.func gf) lb, args := #[.func (.yield (w.heap.size + 1)) #[] #[]] }, V, gf,
    #[.func (.yield (w.heap.size + 1)) #[] #[]] ++ lb, V, by rw [← hV, hmk]; exact run_enterLoop_outer _ _ _ _ _, by simp only [resolve, hg]; simp [go_sem],
    fun f' hf' => by simp [Target.leads] at hf'; subst hf'; exact hFg, by simp [invoke, go_sem, eg], fun _ => h1, ?_⟩
  have key := hseq (w.heap.size + 1) (fun s W => I s W ∧ W.heap[w.heap.size + 1]? = some (.loop (mk .ready none)) ∧ W.heap[w.heap.size]? = some (.deferred (some [])))
    (fun W => ∃ c, Ix c W ∧ W.heap[w.heap.size + 1]? = some (.loop (mk .done (some c))) ∧ W.heap[w.heap.size]? = some (.deferred (some []))) V hwV
    (fun s A h => h.1)
    (fun s A B h hb => ⟨hIB s A B h.1 (by have := lt h.2.1; omega) hb, (hb.block _ (lt h.2.1)).trans h.2.1, (hb.block _ (lt h.2.2)).trans h.2.2⟩)
    (fun s x W h hx => ?_) (fun s s' A h hk => ⟨hIS s s' A h.1 hk, h.2⟩) ⟨hIV, hrec, hdef⟩
  · refine key.mono ?_
    rintro e W2 ⟨⟨v, rfl⟩, ⟨s, hE, hi, hl, hk⟩ | ⟨c, hi, hl, hk⟩⟩
    · exact ⟨none, _, by have := run_endLoop (P := P) hl (by rw [hmk]; simp); rw [hmk] at this; exact this, hdone _ s _ (Nat.le_refl _) hE (hI.putObj _ hi (by omega) hl rfl) ((World.putObj_heap_other (by omega)).trans hk)⟩
    · exact ⟨some c, _, by have := run_endLoop (P := P) hl (by rw [hmk]; simp); rw [hmk] at this; exact this, hstop _ c _ (Nat.le_refl _) (hIx.putObj _ hi (by omega) hl rfl) ((World.putObj_heap_other (by omega)).trans hk)⟩
  · obtain ⟨hm, hl, hk⟩ := h
    have hlt0 := lt hl
    have hy := run_yield (P := P) (args := encs x) hl (by rw [hmk]; exact hps x)
    rw [hmk] at hy
    have hWs : w.heap.size + 2 ≤ W.heap.size := by omega
    obtain ⟨hA, hN⟩ := hasg x W
    refine ⟨fn, _, assign, body, hy, roundIn_of_wpIn hfn (hassign _ x W _ ?_)⟩
    obtain ⟨b, hbq⟩ : ∃ b, W.heap.size = b := ⟨_, rfl⟩
    obtain ⟨W9, hW9⟩ : ∃ W9, asg x W = W9 := ⟨_, rfl⟩
    rw [hW9] at hA hN ⊢
    rw [hbq] at hN
    replace hm := hIB s _ _ hm hWs hA
    replace hl := (hA.block _ (lt hl)).trans hl
    replace hk := (hA.block _ (lt hk)).trans hk
    have hb9 : b ≤ W9.heap.size := by rw [← hbq]; exact hA.size
    rw [hbq] at hWs ⊢
    clear hA hy hlt0 hbq hW9 W
    obtain ⟨W, rfl⟩ : ∃ W, W = W9 := ⟨_, rfl⟩
    have hlt := lt hl
    refine ⟨_, run_beginRound hl (by rw [hmk]), ?_⟩
    have hl2 : (W.putObj (w.heap.size + 1) (.loop { mk .ready none with state := .busy })).heap[w.heap.size + 1]? = some (.loop { mk .ready none with state := .busy }) := World.putObj_heap_same hlt
    have hk2 : (W.putObj (w.heap.size + 1) (.loop { mk .ready none with state := .busy })).heap[w.heap.size]? = some (.deferred (some [])) := (World.putObj_heap_other (by omega)).trans hk
    have fin : ∀ (jump : Option Code) (W3 : World), KeepsFrom w.heap.size (W.putObj (w.heap.size + 1) (.loop { mk .ready none with state := .busy })) W3 →
        (Instr.endRound (w.heap.size + 1) jump).run P W3 = .ok (.bool jump.isNone) (W3.putObj (w.heap.size + 1) (.loop (mk (if jump.isNone then .ready else .done) jump))) ∧
        W3.heap[w.heap.size + 1]? = some (.loop { mk .ready none with state := .busy }) ∧
        (W3.putObj (w.heap.size + 1) (.loop (mk (if jump.isNone then .ready else .done) jump))).heap[w.heap.size + 1]? = some (.loop (mk (if jump.isNone then .ready else .done) jump)) ∧
        (W3.putObj (w.heap.size + 1) (.loop (mk (if jump.isNone then .ready else .done) jump))).heap[w.heap.size]? = some (.deferred (some [])) := fun jump W3 hk3 => by
      have hl3 := hk3.same _ _ (by omega) hl2 rfl
      have := run_endRound (P := P) jump hl3
      rw [hmk] at this ⊢
      exact ⟨this, by rw [hmk] at hl3; exact hl3, World.putObj_heap_same (lt hl3), (World.putObj_heap_other (by omega)).trans (hk3.same _ _ (Nat.le_refl _) hk2 rfl)⟩
    refine wpIn_mono (hbody _ s x b _ hWs (by simpa using hb9) (hI.putObj _ hm (by omega) hl rfl) hx (hNw.putObj (s := (x, b)) _ hN (by omega) hl rfl)) ?_
    rintro e a3 W3 hp
    cases e with
    | normal =>
      obtain ⟨hk3, s', hn, hi3⟩ := hp
      obtain ⟨hr, hl3, hl4, hk4⟩ := fin none W3 hk3
      exact ⟨_, _, hr, .inl ⟨rfl, s', hn, hI.putObj _ hi3 (by omega) hl3 rfl, hl4, hk4⟩⟩
    | ret =>
      obtain ⟨hk3, hi3⟩ := hp
      obtain ⟨hr, hl3, hl4, hk4⟩ := fin (some .ret) W3 hk3
      exact ⟨_, _, hr, .inr ⟨rfl, .ret, hIx.putObj _ hi3 (by omega) hl3 rfl, hl4, hk4⟩⟩
    | exit id =>
      obtain ⟨hk3, hi3⟩ := hp
      obtain ⟨hr, hl3, hl4, hk4⟩ := fin (some (.exit id)) W3 hk3
      exact ⟨_, _, hr, .inr ⟨rfl, .exit id, hIx.putObj _ hi3 (by omega) hl3 rfl, hl4, hk4⟩⟩
    | goto t =>
      obtain ⟨hk3, hi3⟩ := hp
      obtain ⟨hr, hl3, hl4, hk4⟩ := fin (some (.goto t)) W3 hk3
      exact ⟨_, _, hr, .inr ⟨rfl, .goto t, hIx.putObj _ hi3 (by omega) hl3 rfl, hl4, hk4⟩⟩
    | panic ch => exact hp.elim
    | outgrown => exact hp.elim
theorem wpIn_scope_wd {P : Program} {n : Nat} {c : Code} {Q : Exit → Act → World → Prop} {a : Act} {w : World} (h : c.wpIn Fence.wide n P (Exit.noGoto Q) a w) : (Code.scope c).wpIn Fence.wide n P Q a w := wpIn_wide.2 (wp_scope_straight (wpIn_wide.1 h))
theorem wpIn_label_wd {P : Program} {n l : Nat} {Q : Exit → Act → World → Prop} {a : Act} {w : World} (h : Q .normal a w) : (Code.label l).wpIn Fence.wide n P Q a w := wpIn_wide.2 (wp_label h)
/-- a block of cells is the caller's own -/
theorem ownFrom_blk {β : Type} {B b : Nat} (f : β → Array Value) (T : TypeId) (fr : Nat × Nat) : OwnFrom B (fun s W => W.heap[b]? = some (.cells (f s) T fr)) :=
  fun s W W' row hs hg hr => (grownBy_keeps_cells hg (fun r e => (hr r e).2) hs rfl).trans hs
theorem ownFrom_blk0 {β : Type} {B b : Nat} (o : Obj) (ho : o.isCells = true) : OwnFrom B (fun (_ : β) W => W.heap[b]? = some o) :=
  fun s W W' row hs hg hr => (grownBy_keeps_cells hg (fun r e => (hr r e).2) hs ho).trans hs
end Ks
