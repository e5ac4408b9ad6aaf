/- The program's model and the document's, both of one plain model, are found the same. -/
import Derived.Test.YtnkiokaeooopgaaGreatM9
import Derived.Test.YtnkiokaeooopgaaGreatM15
set_option maxRecDepth 100000
namespace Go.Proofs.YtnkiokaeooopgaaGreat
open Go.RowKit Ks
set_option linter.unusedVariables false
set_option linter.unusedSimpArgs false
set_option maxRecDepth 100000 in
set_option maxHeartbeats 4000000 in
theorem mgone_at {n cc bn c mu mh mg : Nat} {rv vv : Value} {m : ModT} (t : Int) (w : World) (h : ModAt w n cc bn c mu mh mg rv vv m) (ht : -9223372036854775808 ≤ t ∧ t ≤ 9223372036854775807) : Calls Tryz.prog 35 #[.pointer (some ⟨n, 0, none⟩), .int .i64 t] w fun e w' => e = .returned (.bool (goneB m.book t)) ∧ Below w.heap.size w w' := by
  refine calls_by fun R HR => ?_
  have HT := Lib.hid (mthere_yes w h)
  have HE := Lib.hid (bgone_any t w h.book ht)
  obtain ⟨⟨z0, z1, z2, z3, z4, z5, z6, z7⟩, -⟩ := blkR h.blk
  clear h
  go_enter Tryz.func35, Tryz.ntmps35
  go_wp2_with fail
  refine HT.out.mono ?_
  rintro en y9 ⟨rfl, hw⟩
  rw [hw]
  clear hw y9
  go_wp2_with fail
  refine HE.out.mono ?_
  rintro en y9 ⟨rfl, hw⟩
  rw [hw]
  clear hw y9
  go_wp2
  exact HR.out _ _ ⟨rfl, Below.refl _ _⟩
set_option maxRecDepth 100000 in
set_option maxHeartbeats 4000000 in
theorem mepoch_at {n cc bn c mu mh mg : Nat} {rv vv : Value} {m : ModT} (w : World) (h : ModAt w n cc bn c mu mh mg rv vv m) : Calls Tryz.prog 37 #[.pointer (some ⟨n, 0, none⟩)] w fun e w' => e = .returned (.int .i64 m.book.epoch) ∧ Below w.heap.size w w' := by
  refine calls_by fun R HR => ?_
  have HT := Lib.hid (mthere_yes w h)
  have HE := Lib.hid (bepoch_any w h.book)
  obtain ⟨⟨z0, z1, z2, z3, z4, z5, z6, z7⟩, -⟩ := blkR h.blk
  clear h
  go_enter Tryz.func37, Tryz.ntmps37
  go_wp2_with fail
  refine HT.out.mono ?_
  rintro en y9 ⟨rfl, hw⟩
  rw [hw]
  clear hw y9
  go_wp2_with fail
  refine HE.out.mono ?_
  rintro en y9 ⟨rfl, hw⟩
  rw [hw]
  clear hw y9
  go_wp2
  exact HR.out _ _ ⟨rfl, Below.refl _ _⟩
set_option maxRecDepth 100000 in
set_option maxHeartbeats 4000000 in
theorem mblock_at {n cc bn c mu mh mg : Nat} {rv vv : Value} {m : ModT} (ep lb : Int) (w : World) (h : ModAt w n cc bn c mu mh mg rv vv m) (hl : m.vers.length ≤ 1000000) : Calls Tryz.prog 33 #[.pointer (some ⟨n, 0, none⟩), .int .i64 ep, .int .i64 lb] w fun e w' => e = .returned (.tuple #[.string ((newestN m.vers lb ep ep).getD zeroVer).2.2, .bool (newestN m.vers lb ep ep).isSome]) ∧ Below w.heap.size w w' := by
  refine calls_by fun R HR => ?_
  have HT := Lib.hid (mthere_yes w h)
  have HN := Lib.hid (mnewest_any lb ep ep w h hl)
  generalize (newestN m.vers lb ep ep).isSome = S0 at *
  obtain ⟨v0, hv0⟩ : ∃ v, (newestN m.vers lb ep ep).getD zeroVer = v := ⟨_, rfl⟩
  rw [hv0] at HN HR
  clear h hl hv0
  obtain ⟨vl, ve, vd⟩ := v0
  simp only at HN HR
  have H1 := Lib.hid (Below.refl w.heap.size w)
  go_enter Tryz.func33, Tryz.ntmps33
  go_wp2_with fail
  refine HT.out.mono ?_
  rintro en y9 ⟨rfl, hw⟩
  rw [hw]
  clear hw y9
  go_wp2_with fail
  refine (HN.out).mono ?_
  rintro en u1 ⟨rfl, hb⟩
  have H2 := Lib.hid (H1.out.trans (hb.mono H1.out.size))
  clear hb
  obtain ⟨W1, hW1⟩ : ∃ W1, u1.alloc (.cells #[.int .i64 vl, .int .i64 ve, .string vd] 89) = W1 := ⟨_, rfl⟩
  have hbW1 : Below u1.heap.size u1 W1 := by rw [← hW1]; exact alloc_below u1 _
  have kW1 : W1.heap[u1.heap.size]? = some (.cells #[.int .i64 vl, .int .i64 ve, .string vd] 89 (0, 0)) := by rw [← hW1]; exact alloc_new u1 _
  have EW1 := Lib.hid hW1
  have H3 := Lib.hid (And.intro (H2.out.trans (hbW1.mono H2.out.size)) (kW1))
  clear hbW1 kW1 hW1
  try rw [EW1.out]
  obtain ⟨v0, v1, v2, -, -, -⟩ := blk3 H3.out.2
  have H99 := Lib.hid H3.out.1
  go_upto_region 4 with fail
  try rw [EW1.out]
  go_wp2
  exact HR.out _ _ ⟨rfl, H99.out⟩
set_option maxRecDepth 100000 in
set_option maxHeartbeats 16000000 in
theorem same_any {n cc bn c mu mh mg n2 : Nat} {rv vv rv2 vv2 : Value} {m : ModT} (ep lb : Int) (w : World) (h : ModAt w n cc bn c mu mh mg rv vv m) (h2 : RMd w n2 rv2 vv2 m) (hi : ModI m) (ht : Ks.Twin m) (hep : -9223372036854775808 ≤ ep ∧ ep ≤ 9223372036854775807) :
    Calls Tryz.prog 10 #[.pointer (some ⟨n, 0, none⟩), .pointer (some ⟨n2, 0, none⟩), .int .i64 ep, .int .i64 lb] w fun e w' => e = .returned (.bool true) ∧ Below w.heap.size w w' := by
  refine calls_by fun R HR => ?_
  have HD := Lib.hid h
  have HD2 := Lib.hid h2
  have hl := mi_len hi
  have HL := Lib.hid hl
  have HBl := Lib.hid (mblock_at ep lb w h (by omega))
  have HNw := Lib.hid (fun A (q : RMd A n2 rv2 vv2 m) => rnewest_any lb ep ep A q (by omega))
  have HG := Lib.hid (fun A (q : ModAt A n cc bn c mu mh mg rv vv m) => mgone_at ep A q hep)
  have HG2 := Lib.hid (fun A (q : RMd A n2 rv2 vv2 m) => rgone_any ep A q hi ht)
  have HE := Lib.hid (fun A (q : ModAt A n cc bn c mu mh mg rv vv m) => mepoch_at A q)
  have HE2 := Lib.hid (fun A (q : RMd A n2 rv2 vv2 m) => repoch_any A q hi ht)
  have HRs := Lib.hid (fun A (q : ModAt A n cc bn c mu mh mg rv vv m) => mrecords_any A q (by omega))
  simp only [newest_eq] at HNw
  generalize (newestN m.vers lb ep ep).isSome = S0 at *
  obtain ⟨v0, hv0⟩ : ∃ v, (newestN m.vers lb ep ep).getD zeroVer = v := ⟨_, rfl⟩
  have hv1 : (newestN m.vers lb ep ep).getD verZ = v0 := hv0
  rw [hv0] at HBl
  simp only [hv1] at HNw
  obtain ⟨vl, ve, vd⟩ := v0
  generalize goneB m.book ep = G0 at *
  generalize m.book.epoch = E0 at *
  clear h h2 hi ht hep hl hv0 hv1
  have H1 := Lib.hid (And.intro (Below.refl w.heap.size w) (And.intro (HD.out) (HD2.out)))
  go_enter Tryz.func10, Tryz.ntmps10
  go_wp2_with fail
  refine (HBl.out).mono ?_
  rintro en u1 ⟨rfl, hb⟩
  have H2 := Lib.hid (And.intro (H1.out.1.trans (hb.mono H1.out.1.size)) (And.intro (H1.out.2.1.below hb) (H1.out.2.2.below hb)))
  clear hb
  go_wp2_with fail
  refine (HNw.out _ H2.out.2.2).mono ?_
  rintro en u2 ⟨rfl, hb⟩
  have H3 := Lib.hid (And.intro (H2.out.1.trans (hb.mono H2.out.1.size)) (And.intro (H2.out.2.1.below hb) (H2.out.2.2.below hb)))
  clear hb
  obtain ⟨W1, hW1⟩ : ∃ W1, u2.alloc (.cells #[.int .i64 vl, .int .i64 ve, .string vd] 76) = W1 := ⟨_, rfl⟩
  have hbW1 : Below u2.heap.size u2 W1 := by rw [← hW1]; exact alloc_below u2 _
  have kW1 : W1.heap[u2.heap.size]? = some (.cells #[.int .i64 vl, .int .i64 ve, .string vd] 76 (0, 0)) := by rw [← hW1]; exact alloc_new u2 _
  have EW1 := Lib.hid hW1
  have H4 := Lib.hid (And.intro (H3.out.1.trans (hbW1.mono H3.out.1.size)) (And.intro (H3.out.2.1.below hbW1) (And.intro (H3.out.2.2.below hbW1) (kW1))))
  clear hbW1 kW1 hW1
  go_upto_region 3 with fail
  try rw [EW1.out]
  obtain ⟨v0, v1, v2, -, -, -⟩ := blk3 H4.out.2.2.2
  have gv2 := fun p => after_cell v2 p
  have cG := Lib.hid (fun p => calls_after (p := p) (HG.out (After W1 p) (H4.out.2.1.below (after_below W1 p))))
  have cG2 := Lib.hid (fun p => calls_after (p := p) (HG2.out (After W1 p) (H4.out.2.2.1.below (after_below W1 p))))
  have cE := Lib.hid (fun p => calls_after (p := p) (HE.out (After W1 p) (H4.out.2.1.below (after_below W1 p))))
  have cE2 := Lib.hid (fun p => calls_after (p := p) (HE2.out (After W1 p) (H4.out.2.2.1.below (after_below W1 p))))
  refine wp_region_after (by kernel_rfl) (by kernel_rfl) ?_
  repeat (go_big_quiet_step (fail))
  go_big_quiet_step (exact cG.out _)
  repeat (go_big_quiet_step (fail))
  go_big_quiet_step (exact cG2.out _)
  repeat (go_big_quiet_step (fail))
  go_big_quiet_step (exact cE.out _)
  repeat (go_big_quiet_step (fail))
  go_big_quiet_step (exact cE2.out _)
  repeat (go_big_quiet_step (fail))
  refine wpQuiet_nil ?_
  rintro q1 ⟨p9, rfl⟩
  have hb := after_below W1 p9
  have H5 := Lib.hid (And.intro (H4.out.1.trans (hb.mono H4.out.1.size)) (And.intro (H4.out.2.1.below hb) (H4.out.2.2.1.below hb)))
  generalize After W1 p9 = q1 at *
  clear hb cG cG2 cE cE2 gv2 v0 v1 v2
  go_wp2_with fail
  refine (HRs.out _ H5.out.2.1).mono ?_
  rintro en u3 ⟨lr, rfl, hr, hb⟩
  have H6 := Lib.hid (And.intro (H5.out.1.trans (hb.mono H5.out.1.size)) (And.intro (H5.out.2.1.below hb) (And.intro (H5.out.2.2.below hb) (hr))))
  clear hb
  clear hr
  obtain ⟨la, lc, hls, -⟩ := H6.out.2.2.2.rd.shape
  subst hls
  obtain ⟨⟨z0, z1, z2, z3, z4, z5, z6, z7⟩, -⟩ := blkR H6.out.2.2.1.blk
  obtain ⟨ra, rc, hrs, -⟩ := H6.out.2.2.1.recs.rd.shape
  subst hrs
  have KB := Lib.hid H6.out.1
  have KL := Lib.hid H6.out.2.2.2.rd
  have KR := Lib.hid H6.out.2.2.1.recs.rd
  have KZ := Lib.hid H6.out.2.2.1
  have hni : (m.recs.length : Int) ≤ 2000 := by have := HL.out; omega
  have hnn : ((m.recs.length : Int) != (m.recs.length : Int)) = false := by simp
  go_wp2_with fail
  clear z0 z1 z2 z3 z4 z5 z6 z7
  go_loopw [72] (fun i wx => ∃ (k : Nat), k ≤ m.recs.length ∧ i = .int .i64 k ∧ Hid (Below u3.heap.size u3 wx)) (fun i _ => m.recs.length - (intOf i).toNat)
  case atStart => exact ⟨0, Nat.zero_le _, rfl, Lib.hid (Below.refl _ _)⟩
  case round =>
    obtain ⟨k, hk, rfl, hN⟩ := hrel
    by_cases hlt : k < m.recs.length
    · have hki : (k : Int) < (m.recs.length : Int) := by omega
      obtain ⟨x, hx⟩ : ∃ x, m.recs[k]? = some x := ⟨_, List.getElem?_eq_getElem hlt⟩
      obtain ⟨b1, o1, ha1, hb1, dd1⟩ := (KL.out.below hN.out).at k x hx
      obtain ⟨b2, o2, ha2, hb2, dd2⟩ := (KR.out.below hN.out).at k x hx
      cases ha1
      cases ha2
      obtain ⟨⟨z0, z1, z2, z3, z4, z5, z6, z7⟩, -⟩ := blkR (KZ.out.below hN.out).blk
      obtain ⟨kd, ep', tm, ct, tg, un, rt, nm⟩ := x
      have gz6 := fun p => after_cell z6 p
      have d10 : wr.cell? ⟨b1, o1 + k * 8, none⟩ = some (.int .i64 kd) := dd1 0 _ rfl
      have gd10 := fun p => after_cell d10 p
      have d20 : wr.cell? ⟨b2, o2 + k * 8, none⟩ = some (.int .i64 kd) := dd2 0 _ rfl
      have gd20 := fun p => after_cell d20 p
      have d11 : wr.cell? ⟨b1, o1 + k * 8 + 1, none⟩ = some (.int .i64 ep') := dd1 1 _ rfl
      have gd11 := fun p => after_cell d11 p
      have d21 : wr.cell? ⟨b2, o2 + k * 8 + 1, none⟩ = some (.int .i64 ep') := dd2 1 _ rfl
      have gd21 := fun p => after_cell d21 p
      have d12 : wr.cell? ⟨b1, o1 + k * 8 + 2, none⟩ = some (.int .i64 tm) := dd1 2 _ rfl
      have gd12 := fun p => after_cell d12 p
      have d22 : wr.cell? ⟨b2, o2 + k * 8 + 2, none⟩ = some (.int .i64 tm) := dd2 2 _ rfl
      have gd22 := fun p => after_cell d22 p
      have d13 : wr.cell? ⟨b1, o1 + k * 8 + 3, none⟩ = some (.int .i64 ct) := dd1 3 _ rfl
      have gd13 := fun p => after_cell d13 p
      have d23 : wr.cell? ⟨b2, o2 + k * 8 + 3, none⟩ = some (.int .i64 ct) := dd2 3 _ rfl
      have gd23 := fun p => after_cell d23 p
      have d14 : wr.cell? ⟨b1, o1 + k * 8 + 4, none⟩ = some (.int .i64 tg) := dd1 4 _ rfl
      have gd14 := fun p => after_cell d14 p
      have d24 : wr.cell? ⟨b2, o2 + k * 8 + 4, none⟩ = some (.int .i64 tg) := dd2 4 _ rfl
      have gd24 := fun p => after_cell d24 p
      have d15 : wr.cell? ⟨b1, o1 + k * 8 + 5, none⟩ = some (.int .i64 un) := dd1 5 _ rfl
      have gd15 := fun p => after_cell d15 p
      have d25 : wr.cell? ⟨b2, o2 + k * 8 + 5, none⟩ = some (.int .i64 un) := dd2 5 _ rfl
      have gd25 := fun p => after_cell d25 p
      have d16 : wr.cell? ⟨b1, o1 + k * 8 + 6, none⟩ = some (.string rt) := dd1 6 _ rfl
      have gd16 := fun p => after_cell d16 p
      have d26 : wr.cell? ⟨b2, o2 + k * 8 + 6, none⟩ = some (.string rt) := dd2 6 _ rfl
      have gd26 := fun p => after_cell d26 p
      have d17 : wr.cell? ⟨b1, o1 + k * 8 + 7, none⟩ = some (.string nm) := dd1 7 _ rfl
      have gd17 := fun p => after_cell d17 p
      have d27 : wr.cell? ⟨b2, o2 + k * 8 + 7, none⟩ = some (.string nm) := dd2 7 _ rfl
      have gd27 := fun p => after_cell d27 p
      clear dd1 dd2 hb1 hb2 hx z0 z1 z2 z3 z4 z5 z7
      go_upto_region 11 with fail
      refine wp_region_after (by kernel_rfl) (by kernel_rfl) ?_
      repeat (go_big_quiet_step (fail))
      refine wpQuiet_nil ?_
      rintro w5 ⟨q, rfl⟩
      have hb5 := after_below wr q
      have H5 := Lib.hid (hN.out.trans (hb5.mono hN.out.size))
      generalize After wr q = w5 at *
      clear hb5 gz6 z6 gd10 d10 gd20 d20 gd11 d11 gd21 d21 gd12 d12 gd22 d22 gd13 d13 gd23 d23 gd14 d14 gd24 d24 gd15 d15 gd25 d25 gd16 d16 gd26 d26 gd17 d17 gd27 d27
      go_wp2_with fail
      go_roundw
      case rel => exact ⟨k + 1, by omega, by go_num, H5⟩
      case measure => first | (simp [intOf]; done) | (simp [intOf]; omega)
    · obtain rfl : k = m.recs.length := by omega
      have hki : ¬ (m.recs.length : Int) < (m.recs.length : Int) := by omega
      have HF := Lib.hid (KB.out.trans (hN.out.mono KB.out.size))
      go_wp2
      exact HR.out _ _ ⟨rfl, HF.out⟩
end Go.Proofs.YtnkiokaeooopgaaGreat
