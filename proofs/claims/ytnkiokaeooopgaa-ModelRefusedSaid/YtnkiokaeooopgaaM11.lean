/- Texts that the claim rests on, part 11: ModSame. -/
import Derived.Test.YtnkiokaeooopgaaM10
/- Equal rows; two models that have the same are the same: of the program. -/
set_option maxRecDepth 100000
namespace Go.Proofs.Ytnkiokaeooopgaa
open Go.RowKit Ks Go.Maps
set_option linter.unusedVariables false
set_option linter.unusedSimpArgs false
set_option maxRecDepth 100000 in
set_option maxHeartbeats 4000000 in
theorem requal_any (v1 v2 : Value) (l : List RecT) (w : World) (h1 : Rd recE w v1 l) (h2 : Rd recE w v2 l) (hn : l.length ≤ 1000000) :
    Calls Try.prog 30 #[v1, v2] w fun e w' => e = .returned (.bool true) ∧ Below w.heap.size w w' := by
  refine calls_by fun R HR => ?_
  have HL1 := Lib.hid h1
  have HL2 := Lib.hid h2
  have hni : (l.length : Int) ≤ 1000000 := by omega
  obtain ⟨a1, c1, hs1, -⟩ := h1.shape
  obtain ⟨a2, c2, hs2, -⟩ := h2.shape
  subst hs1 hs2
  clear h1 h2 hn
  go_enter Try.func30, Try.ntmps30
  go_wp2_with fail
  go_loopw [13] (fun i wx => ∃ (k : Nat), k ≤ l.length ∧ i = .int .i64 k ∧ Hid (Below w.heap.size w wx)) (fun i _ => l.length - (intOf i).toNat)
  case atStart => exact ⟨0, Nat.zero_le _, rfl, Lib.hid (Below.refl _ _)⟩
  case round =>
    obtain ⟨k, hk, rfl, hN⟩ := hrel
    by_cases hlt : k < l.length
    · have hki : (k : Int) < (l.length : Int) := by omega
      obtain ⟨x, hx⟩ : ∃ x, l[k]? = some x := ⟨_, List.getElem?_eq_getElem hlt⟩
      obtain ⟨b1, o1, ha1, hb1, dd1⟩ := (HL1.out.below hN.out).at k x hx
      obtain ⟨b2, o2, ha2, hb2, dd2⟩ := (HL2.out.below hN.out).at k x hx
      cases ha1
      cases ha2
      obtain ⟨kd, ep, tm, ct, tg, un, rt, nm⟩ := x
      have d10 : wr.cell? ⟨b1, o1 + k * 8, none⟩ = some (.int .i64 kd) := dd1 0 _ rfl
      have d20 : wr.cell? ⟨b2, o2 + k * 8, none⟩ = some (.int .i64 kd) := dd2 0 _ rfl
      have d11 : wr.cell? ⟨b1, o1 + k * 8 + 1, none⟩ = some (.int .i64 ep) := dd1 1 _ rfl
      have d21 : wr.cell? ⟨b2, o2 + k * 8 + 1, none⟩ = some (.int .i64 ep) := dd2 1 _ rfl
      have d12 : wr.cell? ⟨b1, o1 + k * 8 + 2, none⟩ = some (.int .i64 tm) := dd1 2 _ rfl
      have d22 : wr.cell? ⟨b2, o2 + k * 8 + 2, none⟩ = some (.int .i64 tm) := dd2 2 _ rfl
      have d13 : wr.cell? ⟨b1, o1 + k * 8 + 3, none⟩ = some (.int .i64 ct) := dd1 3 _ rfl
      have d23 : wr.cell? ⟨b2, o2 + k * 8 + 3, none⟩ = some (.int .i64 ct) := dd2 3 _ rfl
      have d14 : wr.cell? ⟨b1, o1 + k * 8 + 4, none⟩ = some (.int .i64 tg) := dd1 4 _ rfl
      have d24 : wr.cell? ⟨b2, o2 + k * 8 + 4, none⟩ = some (.int .i64 tg) := dd2 4 _ rfl
      have d15 : wr.cell? ⟨b1, o1 + k * 8 + 5, none⟩ = some (.int .i64 un) := dd1 5 _ rfl
      have d25 : wr.cell? ⟨b2, o2 + k * 8 + 5, none⟩ = some (.int .i64 un) := dd2 5 _ rfl
      have d16 : wr.cell? ⟨b1, o1 + k * 8 + 6, none⟩ = some (.string rt) := dd1 6 _ rfl
      have d26 : wr.cell? ⟨b2, o2 + k * 8 + 6, none⟩ = some (.string rt) := dd2 6 _ rfl
      have d17 : wr.cell? ⟨b1, o1 + k * 8 + 7, none⟩ = some (.string nm) := dd1 7 _ rfl
      have d27 : wr.cell? ⟨b2, o2 + k * 8 + 7, none⟩ = some (.string nm) := dd2 7 _ rfl
      clear dd1 dd2 hb1 hb2 hx
      go_upto_region 6 with fail
      have g10 := fun p => after_cell d10 p
      have g20 := fun p => after_cell d20 p
      have g11 := fun p => after_cell d11 p
      have g21 := fun p => after_cell d21 p
      have g12 := fun p => after_cell d12 p
      have g22 := fun p => after_cell d22 p
      have g13 := fun p => after_cell d13 p
      have g23 := fun p => after_cell d23 p
      have g14 := fun p => after_cell d14 p
      have g24 := fun p => after_cell d24 p
      have g15 := fun p => after_cell d15 p
      have g25 := fun p => after_cell d25 p
      have g16 := fun p => after_cell d16 p
      have g26 := fun p => after_cell d26 p
      have g17 := fun p => after_cell d17 p
      have g27 := fun p => after_cell d27 p
      refine wp_region_after (by kernel_rfl) (by kernel_rfl) ?_
      repeat (go_big_quiet_step (fail))
      refine wpQuiet_nil ?_
      rintro w5 ⟨q, rfl⟩
      have hb5 := after_below wr q
      have H5 := Lib.hid (hN.out.trans (hb5.mono hN.out.size))
      generalize After wr q = w5 at *
      clear hb5 g10 d10 g20 d20 g11 d11 g21 d21 g12 d12 g22 d22 g13 d13 g23 d23 g14 d14 g24 d24 g15 d15 g25 d25 g16 d16 g26 d26 g17 d17 g27 d27
      go_wp2_with fail
      go_roundw
      case rel => exact ⟨k + 1, by omega, by go_num, H5⟩
      case measure => first | (simp [intOf]; done) | (simp [intOf]; omega)
    · obtain rfl : k = l.length := by omega
      have hki : ¬ (l.length : Int) < (l.length : Int) := by omega
      go_wp2
      exact HR.out _ _ ⟨rfl, hN.out⟩
set_option maxRecDepth 100000 in
set_option maxHeartbeats 4000000 in
theorem vequal_any (v1 v2 : Value) (l : List VerD) (w : World) (h1 : Rd verD w v1 l) (h2 : Rd verD w v2 l) (hn : l.length ≤ 1000000) :
    Calls Try.prog 31 #[v1, v2] w fun e w' => e = .returned (.bool true) ∧ Below w.heap.size w w' := by
  refine calls_by fun R HR => ?_
  have HL1 := Lib.hid h1
  have HL2 := Lib.hid h2
  have hni : (l.length : Int) ≤ 1000000 := by omega
  obtain ⟨a1, c1, hs1, -⟩ := h1.shape
  obtain ⟨a2, c2, hs2, -⟩ := h2.shape
  subst hs1 hs2
  clear h1 h2 hn
  go_enter Try.func31, Try.ntmps31
  go_wp2_with fail
  go_loopw [13] (fun i wx => ∃ (k : Nat), k ≤ l.length ∧ i = .int .i64 k ∧ Hid (Below w.heap.size w wx)) (fun i _ => l.length - (intOf i).toNat)
  case atStart => exact ⟨0, Nat.zero_le _, rfl, Lib.hid (Below.refl _ _)⟩
  case round =>
    obtain ⟨k, hk, rfl, hN⟩ := hrel
    by_cases hlt : k < l.length
    · have hki : (k : Int) < (l.length : Int) := by omega
      obtain ⟨x, hx⟩ : ∃ x, l[k]? = some x := ⟨_, List.getElem?_eq_getElem hlt⟩
      obtain ⟨b1, o1, ha1, hb1, dd1⟩ := (HL1.out.below hN.out).at k x hx
      obtain ⟨b2, o2, ha2, hb2, dd2⟩ := (HL2.out.below hN.out).at k x hx
      cases ha1
      cases ha2
      obtain ⟨xl, xe, xt⟩ := x
      have d10 : wr.cell? ⟨b1, o1 + k * 3, none⟩ = some (.int .i64 xl) := dd1 0 _ rfl
      have d20 : wr.cell? ⟨b2, o2 + k * 3, none⟩ = some (.int .i64 xl) := dd2 0 _ rfl
      have d11 : wr.cell? ⟨b1, o1 + k * 3 + 1, none⟩ = some (.int .i64 xe) := dd1 1 _ rfl
      have d21 : wr.cell? ⟨b2, o2 + k * 3 + 1, none⟩ = some (.int .i64 xe) := dd2 1 _ rfl
      have d12 : wr.cell? ⟨b1, o1 + k * 3 + 2, none⟩ = some (.string xt) := dd1 2 _ rfl
      have d22 : wr.cell? ⟨b2, o2 + k * 3 + 2, none⟩ = some (.string xt) := dd2 2 _ rfl
      clear dd1 dd2 hb1 hb2 hx
      go_upto_region 6 with fail
      have g10 := fun p => after_cell d10 p
      have g20 := fun p => after_cell d20 p
      have g11 := fun p => after_cell d11 p
      have g21 := fun p => after_cell d21 p
      have g12 := fun p => after_cell d12 p
      have g22 := fun p => after_cell d22 p
      refine wp_region_after (by kernel_rfl) (by kernel_rfl) ?_
      repeat (go_big_quiet_step (fail))
      refine wpQuiet_nil ?_
      rintro w5 ⟨q, rfl⟩
      have hb5 := after_below wr q
      have H5 := Lib.hid (hN.out.trans (hb5.mono hN.out.size))
      generalize After wr q = w5 at *
      clear hb5 g10 d10 g20 d20 g11 d11 g21 d21 g12 d12 g22 d22
      go_wp2_with fail
      go_roundw
      case rel => exact ⟨k + 1, by omega, by go_num, H5⟩
      case measure => first | (simp [intOf]; done) | (simp [intOf]; omega)
    · obtain rfl : k = l.length := by omega
      have hki : ¬ (l.length : Int) < (l.length : Int) := by omega
      go_wp2
      exact HR.out _ _ ⟨rfl, hN.out⟩
set_option maxRecDepth 100000 in
set_option maxHeartbeats 8000000 in
theorem msame_any {n cc bn c mu mh mg : Nat} {rv vv : Value} {n2 cc2 bn2 c2 mu2 mh2 mg2 : Nat} {rv2 vv2 : Value} {m : ModT} (w : World) (h : ModAt w n cc bn c mu mh mg rv vv m) (h2 : ModAt w n2 cc2 bn2 c2 mu2 mh2 mg2 rv2 vv2 m) (hr : m.recs.length ≤ 1000000) (hv : m.vers.length ≤ 1000000) :
    Calls Try.prog 13 #[.pointer (some ⟨n, 0, none⟩), .pointer (some ⟨n2, 0, none⟩)] w fun e w' => e = .returned (.bool true) ∧ Below w.heap.size w w' := by
  refine calls_by fun R HR => ?_
  have HT := Lib.hid (mthere_yes w h)
  have HT2 := Lib.hid (mthere_yes w h2)
  have HN := Lib.hid (fun w' (hb : Below w.heap.size w w') => (cnow_any cc m.now w' (h.below hb).clk).mono (R' := fun e w'' => e = .returned (.int .i64 m.now) ∧ Below w'.heap.size w' w'') fun e w'' ⟨q1, q2⟩ => ⟨q1, by rw [q2]; exact Below.refl _ _⟩)
  have HN2 := Lib.hid (fun w' (hb : Below w.heap.size w w') => (cnow_any cc2 m.now w' (h2.below hb).clk).mono (R' := fun e w'' => e = .returned (.int .i64 m.now) ∧ Below w'.heap.size w' w'') fun e w'' ⟨q1, q2⟩ => ⟨q1, by rw [q2]; exact Below.refl _ _⟩)
  have HQ := Lib.hid (fun w' (hb : Below w.heap.size w w') => requal_any rv rv2 m.recs w' (h.below hb).recs.rd (h2.below hb).recs.rd hr)
  have HQ2 := Lib.hid (fun w' (hb : Below w.heap.size w w') => vequal_any vv vv2 m.vers w' (h.below hb).vers.rd (h2.below hb).vers.rd hv)
  obtain ⟨⟨z0, z1, z2, z3, z4, z5, z6, z7⟩, -⟩ := blkR h.blk
  obtain ⟨⟨y0, y1, y2, y3, y4, y5, y6, y7⟩, -⟩ := blkR h2.blk
  obtain ⟨a1, d1, hs1, -⟩ := h.recs.shape
  obtain ⟨a2, d2, hs2, -⟩ := h.vers.shape
  obtain ⟨a3, d3, hs3, -⟩ := h2.recs.shape
  obtain ⟨a4, d4, hs4, -⟩ := h2.vers.shape
  subst hs1 hs2 hs3 hs4
  clear h h2 hr hv
  go_enter Try.func13, Try.ntmps13
  go_wp2_with fail
  refine HT.out.mono ?_
  rintro en y9 ⟨rfl, hw⟩
  rw [hw]
  clear hw y9
  go_wp2_with fail
  refine HT2.out.mono ?_
  rintro en y9 ⟨rfl, hw⟩
  rw [hw]
  clear hw y9
  go_upto_region 3 with fail
  have gz0 := fun p => after_cell z0 p
  have gz1 := fun p => after_cell z1 p
  have gz2 := fun p => after_cell z2 p
  have gz3 := fun p => after_cell z3 p
  have gz4 := fun p => after_cell z4 p
  have gz6 := fun p => after_cell z6 p
  have gz7 := fun p => after_cell z7 p
  have gy0 := fun p => after_cell y0 p
  have gy1 := fun p => after_cell y1 p
  have gy2 := fun p => after_cell y2 p
  have gy3 := fun p => after_cell y3 p
  have gy4 := fun p => after_cell y4 p
  have gy6 := fun p => after_cell y6 p
  have gy7 := fun p => after_cell y7 p
  have cc0 := Lib.hid (fun p => calls_after (p := p) (HN.out (After w p) (after_below w p)))
  have cc1 := Lib.hid (fun p => calls_after (p := p) (HN2.out (After w p) (after_below w p)))
  have cc2 := Lib.hid (fun p => calls_after (p := p) (HQ.out (After w p) (after_below w p)))
  have cc3 := Lib.hid (fun p => calls_after (p := p) (HQ2.out (After w p) (after_below w p)))
  refine wp_region_after (by kernel_rfl) (by kernel_rfl) ?_
  repeat (go_big_quiet_step (fail))
  go_big_quiet_step (with_reducible exact cc0.out _)
  repeat (go_big_quiet_step (fail))
  go_big_quiet_step (with_reducible exact cc1.out _)
  repeat (go_big_quiet_step (fail))
  go_big_quiet_step (with_reducible exact cc2.out _)
  repeat (go_big_quiet_step (fail))
  go_big_quiet_step (with_reducible exact cc3.out _)
  repeat (go_big_quiet_step (fail))
  refine wpQuiet_nil ?_
  rintro q1 ⟨p9, rfl⟩
  have hb := after_below w p9
  have HB := Lib.hid hb
  generalize After w p9 = q1 at *
  clear hb cc0 cc1 cc2 cc3 z5 y5 z0 z1 z2 z3 z4 z6 z7 y0 y1 y2 y3 y4 y6 y7 gz0 gz1 gz2 gz3 gz4 gz6 gz7 gy0 gy1 gy2 gy3 gy4 gy6 gy7
  go_wp2
  exact HR.out _ _ ⟨rfl, HB.out⟩
end Go.Proofs.Ytnkiokaeooopgaa
