/- Texts that the claim rests on, part 8: JrnGeo, SuperRight, SuperPut, JrnNext, JrnCommit, JrnAppend, JrnCom, SamePlain. -/
import Derived.Test.YteppfjgglelpbaaGreatM7
/- Where things stand on a disk, the space: of the program. -/
set_option maxRecDepth 100000
namespace Go.Proofs.YteppfjgglelpbaaGreat
open Go.RowKit Ks
set_option linter.unusedVariables false
set_option linter.unusedSimpArgs false
theorem gkey_any (e : Int) (w : World) : Calls Tryz.prog 40 #[.int .i64 e] w fun r w' => r = .returned (.int .i64 (keyP e)) ∧ w' = w := by
  refine calls_by fun R HR => ?_
  have hk : Hid (keyP e = 2 + max e 0 % 2) := Lib.hid rfl
  have h0 : (max e 0).tmod 2 = max e 0 % 2 := Int.tmod_eq_emod_of_nonneg (by omega)
  have h1 : wrap64 (2 + max e 0 % 2) = 2 + max e 0 % 2 := by unfold wrap64; omega
  have h2 : wrap64 (max e 0 % 2) = max e 0 % 2 := by unfold wrap64; omega
  go_enter Tryz.func40, Tryz.ntmps40
  go_wp2
  exact HR.out _ _ ⟨by rw [hk.out] <;> rfl, rfl⟩
theorem gsuper_any (e : Int) (w : World) : Calls Tryz.prog 75 #[.int .i64 e] w fun r w' => r = .returned (.int .i64 (supP e)) ∧ w' = w := by
  refine calls_by fun R HR => ?_
  have hk : Hid (supP e = max e 0 % 2) := Lib.hid rfl
  have h0 : (max e 0).tmod 2 = max e 0 % 2 := Int.tmod_eq_emod_of_nonneg (by omega)
  have h2 : wrap64 (max e 0 % 2) = max e 0 % 2 := by unfold wrap64; omega
  go_enter Tryz.func75, Tryz.ntmps75
  go_wp2
  exact HR.out _ _ ⟨by rw [hk.out] <;> rfl, rfl⟩
set_option maxRecDepth 100000 in
set_option maxHeartbeats 4000000 in
theorem gplace_any (s : SupT) (i : Int) (w : World) (hb : -9223372036854775808 ≤ s.b ∧ s.b ≤ 9223372036854775807) : Calls Tryz.prog 66 #[geoV s.b s.l s.f, .int .i64 i] w fun r w' => ∃ e, r = .returned (.tuple #[.int .i64 (placeG s i), .int .i64 e]) ∧ Below w.heap.size w w' := by
  refine calls_by fun R HR => ?_
  have hd : dataG s ≤ 1020 := by
    unfold dataG geoD
    split
    · rename_i h; have := geo_ok.1 h; omega
    · omega
  have HD := Lib.hid (fun w => gdata_any s.b s.l s.f w hb)
  have HP : Hid (placeG s i = if 0 ≤ i ∧ i < dataG s then 4 + i else 0) := Lib.hid rfl
  rw [show geoD s.b s.l s.f = dataG s from rfl] at HD
  generalize placeG s i = PG at *
  generalize dataG s = D at *
  obtain ⟨g9, t9, e9, c9, b, l, f⟩ := s
  simp only at HD
  clear hb
  have H1 := Lib.hid (Below.refl w.heap.size w)
  obtain ⟨W1, hW1⟩ : ∃ W1, w.alloc (.cells #[.int .i64 b, .int .i64 l, .int .i64 f] 27) = W1 := ⟨_, rfl⟩
  have hbW1 : Below w.heap.size w W1 := by rw [← hW1]; exact alloc_below w _
  have kW1 : W1.heap[w.heap.size]? = some (.cells #[.int .i64 b, .int .i64 l, .int .i64 f] 27 (0, 0)) := by rw [← hW1]; exact alloc_new w _
  have H2 := Lib.hid (And.intro (H1.out.trans (hbW1.mono H1.out.size)) (kW1))
  clear hbW1 kW1
  obtain ⟨c0, c1, c2, -, -, -⟩ := blk3 H2.out.2
  go_enter Tryz.func66, Tryz.ntmps66
  by_cases h0 : i < 0
  · have HZ := Lib.hid (show PG = 0 by rw [HP.out, if_neg (fun q => by omega)])
    go_wp2
    exact HR.out _ _ ⟨4, by rw [HZ.out] <;> rfl, H2.out.1⟩
  have h0b : decide (i < 0) = false := decide_eq_false h0
  go_wp2_with fail
  refine (HD.out _).mono ?_
  rintro en v1 ⟨rfl, hb⟩
  have H3 := Lib.hid (And.intro (H2.out.1.trans (hb.mono H2.out.1.size)) (blk_on hb H2.out.2))
  clear hb
  clear hW1 c0 c1 c2
  by_cases h1 : D ≤ i
  · have h1d : decide (D ≤ i) = true := decide_eq_true h1
    have HZ := Lib.hid (show PG = 0 by rw [HP.out, if_neg (fun q => by omega)])
    go_wp2
    exact HR.out _ _ ⟨4, by rw [HZ.out] <;> rfl, H3.out.1⟩
  have h1d : decide (D ≤ i) = false := decide_eq_false h1
  have hwr : wrap64 (4 + i) = 4 + i := by unfold wrap64; omega
  have HZ := Lib.hid (show PG = 4 + i by rw [HP.out, if_pos (by omega)])
  go_wp2
  exact HR.out _ _ ⟨0, by rw [HZ.out] <;> rfl, H3.out.1⟩
set_option maxRecDepth 100000 in
set_option maxHeartbeats 4000000 in
theorem groom_any (s : SupT) (u : Int) (w : World) (hb : -9223372036854775808 ≤ s.b ∧ s.b ≤ 9223372036854775807) : Calls Tryz.prog 82 #[geoV s.b s.l s.f, .int .i64 u] w fun r w' => r = .returned (.int .i64 (roomG s u)) ∧ Below w.heap.size w w' := by
  refine calls_by fun R HR => ?_
  have hd : 0 ≤ dataG s ∧ dataG s ≤ 1020 := by
    unfold dataG geoD
    split
    · rename_i h; have := geo_ok.1 h; omega
    · omega
  have HD := Lib.hid (fun w => gdata_any s.b s.l s.f w hb)
  have HP : Hid (roomG s u = if u < 0 then 0 else max (dataG s - 1 - min u 1024) 0) := Lib.hid rfl
  rw [show geoD s.b s.l s.f = dataG s from rfl] at HD
  generalize roomG s u = RG at *
  generalize dataG s = D at *
  obtain ⟨g9, t9, e9, c9, b, l, f⟩ := s
  simp only at HD
  clear hb
  have H1 := Lib.hid (Below.refl w.heap.size w)
  obtain ⟨W1, hW1⟩ : ∃ W1, w.alloc (.cells #[.int .i64 b, .int .i64 l, .int .i64 f] 27) = W1 := ⟨_, rfl⟩
  have hbW1 : Below w.heap.size w W1 := by rw [← hW1]; exact alloc_below w _
  have kW1 : W1.heap[w.heap.size]? = some (.cells #[.int .i64 b, .int .i64 l, .int .i64 f] 27 (0, 0)) := by rw [← hW1]; exact alloc_new w _
  have H2 := Lib.hid (And.intro (H1.out.trans (hbW1.mono H1.out.size)) (kW1))
  clear hbW1 kW1
  obtain ⟨c0, c1, c2, -, -, -⟩ := blk3 H2.out.2
  go_enter Tryz.func82, Tryz.ntmps82
  by_cases h0 : u < 0
  · have HZ := Lib.hid (show RG = 0 by rw [HP.out, if_pos h0])
    go_wp2
    exact HR.out _ _ ⟨by rw [HZ.out] <;> rfl, H2.out.1⟩
  have HZ := Lib.hid (show RG = max (D - 1 - min u 1024) 0 by rw [HP.out, if_neg h0])
  go_wp2_with fail
  refine (HD.out _).mono ?_
  rintro en v1 ⟨rfl, hb⟩
  have H3 := Lib.hid (And.intro (H2.out.1.trans (hb.mono H2.out.1.size)) (blk_on hb H2.out.2))
  clear hb
  clear hW1 c0 c1 c2
  have e1 : wrap64 (D - 1) = D - 1 := by unfold wrap64; omega
  have e2 : wrap64 (D - 1 - min u 1024) = D - 1 - min u 1024 := by unfold wrap64; omega
  go_wp2
  exact HR.out _ _ ⟨by rw [HZ.out] <;> rfl, H3.out.1⟩
/-- a space -/
def SpAt (w : World) (sn : Nat) (s : SupT) (u : Int) : Prop := w.heap[sn]? = some (.cells #[.int .i64 s.b, .int .i64 s.l, .int .i64 s.f, .int .i64 u, .bool true] 106 (0, 0))
theorem SpAt.below {w w' : World} {sn : Nat} {s : SupT} {u : Int} (h : SpAt w sn s u) (hb : Below w.heap.size w w') : SpAt w' sn s u := (hb.block _ (lt_of_block h)).trans h
theorem blk5s {w : World} {b : Nat} {c0 c1 c2 c3 c4 : Value} {T : TypeId} (h : w.heap[b]? = some (.cells #[c0, c1, c2, c3, c4] T (0, 0))) : (w.cell? ⟨b, 0, none⟩ = some c0 ∧ w.cell? ⟨b, 1, none⟩ = some c1 ∧ w.cell? ⟨b, 2, none⟩ = some c2 ∧ w.cell? ⟨b, 3, none⟩ = some c3 ∧ w.cell? ⟨b, 4, none⟩ = some c4) ∧ w.frozen? ⟨b, 3, none⟩ = false :=
  ⟨⟨by rw [cell_of_row w b 0 _ _ _ h]; rfl, by rw [cell_of_row w b 1 _ _ _ h]; rfl, by rw [cell_of_row w b 2 _ _ _ h]; rfl, by rw [cell_of_row w b 3 _ _ _ h]; rfl, by rw [cell_of_row w b 4 _ _ _ h]; rfl⟩, frozen_of_row w b 3 _ _ h⟩
theorem spthere_any {sn : Nat} {s : SupT} {u : Int} (w : World) (h : SpAt w sn s u) (hb : 0 < s.b) : Calls Tryz.prog 76 #[.pointer (some ⟨sn, 0, none⟩)] w fun e w' => e = .returned (.bool true) ∧ w' = w := by
  refine calls_by fun R HR => ?_
  have hbd : decide (0 < s.b) = true := decide_eq_true hb
  obtain ⟨⟨z0, z1, z2, z3, z4⟩, -⟩ := blk5s h
  clear h
  go_enter Tryz.func76, Tryz.ntmps76
  go_wp2
  exact HR.out _ _ ⟨rfl, rfl⟩
theorem spused_any {sn : Nat} {s : SupT} {u : Int} (w : World) (h : SpAt w sn s u) (hb : 0 < s.b) : Calls Tryz.prog 45 #[.pointer (some ⟨sn, 0, none⟩)] w fun e w' => e = .returned (.int .i64 u) ∧ w' = w := by
  refine calls_by fun R HR => ?_
  have HT := Lib.hid (spthere_any w h hb)
  obtain ⟨⟨z0, z1, z2, z3, z4⟩, -⟩ := blk5s h
  clear h
  go_enter Tryz.func45, Tryz.ntmps45
  go_wp2_with fail
  refine HT.out.mono ?_
  rintro en y9 ⟨rfl, hw⟩
  rw [hw]
  clear hw y9
  go_wp2
  exact HR.out _ _ ⟨rfl, rfl⟩
set_option maxRecDepth 100000 in
set_option maxHeartbeats 4000000 in
theorem sproom_any {sn : Nat} {s : SupT} {u : Int} (w : World) (h : SpAt w sn s u) (hb : 0 < s.b ∧ s.b ≤ 9223372036854775807) : Calls Tryz.prog 51 #[.pointer (some ⟨sn, 0, none⟩)] w fun e w' => e = .returned (.int .i64 (roomG s u)) ∧ Below w.heap.size w w' := by
  refine calls_by fun R HR => ?_
  have HT := Lib.hid (spthere_any w h hb.1)
  have cc0 := Lib.hid (fun p => calls_after (p := p) (groom_any s u (After w p) (by omega)))
  obtain ⟨⟨z0, z1, z2, z3, z4⟩, -⟩ := blk5s h
  generalize roomG s u = RG at *
  clear h hb
  go_enter Tryz.func51, Tryz.ntmps51
  go_wp2_with fail
  refine HT.out.mono ?_
  rintro en y9 ⟨rfl, hw⟩
  rw [hw]
  clear hw y9
  go_upto_region 3 with fail
  have gz0 := fun p => after_cell z0 p
  have gz1 := fun p => after_cell z1 p
  have gz2 := fun p => after_cell z2 p
  have gz3 := fun p => after_cell z3 p
  refine wp_region_after (by kernel_rfl) (by kernel_rfl) ?_
  repeat (go_big_quiet_step (fail))
  go_big_quiet_step (with_reducible exact cc0.out _)
  repeat (go_big_quiet_step (fail))
  refine wpQuiet_nil ?_
  rintro q1 ⟨p9, rfl⟩
  have hb9 := after_below w p9
  have HB9 := Lib.hid hb9
  generalize After w p9 = q1 at *
  clear hb9 gz0 gz1 gz2 gz3 z0 z1 z2 z3
  go_wp2
  exact HR.out _ _ ⟨rfl, HB9.out⟩
set_option maxRecDepth 100000 in
set_option maxHeartbeats 4000000 in
theorem spopen_any {sn : Nat} {s : SupT} {u : Int} (w : World) (h : SpAt w sn s u) (hb : 0 < s.b ∧ s.b ≤ 9223372036854775807) : Calls Tryz.prog 68 #[.pointer (some ⟨sn, 0, none⟩)] w fun e w' => e = .returned (.bool (decide (u < dataG s))) ∧ Below w.heap.size w w' := by
  refine calls_by fun R HR => ?_
  have cc1 := Lib.hid (fun p => calls_after (p := p) (v := .bool true) ((spthere_any (After w p) (h.below (after_below w p)) hb.1).mono (R' := fun e w' => e = .returned (.bool true) ∧ Below (After w p).heap.size (After w p) w') fun e w' ⟨h1, h2⟩ => ⟨h1, by rw [h2]; exact Below.refl _ _⟩))
  have cc0 := Lib.hid (fun p => calls_after (p := p) (gdata_any s.b s.l s.f (After w p) (by omega)))
  rw [show geoD s.b s.l s.f = dataG s from rfl] at cc0
  obtain ⟨⟨z0, z1, z2, z3, z4⟩, -⟩ := blk5s h
  generalize dataG s = D at *
  clear h hb
  go_enter Tryz.func68, Tryz.ntmps68
  go_upto_region 1 with fail
  have gz0 := fun p => after_cell z0 p
  have gz1 := fun p => after_cell z1 p
  have gz2 := fun p => after_cell z2 p
  have gz3 := fun p => after_cell z3 p
  refine wp_region_after (by kernel_rfl) (by kernel_rfl) ?_
  repeat (go_big_quiet_step (fail))
  go_big_quiet_step (with_reducible exact cc1.out _)
  repeat (go_big_quiet_step (fail))
  go_big_quiet_step (with_reducible exact cc0.out _)
  repeat (go_big_quiet_step (fail))
  refine wpQuiet_nil ?_
  rintro q1 ⟨p9, rfl⟩
  have hb9 := after_below w p9
  have HB9 := Lib.hid hb9
  generalize After w p9 = q1 at *
  clear hb9 gz0 gz1 gz2 gz3 z0 z1 z2 z3
  go_wp2
  exact HR.out _ _ ⟨rfl, HB9.out⟩
theorem spsome_any {sn : Nat} {s : SupT} {u : Int} (w : World) (h : SpAt w sn s u) (hb : 0 < s.b ∧ s.b ≤ 9223372036854775807) : Calls Tryz.prog 63 #[.pointer (some ⟨sn, 0, none⟩)] w fun e w' => e = .returned (.bool (decide (0 < roomG s u))) ∧ Below w.heap.size w w' := by
  refine calls_by fun R HR => ?_
  have HT := Lib.hid (sproom_any w h hb)
  generalize roomG s u = RG at *
  clear h hb
  go_enter Tryz.func63, Tryz.ntmps63
  go_wp2_with fail
  refine HT.out.mono ?_
  rintro en v1 ⟨rfl, hb⟩
  have H1 := Lib.hid hb
  clear hb
  go_wp2
  exact HR.out _ _ ⟨rfl, H1.out⟩
set_option maxRecDepth 100000 in
set_option maxHeartbeats 4000000 in
theorem spnext_any {sn : Nat} {s : SupT} {u : Int} (g : Nat) (er : Int) (may : Bool) (eg : ∀ args w, (callFunc g args).run Tryz.prog w = .ok (.enter g args) w) (w : World) (h : SpAt w sn s u) (hb : 0 < s.b ∧ s.b ≤ 9223372036854775807) (hu : 0 ≤ u ∧ u ≤ 1000000)
    (hg : Calls Tryz.prog g #[.pointer (some ⟨sn, 0, none⟩)] w fun e w' => e = .returned (.bool may) ∧ Below w.heap.size w w') :
    Calls Tryz.prog 62 #[.pointer (some ⟨sn, 0, none⟩), .func (.func g) #[.pointer (some ⟨sn, 0, none⟩)] #[], .int .i64 er] w fun e w' => e = .returned (.tuple #[.int .i64 (if may then u else 0), .int .i64 (if may then 0 else er)]) ∧ SpAt w' sn s (if may then u + 1 else u) ∧ Turn w w' (fun k => k = sn) (fun k => k = sn) := by
  refine calls_by fun R HR => ?_
  have HT := Lib.hid (spthere_any w h hb.1)
  have HG := Lib.hid hg
  have HD := Lib.hid h
  have hw1 : wrap64 (u + 1) = u + 1 := by unfold wrap64; omega
  have hw3 := Lib.hid (show wrap64 u = u by unfold wrap64; omega)
  clear h hb hu hg
  go_enter Tryz.func62, Tryz.ntmps62
  go_wp2_with fail
  refine HT.out.mono ?_
  rintro en y9 ⟨rfl, hw⟩
  rw [hw]
  clear hw y9
  go_wp2_with fail
  refine HG.out.mono ?_
  rintro en v1 ⟨rfl, hb⟩
  have H1 := Lib.hid (And.intro hb (HD.out.below hb))
  clear hb
  cases may with
  | false =>
    go_wp2
    exact HR.out _ _ ⟨rfl, H1.out.2, Turn.of_below _ H1.out.1⟩
  | true =>
    obtain ⟨⟨z0, z1, z2, z3, z4⟩, fz3⟩ := blk5s H1.out.2
    obtain ⟨P, hP⟩ : ∃ W, v1.setCell ⟨sn, 3, none⟩ (.int .i64 (u + 1)) = W := ⟨_, rfl⟩
    have HP := Lib.hid (show SpAt P sn s (u + 1) ∧ Turn v1 P (fun k => k = sn) (fun k => k = sn) by rw [← hP]; exact ⟨set_blk H1.out.2 3 _, Turn.cell _ sn 3 _ rfl⟩)
    go_upto_region 6 with fail
    try rw [hP]
    clear hP z0 z1 z2 z3 z4 fz3
    obtain ⟨⟨z0, z1, z2, z3, z4⟩, -⟩ := blk5s HP.out.1
    go_wp2
    exact HR.out _ _ ⟨by rw [hw3.out] <;> rfl, HP.out.1, (Turn.of_below _ H1.out.1).trans HP.out.2⟩
theorem sptake_any {sn : Nat} {s : SupT} {u : Int} (w : World) (h : SpAt w sn s u) (hb : 0 < s.b ∧ s.b ≤ 9223372036854775807) (hu : 0 ≤ u ∧ u ≤ 1000000) :
    Calls Tryz.prog 32 #[.pointer (some ⟨sn, 0, none⟩)] w fun e w' => e = .returned (.tuple #[.int .i64 (if decide (0 < roomG s u) then u else 0), .int .i64 (if decide (0 < roomG s u) then 0 else 5)]) ∧ SpAt w' sn s (if decide (0 < roomG s u) then u + 1 else u) ∧ Turn w w' (fun k => k = sn) (fun k => k = sn) := by
  refine calls_by fun R HR => ?_
  have HN := Lib.hid (spnext_any 63 5 (decide (0 < roomG s u)) (fun _ _ => rfl) w h hb hu (spsome_any w h hb))
  generalize decide (0 < roomG s u) = may at *
  clear h hb hu
  go_enter Tryz.func32, Tryz.ntmps32
  go_wp2_with fail
  refine HN.out.mono ?_
  rintro en v1 ⟨rfl, h1, h2⟩
  have H1 := Lib.hid (And.intro h1 h2)
  clear h1 h2
  generalize (if may = true then u else 0) = x1 at *
  generalize (if may = true then (0 : Int) else 5) = x2 at *
  go_wp2
  exact HR.out _ _ ⟨rfl, H1.out⟩
theorem spclose_any {sn : Nat} {s : SupT} {u : Int} (w : World) (h : SpAt w sn s u) (hb : 0 < s.b ∧ s.b ≤ 9223372036854775807) (hu : 0 ≤ u ∧ u ≤ 1000000) :
    Calls Tryz.prog 38 #[.pointer (some ⟨sn, 0, none⟩)] w fun e w' => e = .returned (.tuple #[.int .i64 (if decide (u < dataG s) then u else 0), .int .i64 (if decide (u < dataG s) then 0 else 6)]) ∧ SpAt w' sn s (if decide (u < dataG s) then u + 1 else u) ∧ Turn w w' (fun k => k = sn) (fun k => k = sn) := by
  refine calls_by fun R HR => ?_
  have HN := Lib.hid (spnext_any 68 6 (decide (u < dataG s)) (fun _ _ => rfl) w h hb hu (spopen_any w h hb))
  generalize decide (u < dataG s) = may at *
  clear h hb hu
  go_enter Tryz.func38, Tryz.ntmps38
  go_wp2_with fail
  refine HN.out.mono ?_
  rintro en v1 ⟨rfl, h1, h2⟩
  have H1 := Lib.hid (And.intro h1 h2)
  clear h1 h2
  generalize (if may = true then u else 0) = x1 at *
  generalize (if may = true then (0 : Int) else 6) = x2 at *
  go_wp2
  exact HR.out _ _ ⟨rfl, H1.out⟩
set_option maxRecDepth 100000 in
set_option maxHeartbeats 4000000 in
theorem spnew_any (s : SupT) (u : Int) (w : World) (hb : geoOk s.b s.l s.f = true) (hu : 0 ≤ u ∧ u ≤ dataG s) : Calls Tryz.prog 49 #[geoV s.b s.l s.f, .int .i64 u] w fun e w' => ∃ sn, e = .returned (.tuple #[.pointer (some ⟨sn, 0, none⟩), .int .i64 0]) ∧ SpAt w' sn s u ∧ w.heap.size ≤ sn ∧ Below w.heap.size w w' := by
  refine calls_by fun R HR => ?_
  have hk := geo_ok.1 hb
  have HC := Lib.hid (fun w => gcheck_any s.b s.l s.f w)
  rw [(geo_yes hb).1] at HC
  have HD := Lib.hid (fun w => gdata_any s.b s.l s.f w (by omega))
  rw [show geoD s.b s.l s.f = dataG s from rfl] at HD
  have h0 : ¬ u < 0 := by omega
  have h1 : ¬ dataG s < u := by omega
  have h1d : decide (dataG s < u) = false := decide_eq_false h1
  generalize dataG s = D at *
  obtain ⟨g9, t9, e9, c9, b, l, f⟩ := s
  simp only at HC HD
  clear hb hu hk
  have H1 := Lib.hid (Below.refl w.heap.size w)
  obtain ⟨W1, hW1⟩ : ∃ W1, w.alloc (.cells #[.int .i64 b, .int .i64 l, .int .i64 f] 27) = W1 := ⟨_, rfl⟩
  have hbW1 : Below w.heap.size w W1 := by rw [← hW1]; exact alloc_below w _
  have kW1 : W1.heap[w.heap.size]? = some (.cells #[.int .i64 b, .int .i64 l, .int .i64 f] 27 (0, 0)) := by rw [← hW1]; exact alloc_new w _
  have H2 := Lib.hid (And.intro (H1.out.trans (hbW1.mono H1.out.size)) (kW1))
  clear hbW1 kW1
  obtain ⟨c0, c1, c2, -, -, -⟩ := blk3 H2.out.2
  go_enter Tryz.func49, Tryz.ntmps49
  go_wp2_with fail
  refine (HC.out _).mono ?_
  rintro en v1 ⟨rfl, hb⟩
  have H3 := Lib.hid (And.intro (H2.out.1.trans (hb.mono H2.out.1.size)) (blk_on hb H2.out.2))
  clear hb
  clear hW1 c0 c1 c2
  obtain ⟨c0, c1, c2, -, -, -⟩ := blk3 H3.out.2
  go_wp2_with fail
  refine (HD.out _).mono ?_
  rintro en v2 ⟨rfl, hb⟩
  have H4 := Lib.hid (And.intro (H3.out.1.trans (hb.mono H3.out.1.size)) (blk_on hb H3.out.2))
  clear hb
  clear c0 c1 c2
  obtain ⟨c0, c1, c2, -, -, -⟩ := blk3 H4.out.2
  have HN := Lib.hid (And.intro (alloc_new v2 (.cells #[.int .i64 b, .int .i64 l, .int .i64 f, .int .i64 u, .bool true] 106)) (alloc_below v2 (.cells #[.int .i64 b, .int .i64 l, .int .i64 f, .int .i64 u, .bool true] 106)))
  go_wp2
  exact HR.out _ _ ⟨v2.heap.size, rfl, HN.out.1, H4.out.1.size, H4.out.1.trans (HN.out.2.mono H4.out.1.size)⟩
end Go.Proofs.YteppfjgglelpbaaGreat
/- A superblock: the reference's Right. -/
namespace Go.Proofs.YteppfjgglelpbaaGreat
open Go.RowKit Ks
set_option linter.unusedVariables false
end Go.Proofs.YteppfjgglelpbaaGreat
/- A superblock's bytes: super.Put and the reference's. -/
namespace Ks
open Go Go.RowKit
set_option linter.unusedVariables false
theorem sup_cat2 (g t e c b l f : Int) (h : supOk g t e c b l f = true) : ∃ N G Z : ByteArray, packS [8, 4, 4, 8] [g, t, e, c] = N ∧ packE [8, 4, 4, 8] [g, t, e, c] = 0 ∧ geoS b l f = G ∧ geoE b l f = 0 ∧ geoOk b l f = true ∧ N.size = 24 ∧ G.size = 12 ∧
    shaS (ByteArray.mk #[107, 101, 101, 112, 115, 97, 107, 101, 49] ++ N ++ G).data.toList = Z ∧ Z.size = 32 ∧ (ByteArray.mk #[107, 101, 101, 112, 115, 97, 107, 101, 49] ++ N ++ G ++ Z).size = 77 ∧
    fillS (ByteArray.mk #[107, 101, 101, 112, 115, 97, 107, 101, 49] ++ N ++ G ++ Z) 4096 = supS g t e c b l f ∧ fillE (ByteArray.mk #[107, 101, 101, 112, 115, 97, 107, 101, 49] ++ N ++ G ++ Z) 4096 = 0 ∧
    ByteArray.mk #[107, 101, 101, 112, 115, 97, 107, 101, 49] ++ N ++ G ++ Z ++ zerosS 4019 = supS g t e c b l f ∧
    ByteArray.mk #[107, 101, 101, 112, 115, 97, 107, 101, 49] ++ putS g 8 ++ putS t 4 ++ putS e 4 ++ putS c 8 = ByteArray.mk #[107, 101, 101, 112, 115, 97, 107, 101, 49] ++ N := by
  obtain ⟨hg, h1, h2, h3, h4, h5, h6, h7, h8⟩ := sup_ok.1 h
  obtain ⟨b1, b2, b3, b4, b5, b6⟩ := geo_ok.1 hg
  have ht : t ≤ 4294967295 := by omega
  have he : 0 ≤ e := by omega
  obtain ⟨p1, p2⟩ := sup_pack g t e c (by omega) ⟨h3, ht⟩ ⟨he, h6⟩ h7
  obtain ⟨q1, q2, q3, q4, q5, q6, q7⟩ := sup_cat g t e c b l f h
  refine ⟨_, _, _, p2, p1, rfl, (geo_yes hg).1, hg, q1, ?_, ?_, ?_, q4, q5, q6, q7, supN_eq g t e c (by omega) ⟨h3, ht⟩ ⟨he, h6⟩ h7⟩
  · rw [geoS, if_pos hg]; exact geoL_length b l f
  · show shaS (markB ++ _ ++ _).data.toList = _
    rw [q2]; rfl
  · show (shaL _).toArray.size = 32; simp [shaL_length]
end Ks
namespace Go.Proofs.YteppfjgglelpbaaGreat
open Go.RowKit Ks
set_option linter.unusedVariables false
theorem swidths_any (w : World) : Calls Tryz.prog 95 #[] w fun e w' => e = .returned (.slice (some ⟨w.heap.size, 0, none⟩) 4 4) ∧ w' = w.alloc (.cells #[.int .i64 8, .int .i64 4, .int .i64 4, .int .i64 8] 3) := by
  go_enter Tryz.func95, Tryz.ntmps95
  go_wp2
  go_ret
  exact ⟨rfl, rfl⟩
set_option maxHeartbeats 2000000 in
set_option maxRecDepth 100000 in
theorem sput_any (g t e c b l f : Int) (w : World) (hb : -9223372036854775808 ≤ b ∧ b ≤ 9223372036854775807) :
    Calls Tryz.prog 74 #[supV g t e c b l f] w fun en w' => en = .returned (.tuple #[.string (supS g t e c b l f), .int .i64 (supE g t e c b l f)]) ∧ Below w.heap.size w w' := by
  refine calls_by fun R HR => ?_
  have HC := Lib.hid (fun w => scheck_any g t e c b l f w hb)
  cases h : supOk g t e c b l f
  · have HV := Lib.hid (sup_no h)
    rw [(sup_no h).2] at HC
    clear h
    go_enter Tryz.func74, Tryz.ntmps74
    go_wp2_with fail
    refine (HC.out _).mono ?_
    rintro en w1 ⟨rfl, hb1⟩
    have H1 := Lib.hid ((alloc_below w _).trans (hb1.mono (by simp)))
    clear hb1
    go_wp2
    exact HR.out _ _ ⟨by rw [HV.out.1, HV.out.2] <;> rfl, H1.out⟩
  · obtain ⟨hgok, n1, n2, n3, n4, n5, n6, n7, n8⟩ := sup_ok.1 h
    obtain ⟨b1, b2, b3, b4, b5, b6⟩ := geo_ok.1 hgok
    have HL : Hid (-9223372036854775808 ≤ l ∧ l ≤ 9223372036854775807 ∧ -9223372036854775808 ≤ f ∧ f ≤ 9223372036854775807) := Lib.hid (by omega)
    have HI : Hid (0 ≤ g ∧ g ≤ 9223372036854775807 ∧ 0 ≤ t ∧ t ≤ 9223372036854775807 ∧ 0 ≤ e ∧ e ≤ 9223372036854775807 ∧ 0 ≤ c ∧ c ≤ 9223372036854775807) := Lib.hid (by omega)
    have HB := Lib.hid hb
    obtain ⟨N, G, Z, hP, hPE, hG, hGE, -, hNz, hGz, hZ, hZz, h77, hF, hFE, -, -⟩ := sup_cat2 g t e c b l f h
    have HV := Lib.hid (And.intro hP (And.intro hPE (And.intro hG (And.intro hGE (And.intro hZ (And.intro hF hFE))))))
    rw [sup_yes h] at HC
    have HE := Lib.hid (sup_yes h)
    clear h hP hPE hG hGE hZ hF hFE hgok n1 n2 n3 n4 n5 n6 n7 n8 b1 b2 b3 b4 b5 b6 hb
    go_enter Tryz.func74, Tryz.ntmps74
    go_wp2_with fail
    refine (HC.out _).mono ?_
    rintro en w1 ⟨rfl, hb1⟩
    have k1 : w1.heap[w.heap.size]? = some (.cells #[.int .i64 g, .int .i64 t, .int .i64 e, .int .i64 c, .int .i64 b, .int .i64 l, .int .i64 f] 29 (0, 0)) := (hb1.block _ (by simp)).trans (alloc_new w _)
    obtain ⟨c0, c1, c2, c3, c4, c5, c6⟩ := blk7 k1
    have hB1 : Below w.heap.size w w1 := ((Below.refl _ _).alloc (Nat.le_refl _) _).trans (hb1.mono (by simp))
    have hz1 : w.heap.size < w1.heap.size := by have := hb1.size; simp at this; omega
    clear hb1
    go_wp2_with fail
    go_region_held3 (fun w' => w'.cell? ⟨w.heap.size, 0, none⟩ = some (.int .i64 g) ∧ w'.cell? ⟨w.heap.size, 1, none⟩ = some (.int .i64 t) ∧ w'.cell? ⟨w.heap.size, 2, none⟩ = some (.int .i64 e) ∧ w'.cell? ⟨w.heap.size, 3, none⟩ = some (.int .i64 c))
      (first | go_keep)
      (first
        | (go_at_call 95; refine (swidths_any _).mono ?_; rintro en w2 ⟨rfl, rfl⟩)
        | (go_at_call 94; refine (pack_any _ _ [8, 4, 4, 8] [g, t, e, c] _ (RdI.block _ 3 (0, 0) 4 rfl (by decide) (by first | exact heap_alloc2_old _ _ _ | exact heap_alloc2_new _ _ _)) (RdI.block _ 3 (0, 0) 4 rfl (by intro x hx; simp at hx; have := HI.out; omega) (by first | exact heap_alloc2_old _ _ _ | exact heap_alloc2_new _ _ _)) (by simp)).mono ?_; rintro en w3 ⟨rfl, hb3⟩; have hbb := Below.trans ((((Below.refl w1.heap.size w1).alloc (Nat.le_refl _) _).alloc (by simp) _).drew) (hb3.mono (by simp; omega)); clear hb3; have k0 := (hbb.cell (p := ⟨w.heap.size, 0, none⟩) hz1).trans c0; have k1' := (hbb.cell (p := ⟨w.heap.size, 1, none⟩) hz1).trans c1; have k2 := (hbb.cell (p := ⟨w.heap.size, 2, none⟩) hz1).trans c2; have k3 := (hbb.cell (p := ⟨w.heap.size, 3, none⟩) hz1).trans c3; have k4 := (hbb.cell (p := ⟨w.heap.size, 4, none⟩) hz1).trans c4; have k5 := (hbb.cell (p := ⟨w.heap.size, 5, none⟩) hz1).trans c5; have k6 := (hbb.cell (p := ⟨w.heap.size, 6, none⟩) hz1).trans c6; have hB3 := Lib.hid (hB1.trans (hbb.mono hB1.size)); clear hbb))
    all_goals
      simp only [HV.out.1, HV.out.2.1]
      clear k1 hB1 hz1 c0 c1 c2 c3 c4 c5 c6
      go_wp2_with fail
      refine (gput_any b l f _ HB.out ⟨HL.out.1, HL.out.2.1⟩ HL.out.2.2).mono ?_
      rintro en w4 ⟨rfl, hb4⟩
      rw [HV.out.2.2.1, HV.out.2.2.2.1]
      have H4 := Lib.hid (hB3.out.trans (hb4.mono hB3.out.size))
      clear hb4
      go_wp2_with fail
      refine (sum1_any _ _ w4 (by simp [hNz, hGz]; decide)).mono ?_
      rintro en w5 ⟨rfl, hb5⟩
      rw [HV.out.2.2.2.2.1]
      have H5 := Lib.hid (H4.out.trans (hb5.mono H4.out.size))
      clear hb5
      go_wp2_with fail
      refine (fill_any _ _ _).mono ?_
      rintro en w6 ⟨rfl, hb6⟩
      rw [HV.out.2.2.2.2.2.1, HV.out.2.2.2.2.2.2]
      have H6 := Lib.hid (H5.out.trans (hb6.mono H5.out.size))
      clear hb6
      go_wp2
      exact HR.out _ _ ⟨by rw [HE.out] <;> rfl, H6.out⟩
end Go.Proofs.YteppfjgglelpbaaGreat
/- The next superblock; what a call may be: of the program's journal. -/
set_option maxRecDepth 100000
namespace Go.Proofs.YteppfjgglelpbaaGreat
open Go.RowKit Ks
set_option linter.unusedVariables false
set_option linter.unusedSimpArgs false
theorem eg_gsuper : ∀ args w, (callFunc 75 args).run Tryz.prog w = .ok (.enter 75 args) w := fun _ _ => rfl
theorem eg_gkey : ∀ args w, (callFunc 40 args).run Tryz.prog w = .ok (.enter 40 args) w := fun _ _ => rfl
theorem sup_one (a b c d e f g : Int) : (#[.int .i64 a, .int .i64 b, .int .i64 c, .int .i64 d, .int .i64 e, .int .i64 f, .int .i64 g] : Array Value).all (fun v => v.oneCell') = true := by simp [Value.oneCell']
theorem blk7j {w : World} {b : Nat} {c0 c1 c2 c3 c4 c5 c6 : Value} {T : TypeId} (h : w.heap[b]? = some (.cells #[c0, c1, c2, c3, c4, c5, c6] T (0, 0))) : (w.cell? ⟨b, 0, none⟩ = some c0 ∧ w.cell? ⟨b, 1, none⟩ = some c1 ∧ w.cell? ⟨b, 2, none⟩ = some c2 ∧ w.cell? ⟨b, 3, none⟩ = some c3 ∧ w.cell? ⟨b, 4, none⟩ = some c4 ∧ w.cell? ⟨b, 5, none⟩ = some c5 ∧ w.cell? ⟨b, 6, none⟩ = some c6) ∧ ∀ o, w.frozen? ⟨b, o, none⟩ = false :=
  ⟨⟨by rw [cell_of_row w b 0 _ _ _ h]; rfl, by rw [cell_of_row w b 1 _ _ _ h]; rfl, by rw [cell_of_row w b 2 _ _ _ h]; rfl, by rw [cell_of_row w b 3 _ _ _ h]; rfl, by rw [cell_of_row w b 4 _ _ _ h]; rfl, by rw [cell_of_row w b 5 _ _ _ h]; rfl, by rw [cell_of_row w b 6 _ _ _ h]; rfl⟩, fun o => frozen_of_row w b o _ _ h⟩
theorem jready_any {jn dn : Nat} {spv vb vc : Value} {s : SupT} {br : Bool} {d : DS} (w : World) (h : JHd w jn spv dn vb vc s br d) : Calls Tryz.prog 31 #[.pointer (some ⟨jn, 0, none⟩)] w fun e w' => e = .returned (.int .i64 (if br then 14 else 0)) ∧ w' = w := by
  refine calls_by fun R HR => ?_
  obtain ⟨⟨z0, z1, z2, z3, z4, z5, z6, z7, z8, z9⟩, -⟩ := blkJ h.blk
  clear h
  cases br
  all_goals
    go_enter Tryz.func31, Tryz.ntmps31
    go_wp2
    exact HR.out _ _ ⟨rfl, rfl⟩
theorem jplace_any {jn dn : Nat} {spv vb vc : Value} {s : SupT} {br : Bool} {d : DS} (i : Int) (w : World) (h : JHd w jn spv dn vb vc s br d) (hb : -9223372036854775808 ≤ s.b ∧ s.b ≤ 9223372036854775807) : Calls Tryz.prog 35 #[.pointer (some ⟨jn, 0, none⟩), .int .i64 i] w fun e w' => e = .returned (.int .i64 (placeG s i)) ∧ Below w.heap.size w w' := by
  refine calls_by fun R HR => ?_
  have HP := Lib.hid (gplace_any s i w hb)
  generalize placeG s i = PG at *
  obtain ⟨⟨z0, z1, z2, z3, z4, z5, z6, z7, z8, z9⟩, -⟩ := blkJ h.blk
  clear h hb
  go_enter Tryz.func35, Tryz.ntmps35
  go_wp2_with fail
  refine HP.out.mono ?_
  rintro en v1 ⟨e, rfl, hb⟩
  have H1 := Lib.hid hb
  clear hb
  go_wp2
  exact HR.out _ _ ⟨rfl, H1.out⟩
theorem eg_jplace : ∀ args w, (callFunc 35 args).run Tryz.prog w = .ok (.enter 35 args) w := fun _ _ => rfl
theorem jtime_any {jn dn : Nat} {spv vb vc : Value} {s : SupT} {br : Bool} {d : DS} (c : Int) (w : World) (h : JHd w jn spv dn vb vc s br d) : Calls Tryz.prog 36 #[.pointer (some ⟨jn, 0, none⟩), .int .i64 c] w fun e w' => e = .returned (.bool (decide (s.clock ≤ c ∧ c ≤ 1099511627776))) ∧ w' = w := by
  refine calls_by fun R HR => ?_
  have HP : Hid (decide (s.clock ≤ c ∧ c ≤ 1099511627776) = (decide (s.clock ≤ c) && decide (c ≤ 1099511627776))) := Lib.hid (by simp)
  generalize decide (s.clock ≤ c ∧ c ≤ 1099511627776) = D at *
  obtain ⟨⟨z0, z1, z2, z3, z4, z5, z6, z7, z8, z9⟩, -⟩ := blkJ h.blk
  clear h
  cases h1 : decide (s.clock ≤ c)
  all_goals cases h2 : decide (c ≤ 1099511627776)
  all_goals
    have HZ := Lib.hid (HP.out)
    rw [h1, h2] at HZ
    simp only [Bool.and_false, Bool.and_true, Bool.false_and, Bool.true_and] at HZ
    go_enter Tryz.func36, Tryz.ntmps36
    go_wp2
    exact HR.out _ _ ⟨by rw [HZ.out] <;> rfl, rfl⟩
/-- the next superblock, as a value -/
def nextV (s : SupT) (u c : Int) : Value := if nextE s = 0 then supV (s.gen + 1) u s.epoch c s.b s.l s.f else supV 0 0 0 0 0 0 0
theorem nxE_eq (s : SupT) : nxE s.gen s.tail s.epoch s.clock s.b s.l s.f = nextE s := rfl
set_option maxRecDepth 100000 in
set_option maxHeartbeats 8000000 in
theorem jnext_any {jn dn sn : Nat} {vb vc : Value} {s : SupT} {br : Bool} {d : DS} {u : Int} (c : Int) (w : World) (h : JHd w jn (.pointer (some ⟨sn, 0, none⟩)) dn vb vc s br d) (hs : SpAt w sn s u) (hb : 0 < s.b ∧ s.b ≤ 9223372036854775807) :
    Calls Tryz.prog 42 #[.pointer (some ⟨jn, 0, none⟩), .int .i64 c] w fun e w' => e = .returned (.tuple #[nextV s u c, .int .i64 (nextE s)]) ∧ Below w.heap.size w w' := by
  refine calls_by fun R HR => ?_
  have HD := Lib.hid h
  have HS := Lib.hid hs
  have HN := Lib.hid (fun w => snext_any s.gen s.tail s.epoch s.clock s.b s.l s.f w (by omega))
  have HU := Lib.hid (fun w (h : SpAt w sn s u) => spused_any w h hb.1)
  have HV : Hid (nextV s u c = if nextE s = 0 then supV (s.gen + 1) u s.epoch c s.b s.l s.f else supV 0 0 0 0 0 0 0) := Lib.hid rfl
  have HX : Hid (nxV s.gen s.tail s.epoch s.clock s.b s.l s.f = if nextE s = 0 then supV (s.gen + 1) s.tail s.epoch s.clock s.b s.l s.f else supV 0 0 0 0 0 0 0) := Lib.hid rfl
  simp only [nxE_eq] at HN
  generalize nextV s u c = NV at *
  generalize nxV s.gen s.tail s.epoch s.clock s.b s.l s.f = XV at *
  generalize nextE s = NE at *
  clear h hs hb
  have H1 := Lib.hid (And.intro (Below.refl w.heap.size w) (And.intro (HD.out) (HS.out)))
  obtain ⟨W1, hW1⟩ : ∃ W1, w.alloc (.cells #[.int .i64 0, .int .i64 0, .int .i64 0, .int .i64 0, .int .i64 0, .int .i64 0, .int .i64 0] 29) = W1 := ⟨_, rfl⟩
  have hbW1 : Below w.heap.size w W1 := by rw [← hW1]; exact alloc_below w _
  have kW1 : W1.heap[w.heap.size]? = some (.cells #[.int .i64 0, .int .i64 0, .int .i64 0, .int .i64 0, .int .i64 0, .int .i64 0, .int .i64 0] 29 (0, 0)) := by rw [← hW1]; exact alloc_new w _
  have H2 := Lib.hid (And.intro (H1.out.1.trans (hbW1.mono H1.out.1.size)) (And.intro (H1.out.2.1.below hbW1) (And.intro (H1.out.2.2.below hbW1) (kW1))))
  clear hbW1 kW1
  have HF := Lib.hid (show W1.heap.size = w.heap.size + 1 by rw [← hW1]; simp)
  obtain ⟨⟨z0, z1, z2, z3, z4, z5, z6, z7, z8, z9⟩, -⟩ := blkJ H2.out.2.1.blk
  go_enter Tryz.func42, Tryz.ntmps42
  go_wp2_with fail
  refine (HN.out _).mono ?_
  rintro en v1 ⟨rfl, hb⟩
  have HSZ := Lib.hid hb.size
  have H3 := Lib.hid (And.intro (H2.out.1.trans (hb.mono H2.out.1.size)) (And.intro (H2.out.2.1.below hb) (And.intro (H2.out.2.2.1.below hb) (blk_on hb H2.out.2.2.2))))
  clear hb
  clear hW1 z0 z1 z2 z3 z4 z5 z6 z7 z8 z9
  have HB1 := Lib.hid (show W1.heap.size ≤ v1.heap.size from HSZ.out)
  by_cases h0 : NE = 0
  case neg =>
    have h0b : (NE != 0) = true := by simpa using h0
    have HZ := Lib.hid (show NV = supV 0 0 0 0 0 0 0 by rw [HV.out, if_neg h0])
    have HXV := Lib.hid (show XV = supV 0 0 0 0 0 0 0 by rw [HX.out, if_neg h0])
    rw [HXV.out]
    clear HV HX HXV h0
    obtain ⟨W2, hW2⟩ : ∃ W2, v1.alloc (.cells #[.int .i64 0, .int .i64 0, .int .i64 0, .int .i64 0, .int .i64 0, .int .i64 0, .int .i64 0] 29) = W2 := ⟨_, rfl⟩
    have hbW2 : Below v1.heap.size v1 W2 := by rw [← hW2]; exact alloc_below v1 _
    have kW2 : W2.heap[v1.heap.size]? = some (.cells #[.int .i64 0, .int .i64 0, .int .i64 0, .int .i64 0, .int .i64 0, .int .i64 0, .int .i64 0] 29 (0, 0)) := by rw [← hW2]; exact alloc_new v1 _
    have H4 := Lib.hid (And.intro (H3.out.1.trans (hbW2.mono H3.out.1.size)) (And.intro (H3.out.2.1.below hbW2) (And.intro (H3.out.2.2.1.below hbW2) (And.intro (blk_on hbW2 H3.out.2.2.2) (kW2)))))
    clear hbW2 kW2
    have EW := Lib.hid hW2
    clear hW2
    go_upto_region 3 with fail
    rw [EW.out]
    obtain ⟨⟨x0, x1, x2, x3, x4, x5, x6⟩, -⟩ := blk7j H4.out.2.2.2.2
    obtain ⟨WR, hWR⟩ : ∃ W, W2.setRow w.heap.size #[.int .i64 0, .int .i64 0, .int .i64 0, .int .i64 0, .int .i64 0, .int .i64 0, .int .i64 0] = W := ⟨_, rfl⟩
    have KE := Lib.hid (show WR.heap[w.heap.size]? = some (.cells #[.int .i64 0, .int .i64 0, .int .i64 0, .int .i64 0, .int .i64 0, .int .i64 0, .int .i64 0] 29 (0, 0)) by rw [← hWR]; exact setRow_heap W2 _ _ _ _ _ H4.out.2.2.2.1)
    have BE := Lib.hid (show Below w.heap.size w WR by rw [← hWR]; exact below_setRow H4.out.1 (Nat.le_refl _) _)
    go_wp2_with (refine wpList_store_blk rfl 29 (.tmp 4) (.tmp 18) rfl w.heap.size 0 7 rfl #[.int .i64 0, .int .i64 0, .int .i64 0, .int .i64 0, .int .i64 0, .int .i64 0, .int .i64 0] #[.int .i64 0, .int .i64 0, .int .i64 0, .int .i64 0, .int .i64 0, .int .i64 0, .int .i64 0] #[.int .i64 0, .int .i64 0, .int .i64 0, .int .i64 0, .int .i64 0, .int .i64 0, .int .i64 0] rfl 29 H4.out.2.2.2.1 rfl (Nat.le_refl 7) (by kernel_rfl) (sup_one _ _ _ _ _ _ _) (splice_all _ _ rfl) ?_; rw [hWR])
    obtain ⟨⟨y0, y1, y2, y3, y4, y5, y6⟩, -⟩ := blk7j KE.out
    refine bodyPost_ret (v := .tuple #[.agg #[.int .i64 0, .int .i64 0, .int .i64 0, .int .i64 0, .int .i64 0, .int .i64 0, .int .i64 0], .int .i64 NE]) (by simp [results, Tryz.results42, go_sem, y0, y1, y2, y3, y4, y5, y6]) rfl ?_
    exact HR.out _ _ ⟨by rw [HZ.out], BE.out⟩
  subst h0
  have HZ := Lib.hid (show NV = supV (s.gen + 1) u s.epoch c s.b s.l s.f by rw [HV.out]; exact if_pos (by trivial))
  have HXV := Lib.hid (show XV = supV (s.gen + 1) s.tail s.epoch s.clock s.b s.l s.f by rw [HX.out]; exact if_pos (by trivial))
  rw [HXV.out]
  clear HV HX HXV
  obtain ⟨W2, hW2⟩ : ∃ W2, v1.alloc (.cells #[.int .i64 (s.gen + 1), .int .i64 s.tail, .int .i64 s.epoch, .int .i64 s.clock, .int .i64 s.b, .int .i64 s.l, .int .i64 s.f] 29) = W2 := ⟨_, rfl⟩
  have hbW2 : Below v1.heap.size v1 W2 := by rw [← hW2]; exact alloc_below v1 _
  have kW2 : W2.heap[v1.heap.size]? = some (.cells #[.int .i64 (s.gen + 1), .int .i64 s.tail, .int .i64 s.epoch, .int .i64 s.clock, .int .i64 s.b, .int .i64 s.l, .int .i64 s.f] 29 (0, 0)) := by rw [← hW2]; exact alloc_new v1 _
  have H4 := Lib.hid (And.intro (H3.out.1.trans (hbW2.mono H3.out.1.size)) (And.intro (H3.out.2.1.below hbW2) (And.intro (H3.out.2.2.1.below hbW2) (And.intro (blk_on hbW2 H3.out.2.2.2) (kW2)))))
  clear hbW2 kW2
  obtain ⟨⟨z0, z1, z2, z3, z4, z5, z6, z7, z8, z9⟩, -⟩ := blkJ H4.out.2.1.blk
  go_wp2_with fail
  refine (HU.out _ H4.out.2.2.1).mono ?_
  rintro en y9 ⟨rfl, hw⟩
  rw [hw]
  clear hw y9 hW2 z0 z1 z2 z3 z4 z5 z6 z7 z8 z9
  obtain ⟨⟨x0, x1, x2, x3, x4, x5, x6⟩, fx⟩ := blk7j H4.out.2.2.2.2
  have fx1 := fx 1
  have fx3 := fx 3
  clear fx
  skip
  have hlow : w.heap.size < v1.heap.size := by have := HF.out; have := HB1.out; omega
  have hlw : w.heap.size ≠ v1.heap.size := by omega
  obtain ⟨P0, hP0⟩ : ∃ W, W2.setCell ⟨v1.heap.size, 1, none⟩ (.int .i64 u) = W := ⟨_, rfl⟩
  have q1 : Below w.heap.size w P0 := by rw [← hP0]; exact H4.out.1.setCell (p := ⟨_, _, none⟩) (Nat.le_of_lt hlow) _
  have q2 : P0.heap[w.heap.size]? = some (.cells #[.int .i64 0, .int .i64 0, .int .i64 0, .int .i64 0, .int .i64 0, .int .i64 0, .int .i64 0] 29 (0, 0)) := by rw [← hP0]; exact (set_ne _ hlw).trans H4.out.2.2.2.1
  have q3 : P0.heap[v1.heap.size]? = some (.cells #[.int .i64 (s.gen + 1), .int .i64 u, .int .i64 s.epoch, .int .i64 s.clock, .int .i64 s.b, .int .i64 s.l, .int .i64 s.f] 29 (0, 0)) := by rw [← hP0]; exact set_blk H4.out.2.2.2.2 1 _
  obtain ⟨P, hP⟩ : ∃ W, P0.setCell ⟨v1.heap.size, 3, none⟩ (.int .i64 c) = W := ⟨_, rfl⟩
  have p1 : Below w.heap.size w P := by rw [← hP]; exact q1.setCell (p := ⟨_, _, none⟩) (Nat.le_of_lt hlow) _
  have p2 : P.heap[w.heap.size]? = some (.cells #[.int .i64 0, .int .i64 0, .int .i64 0, .int .i64 0, .int .i64 0, .int .i64 0, .int .i64 0] 29 (0, 0)) := by rw [← hP]; exact (set_ne _ hlw).trans q2
  have p3 : P.heap[v1.heap.size]? = some (.cells #[.int .i64 (s.gen + 1), .int .i64 u, .int .i64 s.epoch, .int .i64 c, .int .i64 s.b, .int .i64 s.l, .int .i64 s.f] 29 (0, 0)) := by rw [← hP]; exact set_blk q3 3 _
  have HP := Lib.hid (And.intro p1 (And.intro p2 p3))
  clear hlow hlw p1 p2 p3 q1 q2 q3
  rw [← hP0] at hP
  have EP := Lib.hid hP
  clear hP hP0
  go_upto_region 5 with fail
  try rw [EP.out]
  clear x0 x1 x2 x3 x4 x5 x6 fx1 fx3
  obtain ⟨⟨x0, x1, x2, x3, x4, x5, x6⟩, -⟩ := blk7j HP.out.2.2
  obtain ⟨WR, hWR⟩ : ∃ W, P.setRow w.heap.size #[.int .i64 (s.gen + 1), .int .i64 u, .int .i64 s.epoch, .int .i64 c, .int .i64 s.b, .int .i64 s.l, .int .i64 s.f] = W := ⟨_, rfl⟩
  have KE := Lib.hid (show WR.heap[w.heap.size]? = some (.cells #[.int .i64 (s.gen + 1), .int .i64 u, .int .i64 s.epoch, .int .i64 c, .int .i64 s.b, .int .i64 s.l, .int .i64 s.f] 29 (0, 0)) by rw [← hWR]; exact setRow_heap P _ _ _ _ _ HP.out.2.1)
  have BE := Lib.hid (show Below w.heap.size w WR by rw [← hWR]; exact below_setRow HP.out.1 (Nat.le_refl _) _)
  go_wp2_with (refine wpList_store_blk rfl 29 (.tmp 4) (.tmp 28) rfl w.heap.size 0 7 rfl #[.int .i64 0, .int .i64 0, .int .i64 0, .int .i64 0, .int .i64 0, .int .i64 0, .int .i64 0] #[.int .i64 (s.gen + 1), .int .i64 u, .int .i64 s.epoch, .int .i64 c, .int .i64 s.b, .int .i64 s.l, .int .i64 s.f] #[.int .i64 (s.gen + 1), .int .i64 u, .int .i64 s.epoch, .int .i64 c, .int .i64 s.b, .int .i64 s.l, .int .i64 s.f] rfl 29 HP.out.2.1 rfl (Nat.le_refl 7) (by kernel_rfl) (sup_one _ _ _ _ _ _ _) (splice_all _ _ rfl) ?_; rw [hWR])
  obtain ⟨⟨y0, y1, y2, y3, y4, y5, y6⟩, -⟩ := blk7j KE.out
  refine bodyPost_ret (v := .tuple #[.agg #[.int .i64 (s.gen + 1), .int .i64 u, .int .i64 s.epoch, .int .i64 c, .int .i64 s.b, .int .i64 s.l, .int .i64 s.f], .int .i64 0]) (by simp [results, Tryz.results42, go_sem, y0, y1, y2, y3, y4, y5, y6]) rfl ?_
  exact HR.out _ _ ⟨by rw [HZ.out] <;> rfl, BE.out⟩
end Go.Proofs.YteppfjgglelpbaaGreat
/- A superblock committed: of the program's journal. -/
set_option maxRecDepth 100000
namespace Go.Proofs.YteppfjgglelpbaaGreat
open Go.RowKit Ks
set_option linter.unusedVariables false
set_option linter.unusedSimpArgs false
set_option maxRecDepth 100000 in
set_option maxHeartbeats 8000000 in
theorem jcommit_any {jn dn : Nat} {spv vb vc : Value} {s : SupT} {br : Bool} {d : DS} (s2 : SupT) (u : Int) (w : World) (h : JHd w jn spv dn vb vc s br d) (hb : -9223372036854775808 ≤ s2.b ∧ s2.b ≤ 9223372036854775807) :
    Calls Tryz.prog 43 #[.pointer (some ⟨jn, 0, none⟩), .agg #[.int .i64 s2.gen, .int .i64 s2.tail, .int .i64 s2.epoch, .int .i64 s2.clock, .int .i64 s2.b, .int .i64 s2.l, .int .i64 s2.f]] w fun e w' => e = .returned (.int .i64 (commitE ⟨d, s, u, br⟩ s2)) ∧ ∃ vc', JHd w' jn spv dn vb vc' (commitJ ⟨d, s, u, br⟩ s2).last (commitJ ⟨d, s, u, br⟩ s2).broken (commitJ ⟨d, s, u, br⟩ s2).d ∧ Turn w w' (FJ jn dn vb vc) (FJ jn dn vb vc') := by
  refine calls_by fun R HR => ?_
  have HD := Lib.hid h
  have HPu := Lib.hid (fun w => sput_any s2.gen s2.tail s2.epoch s2.clock s2.b s2.l s2.f w hb)
  have HE : Hid (commitE ⟨d, s, u, br⟩ s2 = if sE s2 ≠ 0 then sE s2 else stepsE d (commitL s2)) := Lib.hid rfl
  have HJ : Hid (commitJ ⟨d, s, u, br⟩ s2 = if sE s2 ≠ 0 then ⟨d, s, u, br⟩ else if stepsE d (commitL s2) ≠ 0 then ⟨stepsD d (commitL s2), s, u, br || decide (stepsE d (commitL s2) ≠ 0)⟩ else ⟨stepsD d (commitL s2), s2, u, br || decide (stepsE d (commitL s2) ≠ 0)⟩) := Lib.hid rfl
  have HL : Hid (commitL s2 = [.wr (supP s2.gen) (sS s2), .fl]) := Lib.hid rfl
  rw [show supS s2.gen s2.tail s2.epoch s2.clock s2.b s2.l s2.f = sS s2 from rfl, show supE s2.gen s2.tail s2.epoch s2.clock s2.b s2.l s2.f = sE s2 from rfl] at HPu
  generalize commitE ⟨d, s, u, br⟩ s2 = CE at *
  generalize commitJ ⟨d, s, u, br⟩ s2 = CJ at *
  generalize sE s2 = PE at *
  generalize hSS : sS s2 = SS at *
  have HSS := Lib.hid hSS
  rw [HL.out] at HE HJ
  clear h hb hSS
  have H1 := Lib.hid (And.intro (Below.refl w.heap.size w) (HD.out))
  obtain ⟨W1, hW1⟩ : ∃ W1, w.alloc (.cells #[.int .i64 s2.gen, .int .i64 s2.tail, .int .i64 s2.epoch, .int .i64 s2.clock, .int .i64 s2.b, .int .i64 s2.l, .int .i64 s2.f] 29) = W1 := ⟨_, rfl⟩
  have hbW1 : Below w.heap.size w W1 := by rw [← hW1]; exact alloc_below w _
  have kW1 : W1.heap[w.heap.size]? = some (.cells #[.int .i64 s2.gen, .int .i64 s2.tail, .int .i64 s2.epoch, .int .i64 s2.clock, .int .i64 s2.b, .int .i64 s2.l, .int .i64 s2.f] 29 (0, 0)) := by rw [← hW1]; exact alloc_new w _
  have H2 := Lib.hid (And.intro (H1.out.1.trans (hbW1.mono H1.out.1.size)) (And.intro (H1.out.2.below hbW1) (kW1)))
  clear hbW1 kW1
  have s1 := Lib.hid (show w.heap.size < W1.heap.size from lt_of_block H2.out.2.2)
  obtain ⟨⟨x0, x1, x2, x3, x4, x5, x6⟩, -⟩ := blk7j H2.out.2.2
  go_enter Tryz.func43, Tryz.ntmps43
  go_wp2_with fail
  refine (HPu.out _).mono ?_
  rintro en v1 ⟨rfl, hb⟩
  have H3 := Lib.hid (And.intro (H2.out.1.trans (hb.mono H2.out.1.size)) (And.intro (H2.out.2.1.below hb) (blk_on hb H2.out.2.2)))
  clear hb
  clear hW1 x0 x1 x2 x3 x4 x5 x6
  by_cases h0 : PE = 0
  case neg =>
    have h0b : (PE != 0) = true := by simpa using h0
    have HZ := Lib.hid (show CE = PE by rw [HE.out, if_pos h0])
    have HZ2 := Lib.hid (show CJ = ⟨d, s, u, br⟩ by rw [HJ.out, if_pos h0])
    clear HE HJ h0
    go_wp2
    exact HR.out _ _ ⟨by rw [HZ.out] <;> rfl, vc, by rw [HZ2.out]; exact H3.out.2.1, Turn.of_below _ H3.out.1⟩
  subst h0
  obtain ⟨⟨x0, x1, x2, x3, x4, x5, x6⟩, -⟩ := blk7j H3.out.2.2
  go_upto_region 4 with fail
  have hns : ¬ FJ jn dn vb vc w.heap.size := fun q => by have := HD.out.lt _ q; omega
  have hls : w.heap.size < v1.heap.size := lt_of_block H3.out.2.2
  refine wp_region_mv (fun f => StpQ v1 jn spv dn vb vc s br d (.wr (supP s2.gen) (SS)) (.fl) [.wr (supP s2.gen) (SS), .fl] (f 6) none (f 12) (f 13)) (by kernel_rfl) (StpQ.start H3.out.2.1) ?_
  obtain ⟨S, F, hF, hFC⟩ := moved_class (fun f => StpQ v1 jn spv dn vb vc s br d (.wr (supP s2.gen) (SS)) (.fl) [.wr (supP s2.gen) (SS), .fl] (f 6) none (f 12) (f 13))
  have kd : ∀ s, (F s).cell? ⟨jn, 1, none⟩ = some (.pointer (some ⟨dn, 0, none⟩)) := fun s => (StpQ.dsk H3.out.2.1 (hFC s).choose_spec).1
  have ks : ∀ s, (F s).cell? ⟨jn, 0, none⟩ = some (spv) := fun s => (StpQ.dsk H3.out.2.1 (hFC s).choose_spec).2
  have kx0 : ∀ s, (F s).cell? ⟨w.heap.size, 0, none⟩ = some (.int .i64 s2.gen) := fun s => StpQ.cell (hFC s).choose_spec hns hls x0
  show wpAnyM _ _ _ _ _ 15 (Array.replicate 15 false) _ _
  refine mv_read 0 hF (fun _ _ _ h => h) rfl (by kernel_rfl) (by kernel_rfl) (by kernel_rfl) (fun K hK => ?_)
  go_simp
  first | refine ⟨_, fun _ => rfl, hK _ _ ?_⟩ | refine hK _ _ ?_
  clear hK K
  refine mv_read 1 hF (fun _ _ _ h => h) rfl (by kernel_rfl) (by kernel_rfl) (by kernel_rfl) (fun K hK => ?_)
  go_simp
  first | refine ⟨_, fun _ => rfl, hK _ _ ?_⟩ | refine hK _ _ ?_
  clear hK K
  refine mv_read 2 hF (fun _ _ _ h => h) rfl (by kernel_rfl) (by kernel_rfl) (by kernel_rfl) (fun K hK => ?_)
  go_simp
  first | refine ⟨_, fun _ => rfl, hK _ _ ?_⟩ | refine hK _ _ ?_
  clear hK K
  refine mv_read 3 hF (fun _ _ _ h => h) rfl (by kernel_rfl) (by kernel_rfl) (by kernel_rfl) (fun K hK => ?_)
  go_simp
  first | refine ⟨_, fun _ => rfl, hK _ _ ?_⟩ | refine hK _ _ ?_
  clear hK K
  refine mv_read 5 hF (fun _ _ _ h => h) rfl (by kernel_rfl) (by kernel_rfl) (by kernel_rfl) (fun K hK => ?_)
  go_simp
  first | refine ⟨_, fun _ => rfl, hK _ _ ?_⟩ | refine hK _ _ ?_
  clear hK K
  refine mv_read 7 hF (fun _ _ _ h => h) rfl (by kernel_rfl) (by kernel_rfl) (by kernel_rfl) (fun K hK => ?_)
  go_simp
  first | refine ⟨_, fun _ => rfl, hK _ _ ?_⟩ | refine hK _ _ ?_
  clear hK K
  refine mv_read 8 hF (fun _ _ _ h => h) rfl (by kernel_rfl) (by kernel_rfl) (by kernel_rfl) (fun K hK => ?_)
  go_simp
  first | refine ⟨_, fun _ => rfl, hK _ _ ?_⟩ | refine hK _ _ ?_
  clear hK K
  refine mv_read 9 hF (fun _ _ _ h => h) rfl (by kernel_rfl) (by kernel_rfl) (by kernel_rfl) (fun K hK => ?_)
  go_simp
  first | refine ⟨_, fun _ => rfl, hK _ _ ?_⟩ | refine hK _ _ ?_
  clear hK K
  refine mv_read 10 hF (fun _ _ _ h => h) rfl (by kernel_rfl) (by kernel_rfl) (by kernel_rfl) (fun K hK => ?_)
  go_simp
  first | refine ⟨_, fun _ => rfl, hK _ _ ?_⟩ | refine hK _ _ ?_
  clear hK K
  refine mv_read 11 hF (fun _ _ _ h => h) rfl (by kernel_rfl) (by kernel_rfl) (by kernel_rfl) (fun K hK => ?_)
  go_simp
  first | refine ⟨_, fun _ => rfl, hK _ _ ?_⟩ | refine hK _ _ ?_
  clear hK K
  refine mv_call 4 75 rfl (by kernel_rfl) rfl rfl eg_gsuper (args := #[.int .i64 s2.gen]) rfl (fun v => v = .int .i64 (supP s2.gen)) (fun g w9 ha h0 h => ?_) ?_
  · obtain ⟨hz9, vc9, br9, d9, hj9⟩ := StpQ.jhd H3.out.2.1 h
    refine ((gsuper_any s2.gen w9).mono (R' := fun e w' => e = .returned (.int .i64 (supP s2.gen)) ∧ Below w9.heap.size w9 w') fun e w' ⟨q1, q2⟩ => ⟨q1, by rw [q2]; exact Below.refl _ _⟩).mono ?_
    rintro en w8 ⟨q1, q2⟩
    exact ⟨_, q1, rfl, StpQ.on h q2⟩
  rintro _ rfl
  refine mv_call 6 34 rfl (by kernel_rfl) rfl rfl eg_jwrite (args := #[.pointer (some ⟨jn, 0, none⟩), .int .i64 (supP s2.gen), .string (SS)]) rfl (fun v => ∃ b0 b1 b2, v = wrV b0 b1 b2) (fun g w9 ha h0 h => ?_) ?_
  · simp only [h0] at h
    refine (jwrite_any jn (supP s2.gen) (SS) w9).mono ?_
    rintro en w8 ⟨q1, q2, q3, q4, q5, q6⟩
    refine ⟨_, q1, ⟨_, _, _, rfl⟩, ?_⟩
    show StpQ _ _ _ _ _ _ _ _ _ _ _ _ (upd g 6 _ 6) none (g 12) (g 13) _
    rw [upd_self]
    exact StpQ.one h q2 (StpQ.wr H3.out.2.1 h q4 q5 q6)
  rintro _ ⟨w10, w11, w12, rfl⟩
  refine mv_alone 12 rfl (by kernel_rfl) rfl (fun v => ∃ b, v = .slice (some ⟨b, 0, none⟩) 2 2) (fun g w9 ha h0 h D hD => ?_) ?_
  · skip
    have e6 : g 6 = some (wrV w10 w11 w12) := by have e := agree_on 6 ha (by kernel_rfl); exact e.trans rfl
    have h8 := h
    simp only [h0, e6] at h8
    have h7 := StpQ.built (C := #[.func (.func 64) #[] #[.pointer (some ⟨w10, 0, none⟩), .pointer (some ⟨w11, 0, none⟩), .pointer (some ⟨w12, 0, none⟩)], .func (.func 41) #[.pointer (some ⟨dn, 0, none⟩)] #[]]) (T := 43) H3.out.2.1 h8 (fun hc k x hx => by
      match k, hx with
      | 0, hx => cases hx; exact ⟨_, rfl, hc.s1 _ rfl⟩
      | 1, hx => cases hx; exact ⟨_, rfl, rfl⟩
      | k + 2, hx => exact absurd hx (by simp))
    have hD2 := hD _ _ ⟨_, rfl⟩ (show StpQ _ _ _ _ _ _ _ _ _ _ _ _ (g 6) none (upd g 12 _ 12) (g 13) _ by rw [upd_self, e6]; exact h7)
    clear hD h h7 h8
    go_simp
    exact hD2
  rintro _ ⟨sb, rfl⟩
  refine mv_call 13 33 rfl (by kernel_rfl) rfl rfl eg_jsteps (args := #[.pointer (some ⟨jn, 0, none⟩), .slice (some ⟨sb, 0, none⟩) 2 2]) rfl (fun v => v = .int .i64 (stepsE d [.wr (supP s2.gen) (SS), .fl])) (fun g w9 ha h0 h => ?_) ?_
  · have e12 : g 12 = some (.slice (some ⟨sb, 0, none⟩) 2 2) := by have e := agree_on 12 ha (by kernel_rfl); exact e.trans rfl
    simp only [h0, e12] at h
    refine (StpQ.steps H3.out.2.1 h (by simp)).mono ?_
    rintro en w8 ⟨q1, q2⟩
    refine ⟨_, q1, rfl, ?_⟩
    show StpQ _ _ _ _ _ _ _ _ _ _ _ _ (g 6) none (g 12) (upd g 13 _ 13) _
    rw [upd_self]
    exact q2
  rintro _ rfl
  refine mv_read 14 hF (fun _ _ _ h => h) rfl (by kernel_rfl) (by kernel_rfl) (by kernel_rfl) (fun K hK => ?_)
  go_simp
  first | refine ⟨_, fun _ => rfl, hK _ _ ?_⟩ | refine hK _ _ ?_
  clear hK K
  refine mv_end (by kernel_rfl) ?_
  intro y8 hy8
  have HY : Hid (StpP v1 jn spv dn vb vc s br d [.wr (supP s2.gen) (SS), .fl] y8) := Lib.hid (StpQ.done (v := .int .i64 (stepsE d [.wr (supP s2.gen) (SS), .fl])) hy8)
  clear hy8 hF hFC kd ks kx0
  obtain ⟨vc2, h1, h2⟩ := HY.out
  have HT := Lib.hid ((Turn.of_below (FJ jn dn vb vc) H3.out.1).trans h2)
  have HJ8 := Lib.hid h1
  have HA := Lib.hid (show y8.heap[w.heap.size]? = some (.cells #[.int .i64 s2.gen, .int .i64 s2.tail, .int .i64 s2.epoch, .int .i64 s2.clock, .int .i64 s2.b, .int .i64 s2.l, .int .i64 s2.f] 29 (0, 0)) from (h2.block _ hls hns).trans H3.out.2.2)
  clear HY h1 h2 hns hls x0 x1 x2 x3 x4 x5 x6
  generalize stepsE d [.wr (supP s2.gen) SS, .fl] = SE at *
  generalize stepsD d [.wr (supP s2.gen) SS, .fl] = SD at *
  obtain ⟨⟨z0, z1, z2, z3, z4, z5, z6, z7, z8, z9⟩, -⟩ := blkJ HJ8.out.blk
  obtain ⟨⟨x0, x1, x2, x3, x4, x5, x6⟩, -⟩ := blk7j HA.out
  by_cases h1 : SE = 0
  case neg =>
    have h1b : (SE != 0) = true := by simpa using h1
    have HZ := Lib.hid (show CE = SE by rw [HE.out]; exact if_neg (by simp))
    have HZ2 := Lib.hid (show CJ = ⟨SD, s, u, br || decide (SE ≠ 0)⟩ by rw [HJ.out, if_neg (by simp), if_pos h1])
    clear HE HJ h1
    go_wp2
    exact HR.out _ _ ⟨by rw [HZ.out] <;> rfl, vc2, by rw [HZ2.out]; exact HJ8.out, HT.out⟩
  subst h1
  have HZ := Lib.hid (show CE = 0 by rw [HE.out]; exact if_neg (by simp))
  have HZ2 := Lib.hid (show CJ = ⟨SD, s2, u, br || decide ((0 : Int) ≠ 0)⟩ by rw [HJ.out, if_neg (by simp), if_neg (by simp)])
  clear HE HJ
  obtain ⟨WR, hWR⟩ : ∃ W, y8.setRow jn #[spv, .pointer (some ⟨dn, 0, none⟩), .int .i64 s2.gen, .int .i64 s2.tail, .int .i64 s2.epoch, .int .i64 s2.clock, .int .i64 s2.b, .int .i64 s2.l, .int .i64 s2.f, .bool (br || decide ((0 : Int) ≠ 0))] = W := ⟨_, rfl⟩
  have KE := Lib.hid (show WR.heap[jn]? = some (.cells #[spv, .pointer (some ⟨dn, 0, none⟩), .int .i64 s2.gen, .int .i64 s2.tail, .int .i64 s2.epoch, .int .i64 s2.clock, .int .i64 s2.b, .int .i64 s2.l, .int .i64 s2.f, .bool (br || decide ((0 : Int) ≠ 0))] 31 (0, 0)) by rw [← hWR]; exact setRow_heap y8 _ _ _ _ _ HJ8.out.blk)
  have TE := Lib.hid (show Turn y8 WR (fun k => k = jn) (fun k => k = jn) by rw [← hWR]; exact Turn.row y8 (F := fun k => k = jn) jn _ rfl)
  have hsp : Ks.splice #[spv, .pointer (some ⟨dn, 0, none⟩), .int .i64 s.gen, .int .i64 s.tail, .int .i64 s.epoch, .int .i64 s.clock, .int .i64 s.b, .int .i64 s.l, .int .i64 s.f, .bool (br || decide ((0 : Int) ≠ 0))] 2 #[.int .i64 s2.gen, .int .i64 s2.tail, .int .i64 s2.epoch, .int .i64 s2.clock, .int .i64 s2.b, .int .i64 s2.l, .int .i64 s2.f] = #[spv, .pointer (some ⟨dn, 0, none⟩), .int .i64 s2.gen, .int .i64 s2.tail, .int .i64 s2.epoch, .int .i64 s2.clock, .int .i64 s2.b, .int .i64 s2.l, .int .i64 s2.f, .bool (br || decide ((0 : Int) ≠ 0))] := by simp [Ks.splice]
  go_wp2_with (refine wpList_store_blk rfl 29 (.tmp 36) (.tmp 34) rfl jn 2 7 rfl #[spv, .pointer (some ⟨dn, 0, none⟩), .int .i64 s.gen, .int .i64 s.tail, .int .i64 s.epoch, .int .i64 s.clock, .int .i64 s.b, .int .i64 s.l, .int .i64 s.f, .bool (br || decide ((0 : Int) ≠ 0))] #[.int .i64 s2.gen, .int .i64 s2.tail, .int .i64 s2.epoch, .int .i64 s2.clock, .int .i64 s2.b, .int .i64 s2.l, .int .i64 s2.f] #[spv, .pointer (some ⟨dn, 0, none⟩), .int .i64 s2.gen, .int .i64 s2.tail, .int .i64 s2.epoch, .int .i64 s2.clock, .int .i64 s2.b, .int .i64 s2.l, .int .i64 s2.f, .bool (br || decide ((0 : Int) ≠ 0))] rfl 31 HJ8.out.blk rfl (by show 9 ≤ 10; decide) (by kernel_rfl) (sup_one _ _ _ _ _ _ _) hsp ?_; rw [hWR])
  obtain ⟨hj, ht⟩ := JHd.set HJ8.out KE.out TE.out
  exact HR.out _ _ ⟨by rw [HZ.out] <;> rfl, vc2, by rw [HZ2.out]; exact hj, HT.out.trans ht⟩
end Go.Proofs.YteppfjgglelpbaaGreat
/- A live journal; a block appended, what was appended committed, the disk flushed: of the program. -/
set_option maxRecDepth 100000
namespace Go.Proofs.YteppfjgglelpbaaGreat
open Go.RowKit Ks
set_option linter.unusedVariables false
set_option linter.unusedSimpArgs false
/-- a journal that has a space and a disk -/
structure JLv (w : World) (jn sn dn : Nat) (vb vc : Value) (j : JrnT) : Prop where
  hd : JHd w jn (.pointer (some ⟨sn, 0, none⟩)) dn vb vc j.last j.broken j.d
  sp : SpAt w sn j.last j.used
  ns : ¬ FJ jn dn vb vc sn
/-- its blocks -/
def FL (jn sn dn : Nat) (vb vc : Value) (k : Nat) : Prop := k = sn ∨ FJ jn dn vb vc k
section
variable {w w' : World} {jn sn dn : Nat} {vb vc vc' : Value} {s : SupT} {br : Bool} {d : DS} {u : Int} {j : JrnT}
theorem JLv.lt (h : JLv w jn sn dn vb vc j) : ∀ k, FL jn sn dn vb vc k → k < w.heap.size := by
  rintro k (rfl | q)
  · exact lt_of_block h.sp
  · exact h.hd.lt k q
theorem JLv.keep (h : JLv w jn sn dn vb vc j) (hk : ∀ k, FL jn sn dn vb vc k → w'.heap[k]? = w.heap[k]?) : JLv w' jn sn dn vb vc j :=
  ⟨h.hd.keep fun k q => hk k (Or.inr q), (hk sn (Or.inl rfl)).trans h.sp, h.ns⟩
theorem JLv.below (h : JLv w jn sn dn vb vc j) (hb : Below w.heap.size w w') : JLv w' jn sn dn vb vc j := h.keep fun k q => hb.block k (h.lt k q)
theorem turn_sp (ht : Turn w w' (fun k => k = sn) (fun k => k = sn)) : Turn w w' (FL jn sn dn vb vc) (FL jn sn dn vb vc) :=
  ht.wide (fun k q => Or.inl q) fun k q => Or.inr (Or.inl q)
theorem turn_hd (ht : Turn w w' (FJ jn dn vb vc) (FJ jn dn vb vc')) : Turn w w' (FL jn sn dn vb vc) (FL jn sn dn vb vc') :=
  ht.wide (fun k q => Or.inr q) fun k q => by
    rcases q with q | q
    · exact Or.inr (Or.inl (Or.inl q))
    · rcases ht.foot k q with q | q
      · exact Or.inr (Or.inl (Or.inr q))
      · exact Or.inr (Or.inr q)
theorem sp_hd (hs : SpAt w sn s u) (hn : ¬ FJ jn dn vb vc sn) (ht : Turn w w' (FJ jn dn vb vc) (FJ jn dn vb vc')) : SpAt w' sn s u ∧ ¬ FJ jn dn vb vc' sn := by
  have hlt := lt_of_block hs
  refine ⟨(ht.block sn hlt hn).trans hs, fun q => ?_⟩
  rcases ht.foot sn q with q | q
  · exact hn q
  · omega
theorem hd_sp {spv : Value} (h : JHd w jn spv dn vb vc s br d) (hn : ¬ FJ jn dn vb vc sn) (ht : Turn w w' (fun k => k = sn) (fun k => k = sn)) : JHd w' jn spv dn vb vc s br d :=
  h.keep fun k q => ht.block k (h.lt k q) fun e => hn (e ▸ q)
end
theorem roomG_nonneg (s : SupT) (u : Int) : 0 ≤ roomG s u := by unfold roomG; split <;> omega
set_option maxRecDepth 100000 in
set_option maxHeartbeats 8000000 in
theorem jappend_any {jn sn dn : Nat} {vb vc : Value} {s : SupT} {br : Bool} {d : DS} {u : Int} (t : ByteArray) (w : World) (h : JHd w jn (.pointer (some ⟨sn, 0, none⟩)) dn vb vc s br d) (hs : SpAt w sn s u) (hn : ¬ FJ jn dn vb vc sn) (hb : 0 < s.b ∧ s.b ≤ 9223372036854775807) (hu : 0 ≤ u ∧ u ≤ 1000000) :
    Calls Tryz.prog 7 #[.pointer (some ⟨jn, 0, none⟩), .string t] w fun e w' => e = .returned (.tuple #[.int .i64 (appendI ⟨d, s, u, br⟩ t), .int .i64 (appendE ⟨d, s, u, br⟩ t)]) ∧ ∃ vc', JLv w' jn sn dn vb vc' (appendJ ⟨d, s, u, br⟩ t) ∧ Turn w w' (FL jn sn dn vb vc) (FL jn sn dn vb vc') := by
  refine calls_by fun R HR => ?_
  have HRd := Lib.hid (jready_any w h)
  have HTk := Lib.hid (sptake_any w hs hb hu)
  have HD := Lib.hid (And.intro h (And.intro hs (And.intro hn (And.intro hb (roomG_nonneg s u)))))
  have HE : Hid (appendE ⟨d, s, u, br⟩ t = if br then 14 else if t.size ≠ 4096 then 2 else if roomG s u = 0 then 5 else stepsE d [.wr (placeG s u) t]) := Lib.hid rfl
  have HI : Hid (appendI ⟨d, s, u, br⟩ t = if appendE ⟨d, s, u, br⟩ t = 0 then u else 0) := Lib.hid rfl
  have HJ : Hid (appendJ ⟨d, s, u, br⟩ t = if br = true ∨ t.size ≠ 4096 ∨ roomG s u = 0 then ⟨d, s, u, br⟩ else ⟨stepsD d [.wr (placeG s u) t], s, u + 1, br || decide (stepsE d [.wr (placeG s u) t] ≠ 0)⟩) := Lib.hid rfl
  generalize appendE ⟨d, s, u, br⟩ t = AE at *
  generalize appendI ⟨d, s, u, br⟩ t = AI at *
  generalize appendJ ⟨d, s, u, br⟩ t = AJ at *
  clear h hs hn hb hu
  cases br
  case true =>
    have HZ := Lib.hid (show AE = 14 by rw [HE.out]; rfl)
    have HZi := Lib.hid (show AI = 0 by rw [HI.out, HZ.out]; rfl)
    have HZj := Lib.hid (show AJ = ⟨d, s, u, true⟩ by rw [HJ.out]; exact if_pos (Or.inl rfl))
    clear HE HI HJ
    simp only [if_true] at HRd
    go_enter Tryz.func7, Tryz.ntmps7
    go_wp2_with fail
    refine HRd.out.mono ?_
    rintro en y9 ⟨rfl, hw⟩
    rw [hw]
    clear hw
    go_wp2
    exact HR.out _ _ ⟨by rw [HZ.out, HZi.out] <;> rfl, vc, by rw [HZj.out]; exact ⟨HD.out.1, HD.out.2.1, HD.out.2.2.1⟩, Turn.refl _ _⟩
  simp only [Bool.false_eq_true, if_false, false_or] at HRd HE HJ
  by_cases hz : t.size = 4096
  case neg =>
    have hzb : ((t.size : Int) != 4096) = true := by rw [bne_iff_ne]; omega
    have HZ := Lib.hid (show AE = 2 by rw [HE.out, if_pos hz])
    have HZi := Lib.hid (show AI = 0 by rw [HI.out, HZ.out]; rfl)
    have HZj := Lib.hid (show AJ = ⟨d, s, u, false⟩ by rw [HJ.out]; exact if_pos (Or.inl hz))
    clear HE HI HJ hz
    go_enter Tryz.func7, Tryz.ntmps7
    go_wp2_with fail
    refine HRd.out.mono ?_
    rintro en y9 ⟨rfl, hw⟩
    rw [hw]
    clear hw
    go_wp2
    exact HR.out _ _ ⟨by rw [HZ.out, HZi.out] <;> rfl, vc, by rw [HZj.out]; exact ⟨HD.out.1, HD.out.2.1, HD.out.2.2.1⟩, Turn.refl _ _⟩
  have hzb : ((t.size : Int) != 4096) = false := by rw [hz]; rfl
  obtain ⟨⟨z0, z1, z2, z3, z4, z5, z6, z7, z8, z9⟩, -⟩ := blkJ HD.out.1.blk
  by_cases hr : roomG s u = 0
  case pos =>
    have HZ := Lib.hid (show AE = 5 by rw [HE.out, if_neg (fun q => q hz), if_pos hr])
    have HZi := Lib.hid (show AI = 0 by rw [HI.out, HZ.out]; rfl)
    have HZj := Lib.hid (show AJ = ⟨d, s, u, false⟩ by rw [HJ.out]; exact if_pos (Or.inr hr))
    have e0 : decide (0 < roomG s u) = false := by rw [hr]; rfl
    rw [e0] at HTk
    simp only [Bool.false_eq_true, if_false] at HTk
    clear HE HI HJ hz hr e0
    go_enter Tryz.func7, Tryz.ntmps7
    go_wp2_with fail
    refine HRd.out.mono ?_
    rintro en y9 ⟨rfl, hw⟩
    rw [hw]
    clear hw
    go_wp2_with fail
    refine HTk.out.mono ?_
    rintro en v1 ⟨rfl, h1, h2⟩
    have H1 := Lib.hid (And.intro h1 h2)
    clear h1 h2
    go_wp2
    exact HR.out _ _ ⟨by rw [HZ.out, HZi.out] <;> rfl, vc, by rw [HZj.out]; exact ⟨hd_sp HD.out.1 HD.out.2.2.1 H1.out.2, H1.out.1, HD.out.2.2.1⟩, turn_sp H1.out.2⟩
  have HZ := Lib.hid (show AE = stepsE d [.wr (placeG s u) t] by rw [HE.out, if_neg (fun q => q hz), if_neg hr])
  have HZj := Lib.hid (show AJ = ⟨stepsD d [.wr (placeG s u) t], s, u + 1, false || decide (stepsE d [.wr (placeG s u) t] ≠ 0)⟩ by rw [HJ.out]; exact if_neg (fun q => by rcases q with q | q; exact q hz; exact hr q))
  have e0 : decide (0 < roomG s u) = true := decide_eq_true (by have := HD.out.2.2.2.2; omega)
  rw [e0] at HTk
  simp only [if_true] at HTk
  clear HE HJ hz hr e0
  go_enter Tryz.func7, Tryz.ntmps7
  go_wp2_with fail
  refine HRd.out.mono ?_
  rintro en y9 ⟨rfl, hw⟩
  rw [hw]
  clear hw y9
  go_wp2_with fail
  refine HTk.out.mono ?_
  rintro en v1 ⟨rfl, h1, h2⟩
  have H1 := Lib.hid (And.intro (hd_sp HD.out.1 HD.out.2.2.1 h2) (And.intro h1 h2))
  clear h1 h2 z0 z1 z2 z3 z4 z5 z6 z7 z8 z9
  go_wp2_with fail
  refine (jplace_any u v1 H1.out.1 (by have := HD.out.2.2.2.1; omega)).mono ?_
  rintro en v2 ⟨rfl, hb⟩
  have H2 := Lib.hid (And.intro (H1.out.1.below hb) (And.intro (H1.out.2.1.below hb) (H1.out.2.2.trans (Turn.of_below _ hb))))
  clear hb
  generalize hPG : placeG s u = PG at *
  go_wp2_with fail
  refine (jwrite_any jn PG t v2).mono ?_
  rintro en v3 ⟨rfl, hb, hsz, n0, n1, n2⟩
  have HS := Lib.hid (show StpV v3 (FJ jn dn vb vc) jn dn (wrV v2.heap.size (v2.heap.size + 1) (v2.heap.size + 2)) (.wr PG t) from stp_new H2.out.1.lt n0 n1 n2)
  have H3 := Lib.hid (And.intro (H2.out.1.below hb) (And.intro (H2.out.2.1.below hb) (H2.out.2.2.trans (Turn.of_below _ hb))))
  clear hb hsz n0 n1 n2
  obtain ⟨W1, hW1⟩ : ∃ W, v3.alloc (.cells #[.func (.func 64) #[] #[.pointer (some ⟨v2.heap.size, 0, none⟩), .pointer (some ⟨v2.heap.size + 1, 0, none⟩), .pointer (some ⟨v2.heap.size + 2, 0, none⟩)]] 43) = W := ⟨_, rfl⟩
  have hbW : Below v3.heap.size v3 W1 := by rw [← hW1]; exact alloc_below v3 _
  have H4 := Lib.hid (And.intro (H3.out.1.below hbW) (And.intro (H3.out.2.1.below hbW) (And.intro (H3.out.2.2.trans (Turn.of_below _ hbW)) (show StpL W1 (FJ jn dn vb vc) jn dn v3.heap.size 0 [.wr PG t] by
    rw [← hW1]
    refine stpL_new H3.out.1.lt (fun k x hx => ?_)
    match k, hx with
    | 0, hx => cases hx; exact ⟨_, rfl, HS.out⟩
    | k + 1, hx => exact absurd hx (by simp)))))
  clear hbW
  go_wp2_with fail
  refine (jsteps_any [.wr PG t] v3.heap.size 0 1 W1 H4.out.1 H4.out.2.2.2 (by simp) (by simp)).mono ?_
  rintro en y8 ⟨rfl, vc2, h1, h2⟩
  have hsp := sp_hd H4.out.2.1 HD.out.2.2.1 h2
  have H5 := Lib.hid (show JLv y8 jn sn dn vb vc2 AJ ∧ Turn w y8 (FL jn sn dn vb vc) (FL jn sn dn vb vc2) from ⟨by rw [HZj.out]; exact ⟨h1, hsp.1, hsp.2⟩, (turn_sp H4.out.2.2.1).trans (turn_hd h2)⟩)
  clear hsp h1 h2 hW1 HZj H4 H3 H2 H1 HS
  generalize stepsE d [.wr PG t] = SE at *
  by_cases h1 : SE = 0
  case neg =>
    have h1b : (SE != 0) = true := by simpa using h1
    have HZi := Lib.hid (show AI = 0 by rw [HI.out, HZ.out]; exact if_neg h1)
    clear h1 HI
    go_wp2
    exact HR.out _ _ ⟨by rw [HZ.out, HZi.out] <;> rfl, vc2, H5.out⟩
  subst h1
  have HZi := Lib.hid (show AI = u by rw [HI.out, HZ.out]; exact if_pos rfl)
  clear HI
  go_wp2
  exact HR.out _ _ ⟨by rw [HZ.out, HZi.out] <;> rfl, vc2, H5.out⟩
end Go.Proofs.YteppfjgglelpbaaGreat
/- What was appended committed, the disk flushed: of the program's journal. -/
set_option maxRecDepth 100000
namespace Go.Proofs.YteppfjgglelpbaaGreat
open Go.RowKit Ks
set_option linter.unusedVariables false
set_option linter.unusedSimpArgs false
/-- a commit leaves the space as it is -/
theorem commit_sp {w : World} {sn : Nat} {d : DS} {s s2 : SupT} {u : Int} {br : Bool} (h : SpAt w sn s u) (e : s2.b = s.b ∧ s2.l = s.l ∧ s2.f = s.f) : SpAt w sn (commitJ ⟨d, s, u, br⟩ s2).last (commitJ ⟨d, s, u, br⟩ s2).used := by
  unfold commitJ didJ
  split
  · exact h
  · split
    · exact h
    · show SpAt w sn s2 u
      unfold SpAt
      rw [e.1, e.2.1, e.2.2]
      exact h
/-- the row of the one step that flushes -/
theorem fl_row {w : World} {F : Nat → Prop} {jn dn : Nat} (hF : ∀ k, F k → k < w.heap.size) : StpL (w.alloc (.cells #[.func (.func 41) #[.pointer (some ⟨dn, 0, none⟩)] #[]] 43)) F jn dn w.heap.size 0 [.fl] := by
  refine stpL_new hF (fun k x hx => ?_)
  match k, hx with
  | 0, hx => cases hx; exact ⟨_, rfl, rfl⟩
  | k + 1, hx => exact absurd hx (by simp)
/-- what was written flushed -/
def jflE (j : JrnT) : Int := if j.broken then 14 else stepsE j.d [.fl]
def jflJ (j : JrnT) : JrnT := if j.broken then j else didJ j [.fl]
set_option maxRecDepth 100000 in
set_option maxHeartbeats 4000000 in
theorem jflush_any {jn sn dn : Nat} {vb vc : Value} {s : SupT} {br : Bool} {d : DS} {u : Int} (w : World) (h : JHd w jn (.pointer (some ⟨sn, 0, none⟩)) dn vb vc s br d) (hs : SpAt w sn s u) (hn : ¬ FJ jn dn vb vc sn) (hb : 0 < s.b ∧ s.b ≤ 9223372036854775807) :
    Calls Tryz.prog 13 #[.pointer (some ⟨jn, 0, none⟩)] w fun e w' => e = .returned (.int .i64 (jflE ⟨d, s, u, br⟩)) ∧ ∃ vc', JLv w' jn sn dn vb vc' (jflJ ⟨d, s, u, br⟩) ∧ Turn w w' (FL jn sn dn vb vc) (FL jn sn dn vb vc') := by
  refine calls_by fun R HR => ?_
  have HRd := Lib.hid (jready_any w h)
  have HD := Lib.hid (And.intro h (And.intro hs hn))
  have HE : Hid (jflE ⟨d, s, u, br⟩ = if br then 14 else stepsE d [.fl]) := Lib.hid rfl
  have HJ : Hid (jflJ ⟨d, s, u, br⟩ = if br then ⟨d, s, u, br⟩ else ⟨stepsD d [.fl], s, u, br || decide (stepsE d [.fl] ≠ 0)⟩) := Lib.hid rfl
  generalize jflE ⟨d, s, u, br⟩ = AE at *
  generalize jflJ ⟨d, s, u, br⟩ = AJ at *
  clear h hs hn hb
  cases br
  case true =>
    have HZ := Lib.hid (show AE = 14 by rw [HE.out]; rfl)
    have HZj := Lib.hid (show AJ = ⟨d, s, u, true⟩ by rw [HJ.out]; rfl)
    clear HE HJ
    simp only [if_true] at HRd
    go_enter Tryz.func13, Tryz.ntmps13
    go_wp2_with fail
    refine HRd.out.mono ?_
    rintro en y9 ⟨rfl, hw⟩
    rw [hw]
    clear hw
    go_wp2
    exact HR.out _ _ ⟨by rw [HZ.out] <;> rfl, vc, by rw [HZj.out]; exact ⟨HD.out.1, HD.out.2.1, HD.out.2.2⟩, Turn.refl _ _⟩
  simp only [Bool.false_eq_true, if_false] at HRd HE HJ
  obtain ⟨⟨z0, z1, z2, z3, z4, z5, z6, z7, z8, z9⟩, -⟩ := blkJ HD.out.1.blk
  obtain ⟨W1, hW1⟩ : ∃ W, w.alloc (.cells #[.func (.func 41) #[.pointer (some ⟨dn, 0, none⟩)] #[]] 43) = W := ⟨_, rfl⟩
  have hbW : Below w.heap.size w W1 := by rw [← hW1]; exact alloc_below w _
  have H4 := Lib.hid (And.intro (HD.out.1.below hbW) (And.intro (HD.out.2.1.below hbW) (And.intro (Turn.of_below (FL jn sn dn vb vc) hbW) (show StpL W1 (FJ jn dn vb vc) jn dn w.heap.size 0 [.fl] by rw [← hW1]; exact fl_row HD.out.1.lt))))
  clear hbW
  go_enter Tryz.func13, Tryz.ntmps13
  go_wp2_with fail
  refine HRd.out.mono ?_
  rintro en y9 ⟨rfl, hw⟩
  rw [hw]
  clear hw y9
  go_wp2_with fail
  refine (jsteps_any [.fl] w.heap.size 0 1 W1 H4.out.1 H4.out.2.2.2 (by simp) (by simp)).mono ?_
  rintro en y8 ⟨rfl, vc2, h1, h2⟩
  have hsp := sp_hd H4.out.2.1 HD.out.2.2 h2
  have H5 := Lib.hid (show JLv y8 jn sn dn vb vc2 AJ ∧ Turn w y8 (FL jn sn dn vb vc) (FL jn sn dn vb vc2) from ⟨by rw [HJ.out]; exact ⟨h1, hsp.1, hsp.2⟩, H4.out.2.2.1.trans (turn_hd h2)⟩)
  clear hsp h1 h2 hW1 HJ H4
  generalize stepsE d [.fl] = SE at *
  go_wp2
  exact HR.out _ _ ⟨by rw [HE.out] <;> rfl, vc2, H5.out⟩
set_option maxRecDepth 100000 in
set_option maxHeartbeats 8000000 in
theorem jcom_any {jn sn dn : Nat} {vb vc : Value} {s : SupT} {br : Bool} {d : DS} {u : Int} (c : Int) (w : World) (h : JHd w jn (.pointer (some ⟨sn, 0, none⟩)) dn vb vc s br d) (hs : SpAt w sn s u) (hn : ¬ FJ jn dn vb vc sn) (hb : 0 < s.b ∧ s.b ≤ 9223372036854775807) :
    Calls Tryz.prog 11 #[.pointer (some ⟨jn, 0, none⟩), .int .i64 c] w fun e w' => e = .returned (.int .i64 (comE ⟨d, s, u, br⟩ c)) ∧ ∃ vc', JLv w' jn sn dn vb vc' (comJ ⟨d, s, u, br⟩ c) ∧ Turn w w' (FL jn sn dn vb vc) (FL jn sn dn vb vc') := by
  refine calls_by fun R HR => ?_
  have HRd := Lib.hid (jready_any w h)
  have HN := Lib.hid (jnext_any c w h hs hb)
  have HT := Lib.hid (fun w (h : JHd w jn (.pointer (some ⟨sn, 0, none⟩)) dn vb vc s br d) => jtime_any c w h)
  have HD := Lib.hid (And.intro h (And.intro hs (And.intro hn hb)))
  obtain ⟨s2, hs2, hs3⟩ : ∃ s2 : SupT, nextV s u c = supV s2.gen s2.tail s2.epoch s2.clock s2.b s2.l s2.f ∧ (nextE s = 0 → s2 = ⟨s.gen + 1, u, s.epoch, c, s.b, s.l, s.f⟩) := by
    by_cases q : nextE s = 0
    · exact ⟨⟨s.gen + 1, u, s.epoch, c, s.b, s.l, s.f⟩, if_pos q, fun _ => rfl⟩
    · exact ⟨⟨0, 0, 0, 0, 0, 0, 0⟩, if_neg q, fun q2 => absurd q2 q⟩
  rw [hs2] at HN
  have HS2 := Lib.hid hs3
  have HE : Hid (comE ⟨d, s, u, br⟩ c = if br then 14 else if decide (s.clock ≤ c ∧ c ≤ 1099511627776) = false then 2 else if nextE s ≠ 0 then nextE s else if stepsE d [.fl] ≠ 0 then stepsE d [.fl] else commitE ⟨stepsD d [.fl], s, u, br || decide (stepsE d [.fl] ≠ 0)⟩ ⟨s.gen + 1, u, s.epoch, c, s.b, s.l, s.f⟩) := Lib.hid rfl
  have HJ : Hid (comJ ⟨d, s, u, br⟩ c = if br = true ∨ decide (s.clock ≤ c ∧ c ≤ 1099511627776) = false ∨ nextE s ≠ 0 then ⟨d, s, u, br⟩ else if stepsE d [.fl] ≠ 0 then ⟨stepsD d [.fl], s, u, br || decide (stepsE d [.fl] ≠ 0)⟩ else commitJ ⟨stepsD d [.fl], s, u, br || decide (stepsE d [.fl] ≠ 0)⟩ ⟨s.gen + 1, u, s.epoch, c, s.b, s.l, s.f⟩) := Lib.hid rfl
  generalize comE ⟨d, s, u, br⟩ c = AE at *
  generalize comJ ⟨d, s, u, br⟩ c = AJ at *
  generalize nextE s = NE at *
  generalize decide (s.clock ≤ c ∧ c ≤ 1099511627776) = TB at *
  clear h hs hn hb hs2 hs3
  cases br
  case true =>
    have HZ := Lib.hid (show AE = 14 by rw [HE.out]; rfl)
    have HZj := Lib.hid (show AJ = ⟨d, s, u, true⟩ by rw [HJ.out]; exact if_pos (Or.inl rfl))
    clear HE HJ HN HS2
    simp only [if_true] at HRd
    go_enter Tryz.func11, Tryz.ntmps11
    go_wp2_with fail
    refine HRd.out.mono ?_
    rintro en y9 ⟨rfl, hw⟩
    rw [hw]
    clear hw
    go_wp2
    exact HR.out _ _ ⟨by rw [HZ.out] <;> rfl, vc, by rw [HZj.out]; exact ⟨HD.out.1, HD.out.2.1, HD.out.2.2.1⟩, Turn.refl _ _⟩
  simp only [Bool.false_eq_true, if_false, false_or] at HRd HE HJ
  go_enter Tryz.func11, Tryz.ntmps11
  go_wp2_with fail
  refine HRd.out.mono ?_
  rintro en y9 ⟨rfl, hw⟩
  rw [hw]
  clear hw y9
  go_wp2_with fail
  refine HN.out.mono ?_
  rintro en v1 ⟨rfl, hb⟩
  have H2 := Lib.hid (And.intro (HD.out.1.below hb) (And.intro (HD.out.2.1.below hb) (Turn.of_below (FL jn sn dn vb vc) hb)))
  clear hb
  obtain ⟨W1, hW1⟩ : ∃ W1, v1.alloc (.cells #[.int .i64 s2.gen, .int .i64 s2.tail, .int .i64 s2.epoch, .int .i64 s2.clock, .int .i64 s2.b, .int .i64 s2.l, .int .i64 s2.f] 29) = W1 := ⟨_, rfl⟩
  have hbW : Below v1.heap.size v1 W1 := by rw [← hW1]; exact alloc_below v1 _
  have kW : W1.heap[v1.heap.size]? = some (.cells #[.int .i64 s2.gen, .int .i64 s2.tail, .int .i64 s2.epoch, .int .i64 s2.clock, .int .i64 s2.b, .int .i64 s2.l, .int .i64 s2.f] 29 (0, 0)) := by rw [← hW1]; exact alloc_new v1 _
  have H3 := Lib.hid (And.intro (H2.out.1.below hbW) (And.intro (H2.out.2.1.below hbW) (And.intro (H2.out.2.2.trans (Turn.of_below _ hbW)) kW)))
  clear hbW kW
  have HNn := Lib.hid (show ¬ FJ jn dn vb vc v1.heap.size ∧ v1.heap.size < W1.heap.size from ⟨fun q => by have := H2.out.1.lt _ q; omega, lt_of_block H3.out.2.2.2⟩)
  go_wp2_with fail
  refine (HT.out _ H3.out.1).mono ?_
  rintro en y9 ⟨rfl, hw⟩
  rw [hw]
  clear hw y9 hW1
  cases TB
  case false =>
    have HZ := Lib.hid (show AE = 2 by rw [HE.out]; rfl)
    have HZj := Lib.hid (show AJ = ⟨d, s, u, false⟩ by rw [HJ.out]; exact if_pos (Or.inl rfl))
    clear HE HJ HN HS2
    go_wp2
    exact HR.out _ _ ⟨by rw [HZ.out] <;> rfl, vc, by rw [HZj.out]; exact ⟨H3.out.1, H3.out.2.1, HD.out.2.2.1⟩, H3.out.2.2.1⟩
  simp only [Bool.true_eq_false, if_false, false_or] at HE HJ
  by_cases h0 : NE = 0
  case neg =>
    have h0b : (NE != 0) = true := by simpa using h0
    have HZ := Lib.hid (show AE = NE by rw [HE.out, if_pos h0])
    have HZj := Lib.hid (show AJ = ⟨d, s, u, false⟩ by rw [HJ.out]; exact if_pos h0)
    clear HE HJ HN HS2 h0
    go_wp2
    exact HR.out _ _ ⟨by rw [HZ.out] <;> rfl, vc, by rw [HZj.out]; exact ⟨H3.out.1, H3.out.2.1, HD.out.2.2.1⟩, H3.out.2.2.1⟩
  subst h0
  have HS3 := Lib.hid (HS2.out (by trivial))
  have HE2 := Lib.hid (HE.out)
  have HJ2 := Lib.hid (HJ.out)
  rw [if_neg (fun q => q rfl)] at HE2 HJ2
  rw [← HS3.out] at HE2 HJ2
  clear HE HJ HS2
  obtain ⟨⟨z0, z1, z2, z3, z4, z5, z6, z7, z8, z9⟩, -⟩ := blkJ H3.out.1.blk
  obtain ⟨W2, hW2⟩ : ∃ W, W1.alloc (.cells #[.func (.func 41) #[.pointer (some ⟨dn, 0, none⟩)] #[]] 43) = W := ⟨_, rfl⟩
  have hbW : Below W1.heap.size W1 W2 := by rw [← hW2]; exact alloc_below W1 _
  have H4 := Lib.hid (And.intro (H3.out.1.below hbW) (And.intro (H3.out.2.1.below hbW) (And.intro (H3.out.2.2.1.trans (Turn.of_below _ hbW)) (And.intro (show StpL W2 (FJ jn dn vb vc) jn dn W1.heap.size 0 [.fl] by rw [← hW2]; exact fl_row H3.out.1.lt) (blk_on hbW H3.out.2.2.2)))))
  clear hbW
  go_wp2_with fail
  refine (jsteps_any [.fl] W1.heap.size 0 1 W2 H4.out.1 H4.out.2.2.2.1 (by simp) (by simp)).mono ?_
  rintro en y8 ⟨rfl, vc2, h1, h2⟩
  have hsp := sp_hd H4.out.2.1 HD.out.2.2.1 h2
  have H5 := Lib.hid (And.intro h1 (And.intro hsp.1 (And.intro hsp.2 (And.intro (H4.out.2.2.1.trans (turn_hd h2)) ((h2.block _ (Nat.lt_of_lt_of_le HNn.out.2 (by rw [← hW2]; simp)) HNn.out.1).trans H4.out.2.2.2.2)))))
  clear hsp h1 h2 hW2 H4 z0 z1 z2 z3 z4 z5 z6 z7 z8 z9
  generalize stepsE d [.fl] = SE at *
  generalize stepsD d [.fl] = SD at *
  by_cases h1 : SE = 0
  case neg =>
    have h1b : (SE != 0) = true := by simpa using h1
    have HZ := Lib.hid (show AE = SE by rw [HE2.out, if_pos h1])
    have HZj := Lib.hid (show AJ = ⟨SD, s, u, false || decide (SE ≠ 0)⟩ by rw [HJ2.out]; exact if_pos h1)
    clear HE2 HJ2 h1
    go_wp2
    exact HR.out _ _ ⟨by rw [HZ.out] <;> rfl, vc2, by rw [HZj.out]; exact ⟨H5.out.1, H5.out.2.1, H5.out.2.2.1⟩, H5.out.2.2.2.1⟩
  subst h1
  rw [if_neg (fun q => q rfl)] at HE2 HJ2
  have HB2 := Lib.hid (show -9223372036854775808 ≤ s2.b ∧ s2.b ≤ 9223372036854775807 by rw [HS3.out]; have := HD.out.2.2.2; exact ⟨by show _ ≤ s.b; omega, this.2⟩)
  have HQ2 := Lib.hid (show s2.b = s.b ∧ s2.l = s.l ∧ s2.f = s.f by rw [HS3.out]; exact ⟨rfl, rfl, rfl⟩)
  have HCm := Lib.hid (jcommit_any s2 u y8 H5.out.1 HB2.out)
  clear HS3 HB2
  obtain ⟨⟨x0, x1, x2, x3, x4, x5, x6⟩, -⟩ := blk7j H5.out.2.2.2.2
  go_wp2_with fail
  refine HCm.out.mono ?_
  rintro en y7 ⟨rfl, vc3, h1, h2⟩
  have hsp := sp_hd H5.out.2.1 H5.out.2.2.1 h2
  have H6 := Lib.hid (show JLv y7 jn sn dn vb vc3 AJ ∧ Turn w y7 (FL jn sn dn vb vc) (FL jn sn dn vb vc3) from ⟨by rw [HJ2.out]; exact ⟨h1, commit_sp hsp.1 HQ2.out, hsp.2⟩, H5.out.2.2.2.1.trans (turn_hd h2)⟩)
  clear hsp h1 h2 HJ2 HCm
  go_wp2
  exact HR.out _ _ ⟨by rw [HE2.out] <;> rfl, vc3, H6.out⟩
end Go.Proofs.YteppfjgglelpbaaGreat
/- Texts held against each other, byte by byte: plain. -/
namespace Ks
open Go Go.RowKit
set_option linter.unusedVariables false
def orTo (f : Nat → Nat) : Nat → Nat
  | 0 => 0
  | k + 1 => orTo f k ||| f k
theorem orTo_lt (f : Nat → Nat) (n : Nat) (h : ∀ k, k < n → f k < 256) : orTo f n < 256 := by
  induction n with
  | zero => exact Nat.succ_pos _
  | succ n ih => exact Nat.or_lt_two_pow (n := 8) (ih fun k hk => h k (by omega)) (h n (by omega))
theorem orTo_zero (f : Nat → Nat) (n : Nat) : orTo f n = 0 ↔ ∀ k, k < n → f k = 0 := by
  induction n with
  | zero => simp [orTo]
  | succ n ih =>
    rw [orTo, Nat.or_eq_zero_iff, ih]
    constructor
    · rintro ⟨h1, h2⟩ k hk
      by_cases e : k = n
      · rw [e]; exact h2
      · exact h1 k (by omega)
    · exact fun h => ⟨fun k hk => h k (by omega), h n (by omega)⟩
theorem wraps_u8 : ∀ n : Int, 0 ≤ n → n < 2 ^ 8 → IntKind.u8.wrap n = n := fun n h0 h1 => by simp [IntKind.wrap, IntKind.bits, IntKind.signed]; omega
theorem or_u8 (a b : Nat) (ha : a < 256) (hb : b < 256) : bits .or .u8 a b = ((a ||| b : Nat) : Int) := (bits_nat .u8 8 (by decide) wraps_u8 a b ha hb).2
theorem xor_u8 (a b : Nat) (ha : a < 256) (hb : b < 256) : bits .xor .u8 a b = ((a ^^^ b : Nat) : Int) := bits_xor_nat .u8 8 (by decide) wraps_u8 a b ha hb
def noughtN (b : Nat) : Nat := if b = 0 then 1 else 0
def byteN (s : ByteArray) (k : Nat) : Nat := (s.data.toList.getD k 0).toNat
theorem byteN_lt (s : ByteArray) (k : Nat) : byteN s k < 256 := UInt8.toNat_lt _
theorem getD_get (l : List UInt8) (k : Nat) (h : k < l.length) : l.getD k 0 = l[k] := by rw [List.getD_eq_getElem?_getD, List.getElem?_eq_getElem h]; rfl
theorem byteN_get (s : ByteArray) (k : Nat) (h : k < s.size) : byteN s k = (s[k]).toNat := by
  obtain ⟨⟨l⟩⟩ := s
  have h' : k < l.length := h
  show (l.getD k 0).toNat = (l[k]).toNat
  simp [h']
def bitN (a b : ByteArray) : Nat := if a = b then 1 else 0
def anyN (s : ByteArray) : Nat := if s = zerosS s.size then 0 else 1
theorem bytes_eq {a b : ByteArray} (h : a.data.toList = b.data.toList) : a = b := by
  obtain ⟨⟨x⟩⟩ := a
  obtain ⟨⟨y⟩⟩ := b
  have : x = y := h
  rw [this]
theorem xor_zero_iff (a b : Nat) : a ^^^ b = 0 ↔ a = b := by
  constructor
  · intro h
    have h2 : a ^^^ b ^^^ b = 0 ^^^ b := by rw [h]
    rwa [Nat.xor_assoc, Nat.xor_self, Nat.xor_zero, Nat.zero_xor] at h2
  · rintro rfl; exact Nat.xor_self _
theorem bit_eq (a b : ByteArray) (h : a.size = b.size) : noughtN (orTo (fun k => byteN a k ^^^ byteN b k) a.size) = bitN a b := by
  unfold noughtN bitN
  have key : orTo (fun k => byteN a k ^^^ byteN b k) a.size = 0 ↔ a = b := by
    rw [orTo_zero]
    constructor
    · intro h1
      apply bytes_eq
      have la := data_length a
      have lb := data_length b
      refine List.ext_getElem (by omega) fun k h2 h3 => ?_
      have h4 := (xor_zero_iff _ _).1 (h1 k (by omega))
      unfold byteN at h4
      have h5 := UInt8.toNat_inj.1 h4
      rwa [getD_get _ _ h2, getD_get _ _ h3] at h5
    · rintro rfl k _; exact Nat.xor_self _
  by_cases e : a = b
  · rw [if_pos e, if_pos (key.2 e)]
  · rw [if_neg e, if_neg fun h => e (key.1 h)]
theorem any_eq (s : ByteArray) : noughtN (orTo (fun k => byteN s k) s.size) = 1 - anyN s := by
  unfold noughtN anyN
  have key : orTo (fun k => byteN s k) s.size = 0 ↔ s = zerosS s.size := by
    rw [orTo_zero]
    have ls := data_length s
    constructor
    · intro h1
      apply bytes_eq
      show s.data.toList = List.replicate s.size 0
      refine List.eq_replicate_iff.2 ⟨ls, fun x hx => ?_⟩
      obtain ⟨k, hk, rfl⟩ := List.mem_iff_getElem.1 hx
      have h4 := h1 k (by omega)
      unfold byteN at h4
      rw [getD_get _ _ hk] at h4
      exact UInt8.toNat_inj.1 h4
    · intro h1 k hk
      unfold byteN
      have e : s.data.toList = List.replicate s.size 0 := congrArg (fun b => b.data.toList) h1
      rw [e]
      simp [hk]
  by_cases e : s = zerosS s.size
  · rw [if_pos e, if_pos (key.2 e)]
  · rw [if_neg e, if_neg fun h => e (key.1 h)]
end Ks
