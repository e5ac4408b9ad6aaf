/- Texts that the claim rests on, part 12: SuperChoose, JrnFound, JrnOpen, DiskNew, DiskLoad, DiskDead, JrnOpenNo, JrnFormat. -/
import Derived.StillTailTactics
import Derived.Test.YteppfjgglelpbaaGreatShelf
import Derived.Deep.RegionLaw
import Derived.WalkSpells
import Derived.WalkLawsBesides
import Derived.Test.YteppfjgglelpbaaGreatM11
/- Which of two superblocks is chosen: super.Choose and the reference's. -/
namespace Go.Proofs.YteppfjgglelpbaaGreat
open Go.RowKit Ks
set_option linter.unusedVariables false
/-- the second one is chosen -/
def chW (a b : ByteArray) : Bool := stOk b && (!stOk a || decide (stN a 9 8 < stN b 9 8))
def chV (a b : ByteArray) : Value := if chW a b then stV b else stV a
def chI (a b : ByteArray) : Int := if chW a b then 1 else 0
def chE (a b : ByteArray) : Int := if stOk a || stOk b then 0 else 7
def rchI (a b : ByteArray) : Int := if stOk a || stOk b then chI a b else -1
theorem st_flags (a : ByteArray) : (stOk a = true ∧ stE a = 0) ∨ (stOk a = false ∧ stE a = 3 ∧ stV a = supV 0 0 0 0 0 0 0) := by
  cases h : stOk a
  · have := stV_no (s := a) (by rw [h]; exact Bool.false_ne_true)
    exact .inr ⟨rfl, this.2.2, this.1⟩
  · exact .inl ⟨rfl, (stV_yes h).2.2⟩
theorem rch_cases (a b : ByteArray) :
    (stOk a = false ∧ stOk b = false ∧ chV a b = supV 0 0 0 0 0 0 0 ∧ rchI a b = -1) ∨
    (stOk a = false ∧ stOk b = true ∧ chV a b = stV b ∧ rchI a b = 1) ∨
    (stOk a = true ∧ stOk b = false ∧ chV a b = stV a ∧ rchI a b = 0) ∨
    (stOk a = true ∧ stOk b = true ∧ stN a 9 8 < stN b 9 8 ∧ chV a b = stV b ∧ rchI a b = 1) ∨
    (stOk a = true ∧ stOk b = true ∧ ¬ stN a 9 8 < stN b 9 8 ∧ chV a b = stV a ∧ rchI a b = 0) := by
  unfold rchI chI chV chW
  rcases st_flags a with ⟨ha, ea⟩ | ⟨ha, ea, va⟩
  · rcases st_flags b with ⟨hb, eb⟩ | ⟨hb, eb, vb⟩
    · by_cases hg : stN a 9 8 < stN b 9 8 <;> simp [ha, hb, hg]
    · simp [ha, hb]
  · rcases st_flags b with ⟨hb, eb⟩ | ⟨hb, eb, vb⟩
    · simp [ha, hb]
    · simp [ha, hb, va]
theorem ch_cases (a b : ByteArray) :
    (stE a = 3 ∧ stE b = 3 ∧ chV a b = supV 0 0 0 0 0 0 0 ∧ chI a b = 0 ∧ chE a b = 7) ∨
    (stE a = 3 ∧ stE b = 0 ∧ chV a b = stV b ∧ chI a b = 1 ∧ chE a b = 0) ∨
    (stE a = 0 ∧ stE b = 3 ∧ chV a b = stV a ∧ chI a b = 0 ∧ chE a b = 0) ∨
    (stE a = 0 ∧ stE b = 0 ∧ stN a 9 8 < stN b 9 8 ∧ chV a b = stV b ∧ chI a b = 1 ∧ chE a b = 0) ∨
    (stE a = 0 ∧ stE b = 0 ∧ ¬ stN a 9 8 < stN b 9 8 ∧ chV a b = stV a ∧ chI a b = 0 ∧ chE a b = 0) := by
  unfold chI chE chV chW
  rcases st_flags a with ⟨ha, ea⟩ | ⟨ha, ea, va⟩
  · rcases st_flags b with ⟨hb, eb⟩ | ⟨hb, eb, vb⟩
    · by_cases hg : stN a 9 8 < stN b 9 8 <;> simp [ha, hb, hg, ea, eb]
    · simp [ha, hb, ea, eb]
  · rcases st_flags b with ⟨hb, eb⟩ | ⟨hb, eb, vb⟩
    · simp [ha, hb, ea, eb]
    · simp [ha, hb, va, ea, eb]
set_option maxHeartbeats 4000000 in
set_option maxRecDepth 100000 in
theorem schoose_any (a b : ByteArray) (w : World) :
    Calls Tryz.prog 78 #[.string a, .string b] w fun en w' => en = .returned (.tuple #[chV a b, .int .i64 (chI a b), .int .i64 (chE a b)]) ∧ Below w.heap.size w w' := by
  refine calls_by fun R HR => ?_
  obtain ⟨W, hW⟩ : ∃ W, w.alloc (.cells #[.int .i64 0, .int .i64 0, .int .i64 0, .int .i64 0, .int .i64 0, .int .i64 0, .int .i64 0] 29) = W := ⟨_, rfl⟩
  have HW := Lib.hid (And.intro (show Below w.heap.size w W by rw [← hW]; exact alloc_below w _) (show W.heap[w.heap.size]? = some (.cells #[.int .i64 0, .int .i64 0, .int .i64 0, .int .i64 0, .int .i64 0, .int .i64 0, .int .i64 0] 29 (0, 0)) by rw [← hW]; exact alloc_new w _))
  obtain ⟨x0, hx0⟩ : ∃ z, stN a 9 8 = z := ⟨_, rfl⟩
  obtain ⟨x1, hx1⟩ : ∃ z, stN a 17 4 = z := ⟨_, rfl⟩
  obtain ⟨x2, hx2⟩ : ∃ z, stN a 21 4 = z := ⟨_, rfl⟩
  obtain ⟨x3, hx3⟩ : ∃ z, stN a 25 8 = z := ⟨_, rfl⟩
  obtain ⟨x4, hx4⟩ : ∃ z, stN a 33 4 = z := ⟨_, rfl⟩
  obtain ⟨x5, hx5⟩ : ∃ z, stN a 37 4 = z := ⟨_, rfl⟩
  obtain ⟨x6, hx6⟩ : ∃ z, stN a 41 4 = z := ⟨_, rfl⟩
  have hA : stV a = supV x0 x1 x2 x3 x4 x5 x6 := by rw [stV, hx0, hx1, hx2, hx3, hx4, hx5, hx6]
  obtain ⟨ka, hka⟩ : ∃ z, stE a = z := ⟨_, rfl⟩
  have HA := Lib.hid (fun w => stake_any a w)
  simp only [hA, hka] at HA
  obtain ⟨y0, hy0⟩ : ∃ z, stN b 9 8 = z := ⟨_, rfl⟩
  obtain ⟨y1, hy1⟩ : ∃ z, stN b 17 4 = z := ⟨_, rfl⟩
  obtain ⟨y2, hy2⟩ : ∃ z, stN b 21 4 = z := ⟨_, rfl⟩
  obtain ⟨y3, hy3⟩ : ∃ z, stN b 25 8 = z := ⟨_, rfl⟩
  obtain ⟨y4, hy4⟩ : ∃ z, stN b 33 4 = z := ⟨_, rfl⟩
  obtain ⟨y5, hy5⟩ : ∃ z, stN b 37 4 = z := ⟨_, rfl⟩
  obtain ⟨y6, hy6⟩ : ∃ z, stN b 41 4 = z := ⟨_, rfl⟩
  have hB : stV b = supV y0 y1 y2 y3 y4 y5 y6 := by rw [stV, hy0, hy1, hy2, hy3, hy4, hy5, hy6]
  obtain ⟨kb, hkb⟩ : ∃ z, stE b = z := ⟨_, rfl⟩
  have HB := Lib.hid (fun w => stake_any b w)
  simp only [hB, hkb] at HB
  have hcs := ch_cases a b
  rw [hka, hkb, hx0, hy0, hA, hB] at hcs
  have HCS := Lib.hid hcs
  clear hcs hx0 hy0 hx1 hy1 hx2 hy2 hx3 hy3 hx4 hy4 hx5 hy5 hx6 hy6 hka hkb hA hB
  go_enter Tryz.func78, Tryz.ntmps78
  go_wp2_with fail
  refine (HA.out _).mono ?_
  rintro en w1 ⟨rfl, hb1⟩
  obtain ⟨W1, hW1⟩ : ∃ W1, w1.alloc (.cells #[.int .i64 x0, .int .i64 x1, .int .i64 x2, .int .i64 x3, .int .i64 x4, .int .i64 x5, .int .i64 x6] 29) = W1 := ⟨_, rfl⟩
  have ha1 : Below w1.heap.size w1 W1 := by rw [← hW1]; exact alloc_below w1 _
  have k1 : W1.heap[w1.heap.size]? = some (.cells #[.int .i64 x0, .int .i64 x1, .int .i64 x2, .int .i64 x3, .int .i64 x4, .int .i64 x5, .int .i64 x6] 29 (0, 0)) := by rw [← hW1]; exact alloc_new w1 _
  have hc1 := hb1.trans (ha1.mono hb1.size)
  have H1 := Lib.hid (And.intro (HW.out.1.trans (hc1.mono HW.out.1.size)) (And.intro ((hc1.block _ (lt_of_block HW.out.2)).trans HW.out.2) k1))
  clear hb1 ha1 k1 hc1 hW
  go_wp2_with fail
  refine (HB.out _).mono ?_
  rintro en w2 ⟨rfl, hb2⟩
  obtain ⟨W2, hW2⟩ : ∃ W2, w2.alloc (.cells #[.int .i64 y0, .int .i64 y1, .int .i64 y2, .int .i64 y3, .int .i64 y4, .int .i64 y5, .int .i64 y6] 29) = W2 := ⟨_, rfl⟩
  have ha2 : Below w2.heap.size w2 W2 := by rw [← hW2]; exact alloc_below w2 _
  have k2 : W2.heap[w2.heap.size]? = some (.cells #[.int .i64 y0, .int .i64 y1, .int .i64 y2, .int .i64 y3, .int .i64 y4, .int .i64 y5, .int .i64 y6] 29 (0, 0)) := by rw [← hW2]; exact alloc_new w2 _
  have hc2 := hb2.trans (ha2.mono hb2.size)
  have H2 := Lib.hid (And.intro (H1.out.1.trans (hc2.mono H1.out.1.size)) (And.intro ((hc2.block _ (lt_of_block H1.out.2.1)).trans H1.out.2.1) (And.intro ((hc2.block _ (lt_of_block H1.out.2.2)).trans H1.out.2.2) k2)))
  clear hb2 ha2 k2 hc2 hW1
  obtain ⟨z0, z1, z2, z3, z4, z5, z6⟩ := blk7 H2.out.2.1
  obtain ⟨f0, f1, f2, f3, f4, f5, f6⟩ := fro7 H2.out.2.1
  obtain ⟨c0, c1, c2, c3, c4, c5, c6⟩ := blk7 H2.out.2.2.1
  obtain ⟨d0, d1, d2, d3, d4, d5, d6⟩ := blk7 H2.out.2.2.2
  rcases HCS.out with ⟨rfl, rfl, hV⟩ | ⟨rfl, rfl, hV⟩ | ⟨rfl, rfl, hV⟩ | ⟨rfl, rfl, hg, hV⟩ | ⟨rfl, rfl, hg, hV⟩
  · have HV := Lib.hid hV
    clear hV HCS
    go_wp2
    refine bodyPost_ret (v := .tuple #[supV 0 0 0 0 0 0 0, .int .i64 0, .int .i64 7]) (by simp [results, Tryz.results78, go_sem, supV, z0, z1, z2, z3, z4, z5, z6]) rfl ?_
    exact HR.out _ _ ⟨by rw [HV.out.1, HV.out.2.1, HV.out.2.2], by (repeat refine Below.setCell ?_ (by simp) _); exact H2.out.1⟩
  · have HV := Lib.hid hV
    clear hV HCS
    go_wp2
    refine bodyPost_ret (v := .tuple #[supV y0 y1 y2 y3 y4 y5 y6, .int .i64 1, .int .i64 0]) (by simp [results, Tryz.results78, go_sem, supV, z0, z1, z2, z3, z4, z5, z6]) rfl ?_
    exact HR.out _ _ ⟨by rw [HV.out.1, HV.out.2.1, HV.out.2.2], by (repeat refine Below.setCell ?_ (by simp) _); exact H2.out.1⟩
  · have HV := Lib.hid hV
    clear hV HCS
    go_wp2
    refine bodyPost_ret (v := .tuple #[supV x0 x1 x2 x3 x4 x5 x6, .int .i64 0, .int .i64 0]) (by simp [results, Tryz.results78, go_sem, supV, z0, z1, z2, z3, z4, z5, z6]) rfl ?_
    exact HR.out _ _ ⟨by rw [HV.out.1, HV.out.2.1, HV.out.2.2], by (repeat refine Below.setCell ?_ (by simp) _); exact H2.out.1⟩
  · have HV := Lib.hid hV
    clear hV HCS
    go_wp2
    refine bodyPost_ret (v := .tuple #[supV y0 y1 y2 y3 y4 y5 y6, .int .i64 1, .int .i64 0]) (by simp [results, Tryz.results78, go_sem, supV, z0, z1, z2, z3, z4, z5, z6]) rfl ?_
    exact HR.out _ _ ⟨by rw [HV.out.1, HV.out.2.1, HV.out.2.2], by (repeat refine Below.setCell ?_ (by simp) _); exact H2.out.1⟩
  · have HV := Lib.hid hV
    clear hV HCS
    go_wp2
    refine bodyPost_ret (v := .tuple #[supV x0 x1 x2 x3 x4 x5 x6, .int .i64 0, .int .i64 0]) (by simp [results, Tryz.results78, go_sem, supV, z0, z1, z2, z3, z4, z5, z6]) rfl ?_
    exact HR.out _ _ ⟨by rw [HV.out.1, HV.out.2.1, HV.out.2.2], by (repeat refine Below.setCell ?_ (by simp) _); exact H2.out.1⟩
end Go.Proofs.YteppfjgglelpbaaGreat
/- What a disk has: of the program's journal. -/
set_option maxRecDepth 100000
namespace Go.Proofs.YteppfjgglelpbaaGreat
open Go.RowKit Ks
set_option linter.unusedVariables false
set_option linter.unusedSimpArgs false
theorem chV_found (d : DS) : chV (shows d 0) (shows d 1) = supV (foundS d).gen (foundS d).tail (foundS d).epoch (foundS d).clock (foundS d).b (foundS d).l (foundS d).f := by
  unfold chV chW foundS stV
  split <;> rename_i h <;> simp [h]
theorem blk4s {w : World} {b : Nat} {c0 c1 c2 c3 : Value} {T : TypeId} (h : w.heap[b]? = some (.cells #[c0, c1, c2, c3] T (0, 0))) : (w.cell? ⟨b, 0, none⟩ = some c0 ∧ w.cell? ⟨b, 1, none⟩ = some c1 ∧ w.cell? ⟨b, 2, none⟩ = some c2 ∧ w.cell? ⟨b, 3, none⟩ = some c3) ∧ ∀ o, w.frozen? ⟨b, o, none⟩ = false :=
  ⟨⟨by rw [cell_of_row w b 0 _ _ _ h]; rfl, by rw [cell_of_row w b 1 _ _ _ h]; rfl, by rw [cell_of_row w b 2 _ _ _ h]; rfl, by rw [cell_of_row w b 3 _ _ _ h]; rfl⟩, fun o => frozen_of_row w b o _ _ h⟩
set_option maxRecDepth 100000 in
set_option maxHeartbeats 8000000 in
theorem jfound_any {dn : Nat} {vb vc : Value} {d : DS} (w : World) (h : DkAt w dn vb vc d) (h0 : (readD d 0).2 = 0) (h1 : (readD d 1).2 = 0) (h2 : (readD d 2).2 = 0) (h3 : (readD d 3).2 = 0)
    (hc : chE (shows d 0) (shows d 1) = 0) (hb : (foundS d).b = (d.blocks.length : Nat)) (hp : pickE (shows d 2) (shows d 3) (foundS d).epoch = 0) (z2 : (shows d 2).size ≤ 4096) (z3 : (shows d 3).size ≤ 4096) :
    Calls Tryz.prog 48 #[.pointer (some ⟨dn, 0, none⟩)] w fun e w' => e = .returned (.tuple #[.agg #[.int .i64 (foundS d).gen, .int .i64 (foundS d).tail, .int .i64 (foundS d).epoch, .int .i64 (foundS d).clock, .int .i64 (foundS d).b, .int .i64 (foundS d).l, .int .i64 (foundS d).f], .string (foundK d), .int .i64 0]) ∧ Below w.heap.size w w' := by
  refine calls_by fun R HR => ?_
  have HD := Lib.hid h
  have HQ0 := Lib.hid (fun (A : World) (h : DkAt A dn vb vc d) => dread_any 0 A h)
  have HQ1 := Lib.hid (fun (A : World) (h : DkAt A dn vb vc d) => dread_any 1 A h)
  have HQ2 := Lib.hid (fun (A : World) (h : DkAt A dn vb vc d) => dread_any 2 A h)
  have HQ3 := Lib.hid (fun (A : World) (h : DkAt A dn vb vc d) => dread_any 3 A h)
  rw [h0] at HQ0
  rw [h1] at HQ1
  rw [h2] at HQ2
  rw [h3] at HQ3
  have HSz := Lib.hid (fun (A : World) (h : DkAt A dn vb vc d) => dsize_any A h)
  rw [← hb] at HSz
  have HCh := Lib.hid (fun A => schoose_any (shows d 0) (shows d 1) A)
  rw [chV_found, hc] at HCh
  have HPk := Lib.hid (fun A => slpick_any (shows d 2) (shows d 3) (foundS d).epoch (by omega) (by omega) A)
  rw [hp, show pickK (shows d 2) (shows d 3) (foundS d).epoch = foundK d from rfl] at HPk
  rw [show (readD d 0).1 = shows d 0 from rfl] at HQ0
  rw [show (readD d 1).1 = shows d 1 from rfl] at HQ1
  rw [show (readD d 2).1 = shows d 2 from rfl] at HQ2
  rw [show (readD d 3).1 = shows d 3 from rfl] at HQ3
  clear h h0 h1 h2 h3 hc hb hp z2 z3
  generalize chI (shows d 0) (shows d 1) = CI at *
  generalize foundK d = FK at *
  generalize foundS d = f at *
  generalize shows d 0 = T0 at *
  generalize shows d 1 = T1 at *
  generalize shows d 2 = T2 at *
  generalize shows d 3 = T3 at *
  have H1 := Lib.hid (And.intro (Below.refl w.heap.size w) (HD.out))
  obtain ⟨W1, hW1⟩ : ∃ W1, w.alloc (.cells #[.int .i64 0, .int .i64 0, .int .i64 0, .int .i64 0, .int .i64 0, .int .i64 0, .int .i64 0] 29) = W1 := ⟨_, rfl⟩
  have hbW1 : Below w.heap.size w W1 := by rw [← hW1]; exact alloc_below w _
  have kW1 : W1.heap[w.heap.size]? = some (.cells #[.int .i64 0, .int .i64 0, .int .i64 0, .int .i64 0, .int .i64 0, .int .i64 0, .int .i64 0] 29 (0, 0)) := by rw [← hW1]; exact alloc_new w _
  have H2 := Lib.hid (And.intro (H1.out.1.trans (hbW1.mono H1.out.1.size)) (And.intro (H1.out.2.below hbW1) (kW1)))
  clear hbW1 kW1
  obtain ⟨W2, hW2⟩ : ∃ W2, W1.alloc (.cells #[.string ⟨#[]⟩, .string ⟨#[]⟩, .string ⟨#[]⟩, .string ⟨#[]⟩] 107) = W2 := ⟨_, rfl⟩
  have hbW2 : Below W1.heap.size W1 W2 := by rw [← hW2]; exact alloc_below W1 _
  have kW2 : W2.heap[W1.heap.size]? = some (.cells #[.string ⟨#[]⟩, .string ⟨#[]⟩, .string ⟨#[]⟩, .string ⟨#[]⟩] 107 (0, 0)) := by rw [← hW2]; exact alloc_new W1 _
  have H3 := Lib.hid (And.intro (H2.out.1.trans (hbW2.mono H2.out.1.size)) (And.intro (H2.out.2.1.below hbW2) (And.intro (blk_on hbW2 H2.out.2.2) (kW2))))
  clear hbW2 kW2
  have HF := Lib.hid (show W1.heap.size = w.heap.size + 1 by rw [← hW1]; simp)
  go_enter Tryz.func48, Tryz.ntmps48
  go_wp2_with fail
  clear hW1 hW2
  go_loopw [13] (fun v wx => ∃ (k : Int) (A : Array Value), v = .int .i64 k ∧ ((k = 0 ∧ A = #[.string ⟨#[]⟩, .string ⟨#[]⟩, .string ⟨#[]⟩, .string ⟨#[]⟩]) ∨ (k = 1 ∧ A = #[.string T0, .string ⟨#[]⟩, .string ⟨#[]⟩, .string ⟨#[]⟩]) ∨ (k = 2 ∧ A = #[.string T0, .string T1, .string ⟨#[]⟩, .string ⟨#[]⟩]) ∨ (k = 3 ∧ A = #[.string T0, .string T1, .string T2, .string ⟨#[]⟩]) ∨ (k = 4 ∧ A = #[.string T0, .string T1, .string T2, .string T3])) ∧ Hid (Below w.heap.size w wx ∧ DkAt wx dn vb vc d ∧ wx.heap[w.heap.size]? = some (.cells #[.int .i64 0, .int .i64 0, .int .i64 0, .int .i64 0, .int .i64 0, .int .i64 0, .int .i64 0] 29 (0, 0)) ∧ wx.heap[W1.heap.size]? = some (.cells A 107 (0, 0)))) (fun v _ => (4 - intOf v).toNat)
  case atStart => exact ⟨0, _, rfl, Or.inl ⟨rfl, rfl⟩, H3⟩
  case round =>
    obtain ⟨k, A, rfl, hkA, hN⟩ := hrel
    have HW1 := Lib.hid (show ∀ k, DF dn vb vc k → k < w.heap.size from HD.out.lt)
    rcases hkA with ⟨rfl, rfl⟩ | ⟨rfl, rfl⟩ | ⟨rfl, rfl⟩ | ⟨rfl, rfl⟩ | ⟨rfl, rfl⟩
    · obtain ⟨⟨c0, c1, c2, c3⟩, fc⟩ := blk4s hN.out.2.2.2
      have f0 := fc 0
      have hrd := HQ0.out wr hN.out.2.1
      clear fc
      obtain ⟨P, hP⟩ : ∃ W, wr.setCell ⟨W1.heap.size, 0, none⟩ (.string T0) = W := ⟨_, rfl⟩
      have HP := Lib.hid (show Below w.heap.size w P ∧ DkAt P dn vb vc d ∧ P.heap[w.heap.size]? = some (.cells #[.int .i64 0, .int .i64 0, .int .i64 0, .int .i64 0, .int .i64 0, .int .i64 0, .int .i64 0] 29 (0, 0)) ∧ P.heap[W1.heap.size]? = some (.cells #[.string T0, .string ⟨#[]⟩, .string ⟨#[]⟩, .string ⟨#[]⟩] 107 (0, 0)) by
        rw [← hP]
        refine ⟨hN.out.1.setCell (p := ⟨_, _, none⟩) (by show w.heap.size ≤ W1.heap.size; have := HF.out; omega) _, hN.out.2.1.keep fun k q => set_ne _ (by have := HW1.out k q; have := HF.out; omega), (set_ne _ (by have := HF.out; omega)).trans hN.out.2.2.1, set_blk hN.out.2.2.2 0 _⟩)
      clear hN
      go_wp2_with fail
      refine hrd.mono ?_
      rintro en y9 ⟨rfl, hw⟩
      rw [hw]
      clear hw y9 hrd
      go_wp2
      go_round
      case rel => exact ⟨1, _, by first | rfl | simp, (Or.inr (Or.inl ⟨rfl, rfl⟩)), HP⟩
      case measure => simp [intOf]
    · obtain ⟨⟨c0, c1, c2, c3⟩, fc⟩ := blk4s hN.out.2.2.2
      have f0 := fc 1
      have hrd := HQ1.out wr hN.out.2.1
      clear fc
      obtain ⟨P, hP⟩ : ∃ W, wr.setCell ⟨W1.heap.size, 1, none⟩ (.string T1) = W := ⟨_, rfl⟩
      have HP := Lib.hid (show Below w.heap.size w P ∧ DkAt P dn vb vc d ∧ P.heap[w.heap.size]? = some (.cells #[.int .i64 0, .int .i64 0, .int .i64 0, .int .i64 0, .int .i64 0, .int .i64 0, .int .i64 0] 29 (0, 0)) ∧ P.heap[W1.heap.size]? = some (.cells #[.string T0, .string T1, .string ⟨#[]⟩, .string ⟨#[]⟩] 107 (0, 0)) by
        rw [← hP]
        refine ⟨hN.out.1.setCell (p := ⟨_, _, none⟩) (by show w.heap.size ≤ W1.heap.size; have := HF.out; omega) _, hN.out.2.1.keep fun k q => set_ne _ (by have := HW1.out k q; have := HF.out; omega), (set_ne _ (by have := HF.out; omega)).trans hN.out.2.2.1, set_blk hN.out.2.2.2 1 _⟩)
      clear hN
      go_wp2_with fail
      refine hrd.mono ?_
      rintro en y9 ⟨rfl, hw⟩
      rw [hw]
      clear hw y9 hrd
      go_wp2
      go_round
      case rel => exact ⟨2, _, by first | rfl | simp, (Or.inr (Or.inr (Or.inl ⟨rfl, rfl⟩))), HP⟩
      case measure => simp [intOf]
    · obtain ⟨⟨c0, c1, c2, c3⟩, fc⟩ := blk4s hN.out.2.2.2
      have f0 := fc 2
      have hrd := HQ2.out wr hN.out.2.1
      clear fc
      obtain ⟨P, hP⟩ : ∃ W, wr.setCell ⟨W1.heap.size, 2, none⟩ (.string T2) = W := ⟨_, rfl⟩
      have HP := Lib.hid (show Below w.heap.size w P ∧ DkAt P dn vb vc d ∧ P.heap[w.heap.size]? = some (.cells #[.int .i64 0, .int .i64 0, .int .i64 0, .int .i64 0, .int .i64 0, .int .i64 0, .int .i64 0] 29 (0, 0)) ∧ P.heap[W1.heap.size]? = some (.cells #[.string T0, .string T1, .string T2, .string ⟨#[]⟩] 107 (0, 0)) by
        rw [← hP]
        refine ⟨hN.out.1.setCell (p := ⟨_, _, none⟩) (by show w.heap.size ≤ W1.heap.size; have := HF.out; omega) _, hN.out.2.1.keep fun k q => set_ne _ (by have := HW1.out k q; have := HF.out; omega), (set_ne _ (by have := HF.out; omega)).trans hN.out.2.2.1, set_blk hN.out.2.2.2 2 _⟩)
      clear hN
      go_wp2_with fail
      refine hrd.mono ?_
      rintro en y9 ⟨rfl, hw⟩
      rw [hw]
      clear hw y9 hrd
      go_wp2
      go_round
      case rel => exact ⟨3, _, by first | rfl | simp, (Or.inr (Or.inr (Or.inr (Or.inl ⟨rfl, rfl⟩)))), HP⟩
      case measure => simp [intOf]
    · obtain ⟨⟨c0, c1, c2, c3⟩, fc⟩ := blk4s hN.out.2.2.2
      have f0 := fc 3
      have hrd := HQ3.out wr hN.out.2.1
      clear fc
      obtain ⟨P, hP⟩ : ∃ W, wr.setCell ⟨W1.heap.size, 3, none⟩ (.string T3) = W := ⟨_, rfl⟩
      have HP := Lib.hid (show Below w.heap.size w P ∧ DkAt P dn vb vc d ∧ P.heap[w.heap.size]? = some (.cells #[.int .i64 0, .int .i64 0, .int .i64 0, .int .i64 0, .int .i64 0, .int .i64 0, .int .i64 0] 29 (0, 0)) ∧ P.heap[W1.heap.size]? = some (.cells #[.string T0, .string T1, .string T2, .string T3] 107 (0, 0)) by
        rw [← hP]
        refine ⟨hN.out.1.setCell (p := ⟨_, _, none⟩) (by show w.heap.size ≤ W1.heap.size; have := HF.out; omega) _, hN.out.2.1.keep fun k q => set_ne _ (by have := HW1.out k q; have := HF.out; omega), (set_ne _ (by have := HF.out; omega)).trans hN.out.2.2.1, set_blk hN.out.2.2.2 3 _⟩)
      clear hN
      go_wp2_with fail
      refine hrd.mono ?_
      rintro en y9 ⟨rfl, hw⟩
      rw [hw]
      clear hw y9 hrd
      go_wp2
      go_round
      case rel => exact ⟨4, _, by first | rfl | simp, (Or.inr (Or.inr (Or.inr (Or.inr ⟨rfl, rfl⟩)))), HP⟩
      case measure => simp [intOf]
    have HN := Lib.hid hN.out
    obtain ⟨⟨c0, c1, c2, c3⟩, -⟩ := blk4s HN.out.2.2.2
    clear hN
    go_wp2_with fail
    refine (HCh.out _).mono ?_
    rintro en u1 ⟨rfl, hb⟩
    have K1 := Lib.hid (And.intro (HN.out.1.trans (hb.mono HN.out.1.size)) (And.intro (HN.out.2.1.below hb) (And.intro (blk_on hb HN.out.2.2.1) (blk_on hb HN.out.2.2.2))))
    clear hb
    clear c0 c1 c2 c3
    obtain ⟨W5, hW5⟩ : ∃ W5, u1.alloc (.cells #[.int .i64 f.gen, .int .i64 f.tail, .int .i64 f.epoch, .int .i64 f.clock, .int .i64 f.b, .int .i64 f.l, .int .i64 f.f] 29) = W5 := ⟨_, rfl⟩
    have hbW5 : Below u1.heap.size u1 W5 := by rw [← hW5]; exact alloc_below u1 _
    have kW5 : W5.heap[u1.heap.size]? = some (.cells #[.int .i64 f.gen, .int .i64 f.tail, .int .i64 f.epoch, .int .i64 f.clock, .int .i64 f.b, .int .i64 f.l, .int .i64 f.f] 29 (0, 0)) := by rw [← hW5]; exact alloc_new u1 _
    have K2 := Lib.hid (And.intro (K1.out.1.trans (hbW5.mono K1.out.1.size)) (And.intro (K1.out.2.1.below hbW5) (And.intro (blk_on hbW5 K1.out.2.2.1) (And.intro (blk_on hbW5 K1.out.2.2.2) (kW5)))))
    clear hbW5 kW5
    obtain ⟨⟨x0, x1, x2, x3, x4, x5, x6⟩, -⟩ := blk7j K2.out.2.2.2.2
    have hss := HSz.out _ (K2.out.2.1.below (drew_below W5))
    obtain ⟨⟨q0, q1, q2, q3, q4, q5, q6⟩, -⟩ := blk7j (blk_on (drew_below W5) K2.out.2.2.2.2)
    go_upto_region 13 with fail
    refine wp_region_still_lit (by kernel_rfl) (by kernel_rfl) ?_
    repeat (first | still_call hss | still_step)
    refine wpStill_nil ?_
    change Exit.then _ _ _ _ W5.drew
    have hb := drew_below W5
    clear hW5 hss q0 q1 q2 q3 q4 q5 q6 x0 x1 x2 x3 x4 x5 x6
    have K3 := Lib.hid (And.intro (K2.out.1.trans (hb.mono K2.out.1.size)) (And.intro (K2.out.2.1.below hb) (And.intro (blk_on hb K2.out.2.2.1) (And.intro (blk_on hb K2.out.2.2.2.1) (blk_on hb K2.out.2.2.2.2)))))
    clear hb
    generalize W5.drew = u9 at *
    obtain ⟨⟨c0, c1, c2, c3⟩, -⟩ := blk4s K3.out.2.2.2.1
    obtain ⟨⟨x0, x1, x2, x3, x4, x5, x6⟩, -⟩ := blk7j K3.out.2.2.2.2
    go_wp2_with fail
    refine (HPk.out _).mono ?_
    rintro en u2 ⟨rfl, hb⟩
    have K4 := Lib.hid (And.intro (K3.out.1.trans (hb.mono K3.out.1.size)) (And.intro (K3.out.2.1.below hb) (And.intro (blk_on hb K3.out.2.2.1) (And.intro (blk_on hb K3.out.2.2.2.1) (blk_on hb K3.out.2.2.2.2)))))
    clear hb
    clear c0 c1 c2 c3 x0 x1 x2 x3 x4 x5 x6
    obtain ⟨⟨x0, x1, x2, x3, x4, x5, x6⟩, -⟩ := blk7j K4.out.2.2.2.2
    obtain ⟨WR, hWR⟩ : ∃ W, u2.setRow w.heap.size #[.int .i64 f.gen, .int .i64 f.tail, .int .i64 f.epoch, .int .i64 f.clock, .int .i64 f.b, .int .i64 f.l, .int .i64 f.f] = W := ⟨_, rfl⟩
    have KE := Lib.hid (show WR.heap[w.heap.size]? = some (.cells #[.int .i64 f.gen, .int .i64 f.tail, .int .i64 f.epoch, .int .i64 f.clock, .int .i64 f.b, .int .i64 f.l, .int .i64 f.f] 29 (0, 0)) by rw [← hWR]; exact setRow_heap u2 _ _ _ _ _ K4.out.2.2.1)
    have BE := Lib.hid (show Below w.heap.size w WR by rw [← hWR]; exact below_setRow K4.out.1 (Nat.le_refl _) _)
    go_wp2_with (refine wpList_store_blk rfl 29 (.tmp 2) (.tmp 60) rfl w.heap.size 0 7 rfl #[.int .i64 0, .int .i64 0, .int .i64 0, .int .i64 0, .int .i64 0, .int .i64 0, .int .i64 0] #[.int .i64 f.gen, .int .i64 f.tail, .int .i64 f.epoch, .int .i64 f.clock, .int .i64 f.b, .int .i64 f.l, .int .i64 f.f] #[.int .i64 f.gen, .int .i64 f.tail, .int .i64 f.epoch, .int .i64 f.clock, .int .i64 f.b, .int .i64 f.l, .int .i64 f.f] rfl 29 K4.out.2.2.1 rfl (Nat.le_refl 7) (by kernel_rfl) (sup_one _ _ _ _ _ _ _) (splice_all _ _ rfl) ?_; rw [hWR])
    obtain ⟨⟨y0, y1, y2, y3, y4, y5, y6⟩, -⟩ := blk7j KE.out
    refine bodyPost_ret (v := .tuple #[.agg #[.int .i64 f.gen, .int .i64 f.tail, .int .i64 f.epoch, .int .i64 f.clock, .int .i64 f.b, .int .i64 f.l, .int .i64 f.f], .string FK, .int .i64 0]) (by simp [results, Tryz.results48, go_sem, y0, y1, y2, y3, y4, y5, y6]) rfl ?_
    exact HR.out _ _ ⟨rfl, BE.out⟩
end Go.Proofs.YteppfjgglelpbaaGreat
/- A disk opened: of the program's journal. -/
set_option maxRecDepth 100000
namespace Go.Proofs.YteppfjgglelpbaaGreat
open Go.RowKit Ks
set_option linter.unusedVariables false
set_option linter.unusedSimpArgs false
/-- a disk that has a superblock and a key -/
structure Has (d : DS) : Prop where
  up : d.down = false
  r0 : (readD d 0).2 = 0
  r1 : (readD d 1).2 = 0
  r2 : (readD d 2).2 = 0
  r3 : (readD d 3).2 = 0
  ch : chE (shows d 0) (shows d 1) = 0
  b : (foundS d).b = (d.blocks.length : Nat)
  pk : pickE (shows d 2) (shows d 3) (foundS d).epoch = 0
  z2 : (shows d 2).size ≤ 4096
  z3 : (shows d 3).size ≤ 4096
  ok : sOk (foundS d) = true
/-- what opening leaves -/
def OpenP (d : DS) (w : World) (dn : Nat) (vb vc : Value) (e : Ending) (w' : World) : Prop :=
  (rightE d (foundS d) ≠ 0 ∧ e = .returned (.tuple #[.pointer none, .slice none 0 0, .string ⟨#[]⟩, .int .i64 (rightE d (foundS d))]) ∧ ∃ vc', DkAt w' dn vb vc' (rightD d (foundS d)) ∧ Turn w w' (DF dn vb vc) (DF dn vb vc')) ∨
  (rightE d (foundS d) = 0 ∧ ∃ jn sn vc' v, e = .returned (.tuple #[.pointer (some ⟨jn, 0, none⟩), v, .string (foundK d), .int .i64 0]) ∧ JLv w' jn sn dn vb vc' ⟨rightD d (foundS d), foundS d, (foundS d).tail, false⟩ ∧ Rd strE w' v (blocksL (rightD d (foundS d)) (foundS d)) ∧
    Turn w w' (DF dn vb vc) (FL jn sn dn vb vc') ∧ ∀ b, v.ownBlock = some b → w.heap.size ≤ b ∧ ¬ FL jn sn dn vb vc' b)
set_option maxRecDepth 100000 in
set_option maxHeartbeats 8000000 in
theorem jopen_any {dn : Nat} {vb vc : Value} {d : DS} (w : World) (h : DkAt w dn vb vc d) (hs : Has d) : Calls Tryz.prog 10 #[.pointer (some ⟨dn, 0, none⟩)] w (OpenP d w dn vb vc) := by
  refine calls_by fun R HR => ?_
  have HD := Lib.hid h
  have ho := sup_ok.1 hs.ok
  have hg := geo_ok.1 ho.1
  have hdg : dataG (foundS d) = (foundS d).b - 4 := by unfold dataG geoD; rw [if_pos ho.1]
  have HFo := Lib.hid (fun (A : World) (h : DkAt A dn vb vc d) => jfound_any A h hs.r0 hs.r1 hs.r2 hs.r3 hs.ch hs.b hs.pk hs.z2 hs.z3)
  have HSp := Lib.hid (fun (A : World) => spnew_any (foundS d) (foundS d).tail A ho.1 (by omega))
  have HRi := Lib.hid (fun (A : World) (jn : Nat) (spv : Value) (h : JHd A jn spv dn vb vc (foundS d) false d) => jright_any A h hs.ok)
  have HSz := Lib.hid (dsize_any w h)
  have HDo := Lib.hid (ddown_any w h)
  rw [← hs.b] at HSz
  rw [hs.up] at HDo
  have hz : ((foundS d).b == 0) = false := by have := hg.1; simp; omega
  have HTL := Lib.hid (show 0 ≤ (foundS d).tail ∧ (foundS d).tail ≤ 1020 by omega)
  have HBB := Lib.hid (show 0 ≤ (foundS d).b ∧ (foundS d).b ≤ 1024 by omega)
  have HP1 := Lib.hid (show rightE d (foundS d) ≠ 0 → ∀ w', (∃ vc', DkAt w' dn vb vc' (rightD d (foundS d)) ∧ Turn w w' (DF dn vb vc) (DF dn vb vc')) → R (.returned (.tuple #[.pointer none, .slice none 0 0, .string ⟨#[]⟩, .int .i64 (rightE d (foundS d))])) w' from fun q w' q2 => HR.out _ _ (Or.inl ⟨q, rfl, q2⟩))
  have HP2 := Lib.hid (show rightE d (foundS d) = 0 → ∀ jn sn vc' v w', JLv w' jn sn dn vb vc' ⟨rightD d (foundS d), foundS d, (foundS d).tail, false⟩ → Rd strE w' v (blocksL (rightD d (foundS d)) (foundS d)) → Turn w w' (DF dn vb vc) (FL jn sn dn vb vc') → (∀ b, v.ownBlock = some b → w.heap.size ≤ b ∧ ¬ FL jn sn dn vb vc' b) → R (.returned (.tuple #[.pointer (some ⟨jn, 0, none⟩), v, .string (foundK d), .int .i64 0])) w' from fun q jn sn vc' v w' q2 q3 q4 q5 => HR.out _ _ (Or.inr ⟨q, jn, sn, vc', v, rfl, q2, q3, q4, q5⟩))
  have HBL := Lib.hid (show ∀ D s, blocksL D s = (List.range s.tail.toNat).map fun (i : Nat) => shows D (placeG s i) from fun _ _ => rfl)
  clear ho hg hdg hs h HR
  generalize rightE d (foundS d) = RE at *
  generalize rightD d (foundS d) = RD at *
  generalize foundK d = FK at *
  generalize foundS d = f at *
  go_enter Tryz.func10, Tryz.ntmps10
  go_wp2_with fail
  refine HSz.out.mono ?_
  rintro en y9 ⟨rfl, hw⟩
  rw [hw]
  clear hw y9
  go_wp2_with fail
  refine HDo.out.mono ?_
  rintro en y9 ⟨rfl, hw⟩
  rw [hw]
  clear hw y9
  go_wp2_with fail
  refine (HFo.out w HD.out).mono ?_
  rintro en v1 ⟨rfl, hb⟩
  have H1 := Lib.hid (And.intro hb (HD.out.below hb))
  have HB1 := Lib.hid hb.size
  clear hb HFo HSz HDo
  obtain ⟨W1, hW1⟩ : ∃ W1, v1.alloc (.cells #[.int .i64 f.gen, .int .i64 f.tail, .int .i64 f.epoch, .int .i64 f.clock, .int .i64 f.b, .int .i64 f.l, .int .i64 f.f] 29) = W1 := ⟨_, rfl⟩
  have hbW : Below v1.heap.size v1 W1 := by rw [← hW1]; exact alloc_below v1 _
  have kW : W1.heap[v1.heap.size]? = some (.cells #[.int .i64 f.gen, .int .i64 f.tail, .int .i64 f.epoch, .int .i64 f.clock, .int .i64 f.b, .int .i64 f.l, .int .i64 f.f] 29 (0, 0)) := by rw [← hW1]; exact alloc_new v1 _
  have H2 := Lib.hid (And.intro (H1.out.1.trans (hbW.mono H1.out.1.size)) (And.intro (H1.out.2.below hbW) kW))
  clear hbW kW H1
  obtain ⟨⟨x0, x1, x2, x3, x4, x5, x6⟩, -⟩ := blk7j H2.out.2.2
  go_wp2_with fail
  refine (HSp.out W1).mono ?_
  rintro en v2 ⟨sn, rfl, hsp, hsn, hb⟩
  have H3 := Lib.hid (And.intro (H2.out.1.trans (hb.mono H2.out.1.size)) (And.intro (H2.out.2.1.below hb) (And.intro (blk_on hb H2.out.2.2) (And.intro hsp (Nat.le_trans H2.out.1.size hsn)))))
  have HW0 := Lib.hid (show w.heap.size ≤ v1.heap.size from HB1.out)
  clear hb hsp hsn H2 hW1 x0 x1 x2 x3 x4 x5 x6 HSp
  obtain ⟨W2, hW2⟩ : ∃ W, v2.alloc (.cells (jrnC (.pointer (some ⟨sn, 0, none⟩)) dn f false) 31) = W := ⟨_, rfl⟩
  have hbW : Below v2.heap.size v2 W2 := by rw [← hW2]; exact alloc_below v2 _
  have kW : W2.heap[v2.heap.size]? = some (.cells (jrnC (.pointer (some ⟨sn, 0, none⟩)) dn f false) 31 (0, 0)) := by rw [← hW2]; exact alloc_new v2 _
  have hlt := lt_of_block H3.out.2.2.2.1
  have H4 := Lib.hid (And.intro (H3.out.1.trans (hbW.mono H3.out.1.size)) (And.intro (show JHd W2 v2.heap.size (.pointer (some ⟨sn, 0, none⟩)) dn vb vc f false d from ⟨kW, H3.out.2.1.below hbW, fun q => by have := H3.out.2.1.lt _ q; omega⟩) (And.intro (blk_on hbW H3.out.2.2.1) (And.intro (H3.out.2.2.2.1.below hbW) (show ¬ FJ v2.heap.size dn vb vc sn ∧ w.heap.size ≤ sn ∧ w.heap.size ≤ v2.heap.size from ⟨fun q => by
    rcases q with q | q
    · omega
    · have := HD.out.lt _ q; have := H3.out.2.2.2.2; omega, H3.out.2.2.2.2, H3.out.1.size⟩)))))
  clear hbW kW hlt
  obtain ⟨⟨x0, x1, x2, x3, x4, x5, x6⟩, -⟩ := blk7j H3.out.2.2.1
  have HRi2 := Lib.hid (HRi.out W2 _ _ H4.out.2.1)
  clear HRi
  go_wp2_with fail
  refine HRi2.out.mono ?_
  rintro en y ⟨rfl, vc2, h1, h2⟩
  have hs1 : v1.heap.size < v2.heap.size := lt_of_block H3.out.2.2.1
  have hs2 : ¬ FJ v2.heap.size dn vb vc v1.heap.size := fun q => by
    rcases q with q | q
    · omega
    · have := HD.out.lt _ q; have := HW0.out; omega
  have hsp := sp_hd H4.out.2.2.2.1 H4.out.2.2.2.2.1 h2
  have htw : Turn w y (DF dn vb vc) (FL v2.heap.size sn dn vb vc2) := by
    have q := (Turn.of_below (FJ v2.heap.size dn vb vc) H4.out.1).trans h2
    have q3 := H4.out.2.2.2.2.2
    refine ⟨q.os, q.tape, q.output, q.size, fun k k1 k2 => q.block k k1 fun k3 => ?_, fun k k1 => ?_⟩
    · rcases k3 with k3 | k3
      · omega
      · exact k2 k3
    · rcases k1 with k1 | k1
      · exact Or.inr (by omega)
      · rcases q.foot k k1 with (k2 | k2) | k2
        · exact Or.inr (by omega)
        · exact Or.inl k2
        · exact Or.inr k2
  have H5 := Lib.hid (And.intro h1 (And.intro hsp.1 (And.intro hsp.2 (And.intro htw ((h2.block v1.heap.size (lt_of_block H4.out.2.2.1) hs2).trans H4.out.2.2.1)))))
  clear h1 h2 hs1 hs2 hsp htw HRi2 hW2 H3 H4 x0 x1 x2 x3 x4 x5 x6
  by_cases hre : RE = 0
  case neg =>
    have hreb : (RE != 0) = true := by simpa using hre
    have HQ := Lib.hid (HP1.out hre y ⟨vc2, H5.out.1.dsk, H5.out.2.2.2.1.mono fun k q => Or.inr (Or.inr q)⟩)
    clear HP1 HP2 hre
    go_wp2
    exact bodyPost_ret (v := .tuple #[.pointer none, .slice none 0 0, .string ⟨#[]⟩, .int .i64 RE]) (by simp [results, Tryz.results10, go_sem]) rfl HQ.out
  subst hre
  have HQ := Lib.hid (HP2.out rfl)
  have HJ := Lib.hid (show JLv y v2.heap.size sn dn vb vc2 ⟨RD, f, f.tail, false⟩ from ⟨by have := H5.out.1; simpa using this, H5.out.2.1, H5.out.2.2.1⟩)
  clear HP1 HP2
  obtain ⟨⟨x0, x1, x2, x3, x4, x5, x6⟩, -⟩ := blk7j H5.out.2.2.2.2
  have HROW := Lib.hid (Row.nil (E := strE) y y.heap.size 9)
  go_wp2_with fail
  clear x0 x1 x2 x3 x4 x5 x6
  go_loopw [13, 53] (fun v13 v53 wx => ∃ k : Nat, k ≤ f.tail.toNat ∧ v53 = .int .i64 (k : Int) ∧ Hid (Row strE wx y.heap.size 9 v13 ((List.range k).map fun (i : Nat) => shows RD (placeG f i)) ∧ Below y.heap.size y wx)) (fun v13 v53 _ => f.tail.toNat - (intOf v53).toNat)
  case atStart => exact ⟨0, Nat.zero_le _, rfl, Lib.hid ⟨HROW.out, Below.refl _ _⟩⟩
  case round =>
    obtain ⟨k, hk, rfl, hN⟩ := hrel
    have htl := HTL.out
    by_cases hlt : (k : Int) < f.tail
    case pos =>
      have hz2 : decide ((k : Int) < f.tail) = true := decide_eq_true hlt
      have HPl := Lib.hid (jplace_any (k : Int) wr (HJ.out.hd.below hN.out.2) (by have := HBB.out; show -9223372036854775808 ≤ f.b ∧ f.b ≤ 9223372036854775807; omega))
      have HX := Lib.hid (show (List.range (k + 1)).map (fun (i : Nat) => shows RD (placeG f i)) = (List.range k).map (fun (i : Nat) => shows RD (placeG f i)) ++ [shows RD (placeG f (k : Int))] by rw [List.range_succ, List.map_append]; rfl)
      have HLN := Lib.hid (show k + 1 ≤ f.tail.toNat by omega)
      have hw2 : wrap64 ((k : Int) + 1) = ((k + 1 : Nat) : Int) := by unfold wrap64; omega
      have HN := Lib.hid hN.out
      clear hN hk hlt htl
      go_wp2_with fail
      refine HPl.out.mono ?_
      rintro en q1 ⟨rfl, hb⟩
      have HN1 := Lib.hid (And.intro (HN.out.1.below hb) (HN.out.2.trans (hb.mono HN.out.2.size)))
      clear hb HN HPl
      have HRd := Lib.hid (dread_any (placeG f (k : Int)) q1 (HJ.out.hd.dsk.below HN1.out.2))
      rw [show (readD (⟨RD, f, f.tail, false⟩ : JrnT).d (placeG f (k : Int))).1 = shows RD (placeG f (k : Int)) from rfl] at HRd
      generalize shows RD (placeG f (k : Int)) = T at *
      go_wp2_with fail
      refine HRd.out.mono ?_
      rintro en y9 ⟨rfl, hw⟩
      rw [hw]
      clear hw y9 HRd
      generalize hA : (List.range k).map (fun (i : Nat) => shows RD (placeG f i)) = A at *
      have hAl : A.length = k := by rw [← hA]; simp
      go_wp2_with (at_builtin; refine wpList_append_row _ rfl _ _ 38 rfl strT y.heap.size _ _ A [T] rfl rfl (HN1.out.1.below (alloc_below _ _)) (Rd.single (E := strE) T (alloc_new _ _) rfl) (by have := HN1.out.2.size; simp; omega) (by have := HLN.out; have := HTL.out; simp; omega) (by decide) ?_)
      rintro v' w' ⟨hr, hg, -, -⟩
      have HN2 := Lib.hid (show Row strE w' y.heap.size 9 v' ((List.range (k + 1)).map fun (i : Nat) => shows RD (placeG f i)) ∧ Below y.heap.size y w' from ⟨by rw [HX.out]; exact hr, (HN1.out.2.alloc HN1.out.2.size _).grown hg (by have := HN1.out.2.size; simp; omega) (fun b e => (HN1.out.1.lt e).1)⟩)
      clear hr hg HX HN1 hA hAl
      go_wp2
      go_round
      case rel => exact ⟨k + 1, HLN.out, by first | rw [hw2] | simp, HN2⟩
      case measure => have := HLN.out; first | (rw [hw2]; simp [intOf]; omega) | (simp [intOf]; omega)
    have hz2 : decide ((k : Int) < f.tail) = false := decide_eq_false hlt
    have HK : k = f.tail.toNat := by omega
    subst HK
    have HN := Lib.hid hN.out
    have HZ := Lib.hid (HQ.out v2.heap.size sn vc2 _ wr (HJ.out.below HN.out.2) (by rw [HBL.out]; exact HN.out.1.rd) (H5.out.2.2.2.1.trans (Turn.of_below _ HN.out.2)) (fun b e => by
      have q := (HN.out.1.lt e).1
      have q2 := H5.out.2.2.2.1.size
      exact ⟨by omega, fun q3 => by have := HJ.out.lt b q3; omega⟩))
    clear hN hk hlt htl HQ
    go_wp2
    exact bodyPost_ret (by simp [results, Tryz.results10, go_sem]) rfl HZ.out
end Go.Proofs.YteppfjgglelpbaaGreat
/- The program's disk: new. -/
set_option maxRecDepth 100000
namespace Ks
open Go Go.RowKit
set_option linter.unusedVariables false
theorem zeros4096 : zerosS 4096 = ⟨(List.replicate 4096 0).toArray⟩ := rfl
theorem repl_succ {α : Type} (k : Nat) (x : α) : List.replicate (k + 1) x = List.replicate k x ++ [x] := List.replicate_succ'
theorem blk5 {w : World} {b : Nat} {c0 c1 c2 c3 c4 : Value} {T : TypeId} (h : w.heap[b]? = some (.cells #[c0, c1, c2, c3, c4] T (0, 0))) : w.cell? ⟨b, 0, none⟩ = some c0 ∧ w.cell? ⟨b, 1, none⟩ = some c1 := ⟨by rw [cell_of_row w b 0 _ _ _ h]; rfl, by rw [cell_of_row w b 1 _ _ _ h]; rfl⟩
end Ks
namespace Go.Proofs.YteppfjgglelpbaaGreat
open Go.RowKit Ks
set_option linter.unusedVariables false

theorem eg_repeat : ∀ args w, (callFunc 54 args).run Tryz.prog w = .ok (.enter 54 args) w := fun _ _ => rfl
theorem repeat4096 (w : World) : Calls Tryz.prog 54 #[.string ⟨#[0]⟩, .int .i64 4096] w fun e w' => e = .returned (.string (zerosS 4096)) ∧ Below w.heap.size w w' :=
  (Tryz.strings_Repeat ⟨#[0]⟩ 4096 w (by decide) (by decide)).mono fun e w' ⟨h1, h2⟩ => ⟨by rw [h1, repeat_zeros]; rfl, h2⟩

theorem dnew_err (m : Int) (w : World) (h : m < 8 ∨ 1024 < m) : Calls Tryz.prog 18 #[.int .i64 m] w fun e w' => e = .returned (.tuple #[.pointer none, .int .i64 2]) ∧ w' = w := by
  rcases h with h | h
  all_goals
    go_enter Tryz.func18, Tryz.ntmps18
    go_wp2
    go_ret2
    exact ⟨rfl, rfl⟩

set_option maxHeartbeats 2000000 in
theorem dnew_any (m : Nat) (w : World) (h8 : 8 ≤ m) (h1024 : m ≤ 1024) : Calls Tryz.prog 18 #[.int .i64 m] w fun e w' => ∃ n vb, e = .returned (.tuple #[.pointer (some ⟨n, 0, none⟩), .int .i64 0]) ∧ DkAt w' n vb (.slice none 0 0) (newD m) ∧ Below w.heap.size w w' ∧ ∀ k, DF n vb (.slice none 0 0) k → w.heap.size ≤ k := by
  refine calls_by fun R HR => ?_
  have h8i : ¬ (m : Int) < 8 := by omega
  have h1024i : ¬ (1024 : Int) < (m : Int) := by omega
  have HM := Lib.hid (And.intro h8 h1024)
  clear h8 h1024
  obtain ⟨Z, hZ⟩ : ∃ Z, zerosS 4096 = Z := ⟨_, rfl⟩
  have HR4 : Hid (∀ w : World, Calls Tryz.prog 54 #[.string ⟨#[0]⟩, .int .i64 4096] w fun e w' => e = .returned (.string Z) ∧ Below w.heap.size w w') := Lib.hid fun w => by rw [← hZ]; exact repeat4096 w
  have HRC : Hid (∀ w : World, Calls Tryz.prog 54 #[.string ⟨#[0]⟩, .int .i64 4096] w fun e w' => ∃ v, e = .returned v ∧ (v = .string Z ∧ Below w.heap.size w w')) := Lib.hid fun w => (HR4.out w).mono fun e w' ⟨h1, h2⟩ => ⟨_, h1, rfl, h2⟩
  have HZ := Lib.hid hZ
  clear hZ
  go_enter Tryz.func18, Tryz.ntmps18
  go_wp2_with fail
  have HF : Hid (DkAt (w.alloc (.cells #[.slice none 0 0, .slice none 0 0, .bool true, .bool false, .int .i64 0] 90)) w.heap.size (.slice none 0 0) (.slice none 0 0) ⟨List.replicate 0 Z, [], false, 0⟩ ∧ Below w.heap.size w (w.alloc (.cells #[.slice none 0 0, .slice none 0 0, .bool true, .bool false, .int .i64 0] 90)) ∧ ∀ k, DF w.heap.size (.slice none 0 0) (.slice none 0 0) k → w.heap.size ≤ k) := Lib.hid
    ⟨⟨alloc_new _ _, Row.nil _ _ _, Row.nil _ _ _, by simp [Value.ownBlock], by simp [Value.ownBlock], by simp [Value.ownBlock], ⟨Nat.zero_le _, Nat.zero_le _, (fun p hp => by cases hp), Nat.zero_le _⟩⟩, alloc_below _ _, fun k hk => by
      rcases hk with rfl | e | e
      · exact Nat.le_refl _
      · simp [Value.ownBlock] at e
      · simp [Value.ownBlock] at e⟩
  generalize w.alloc (.cells #[.slice none 0 0, .slice none 0 0, .bool true, .bool false, .int .i64 0] 90) = W at *
  generalize hn : w.heap.size = n at *
  have HN := Lib.hid hn
  clear hn
  go_loopw [14] (fun i wx => ∃ (k : Nat) (vb : Value), k ≤ m ∧ i = .int .i64 k ∧ Hid (DkAt wx n vb (.slice none 0 0) ⟨List.replicate k Z, [], false, 0⟩ ∧ Below n w wx ∧ ∀ k, DF n vb (.slice none 0 0) k → n ≤ k)) (fun i _ => m - (intOf i).toNat)
  case atStart => exact ⟨0, _, by omega, rfl, HF⟩
  case round =>
    clear HF
    obtain ⟨k, vb, hk, rfl, hN⟩ := hrel
    by_cases hlt : k < m
    · have hlti : (k : Int) < (m : Int) := by omega
      have c0 := hN.out.1.cells.1
      have f0 := hN.out.1.froz 0
      obtain ⟨a0, cap0, hv0, _⟩ := hN.out.1.rb.shape
      change vb = .slice a0 (List.replicate k Z).length cap0 at hv0
      rw [List.length_replicate] at hv0
      rw [hv0] at c0
      have HV := Lib.hid hv0
      clear hv0
      go_wp2_with fail
      have HRow := Lib.hid (show Row strE wr 0 9 (.slice a0 k cap0) (List.replicate k Z) by rw [← HV.out]; exact hN.out.1.rb)
      have hnlt := lt_of_block hN.out.1.blk
      have HN2 := Lib.hid hnlt
      have BLK : Hid (wr.drew.heap[n]? = some (.cells #[.slice a0 k cap0, .slice none 0 0, .bool true, .bool false, .int .i64 0] 90 (0, 0))) := Lib.hid (by rw [← HV.out]; exact hN.out.1.blk)
      have HNE : Hid ((Value.slice a0 k cap0).ownBlock ≠ some n) := Lib.hid (by rw [← HV.out]; exact hN.out.1.nb)
      clear hnlt
      have d0 : wr.drew.cell? ⟨n, 0, none⟩ = some (.slice a0 k cap0) := c0
      go_region_law (first
        | ((refine step_call rfl 54 _ _ rfl eg_repeat #[.string ⟨#[0]⟩, .int .i64 4096] ?_ (HRC.out _) ?_; rfl; rintro v w1 ⟨rfl, hb1⟩; obtain ⟨e0, e1⟩ := cell_on hb1 d0))
        | ((refine step_append_row rfl (.tmp 21) (.tmp 23) 38 rfl strT 0 _ _ (List.replicate k Z) [Z] (by simp [Act.eval]) (by simp [Act.eval]) (((HRow.out.below (drew_below _)).below hb1).below (alloc_below _ _)) (Rd.single (E := strE) Z (alloc_new _ _) rfl) (Nat.zero_le _) (by simp; have := HM.out.2; omega) (by decide) ?_; intro v' w3 hG; obtain ⟨a2, n2, cap2, rfl⟩ := hG.1.any; have hbn := hG.block (blk_keep ((hb1.block n (show n < wr.drew.heap.size from HN2.out)).trans BLK.out) _) HNE.out; have k0 := (blk5 hbn).1; have g0 := frozen_of_row w3 n 0 _ _ hbn)))
      all_goals
        have hN3 : DkAt w1 n vb (.slice none 0 0) ⟨List.replicate k Z, [], false, 0⟩ := (hN.out.1.below (drew_below _)).below hb1
        rw [HV.out] at hN3
        obtain ⟨q1, q2⟩ := hN3.appendB _ hG ⟨by show (List.replicate k Z ++ [Z]).length ≤ _; simp; have := HM.out.2; omega, Nat.zero_le _, (fun p hp => by cases hp), Nat.zero_le _⟩
        have HQ := Lib.hid (And.intro q1 (And.intro (((hN.out.2.1.trans ((drew_below wr).mono (Nat.le_of_lt HN2.out))).trans (hb1.mono (Nat.le_of_lt HN2.out))).trans (q2.below (B := n) (by rw [← HV.out]; exact hN.out.2.2) (Nat.le_trans (Nat.le_of_lt HN2.out) hb1.size))) (q2.low (B := n) (by rw [← HV.out]; exact hN.out.2.2) (Nat.le_trans (Nat.le_of_lt HN2.out) hb1.size))))
        clear q1 q2 hN3
        go_wp2_with fail
        go_roundw
        case' rel => exact ⟨k + 1, _, by omega, by go_num, by rw [repl_succ]; exact HQ⟩
        case' measure => simp [intOf]; omega
    · obtain rfl : k = m := by omega
      go_wp2
      exact HR.out _ _ ⟨n, vb, rfl, by rw [newD, ← zeros4096, HZ.out]; exact hN.out.1, hN.out.2.1, hN.out.2.2⟩
end Go.Proofs.YteppfjgglelpbaaGreat
/- The program's disk: copies of its rows; what is seized; a disk out of an image. -/
set_option maxRecDepth 100000
namespace Ks
open Go Go.RowKit
set_option linter.unusedVariables false
theorem below_on {w W w1 : World} (h : Below w.heap.size w W) (hb : Below W.heap.size W w1) : Below w.heap.size w w1 := h.trans (hb.mono h.size)
end Ks
namespace Go.Proofs.YteppfjgglelpbaaGreat
open Go.RowKit Ks
set_option linter.unusedVariables false
variable {n : Nat} {vb vc : Value} {s : DS}

set_option maxHeartbeats 1000000 in
theorem dclone_str (lv : Value) (l : List ByteArray) (w : World) (hl : Rd strE w lv l) (hlen : l.length ≤ 1000000) :
    Calls Tryz.prog 60 #[lv] w fun e w' => ∃ v', e = .returned v' ∧ Row strE w' w.heap.size 9 v' l ∧ Below w.heap.size w w' := by
  refine calls_by fun R HR => ?_
  have HL := Lib.hid hl
  have q22 : ∀ (w : World) (a : Option Addr) (n c n' c' : Nat), (binOp .eql 38 (.slice a n c) (.slice none n' c')).run Tryz.prog w = .ok (.bool a.isNone) w := fun w a n c n' c' => Lib.run_eql_slice_nil w _ _ a n c n' c' Tryz.underlying38
  obtain ⟨a, cap, rfl, hcap, hnone⟩ := hl.shape
  cases a with
  | none =>
    have hc0 := hnone rfl
    have : l = [] := List.length_eq_zero_iff.1 (by omega)
    subst this
    clear hnone hl
    subst hc0
    go_enter Tryz.func60, Tryz.ntmps60
    go_wp2
    exact HR.out _ _ ⟨_, rfl, Row.nil _ _ _, Below.refl _ _⟩
  | some ad =>
    clear hnone hl
    obtain ⟨W1, hW1⟩ : ∃ W1, w.alloc (.cells #[] 9) = W1 := ⟨_, rfl⟩
    have hb1 : Below w.heap.size w W1 := by rw [← hW1]; exact alloc_below w _
    have hrow : Row strE W1 w.heap.size 9 (.slice (some ⟨w.heap.size, 0, none⟩) 0 0) [] := by rw [← hW1]; exact Row.made w _ _ (Nat.le_refl _)
    have H1 := Lib.hid (And.intro hb1 (And.intro hrow (HL.out.below hb1)))
    clear hb1 hrow
    go_enter Tryz.func60, Tryz.ntmps60
    go_wp2_with (at_builtin; refine wpList_append_row _ rfl _ _ 38 rfl strT w.heap.size _ _ [] l rfl rfl H1.out.2.1 H1.out.2.2 H1.out.1.size (by simp; omega) (by decide) ?_)
    intro v' w2 hG
    have HG := Lib.hid hG
    clear hG
    go_wp2
    exact HR.out _ _ ⟨v', rfl, HG.out.1, HG.out.below H1.out.1 H1.out.1.size (fun b hb => by simp [Value.ownBlock] at hb; omega)⟩

set_option maxHeartbeats 1000000 in
theorem dclone_put (lv : Value) (l : List PutT) (w : World) (hl : Rd pwE w lv l) (hlen : l.length ≤ 1000000) :
    Calls Tryz.prog 61 #[lv] w fun e w' => ∃ v', e = .returned v' ∧ Row pwE w' w.heap.size 97 v' l ∧ Below w.heap.size w w' := by
  refine calls_by fun R HR => ?_
  have HL := Lib.hid hl
  have q22 : ∀ (w : World) (a : Option Addr) (n c n' c' : Nat), (binOp .eql 53 (.slice a n c) (.slice none n' c')).run Tryz.prog w = .ok (.bool a.isNone) w := fun w a n c n' c' => Lib.run_eql_slice_nil w _ _ a n c n' c' Tryz.underlying53
  obtain ⟨a, cap, rfl, hcap, hnone⟩ := hl.shape
  cases a with
  | none =>
    have hc0 := hnone rfl
    have : l = [] := List.length_eq_zero_iff.1 (by omega)
    subst this
    clear hnone hl
    subst hc0
    go_enter Tryz.func61, Tryz.ntmps61
    go_wp2
    exact HR.out _ _ ⟨_, rfl, Row.nil _ _ _, Below.refl _ _⟩
  | some ad =>
    clear hnone hl
    obtain ⟨W1, hW1⟩ : ∃ W1, w.alloc (.cells #[] 97) = W1 := ⟨_, rfl⟩
    have hb1 : Below w.heap.size w W1 := by rw [← hW1]; exact alloc_below w _
    have hrow : Row pwE W1 w.heap.size 97 (.slice (some ⟨w.heap.size, 0, none⟩) 0 0) [] := by rw [← hW1]; exact Row.made w _ _ (Nat.le_refl _)
    have H1 := Lib.hid (And.intro hb1 (And.intro hrow (HL.out.below hb1)))
    clear hb1 hrow
    go_enter Tryz.func61, Tryz.ntmps61
    go_wp2_with (at_builtin; refine wpList_append_row _ rfl _ _ 53 rfl pwT w.heap.size _ _ [] l rfl rfl H1.out.2.1 H1.out.2.2 H1.out.1.size (by simp; omega) (by decide) ?_)
    intro v' w2 hG
    have HG := Lib.hid hG
    clear hG
    go_wp2
    exact HR.out _ _ ⟨v', rfl, HG.out.1, HG.out.below H1.out.1 H1.out.1.size (fun b hb => by simp [Value.ownBlock] at hb; omega)⟩

theorem eg_cs : ∀ args w, (callFunc 60 args).run Tryz.prog w = .ok (.enter 60 args) w := fun _ _ => rfl
theorem eg_cp : ∀ args w, (callFunc 61 args).run Tryz.prog w = .ok (.enter 61 args) w := fun _ _ => rfl

set_option maxHeartbeats 2000000 in
theorem dseize_rows (w : World) (h : DkAt w n vb vc s) : Calls Tryz.prog 23 #[.pointer (some ⟨n, 0, none⟩)] w fun e w' => ∃ va vd, e = .returned (.agg #[va, vd]) ∧ Row strE w' w.heap.size 9 va s.blocks ∧ Row pwE w' w.heap.size 97 vd s.cache ∧ Below w.heap.size w w' := by
  refine calls_by fun R HR => ?_
  have HH := Lib.hid h
  have hbl := h.ok.blocks
  have hcl := h.ok.cache
  obtain ⟨c0, c1, c2, c3, c4⟩ := h.cells
  clear h c3 c4
  go_enter Tryz.func23, Tryz.ntmps23
  go_wp2_with fail
  obtain ⟨W, hW⟩ : ∃ W, w.alloc (.cells #[.slice none 0 0, .slice none 0 0] 55) = W := ⟨_, rfl⟩
  rw [hW]
  have hb0 : Below w.heap.size w W := by rw [← hW]; exact alloc_below _ _
  have hblk : W.heap[w.heap.size]? = some (.cells #[.slice none 0 0, .slice none 0 0] 55 (0, 0)) := by rw [← hW]; exact alloc_new _ _
  have HB0 := Lib.hid (And.intro hb0 hblk)
  have k2 := (hb0.cell (p := ⟨n, 2, none⟩) (lt_of_block HH.out.blk)).trans c2
  have k0 := (hb0.cell (p := ⟨n, 0, none⟩) (lt_of_block HH.out.blk)).trans c0
  have k1 := (hb0.cell (p := ⟨n, 1, none⟩) (lt_of_block HH.out.blk)).trans c1
  have HT := Lib.hid (dthere_yes n W k2)
  generalize hrb : w.heap.size = rb at *
  have HRB := Lib.hid hrb
  clear hW hb0 hblk c0 c1 c2 k2 hrb
  refine HT.out.mono ?_
  rintro e w1 ⟨rfl, rfl⟩
  have HCB : Hid (∀ W', Below w1.heap.size w1 W' → Calls Tryz.prog 60 #[vb] W' fun e w' => ∃ v', e = .returned v' ∧ (Row strE w' W'.heap.size 9 v' s.blocks ∧ Below W'.heap.size W' w')) := Lib.hid fun W' hb => dclone_str _ _ _ ((HH.out.rb.rd.below (by rw [HRB.out]; exact HB0.out.1)).below hb) (by omega)
  have HCC : Hid (∀ W', Below w1.heap.size w1 W' → Calls Tryz.prog 61 #[vc] W' fun e w' => ∃ v', e = .returned v' ∧ (Row pwE w' W'.heap.size 97 v' s.cache ∧ Below W'.heap.size W' w')) := Lib.hid fun W' hb => dclone_put _ _ _ ((HH.out.rc.rd.below (by rw [HRB.out]; exact HB0.out.1)).below hb) (by omega)
  clear hbl hcl
  go_wp2_with fail
  have d0 : w1.drew.cell? ⟨n, 0, none⟩ = some vb := k0
  have d1 : w1.drew.cell? ⟨n, 1, none⟩ = some vc := k1
  have hbb0 := drew_below w1
  have hbk0 : w1.drew.heap[rb]? = some (.cells #[.slice none 0 0, .slice none 0 0] 55 (0, 0)) := HB0.out.2
  clear k0 k1
  go_region_law (first
    | ((refine step_call rfl 60 _ _ rfl eg_cs #[vb] ?_ (HCB.out _ ?_) ?_; rfl; assumption; rintro v w2 ⟨hr1, hb1⟩; obtain ⟨a1, n1, k1, rfl⟩ := hr1.any; have hbk1 := blk_on (b := rb) (o := .cells #[.slice none 0 0, .slice none 0 0] 55 (0, 0)) hb1 (by assumption); obtain ⟨g10, g11, p10, p11⟩ := blk2 hbk1; have hbb1 := below_on (w := w1) (by assumption) hb1; obtain ⟨e0, -⟩ := cell_on (n := n) (o := 0) hb1 (by assumption); obtain ⟨e1, -⟩ := cell_on (n := n) (o := 1) hb1 (by assumption)))
    | ((refine step_call rfl 61 _ _ rfl eg_cp #[vc] ?_ (HCC.out _ ?_) ?_; rfl; assumption; rintro v w2 ⟨hr2, hb2⟩; obtain ⟨a2, n2, k2, rfl⟩ := hr2.any; have hbk2 := blk_on (b := rb) (o := .cells #[.slice none 0 0, .slice none 0 0] 55 (0, 0)) hb2 (by assumption); obtain ⟨g20, g21, p20, p21⟩ := blk2 hbk2; have hbb2 := below_on (w := w1) (by assumption) hb2; obtain ⟨f0, -⟩ := cell_on (n := n) (o := 0) hb2 (by assumption); obtain ⟨f1, -⟩ := cell_on (n := n) (o := 1) hb2 (by assumption))))
  all_goals first
  | (
    have R1 : Row strE w2 w1.heap.size 9 (.slice a1 n1 k1) s.blocks := by first | exact (hr1.below hb2).down (Nat.le_refl _) | exact hr1.down hbb2.size
    have R2 : Row pwE w2 w1.heap.size 97 (.slice a2 n2 k2) s.cache := by first | exact (hr2.below hb1).down (Nat.le_refl _) | exact hr2.down hbb1.size
    have hbf : Below w1.heap.size w1 w2 := by first | exact hbb2 | exact hbb1
    have hrl := lt_of_block HB0.out.2
    have hbkf : w2.heap[rb]? = some (.cells #[.slice none 0 0, .slice none 0 0] 55 (0, 0)) := by first | exact hbk2 | exact hbk1
    have R1' : Row strE ((w2.setCell ⟨rb, 0, none⟩ (.slice a1 n1 k1)).setCell ⟨rb, 1, none⟩ (.slice a2 n2 k2)) w1.heap.size 9 (.slice a1 n1 k1) s.blocks := R1.keep fun b e => by
      have := (R1.lt e).1
      rw [set_ne _ (by omega), set_ne _ (by omega)]
    have R2' : Row pwE ((w2.setCell ⟨rb, 0, none⟩ (.slice a1 n1 k1)).setCell ⟨rb, 1, none⟩ (.slice a2 n2 k2)) w1.heap.size 97 (.slice a2 n2 k2) s.cache := R2.keep fun b e => by
      have := (R2.lt e).1
      rw [set_ne _ (by omega), set_ne _ (by omega)]
    have hbk := set_blk (set_blk hbkf 0 (.slice a1 n1 k1)) 1 (.slice a2 n2 k2)
    have hbw : Below rb w ((w2.setCell ⟨rb, 0, none⟩ (.slice a1 n1 k1)).setCell ⟨rb, 1, none⟩ (.slice a2 n2 k2)) := ((HB0.out.1.trans (hbf.mono (by omega))).setCell (Nat.le_refl _) _).setCell (Nat.le_refl _) _
    have HX := Lib.hid (And.intro (R1'.down (Nat.le_of_lt hrl)) (And.intro (R2'.down (Nat.le_of_lt hrl)) (And.intro hbk hbw)))
    clear R1 R2 R1' R2' hbk hbw
    go_wp2
    exact ret_blk Tryz.results23 rfl HX.out.2.2.1 Tryz.underlying55 rfl (by kernel_rfl) rfl (HR.out _ _ ⟨_, _, rfl, HX.out.1, HX.out.2.1, HX.out.2.2.2⟩))
  | (trace_state; fail)
theorem dseize_any (w : World) (h : DkAt w n vb vc s) : Calls Tryz.prog 23 #[.pointer (some ⟨n, 0, none⟩)] w fun e w' => ∃ va vd, e = .returned (.agg #[va, vd]) ∧ Rd strE w' va s.blocks ∧ Rd pwE w' vd s.cache ∧ Below w.heap.size w w' := by
  exact (dseize_rows w h).mono fun e w' ⟨va, vd, q1, q2, q3, q4⟩ => ⟨va, vd, q1, q2.rd, q3.rd, q4⟩
theorem dseize_no (v : Value) (w : World) (hv : DeadDisk w v) : Calls Tryz.prog 23 #[v] w fun e w' => e = .returned (.agg #[.slice none 0 0, .slice none 0 0]) ∧ Below w.heap.size w w' := by
  refine calls_by fun R HR => ?_
  go_enter Tryz.func23, Tryz.ntmps23
  go_wp2_with fail
  have hv2 : DeadDisk (w.alloc (.cells #[.slice none 0 0, .slice none 0 0] 55)) v := by
    rcases hv with h | ⟨n, h1, h2⟩
    · exact Or.inl h
    · exact Or.inr ⟨n, h1, ((alloc_below w _).cell (p := ⟨n, 2, none⟩) (World.block_lt_of_cell? w _ h2)).trans h2⟩
  refine (dthere_no v _ hv2).mono ?_
  rintro e w1 ⟨rfl, rfl⟩
  clear hv hv2
  go_wp2
  exact ret_blk Tryz.results23 rfl (alloc_new _ _) Tryz.underlying55 rfl (by kernel_rfl) rfl (HR.out _ _ ⟨rfl, alloc_below _ _⟩)
end Go.Proofs.YteppfjgglelpbaaGreat
/- The program's disk that is none, or that no call made: its acts. -/
set_option maxRecDepth 100000
namespace Go.Proofs.YteppfjgglelpbaaGreat
open Go.RowKit Ks
set_option linter.unusedVariables false
theorem dread_no (v : Value) (i : Int) (w : World) (hv : DeadDisk w v) : Calls Tryz.prog 46 #[v, .int .i64 i] w fun e w' => e = .returned (.tuple #[.string ⟨#[]⟩, .int .i64 1]) ∧ w' = w := by
  refine calls_by fun R HR => ?_
  have HM := Lib.hid (dmay_no v w hv)
  clear hv
  go_enter Tryz.func46, Tryz.ntmps46
  go_wp2_with fail
  refine HM.out.mono ?_
  rintro e w1 ⟨rfl, rfl⟩
  go_wp2
  exact HR.out _ _ ⟨rfl, rfl⟩
theorem dwrite_no (v : Value) (i : Int) (t : ByteArray) (w : World) (hv : DeadDisk w v) : Calls Tryz.prog 65 #[v, .int .i64 i, .string t] w fun e w' => e = .returned (.int .i64 1) ∧ w' = w := by
  refine calls_by fun R HR => ?_
  have HM := Lib.hid (dmay_no v w hv)
  clear hv
  go_enter Tryz.func65, Tryz.ntmps65
  go_wp2_with fail
  refine HM.out.mono ?_
  rintro e w1 ⟨rfl, rfl⟩
  go_wp2
  exact HR.out _ _ ⟨rfl, rfl⟩
theorem dflush_no (v : Value) (w : World) (hv : DeadDisk w v) : Calls Tryz.prog 41 #[v] w fun e w' => e = .returned (.int .i64 1) ∧ w' = w := by
  refine calls_by fun R HR => ?_
  have HM := Lib.hid (dmay_no v w hv)
  clear hv
  go_enter Tryz.func41, Tryz.ntmps41
  go_wp2_with fail
  refine HM.out.mono ?_
  rintro e w1 ⟨rfl, rfl⟩
  go_wp2
  exact HR.out _ _ ⟨rfl, rfl⟩
theorem darm_no (v : Value) (i : Int) (w : World) (hv : DeadDisk w v) : Calls Tryz.prog 19 #[v, .int .i64 i] w fun e w' => e = .returned (.int .i64 1) ∧ w' = w := by
  refine calls_by fun R HR => ?_
  have HM := Lib.hid (dmay_no v w hv)
  clear hv
  go_enter Tryz.func19, Tryz.ntmps19
  go_wp2_with fail
  refine HM.out.mono ?_
  rintro e w1 ⟨rfl, rfl⟩
  go_wp2
  exact HR.out _ _ ⟨rfl, rfl⟩
theorem dcrash_no (v : Value) (kv : Value) (w : World) (hv : DeadDisk w v) : Calls Tryz.prog 21 #[v, kv] w fun e w' => e = .returned (.int .i64 1) ∧ w' = w := by
  refine calls_by fun R HR => ?_
  have HM := Lib.hid (dthere_no v w hv)
  clear hv
  go_enter Tryz.func21, Tryz.ntmps21
  go_wp2_with fail
  refine HM.out.mono ?_
  rintro e w1 ⟨rfl, rfl⟩
  go_wp2
  exact HR.out _ _ ⟨rfl, rfl⟩
theorem dboot_no (v : Value) (w : World) (hv : DeadDisk w v) : Calls Tryz.prog 22 #[v] w fun e w' => e = .returned (.int .i64 1) ∧ w' = w := by
  refine calls_by fun R HR => ?_
  have HM := Lib.hid (dthere_no v w hv)
  clear hv
  go_enter Tryz.func22, Tryz.ntmps22
  go_wp2_with fail
  refine HM.out.mono ?_
  rintro e w1 ⟨rfl, rfl⟩
  go_wp2
  exact HR.out _ _ ⟨rfl, rfl⟩
theorem dsize_no (v : Value) (w : World) (hv : DeadDisk w v) : Calls Tryz.prog 47 #[v] w fun e w' => e = .returned (.int .i64 0) ∧ w' = w := by
  refine calls_by fun R HR => ?_
  have HM := Lib.hid (dthere_no v w hv)
  clear hv
  go_enter Tryz.func47, Tryz.ntmps47
  go_wp2_with fail
  refine HM.out.mono ?_
  rintro e w1 ⟨rfl, rfl⟩
  go_wp2
  exact HR.out _ _ ⟨rfl, rfl⟩
theorem ddown_no (v : Value) (w : World) (hv : DeadDisk w v) : Calls Tryz.prog 27 #[v] w fun e w' => e = .returned (.bool false) ∧ w' = w := by
  refine calls_by fun R HR => ?_
  have HM := Lib.hid (dthere_no v w hv)
  clear hv
  go_enter Tryz.func27, Tryz.ntmps27
  go_wp2_with fail
  refine HM.out.mono ?_
  rintro e w1 ⟨rfl, rfl⟩
  go_wp2
  exact HR.out _ _ ⟨rfl, rfl⟩
end Go.Proofs.YteppfjgglelpbaaGreat
/- Of no disk none is opened: of the program's journal. -/
set_option maxRecDepth 100000
namespace Go.Proofs.YteppfjgglelpbaaGreat
open Go.RowKit Ks
set_option linter.unusedVariables false
set_option linter.unusedSimpArgs false
theorem jopen_no (v : Value) (w : World) (hv : DeadDisk w v) : Calls Tryz.prog 10 #[v] w fun e w' => e = .returned (.tuple #[.pointer none, .slice none 0 0, .string ⟨#[]⟩, .int .i64 1]) ∧ w' = w := by
  refine calls_by fun R HR => ?_
  have HM := Lib.hid (dsize_no v w hv)
  clear hv
  go_enter Tryz.func10, Tryz.ntmps10
  go_wp2_with fail
  refine HM.out.mono ?_
  rintro en y9 ⟨rfl, hw⟩
  rw [hw]
  clear hw y9
  go_wp2
  exact bodyPost_ret (by simp [results, Tryz.results10, go_sem]) rfl (HR.out _ _ ⟨rfl, rfl⟩)
end Go.Proofs.YteppfjgglelpbaaGreat
/- A new disk formatted: of the program's journal. -/
set_option maxRecDepth 100000
namespace Go.Proofs.YteppfjgglelpbaaGreat
open Go.RowKit Ks
set_option linter.unusedVariables false
set_option linter.unusedSimpArgs false
attribute [local go_sem] Oper.semAt_some
theorem eg_gcheck : ∀ args w, (callFunc 52 args).run Tryz.prog w = .ok (.enter 52 args) w := fun _ _ => rfl
theorem eg_dsize : ∀ args w, (callFunc 47 args).run Tryz.prog w = .ok (.enter 47 args) w := fun _ _ => rfl
/-- what a new disk shows -/
theorem new_shows (n : Nat) (i : Int) (h0 : 0 ≤ i) (h1 : i < (n : Int)) : (readD (newD n) i).1 = zerosS 4096 := by
  have hi : inD (newD n) i = true := by simp [inD, newD]; omega
  unfold readD
  rw [if_neg (by simp [newD]), if_pos hi]
  show showC (newD n).blocks (newD n).cache i = zerosS 4096
  unfold showC newD
  simp only [List.foldl_nil]
  rw [List.getD_eq_getElem?_getD, List.getElem?_replicate, if_pos (by omega)]
  rfl
set_option maxRecDepth 100000 in
set_option maxHeartbeats 16000000 in
theorem jformat_any {dn : Nat} {vb vc : Value} (n : Nat) (l f : Int) (k : ByteArray) (w : World) (h : DkAt w dn vb vc (newD n)) (hg : geoOk (n : Int) l f = true) (hk : k.size = 32) (hst : stepsE (newD n) (formL f k) = 0) :
    Calls Tryz.prog 17 #[.pointer (some ⟨dn, 0, none⟩), geoV (n : Int) l f, .string k] w fun e w' => e = .returned (.int .i64 (commitE (didJ ⟨newD n, supT0, 0, false⟩ (formL f k)) (formS (n : Int) l f))) ∧ ∃ vc', DkAt w' dn vb vc' (formJ n (n : Int) l f k).d ∧ Turn w w' (DF dn vb vc) (DF dn vb vc') := by
  have HD := Lib.hid h
  have hgo := geo_ok.1 hg
  have hkb : ((k.size : Int) != 32) = false := by rw [hk]; rfl
  have HSz : Hid (∀ A, DkAt A dn vb vc (newD n) → Calls Tryz.prog 47 #[.pointer (some ⟨dn, 0, none⟩)] A fun e w' => e = .returned (.int .i64 (n : Int)) ∧ Below A.heap.size A w') := Lib.hid (fun A h => (dsize_any A h).mono fun e w' ⟨q1, q2⟩ => ⟨by rw [q1]; simp [newD], by rw [q2]; exact Below.refl _ _⟩)
  have HCk : Hid (∀ A, Calls Tryz.prog 52 #[geoV (n : Int) l f] A fun e w' => e = .returned (.int .i64 0) ∧ Below A.heap.size A w') := Lib.hid (fun A => (gcheck_any (n : Int) l f A).mono fun e w' ⟨q1, q2⟩ => ⟨by rw [q1, (geo_yes hg).1], q2⟩)
  have HF1 := Lib.hid (show 8 ≤ n ∧ n ≤ 1024 ∧ 0 ≤ f ∧ f ≤ 4294967295 by omega)
  have HSt := Lib.hid hst
  have HGo := Lib.hid hg
  clear hgo hst hg h
  obtain ⟨W1, hW1⟩ : ∃ W, w.alloc (.cells #[.int .i64 (n : Int), .int .i64 l, .int .i64 f] 27) = W := ⟨_, rfl⟩
  have b1 : Below w.heap.size w W1 := by rw [← hW1]; exact alloc_below _ _
  have n1 : W1.heap[w.heap.size]? = some (.cells #[.int .i64 (n : Int), .int .i64 l, .int .i64 f] 27 (0, 0)) := by rw [← hW1]; exact alloc_new _ _
  have s1 : W1.heap.size = w.heap.size + 1 := by rw [← hW1]; simp
  obtain ⟨W2, hW2⟩ : ∃ W, W1.alloc (.cells #[.int .i64 0] 32) = W := ⟨_, rfl⟩
  have b2 : Below W1.heap.size W1 W2 := by rw [← hW2]; exact alloc_below _ _
  have n2 : W2.heap[W1.heap.size]? = some (.cells #[.int .i64 0] 32 (0, 0)) := by rw [← hW2]; exact alloc_new _ _
  have H2 := Lib.hid (And.intro (b1.trans (b2.mono b1.size)) (And.intro (HD.out.below (b1.trans (b2.mono b1.size))) (And.intro (blk_on b2 n1) n2)))
  have HS := Lib.hid s1
  clear b1 b2 n1 n2 s1
  obtain ⟨g0, g1, g2, -, -, -⟩ := blk3 H2.out.2.2.1
  have gg0 := fun p => after_cell g0 p
  have gg1 := fun p => after_cell g1 p
  have gg2 := fun p => after_cell g2 p
  have cc0 := Lib.hid (fun p => calls_after (p := p) (HCk.out (After W2 p)))
  have cc1 := Lib.hid (fun p => calls_after (p := p) (HSz.out (After W2 p) (H2.out.2.1.below (after_below W2 p))))
  refine (callsIn_wide (n := 5)).1 ?_
  refine callsIn_of_wp_marks Tryz.func17 rfl trivial ?_ rfl
  simp only [Tryz.ntmps17, List.size_toArray, List.length_cons, List.length_nil, Nat.reduceAdd, Nat.reduceSub, Array.replicate_succ, Array.replicate_zero, List.push_toArray, List.append_toArray, List.nil_append, List.cons_append]
  gi_wp2
  refine wpIn_wide.2 ?_
  refine wp_region_after (by kernel_rfl) (by kernel_rfl) ?_
  repeat (first | go_big_quiet_step (fail) | go_big_quiet_step (with_reducible exact cc0.out _) | go_big_quiet_step (with_reducible exact cc1.out _))
  refine wpQuiet_nil ?_
  rintro w1 ⟨p, rfl⟩
  have hb1 := after_below W2 p
  have H3 := Lib.hid (And.intro (H2.out.1.trans (hb1.mono H2.out.1.size)) (And.intro (H2.out.2.1.below hb1) (And.intro (blk_on hb1 H2.out.2.2.1) (blk_on hb1 H2.out.2.2.2))))
  clear hb1 cc0 cc1 gg0 gg1 gg2 g0 g1 g2
  generalize After W2 p = w1 at *
  have HZ1 := Lib.hid (show W1.heap.size < w1.heap.size from lt_of_block H3.out.2.2.2)
  clear hW1 hW2 H2
  obtain ⟨W3, hW3⟩ : ∃ W, w1.alloc (.cells (jrnC (.pointer none) dn supT0 false) 31) = W := ⟨_, rfl⟩
  have b3 : Below w1.heap.size w1 W3 := by rw [← hW3]; exact alloc_below _ _
  have n3 : W3.heap[w1.heap.size]? = some (.cells (jrnC (.pointer none) dn supT0 false) 31 (0, 0)) := by rw [← hW3]; exact alloc_new _ _
  obtain ⟨W4, hW4⟩ : ∃ W, W3.alloc (.cells #[.pointer (some ⟨w1.heap.size, 0, none⟩)] 23) = W := ⟨_, rfl⟩
  have b4 : Below W3.heap.size W3 W4 := by rw [← hW4]; exact alloc_below _ _
  have n4 : W4.heap[W3.heap.size]? = some (.cells #[.pointer (some ⟨w1.heap.size, 0, none⟩)] 23 (0, 0)) := by rw [← hW4]; exact alloc_new _ _
  have b34 := b3.trans (b4.mono b3.size)
  have H4 := Lib.hid (And.intro (H3.out.1.trans (b34.mono H3.out.1.size)) (And.intro (show JHd W4 w1.heap.size (.pointer none) dn vb vc supT0 false (newD n) from ⟨blk_on b4 n3, H3.out.2.1.below b34, fun q => by have := H3.out.2.1.lt _ q; omega⟩) (And.intro (blk_on b34 H3.out.2.2.1) (And.intro (blk_on b34 H3.out.2.2.2) n4))))
  have HZ2 := Lib.hid (show w1.heap.size < W3.heap.size from lt_of_block n3)
  have HZ3 := Lib.hid (show W3.heap.size < W4.heap.size from lt_of_block n4)
  clear b3 b4 n3 n4 b34
  have HDn := Lib.hid (ddown_any W4 H4.out.2.1.dsk)
  rw [show (newD n).down = false from rfl] at HDn
  rw [show jrnC (.pointer none) dn supT0 false = #[.pointer none, .pointer (some ⟨dn, 0, none⟩), .int .i64 0, .int .i64 0, .int .i64 0, .int .i64 0, .int .i64 0, .int .i64 0, .int .i64 0, .bool false] from rfl] at hW3
  gi_wp2
  refine ⟨trivial, (callsIn_wide.2 HDn.out).mono ?_⟩
  rintro e y9 ⟨rfl, hw⟩
  rw [hw]
  clear hw y9 HDn hW3 hW4
  obtain ⟨g0, g1, g2, -, -, -⟩ := blk3 H4.out.2.2.1
  gi_wp2
  refine ⟨trivial, (callsIn_wide.2 (unlike_any dn 0 (n : Int) W4)).mono ?_⟩
  rintro e v5 ⟨rfl, hb, hsz, q0, q1, q2⟩
  have H5 := Lib.hid (And.intro (H4.out.1.trans (hb.mono H4.out.1.size)) (And.intro (H4.out.2.1.below hb) (And.intro (blk_on hb H4.out.2.2.1) (And.intro (blk_on hb H4.out.2.2.2.1) (blk_on hb H4.out.2.2.2.2)))))
  have HUY := Lib.hid (show UnlAt v5 W4.heap.size dn 0 (n : Int) from ⟨q0, q1, q2⟩)
  clear hb hsz q0 q1 q2 H4 g0 g1 g2
  gi_wp2
  have HIt := Lib.hid (unlike_iter 4 (W4.heap.size + 1) (W4.heap.size + 2) W4.heap.size dn vb vc (newD n) 0 (n : Int) (by omega) (by have := HF1.out; omega))
  refine wpIn_range_slot (σ := Nat) (α := Int) rfl (by omega) 8 (fun x => .int .i64 x) (gf := 83) (lb := #[.pointer (some ⟨W4.heap.size + 1, 0, none⟩), .pointer (some ⟨W4.heap.size + 2, 0, none⟩), .pointer (some ⟨W4.heap.size, 0, none⟩)]) rfl trivial (enters_of Tryz.func83 (by kernel_rfl) rfl)
    (fun _ W => Below v5.heap.size v5 W) (fun _ _ => False)
    (HIt.out _ v5 fun k A hk => ?cells) (ownFrom_below (Nat.le_refl _) (Nat.le_refl _)) (fun _ _ _ _ h => h.elim) (fun s A B h _ hb => h.trans (hb.mono h.size)) (fun k k' A h _ => h) (Below.refl _ _) ?assign ?body ?done (fun _ _ _ _ h => h.elim)
  case cells =>
    have a := HUY.out.on hk
    exact ⟨by rw [cell_of_row _ _ _ _ _ _ a.f]; rfl, by rw [cell_of_row _ _ _ _ _ _ a.u]; rfl, by rw [cell_of_row _ _ _ _ _ _ a.d]; rfl, H5.out.2.1.dsk.below hk⟩
  case assign =>
    rintro lp x W K hK
    gi_wp2
    exact hK
  case body =>
    rintro lp k x W hW hI ⟨h1, h2, h3⟩
    exact absurd (new_shows n x (by omega) (by omega)) h3
  case done =>
    rintro D j9 W hD hE hI hK
    clear hE
    have H6 := Lib.hid (And.intro (H5.out.1.trans (hI.mono H5.out.1.size)) (And.intro (H5.out.2.1.below hI) (And.intro (blk_on hI H5.out.2.2.1) (And.intro (blk_on hI H5.out.2.2.2.1) (And.intro (blk_on hI H5.out.2.2.2.2) hK)))))
    have HD9 := Lib.hid (And.intro hD (show W4.heap.size ≤ v5.heap.size by have := lt_of_block HUY.out.u; omega))
    clear hI hK hD H5 HUY HIt
    obtain ⟨g0, g1, g2, -, -, -⟩ := blk3 H6.out.2.2.1
    gi_wp2
    refine ⟨trivial, (callsIn_wide.2 (slput_any f k W (by have := HF1.out; omega))).mono ?_⟩
    rintro e v6 ⟨rfl, hb⟩
    have H7 := Lib.hid (And.intro (H6.out.1.trans (hb.mono H6.out.1.size)) (And.intro (H6.out.2.1.below hb) (And.intro (blk_on hb H6.out.2.2.1) (And.intro (blk_on hb H6.out.2.2.2.1) (And.intro (blk_on hb H6.out.2.2.2.2.1) ((hb.block _ (lt_of_block H6.out.2.2.2.2.2)).trans H6.out.2.2.2.2.2))))))
    have HLF : Hid (formL f k = [.fl, .wr (keyP f) (slotS f k), .fl]) := Lib.hid rfl
    have HNF := Lib.hid (show (¬ FJ w1.heap.size dn vb vc W3.heap.size ∧ W3.heap.size < v6.heap.size) ∧ (¬ FJ w1.heap.size dn vb vc w.heap.size ∧ w.heap.size < v6.heap.size) ∧ (¬ FJ w1.heap.size dn vb vc W1.heap.size ∧ W1.heap.size < v6.heap.size) from by
      have a1 := HS.out
      have a2 := HZ1.out
      have a3 := HZ2.out
      have a4 := lt_of_block H7.out.2.2.2.2.1
      refine ⟨⟨fun q => ?_, by omega⟩, ⟨fun q => ?_, by omega⟩, ⟨fun q => ?_, by omega⟩⟩
      all_goals
        rcases q with q | q
        · omega
        · have := HD.out.lt _ q; omega)
    have HND := Lib.hid (show ¬ FJ w1.heap.size dn vb vc D ∧ w.heap.size ≤ D ∧ W1.heap.size ≠ D by
      have a1 := HS.out
      have a2 := HZ1.out
      have a3 := HZ2.out
      have a4 := HD9.out
      have a5 := HZ3.out
      refine ⟨fun q => ?_, by omega, by omega⟩
      rcases q with q | q
      · omega
      · have := HD.out.lt _ q; omega)
    clear hb H6 g0 g1 g2 HD9
    generalize slotS f k = SK at *
    generalize w1.heap.size = jn at *
    obtain ⟨g0, g1, g2, -, -, -⟩ := blk3 H7.out.2.2.1
    obtain ⟨c7, -⟩ := blk1 H7.out.2.2.2.2.1
    gi_wp2
    refine wpIn_wide.2 ?_
    refine wp_region_mv (fun ft => StpQ v6 jn (.pointer none) dn vb vc supT0 false (newD n) (.wr (keyP f) (SK)) (.fl) [.fl, .wr (keyP f) (SK), .fl] (ft 8) none (ft 11) (ft 12)) (by kernel_rfl) (StpQ.start H7.out.2.1) ?_
    obtain ⟨S, F, hF, hFC⟩ := moved_class (fun ft => StpQ v6 jn (.pointer none) dn vb vc supT0 false (newD n) (.wr (keyP f) (SK)) (.fl) [.fl, .wr (keyP f) (SK), .fl] (ft 8) none (ft 11) (ft 12))
    have kd : ∀ s, (F s).cell? ⟨jn, 1, none⟩ = some (.pointer (some ⟨dn, 0, none⟩)) := fun s => (StpQ.dsk H7.out.2.1 (hFC s).choose_spec).1
    have ks : ∀ s, (F s).cell? ⟨jn, 0, none⟩ = some (.pointer none) := fun s => (StpQ.dsk H7.out.2.1 (hFC s).choose_spec).2
    have kc7 : ∀ s, (F s).cell? ⟨W3.heap.size, 0, none⟩ = some (.pointer (some ⟨jn, 0, none⟩)) := fun s => StpQ.cell (hFC s).choose_spec HNF.out.1.1 HNF.out.1.2 c7
    have kg2 : ∀ s, (F s).cell? ⟨w.heap.size, 2, none⟩ = some (.int .i64 f) := fun s => StpQ.cell (hFC s).choose_spec HNF.out.2.1.1 HNF.out.2.1.2 g2
    show wpAnyM _ _ _ _ _ 14 (Array.replicate 14 false) _ _
    refine mv_read 0 hF (fun _ _ _ h => h) rfl (by kernel_rfl) (by kernel_rfl) (by kernel_rfl) (fun K hK => ?_)
    go_simp
    first | refine ⟨_, fun _ => rfl, hK _ _ ?_⟩ | refine hK _ _ ?_
    clear hK K
    refine mv_read 1 hF (fun _ _ _ h => h) rfl (by kernel_rfl) (by kernel_rfl) (by kernel_rfl) (fun K hK => ?_)
    go_simp
    first | refine ⟨_, fun _ => rfl, hK _ _ ?_⟩ | refine hK _ _ ?_
    clear hK K
    refine mv_read 2 hF (fun _ _ _ h => h) rfl (by kernel_rfl) (by kernel_rfl) (by kernel_rfl) (fun K hK => ?_)
    go_simp
    first | refine ⟨_, fun _ => rfl, hK _ _ ?_⟩ | refine hK _ _ ?_
    clear hK K
    refine mv_read 3 hF (fun _ _ _ h => h) rfl (by kernel_rfl) (by kernel_rfl) (by kernel_rfl) (fun K hK => ?_)
    go_simp
    first | refine ⟨_, fun _ => rfl, hK _ _ ?_⟩ | refine hK _ _ ?_
    clear hK K
    refine mv_read 4 hF (fun _ _ _ h => h) rfl (by kernel_rfl) (by kernel_rfl) (by kernel_rfl) (fun K hK => ?_)
    go_simp
    first | refine ⟨_, fun _ => rfl, hK _ _ ?_⟩ | refine hK _ _ ?_
    clear hK K
    refine mv_read 5 hF (fun _ _ _ h => h) rfl (by kernel_rfl) (by kernel_rfl) (by kernel_rfl) (fun K hK => ?_)
    go_simp
    first | refine ⟨_, fun _ => rfl, hK _ _ ?_⟩ | refine hK _ _ ?_
    clear hK K
    refine mv_read 7 hF (fun _ _ _ h => h) rfl (by kernel_rfl) (by kernel_rfl) (by kernel_rfl) (fun K hK => ?_)
    go_simp
    first | refine ⟨_, fun _ => rfl, hK _ _ ?_⟩ | refine hK _ _ ?_
    clear hK K
    refine mv_read 9 hF (fun _ _ _ h => h) rfl (by kernel_rfl) (by kernel_rfl) (by kernel_rfl) (fun K hK => ?_)
    go_simp
    first | refine ⟨_, fun _ => rfl, hK _ _ ?_⟩ | refine hK _ _ ?_
    clear hK K
    refine mv_read 10 hF (fun _ _ _ h => h) rfl (by kernel_rfl) (by kernel_rfl) (by kernel_rfl) (fun K hK => ?_)
    go_simp
    first | refine ⟨_, fun _ => rfl, hK _ _ ?_⟩ | refine hK _ _ ?_
    clear hK K
    refine mv_call 6 40 rfl (by kernel_rfl) rfl rfl eg_gkey (args := #[.int .i64 f]) rfl (fun v => v = .int .i64 (keyP f)) (fun g w9 ha h0 h => ?_) ?_
    · obtain ⟨hz9, vc9, br9, d9, hj9⟩ := StpQ.jhd H7.out.2.1 h
      refine ((gkey_any f w9).mono (R' := fun e w' => e = .returned (.int .i64 (keyP f)) ∧ Below w9.heap.size w9 w') fun e w' ⟨q1, q2⟩ => ⟨q1, by rw [q2]; exact Below.refl _ _⟩).mono ?_
      rintro en w8 ⟨q1, q2⟩
      exact ⟨_, q1, rfl, StpQ.on h q2⟩
    rintro _ rfl
    refine mv_call 8 34 rfl (by kernel_rfl) rfl rfl eg_jwrite (args := #[.pointer (some ⟨jn, 0, none⟩), .int .i64 (keyP f), .string (SK)]) rfl (fun v => ∃ b0 b1 b2, v = wrV b0 b1 b2) (fun g w9 ha h0 h => ?_) ?_
    · simp only [h0] at h
      refine (jwrite_any jn (keyP f) (SK) w9).mono ?_
      rintro en w8 ⟨q1, q2, q3, q4, q5, q6⟩
      refine ⟨_, q1, ⟨_, _, _, rfl⟩, ?_⟩
      show StpQ _ _ _ _ _ _ _ _ _ _ _ _ (upd g 8 _ 8) none (g 11) (g 12) _
      rw [upd_self]
      exact StpQ.one h q2 (StpQ.wr H7.out.2.1 h q4 q5 q6)
    rintro _ ⟨w10, w11, w12, rfl⟩
    refine mv_alone 11 rfl (by kernel_rfl) rfl (fun v => ∃ b, v = .slice (some ⟨b, 0, none⟩) 3 3) (fun g w9 ha h0 h D hD => ?_) ?_
    · skip
      have e8 : g 8 = some (wrV w10 w11 w12) := by have e := agree_on 8 ha (by kernel_rfl); exact e.trans rfl
      have h8 := h
      simp only [h0, e8] at h8
      have h7 := StpQ.built (C := #[.func (.func 41) #[.pointer (some ⟨dn, 0, none⟩)] #[], .func (.func 64) #[] #[.pointer (some ⟨w10, 0, none⟩), .pointer (some ⟨w11, 0, none⟩), .pointer (some ⟨w12, 0, none⟩)], .func (.func 41) #[.pointer (some ⟨dn, 0, none⟩)] #[]]) (T := 43) H7.out.2.1 h8 (fun hc k x hx => by
        match k, hx with
        | 0, hx => cases hx; exact ⟨_, rfl, rfl⟩
        | 1, hx => cases hx; exact ⟨_, rfl, hc.s1 _ rfl⟩
        | 2, hx => cases hx; exact ⟨_, rfl, rfl⟩
        | k + 3, hx => exact absurd hx (by simp))
      have hD2 := hD _ _ ⟨_, rfl⟩ (show StpQ _ _ _ _ _ _ _ _ _ _ _ _ (g 8) none (upd g 11 _ 11) (g 12) _ by rw [upd_self, e8]; exact h7)
      clear hD h h7 h8
      go_simp
      exact hD2
    rintro _ ⟨sb, rfl⟩
    refine mv_call 12 33 rfl (by kernel_rfl) rfl rfl eg_jsteps (args := #[.pointer (some ⟨jn, 0, none⟩), .slice (some ⟨sb, 0, none⟩) 3 3]) rfl (fun v => v = .int .i64 (stepsE (newD n) [.fl, .wr (keyP f) (SK), .fl])) (fun g w9 ha h0 h => ?_) ?_
    · have e11 : g 11 = some (.slice (some ⟨sb, 0, none⟩) 3 3) := by have e := agree_on 11 ha (by kernel_rfl); exact e.trans rfl
      simp only [h0, e11] at h
      refine (StpQ.steps H7.out.2.1 h (by simp)).mono ?_
      rintro en w8 ⟨q1, q2⟩
      refine ⟨_, q1, rfl, ?_⟩
      show StpQ _ _ _ _ _ _ _ _ _ _ _ _ (g 8) none (g 11) (upd g 12 _ 12) _
      rw [upd_self]
      exact q2
    rintro _ rfl
    refine mv_read 13 hF (fun _ _ _ h => h) rfl (by kernel_rfl) (by kernel_rfl) (by kernel_rfl) (fun K hK => ?_)
    go_simp
    first | refine ⟨_, fun _ => rfl, hK _ _ ?_⟩ | refine hK _ _ ?_
    clear hK K
    refine mv_end (by kernel_rfl) ?_
    intro y8 hy8
    have HY : Hid (StpP v6 jn (.pointer none) dn vb vc supT0 false (newD n) [.fl, .wr (keyP f) (SK), .fl] y8) := Lib.hid (StpQ.done (v := .int .i64 (stepsE (newD n) [.fl, .wr (keyP f) (SK), .fl])) hy8)
    clear hy8 hF hFC kd ks kc7 kg2
    obtain ⟨vc2, h1, h2⟩ := HY.out
    have HSE := Lib.hid (show stepsE (newD n) [.fl, .wr (keyP f) SK, .fl] = 0 by rw [← HLF.out]; exact HSt.out)
    have HJ8 := Lib.hid h1
    have HF2 := Lib.hid h2
    have HD6 := Lib.hid (lt_of_block H7.out.2.2.2.2.2)
    have HT8 := Lib.hid ((Turn.of_below (FJ jn dn vb vc) H7.out.1).trans h2)
    have H8 := Lib.hid (And.intro ((h2.block _ HNF.out.1.2 HNF.out.1.1).trans H7.out.2.2.2.2.1) (And.intro ((h2.block _ HNF.out.2.1.2 HNF.out.2.1.1).trans H7.out.2.2.1) (And.intro ((h2.block _ HNF.out.2.2.2 HNF.out.2.2.1).trans H7.out.2.2.2.1) ((h2.block _ (lt_of_block H7.out.2.2.2.2.2) HND.out.1).trans H7.out.2.2.2.2.2))))
    clear HY h1 h2 c7 g0 g1 g2
    obtain ⟨g0, g1, g2, -, -, -⟩ := blk3 H8.out.2.1
    obtain ⟨c7, -⟩ := blk1 H8.out.1
    have HCm := Lib.hid (jcommit_any (formS (n : Int) l f) 0 y8 HJ8.out (by have := HF1.out; show _ ≤ (n : Int) ∧ (n : Int) ≤ _; omega))
    rw [HSE.out]
    gi_wp2
    refine ⟨trivial, (callsIn_wide.2 HCm.out).mono ?_⟩
    rintro e y7 ⟨rfl, vc3, h1, h2⟩
    have HCE := Lib.hid (show commitE (didJ ⟨newD n, supT0, 0, false⟩ (formL f k)) (formS (n : Int) l f) = commitE ⟨stepsD (newD n) [.fl, .wr (keyP f) SK, .fl], supT0, 0, false || decide (stepsE (newD n) [.fl, .wr (keyP f) SK, .fl] ≠ 0)⟩ (formS (n : Int) l f) by rw [← HLF.out]; rfl)
    have HFJ := Lib.hid (show formJ n (n : Int) l f k = commitJ ⟨stepsD (newD n) [.fl, .wr (keyP f) SK, .fl], supT0, 0, false || decide (stepsE (newD n) [.fl, .wr (keyP f) SK, .fl] ≠ 0)⟩ (formS (n : Int) l f) by rw [← HLF.out]; rfl)
    skip
    generalize commitE ⟨stepsD (newD n) [.fl, .wr (keyP f) SK, .fl], supT0, 0, false || decide (stepsE (newD n) [.fl, .wr (keyP f) SK, .fl] ≠ 0)⟩ (formS (n : Int) l f) = CE at *
    generalize commitJ ⟨stepsD (newD n) [.fl, .wr (keyP f) SK, .fl], supT0, 0, false || decide (stepsE (newD n) [.fl, .wr (keyP f) SK, .fl] ≠ 0)⟩ (formS (n : Int) l f) = CJ at *
    have hn8 : ¬ FJ jn dn vb vc2 W1.heap.size ∧ ¬ FJ jn dn vb vc2 D := ⟨fun q => by rcases HF2.out.foot _ q with q2 | q2; exact HNF.out.2.2.1 q2; have := HNF.out.2.2.2; omega, fun q => by rcases HF2.out.foot _ q with q2 | q2; exact HND.out.1 q2; have := HD6.out; omega⟩
    have l8 := lt_of_block H8.out.2.2.1
    have l8d := lt_of_block H8.out.2.2.2
    have hn7 : ¬ FJ jn dn vb vc3 W1.heap.size ∧ ¬ FJ jn dn vb vc3 D := ⟨fun q => by rcases h2.foot _ q with q2 | q2; exact hn8.1 q2; omega, fun q => by rcases h2.foot _ q with q2 | q2; exact hn8.2 q2; omega⟩
    have k7 := (h2.block _ l8 hn8.1).trans H8.out.2.2.1
    have k7d := (h2.block _ l8d hn8.2).trans H8.out.2.2.2
    obtain ⟨P, hP⟩ : ∃ W, y7.setCell ⟨W1.heap.size, 0, none⟩ (.int .i64 CE) = W := ⟨_, rfl⟩
    have kP : P.heap[W1.heap.size]? = some (.cells #[.int .i64 CE] 32 (0, 0)) := by rw [← hP]; exact set_blk k7 0 _
    have kPd : P.heap[D]? = some (.deferred (some [])) := by rw [← hP]; exact (set_ne _ (fun e => HND.out.2.2 e.symm)).trans k7d
    have kZ : (P.putObj D (.deferred none)).heap[W1.heap.size]? = some (.cells #[.int .i64 CE] 32 (0, 0)) := (World.putObj_heap_other HND.out.2.2).trans kP
    have bP : Below w.heap.size y7 P := by rw [← hP]; exact (Below.refl _ _).setCell (p := ⟨_, _, none⟩) (by have := HS.out; show w.heap.size ≤ W1.heap.size; omega) _
    have bZ := bP.trans (belowK_b (w := w) (Nat.le_refl _) P D _ (.deferred none) HND.out.2.1 kPd rfl rfl)
    have dZ : DkAt (P.putObj D (.deferred none)) dn vb vc3 CJ.d := h1.dsk.keep fun k q => (World.putObj_heap_other (fun e => by subst e; exact hn7.2 (Or.inr q))).trans (by rw [← hP]; exact set_ne _ (fun e => by subst e; exact hn7.1 (Or.inr q)))
    have tt := turn_low (HT8.out.trans h2) bZ
    have HTZ := Lib.hid (show Turn w (P.putObj D (.deferred none)) (DF dn vb vc) (DF dn vb vc3) from ⟨tt.os, tt.tape, tt.output, tt.size, fun k k1 k2 => tt.block k k1 (fun k3 => by rcases k3 with k3 | k3; (have := HZ1.out; have := HS.out; omega); exact k2 k3), fun k k1 => by rcases tt.foot k (Or.inr k1) with (k2 | k2) | k2; (exact Or.inr (by have := HZ1.out; have := HS.out; omega)); exact Or.inl k2; exact Or.inr k2⟩)
    have HDZ := Lib.hid dZ
    have HKD := Lib.hid kPd
    have HKZ := Lib.hid kZ
    obtain ⟨c8, fc8⟩ := blk1 k7
    clear h1 h2 hn7 l8 l8d k7d kP kPd kZ bP bZ dZ tt HCm g0 g1 g2 c7
    have EP := Lib.hid hP
    clear hP
    gi_wp2
    rw [EP.out]
    obtain ⟨cz, -⟩ := blk1 HKZ.out
    refine ⟨by simp, .inl ⟨_, _, rfl, run_takeDeferred HKD.out, ?_⟩⟩
    rw [HCE.out, HFJ.out]
    exact ⟨.int .i64 CE, by simp [results, Tryz.results17, go_sem, cz], rfl, vc3, HDZ.out, HTZ.out⟩
end Go.Proofs.YteppfjgglelpbaaGreat
