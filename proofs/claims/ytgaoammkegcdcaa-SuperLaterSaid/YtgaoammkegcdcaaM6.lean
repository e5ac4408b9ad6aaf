/- Texts that the claim rests on, part 6: SuperChoose, Alive10, StepCall, FrameSuper. -/
import Derived.Test.YtgaoammkegcdcaaProg
import Derived.Test.YtgaoammkegcdcaaM5
/- Which of two superblocks is chosen: super.Choose and the reference's. -/
namespace Go.Proofs.Ytgaoammkegcdcaa
open Go.RowKit Ks
set_option linter.unusedVariables false
/-- the second one is chosen -/
def chW (a b : ByteArray) : Bool := stOk b && (!stOk a || decide (stN a 9 8 < stN b 9 8))
def chV (a b : ByteArray) : Value := if chW a b then stV b else stV a
def chI (a b : ByteArray) : Int := if chW a b then 1 else 0
def chE (a b : ByteArray) : Int := if stOk a || stOk b then 0 else 7
def rchI (a b : ByteArray) : Int := if stOk a || stOk b then chI a b else -1
theorem st_flags (a : ByteArray) : (stOk a = true ∧ stE a = 0) ∨ (stOk a = false ∧ stE a = 3 ∧ stV a = supV 0 0 0 0 0 0 0) := by
  cases h : stOk a
  · have := stV_no (s := a) (by rw [h]; exact Bool.false_ne_true)
    exact .inr ⟨rfl, this.2.2, this.1⟩
  · exact .inl ⟨rfl, (stV_yes h).2.2⟩
theorem rch_cases (a b : ByteArray) :
    (stOk a = false ∧ stOk b = false ∧ chV a b = supV 0 0 0 0 0 0 0 ∧ rchI a b = -1) ∨
    (stOk a = false ∧ stOk b = true ∧ chV a b = stV b ∧ rchI a b = 1) ∨
    (stOk a = true ∧ stOk b = false ∧ chV a b = stV a ∧ rchI a b = 0) ∨
    (stOk a = true ∧ stOk b = true ∧ stN a 9 8 < stN b 9 8 ∧ chV a b = stV b ∧ rchI a b = 1) ∨
    (stOk a = true ∧ stOk b = true ∧ ¬ stN a 9 8 < stN b 9 8 ∧ chV a b = stV a ∧ rchI a b = 0) := by
  unfold rchI chI chV chW
  rcases st_flags a with ⟨ha, ea⟩ | ⟨ha, ea, va⟩
  · rcases st_flags b with ⟨hb, eb⟩ | ⟨hb, eb, vb⟩
    · by_cases hg : stN a 9 8 < stN b 9 8 <;> simp [ha, hb, hg]
    · simp [ha, hb]
  · rcases st_flags b with ⟨hb, eb⟩ | ⟨hb, eb, vb⟩
    · simp [ha, hb]
    · simp [ha, hb, va]
theorem ch_cases (a b : ByteArray) :
    (stE a = 3 ∧ stE b = 3 ∧ chV a b = supV 0 0 0 0 0 0 0 ∧ chI a b = 0 ∧ chE a b = 7) ∨
    (stE a = 3 ∧ stE b = 0 ∧ chV a b = stV b ∧ chI a b = 1 ∧ chE a b = 0) ∨
    (stE a = 0 ∧ stE b = 3 ∧ chV a b = stV a ∧ chI a b = 0 ∧ chE a b = 0) ∨
    (stE a = 0 ∧ stE b = 0 ∧ stN a 9 8 < stN b 9 8 ∧ chV a b = stV b ∧ chI a b = 1 ∧ chE a b = 0) ∨
    (stE a = 0 ∧ stE b = 0 ∧ ¬ stN a 9 8 < stN b 9 8 ∧ chV a b = stV a ∧ chI a b = 0 ∧ chE a b = 0) := by
  unfold chI chE chV chW
  rcases st_flags a with ⟨ha, ea⟩ | ⟨ha, ea, va⟩
  · rcases st_flags b with ⟨hb, eb⟩ | ⟨hb, eb, vb⟩
    · by_cases hg : stN a 9 8 < stN b 9 8 <;> simp [ha, hb, hg, ea, eb]
    · simp [ha, hb, ea, eb]
  · rcases st_flags b with ⟨hb, eb⟩ | ⟨hb, eb, vb⟩
    · simp [ha, hb, ea, eb]
    · simp [ha, hb, va, ea, eb]
set_option maxHeartbeats 4000000 in
set_option maxRecDepth 100000 in
theorem schoose_any (a b : ByteArray) (w : World) :
    Calls Try.prog 10 #[.string a, .string b] w fun en w' => en = .returned (.tuple #[chV a b, .int .i64 (chI a b), .int .i64 (chE a b)]) ∧ Below w.heap.size w w' := by
  refine calls_by fun R HR => ?_
  obtain ⟨W, hW⟩ : ∃ W, w.alloc (.cells #[.int .i64 0, .int .i64 0, .int .i64 0, .int .i64 0, .int .i64 0, .int .i64 0, .int .i64 0] 26) = W := ⟨_, rfl⟩
  have HW := Lib.hid (And.intro (show Below w.heap.size w W by rw [← hW]; exact alloc_below w _) (show W.heap[w.heap.size]? = some (.cells #[.int .i64 0, .int .i64 0, .int .i64 0, .int .i64 0, .int .i64 0, .int .i64 0, .int .i64 0] 26 (0, 0)) by rw [← hW]; exact alloc_new w _))
  obtain ⟨x0, hx0⟩ : ∃ z, stN a 9 8 = z := ⟨_, rfl⟩
  obtain ⟨x1, hx1⟩ : ∃ z, stN a 17 4 = z := ⟨_, rfl⟩
  obtain ⟨x2, hx2⟩ : ∃ z, stN a 21 4 = z := ⟨_, rfl⟩
  obtain ⟨x3, hx3⟩ : ∃ z, stN a 25 8 = z := ⟨_, rfl⟩
  obtain ⟨x4, hx4⟩ : ∃ z, stN a 33 4 = z := ⟨_, rfl⟩
  obtain ⟨x5, hx5⟩ : ∃ z, stN a 37 4 = z := ⟨_, rfl⟩
  obtain ⟨x6, hx6⟩ : ∃ z, stN a 41 4 = z := ⟨_, rfl⟩
  have hA : stV a = supV x0 x1 x2 x3 x4 x5 x6 := by rw [stV, hx0, hx1, hx2, hx3, hx4, hx5, hx6]
  obtain ⟨ka, hka⟩ : ∃ z, stE a = z := ⟨_, rfl⟩
  have HA := Lib.hid (fun w => stake_any a w)
  simp only [hA, hka] at HA
  obtain ⟨y0, hy0⟩ : ∃ z, stN b 9 8 = z := ⟨_, rfl⟩
  obtain ⟨y1, hy1⟩ : ∃ z, stN b 17 4 = z := ⟨_, rfl⟩
  obtain ⟨y2, hy2⟩ : ∃ z, stN b 21 4 = z := ⟨_, rfl⟩
  obtain ⟨y3, hy3⟩ : ∃ z, stN b 25 8 = z := ⟨_, rfl⟩
  obtain ⟨y4, hy4⟩ : ∃ z, stN b 33 4 = z := ⟨_, rfl⟩
  obtain ⟨y5, hy5⟩ : ∃ z, stN b 37 4 = z := ⟨_, rfl⟩
  obtain ⟨y6, hy6⟩ : ∃ z, stN b 41 4 = z := ⟨_, rfl⟩
  have hB : stV b = supV y0 y1 y2 y3 y4 y5 y6 := by rw [stV, hy0, hy1, hy2, hy3, hy4, hy5, hy6]
  obtain ⟨kb, hkb⟩ : ∃ z, stE b = z := ⟨_, rfl⟩
  have HB := Lib.hid (fun w => stake_any b w)
  simp only [hB, hkb] at HB
  have hcs := ch_cases a b
  rw [hka, hkb, hx0, hy0, hA, hB] at hcs
  have HCS := Lib.hid hcs
  clear hcs hx0 hy0 hx1 hy1 hx2 hy2 hx3 hy3 hx4 hy4 hx5 hy5 hx6 hy6 hka hkb hA hB
  go_enter Try.func10, Try.ntmps10
  go_wp2_with fail
  refine (HA.out _).mono ?_
  rintro en w1 ⟨rfl, hb1⟩
  obtain ⟨W1, hW1⟩ : ∃ W1, w1.alloc (.cells #[.int .i64 x0, .int .i64 x1, .int .i64 x2, .int .i64 x3, .int .i64 x4, .int .i64 x5, .int .i64 x6] 26) = W1 := ⟨_, rfl⟩
  have ha1 : Below w1.heap.size w1 W1 := by rw [← hW1]; exact alloc_below w1 _
  have k1 : W1.heap[w1.heap.size]? = some (.cells #[.int .i64 x0, .int .i64 x1, .int .i64 x2, .int .i64 x3, .int .i64 x4, .int .i64 x5, .int .i64 x6] 26 (0, 0)) := by rw [← hW1]; exact alloc_new w1 _
  have hc1 := hb1.trans (ha1.mono hb1.size)
  have H1 := Lib.hid (And.intro (HW.out.1.trans (hc1.mono HW.out.1.size)) (And.intro ((hc1.block _ (lt_of_block HW.out.2)).trans HW.out.2) k1))
  clear hb1 ha1 k1 hc1 hW
  go_wp2_with fail
  refine (HB.out _).mono ?_
  rintro en w2 ⟨rfl, hb2⟩
  obtain ⟨W2, hW2⟩ : ∃ W2, w2.alloc (.cells #[.int .i64 y0, .int .i64 y1, .int .i64 y2, .int .i64 y3, .int .i64 y4, .int .i64 y5, .int .i64 y6] 26) = W2 := ⟨_, rfl⟩
  have ha2 : Below w2.heap.size w2 W2 := by rw [← hW2]; exact alloc_below w2 _
  have k2 : W2.heap[w2.heap.size]? = some (.cells #[.int .i64 y0, .int .i64 y1, .int .i64 y2, .int .i64 y3, .int .i64 y4, .int .i64 y5, .int .i64 y6] 26 (0, 0)) := by rw [← hW2]; exact alloc_new w2 _
  have hc2 := hb2.trans (ha2.mono hb2.size)
  have H2 := Lib.hid (And.intro (H1.out.1.trans (hc2.mono H1.out.1.size)) (And.intro ((hc2.block _ (lt_of_block H1.out.2.1)).trans H1.out.2.1) (And.intro ((hc2.block _ (lt_of_block H1.out.2.2)).trans H1.out.2.2) k2)))
  clear hb2 ha2 k2 hc2 hW1
  obtain ⟨z0, z1, z2, z3, z4, z5, z6⟩ := blk7 H2.out.2.1
  obtain ⟨f0, f1, f2, f3, f4, f5, f6⟩ := fro7 H2.out.2.1
  obtain ⟨c0, c1, c2, c3, c4, c5, c6⟩ := blk7 H2.out.2.2.1
  obtain ⟨d0, d1, d2, d3, d4, d5, d6⟩ := blk7 H2.out.2.2.2
  rcases HCS.out with ⟨rfl, rfl, hV⟩ | ⟨rfl, rfl, hV⟩ | ⟨rfl, rfl, hV⟩ | ⟨rfl, rfl, hg, hV⟩ | ⟨rfl, rfl, hg, hV⟩
  · have HV := Lib.hid hV
    clear hV HCS
    go_wp2
    refine bodyPost_ret (v := .tuple #[supV 0 0 0 0 0 0 0, .int .i64 0, .int .i64 7]) (by simp [results, Try.results10, go_sem, supV, z0, z1, z2, z3, z4, z5, z6]) rfl ?_
    exact HR.out _ _ ⟨by rw [HV.out.1, HV.out.2.1, HV.out.2.2], by (repeat refine Below.setCell ?_ (by simp) _); exact H2.out.1⟩
  · have HV := Lib.hid hV
    clear hV HCS
    go_wp2
    refine bodyPost_ret (v := .tuple #[supV y0 y1 y2 y3 y4 y5 y6, .int .i64 1, .int .i64 0]) (by simp [results, Try.results10, go_sem, supV, z0, z1, z2, z3, z4, z5, z6]) rfl ?_
    exact HR.out _ _ ⟨by rw [HV.out.1, HV.out.2.1, HV.out.2.2], by (repeat refine Below.setCell ?_ (by simp) _); exact H2.out.1⟩
  · have HV := Lib.hid hV
    clear hV HCS
    go_wp2
    refine bodyPost_ret (v := .tuple #[supV x0 x1 x2 x3 x4 x5 x6, .int .i64 0, .int .i64 0]) (by simp [results, Try.results10, go_sem, supV, z0, z1, z2, z3, z4, z5, z6]) rfl ?_
    exact HR.out _ _ ⟨by rw [HV.out.1, HV.out.2.1, HV.out.2.2], by (repeat refine Below.setCell ?_ (by simp) _); exact H2.out.1⟩
  · have HV := Lib.hid hV
    clear hV HCS
    go_wp2
    refine bodyPost_ret (v := .tuple #[supV y0 y1 y2 y3 y4 y5 y6, .int .i64 1, .int .i64 0]) (by simp [results, Try.results10, go_sem, supV, z0, z1, z2, z3, z4, z5, z6]) rfl ?_
    exact HR.out _ _ ⟨by rw [HV.out.1, HV.out.2.1, HV.out.2.2], by (repeat refine Below.setCell ?_ (by simp) _); exact H2.out.1⟩
  · have HV := Lib.hid hV
    clear hV HCS
    go_wp2
    refine bodyPost_ret (v := .tuple #[supV x0 x1 x2 x3 x4 x5 x6, .int .i64 0, .int .i64 0]) (by simp [results, Try.results10, go_sem, supV, z0, z1, z2, z3, z4, z5, z6]) rfl ?_
    exact HR.out _ _ ⟨by rw [HV.out.1, HV.out.2.1, HV.out.2.2], by (repeat refine Below.setCell ?_ (by simp) _); exact H2.out.1⟩
set_option maxHeartbeats 4000000 in
set_option maxRecDepth 100000 in
theorem rschoose_any (a b : ByteArray) (w : World) :
    Calls Try.prog 11 #[.string a, .string b] w fun en w' => en = .returned (.tuple #[chV a b, .int .i64 (rchI a b)]) ∧ Below w.heap.size w w' := by
  refine calls_by fun R HR => ?_
  obtain ⟨W, hW⟩ : ∃ W, w.alloc (.cells #[.int .i64 0, .int .i64 0, .int .i64 0, .int .i64 0, .int .i64 0, .int .i64 0, .int .i64 0] 26) = W := ⟨_, rfl⟩
  have HW := Lib.hid (And.intro (show Below w.heap.size w W by rw [← hW]; exact alloc_below w _) (show W.heap[w.heap.size]? = some (.cells #[.int .i64 0, .int .i64 0, .int .i64 0, .int .i64 0, .int .i64 0, .int .i64 0, .int .i64 0] 26 (0, 0)) by rw [← hW]; exact alloc_new w _))
  obtain ⟨x0, hx0⟩ : ∃ z, stN a 9 8 = z := ⟨_, rfl⟩
  obtain ⟨x1, hx1⟩ : ∃ z, stN a 17 4 = z := ⟨_, rfl⟩
  obtain ⟨x2, hx2⟩ : ∃ z, stN a 21 4 = z := ⟨_, rfl⟩
  obtain ⟨x3, hx3⟩ : ∃ z, stN a 25 8 = z := ⟨_, rfl⟩
  obtain ⟨x4, hx4⟩ : ∃ z, stN a 33 4 = z := ⟨_, rfl⟩
  obtain ⟨x5, hx5⟩ : ∃ z, stN a 37 4 = z := ⟨_, rfl⟩
  obtain ⟨x6, hx6⟩ : ∃ z, stN a 41 4 = z := ⟨_, rfl⟩
  have hA : stV a = supV x0 x1 x2 x3 x4 x5 x6 := by rw [stV, hx0, hx1, hx2, hx3, hx4, hx5, hx6]
  obtain ⟨ka, hka⟩ : ∃ z, stOk a = z := ⟨_, rfl⟩
  have HA := Lib.hid (fun w => rstake_any a w)
  simp only [hA, hka] at HA
  obtain ⟨y0, hy0⟩ : ∃ z, stN b 9 8 = z := ⟨_, rfl⟩
  obtain ⟨y1, hy1⟩ : ∃ z, stN b 17 4 = z := ⟨_, rfl⟩
  obtain ⟨y2, hy2⟩ : ∃ z, stN b 21 4 = z := ⟨_, rfl⟩
  obtain ⟨y3, hy3⟩ : ∃ z, stN b 25 8 = z := ⟨_, rfl⟩
  obtain ⟨y4, hy4⟩ : ∃ z, stN b 33 4 = z := ⟨_, rfl⟩
  obtain ⟨y5, hy5⟩ : ∃ z, stN b 37 4 = z := ⟨_, rfl⟩
  obtain ⟨y6, hy6⟩ : ∃ z, stN b 41 4 = z := ⟨_, rfl⟩
  have hB : stV b = supV y0 y1 y2 y3 y4 y5 y6 := by rw [stV, hy0, hy1, hy2, hy3, hy4, hy5, hy6]
  obtain ⟨kb, hkb⟩ : ∃ z, stOk b = z := ⟨_, rfl⟩
  have HB := Lib.hid (fun w => rstake_any b w)
  simp only [hB, hkb] at HB
  have hcs := rch_cases a b
  rw [hka, hkb, hx0, hy0, hA, hB] at hcs
  have HCS := Lib.hid hcs
  clear hcs hx0 hy0 hx1 hy1 hx2 hy2 hx3 hy3 hx4 hy4 hx5 hy5 hx6 hy6 hka hkb hA hB
  go_enter Try.func11, Try.ntmps11
  go_wp2_with fail
  refine (HA.out _).mono ?_
  rintro en w1 ⟨rfl, hb1⟩
  obtain ⟨W1, hW1⟩ : ∃ W1, w1.alloc (.cells #[.int .i64 x0, .int .i64 x1, .int .i64 x2, .int .i64 x3, .int .i64 x4, .int .i64 x5, .int .i64 x6] 26) = W1 := ⟨_, rfl⟩
  have ha1 : Below w1.heap.size w1 W1 := by rw [← hW1]; exact alloc_below w1 _
  have k1 : W1.heap[w1.heap.size]? = some (.cells #[.int .i64 x0, .int .i64 x1, .int .i64 x2, .int .i64 x3, .int .i64 x4, .int .i64 x5, .int .i64 x6] 26 (0, 0)) := by rw [← hW1]; exact alloc_new w1 _
  have hc1 := hb1.trans (ha1.mono hb1.size)
  have H1 := Lib.hid (And.intro (HW.out.1.trans (hc1.mono HW.out.1.size)) (And.intro ((hc1.block _ (lt_of_block HW.out.2)).trans HW.out.2) k1))
  clear hb1 ha1 k1 hc1 hW
  go_wp2_with fail
  refine (HB.out _).mono ?_
  rintro en w2 ⟨rfl, hb2⟩
  obtain ⟨W2, hW2⟩ : ∃ W2, w2.alloc (.cells #[.int .i64 y0, .int .i64 y1, .int .i64 y2, .int .i64 y3, .int .i64 y4, .int .i64 y5, .int .i64 y6] 26) = W2 := ⟨_, rfl⟩
  have ha2 : Below w2.heap.size w2 W2 := by rw [← hW2]; exact alloc_below w2 _
  have k2 : W2.heap[w2.heap.size]? = some (.cells #[.int .i64 y0, .int .i64 y1, .int .i64 y2, .int .i64 y3, .int .i64 y4, .int .i64 y5, .int .i64 y6] 26 (0, 0)) := by rw [← hW2]; exact alloc_new w2 _
  have hc2 := hb2.trans (ha2.mono hb2.size)
  have H2 := Lib.hid (And.intro (H1.out.1.trans (hc2.mono H1.out.1.size)) (And.intro ((hc2.block _ (lt_of_block H1.out.2.1)).trans H1.out.2.1) (And.intro ((hc2.block _ (lt_of_block H1.out.2.2)).trans H1.out.2.2) k2)))
  clear hb2 ha2 k2 hc2 hW1
  obtain ⟨z0, z1, z2, z3, z4, z5, z6⟩ := blk7 H2.out.2.1
  obtain ⟨f0, f1, f2, f3, f4, f5, f6⟩ := fro7 H2.out.2.1
  obtain ⟨c0, c1, c2, c3, c4, c5, c6⟩ := blk7 H2.out.2.2.1
  obtain ⟨d0, d1, d2, d3, d4, d5, d6⟩ := blk7 H2.out.2.2.2
  rcases HCS.out with ⟨rfl, rfl, hV⟩ | ⟨rfl, rfl, hV⟩ | ⟨rfl, rfl, hV⟩ | ⟨rfl, rfl, hg, hV⟩ | ⟨rfl, rfl, hg, hV⟩
  · have HV := Lib.hid hV
    clear hV HCS
    go_wp2
    refine bodyPost_ret (v := .tuple #[supV 0 0 0 0 0 0 0, .int .i64 (-1)]) (by simp [results, Try.results11, go_sem, supV, z0, z1, z2, z3, z4, z5, z6]) rfl ?_
    exact HR.out _ _ ⟨by rw [HV.out.1, HV.out.2], by (repeat refine Below.setCell ?_ (by simp) _); exact H2.out.1⟩
  · have HV := Lib.hid hV
    clear hV HCS
    go_wp2
    refine bodyPost_ret (v := .tuple #[supV y0 y1 y2 y3 y4 y5 y6, .int .i64 1]) (by simp [results, Try.results11, go_sem, supV, z0, z1, z2, z3, z4, z5, z6]) rfl ?_
    exact HR.out _ _ ⟨by rw [HV.out.1, HV.out.2], by (repeat refine Below.setCell ?_ (by simp) _); exact H2.out.1⟩
  · have HV := Lib.hid hV
    clear hV HCS
    go_wp2
    refine bodyPost_ret (v := .tuple #[supV x0 x1 x2 x3 x4 x5 x6, .int .i64 0]) (by simp [results, Try.results11, go_sem, supV, z0, z1, z2, z3, z4, z5, z6]) rfl ?_
    exact HR.out _ _ ⟨by rw [HV.out.1, HV.out.2], by (repeat refine Below.setCell ?_ (by simp) _); exact H2.out.1⟩
  · have HV := Lib.hid hV
    have hg' : ¬ y0 ≤ x0 := by omega
    clear hV HCS
    go_wp2
    refine bodyPost_ret (v := .tuple #[supV y0 y1 y2 y3 y4 y5 y6, .int .i64 1]) (by simp [results, Try.results11, go_sem, supV, z0, z1, z2, z3, z4, z5, z6]) rfl ?_
    exact HR.out _ _ ⟨by rw [HV.out.1, HV.out.2], by (repeat refine Below.setCell ?_ (by simp) _); exact H2.out.1⟩
  · have HV := Lib.hid hV
    have hg' : y0 ≤ x0 := by omega
    clear hV HCS
    go_wp2
    refine bodyPost_ret (v := .tuple #[supV x0 x1 x2 x3 x4 x5 x6, .int .i64 0]) (by simp [results, Try.results11, go_sem, supV, z0, z1, z2, z3, z4, z5, z6]) rfl ?_
    exact HR.out _ _ ⟨by rw [HV.out.1, HV.out.2], by (repeat refine Below.setCell ?_ (by simp) _); exact H2.out.1⟩
end Go.Proofs.Ytgaoammkegcdcaa
/- The chapter's example. -/
namespace Go.Proofs.Ytgaoammkegcdcaa
open Go.RowKit Ks
set_option linter.unusedVariables false
theorem alive10 : ∃ (S Z : ByteArray), supS 1 0 0 0 8 4 0 = S ∧ zerosS 4096 = Z ∧ supE 1 0 0 0 8 4 0 = 0 ∧ chV Z S = supV 1 0 0 0 8 4 0 ∧ chI Z S = 1 ∧ chE Z S = 0 := by
  have hok : supOk 1 0 0 0 8 4 0 = true := by decide +kernel
  obtain ⟨h1, n0, n1, n2, n3, n4, n5, n6⟩ := st_sup 1 0 0 0 8 4 0 hok
  have hz : stOk (zerosS 4096) = false := by
    rw [← Bool.not_eq_true]
    intro h
    have h2 := st_mark _ h
    rw [data_extract] at h2
    revert h2
    show ¬ (List.take 9 (List.drop 0 (List.replicate 4096 (0 : UInt8))) = markL)
    rw [List.drop_zero, List.take_replicate]
    decide
  refine ⟨_, _, rfl, rfl, sup_yes hok, ?_, ?_, ?_⟩
  · unfold chV chW; simp only [h1, hz, Bool.not_false, Bool.true_or, Bool.and_true, if_true]; rw [stV, n0, n1, n2, n3, n4, n5, n6]
  · unfold chI chW; simp [h1, hz]
  · unfold chE; simp [h1]
set_option maxHeartbeats 4000000 in
set_option maxRecDepth 100000 in
theorem alive_any (w : World) : Calls Try.prog 7 #[] w fun e w' => e = .returned (.bool true) ∧ Below w.heap.size w w' := by
  refine calls_by fun R HR => ?_
  obtain ⟨S, Z, e1, e2, e3, e4, e5, e6⟩ := alive10
  have HP := Lib.hid (fun w => sput_any 1 0 0 0 8 4 0 w (by omega))
  have HZ := Lib.hid (fun w => noughts_any 4096 w (by omega))
  have HC := Lib.hid (fun w => schoose_any Z S w)
  simp only [e1, e3] at HP
  simp only [e2] at HZ
  simp only [e4, e5, e6] at HC
  clear e1 e2 e3 e4 e5 e6
  obtain ⟨W1, hW1⟩ : ∃ W1, w.alloc (.cells #[.int .i64 1, .int .i64 0, .int .i64 0, .int .i64 0, .int .i64 8, .int .i64 4, .int .i64 0] 26) = W1 := ⟨_, rfl⟩
  have hb1 : Below w.heap.size w W1 := by rw [← hW1]; exact alloc_below w _
  have k1 : W1.heap[w.heap.size]? = some (.cells #[.int .i64 1, .int .i64 0, .int .i64 0, .int .i64 0, .int .i64 8, .int .i64 4, .int .i64 0] 26 (0, 0)) := by rw [← hW1]; exact alloc_new w _
  obtain ⟨l1_0, l1_1, l1_2, l1_3, l1_4, l1_5, l1_6⟩ := blk7 (alloc_new w (.cells #[.int .i64 1, .int .i64 0, .int .i64 0, .int .i64 0, .int .i64 8, .int .i64 4, .int .i64 0] 26))
  have H1 := Lib.hid (And.intro hb1 k1)
  have HL1 := Lib.hid hW1
  clear k1 hb1 hW1
  go_enter Try.func7, Try.ntmps7
  go_wp2_with fail
  rw [HL1.out]
  clear HL1 l1_0 l1_1 l1_2 l1_3 l1_4 l1_5 l1_6
  with_reducible refine (HP.out _).mono ?_
  rintro en w2 ⟨rfl, hb2⟩
  have H2 := Lib.hid (And.intro (H1.out.1.trans (hb2.mono H1.out.1.size)) ((hb2.block _ (lt_of_block H1.out.2)).trans H1.out.2))
  clear hb2
  go_wp2_with fail
  with_reducible refine (HZ.out _).mono ?_
  rintro en w3 ⟨rfl, hb3⟩
  have H3 := Lib.hid (And.intro (H2.out.1.trans (hb3.mono H2.out.1.size)) ((hb3.block _ (lt_of_block H2.out.2)).trans H2.out.2))
  clear hb3
  go_wp2_with fail
  with_reducible refine (HC.out _).mono ?_
  rintro en w4 ⟨rfl, hb4⟩
  have H4 := Lib.hid (And.intro (H3.out.1.trans (hb4.mono H3.out.1.size)) ((hb4.block _ (lt_of_block H3.out.2)).trans H3.out.2))
  clear hb4
  have hb5 := alloc_below w4 (.cells #[.int .i64 1, .int .i64 0, .int .i64 0, .int .i64 0, .int .i64 8, .int .i64 4, .int .i64 0] 26)
  have k5 := alloc_new w4 (.cells #[.int .i64 1, .int .i64 0, .int .i64 0, .int .i64 0, .int .i64 8, .int .i64 4, .int .i64 0] 26)
  have H5 := Lib.hid (And.intro (H4.out.1.trans (hb5.mono H4.out.1.size)) (And.intro ((hb5.block _ (lt_of_block H4.out.2)).trans H4.out.2) k5))
  clear k5 hb5
  obtain ⟨c0_0, c0_1, c0_2, c0_3, c0_4, c0_5, c0_6⟩ := blk7 H5.out.2.1
  obtain ⟨c1_0, c1_1, c1_2, c1_3, c1_4, c1_5, c1_6⟩ := blk7 H5.out.2.2
  go_wp2
  exact HR.out _ _ ⟨rfl, H5.out.1⟩
end Go.Proofs.Ytgaoammkegcdcaa
/- A call of a function at a step of a region that draws its order, by its contract. Plain. No program is in sight. -/
namespace Ks
open Go Go.RowKit
set_option linter.unusedVariables false
theorem step_call {P : Program} {ops : Array Oper} {o : Oper} {a : Act} {w : World} {K : Act → World → Prop} {Q : Exit → Act → World → Prop} {F : Prop} (hg : o.guard = none) (f : FuncId) (xs : Array Operand) (ts : Array TypeId)
    (hop : o.op = Op.call { callee := Callee.value (.func f), args := xs, argTypes := ts }) (eg : ∀ args w, (callFunc f args).run P w = .ok (.enter f args) w) (args : Array Value) (hargs : xs.toList.map a.eval = args.toList)
    {Φ : Value → World → Prop} (hc : Calls P f args w fun e w' => ∃ v, e = .returned v ∧ Φ v w') (hK : ∀ v w', Φ v w' → K (a.put o.dst v) w') : if Region.wanted o (yielded ops a.tmps) = true then Oper.wp P o a w K Q else F := by
  have hw : Region.wanted o (yielded ops a.tmps) = true := by simp [Region.wanted, hg]
  rw [if_pos hw]
  have hrun : (execOp a.eval o).run P w = .ok (.enter f args) w := by
    have h : xs.map a.eval = args := Array.toList_inj.1 (by simpa using hargs)
    simp [execOp, hop, resolve, Deferred.ofValue, Act.eval, invoke, eg, ← h]
  unfold Oper.wp
  rw [hrun, Oper.upon_enter]
  exact hc.mono fun e w' ⟨v, he, h⟩ => by subst he; exact hK v w' h
/-- a cell that was there, behind a callee that turned nothing -/
theorem cell_on {w w1 : World} {n o : Nat} {v : Value} (hb : Below w.heap.size w w1) (h : w.cell? ⟨n, o, none⟩ = some v) : w1.cell? ⟨n, o, none⟩ = some v ∧ ∀ ob, (w1.alloc ob).cell? ⟨n, o, none⟩ = some v := by
  have hlt : n < w.heap.size := World.block_lt_of_cell? w _ h
  have h1 := (hb.cell (p := ⟨n, o, none⟩) hlt).trans h
  exact ⟨h1, fun ob => (((Below.refl w1.heap.size w1).alloc (Nat.le_refl _) ob).cell (p := ⟨n, o, none⟩) (Nat.lt_of_lt_of_le hlt hb.size)).trans h1⟩
theorem blk_on {w w1 : World} {b : Nat} {o : Obj} (hb : Below w.heap.size w w1) (h : w.heap[b]? = some o) : w1.heap[b]? = some o := (hb.block b (Array.getElem?_eq_some_iff.1 h).1).trans h
end Ks
/- A superblock among a law's arguments. -/
namespace Go.Proofs.Ytgaoammkegcdcaa
open Go Go.RowKit Go.ChangeShapes Go.WideShapes Go.ChangeAt Ks
set_option linter.unusedVariables false

theorem cellsSuper : Try.prog.cellsOf 26 = 7 := by kernel_rfl
theorem cellsGeoF : Try.prog.cellsOf 24 = 3 := by kernel_rfl
theorem cellsIntF : Try.prog.cellsOf 3 = 1 := by kernel_rfl

set_option maxRecDepth 100000 in
theorem open_super {H : Type} {enc : TypeId × Value → H} {W : World} {base : Nat} {v : Value} {d : DataW H} {ps : List MemPlace}
    (hok : Value.okWide Try.prog W .any base 26 v) (h : DataW.Trod enc Try.prog W 0 (fun _ => true) true 26 v d ps) :
    ∃ (g t e c b l f : Int), v = supV g t e c b l f ∧ (-9223372036854775808 ≤ g ∧ g ≤ 9223372036854775807) ∧ (-9223372036854775808 ≤ b ∧ b ≤ 9223372036854775807) := by
  obtain ⟨fuel, hf⟩ := h
  have hv : ∃ cs, v = .agg cs := by
    have h0 := hok
    unfold Value.okWide at h0
    rw [Try.underlying26] at h0
    obtain ⟨cs, h1, _⟩ := h0
    exact ⟨cs, h1⟩
  obtain ⟨⟨cs⟩, rfl⟩ := hv
  obtain ⟨xs, n, _, _, hl, hlen, hF⟩ := DataW.trod_struct Try.underlying26 hf
  rw [cellsSuper] at hl
  simp only [Value.cells] at hl hF
  match cs, hl, xs, hlen with
  | [c0, c1, c2, c3, c4, c5, c6], _, [x0, x1, x2, x3, x4], _ =>
    have t0 := hF 0 _ rfl
    have t1 := hF 1 _ rfl
    have t2 := hF 2 _ rfl
    have t3 := hF 3 _ rfl
    have t4 := hF 4 _ rfl
    simp [cellsIntF, cellsGeoF] at t0 t1 t2 t3 t4
    obtain ⟨ys, m, _, _, hl2, hlen2, hG⟩ := DataW.trod_struct Try.underlying24 t4
    match ys, hlen2 with
    | [y0, y1, y2], _ =>
      have u0 := hG 0 _ rfl
      have u1 := hG 1 _ rfl
      have u2 := hG 2 _ rfl
      simp [cellsIntF] at u0 u1 u2
      obtain ⟨g, h0, _, s0⟩ := DataW.trod_int Try.underlying3 t0
      obtain ⟨t, h1, _, s1⟩ := DataW.trod_int Try.underlying3 t1
      obtain ⟨e, h2, _, s2⟩ := DataW.trod_int Try.underlying3 t2
      obtain ⟨c, h3, _, s3⟩ := DataW.trod_int Try.underlying3 t3
      obtain ⟨b, h4, _, s4⟩ := DataW.trod_int Try.underlying3 u0
      obtain ⟨l, h5, _, s5⟩ := DataW.trod_int Try.underlying3 u1
      obtain ⟨f, h6, _, s6⟩ := DataW.trod_int Try.underlying3 u2
      simp at h0 h1 h2 h3 h4 h5 h6
      subst h0 h1 h2 h3 h4 h5 h6
      exact ⟨g, t, e, c, b, l, f, rfl, i64_range s0, i64_range s4⟩
end Go.Proofs.Ytgaoammkegcdcaa
