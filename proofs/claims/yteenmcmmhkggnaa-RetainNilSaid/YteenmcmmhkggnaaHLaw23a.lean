/- The law RetainNil: what its walk gives. -/
import Derived.Test.YteenmcmmhkggnaaM5
set_option maxRecDepth 100000
namespace Go.Proofs.Yteenmcmmhkggnaa
open Go.RowKit Ks Go.Maps
set_option linter.unusedVariables false
set_option linter.unusedSimpArgs false
set_option maxRecDepth 100000 in
set_option maxHeartbeats 8000000 in
theorem rnil_any (x : RecT) (there : Bool) (w : World) :
    Calls Try.prog 4 #[recV x, .bool there] w fun e w' => e = .returned (.bool true) ∧ Below w.heap.size w w' := by
  refine calls_by fun R HR => ?_
  obtain ⟨kd, ep, tm, ct, tg, un, rt, nm⟩ := x
  have H1 := Lib.hid (Below.refl w.heap.size w)
  obtain ⟨W1, hW1⟩ : ∃ W1, w.alloc (.cells #[.int .i64 kd, .int .i64 ep, .int .i64 tm, .int .i64 ct, .int .i64 tg, .int .i64 un, .string rt, .string nm] 30) = W1 := ⟨_, rfl⟩
  have hbW1 : Below w.heap.size w W1 := by rw [← hW1]; exact alloc_below w _
  have kW1 : W1.heap[w.heap.size]? = some (.cells #[.int .i64 kd, .int .i64 ep, .int .i64 tm, .int .i64 ct, .int .i64 tg, .int .i64 un, .string rt, .string nm] 30 (0, 0)) := by rw [← hW1]; exact alloc_new w _
  have H2 := Lib.hid (And.intro (H1.out.trans (hbW1.mono H1.out.size)) (kW1))
  clear hbW1 kW1
  obtain ⟨W2, hW2⟩ : ∃ W2, W1.alloc (.cells #[.int .i64 kd, .int .i64 ep, .int .i64 tm, .int .i64 ct, .int .i64 tg, .int .i64 un, .string rt, .string nm] 30) = W2 := ⟨_, rfl⟩
  have hbW2 : Below W1.heap.size W1 W2 := by rw [← hW2]; exact alloc_below W1 _
  have hr2 : Rd recE W2 (.slice (some ⟨W1.heap.size, 0, none⟩) 1 1) [⟨kd, ep, tm, ct, tg, un, rt, nm⟩] := by rw [← hW2]; exact Rd.single (E := recE) ⟨kd, ep, tm, ct, tg, un, rt, nm⟩ (alloc_new _ _) rfl
  obtain ⟨⟨r0, r1, r2, r3, r4, r5, r6, r7⟩, -⟩ := blkR H2.out.2
  have H3 := Lib.hid (And.intro (H2.out.1.trans (hbW2.mono H2.out.1.size)) (And.intro (blk_on hbW2 H2.out.2) (hr2)))
  clear hbW2 hr2
  go_enter Try.func4, Try.ntmps4
  go_wp2_with fail
  refine (few23_any _ _ _ H3.out.2.2).mono ?_
  rintro en v1 ⟨q9, rfl, hq9, hb⟩
  have H4 := Lib.hid (And.intro (H3.out.1.trans (hb.mono H3.out.1.size)) (blk_on hb H3.out.2.1))
  clear hb
  clear hq9 r0 r1 r2 r3 r4 r5 r6 r7 hW1 hW2
  cases q9 with
  | false =>
    go_wp2_with fail
    refine (alive23_any _).mono ?_
    rintro en v3 ⟨rfl, hb⟩
    have H5 := Lib.hid (And.intro (H4.out.1.trans (hb.mono H4.out.1.size)) (blk_on hb H4.out.2))
    clear hb
    go_wp2
    exact HR.out _ _ ⟨rfl, H5.out.1⟩
  | true =>
    cases there with
    | false =>
      have H5 := Lib.hid (And.intro H4.out.1 (And.intro H4.out.2 (show BookNo v1 (.pointer none) from Or.inl rfl)))
      go_upto_region 6 with fail
      obtain ⟨⟨r0, r1, r2, r3, r4, r5, r6, r7⟩, -⟩ := blkR H5.out.2.1
      have gr0 := fun p => after_cell r0 p
      have gr1 := fun p => after_cell r1 p
      have gr2 := fun p => after_cell r2 p
      have gr3 := fun p => after_cell r3 p
      have gr4 := fun p => after_cell r4 p
      have gr5 := fun p => after_cell r5 p
      have gr6 := fun p => after_cell r6 p
      have gr7 := fun p => after_cell r7 p
      have c0 := Lib.hid (fun p => calls_after (p := p) (bmay_no (v := (.pointer none)) ⟨kd, ep, tm, ct, tg, un, rt, nm⟩ (After v1 p) (H5.out.2.2.below (after_below v1 p))))
      have c1 := Lib.hid (fun p => calls_after (p := p) (bapply_no (v := (.pointer none)) ⟨kd, ep, tm, ct, tg, un, rt, nm⟩ (After v1 p) (H5.out.2.2.below (after_below v1 p))))
      have c2 := Lib.hid (fun p => calls_after_same (p := p) ((bepoch_no (v := (.pointer none)) (After v1 p) (H5.out.2.2.below (after_below v1 p))).mono fun _ _ h => ⟨h.1, h.2.symm⟩))
      have c3 := Lib.hid (fun p => calls_after_same (p := p) ((bnow_no (v := (.pointer none)) (After v1 p) (H5.out.2.2.below (after_below v1 p))).mono fun _ _ h => ⟨h.1, h.2.symm⟩))
      have c4 := Lib.hid (fun p => calls_after_same (p := p) ((buntil_no (v := (.pointer none)) tg (After v1 p) (H5.out.2.2.below (after_below v1 p))).mono fun _ _ h => ⟨h.1, h.2.symm⟩))
      have c5 := Lib.hid (fun p => calls_after_same (p := p) ((bheld_no (v := (.pointer none)) tg (After v1 p) (H5.out.2.2.below (after_below v1 p))).mono fun _ _ h => ⟨h.1, h.2.symm⟩))
      have c6 := Lib.hid (fun p => calls_after_same (p := p) ((bholds_no (v := (.pointer none)) (After v1 p) (H5.out.2.2.below (after_below v1 p))).mono fun _ _ h => ⟨h.1, h.2.symm⟩))
      have c7 := Lib.hid (fun p => calls_after_same (p := p) ((bgone_no (v := (.pointer none)) tg (After v1 p) (H5.out.2.2.below (after_below v1 p))).mono fun _ _ h => ⟨h.1, h.2.symm⟩))
      have c8 := Lib.hid (fun p => calls_after_same (p := p) ((bcopy_no (v := (.pointer none)) (After v1 p) (H5.out.2.2.below (after_below v1 p))).mono fun _ _ h => ⟨h.1, h.2.symm⟩))
      have c9 := Lib.hid (fun p => calls_after (p := p) (alive23_any (After v1 p)))
      refine wp_region_after (by kernel_rfl) (by kernel_rfl) ?_
      repeat (go_big_quiet_step (fail))
      go_big_quiet_step (exact c0.out _)
      repeat (go_big_quiet_step (fail))
      go_big_quiet_step (exact c1.out _)
      repeat (go_big_quiet_step (fail))
      go_big_quiet_step (exact c2.out _)
      repeat (go_big_quiet_step (fail))
      go_big_quiet_step (exact c3.out _)
      repeat (go_big_quiet_step (fail))
      go_big_quiet_step (exact c4.out _)
      repeat (go_big_quiet_step (fail))
      go_big_quiet_step (exact c5.out _)
      repeat (go_big_quiet_step (fail))
      go_big_quiet_step (exact c6.out _)
      repeat (go_big_quiet_step (fail))
      go_big_quiet_step (exact c7.out _)
      repeat (go_big_quiet_step (fail))
      go_big_quiet_step (exact c8.out _)
      repeat (go_big_quiet_step (fail))
      go_big_quiet_step (exact c9.out _)
      repeat (go_big_quiet_step (fail))
      refine wpQuiet_nil ?_
      rintro q1 ⟨p9, rfl⟩
      have hb := after_below v1 p9
      have H6 := Lib.hid (And.intro (H5.out.1.trans (hb.mono H5.out.1.size)) (And.intro (blk_on hb H5.out.2.1) (H5.out.2.2.below hb)))
      generalize After v1 p9 = q1 at *
      clear hb gr0 gr1 gr2 gr3 gr4 gr5 gr6 gr7 r0 r1 r2 r3 r4 r5 r6 r7
      clear c0 c1 c2 c3 c4 c5 c6 c7 c8 c9
      go_wp2
      exact HR.out _ _ ⟨rfl, H6.out.1⟩
    | true =>
      obtain ⟨WS, hWS⟩ : ∃ WS, v1.alloc (.cells #[.pointer none, .int .i64 0, .int .i64 0, .map none, .map none, .map none] 42) = WS := ⟨_, rfl⟩
      have hbWS : Below v1.heap.size v1 WS := by rw [← hWS]; exact alloc_below v1 _
      have kWS : WS.heap[v1.heap.size]? = some (.cells #[.pointer none, .int .i64 0, .int .i64 0, .map none, .map none, .map none] 42 (0, 0)) := by rw [← hWS]; exact alloc_new v1 _
      have EWS := Lib.hid hWS
      have H5 := Lib.hid (And.intro (H4.out.1.trans (hbWS.mono H4.out.1.size)) (And.intro (blk_on hbWS H4.out.2) (kWS)))
      clear hbWS kWS hWS
      have H6 := Lib.hid (And.intro H5.out.1 (And.intro H5.out.2.1 (And.intro H5.out.2.2 (show BookNo WS (.pointer (some ⟨v1.heap.size, 0, none⟩)) from Or.inr ⟨_, rfl, H5.out.2.2⟩))))
      have H7 := Lib.hid (And.intro H6.out.1 (And.intro H6.out.2.1 H6.out.2.2.2))
      go_upto_region 6 with fail
      try rw [EWS.out]
      clear EWS
      obtain ⟨⟨r0, r1, r2, r3, r4, r5, r6, r7⟩, -⟩ := blkR H7.out.2.1
      have gr0 := fun p => after_cell r0 p
      have gr1 := fun p => after_cell r1 p
      have gr2 := fun p => after_cell r2 p
      have gr3 := fun p => after_cell r3 p
      have gr4 := fun p => after_cell r4 p
      have gr5 := fun p => after_cell r5 p
      have gr6 := fun p => after_cell r6 p
      have gr7 := fun p => after_cell r7 p
      have c0 := Lib.hid (fun p => calls_after (p := p) (bmay_no (v := (.pointer (some ⟨v1.heap.size, 0, none⟩))) ⟨kd, ep, tm, ct, tg, un, rt, nm⟩ (After WS p) (H7.out.2.2.below (after_below WS p))))
      have c1 := Lib.hid (fun p => calls_after (p := p) (bapply_no (v := (.pointer (some ⟨v1.heap.size, 0, none⟩))) ⟨kd, ep, tm, ct, tg, un, rt, nm⟩ (After WS p) (H7.out.2.2.below (after_below WS p))))
      have c2 := Lib.hid (fun p => calls_after_same (p := p) ((bepoch_no (v := (.pointer (some ⟨v1.heap.size, 0, none⟩))) (After WS p) (H7.out.2.2.below (after_below WS p))).mono fun _ _ h => ⟨h.1, h.2.symm⟩))
      have c3 := Lib.hid (fun p => calls_after_same (p := p) ((bnow_no (v := (.pointer (some ⟨v1.heap.size, 0, none⟩))) (After WS p) (H7.out.2.2.below (after_below WS p))).mono fun _ _ h => ⟨h.1, h.2.symm⟩))
      have c4 := Lib.hid (fun p => calls_after_same (p := p) ((buntil_no (v := (.pointer (some ⟨v1.heap.size, 0, none⟩))) tg (After WS p) (H7.out.2.2.below (after_below WS p))).mono fun _ _ h => ⟨h.1, h.2.symm⟩))
      have c5 := Lib.hid (fun p => calls_after_same (p := p) ((bheld_no (v := (.pointer (some ⟨v1.heap.size, 0, none⟩))) tg (After WS p) (H7.out.2.2.below (after_below WS p))).mono fun _ _ h => ⟨h.1, h.2.symm⟩))
      have c6 := Lib.hid (fun p => calls_after_same (p := p) ((bholds_no (v := (.pointer (some ⟨v1.heap.size, 0, none⟩))) (After WS p) (H7.out.2.2.below (after_below WS p))).mono fun _ _ h => ⟨h.1, h.2.symm⟩))
      have c7 := Lib.hid (fun p => calls_after_same (p := p) ((bgone_no (v := (.pointer (some ⟨v1.heap.size, 0, none⟩))) tg (After WS p) (H7.out.2.2.below (after_below WS p))).mono fun _ _ h => ⟨h.1, h.2.symm⟩))
      have c8 := Lib.hid (fun p => calls_after_same (p := p) ((bcopy_no (v := (.pointer (some ⟨v1.heap.size, 0, none⟩))) (After WS p) (H7.out.2.2.below (after_below WS p))).mono fun _ _ h => ⟨h.1, h.2.symm⟩))
      have c9 := Lib.hid (fun p => calls_after (p := p) (alive23_any (After WS p)))
      refine wp_region_after (by kernel_rfl) (by kernel_rfl) ?_
      repeat (go_big_quiet_step (fail))
      go_big_quiet_step (exact c0.out _)
      repeat (go_big_quiet_step (fail))
      go_big_quiet_step (exact c1.out _)
      repeat (go_big_quiet_step (fail))
      go_big_quiet_step (exact c2.out _)
      repeat (go_big_quiet_step (fail))
      go_big_quiet_step (exact c3.out _)
      repeat (go_big_quiet_step (fail))
      go_big_quiet_step (exact c4.out _)
      repeat (go_big_quiet_step (fail))
      go_big_quiet_step (exact c5.out _)
      repeat (go_big_quiet_step (fail))
      go_big_quiet_step (exact c6.out _)
      repeat (go_big_quiet_step (fail))
      go_big_quiet_step (exact c7.out _)
      repeat (go_big_quiet_step (fail))
      go_big_quiet_step (exact c8.out _)
      repeat (go_big_quiet_step (fail))
      go_big_quiet_step (exact c9.out _)
      repeat (go_big_quiet_step (fail))
      refine wpQuiet_nil ?_
      rintro q1 ⟨p9, rfl⟩
      have hb := after_below WS p9
      have H8 := Lib.hid (And.intro (H7.out.1.trans (hb.mono H7.out.1.size)) (And.intro (blk_on hb H7.out.2.1) (H7.out.2.2.below hb)))
      generalize After WS p9 = q1 at *
      clear hb gr0 gr1 gr2 gr3 gr4 gr5 gr6 gr7 r0 r1 r2 r3 r4 r5 r6 r7
      clear c0 c1 c2 c3 c4 c5 c6 c7 c8 c9
      go_wp2
      exact HR.out _ _ ⟨rfl, H8.out.1⟩
end Go.Proofs.Yteenmcmmhkggnaa
