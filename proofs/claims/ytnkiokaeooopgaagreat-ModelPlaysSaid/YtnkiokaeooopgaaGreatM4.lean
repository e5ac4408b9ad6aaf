/- Texts that the claim rests on, part 4: RecRest. -/
import Derived.Deep.DeepCutAuto
import Derived.Deep.CutBlock
import Derived.BigQuiet
import Derived.Laws.EntriesVeiled
import Derived.Test.YtnkiokaeooopgaaGreatM3
/- What of a record its kind does not say, and whether what it says may be: of the program. -/

set_option maxRecDepth 100000
namespace Ks
open Go Go.RowKit
set_option linter.unusedVariables false
theorem blkR {w : World} {b : Nat} {c0 c1 c2 c3 c4 c5 c6 c7 : Value} {T : TypeId} (h : w.heap[b]? = some (.cells #[c0, c1, c2, c3, c4, c5, c6, c7] T (0, 0))) : (w.cell? ⟨b, 0, none⟩ = some c0 ∧ w.cell? ⟨b, 1, none⟩ = some c1 ∧ w.cell? ⟨b, 2, none⟩ = some c2 ∧ w.cell? ⟨b, 3, none⟩ = some c3 ∧ w.cell? ⟨b, 4, none⟩ = some c4 ∧ w.cell? ⟨b, 5, none⟩ = some c5 ∧ w.cell? ⟨b, 6, none⟩ = some c6 ∧ w.cell? ⟨b, 7, none⟩ = some c7) ∧ ∀ j, w.frozen? ⟨b, j, none⟩ = false :=
  ⟨⟨by rw [cell_of_row w b 0 _ _ _ h]; rfl, by rw [cell_of_row w b 1 _ _ _ h]; rfl, by rw [cell_of_row w b 2 _ _ _ h]; rfl, by rw [cell_of_row w b 3 _ _ _ h]; rfl, by rw [cell_of_row w b 4 _ _ _ h]; rfl, by rw [cell_of_row w b 5 _ _ _ h]; rfl, by rw [cell_of_row w b 6 _ _ _ h]; rfl, by rw [cell_of_row w b 7 _ _ _ h]; rfl⟩, fun j => frozen_of_row w b j _ _ h⟩
theorem rec_one (a b c d e f : Int) (s t : ByteArray) : (#[.int .i64 a, .int .i64 b, .int .i64 c, .int .i64 d, .int .i64 e, .int .i64 f, .string s, .string t] : Array Value).all (fun v => v.oneCell') = true := by simp [Value.oneCell']
end Ks
namespace Go.Proofs.YtnkiokaeooopgaaGreat
open Go.RowKit Ks
set_option linter.unusedVariables false
set_option linter.unusedSimpArgs false
set_option maxRecDepth 100000 in
set_option maxHeartbeats 4000000 in
theorem target_any (bo bx br : Nat) (ok : Bool) (r x : RecT) (w : World) (ho : w.heap[bo]? = some (.cells #[.bool ok] 4 (0, 0))) (hx : w.heap[bx]? = some (.cells (recC x) 72 (0, 0))) (hr : w.heap[br]? = some (.cells (recC r) 72 (0, 0))) (h1 : bo ≠ bx) :
    Calls Tryz.prog 96 #[.pointer (some ⟨bo, 0, none⟩), .pointer (some ⟨bx, 0, none⟩), .pointer (some ⟨br, 0, none⟩)] w fun e w' => e = .returned (.tuple #[]) ∧
      w'.heap[bo]? = some (.cells #[.bool (ok && withB x.target (wrap64 (r.epoch - 1)))] 4 (0, 0)) ∧ w'.heap[bx]? = some (.cells (recC { x with target := 0 }) 72 (0, 0)) ∧ w'.heap.size = w.heap.size ∧ Turn w w' (fun k => k = bo ∨ k = bx) (fun k => k = bo ∨ k = bx) := by
  refine calls_by fun R HR => ?_
  have HO := Lib.hid (And.intro ho (And.intro hx h1))
  have HW := Lib.hid (fun n m w => within_any n m w)
  obtain ⟨o0, -, fo0, -⟩ := (show w.cell? ⟨bo, 0, none⟩ = some (.bool ok) ∧ True ∧ w.frozen? ⟨bo, 0, none⟩ = false ∧ True from ⟨(blk1 ho).1, trivial, frozen_of_row w bo 0 _ _ ho, trivial⟩)
  obtain ⟨⟨x0, x1, x2, x3, x4, x5, x6, x7⟩, fx⟩ := blkR hx
  obtain ⟨⟨-, r1, -⟩, -⟩ := blkR hr
  have fx4 := fx 4
  obtain ⟨xa, xb, xc, xd, xt, xe, xr, xn⟩ := x
  obtain ⟨ra, re, rc, rd, rt, ru, rr, rn⟩ := r
  simp only at x0 x1 x2 x3 x4 x5 x6 x7 r1
  clear ho hx hr h1 fx
  cases ok with
  | false =>
    have HT := Lib.hid (Turn.cell w (F := fun k => k = bo ∨ k = bx) bo 0 (.bool (false)) (Or.inl rfl))
    have HT2 := Lib.hid (Turn.cell (w.setCell ⟨bo, 0, none⟩ (.bool (false))) (F := fun k => k = bo ∨ k = bx) bx 4 (.int .i64 0) (Or.inr rfl))
    have z0 : (w.setCell ⟨bo, 0, none⟩ (.bool (false))).frozen? ⟨bx, 4, none⟩ = false := frozen_of_row _ bx 4 _ _ ((set_ne _ (Ne.symm HO.out.2.2)).trans HO.out.2.1)
    go_enter Tryz.func96, Tryz.ntmps96
    go_wp2
    go_end0
    refine HR.out _ _ ⟨rfl, ?_, ?_, by simp, HT.out.trans HT2.out⟩
    · rw [set_ne _ HO.out.2.2]; exact set_blk HO.out.1 0 _
    · exact set_blk ((set_ne _ (Ne.symm HO.out.2.2)).trans HO.out.2.1) 4 _
  | true =>
    have HT := Lib.hid (Turn.cell w (F := fun k => k = bo ∨ k = bx) bo 0 (.bool (withB xt (wrap64 (re - 1)))) (Or.inl rfl))
    have HT2 := Lib.hid (Turn.cell (w.setCell ⟨bo, 0, none⟩ (.bool (withB xt (wrap64 (re - 1))))) (F := fun k => k = bo ∨ k = bx) bx 4 (.int .i64 0) (Or.inr rfl))
    have z0 : (w.setCell ⟨bo, 0, none⟩ (.bool (withB xt (wrap64 (re - 1))))).frozen? ⟨bx, 4, none⟩ = false := frozen_of_row _ bx 4 _ _ ((set_ne _ (Ne.symm HO.out.2.2)).trans HO.out.2.1)
    go_enter Tryz.func96, Tryz.ntmps96
    go_wp2_with fail
    refine (HW.out _ _ _).mono ?_
    rintro en v1 ⟨rfl, hw⟩
    rw [hw]
    clear hw
    go_wp2
    go_end0
    refine HR.out _ _ ⟨rfl, ?_, ?_, by simp, HT.out.trans HT2.out⟩
    · rw [set_ne _ HO.out.2.2]; exact set_blk HO.out.1 0 _
    · exact set_blk ((set_ne _ (Ne.symm HO.out.2.2)).trans HO.out.2.1) 4 _
set_option maxRecDepth 100000 in
set_option maxHeartbeats 16000000 in
theorem rest_any (r : RecT) (w : World) (hn : r.name.size ≤ 9223372036854775807) :
    Calls Tryz.prog 91 #[recV r] w fun e w' => e = .returned (.tuple #[recV (restX r), .bool (restB r)]) ∧ Below w.heap.size w w' := by
  refine calls_by fun R HR => ?_
  have HW := Lib.hid (fun n m w => within_any n m w)
  have HNm := Lib.hid (fun w => name_any r.name w hn)
  have HTg := Lib.hid (fun bo bx br ok r x w ho hx hr h1 => target_any bo bx br ok r x w ho hx hr h1)
  have HV : Hid (∀ X B, restX r = X → restB r = B → ∀ w', Below w.heap.size w w' → R (.returned (.tuple #[recV X, .bool B])) w') := Lib.hid fun X B h1 h2 w' hb => HR.out _ _ ⟨by rw [h1, h2], hb⟩
  unfold restX restB at HV
  clear hn
  obtain ⟨kd, ep, tm, ct, tg, un, rt, nm⟩ := r
  simp only at HNm HV
  have H1 := Lib.hid (Below.refl w.heap.size w)
  obtain ⟨W1, hW1⟩ : ∃ W1, w.alloc (.cells #[.int .i64 kd, .int .i64 ep, .int .i64 tm, .int .i64 ct, .int .i64 tg, .int .i64 un, .string rt, .string nm] 72) = W1 := ⟨_, rfl⟩
  have hbW1 : Below w.heap.size w W1 := by rw [← hW1]; exact alloc_below w _
  have kW1 : W1.heap[w.heap.size]? = some (.cells #[.int .i64 kd, .int .i64 ep, .int .i64 tm, .int .i64 ct, .int .i64 tg, .int .i64 un, .string rt, .string nm] 72 (0, 0)) := by rw [← hW1]; exact alloc_new w _
  have H2 := Lib.hid (And.intro (H1.out.trans (hbW1.mono H1.out.size)) (kW1))
  clear hbW1 kW1
  have s1 : w.heap.size < W1.heap.size := lt_of_block H2.out.2
  obtain ⟨W2, hW2⟩ : ∃ W2, W1.alloc (.cells #[.int .i64 0, .int .i64 0, .int .i64 0, .int .i64 0, .int .i64 0, .int .i64 0, .string ⟨#[]⟩, .string ⟨#[]⟩] 72) = W2 := ⟨_, rfl⟩
  have hbW2 : Below W1.heap.size W1 W2 := by rw [← hW2]; exact alloc_below W1 _
  have kW2 : W2.heap[W1.heap.size]? = some (.cells #[.int .i64 0, .int .i64 0, .int .i64 0, .int .i64 0, .int .i64 0, .int .i64 0, .string ⟨#[]⟩, .string ⟨#[]⟩] 72 (0, 0)) := by rw [← hW2]; exact alloc_new W1 _
  have H3 := Lib.hid (And.intro (H2.out.1.trans (hbW2.mono H2.out.1.size)) (And.intro (blk_on hbW2 H2.out.2) (kW2)))
  clear hbW2 kW2
  have s2 : W1.heap.size < W2.heap.size := lt_of_block H3.out.2.2
  obtain ⟨W3, hW3⟩ : ∃ W3, W2.alloc (.cells #[.bool true] 4) = W3 := ⟨_, rfl⟩
  have hbW3 : Below W2.heap.size W2 W3 := by rw [← hW3]; exact alloc_below W2 _
  have kW3 : W3.heap[W2.heap.size]? = some (.cells #[.bool true] 4 (0, 0)) := by rw [← hW3]; exact alloc_new W2 _
  have H4 := Lib.hid (And.intro (H3.out.1.trans (hbW3.mono H3.out.1.size)) (And.intro (blk_on hbW3 H3.out.2.1) (And.intro (blk_on hbW3 H3.out.2.2) (kW3))))
  clear hbW3 kW3
  have s3 : W2.heap.size < W3.heap.size := lt_of_block H4.out.2.2.2
  obtain ⟨⟨r0, r1, r2, r3, r4, r5, r6, r7⟩, -⟩ := blkR H4.out.2.1
  obtain ⟨W4, hW4⟩ : ∃ W4, W3.alloc (.cells #[.int .i64 0, .int .i64 0, .int .i64 0, .int .i64 ct, .int .i64 tg, .int .i64 un, .string rt, .string nm] 72) = W4 := ⟨_, rfl⟩
  have hbW4 : Below W3.heap.size W3 W4 := by rw [← hW4]; exact alloc_below W3 _
  have kW4 : W4.heap[W3.heap.size]? = some (.cells #[.int .i64 0, .int .i64 0, .int .i64 0, .int .i64 ct, .int .i64 tg, .int .i64 un, .string rt, .string nm] 72 (0, 0)) := by rw [← hW4]; exact alloc_new W3 _
  have EW4 := Lib.hid hW4
  have H5 := Lib.hid (And.intro (H4.out.1.trans (hbW4.mono H4.out.1.size)) (And.intro (blk_on hbW4 H4.out.2.1) (And.intro (blk_on hbW4 H4.out.2.2.1) (And.intro (blk_on hbW4 H4.out.2.2.2) (kW4)))))
  clear hbW4 kW4 hW4
  have HS := Lib.hid (And.intro s1 (And.intro s2 s3))
  clear s1 s2 s3
  go_enter Tryz.func91, Tryz.ntmps91
  go_upto_region 5 with fail
  try rw [EW4.out]
  clear EW4 r0 r1 r2 r3 r4 r5 r6 r7 hW1 hW2 hW3
  have B4 := Lib.hid H5.out.1
  have KR4 := Lib.hid H5.out.2.1
  have KZ4 := Lib.hid H5.out.2.2.1
  have KO4 := Lib.hid H5.out.2.2.2.1
  have KX4 := Lib.hid H5.out.2.2.2.2
  obtain ⟨⟨r0, r1, r2, r3, r4, r5, r6, r7⟩, -⟩ := blkR KR4.out
  obtain ⟨⟨x0, x1, x2, x3, x4, x5, x6, x7⟩, fx⟩ := blkR KX4.out
  by_cases k1 : kd = 1
  · subst k1
    cases hwc : withB ct 4096 with
    | false =>
      obtain ⟨c5, f5⟩ := (show W4.cell? ⟨W2.heap.size, 0, none⟩ = some (.bool true) ∧ W4.frozen? ⟨W2.heap.size, 0, none⟩ = false from ⟨(blk1 KO4.out).1, frozen_of_row _ _ _ _ _ KO4.out⟩)
      obtain ⟨P5, hP5⟩ : ∃ W, W4.setCell ⟨W2.heap.size, 0, none⟩ (.bool false) = W := ⟨_, rfl⟩
      have B5 := Lib.hid (show Below w.heap.size w P5 by rw [← hP5]; exact B4.out.setCell (Nat.le_of_lt (Nat.lt_trans HS.out.1 HS.out.2.1)) _)
      have KR5 := Lib.hid (show P5.heap[w.heap.size]? = some (.cells #[.int .i64 1, .int .i64 ep, .int .i64 tm, .int .i64 ct, .int .i64 tg, .int .i64 un, .string rt, .string nm] 72 (0, 0)) by rw [← hP5]; exact (set_ne _ (by have h := HS.out; omega)).trans KR4.out)
      have KZ5 := Lib.hid (show P5.heap[W1.heap.size]? = some (.cells #[.int .i64 0, .int .i64 0, .int .i64 0, .int .i64 0, .int .i64 0, .int .i64 0, .string ⟨#[]⟩, .string ⟨#[]⟩] 72 (0, 0)) by rw [← hP5]; exact (set_ne _ (by have h := HS.out; omega)).trans KZ4.out)
      have KO5 := Lib.hid (show P5.heap[W2.heap.size]? = some (.cells #[.bool false] 4 (0, 0)) by rw [← hP5]; exact set_blk KO4.out 0 _)
      have KX5 := Lib.hid (show P5.heap[W3.heap.size]? = some (.cells #[.int .i64 0, .int .i64 0, .int .i64 0, .int .i64 ct, .int .i64 tg, .int .i64 un, .string rt, .string nm] 72 (0, 0)) by rw [← hP5]; exact (set_ne _ (by have h := HS.out; omega)).trans KX4.out)
      have c6 := (blkR KX5.out).1.2.2.2.1
      have f6 := (blkR KX5.out).2 3
      obtain ⟨P6, hP6⟩ : ∃ W, P5.setCell ⟨W3.heap.size, 3, none⟩ (.int .i64 0) = W := ⟨_, rfl⟩
      have B6 := Lib.hid (show Below w.heap.size w P6 by rw [← hP6]; exact B5.out.setCell (Nat.le_of_lt (Nat.lt_trans (Nat.lt_trans HS.out.1 HS.out.2.1) HS.out.2.2)) _)
      have KR6 := Lib.hid (show P6.heap[w.heap.size]? = some (.cells #[.int .i64 1, .int .i64 ep, .int .i64 tm, .int .i64 ct, .int .i64 tg, .int .i64 un, .string rt, .string nm] 72 (0, 0)) by rw [← hP6]; exact (set_ne _ (by have h := HS.out; omega)).trans KR5.out)
      have KZ6 := Lib.hid (show P6.heap[W1.heap.size]? = some (.cells #[.int .i64 0, .int .i64 0, .int .i64 0, .int .i64 0, .int .i64 0, .int .i64 0, .string ⟨#[]⟩, .string ⟨#[]⟩] 72 (0, 0)) by rw [← hP6]; exact (set_ne _ (by have h := HS.out; omega)).trans KZ5.out)
      have KO6 := Lib.hid (show P6.heap[W2.heap.size]? = some (.cells #[.bool false] 4 (0, 0)) by rw [← hP6]; exact (set_ne _ (by have h := HS.out; omega)).trans KO5.out)
      have KX6 := Lib.hid (show P6.heap[W3.heap.size]? = some (.cells #[.int .i64 0, .int .i64 0, .int .i64 0, .int .i64 0, .int .i64 tg, .int .i64 un, .string rt, .string nm] 72 (0, 0)) by rw [← hP6]; exact set_blk KX5.out 3 _)
      have c7 := (blkR KX6.out).1.2.2.2.2.2.2.1
      have f7 := (blkR KX6.out).2 6
      obtain ⟨P7, hP7⟩ : ∃ W, P6.setCell ⟨W3.heap.size, 6, none⟩ (.string ⟨#[]⟩) = W := ⟨_, rfl⟩
      have B7 := Lib.hid (show Below w.heap.size w P7 by rw [← hP7]; exact B6.out.setCell (Nat.le_of_lt (Nat.lt_trans (Nat.lt_trans HS.out.1 HS.out.2.1) HS.out.2.2)) _)
      have KR7 := Lib.hid (show P7.heap[w.heap.size]? = some (.cells #[.int .i64 1, .int .i64 ep, .int .i64 tm, .int .i64 ct, .int .i64 tg, .int .i64 un, .string rt, .string nm] 72 (0, 0)) by rw [← hP7]; exact (set_ne _ (by have h := HS.out; omega)).trans KR6.out)
      have KZ7 := Lib.hid (show P7.heap[W1.heap.size]? = some (.cells #[.int .i64 0, .int .i64 0, .int .i64 0, .int .i64 0, .int .i64 0, .int .i64 0, .string ⟨#[]⟩, .string ⟨#[]⟩] 72 (0, 0)) by rw [← hP7]; exact (set_ne _ (by have h := HS.out; omega)).trans KZ6.out)
      have KO7 := Lib.hid (show P7.heap[W2.heap.size]? = some (.cells #[.bool false] 4 (0, 0)) by rw [← hP7]; exact (set_ne _ (by have h := HS.out; omega)).trans KO6.out)
      have KX7 := Lib.hid (show P7.heap[W3.heap.size]? = some (.cells #[.int .i64 0, .int .i64 0, .int .i64 0, .int .i64 0, .int .i64 tg, .int .i64 un, .string ⟨#[]⟩, .string nm] 72 (0, 0)) by rw [← hP7]; exact set_blk KX6.out 6 _)
      go_wp2_with fail
      refine (HW.out _ _ _).mono ?_
      rintro en v0 ⟨rfl, hw⟩
      rw [hw]
      clear hw
      go_upto_region 20 with fail
      try rw [hP5]
      try rw [hP6]
      try rw [hP7]
      obtain ⟨⟨x0, x1, x2, x3, x4, x5, x6, x7⟩, fx⟩ := blkR KX7.out
      obtain ⟨o0, fo0⟩ := (show P7.cell? ⟨W2.heap.size, 0, none⟩ = some (.bool false) ∧ P7.frozen? ⟨W2.heap.size, 0, none⟩ = false from ⟨(blk1 KO7.out).1, frozen_of_row _ _ _ _ _ KO7.out⟩)
      refine wp_region_mv (fun f => RetCls w.heap.size w W3.heap.size (.cells #[.int .i64 0, .int .i64 0, .int .i64 0, .int .i64 0, .int .i64 tg, .int .i64 un, .string ⟨#[]⟩, .string nm] 72 (0, 0)) W2.heap.size (.cells #[.bool false] 4 (0, 0)) W1.heap.size #[.int .i64 0, .int .i64 0, .int .i64 0, .int .i64 0, .int .i64 0, .int .i64 0, .string ⟨#[]⟩, .string ⟨#[]⟩] #[.int .i64 0, .int .i64 0, .int .i64 0, .int .i64 0, .int .i64 tg, .int .i64 un, .string ⟨#[]⟩, .string nm] 72 (f 2)) (by kernel_rfl) (RetCls.start B7.out B7.out.size KX7.out KO7.out KZ7.out) ?_
      obtain ⟨S, F, hF, hFC⟩ := moved_class (fun f => RetCls w.heap.size w W3.heap.size (.cells #[.int .i64 0, .int .i64 0, .int .i64 0, .int .i64 0, .int .i64 tg, .int .i64 un, .string ⟨#[]⟩, .string nm] 72 (0, 0)) W2.heap.size (.cells #[.bool false] 4 (0, 0)) W1.heap.size #[.int .i64 0, .int .i64 0, .int .i64 0, .int .i64 0, .int .i64 0, .int .i64 0, .string ⟨#[]⟩, .string ⟨#[]⟩] #[.int .i64 0, .int .i64 0, .int .i64 0, .int .i64 0, .int .i64 tg, .int .i64 un, .string ⟨#[]⟩, .string nm] 72 (f 2))
      have k0 : ∀ s, (F s).cell? ⟨W3.heap.size, 0, none⟩ = some (.int .i64 0) := fun s => by
        obtain ⟨f, hf⟩ := hFC s
        exact (blkR hf.x).1.1
      have k1 : ∀ s, (F s).cell? ⟨W3.heap.size, 1, none⟩ = some (.int .i64 0) := fun s => by
        obtain ⟨f, hf⟩ := hFC s
        exact (blkR hf.x).1.2.1
      have k2 : ∀ s, (F s).cell? ⟨W3.heap.size, 2, none⟩ = some (.int .i64 0) := fun s => by
        obtain ⟨f, hf⟩ := hFC s
        exact (blkR hf.x).1.2.2.1
      have k3 : ∀ s, (F s).cell? ⟨W3.heap.size, 3, none⟩ = some (.int .i64 0) := fun s => by
        obtain ⟨f, hf⟩ := hFC s
        exact (blkR hf.x).1.2.2.2.1
      have k4 : ∀ s, (F s).cell? ⟨W3.heap.size, 4, none⟩ = some (.int .i64 tg) := fun s => by
        obtain ⟨f, hf⟩ := hFC s
        exact (blkR hf.x).1.2.2.2.2.1
      have k5 : ∀ s, (F s).cell? ⟨W3.heap.size, 5, none⟩ = some (.int .i64 un) := fun s => by
        obtain ⟨f, hf⟩ := hFC s
        exact (blkR hf.x).1.2.2.2.2.2.1
      have k6 : ∀ s, (F s).cell? ⟨W3.heap.size, 6, none⟩ = some (.string ⟨#[]⟩) := fun s => by
        obtain ⟨f, hf⟩ := hFC s
        exact (blkR hf.x).1.2.2.2.2.2.2.1
      have k7 : ∀ s, (F s).cell? ⟨W3.heap.size, 7, none⟩ = some (.string nm) := fun s => by
        obtain ⟨f, hf⟩ := hFC s
        exact (blkR hf.x).1.2.2.2.2.2.2.2
      have ko : ∀ s, (F s).cell? ⟨W2.heap.size, 0, none⟩ = some (.bool false) := fun s => by
        obtain ⟨f, hf⟩ := hFC s
        exact (blk1 hf.o).1
      show wpAnyM _ _ _ _ _ 4 (Array.replicate 4 false) _ _
      refine mv_read 0 hF (fun _ _ _ h => h) rfl (by kernel_rfl) (by kernel_rfl) (by kernel_rfl) (fun K hK => ?_)
      go_simp
      first | refine ⟨_, fun _ => rfl, hK _ _ ?_⟩ | refine hK _ _ ?_
      clear hK K
      refine mv_read 1 hF (fun _ _ _ h => h) rfl (by kernel_rfl) (by kernel_rfl) (by kernel_rfl) (fun K hK => ?_)
      go_simp
      first | refine ⟨_, fun _ => rfl, hK _ _ ?_⟩ | refine hK _ _ ?_
      clear hK K
      refine mv_store_blk 2 rfl (by kernel_rfl) rfl 72 (.tmp 2) (.tmp 49) rfl W1.heap.size 0 #[.int .i64 0, .int .i64 0, .int .i64 0, .int .i64 0, .int .i64 tg, .int .i64 un, .string ⟨#[]⟩, .string nm] rfl rfl (by kernel_rfl) (rec_one _ _ _ _ _ _ _ _) (fun g w9 ha h0 h => ?_) ?_
      · have h9 := h
        rw [h0] at h9
        refine ⟨#[.int .i64 0, .int .i64 0, .int .i64 0, .int .i64 0, .int .i64 0, .int .i64 0, .string ⟨#[]⟩, .string ⟨#[]⟩], 72, h9.z, Nat.le_refl 8, ?_⟩
        rw [splice_all #[.int .i64 0, .int .i64 0, .int .i64 0, .int .i64 0, .int .i64 0, .int .i64 0, .string ⟨#[]⟩, .string ⟨#[]⟩] #[.int .i64 0, .int .i64 0, .int .i64 0, .int .i64 0, .int .i64 tg, .int .i64 un, .string ⟨#[]⟩, .string nm] rfl]
        show RetCls _ _ _ _ _ _ _ _ _ _ (upd g 2 undef 2) _
        rw [upd_self]
        exact h9.stored (by have h := HS.out; omega) (by have h := HS.out; omega) (Nat.le_of_lt HS.out.1)
      refine mv_read 3 hF (fun _ _ _ h => h) rfl (by kernel_rfl) (by kernel_rfl) (by kernel_rfl) (fun K hK => ?_)
      go_simp
      first | refine ⟨_, fun _ => rfl, hK _ _ ?_⟩ | refine hK _ _ ?_
      clear hK K
      refine mv_end (by kernel_rfl) ?_
      intro y2 hy2
      have KY := Lib.hid (show y2.heap[W1.heap.size]? = some (.cells #[.int .i64 0, .int .i64 0, .int .i64 0, .int .i64 0, .int .i64 tg, .int .i64 un, .string ⟨#[]⟩, .string nm] 72 (0, 0)) from hy2.z)
      have BY := Lib.hid hy2.b
      clear hy2 hF hFC k0 k1 k2 k3 k4 k5 k6 k7 ko
      obtain ⟨⟨q0, q1, q2, q3, q4, q5, q6, q7⟩, -⟩ := blkR KY.out
      go_wp2
      refine bodyPost_ret (v := .tuple #[.agg #[.int .i64 0, .int .i64 0, .int .i64 0, .int .i64 0, .int .i64 tg, .int .i64 un, .string ⟨#[]⟩, .string nm], .bool (false)]) (by simp [results, Tryz.results91, go_sem, q0, q1, q2, q3, q4, q5, q6, q7]) rfl ?_
      exact HV.out ⟨0, 0, 0, 0, tg, un, ⟨#[]⟩, nm⟩ _ (by simp [hwc]) (by simp [hwc]) _ BY.out
    | true =>
      by_cases hz : rt.size = 32
      · have hzi : ((rt.size : Int) == 32) = true := by rw [hz]; rfl
        obtain ⟨c5, f5⟩ := (show W4.cell? ⟨W2.heap.size, 0, none⟩ = some (.bool true) ∧ W4.frozen? ⟨W2.heap.size, 0, none⟩ = false from ⟨(blk1 KO4.out).1, frozen_of_row _ _ _ _ _ KO4.out⟩)
        obtain ⟨P5, hP5⟩ : ∃ W, W4.setCell ⟨W2.heap.size, 0, none⟩ (.bool true) = W := ⟨_, rfl⟩
        have B5 := Lib.hid (show Below w.heap.size w P5 by rw [← hP5]; exact B4.out.setCell (Nat.le_of_lt (Nat.lt_trans HS.out.1 HS.out.2.1)) _)
        have KR5 := Lib.hid (show P5.heap[w.heap.size]? = some (.cells #[.int .i64 1, .int .i64 ep, .int .i64 tm, .int .i64 ct, .int .i64 tg, .int .i64 un, .string rt, .string nm] 72 (0, 0)) by rw [← hP5]; exact (set_ne _ (by have h := HS.out; omega)).trans KR4.out)
        have KZ5 := Lib.hid (show P5.heap[W1.heap.size]? = some (.cells #[.int .i64 0, .int .i64 0, .int .i64 0, .int .i64 0, .int .i64 0, .int .i64 0, .string ⟨#[]⟩, .string ⟨#[]⟩] 72 (0, 0)) by rw [← hP5]; exact (set_ne _ (by have h := HS.out; omega)).trans KZ4.out)
        have KO5 := Lib.hid (show P5.heap[W2.heap.size]? = some (.cells #[.bool true] 4 (0, 0)) by rw [← hP5]; exact set_blk KO4.out 0 _)
        have KX5 := Lib.hid (show P5.heap[W3.heap.size]? = some (.cells #[.int .i64 0, .int .i64 0, .int .i64 0, .int .i64 ct, .int .i64 tg, .int .i64 un, .string rt, .string nm] 72 (0, 0)) by rw [← hP5]; exact (set_ne _ (by have h := HS.out; omega)).trans KX4.out)
        have c6 := (blkR KX5.out).1.2.2.2.1
        have f6 := (blkR KX5.out).2 3
        obtain ⟨P6, hP6⟩ : ∃ W, P5.setCell ⟨W3.heap.size, 3, none⟩ (.int .i64 0) = W := ⟨_, rfl⟩
        have B6 := Lib.hid (show Below w.heap.size w P6 by rw [← hP6]; exact B5.out.setCell (Nat.le_of_lt (Nat.lt_trans (Nat.lt_trans HS.out.1 HS.out.2.1) HS.out.2.2)) _)
        have KR6 := Lib.hid (show P6.heap[w.heap.size]? = some (.cells #[.int .i64 1, .int .i64 ep, .int .i64 tm, .int .i64 ct, .int .i64 tg, .int .i64 un, .string rt, .string nm] 72 (0, 0)) by rw [← hP6]; exact (set_ne _ (by have h := HS.out; omega)).trans KR5.out)
        have KZ6 := Lib.hid (show P6.heap[W1.heap.size]? = some (.cells #[.int .i64 0, .int .i64 0, .int .i64 0, .int .i64 0, .int .i64 0, .int .i64 0, .string ⟨#[]⟩, .string ⟨#[]⟩] 72 (0, 0)) by rw [← hP6]; exact (set_ne _ (by have h := HS.out; omega)).trans KZ5.out)
        have KO6 := Lib.hid (show P6.heap[W2.heap.size]? = some (.cells #[.bool true] 4 (0, 0)) by rw [← hP6]; exact (set_ne _ (by have h := HS.out; omega)).trans KO5.out)
        have KX6 := Lib.hid (show P6.heap[W3.heap.size]? = some (.cells #[.int .i64 0, .int .i64 0, .int .i64 0, .int .i64 0, .int .i64 tg, .int .i64 un, .string rt, .string nm] 72 (0, 0)) by rw [← hP6]; exact set_blk KX5.out 3 _)
        have c7 := (blkR KX6.out).1.2.2.2.2.2.2.1
        have f7 := (blkR KX6.out).2 6
        obtain ⟨P7, hP7⟩ : ∃ W, P6.setCell ⟨W3.heap.size, 6, none⟩ (.string ⟨#[]⟩) = W := ⟨_, rfl⟩
        have B7 := Lib.hid (show Below w.heap.size w P7 by rw [← hP7]; exact B6.out.setCell (Nat.le_of_lt (Nat.lt_trans (Nat.lt_trans HS.out.1 HS.out.2.1) HS.out.2.2)) _)
        have KR7 := Lib.hid (show P7.heap[w.heap.size]? = some (.cells #[.int .i64 1, .int .i64 ep, .int .i64 tm, .int .i64 ct, .int .i64 tg, .int .i64 un, .string rt, .string nm] 72 (0, 0)) by rw [← hP7]; exact (set_ne _ (by have h := HS.out; omega)).trans KR6.out)
        have KZ7 := Lib.hid (show P7.heap[W1.heap.size]? = some (.cells #[.int .i64 0, .int .i64 0, .int .i64 0, .int .i64 0, .int .i64 0, .int .i64 0, .string ⟨#[]⟩, .string ⟨#[]⟩] 72 (0, 0)) by rw [← hP7]; exact (set_ne _ (by have h := HS.out; omega)).trans KZ6.out)
        have KO7 := Lib.hid (show P7.heap[W2.heap.size]? = some (.cells #[.bool true] 4 (0, 0)) by rw [← hP7]; exact (set_ne _ (by have h := HS.out; omega)).trans KO6.out)
        have KX7 := Lib.hid (show P7.heap[W3.heap.size]? = some (.cells #[.int .i64 0, .int .i64 0, .int .i64 0, .int .i64 0, .int .i64 tg, .int .i64 un, .string ⟨#[]⟩, .string nm] 72 (0, 0)) by rw [← hP7]; exact set_blk KX6.out 6 _)
        clear fx
        go_wp2_with fail
        refine (HW.out _ _ _).mono ?_
        rintro en v0 ⟨rfl, hw⟩
        rw [hw]
        clear hw
        go_upto_region 20 with fail
        try rw [hP5]
        try rw [hP6]
        try rw [hP7]
        obtain ⟨⟨x0, x1, x2, x3, x4, x5, x6, x7⟩, fx⟩ := blkR KX7.out
        obtain ⟨o0, fo0⟩ := (show P7.cell? ⟨W2.heap.size, 0, none⟩ = some (.bool true) ∧ P7.frozen? ⟨W2.heap.size, 0, none⟩ = false from ⟨(blk1 KO7.out).1, frozen_of_row _ _ _ _ _ KO7.out⟩)
        refine wp_region_mv (fun f => RetCls w.heap.size w W3.heap.size (.cells #[.int .i64 0, .int .i64 0, .int .i64 0, .int .i64 0, .int .i64 tg, .int .i64 un, .string ⟨#[]⟩, .string nm] 72 (0, 0)) W2.heap.size (.cells #[.bool true] 4 (0, 0)) W1.heap.size #[.int .i64 0, .int .i64 0, .int .i64 0, .int .i64 0, .int .i64 0, .int .i64 0, .string ⟨#[]⟩, .string ⟨#[]⟩] #[.int .i64 0, .int .i64 0, .int .i64 0, .int .i64 0, .int .i64 tg, .int .i64 un, .string ⟨#[]⟩, .string nm] 72 (f 2)) (by kernel_rfl) (RetCls.start B7.out B7.out.size KX7.out KO7.out KZ7.out) ?_
        obtain ⟨S, F, hF, hFC⟩ := moved_class (fun f => RetCls w.heap.size w W3.heap.size (.cells #[.int .i64 0, .int .i64 0, .int .i64 0, .int .i64 0, .int .i64 tg, .int .i64 un, .string ⟨#[]⟩, .string nm] 72 (0, 0)) W2.heap.size (.cells #[.bool true] 4 (0, 0)) W1.heap.size #[.int .i64 0, .int .i64 0, .int .i64 0, .int .i64 0, .int .i64 0, .int .i64 0, .string ⟨#[]⟩, .string ⟨#[]⟩] #[.int .i64 0, .int .i64 0, .int .i64 0, .int .i64 0, .int .i64 tg, .int .i64 un, .string ⟨#[]⟩, .string nm] 72 (f 2))
        have k0 : ∀ s, (F s).cell? ⟨W3.heap.size, 0, none⟩ = some (.int .i64 0) := fun s => by
          obtain ⟨f, hf⟩ := hFC s
          exact (blkR hf.x).1.1
        have k1 : ∀ s, (F s).cell? ⟨W3.heap.size, 1, none⟩ = some (.int .i64 0) := fun s => by
          obtain ⟨f, hf⟩ := hFC s
          exact (blkR hf.x).1.2.1
        have k2 : ∀ s, (F s).cell? ⟨W3.heap.size, 2, none⟩ = some (.int .i64 0) := fun s => by
          obtain ⟨f, hf⟩ := hFC s
          exact (blkR hf.x).1.2.2.1
        have k3 : ∀ s, (F s).cell? ⟨W3.heap.size, 3, none⟩ = some (.int .i64 0) := fun s => by
          obtain ⟨f, hf⟩ := hFC s
          exact (blkR hf.x).1.2.2.2.1
        have k4 : ∀ s, (F s).cell? ⟨W3.heap.size, 4, none⟩ = some (.int .i64 tg) := fun s => by
          obtain ⟨f, hf⟩ := hFC s
          exact (blkR hf.x).1.2.2.2.2.1
        have k5 : ∀ s, (F s).cell? ⟨W3.heap.size, 5, none⟩ = some (.int .i64 un) := fun s => by
          obtain ⟨f, hf⟩ := hFC s
          exact (blkR hf.x).1.2.2.2.2.2.1
        have k6 : ∀ s, (F s).cell? ⟨W3.heap.size, 6, none⟩ = some (.string ⟨#[]⟩) := fun s => by
          obtain ⟨f, hf⟩ := hFC s
          exact (blkR hf.x).1.2.2.2.2.2.2.1
        have k7 : ∀ s, (F s).cell? ⟨W3.heap.size, 7, none⟩ = some (.string nm) := fun s => by
          obtain ⟨f, hf⟩ := hFC s
          exact (blkR hf.x).1.2.2.2.2.2.2.2
        have ko : ∀ s, (F s).cell? ⟨W2.heap.size, 0, none⟩ = some (.bool true) := fun s => by
          obtain ⟨f, hf⟩ := hFC s
          exact (blk1 hf.o).1
        show wpAnyM _ _ _ _ _ 4 (Array.replicate 4 false) _ _
        refine mv_read 0 hF (fun _ _ _ h => h) rfl (by kernel_rfl) (by kernel_rfl) (by kernel_rfl) (fun K hK => ?_)
        go_simp
        first | refine ⟨_, fun _ => rfl, hK _ _ ?_⟩ | refine hK _ _ ?_
        clear hK K
        refine mv_read 1 hF (fun _ _ _ h => h) rfl (by kernel_rfl) (by kernel_rfl) (by kernel_rfl) (fun K hK => ?_)
        go_simp
        first | refine ⟨_, fun _ => rfl, hK _ _ ?_⟩ | refine hK _ _ ?_
        clear hK K
        refine mv_store_blk 2 rfl (by kernel_rfl) rfl 72 (.tmp 2) (.tmp 49) rfl W1.heap.size 0 #[.int .i64 0, .int .i64 0, .int .i64 0, .int .i64 0, .int .i64 tg, .int .i64 un, .string ⟨#[]⟩, .string nm] rfl rfl (by kernel_rfl) (rec_one _ _ _ _ _ _ _ _) (fun g w9 ha h0 h => ?_) ?_
        · have h9 := h
          rw [h0] at h9
          refine ⟨#[.int .i64 0, .int .i64 0, .int .i64 0, .int .i64 0, .int .i64 0, .int .i64 0, .string ⟨#[]⟩, .string ⟨#[]⟩], 72, h9.z, Nat.le_refl 8, ?_⟩
          rw [splice_all #[.int .i64 0, .int .i64 0, .int .i64 0, .int .i64 0, .int .i64 0, .int .i64 0, .string ⟨#[]⟩, .string ⟨#[]⟩] #[.int .i64 0, .int .i64 0, .int .i64 0, .int .i64 0, .int .i64 tg, .int .i64 un, .string ⟨#[]⟩, .string nm] rfl]
          show RetCls _ _ _ _ _ _ _ _ _ _ (upd g 2 undef 2) _
          rw [upd_self]
          exact h9.stored (by have h := HS.out; omega) (by have h := HS.out; omega) (Nat.le_of_lt HS.out.1)
        refine mv_read 3 hF (fun _ _ _ h => h) rfl (by kernel_rfl) (by kernel_rfl) (by kernel_rfl) (fun K hK => ?_)
        go_simp
        first | refine ⟨_, fun _ => rfl, hK _ _ ?_⟩ | refine hK _ _ ?_
        clear hK K
        refine mv_end (by kernel_rfl) ?_
        intro y2 hy2
        have KY := Lib.hid (show y2.heap[W1.heap.size]? = some (.cells #[.int .i64 0, .int .i64 0, .int .i64 0, .int .i64 0, .int .i64 tg, .int .i64 un, .string ⟨#[]⟩, .string nm] 72 (0, 0)) from hy2.z)
        have BY := Lib.hid hy2.b
        clear hy2 hF hFC k0 k1 k2 k3 k4 k5 k6 k7 ko
        obtain ⟨⟨q0, q1, q2, q3, q4, q5, q6, q7⟩, -⟩ := blkR KY.out
        go_wp2
        refine bodyPost_ret (v := .tuple #[.agg #[.int .i64 0, .int .i64 0, .int .i64 0, .int .i64 0, .int .i64 tg, .int .i64 un, .string ⟨#[]⟩, .string nm], .bool (true)]) (by simp [results, Tryz.results91, go_sem, q0, q1, q2, q3, q4, q5, q6, q7]) rfl ?_
        exact HV.out ⟨0, 0, 0, 0, tg, un, ⟨#[]⟩, nm⟩ _ (by simp [hwc, hz]) (by simp [hwc, hz]) _ BY.out
      · have hzi : ((rt.size : Int) == 32) = false := by simp; omega
        obtain ⟨c5, f5⟩ := (show W4.cell? ⟨W2.heap.size, 0, none⟩ = some (.bool true) ∧ W4.frozen? ⟨W2.heap.size, 0, none⟩ = false from ⟨(blk1 KO4.out).1, frozen_of_row _ _ _ _ _ KO4.out⟩)
        obtain ⟨P5, hP5⟩ : ∃ W, W4.setCell ⟨W2.heap.size, 0, none⟩ (.bool false) = W := ⟨_, rfl⟩
        have B5 := Lib.hid (show Below w.heap.size w P5 by rw [← hP5]; exact B4.out.setCell (Nat.le_of_lt (Nat.lt_trans HS.out.1 HS.out.2.1)) _)
        have KR5 := Lib.hid (show P5.heap[w.heap.size]? = some (.cells #[.int .i64 1, .int .i64 ep, .int .i64 tm, .int .i64 ct, .int .i64 tg, .int .i64 un, .string rt, .string nm] 72 (0, 0)) by rw [← hP5]; exact (set_ne _ (by have h := HS.out; omega)).trans KR4.out)
        have KZ5 := Lib.hid (show P5.heap[W1.heap.size]? = some (.cells #[.int .i64 0, .int .i64 0, .int .i64 0, .int .i64 0, .int .i64 0, .int .i64 0, .string ⟨#[]⟩, .string ⟨#[]⟩] 72 (0, 0)) by rw [← hP5]; exact (set_ne _ (by have h := HS.out; omega)).trans KZ4.out)
        have KO5 := Lib.hid (show P5.heap[W2.heap.size]? = some (.cells #[.bool false] 4 (0, 0)) by rw [← hP5]; exact set_blk KO4.out 0 _)
        have KX5 := Lib.hid (show P5.heap[W3.heap.size]? = some (.cells #[.int .i64 0, .int .i64 0, .int .i64 0, .int .i64 ct, .int .i64 tg, .int .i64 un, .string rt, .string nm] 72 (0, 0)) by rw [← hP5]; exact (set_ne _ (by have h := HS.out; omega)).trans KX4.out)
        have c6 := (blkR KX5.out).1.2.2.2.1
        have f6 := (blkR KX5.out).2 3
        obtain ⟨P6, hP6⟩ : ∃ W, P5.setCell ⟨W3.heap.size, 3, none⟩ (.int .i64 0) = W := ⟨_, rfl⟩
        have B6 := Lib.hid (show Below w.heap.size w P6 by rw [← hP6]; exact B5.out.setCell (Nat.le_of_lt (Nat.lt_trans (Nat.lt_trans HS.out.1 HS.out.2.1) HS.out.2.2)) _)
        have KR6 := Lib.hid (show P6.heap[w.heap.size]? = some (.cells #[.int .i64 1, .int .i64 ep, .int .i64 tm, .int .i64 ct, .int .i64 tg, .int .i64 un, .string rt, .string nm] 72 (0, 0)) by rw [← hP6]; exact (set_ne _ (by have h := HS.out; omega)).trans KR5.out)
        have KZ6 := Lib.hid (show P6.heap[W1.heap.size]? = some (.cells #[.int .i64 0, .int .i64 0, .int .i64 0, .int .i64 0, .int .i64 0, .int .i64 0, .string ⟨#[]⟩, .string ⟨#[]⟩] 72 (0, 0)) by rw [← hP6]; exact (set_ne _ (by have h := HS.out; omega)).trans KZ5.out)
        have KO6 := Lib.hid (show P6.heap[W2.heap.size]? = some (.cells #[.bool false] 4 (0, 0)) by rw [← hP6]; exact (set_ne _ (by have h := HS.out; omega)).trans KO5.out)
        have KX6 := Lib.hid (show P6.heap[W3.heap.size]? = some (.cells #[.int .i64 0, .int .i64 0, .int .i64 0, .int .i64 0, .int .i64 tg, .int .i64 un, .string rt, .string nm] 72 (0, 0)) by rw [← hP6]; exact set_blk KX5.out 3 _)
        have c7 := (blkR KX6.out).1.2.2.2.2.2.2.1
        have f7 := (blkR KX6.out).2 6
        obtain ⟨P7, hP7⟩ : ∃ W, P6.setCell ⟨W3.heap.size, 6, none⟩ (.string ⟨#[]⟩) = W := ⟨_, rfl⟩
        have B7 := Lib.hid (show Below w.heap.size w P7 by rw [← hP7]; exact B6.out.setCell (Nat.le_of_lt (Nat.lt_trans (Nat.lt_trans HS.out.1 HS.out.2.1) HS.out.2.2)) _)
        have KR7 := Lib.hid (show P7.heap[w.heap.size]? = some (.cells #[.int .i64 1, .int .i64 ep, .int .i64 tm, .int .i64 ct, .int .i64 tg, .int .i64 un, .string rt, .string nm] 72 (0, 0)) by rw [← hP7]; exact (set_ne _ (by have h := HS.out; omega)).trans KR6.out)
        have KZ7 := Lib.hid (show P7.heap[W1.heap.size]? = some (.cells #[.int .i64 0, .int .i64 0, .int .i64 0, .int .i64 0, .int .i64 0, .int .i64 0, .string ⟨#[]⟩, .string ⟨#[]⟩] 72 (0, 0)) by rw [← hP7]; exact (set_ne _ (by have h := HS.out; omega)).trans KZ6.out)
        have KO7 := Lib.hid (show P7.heap[W2.heap.size]? = some (.cells #[.bool false] 4 (0, 0)) by rw [← hP7]; exact (set_ne _ (by have h := HS.out; omega)).trans KO6.out)
        have KX7 := Lib.hid (show P7.heap[W3.heap.size]? = some (.cells #[.int .i64 0, .int .i64 0, .int .i64 0, .int .i64 0, .int .i64 tg, .int .i64 un, .string ⟨#[]⟩, .string nm] 72 (0, 0)) by rw [← hP7]; exact set_blk KX6.out 6 _)
        clear fx
        go_wp2_with fail
        refine (HW.out _ _ _).mono ?_
        rintro en v0 ⟨rfl, hw⟩
        rw [hw]
        clear hw
        go_upto_region 20 with fail
        try rw [hP5]
        try rw [hP6]
        try rw [hP7]
        obtain ⟨⟨x0, x1, x2, x3, x4, x5, x6, x7⟩, fx⟩ := blkR KX7.out
        obtain ⟨o0, fo0⟩ := (show P7.cell? ⟨W2.heap.size, 0, none⟩ = some (.bool false) ∧ P7.frozen? ⟨W2.heap.size, 0, none⟩ = false from ⟨(blk1 KO7.out).1, frozen_of_row _ _ _ _ _ KO7.out⟩)
        refine wp_region_mv (fun f => RetCls w.heap.size w W3.heap.size (.cells #[.int .i64 0, .int .i64 0, .int .i64 0, .int .i64 0, .int .i64 tg, .int .i64 un, .string ⟨#[]⟩, .string nm] 72 (0, 0)) W2.heap.size (.cells #[.bool false] 4 (0, 0)) W1.heap.size #[.int .i64 0, .int .i64 0, .int .i64 0, .int .i64 0, .int .i64 0, .int .i64 0, .string ⟨#[]⟩, .string ⟨#[]⟩] #[.int .i64 0, .int .i64 0, .int .i64 0, .int .i64 0, .int .i64 tg, .int .i64 un, .string ⟨#[]⟩, .string nm] 72 (f 2)) (by kernel_rfl) (RetCls.start B7.out B7.out.size KX7.out KO7.out KZ7.out) ?_
        obtain ⟨S, F, hF, hFC⟩ := moved_class (fun f => RetCls w.heap.size w W3.heap.size (.cells #[.int .i64 0, .int .i64 0, .int .i64 0, .int .i64 0, .int .i64 tg, .int .i64 un, .string ⟨#[]⟩, .string nm] 72 (0, 0)) W2.heap.size (.cells #[.bool false] 4 (0, 0)) W1.heap.size #[.int .i64 0, .int .i64 0, .int .i64 0, .int .i64 0, .int .i64 0, .int .i64 0, .string ⟨#[]⟩, .string ⟨#[]⟩] #[.int .i64 0, .int .i64 0, .int .i64 0, .int .i64 0, .int .i64 tg, .int .i64 un, .string ⟨#[]⟩, .string nm] 72 (f 2))
        have k0 : ∀ s, (F s).cell? ⟨W3.heap.size, 0, none⟩ = some (.int .i64 0) := fun s => by
          obtain ⟨f, hf⟩ := hFC s
          exact (blkR hf.x).1.1
        have k1 : ∀ s, (F s).cell? ⟨W3.heap.size, 1, none⟩ = some (.int .i64 0) := fun s => by
          obtain ⟨f, hf⟩ := hFC s
          exact (blkR hf.x).1.2.1
        have k2 : ∀ s, (F s).cell? ⟨W3.heap.size, 2, none⟩ = some (.int .i64 0) := fun s => by
          obtain ⟨f, hf⟩ := hFC s
          exact (blkR hf.x).1.2.2.1
        have k3 : ∀ s, (F s).cell? ⟨W3.heap.size, 3, none⟩ = some (.int .i64 0) := fun s => by
          obtain ⟨f, hf⟩ := hFC s
          exact (blkR hf.x).1.2.2.2.1
        have k4 : ∀ s, (F s).cell? ⟨W3.heap.size, 4, none⟩ = some (.int .i64 tg) := fun s => by
          obtain ⟨f, hf⟩ := hFC s
          exact (blkR hf.x).1.2.2.2.2.1
        have k5 : ∀ s, (F s).cell? ⟨W3.heap.size, 5, none⟩ = some (.int .i64 un) := fun s => by
          obtain ⟨f, hf⟩ := hFC s
          exact (blkR hf.x).1.2.2.2.2.2.1
        have k6 : ∀ s, (F s).cell? ⟨W3.heap.size, 6, none⟩ = some (.string ⟨#[]⟩) := fun s => by
          obtain ⟨f, hf⟩ := hFC s
          exact (blkR hf.x).1.2.2.2.2.2.2.1
        have k7 : ∀ s, (F s).cell? ⟨W3.heap.size, 7, none⟩ = some (.string nm) := fun s => by
          obtain ⟨f, hf⟩ := hFC s
          exact (blkR hf.x).1.2.2.2.2.2.2.2
        have ko : ∀ s, (F s).cell? ⟨W2.heap.size, 0, none⟩ = some (.bool false) := fun s => by
          obtain ⟨f, hf⟩ := hFC s
          exact (blk1 hf.o).1
        show wpAnyM _ _ _ _ _ 4 (Array.replicate 4 false) _ _
        refine mv_read 0 hF (fun _ _ _ h => h) rfl (by kernel_rfl) (by kernel_rfl) (by kernel_rfl) (fun K hK => ?_)
        go_simp
        first | refine ⟨_, fun _ => rfl, hK _ _ ?_⟩ | refine hK _ _ ?_
        clear hK K
        refine mv_read 1 hF (fun _ _ _ h => h) rfl (by kernel_rfl) (by kernel_rfl) (by kernel_rfl) (fun K hK => ?_)
        go_simp
        first | refine ⟨_, fun _ => rfl, hK _ _ ?_⟩ | refine hK _ _ ?_
        clear hK K
        refine mv_store_blk 2 rfl (by kernel_rfl) rfl 72 (.tmp 2) (.tmp 49) rfl W1.heap.size 0 #[.int .i64 0, .int .i64 0, .int .i64 0, .int .i64 0, .int .i64 tg, .int .i64 un, .string ⟨#[]⟩, .string nm] rfl rfl (by kernel_rfl) (rec_one _ _ _ _ _ _ _ _) (fun g w9 ha h0 h => ?_) ?_
        · have h9 := h
          rw [h0] at h9
          refine ⟨#[.int .i64 0, .int .i64 0, .int .i64 0, .int .i64 0, .int .i64 0, .int .i64 0, .string ⟨#[]⟩, .string ⟨#[]⟩], 72, h9.z, Nat.le_refl 8, ?_⟩
          rw [splice_all #[.int .i64 0, .int .i64 0, .int .i64 0, .int .i64 0, .int .i64 0, .int .i64 0, .string ⟨#[]⟩, .string ⟨#[]⟩] #[.int .i64 0, .int .i64 0, .int .i64 0, .int .i64 0, .int .i64 tg, .int .i64 un, .string ⟨#[]⟩, .string nm] rfl]
          show RetCls _ _ _ _ _ _ _ _ _ _ (upd g 2 undef 2) _
          rw [upd_self]
          exact h9.stored (by have h := HS.out; omega) (by have h := HS.out; omega) (Nat.le_of_lt HS.out.1)
        refine mv_read 3 hF (fun _ _ _ h => h) rfl (by kernel_rfl) (by kernel_rfl) (by kernel_rfl) (fun K hK => ?_)
        go_simp
        first | refine ⟨_, fun _ => rfl, hK _ _ ?_⟩ | refine hK _ _ ?_
        clear hK K
        refine mv_end (by kernel_rfl) ?_
        intro y2 hy2
        have KY := Lib.hid (show y2.heap[W1.heap.size]? = some (.cells #[.int .i64 0, .int .i64 0, .int .i64 0, .int .i64 0, .int .i64 tg, .int .i64 un, .string ⟨#[]⟩, .string nm] 72 (0, 0)) from hy2.z)
        have BY := Lib.hid hy2.b
        clear hy2 hF hFC k0 k1 k2 k3 k4 k5 k6 k7 ko
        obtain ⟨⟨q0, q1, q2, q3, q4, q5, q6, q7⟩, -⟩ := blkR KY.out
        go_wp2
        refine bodyPost_ret (v := .tuple #[.agg #[.int .i64 0, .int .i64 0, .int .i64 0, .int .i64 0, .int .i64 tg, .int .i64 un, .string ⟨#[]⟩, .string nm], .bool (false)]) (by simp [results, Tryz.results91, go_sem, q0, q1, q2, q3, q4, q5, q6, q7]) rfl ?_
        exact HV.out ⟨0, 0, 0, 0, tg, un, ⟨#[]⟩, nm⟩ _ (by simp [hwc, hz]) (by simp [hwc, hz]) _ BY.out
  have hk1 : (kd == 1) = false := by simpa using k1
  by_cases k2 : kd = 2
  · subst k2
    clear hk1
    obtain ⟨c5, f5⟩ := (show W4.cell? ⟨W2.heap.size, 0, none⟩ = some (.bool true) ∧ W4.frozen? ⟨W2.heap.size, 0, none⟩ = false from ⟨(blk1 KO4.out).1, frozen_of_row _ _ _ _ _ KO4.out⟩)
    obtain ⟨P5, hP5⟩ : ∃ W, W4.setCell ⟨W2.heap.size, 0, none⟩ (.bool (withB un 1099511627776)) = W := ⟨_, rfl⟩
    have B5 := Lib.hid (show Below w.heap.size w P5 by rw [← hP5]; exact B4.out.setCell (Nat.le_of_lt (Nat.lt_trans HS.out.1 HS.out.2.1)) _)
    have KR5 := Lib.hid (show P5.heap[w.heap.size]? = some (.cells #[.int .i64 2, .int .i64 ep, .int .i64 tm, .int .i64 ct, .int .i64 tg, .int .i64 un, .string rt, .string nm] 72 (0, 0)) by rw [← hP5]; exact (set_ne _ (by have h := HS.out; omega)).trans KR4.out)
    have KZ5 := Lib.hid (show P5.heap[W1.heap.size]? = some (.cells #[.int .i64 0, .int .i64 0, .int .i64 0, .int .i64 0, .int .i64 0, .int .i64 0, .string ⟨#[]⟩, .string ⟨#[]⟩] 72 (0, 0)) by rw [← hP5]; exact (set_ne _ (by have h := HS.out; omega)).trans KZ4.out)
    have KO5 := Lib.hid (show P5.heap[W2.heap.size]? = some (.cells #[.bool (withB un 1099511627776)] 4 (0, 0)) by rw [← hP5]; exact set_blk KO4.out 0 _)
    have KX5 := Lib.hid (show P5.heap[W3.heap.size]? = some (.cells #[.int .i64 0, .int .i64 0, .int .i64 0, .int .i64 ct, .int .i64 tg, .int .i64 un, .string rt, .string nm] 72 (0, 0)) by rw [← hP5]; exact (set_ne _ (by have h := HS.out; omega)).trans KX4.out)
    have c6 := (blkR KX5.out).1.2.2.2.2.2.1
    have f6 := (blkR KX5.out).2 5
    obtain ⟨P6, hP6⟩ : ∃ W, P5.setCell ⟨W3.heap.size, 5, none⟩ (.int .i64 0) = W := ⟨_, rfl⟩
    have B6 := Lib.hid (show Below w.heap.size w P6 by rw [← hP6]; exact B5.out.setCell (Nat.le_of_lt (Nat.lt_trans (Nat.lt_trans HS.out.1 HS.out.2.1) HS.out.2.2)) _)
    have KR6 := Lib.hid (show P6.heap[w.heap.size]? = some (.cells #[.int .i64 2, .int .i64 ep, .int .i64 tm, .int .i64 ct, .int .i64 tg, .int .i64 un, .string rt, .string nm] 72 (0, 0)) by rw [← hP6]; exact (set_ne _ (by have h := HS.out; omega)).trans KR5.out)
    have KZ6 := Lib.hid (show P6.heap[W1.heap.size]? = some (.cells #[.int .i64 0, .int .i64 0, .int .i64 0, .int .i64 0, .int .i64 0, .int .i64 0, .string ⟨#[]⟩, .string ⟨#[]⟩] 72 (0, 0)) by rw [← hP6]; exact (set_ne _ (by have h := HS.out; omega)).trans KZ5.out)
    have KO6 := Lib.hid (show P6.heap[W2.heap.size]? = some (.cells #[.bool (withB un 1099511627776)] 4 (0, 0)) by rw [← hP6]; exact (set_ne _ (by have h := HS.out; omega)).trans KO5.out)
    have KX6 := Lib.hid (show P6.heap[W3.heap.size]? = some (.cells #[.int .i64 0, .int .i64 0, .int .i64 0, .int .i64 ct, .int .i64 tg, .int .i64 0, .string rt, .string nm] 72 (0, 0)) by rw [← hP6]; exact set_blk KX5.out 5 _)
    go_wp2_with fail
    refine (HW.out _ _ _).mono ?_
    rintro en v0 ⟨rfl, hw⟩
    rw [hw]
    clear hw
    go_wp2_with fail
    refine (HTg.out _ _ _ _ ⟨2, ep, tm, ct, tg, un, rt, nm⟩ ⟨0, 0, 0, ct, tg, 0, rt, nm⟩ _ KO6.out KX6.out KR6.out (by have h := HS.out; omega)).mono ?_
    rintro en T7 ⟨rfl, ho9, hx9, hz9, ht9⟩
    have B7 := Lib.hid (B6.out.trans (ht9.below (fun k hk => by have h := HS.out; rcases hk with rfl | rfl <;> omega) B6.out.size))
    have KO7 := Lib.hid (show T7.heap[W2.heap.size]? = some (.cells #[.bool (withB un 1099511627776 && withB tg (wrap64 (ep - 1)))] 4 (0, 0)) from ho9)
    have KX7 := Lib.hid (show T7.heap[W3.heap.size]? = some (.cells #[.int .i64 0, .int .i64 0, .int .i64 0, .int .i64 ct, .int .i64 0, .int .i64 0, .string rt, .string nm] 72 (0, 0)) from hx9)
    have KR7 := Lib.hid (show T7.heap[w.heap.size]? = some (.cells #[.int .i64 2, .int .i64 ep, .int .i64 tm, .int .i64 ct, .int .i64 tg, .int .i64 un, .string rt, .string nm] 72 (0, 0)) from (ht9.block _ (lt_of_block KR6.out) (by have h := HS.out; omega)).trans KR6.out)
    have KZ7 := Lib.hid (show T7.heap[W1.heap.size]? = some (.cells #[.int .i64 0, .int .i64 0, .int .i64 0, .int .i64 0, .int .i64 0, .int .i64 0, .string ⟨#[]⟩, .string ⟨#[]⟩] 72 (0, 0)) from (ht9.block _ (lt_of_block KZ6.out) (by have h := HS.out; omega)).trans KZ6.out)
    clear ho9 hx9 hz9 ht9
    go_upto_region 20 with fail
    try rw [hP5]
    try rw [hP6]
    obtain ⟨⟨x0, x1, x2, x3, x4, x5, x6, x7⟩, fx⟩ := blkR KX7.out
    obtain ⟨o0, fo0⟩ := (show T7.cell? ⟨W2.heap.size, 0, none⟩ = some (.bool (withB un 1099511627776 && withB tg (wrap64 (ep - 1)))) ∧ T7.frozen? ⟨W2.heap.size, 0, none⟩ = false from ⟨(blk1 KO7.out).1, frozen_of_row _ _ _ _ _ KO7.out⟩)
    refine wp_region_mv (fun f => RetCls w.heap.size w W3.heap.size (.cells #[.int .i64 0, .int .i64 0, .int .i64 0, .int .i64 ct, .int .i64 0, .int .i64 0, .string rt, .string nm] 72 (0, 0)) W2.heap.size (.cells #[.bool (withB un 1099511627776 && withB tg (wrap64 (ep - 1)))] 4 (0, 0)) W1.heap.size #[.int .i64 0, .int .i64 0, .int .i64 0, .int .i64 0, .int .i64 0, .int .i64 0, .string ⟨#[]⟩, .string ⟨#[]⟩] #[.int .i64 0, .int .i64 0, .int .i64 0, .int .i64 ct, .int .i64 0, .int .i64 0, .string rt, .string nm] 72 (f 2)) (by kernel_rfl) (RetCls.start B7.out B7.out.size KX7.out KO7.out KZ7.out) ?_
    obtain ⟨S, F, hF, hFC⟩ := moved_class (fun f => RetCls w.heap.size w W3.heap.size (.cells #[.int .i64 0, .int .i64 0, .int .i64 0, .int .i64 ct, .int .i64 0, .int .i64 0, .string rt, .string nm] 72 (0, 0)) W2.heap.size (.cells #[.bool (withB un 1099511627776 && withB tg (wrap64 (ep - 1)))] 4 (0, 0)) W1.heap.size #[.int .i64 0, .int .i64 0, .int .i64 0, .int .i64 0, .int .i64 0, .int .i64 0, .string ⟨#[]⟩, .string ⟨#[]⟩] #[.int .i64 0, .int .i64 0, .int .i64 0, .int .i64 ct, .int .i64 0, .int .i64 0, .string rt, .string nm] 72 (f 2))
    have k0 : ∀ s, (F s).cell? ⟨W3.heap.size, 0, none⟩ = some (.int .i64 0) := fun s => by
      obtain ⟨f, hf⟩ := hFC s
      exact (blkR hf.x).1.1
    have k1 : ∀ s, (F s).cell? ⟨W3.heap.size, 1, none⟩ = some (.int .i64 0) := fun s => by
      obtain ⟨f, hf⟩ := hFC s
      exact (blkR hf.x).1.2.1
    have k2 : ∀ s, (F s).cell? ⟨W3.heap.size, 2, none⟩ = some (.int .i64 0) := fun s => by
      obtain ⟨f, hf⟩ := hFC s
      exact (blkR hf.x).1.2.2.1
    have k3 : ∀ s, (F s).cell? ⟨W3.heap.size, 3, none⟩ = some (.int .i64 ct) := fun s => by
      obtain ⟨f, hf⟩ := hFC s
      exact (blkR hf.x).1.2.2.2.1
    have k4 : ∀ s, (F s).cell? ⟨W3.heap.size, 4, none⟩ = some (.int .i64 0) := fun s => by
      obtain ⟨f, hf⟩ := hFC s
      exact (blkR hf.x).1.2.2.2.2.1
    have k5 : ∀ s, (F s).cell? ⟨W3.heap.size, 5, none⟩ = some (.int .i64 0) := fun s => by
      obtain ⟨f, hf⟩ := hFC s
      exact (blkR hf.x).1.2.2.2.2.2.1
    have k6 : ∀ s, (F s).cell? ⟨W3.heap.size, 6, none⟩ = some (.string rt) := fun s => by
      obtain ⟨f, hf⟩ := hFC s
      exact (blkR hf.x).1.2.2.2.2.2.2.1
    have k7 : ∀ s, (F s).cell? ⟨W3.heap.size, 7, none⟩ = some (.string nm) := fun s => by
      obtain ⟨f, hf⟩ := hFC s
      exact (blkR hf.x).1.2.2.2.2.2.2.2
    have ko : ∀ s, (F s).cell? ⟨W2.heap.size, 0, none⟩ = some (.bool (withB un 1099511627776 && withB tg (wrap64 (ep - 1)))) := fun s => by
      obtain ⟨f, hf⟩ := hFC s
      exact (blk1 hf.o).1
    show wpAnyM _ _ _ _ _ 4 (Array.replicate 4 false) _ _
    refine mv_read 0 hF (fun _ _ _ h => h) rfl (by kernel_rfl) (by kernel_rfl) (by kernel_rfl) (fun K hK => ?_)
    go_simp
    first | refine ⟨_, fun _ => rfl, hK _ _ ?_⟩ | refine hK _ _ ?_
    clear hK K
    refine mv_read 1 hF (fun _ _ _ h => h) rfl (by kernel_rfl) (by kernel_rfl) (by kernel_rfl) (fun K hK => ?_)
    go_simp
    first | refine ⟨_, fun _ => rfl, hK _ _ ?_⟩ | refine hK _ _ ?_
    clear hK K
    refine mv_store_blk 2 rfl (by kernel_rfl) rfl 72 (.tmp 2) (.tmp 49) rfl W1.heap.size 0 #[.int .i64 0, .int .i64 0, .int .i64 0, .int .i64 ct, .int .i64 0, .int .i64 0, .string rt, .string nm] rfl rfl (by kernel_rfl) (rec_one _ _ _ _ _ _ _ _) (fun g w9 ha h0 h => ?_) ?_
    · have h9 := h
      rw [h0] at h9
      refine ⟨#[.int .i64 0, .int .i64 0, .int .i64 0, .int .i64 0, .int .i64 0, .int .i64 0, .string ⟨#[]⟩, .string ⟨#[]⟩], 72, h9.z, Nat.le_refl 8, ?_⟩
      rw [splice_all #[.int .i64 0, .int .i64 0, .int .i64 0, .int .i64 0, .int .i64 0, .int .i64 0, .string ⟨#[]⟩, .string ⟨#[]⟩] #[.int .i64 0, .int .i64 0, .int .i64 0, .int .i64 ct, .int .i64 0, .int .i64 0, .string rt, .string nm] rfl]
      show RetCls _ _ _ _ _ _ _ _ _ _ (upd g 2 undef 2) _
      rw [upd_self]
      exact h9.stored (by have h := HS.out; omega) (by have h := HS.out; omega) (Nat.le_of_lt HS.out.1)
    refine mv_read 3 hF (fun _ _ _ h => h) rfl (by kernel_rfl) (by kernel_rfl) (by kernel_rfl) (fun K hK => ?_)
    go_simp
    first | refine ⟨_, fun _ => rfl, hK _ _ ?_⟩ | refine hK _ _ ?_
    clear hK K
    refine mv_end (by kernel_rfl) ?_
    intro y2 hy2
    have KY := Lib.hid (show y2.heap[W1.heap.size]? = some (.cells #[.int .i64 0, .int .i64 0, .int .i64 0, .int .i64 ct, .int .i64 0, .int .i64 0, .string rt, .string nm] 72 (0, 0)) from hy2.z)
    have BY := Lib.hid hy2.b
    clear hy2 hF hFC k0 k1 k2 k3 k4 k5 k6 k7 ko
    obtain ⟨⟨q0, q1, q2, q3, q4, q5, q6, q7⟩, -⟩ := blkR KY.out
    go_wp2
    refine bodyPost_ret (v := .tuple #[.agg #[.int .i64 0, .int .i64 0, .int .i64 0, .int .i64 ct, .int .i64 0, .int .i64 0, .string rt, .string nm], .bool (withB un 1099511627776 && withB tg (wrap64 (ep - 1)))]) (by simp [results, Tryz.results91, go_sem, q0, q1, q2, q3, q4, q5, q6, q7]) rfl ?_
    exact HV.out ⟨0, 0, 0, ct, 0, 0, rt, nm⟩ _ (by simp) (by simp) _ BY.out
  have hk2 : (kd == 2) = false := by simpa using k2
  by_cases k5 : kd = 5
  · subst k5
    clear hk1
    obtain ⟨c5, f5⟩ := (show W4.cell? ⟨W2.heap.size, 0, none⟩ = some (.bool true) ∧ W4.frozen? ⟨W2.heap.size, 0, none⟩ = false from ⟨(blk1 KO4.out).1, frozen_of_row _ _ _ _ _ KO4.out⟩)
    obtain ⟨P5, hP5⟩ : ∃ W, W4.setCell ⟨W2.heap.size, 0, none⟩ (.bool (withB un 1099511627776)) = W := ⟨_, rfl⟩
    have B5 := Lib.hid (show Below w.heap.size w P5 by rw [← hP5]; exact B4.out.setCell (Nat.le_of_lt (Nat.lt_trans HS.out.1 HS.out.2.1)) _)
    have KR5 := Lib.hid (show P5.heap[w.heap.size]? = some (.cells #[.int .i64 5, .int .i64 ep, .int .i64 tm, .int .i64 ct, .int .i64 tg, .int .i64 un, .string rt, .string nm] 72 (0, 0)) by rw [← hP5]; exact (set_ne _ (by have h := HS.out; omega)).trans KR4.out)
    have KZ5 := Lib.hid (show P5.heap[W1.heap.size]? = some (.cells #[.int .i64 0, .int .i64 0, .int .i64 0, .int .i64 0, .int .i64 0, .int .i64 0, .string ⟨#[]⟩, .string ⟨#[]⟩] 72 (0, 0)) by rw [← hP5]; exact (set_ne _ (by have h := HS.out; omega)).trans KZ4.out)
    have KO5 := Lib.hid (show P5.heap[W2.heap.size]? = some (.cells #[.bool (withB un 1099511627776)] 4 (0, 0)) by rw [← hP5]; exact set_blk KO4.out 0 _)
    have KX5 := Lib.hid (show P5.heap[W3.heap.size]? = some (.cells #[.int .i64 0, .int .i64 0, .int .i64 0, .int .i64 ct, .int .i64 tg, .int .i64 un, .string rt, .string nm] 72 (0, 0)) by rw [← hP5]; exact (set_ne _ (by have h := HS.out; omega)).trans KX4.out)
    have c6 := (blkR KX5.out).1.2.2.2.2.2.1
    have f6 := (blkR KX5.out).2 5
    obtain ⟨P6, hP6⟩ : ∃ W, P5.setCell ⟨W3.heap.size, 5, none⟩ (.int .i64 0) = W := ⟨_, rfl⟩
    have B6 := Lib.hid (show Below w.heap.size w P6 by rw [← hP6]; exact B5.out.setCell (Nat.le_of_lt (Nat.lt_trans (Nat.lt_trans HS.out.1 HS.out.2.1) HS.out.2.2)) _)
    have KR6 := Lib.hid (show P6.heap[w.heap.size]? = some (.cells #[.int .i64 5, .int .i64 ep, .int .i64 tm, .int .i64 ct, .int .i64 tg, .int .i64 un, .string rt, .string nm] 72 (0, 0)) by rw [← hP6]; exact (set_ne _ (by have h := HS.out; omega)).trans KR5.out)
    have KZ6 := Lib.hid (show P6.heap[W1.heap.size]? = some (.cells #[.int .i64 0, .int .i64 0, .int .i64 0, .int .i64 0, .int .i64 0, .int .i64 0, .string ⟨#[]⟩, .string ⟨#[]⟩] 72 (0, 0)) by rw [← hP6]; exact (set_ne _ (by have h := HS.out; omega)).trans KZ5.out)
    have KO6 := Lib.hid (show P6.heap[W2.heap.size]? = some (.cells #[.bool (withB un 1099511627776)] 4 (0, 0)) by rw [← hP6]; exact (set_ne _ (by have h := HS.out; omega)).trans KO5.out)
    have KX6 := Lib.hid (show P6.heap[W3.heap.size]? = some (.cells #[.int .i64 0, .int .i64 0, .int .i64 0, .int .i64 ct, .int .i64 tg, .int .i64 0, .string rt, .string nm] 72 (0, 0)) by rw [← hP6]; exact set_blk KX5.out 5 _)
    go_wp2_with fail
    refine (HW.out _ _ _).mono ?_
    rintro en v0 ⟨rfl, hw⟩
    rw [hw]
    clear hw
    go_wp2_with fail
    refine (HTg.out _ _ _ _ ⟨5, ep, tm, ct, tg, un, rt, nm⟩ ⟨0, 0, 0, ct, tg, 0, rt, nm⟩ _ KO6.out KX6.out KR6.out (by have h := HS.out; omega)).mono ?_
    rintro en T7 ⟨rfl, ho9, hx9, hz9, ht9⟩
    have B7 := Lib.hid (B6.out.trans (ht9.below (fun k hk => by have h := HS.out; rcases hk with rfl | rfl <;> omega) B6.out.size))
    have KO7 := Lib.hid (show T7.heap[W2.heap.size]? = some (.cells #[.bool (withB un 1099511627776 && withB tg (wrap64 (ep - 1)))] 4 (0, 0)) from ho9)
    have KX7 := Lib.hid (show T7.heap[W3.heap.size]? = some (.cells #[.int .i64 0, .int .i64 0, .int .i64 0, .int .i64 ct, .int .i64 0, .int .i64 0, .string rt, .string nm] 72 (0, 0)) from hx9)
    have KR7 := Lib.hid (show T7.heap[w.heap.size]? = some (.cells #[.int .i64 5, .int .i64 ep, .int .i64 tm, .int .i64 ct, .int .i64 tg, .int .i64 un, .string rt, .string nm] 72 (0, 0)) from (ht9.block _ (lt_of_block KR6.out) (by have h := HS.out; omega)).trans KR6.out)
    have KZ7 := Lib.hid (show T7.heap[W1.heap.size]? = some (.cells #[.int .i64 0, .int .i64 0, .int .i64 0, .int .i64 0, .int .i64 0, .int .i64 0, .string ⟨#[]⟩, .string ⟨#[]⟩] 72 (0, 0)) from (ht9.block _ (lt_of_block KZ6.out) (by have h := HS.out; omega)).trans KZ6.out)
    clear ho9 hx9 hz9 ht9
    go_upto_region 20 with fail
    try rw [hP5]
    try rw [hP6]
    obtain ⟨⟨x0, x1, x2, x3, x4, x5, x6, x7⟩, fx⟩ := blkR KX7.out
    obtain ⟨o0, fo0⟩ := (show T7.cell? ⟨W2.heap.size, 0, none⟩ = some (.bool (withB un 1099511627776 && withB tg (wrap64 (ep - 1)))) ∧ T7.frozen? ⟨W2.heap.size, 0, none⟩ = false from ⟨(blk1 KO7.out).1, frozen_of_row _ _ _ _ _ KO7.out⟩)
    refine wp_region_mv (fun f => RetCls w.heap.size w W3.heap.size (.cells #[.int .i64 0, .int .i64 0, .int .i64 0, .int .i64 ct, .int .i64 0, .int .i64 0, .string rt, .string nm] 72 (0, 0)) W2.heap.size (.cells #[.bool (withB un 1099511627776 && withB tg (wrap64 (ep - 1)))] 4 (0, 0)) W1.heap.size #[.int .i64 0, .int .i64 0, .int .i64 0, .int .i64 0, .int .i64 0, .int .i64 0, .string ⟨#[]⟩, .string ⟨#[]⟩] #[.int .i64 0, .int .i64 0, .int .i64 0, .int .i64 ct, .int .i64 0, .int .i64 0, .string rt, .string nm] 72 (f 2)) (by kernel_rfl) (RetCls.start B7.out B7.out.size KX7.out KO7.out KZ7.out) ?_
    obtain ⟨S, F, hF, hFC⟩ := moved_class (fun f => RetCls w.heap.size w W3.heap.size (.cells #[.int .i64 0, .int .i64 0, .int .i64 0, .int .i64 ct, .int .i64 0, .int .i64 0, .string rt, .string nm] 72 (0, 0)) W2.heap.size (.cells #[.bool (withB un 1099511627776 && withB tg (wrap64 (ep - 1)))] 4 (0, 0)) W1.heap.size #[.int .i64 0, .int .i64 0, .int .i64 0, .int .i64 0, .int .i64 0, .int .i64 0, .string ⟨#[]⟩, .string ⟨#[]⟩] #[.int .i64 0, .int .i64 0, .int .i64 0, .int .i64 ct, .int .i64 0, .int .i64 0, .string rt, .string nm] 72 (f 2))
    have k0 : ∀ s, (F s).cell? ⟨W3.heap.size, 0, none⟩ = some (.int .i64 0) := fun s => by
      obtain ⟨f, hf⟩ := hFC s
      exact (blkR hf.x).1.1
    have k1 : ∀ s, (F s).cell? ⟨W3.heap.size, 1, none⟩ = some (.int .i64 0) := fun s => by
      obtain ⟨f, hf⟩ := hFC s
      exact (blkR hf.x).1.2.1
    have k2 : ∀ s, (F s).cell? ⟨W3.heap.size, 2, none⟩ = some (.int .i64 0) := fun s => by
      obtain ⟨f, hf⟩ := hFC s
      exact (blkR hf.x).1.2.2.1
    have k3 : ∀ s, (F s).cell? ⟨W3.heap.size, 3, none⟩ = some (.int .i64 ct) := fun s => by
      obtain ⟨f, hf⟩ := hFC s
      exact (blkR hf.x).1.2.2.2.1
    have k4 : ∀ s, (F s).cell? ⟨W3.heap.size, 4, none⟩ = some (.int .i64 0) := fun s => by
      obtain ⟨f, hf⟩ := hFC s
      exact (blkR hf.x).1.2.2.2.2.1
    have k5 : ∀ s, (F s).cell? ⟨W3.heap.size, 5, none⟩ = some (.int .i64 0) := fun s => by
      obtain ⟨f, hf⟩ := hFC s
      exact (blkR hf.x).1.2.2.2.2.2.1
    have k6 : ∀ s, (F s).cell? ⟨W3.heap.size, 6, none⟩ = some (.string rt) := fun s => by
      obtain ⟨f, hf⟩ := hFC s
      exact (blkR hf.x).1.2.2.2.2.2.2.1
    have k7 : ∀ s, (F s).cell? ⟨W3.heap.size, 7, none⟩ = some (.string nm) := fun s => by
      obtain ⟨f, hf⟩ := hFC s
      exact (blkR hf.x).1.2.2.2.2.2.2.2
    have ko : ∀ s, (F s).cell? ⟨W2.heap.size, 0, none⟩ = some (.bool (withB un 1099511627776 && withB tg (wrap64 (ep - 1)))) := fun s => by
      obtain ⟨f, hf⟩ := hFC s
      exact (blk1 hf.o).1
    show wpAnyM _ _ _ _ _ 4 (Array.replicate 4 false) _ _
    refine mv_read 0 hF (fun _ _ _ h => h) rfl (by kernel_rfl) (by kernel_rfl) (by kernel_rfl) (fun K hK => ?_)
    go_simp
    first | refine ⟨_, fun _ => rfl, hK _ _ ?_⟩ | refine hK _ _ ?_
    clear hK K
    refine mv_read 1 hF (fun _ _ _ h => h) rfl (by kernel_rfl) (by kernel_rfl) (by kernel_rfl) (fun K hK => ?_)
    go_simp
    first | refine ⟨_, fun _ => rfl, hK _ _ ?_⟩ | refine hK _ _ ?_
    clear hK K
    refine mv_store_blk 2 rfl (by kernel_rfl) rfl 72 (.tmp 2) (.tmp 49) rfl W1.heap.size 0 #[.int .i64 0, .int .i64 0, .int .i64 0, .int .i64 ct, .int .i64 0, .int .i64 0, .string rt, .string nm] rfl rfl (by kernel_rfl) (rec_one _ _ _ _ _ _ _ _) (fun g w9 ha h0 h => ?_) ?_
    · have h9 := h
      rw [h0] at h9
      refine ⟨#[.int .i64 0, .int .i64 0, .int .i64 0, .int .i64 0, .int .i64 0, .int .i64 0, .string ⟨#[]⟩, .string ⟨#[]⟩], 72, h9.z, Nat.le_refl 8, ?_⟩
      rw [splice_all #[.int .i64 0, .int .i64 0, .int .i64 0, .int .i64 0, .int .i64 0, .int .i64 0, .string ⟨#[]⟩, .string ⟨#[]⟩] #[.int .i64 0, .int .i64 0, .int .i64 0, .int .i64 ct, .int .i64 0, .int .i64 0, .string rt, .string nm] rfl]
      show RetCls _ _ _ _ _ _ _ _ _ _ (upd g 2 undef 2) _
      rw [upd_self]
      exact h9.stored (by have h := HS.out; omega) (by have h := HS.out; omega) (Nat.le_of_lt HS.out.1)
    refine mv_read 3 hF (fun _ _ _ h => h) rfl (by kernel_rfl) (by kernel_rfl) (by kernel_rfl) (fun K hK => ?_)
    go_simp
    first | refine ⟨_, fun _ => rfl, hK _ _ ?_⟩ | refine hK _ _ ?_
    clear hK K
    refine mv_end (by kernel_rfl) ?_
    intro y2 hy2
    have KY := Lib.hid (show y2.heap[W1.heap.size]? = some (.cells #[.int .i64 0, .int .i64 0, .int .i64 0, .int .i64 ct, .int .i64 0, .int .i64 0, .string rt, .string nm] 72 (0, 0)) from hy2.z)
    have BY := Lib.hid hy2.b
    clear hy2 hF hFC k0 k1 k2 k3 k4 k5 k6 k7 ko
    obtain ⟨⟨q0, q1, q2, q3, q4, q5, q6, q7⟩, -⟩ := blkR KY.out
    go_wp2
    refine bodyPost_ret (v := .tuple #[.agg #[.int .i64 0, .int .i64 0, .int .i64 0, .int .i64 ct, .int .i64 0, .int .i64 0, .string rt, .string nm], .bool (withB un 1099511627776 && withB tg (wrap64 (ep - 1)))]) (by simp [results, Tryz.results91, go_sem, q0, q1, q2, q3, q4, q5, q6, q7]) rfl ?_
    exact HV.out ⟨0, 0, 0, ct, 0, 0, rt, nm⟩ _ (by simp) (by simp) _ BY.out
  have hk5 : (kd == 5) = false := by simpa using k5
  by_cases k3 : kd = 3
  · subst k3
    clear hk1 hk2 hk5
    cases hwt : withB tg (wrap64 (ep - 1)) with
    | false =>
      go_wp2_with fail
      refine (HTg.out _ _ _ _ ⟨3, ep, tm, ct, tg, un, rt, nm⟩ ⟨0, 0, 0, ct, tg, un, rt, nm⟩ _ KO4.out KX4.out KR4.out (by have h := HS.out; omega)).mono ?_
      rintro en T5 ⟨rfl, ho9, hx9, hz9, ht9⟩
      have B5 := Lib.hid (B4.out.trans (ht9.below (fun k hk => by have h := HS.out; rcases hk with rfl | rfl <;> omega) B4.out.size))
      have KO5 := Lib.hid (show T5.heap[W2.heap.size]? = some (.cells #[.bool (true && withB tg (wrap64 (ep - 1)))] 4 (0, 0)) from ho9)
      have KX5 := Lib.hid (show T5.heap[W3.heap.size]? = some (.cells #[.int .i64 0, .int .i64 0, .int .i64 0, .int .i64 ct, .int .i64 0, .int .i64 un, .string rt, .string nm] 72 (0, 0)) from hx9)
      have KR5 := Lib.hid (show T5.heap[w.heap.size]? = some (.cells #[.int .i64 3, .int .i64 ep, .int .i64 tm, .int .i64 ct, .int .i64 tg, .int .i64 un, .string rt, .string nm] 72 (0, 0)) from (ht9.block _ (lt_of_block KR4.out) (by have h := HS.out; omega)).trans KR4.out)
      have KZ5 := Lib.hid (show T5.heap[W1.heap.size]? = some (.cells #[.int .i64 0, .int .i64 0, .int .i64 0, .int .i64 0, .int .i64 0, .int .i64 0, .string ⟨#[]⟩, .string ⟨#[]⟩] 72 (0, 0)) from (ht9.block _ (lt_of_block KZ4.out) (by have h := HS.out; omega)).trans KZ4.out)
      clear ho9 hx9 hz9 ht9
      have KO5' := Lib.hid (show T5.heap[W2.heap.size]? = some (.cells #[.bool false] 4 (0, 0)) by have h := KO5.out; rw [hwt] at h; exact h)
      clear KO5
      have KO5 := KO5'
      obtain ⟨c6, f6⟩ := (show T5.cell? ⟨W2.heap.size, 0, none⟩ = some (.bool false) ∧ T5.frozen? ⟨W2.heap.size, 0, none⟩ = false from ⟨(blk1 KO5.out).1, frozen_of_row _ _ _ _ _ KO5.out⟩)
      obtain ⟨P6, hP6⟩ : ∃ W, T5.setCell ⟨W2.heap.size, 0, none⟩ (.bool false) = W := ⟨_, rfl⟩
      have B6 := Lib.hid (show Below w.heap.size w P6 by rw [← hP6]; exact B5.out.setCell (Nat.le_of_lt (Nat.lt_trans HS.out.1 HS.out.2.1)) _)
      have KR6 := Lib.hid (show P6.heap[w.heap.size]? = some (.cells #[.int .i64 3, .int .i64 ep, .int .i64 tm, .int .i64 ct, .int .i64 tg, .int .i64 un, .string rt, .string nm] 72 (0, 0)) by rw [← hP6]; exact (set_ne _ (by have h := HS.out; omega)).trans KR5.out)
      have KZ6 := Lib.hid (show P6.heap[W1.heap.size]? = some (.cells #[.int .i64 0, .int .i64 0, .int .i64 0, .int .i64 0, .int .i64 0, .int .i64 0, .string ⟨#[]⟩, .string ⟨#[]⟩] 72 (0, 0)) by rw [← hP6]; exact (set_ne _ (by have h := HS.out; omega)).trans KZ5.out)
      have KO6 := Lib.hid (show P6.heap[W2.heap.size]? = some (.cells #[.bool false] 4 (0, 0)) by rw [← hP6]; exact set_blk KO5.out 0 _)
      have KX6 := Lib.hid (show P6.heap[W3.heap.size]? = some (.cells #[.int .i64 0, .int .i64 0, .int .i64 0, .int .i64 ct, .int .i64 0, .int .i64 un, .string rt, .string nm] 72 (0, 0)) by rw [← hP6]; exact (set_ne _ (by have h := HS.out; omega)).trans KX5.out)
      have c7 := (blkR KX6.out).1.2.2.2.2.2.2.2
      have f7 := (blkR KX6.out).2 7
      obtain ⟨P7, hP7⟩ : ∃ W, P6.setCell ⟨W3.heap.size, 7, none⟩ (.string ⟨#[]⟩) = W := ⟨_, rfl⟩
      have B7 := Lib.hid (show Below w.heap.size w P7 by rw [← hP7]; exact B6.out.setCell (Nat.le_of_lt (Nat.lt_trans (Nat.lt_trans HS.out.1 HS.out.2.1) HS.out.2.2)) _)
      have KR7 := Lib.hid (show P7.heap[w.heap.size]? = some (.cells #[.int .i64 3, .int .i64 ep, .int .i64 tm, .int .i64 ct, .int .i64 tg, .int .i64 un, .string rt, .string nm] 72 (0, 0)) by rw [← hP7]; exact (set_ne _ (by have h := HS.out; omega)).trans KR6.out)
      have KZ7 := Lib.hid (show P7.heap[W1.heap.size]? = some (.cells #[.int .i64 0, .int .i64 0, .int .i64 0, .int .i64 0, .int .i64 0, .int .i64 0, .string ⟨#[]⟩, .string ⟨#[]⟩] 72 (0, 0)) by rw [← hP7]; exact (set_ne _ (by have h := HS.out; omega)).trans KZ6.out)
      have KO7 := Lib.hid (show P7.heap[W2.heap.size]? = some (.cells #[.bool false] 4 (0, 0)) by rw [← hP7]; exact (set_ne _ (by have h := HS.out; omega)).trans KO6.out)
      have KX7 := Lib.hid (show P7.heap[W3.heap.size]? = some (.cells #[.int .i64 0, .int .i64 0, .int .i64 0, .int .i64 ct, .int .i64 0, .int .i64 un, .string rt, .string ⟨#[]⟩] 72 (0, 0)) by rw [← hP7]; exact set_blk KX6.out 7 _)
      obtain ⟨⟨-, -, -, -, -, -, -, xn7⟩, -⟩ := blkR KX5.out
      go_upto_region 20 with fail
      try rw [hP6]
      try rw [hP7]
      obtain ⟨⟨x0, x1, x2, x3, x4, x5, x6, x7⟩, fx⟩ := blkR KX7.out
      obtain ⟨o0, fo0⟩ := (show P7.cell? ⟨W2.heap.size, 0, none⟩ = some (.bool false) ∧ P7.frozen? ⟨W2.heap.size, 0, none⟩ = false from ⟨(blk1 KO7.out).1, frozen_of_row _ _ _ _ _ KO7.out⟩)
      refine wp_region_mv (fun f => RetCls w.heap.size w W3.heap.size (.cells #[.int .i64 0, .int .i64 0, .int .i64 0, .int .i64 ct, .int .i64 0, .int .i64 un, .string rt, .string ⟨#[]⟩] 72 (0, 0)) W2.heap.size (.cells #[.bool false] 4 (0, 0)) W1.heap.size #[.int .i64 0, .int .i64 0, .int .i64 0, .int .i64 0, .int .i64 0, .int .i64 0, .string ⟨#[]⟩, .string ⟨#[]⟩] #[.int .i64 0, .int .i64 0, .int .i64 0, .int .i64 ct, .int .i64 0, .int .i64 un, .string rt, .string ⟨#[]⟩] 72 (f 2)) (by kernel_rfl) (RetCls.start B7.out B7.out.size KX7.out KO7.out KZ7.out) ?_
      obtain ⟨S, F, hF, hFC⟩ := moved_class (fun f => RetCls w.heap.size w W3.heap.size (.cells #[.int .i64 0, .int .i64 0, .int .i64 0, .int .i64 ct, .int .i64 0, .int .i64 un, .string rt, .string ⟨#[]⟩] 72 (0, 0)) W2.heap.size (.cells #[.bool false] 4 (0, 0)) W1.heap.size #[.int .i64 0, .int .i64 0, .int .i64 0, .int .i64 0, .int .i64 0, .int .i64 0, .string ⟨#[]⟩, .string ⟨#[]⟩] #[.int .i64 0, .int .i64 0, .int .i64 0, .int .i64 ct, .int .i64 0, .int .i64 un, .string rt, .string ⟨#[]⟩] 72 (f 2))
      have k0 : ∀ s, (F s).cell? ⟨W3.heap.size, 0, none⟩ = some (.int .i64 0) := fun s => by
        obtain ⟨f, hf⟩ := hFC s
        exact (blkR hf.x).1.1
      have k1 : ∀ s, (F s).cell? ⟨W3.heap.size, 1, none⟩ = some (.int .i64 0) := fun s => by
        obtain ⟨f, hf⟩ := hFC s
        exact (blkR hf.x).1.2.1
      have k2 : ∀ s, (F s).cell? ⟨W3.heap.size, 2, none⟩ = some (.int .i64 0) := fun s => by
        obtain ⟨f, hf⟩ := hFC s
        exact (blkR hf.x).1.2.2.1
      have k3 : ∀ s, (F s).cell? ⟨W3.heap.size, 3, none⟩ = some (.int .i64 ct) := fun s => by
        obtain ⟨f, hf⟩ := hFC s
        exact (blkR hf.x).1.2.2.2.1
      have k4 : ∀ s, (F s).cell? ⟨W3.heap.size, 4, none⟩ = some (.int .i64 0) := fun s => by
        obtain ⟨f, hf⟩ := hFC s
        exact (blkR hf.x).1.2.2.2.2.1
      have k5 : ∀ s, (F s).cell? ⟨W3.heap.size, 5, none⟩ = some (.int .i64 un) := fun s => by
        obtain ⟨f, hf⟩ := hFC s
        exact (blkR hf.x).1.2.2.2.2.2.1
      have k6 : ∀ s, (F s).cell? ⟨W3.heap.size, 6, none⟩ = some (.string rt) := fun s => by
        obtain ⟨f, hf⟩ := hFC s
        exact (blkR hf.x).1.2.2.2.2.2.2.1
      have k7 : ∀ s, (F s).cell? ⟨W3.heap.size, 7, none⟩ = some (.string ⟨#[]⟩) := fun s => by
        obtain ⟨f, hf⟩ := hFC s
        exact (blkR hf.x).1.2.2.2.2.2.2.2
      have ko : ∀ s, (F s).cell? ⟨W2.heap.size, 0, none⟩ = some (.bool false) := fun s => by
        obtain ⟨f, hf⟩ := hFC s
        exact (blk1 hf.o).1
      show wpAnyM _ _ _ _ _ 4 (Array.replicate 4 false) _ _
      refine mv_read 0 hF (fun _ _ _ h => h) rfl (by kernel_rfl) (by kernel_rfl) (by kernel_rfl) (fun K hK => ?_)
      go_simp
      first | refine ⟨_, fun _ => rfl, hK _ _ ?_⟩ | refine hK _ _ ?_
      clear hK K
      refine mv_read 1 hF (fun _ _ _ h => h) rfl (by kernel_rfl) (by kernel_rfl) (by kernel_rfl) (fun K hK => ?_)
      go_simp
      first | refine ⟨_, fun _ => rfl, hK _ _ ?_⟩ | refine hK _ _ ?_
      clear hK K
      refine mv_store_blk 2 rfl (by kernel_rfl) rfl 72 (.tmp 2) (.tmp 49) rfl W1.heap.size 0 #[.int .i64 0, .int .i64 0, .int .i64 0, .int .i64 ct, .int .i64 0, .int .i64 un, .string rt, .string ⟨#[]⟩] rfl rfl (by kernel_rfl) (rec_one _ _ _ _ _ _ _ _) (fun g w9 ha h0 h => ?_) ?_
      · have h9 := h
        rw [h0] at h9
        refine ⟨#[.int .i64 0, .int .i64 0, .int .i64 0, .int .i64 0, .int .i64 0, .int .i64 0, .string ⟨#[]⟩, .string ⟨#[]⟩], 72, h9.z, Nat.le_refl 8, ?_⟩
        rw [splice_all #[.int .i64 0, .int .i64 0, .int .i64 0, .int .i64 0, .int .i64 0, .int .i64 0, .string ⟨#[]⟩, .string ⟨#[]⟩] #[.int .i64 0, .int .i64 0, .int .i64 0, .int .i64 ct, .int .i64 0, .int .i64 un, .string rt, .string ⟨#[]⟩] rfl]
        show RetCls _ _ _ _ _ _ _ _ _ _ (upd g 2 undef 2) _
        rw [upd_self]
        exact h9.stored (by have h := HS.out; omega) (by have h := HS.out; omega) (Nat.le_of_lt HS.out.1)
      refine mv_read 3 hF (fun _ _ _ h => h) rfl (by kernel_rfl) (by kernel_rfl) (by kernel_rfl) (fun K hK => ?_)
      go_simp
      first | refine ⟨_, fun _ => rfl, hK _ _ ?_⟩ | refine hK _ _ ?_
      clear hK K
      refine mv_end (by kernel_rfl) ?_
      intro y2 hy2
      have KY := Lib.hid (show y2.heap[W1.heap.size]? = some (.cells #[.int .i64 0, .int .i64 0, .int .i64 0, .int .i64 ct, .int .i64 0, .int .i64 un, .string rt, .string ⟨#[]⟩] 72 (0, 0)) from hy2.z)
      have BY := Lib.hid hy2.b
      clear hy2 hF hFC k0 k1 k2 k3 k4 k5 k6 k7 ko
      obtain ⟨⟨q0, q1, q2, q3, q4, q5, q6, q7⟩, -⟩ := blkR KY.out
      go_wp2
      refine bodyPost_ret (v := .tuple #[.agg #[.int .i64 0, .int .i64 0, .int .i64 0, .int .i64 ct, .int .i64 0, .int .i64 un, .string rt, .string ⟨#[]⟩], .bool (false)]) (by simp [results, Tryz.results91, go_sem, q0, q1, q2, q3, q4, q5, q6, q7]) rfl ?_
      exact HV.out ⟨0, 0, 0, ct, 0, un, rt, ⟨#[]⟩⟩ _ (by simp [hwt]) (by simp [hwt]) _ BY.out
    | true =>
      go_wp2_with fail
      refine (HTg.out _ _ _ _ ⟨3, ep, tm, ct, tg, un, rt, nm⟩ ⟨0, 0, 0, ct, tg, un, rt, nm⟩ _ KO4.out KX4.out KR4.out (by have h := HS.out; omega)).mono ?_
      rintro en T5 ⟨rfl, ho9, hx9, hz9, ht9⟩
      have B5 := Lib.hid (B4.out.trans (ht9.below (fun k hk => by have h := HS.out; rcases hk with rfl | rfl <;> omega) B4.out.size))
      have KO5 := Lib.hid (show T5.heap[W2.heap.size]? = some (.cells #[.bool (true && withB tg (wrap64 (ep - 1)))] 4 (0, 0)) from ho9)
      have KX5 := Lib.hid (show T5.heap[W3.heap.size]? = some (.cells #[.int .i64 0, .int .i64 0, .int .i64 0, .int .i64 ct, .int .i64 0, .int .i64 un, .string rt, .string nm] 72 (0, 0)) from hx9)
      have KR5 := Lib.hid (show T5.heap[w.heap.size]? = some (.cells #[.int .i64 3, .int .i64 ep, .int .i64 tm, .int .i64 ct, .int .i64 tg, .int .i64 un, .string rt, .string nm] 72 (0, 0)) from (ht9.block _ (lt_of_block KR4.out) (by have h := HS.out; omega)).trans KR4.out)
      have KZ5 := Lib.hid (show T5.heap[W1.heap.size]? = some (.cells #[.int .i64 0, .int .i64 0, .int .i64 0, .int .i64 0, .int .i64 0, .int .i64 0, .string ⟨#[]⟩, .string ⟨#[]⟩] 72 (0, 0)) from (ht9.block _ (lt_of_block KZ4.out) (by have h := HS.out; omega)).trans KZ4.out)
      clear ho9 hx9 hz9 ht9
      have KO5' := Lib.hid (show T5.heap[W2.heap.size]? = some (.cells #[.bool true] 4 (0, 0)) by have h := KO5.out; rw [hwt] at h; exact h)
      clear KO5
      have KO5 := KO5'
      obtain ⟨c6, f6⟩ := (show T5.cell? ⟨W2.heap.size, 0, none⟩ = some (.bool true) ∧ T5.frozen? ⟨W2.heap.size, 0, none⟩ = false from ⟨(blk1 KO5.out).1, frozen_of_row _ _ _ _ _ KO5.out⟩)
      obtain ⟨P6, hP6⟩ : ∃ W, T5.setCell ⟨W2.heap.size, 0, none⟩ (.bool (nameB nm)) = W := ⟨_, rfl⟩
      have B6 := Lib.hid (show Below w.heap.size w P6 by rw [← hP6]; exact B5.out.setCell (Nat.le_of_lt (Nat.lt_trans HS.out.1 HS.out.2.1)) _)
      have KR6 := Lib.hid (show P6.heap[w.heap.size]? = some (.cells #[.int .i64 3, .int .i64 ep, .int .i64 tm, .int .i64 ct, .int .i64 tg, .int .i64 un, .string rt, .string nm] 72 (0, 0)) by rw [← hP6]; exact (set_ne _ (by have h := HS.out; omega)).trans KR5.out)
      have KZ6 := Lib.hid (show P6.heap[W1.heap.size]? = some (.cells #[.int .i64 0, .int .i64 0, .int .i64 0, .int .i64 0, .int .i64 0, .int .i64 0, .string ⟨#[]⟩, .string ⟨#[]⟩] 72 (0, 0)) by rw [← hP6]; exact (set_ne _ (by have h := HS.out; omega)).trans KZ5.out)
      have KO6 := Lib.hid (show P6.heap[W2.heap.size]? = some (.cells #[.bool (nameB nm)] 4 (0, 0)) by rw [← hP6]; exact set_blk KO5.out 0 _)
      have KX6 := Lib.hid (show P6.heap[W3.heap.size]? = some (.cells #[.int .i64 0, .int .i64 0, .int .i64 0, .int .i64 ct, .int .i64 0, .int .i64 un, .string rt, .string nm] 72 (0, 0)) by rw [← hP6]; exact (set_ne _ (by have h := HS.out; omega)).trans KX5.out)
      have c7 := (blkR KX6.out).1.2.2.2.2.2.2.2
      have f7 := (blkR KX6.out).2 7
      obtain ⟨P7, hP7⟩ : ∃ W, P6.setCell ⟨W3.heap.size, 7, none⟩ (.string ⟨#[]⟩) = W := ⟨_, rfl⟩
      have B7 := Lib.hid (show Below w.heap.size w P7 by rw [← hP7]; exact B6.out.setCell (Nat.le_of_lt (Nat.lt_trans (Nat.lt_trans HS.out.1 HS.out.2.1) HS.out.2.2)) _)
      have KR7 := Lib.hid (show P7.heap[w.heap.size]? = some (.cells #[.int .i64 3, .int .i64 ep, .int .i64 tm, .int .i64 ct, .int .i64 tg, .int .i64 un, .string rt, .string nm] 72 (0, 0)) by rw [← hP7]; exact (set_ne _ (by have h := HS.out; omega)).trans KR6.out)
      have KZ7 := Lib.hid (show P7.heap[W1.heap.size]? = some (.cells #[.int .i64 0, .int .i64 0, .int .i64 0, .int .i64 0, .int .i64 0, .int .i64 0, .string ⟨#[]⟩, .string ⟨#[]⟩] 72 (0, 0)) by rw [← hP7]; exact (set_ne _ (by have h := HS.out; omega)).trans KZ6.out)
      have KO7 := Lib.hid (show P7.heap[W2.heap.size]? = some (.cells #[.bool (nameB nm)] 4 (0, 0)) by rw [← hP7]; exact (set_ne _ (by have h := HS.out; omega)).trans KO6.out)
      have KX7 := Lib.hid (show P7.heap[W3.heap.size]? = some (.cells #[.int .i64 0, .int .i64 0, .int .i64 0, .int .i64 ct, .int .i64 0, .int .i64 un, .string rt, .string ⟨#[]⟩] 72 (0, 0)) by rw [← hP7]; exact set_blk KX6.out 7 _)
      obtain ⟨⟨-, -, -, -, -, -, -, xn7⟩, -⟩ := blkR KX5.out
      go_wp2_with fail
      refine (HNm.out _).mono ?_
      rintro en v0 ⟨rfl, hw⟩
      rw [hw]
      clear hw
      go_upto_region 20 with fail
      try rw [hP6]
      try rw [hP7]
      obtain ⟨⟨x0, x1, x2, x3, x4, x5, x6, x7⟩, fx⟩ := blkR KX7.out
      obtain ⟨o0, fo0⟩ := (show P7.cell? ⟨W2.heap.size, 0, none⟩ = some (.bool (nameB nm)) ∧ P7.frozen? ⟨W2.heap.size, 0, none⟩ = false from ⟨(blk1 KO7.out).1, frozen_of_row _ _ _ _ _ KO7.out⟩)
      refine wp_region_mv (fun f => RetCls w.heap.size w W3.heap.size (.cells #[.int .i64 0, .int .i64 0, .int .i64 0, .int .i64 ct, .int .i64 0, .int .i64 un, .string rt, .string ⟨#[]⟩] 72 (0, 0)) W2.heap.size (.cells #[.bool (nameB nm)] 4 (0, 0)) W1.heap.size #[.int .i64 0, .int .i64 0, .int .i64 0, .int .i64 0, .int .i64 0, .int .i64 0, .string ⟨#[]⟩, .string ⟨#[]⟩] #[.int .i64 0, .int .i64 0, .int .i64 0, .int .i64 ct, .int .i64 0, .int .i64 un, .string rt, .string ⟨#[]⟩] 72 (f 2)) (by kernel_rfl) (RetCls.start B7.out B7.out.size KX7.out KO7.out KZ7.out) ?_
      obtain ⟨S, F, hF, hFC⟩ := moved_class (fun f => RetCls w.heap.size w W3.heap.size (.cells #[.int .i64 0, .int .i64 0, .int .i64 0, .int .i64 ct, .int .i64 0, .int .i64 un, .string rt, .string ⟨#[]⟩] 72 (0, 0)) W2.heap.size (.cells #[.bool (nameB nm)] 4 (0, 0)) W1.heap.size #[.int .i64 0, .int .i64 0, .int .i64 0, .int .i64 0, .int .i64 0, .int .i64 0, .string ⟨#[]⟩, .string ⟨#[]⟩] #[.int .i64 0, .int .i64 0, .int .i64 0, .int .i64 ct, .int .i64 0, .int .i64 un, .string rt, .string ⟨#[]⟩] 72 (f 2))
      have k0 : ∀ s, (F s).cell? ⟨W3.heap.size, 0, none⟩ = some (.int .i64 0) := fun s => by
        obtain ⟨f, hf⟩ := hFC s
        exact (blkR hf.x).1.1
      have k1 : ∀ s, (F s).cell? ⟨W3.heap.size, 1, none⟩ = some (.int .i64 0) := fun s => by
        obtain ⟨f, hf⟩ := hFC s
        exact (blkR hf.x).1.2.1
      have k2 : ∀ s, (F s).cell? ⟨W3.heap.size, 2, none⟩ = some (.int .i64 0) := fun s => by
        obtain ⟨f, hf⟩ := hFC s
        exact (blkR hf.x).1.2.2.1
      have k3 : ∀ s, (F s).cell? ⟨W3.heap.size, 3, none⟩ = some (.int .i64 ct) := fun s => by
        obtain ⟨f, hf⟩ := hFC s
        exact (blkR hf.x).1.2.2.2.1
      have k4 : ∀ s, (F s).cell? ⟨W3.heap.size, 4, none⟩ = some (.int .i64 0) := fun s => by
        obtain ⟨f, hf⟩ := hFC s
        exact (blkR hf.x).1.2.2.2.2.1
      have k5 : ∀ s, (F s).cell? ⟨W3.heap.size, 5, none⟩ = some (.int .i64 un) := fun s => by
        obtain ⟨f, hf⟩ := hFC s
        exact (blkR hf.x).1.2.2.2.2.2.1
      have k6 : ∀ s, (F s).cell? ⟨W3.heap.size, 6, none⟩ = some (.string rt) := fun s => by
        obtain ⟨f, hf⟩ := hFC s
        exact (blkR hf.x).1.2.2.2.2.2.2.1
      have k7 : ∀ s, (F s).cell? ⟨W3.heap.size, 7, none⟩ = some (.string ⟨#[]⟩) := fun s => by
        obtain ⟨f, hf⟩ := hFC s
        exact (blkR hf.x).1.2.2.2.2.2.2.2
      have ko : ∀ s, (F s).cell? ⟨W2.heap.size, 0, none⟩ = some (.bool (nameB nm)) := fun s => by
        obtain ⟨f, hf⟩ := hFC s
        exact (blk1 hf.o).1
      show wpAnyM _ _ _ _ _ 4 (Array.replicate 4 false) _ _
      refine mv_read 0 hF (fun _ _ _ h => h) rfl (by kernel_rfl) (by kernel_rfl) (by kernel_rfl) (fun K hK => ?_)
      go_simp
      first | refine ⟨_, fun _ => rfl, hK _ _ ?_⟩ | refine hK _ _ ?_
      clear hK K
      refine mv_read 1 hF (fun _ _ _ h => h) rfl (by kernel_rfl) (by kernel_rfl) (by kernel_rfl) (fun K hK => ?_)
      go_simp
      first | refine ⟨_, fun _ => rfl, hK _ _ ?_⟩ | refine hK _ _ ?_
      clear hK K
      refine mv_store_blk 2 rfl (by kernel_rfl) rfl 72 (.tmp 2) (.tmp 49) rfl W1.heap.size 0 #[.int .i64 0, .int .i64 0, .int .i64 0, .int .i64 ct, .int .i64 0, .int .i64 un, .string rt, .string ⟨#[]⟩] rfl rfl (by kernel_rfl) (rec_one _ _ _ _ _ _ _ _) (fun g w9 ha h0 h => ?_) ?_
      · have h9 := h
        rw [h0] at h9
        refine ⟨#[.int .i64 0, .int .i64 0, .int .i64 0, .int .i64 0, .int .i64 0, .int .i64 0, .string ⟨#[]⟩, .string ⟨#[]⟩], 72, h9.z, Nat.le_refl 8, ?_⟩
        rw [splice_all #[.int .i64 0, .int .i64 0, .int .i64 0, .int .i64 0, .int .i64 0, .int .i64 0, .string ⟨#[]⟩, .string ⟨#[]⟩] #[.int .i64 0, .int .i64 0, .int .i64 0, .int .i64 ct, .int .i64 0, .int .i64 un, .string rt, .string ⟨#[]⟩] rfl]
        show RetCls _ _ _ _ _ _ _ _ _ _ (upd g 2 undef 2) _
        rw [upd_self]
        exact h9.stored (by have h := HS.out; omega) (by have h := HS.out; omega) (Nat.le_of_lt HS.out.1)
      refine mv_read 3 hF (fun _ _ _ h => h) rfl (by kernel_rfl) (by kernel_rfl) (by kernel_rfl) (fun K hK => ?_)
      go_simp
      first | refine ⟨_, fun _ => rfl, hK _ _ ?_⟩ | refine hK _ _ ?_
      clear hK K
      refine mv_end (by kernel_rfl) ?_
      intro y2 hy2
      have KY := Lib.hid (show y2.heap[W1.heap.size]? = some (.cells #[.int .i64 0, .int .i64 0, .int .i64 0, .int .i64 ct, .int .i64 0, .int .i64 un, .string rt, .string ⟨#[]⟩] 72 (0, 0)) from hy2.z)
      have BY := Lib.hid hy2.b
      clear hy2 hF hFC k0 k1 k2 k3 k4 k5 k6 k7 ko
      obtain ⟨⟨q0, q1, q2, q3, q4, q5, q6, q7⟩, -⟩ := blkR KY.out
      go_wp2
      refine bodyPost_ret (v := .tuple #[.agg #[.int .i64 0, .int .i64 0, .int .i64 0, .int .i64 ct, .int .i64 0, .int .i64 un, .string rt, .string ⟨#[]⟩], .bool (nameB nm)]) (by simp [results, Tryz.results91, go_sem, q0, q1, q2, q3, q4, q5, q6, q7]) rfl ?_
      exact HV.out ⟨0, 0, 0, ct, 0, un, rt, ⟨#[]⟩⟩ _ (by simp [hwt]) (by simp [hwt]) _ BY.out
  have hk3 : (kd == 3) = false := by simpa using k3
  by_cases k4 : kd = 4
  · subst k4
    clear hk1 hk2 hk5 hk3
    obtain ⟨c5, f5⟩ := (show W4.cell? ⟨W2.heap.size, 0, none⟩ = some (.bool true) ∧ W4.frozen? ⟨W2.heap.size, 0, none⟩ = false from ⟨(blk1 KO4.out).1, frozen_of_row _ _ _ _ _ KO4.out⟩)
    obtain ⟨P5, hP5⟩ : ∃ W, W4.setCell ⟨W2.heap.size, 0, none⟩ (.bool (nameB nm)) = W := ⟨_, rfl⟩
    have B5 := Lib.hid (show Below w.heap.size w P5 by rw [← hP5]; exact B4.out.setCell (Nat.le_of_lt (Nat.lt_trans HS.out.1 HS.out.2.1)) _)
    have KR5 := Lib.hid (show P5.heap[w.heap.size]? = some (.cells #[.int .i64 4, .int .i64 ep, .int .i64 tm, .int .i64 ct, .int .i64 tg, .int .i64 un, .string rt, .string nm] 72 (0, 0)) by rw [← hP5]; exact (set_ne _ (by have h := HS.out; omega)).trans KR4.out)
    have KZ5 := Lib.hid (show P5.heap[W1.heap.size]? = some (.cells #[.int .i64 0, .int .i64 0, .int .i64 0, .int .i64 0, .int .i64 0, .int .i64 0, .string ⟨#[]⟩, .string ⟨#[]⟩] 72 (0, 0)) by rw [← hP5]; exact (set_ne _ (by have h := HS.out; omega)).trans KZ4.out)
    have KO5 := Lib.hid (show P5.heap[W2.heap.size]? = some (.cells #[.bool (nameB nm)] 4 (0, 0)) by rw [← hP5]; exact set_blk KO4.out 0 _)
    have KX5 := Lib.hid (show P5.heap[W3.heap.size]? = some (.cells #[.int .i64 0, .int .i64 0, .int .i64 0, .int .i64 ct, .int .i64 tg, .int .i64 un, .string rt, .string nm] 72 (0, 0)) by rw [← hP5]; exact (set_ne _ (by have h := HS.out; omega)).trans KX4.out)
    have c6 := (blkR KX5.out).1.2.2.2.2.2.2.2
    have f6 := (blkR KX5.out).2 7
    obtain ⟨P6, hP6⟩ : ∃ W, P5.setCell ⟨W3.heap.size, 7, none⟩ (.string ⟨#[]⟩) = W := ⟨_, rfl⟩
    have B6 := Lib.hid (show Below w.heap.size w P6 by rw [← hP6]; exact B5.out.setCell (Nat.le_of_lt (Nat.lt_trans (Nat.lt_trans HS.out.1 HS.out.2.1) HS.out.2.2)) _)
    have KR6 := Lib.hid (show P6.heap[w.heap.size]? = some (.cells #[.int .i64 4, .int .i64 ep, .int .i64 tm, .int .i64 ct, .int .i64 tg, .int .i64 un, .string rt, .string nm] 72 (0, 0)) by rw [← hP6]; exact (set_ne _ (by have h := HS.out; omega)).trans KR5.out)
    have KZ6 := Lib.hid (show P6.heap[W1.heap.size]? = some (.cells #[.int .i64 0, .int .i64 0, .int .i64 0, .int .i64 0, .int .i64 0, .int .i64 0, .string ⟨#[]⟩, .string ⟨#[]⟩] 72 (0, 0)) by rw [← hP6]; exact (set_ne _ (by have h := HS.out; omega)).trans KZ5.out)
    have KO6 := Lib.hid (show P6.heap[W2.heap.size]? = some (.cells #[.bool (nameB nm)] 4 (0, 0)) by rw [← hP6]; exact (set_ne _ (by have h := HS.out; omega)).trans KO5.out)
    have KX6 := Lib.hid (show P6.heap[W3.heap.size]? = some (.cells #[.int .i64 0, .int .i64 0, .int .i64 0, .int .i64 ct, .int .i64 tg, .int .i64 un, .string rt, .string ⟨#[]⟩] 72 (0, 0)) by rw [← hP6]; exact set_blk KX5.out 7 _)
    go_wp2_with fail
    refine (HNm.out _).mono ?_
    rintro en v0 ⟨rfl, hw⟩
    rw [hw]
    clear hw
    go_upto_region 20 with fail
    try rw [hP5]
    try rw [hP6]
    obtain ⟨⟨x0, x1, x2, x3, x4, x5, x6, x7⟩, fx⟩ := blkR KX6.out
    obtain ⟨o0, fo0⟩ := (show P6.cell? ⟨W2.heap.size, 0, none⟩ = some (.bool (nameB nm)) ∧ P6.frozen? ⟨W2.heap.size, 0, none⟩ = false from ⟨(blk1 KO6.out).1, frozen_of_row _ _ _ _ _ KO6.out⟩)
    refine wp_region_mv (fun f => RetCls w.heap.size w W3.heap.size (.cells #[.int .i64 0, .int .i64 0, .int .i64 0, .int .i64 ct, .int .i64 tg, .int .i64 un, .string rt, .string ⟨#[]⟩] 72 (0, 0)) W2.heap.size (.cells #[.bool (nameB nm)] 4 (0, 0)) W1.heap.size #[.int .i64 0, .int .i64 0, .int .i64 0, .int .i64 0, .int .i64 0, .int .i64 0, .string ⟨#[]⟩, .string ⟨#[]⟩] #[.int .i64 0, .int .i64 0, .int .i64 0, .int .i64 ct, .int .i64 tg, .int .i64 un, .string rt, .string ⟨#[]⟩] 72 (f 2)) (by kernel_rfl) (RetCls.start B6.out B6.out.size KX6.out KO6.out KZ6.out) ?_
    obtain ⟨S, F, hF, hFC⟩ := moved_class (fun f => RetCls w.heap.size w W3.heap.size (.cells #[.int .i64 0, .int .i64 0, .int .i64 0, .int .i64 ct, .int .i64 tg, .int .i64 un, .string rt, .string ⟨#[]⟩] 72 (0, 0)) W2.heap.size (.cells #[.bool (nameB nm)] 4 (0, 0)) W1.heap.size #[.int .i64 0, .int .i64 0, .int .i64 0, .int .i64 0, .int .i64 0, .int .i64 0, .string ⟨#[]⟩, .string ⟨#[]⟩] #[.int .i64 0, .int .i64 0, .int .i64 0, .int .i64 ct, .int .i64 tg, .int .i64 un, .string rt, .string ⟨#[]⟩] 72 (f 2))
    have k0 : ∀ s, (F s).cell? ⟨W3.heap.size, 0, none⟩ = some (.int .i64 0) := fun s => by
      obtain ⟨f, hf⟩ := hFC s
      exact (blkR hf.x).1.1
    have k1 : ∀ s, (F s).cell? ⟨W3.heap.size, 1, none⟩ = some (.int .i64 0) := fun s => by
      obtain ⟨f, hf⟩ := hFC s
      exact (blkR hf.x).1.2.1
    have k2 : ∀ s, (F s).cell? ⟨W3.heap.size, 2, none⟩ = some (.int .i64 0) := fun s => by
      obtain ⟨f, hf⟩ := hFC s
      exact (blkR hf.x).1.2.2.1
    have k3 : ∀ s, (F s).cell? ⟨W3.heap.size, 3, none⟩ = some (.int .i64 ct) := fun s => by
      obtain ⟨f, hf⟩ := hFC s
      exact (blkR hf.x).1.2.2.2.1
    have k4 : ∀ s, (F s).cell? ⟨W3.heap.size, 4, none⟩ = some (.int .i64 tg) := fun s => by
      obtain ⟨f, hf⟩ := hFC s
      exact (blkR hf.x).1.2.2.2.2.1
    have k5 : ∀ s, (F s).cell? ⟨W3.heap.size, 5, none⟩ = some (.int .i64 un) := fun s => by
      obtain ⟨f, hf⟩ := hFC s
      exact (blkR hf.x).1.2.2.2.2.2.1
    have k6 : ∀ s, (F s).cell? ⟨W3.heap.size, 6, none⟩ = some (.string rt) := fun s => by
      obtain ⟨f, hf⟩ := hFC s
      exact (blkR hf.x).1.2.2.2.2.2.2.1
    have k7 : ∀ s, (F s).cell? ⟨W3.heap.size, 7, none⟩ = some (.string ⟨#[]⟩) := fun s => by
      obtain ⟨f, hf⟩ := hFC s
      exact (blkR hf.x).1.2.2.2.2.2.2.2
    have ko : ∀ s, (F s).cell? ⟨W2.heap.size, 0, none⟩ = some (.bool (nameB nm)) := fun s => by
      obtain ⟨f, hf⟩ := hFC s
      exact (blk1 hf.o).1
    show wpAnyM _ _ _ _ _ 4 (Array.replicate 4 false) _ _
    refine mv_read 0 hF (fun _ _ _ h => h) rfl (by kernel_rfl) (by kernel_rfl) (by kernel_rfl) (fun K hK => ?_)
    go_simp
    first | refine ⟨_, fun _ => rfl, hK _ _ ?_⟩ | refine hK _ _ ?_
    clear hK K
    refine mv_read 1 hF (fun _ _ _ h => h) rfl (by kernel_rfl) (by kernel_rfl) (by kernel_rfl) (fun K hK => ?_)
    go_simp
    first | refine ⟨_, fun _ => rfl, hK _ _ ?_⟩ | refine hK _ _ ?_
    clear hK K
    refine mv_store_blk 2 rfl (by kernel_rfl) rfl 72 (.tmp 2) (.tmp 49) rfl W1.heap.size 0 #[.int .i64 0, .int .i64 0, .int .i64 0, .int .i64 ct, .int .i64 tg, .int .i64 un, .string rt, .string ⟨#[]⟩] rfl rfl (by kernel_rfl) (rec_one _ _ _ _ _ _ _ _) (fun g w9 ha h0 h => ?_) ?_
    · have h9 := h
      rw [h0] at h9
      refine ⟨#[.int .i64 0, .int .i64 0, .int .i64 0, .int .i64 0, .int .i64 0, .int .i64 0, .string ⟨#[]⟩, .string ⟨#[]⟩], 72, h9.z, Nat.le_refl 8, ?_⟩
      rw [splice_all #[.int .i64 0, .int .i64 0, .int .i64 0, .int .i64 0, .int .i64 0, .int .i64 0, .string ⟨#[]⟩, .string ⟨#[]⟩] #[.int .i64 0, .int .i64 0, .int .i64 0, .int .i64 ct, .int .i64 tg, .int .i64 un, .string rt, .string ⟨#[]⟩] rfl]
      show RetCls _ _ _ _ _ _ _ _ _ _ (upd g 2 undef 2) _
      rw [upd_self]
      exact h9.stored (by have h := HS.out; omega) (by have h := HS.out; omega) (Nat.le_of_lt HS.out.1)
    refine mv_read 3 hF (fun _ _ _ h => h) rfl (by kernel_rfl) (by kernel_rfl) (by kernel_rfl) (fun K hK => ?_)
    go_simp
    first | refine ⟨_, fun _ => rfl, hK _ _ ?_⟩ | refine hK _ _ ?_
    clear hK K
    refine mv_end (by kernel_rfl) ?_
    intro y2 hy2
    have KY := Lib.hid (show y2.heap[W1.heap.size]? = some (.cells #[.int .i64 0, .int .i64 0, .int .i64 0, .int .i64 ct, .int .i64 tg, .int .i64 un, .string rt, .string ⟨#[]⟩] 72 (0, 0)) from hy2.z)
    have BY := Lib.hid hy2.b
    clear hy2 hF hFC k0 k1 k2 k3 k4 k5 k6 k7 ko
    obtain ⟨⟨q0, q1, q2, q3, q4, q5, q6, q7⟩, -⟩ := blkR KY.out
    go_wp2
    refine bodyPost_ret (v := .tuple #[.agg #[.int .i64 0, .int .i64 0, .int .i64 0, .int .i64 ct, .int .i64 tg, .int .i64 un, .string rt, .string ⟨#[]⟩], .bool (nameB nm)]) (by simp [results, Tryz.results91, go_sem, q0, q1, q2, q3, q4, q5, q6, q7]) rfl ?_
    exact HV.out ⟨0, 0, 0, ct, tg, un, rt, ⟨#[]⟩⟩ _ (by simp) (by simp) _ BY.out
  have hk4 : (kd == 4) = false := by simpa using k4
  obtain ⟨c5, f5⟩ := (show W4.cell? ⟨W2.heap.size, 0, none⟩ = some (.bool true) ∧ W4.frozen? ⟨W2.heap.size, 0, none⟩ = false from ⟨(blk1 KO4.out).1, frozen_of_row _ _ _ _ _ KO4.out⟩)
  obtain ⟨P5, hP5⟩ : ∃ W, W4.setCell ⟨W2.heap.size, 0, none⟩ (.bool false) = W := ⟨_, rfl⟩
  have B5 := Lib.hid (show Below w.heap.size w P5 by rw [← hP5]; exact B4.out.setCell (Nat.le_of_lt (Nat.lt_trans HS.out.1 HS.out.2.1)) _)
  have KR5 := Lib.hid (show P5.heap[w.heap.size]? = some (.cells #[.int .i64 kd, .int .i64 ep, .int .i64 tm, .int .i64 ct, .int .i64 tg, .int .i64 un, .string rt, .string nm] 72 (0, 0)) by rw [← hP5]; exact (set_ne _ (by have h := HS.out; omega)).trans KR4.out)
  have KZ5 := Lib.hid (show P5.heap[W1.heap.size]? = some (.cells #[.int .i64 0, .int .i64 0, .int .i64 0, .int .i64 0, .int .i64 0, .int .i64 0, .string ⟨#[]⟩, .string ⟨#[]⟩] 72 (0, 0)) by rw [← hP5]; exact (set_ne _ (by have h := HS.out; omega)).trans KZ4.out)
  have KO5 := Lib.hid (show P5.heap[W2.heap.size]? = some (.cells #[.bool false] 4 (0, 0)) by rw [← hP5]; exact set_blk KO4.out 0 _)
  have KX5 := Lib.hid (show P5.heap[W3.heap.size]? = some (.cells #[.int .i64 0, .int .i64 0, .int .i64 0, .int .i64 ct, .int .i64 tg, .int .i64 un, .string rt, .string nm] 72 (0, 0)) by rw [← hP5]; exact (set_ne _ (by have h := HS.out; omega)).trans KX4.out)
  go_upto_region 20 with fail
  try rw [hP5]
  obtain ⟨⟨x0, x1, x2, x3, x4, x5, x6, x7⟩, fx⟩ := blkR KX5.out
  obtain ⟨o0, fo0⟩ := (show P5.cell? ⟨W2.heap.size, 0, none⟩ = some (.bool false) ∧ P5.frozen? ⟨W2.heap.size, 0, none⟩ = false from ⟨(blk1 KO5.out).1, frozen_of_row _ _ _ _ _ KO5.out⟩)
  refine wp_region_mv (fun f => RetCls w.heap.size w W3.heap.size (.cells #[.int .i64 0, .int .i64 0, .int .i64 0, .int .i64 ct, .int .i64 tg, .int .i64 un, .string rt, .string nm] 72 (0, 0)) W2.heap.size (.cells #[.bool false] 4 (0, 0)) W1.heap.size #[.int .i64 0, .int .i64 0, .int .i64 0, .int .i64 0, .int .i64 0, .int .i64 0, .string ⟨#[]⟩, .string ⟨#[]⟩] #[.int .i64 0, .int .i64 0, .int .i64 0, .int .i64 ct, .int .i64 tg, .int .i64 un, .string rt, .string nm] 72 (f 2)) (by kernel_rfl) (RetCls.start B5.out B5.out.size KX5.out KO5.out KZ5.out) ?_
  obtain ⟨S, F, hF, hFC⟩ := moved_class (fun f => RetCls w.heap.size w W3.heap.size (.cells #[.int .i64 0, .int .i64 0, .int .i64 0, .int .i64 ct, .int .i64 tg, .int .i64 un, .string rt, .string nm] 72 (0, 0)) W2.heap.size (.cells #[.bool false] 4 (0, 0)) W1.heap.size #[.int .i64 0, .int .i64 0, .int .i64 0, .int .i64 0, .int .i64 0, .int .i64 0, .string ⟨#[]⟩, .string ⟨#[]⟩] #[.int .i64 0, .int .i64 0, .int .i64 0, .int .i64 ct, .int .i64 tg, .int .i64 un, .string rt, .string nm] 72 (f 2))
  have k0 : ∀ s, (F s).cell? ⟨W3.heap.size, 0, none⟩ = some (.int .i64 0) := fun s => by
    obtain ⟨f, hf⟩ := hFC s
    exact (blkR hf.x).1.1
  have k1 : ∀ s, (F s).cell? ⟨W3.heap.size, 1, none⟩ = some (.int .i64 0) := fun s => by
    obtain ⟨f, hf⟩ := hFC s
    exact (blkR hf.x).1.2.1
  have k2 : ∀ s, (F s).cell? ⟨W3.heap.size, 2, none⟩ = some (.int .i64 0) := fun s => by
    obtain ⟨f, hf⟩ := hFC s
    exact (blkR hf.x).1.2.2.1
  have k3 : ∀ s, (F s).cell? ⟨W3.heap.size, 3, none⟩ = some (.int .i64 ct) := fun s => by
    obtain ⟨f, hf⟩ := hFC s
    exact (blkR hf.x).1.2.2.2.1
  have k4 : ∀ s, (F s).cell? ⟨W3.heap.size, 4, none⟩ = some (.int .i64 tg) := fun s => by
    obtain ⟨f, hf⟩ := hFC s
    exact (blkR hf.x).1.2.2.2.2.1
  have k5 : ∀ s, (F s).cell? ⟨W3.heap.size, 5, none⟩ = some (.int .i64 un) := fun s => by
    obtain ⟨f, hf⟩ := hFC s
    exact (blkR hf.x).1.2.2.2.2.2.1
  have k6 : ∀ s, (F s).cell? ⟨W3.heap.size, 6, none⟩ = some (.string rt) := fun s => by
    obtain ⟨f, hf⟩ := hFC s
    exact (blkR hf.x).1.2.2.2.2.2.2.1
  have k7 : ∀ s, (F s).cell? ⟨W3.heap.size, 7, none⟩ = some (.string nm) := fun s => by
    obtain ⟨f, hf⟩ := hFC s
    exact (blkR hf.x).1.2.2.2.2.2.2.2
  have ko : ∀ s, (F s).cell? ⟨W2.heap.size, 0, none⟩ = some (.bool false) := fun s => by
    obtain ⟨f, hf⟩ := hFC s
    exact (blk1 hf.o).1
  show wpAnyM _ _ _ _ _ 4 (Array.replicate 4 false) _ _
  refine mv_read 0 hF (fun _ _ _ h => h) rfl (by kernel_rfl) (by kernel_rfl) (by kernel_rfl) (fun K hK => ?_)
  go_simp
  first | refine ⟨_, fun _ => rfl, hK _ _ ?_⟩ | refine hK _ _ ?_
  clear hK K
  refine mv_read 1 hF (fun _ _ _ h => h) rfl (by kernel_rfl) (by kernel_rfl) (by kernel_rfl) (fun K hK => ?_)
  go_simp
  first | refine ⟨_, fun _ => rfl, hK _ _ ?_⟩ | refine hK _ _ ?_
  clear hK K
  refine mv_store_blk 2 rfl (by kernel_rfl) rfl 72 (.tmp 2) (.tmp 49) rfl W1.heap.size 0 #[.int .i64 0, .int .i64 0, .int .i64 0, .int .i64 ct, .int .i64 tg, .int .i64 un, .string rt, .string nm] rfl rfl (by kernel_rfl) (rec_one _ _ _ _ _ _ _ _) (fun g w9 ha h0 h => ?_) ?_
  · have h9 := h
    rw [h0] at h9
    refine ⟨#[.int .i64 0, .int .i64 0, .int .i64 0, .int .i64 0, .int .i64 0, .int .i64 0, .string ⟨#[]⟩, .string ⟨#[]⟩], 72, h9.z, Nat.le_refl 8, ?_⟩
    rw [splice_all #[.int .i64 0, .int .i64 0, .int .i64 0, .int .i64 0, .int .i64 0, .int .i64 0, .string ⟨#[]⟩, .string ⟨#[]⟩] #[.int .i64 0, .int .i64 0, .int .i64 0, .int .i64 ct, .int .i64 tg, .int .i64 un, .string rt, .string nm] rfl]
    show RetCls _ _ _ _ _ _ _ _ _ _ (upd g 2 undef 2) _
    rw [upd_self]
    exact h9.stored (by have h := HS.out; omega) (by have h := HS.out; omega) (Nat.le_of_lt HS.out.1)
  refine mv_read 3 hF (fun _ _ _ h => h) rfl (by kernel_rfl) (by kernel_rfl) (by kernel_rfl) (fun K hK => ?_)
  go_simp
  first | refine ⟨_, fun _ => rfl, hK _ _ ?_⟩ | refine hK _ _ ?_
  clear hK K
  refine mv_end (by kernel_rfl) ?_
  intro y2 hy2
  have KY := Lib.hid (show y2.heap[W1.heap.size]? = some (.cells #[.int .i64 0, .int .i64 0, .int .i64 0, .int .i64 ct, .int .i64 tg, .int .i64 un, .string rt, .string nm] 72 (0, 0)) from hy2.z)
  have BY := Lib.hid hy2.b
  clear hy2 hF hFC k0 k1 k2 k3 k4 k5 k6 k7 ko
  obtain ⟨⟨q0, q1, q2, q3, q4, q5, q6, q7⟩, -⟩ := blkR KY.out
  go_wp2
  refine bodyPost_ret (v := .tuple #[.agg #[.int .i64 0, .int .i64 0, .int .i64 0, .int .i64 ct, .int .i64 tg, .int .i64 un, .string rt, .string nm], .bool (false)]) (by simp [results, Tryz.results91, go_sem, q0, q1, q2, q3, q4, q5, q6, q7]) rfl ?_
  exact HV.out ⟨0, 0, 0, ct, tg, un, rt, nm⟩ _ (by simp [k1, k2, k5, k3, k4]) (by simp [k1, k2, k5, k3, k4]) _ BY.out
end Go.Proofs.YtnkiokaeooopgaaGreat
