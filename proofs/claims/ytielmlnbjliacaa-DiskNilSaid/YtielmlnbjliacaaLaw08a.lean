/- The law DiskNil: what its walk gives. -/
import Derived.Test.YtielmlnbjliacaaDoes08b
import Derived.Test.YtielmlnbjliacaaDiskDead
import Derived.Test.YtielmlnbjliacaaAlive08W
import Derived.Test.YtielmlnbjliacaaLawFew08
import Derived.Test.YtielmlnbjliacaaAfter
namespace Go.Proofs.Ytielmlnbjliacaa
open Go.RowKit Ks
set_option linter.unusedVariables false
theorem dead_keep {w w' : World} {v : Value} (h : DeadDisk w v) (hb : Below w.heap.size w w') : DeadDisk w' v := by
  rcases h with h | ⟨n, h1, h2⟩
  · exact Or.inl h
  · exact Or.inr ⟨n, h1, (hb.cell (p := ⟨n, 2, none⟩) (World.block_lt_of_cell? w _ h2)).trans h2⟩

set_option maxHeartbeats 4000000 in
set_option maxRecDepth 100000 in
theorem law_dnil (kd ia ib : Int) (t : ByteArray) (raw : Bool) (ka : Option Addr) (kn kc : Nat) (there : Bool) (w : World) :
    Calls Try.prog 5 #[.agg #[.int .i64 kd, .int .i64 ia, .int .i64 ib, .string t, .bool raw, .slice ka kn kc], .bool there] w fun e w' => e = .returned (.bool true) ∧ Below w.heap.size w w' := by
  refine calls_by fun R HR => ?_
  obtain ⟨W1, hW1⟩ : ∃ W1, w.alloc (.cells #[.int .i64 kd, .int .i64 ia, .int .i64 ib, .string t, .bool raw, .slice ka kn kc] 33) = W1 := ⟨_, rfl⟩
  have hb1 : Below w.heap.size w W1 := by rw [← hW1]; exact alloc_below w _
  have k1 : W1.heap[w.heap.size]? = some (.cells #[.int .i64 kd, .int .i64 ia, .int .i64 ib, .string t, .bool raw, .slice ka kn kc] 33 (0, 0)) := by rw [← hW1]; exact alloc_new w _
  have H1 := Lib.hid (And.intro hb1 k1)
  obtain ⟨c0, c1, c2, c3, c4, c5⟩ := blk6 k1
  clear hb1 k1
  go_enter Try.func5, Try.ntmps5
  go_wp2_with fail
  have hbA := alloc_below W1 (.cells #[.int .i64 kd, .int .i64 ia, .int .i64 ib, .string t, .bool raw, .slice ka kn kc] 33)
  refine (lfew_any _ [(kd, ia, ib, t, raw, ka, kn, kc)] _ (Rd.single (E := acE) (kd, ia, ib, t, raw, ka, kn, kc) (alloc_new _ _) rfl) (by simp [maxLen])).mono ?_
  rintro e w2 ⟨b, rfl, -, hb2⟩
  have H2 := Lib.hid (And.intro (H1.out.1.trans ((hbA.trans (hb2.mono hbA.size)).mono H1.out.1.size)) (blk_on (hbA.trans (hb2.mono hbA.size)) H1.out.2))
  obtain ⟨d0, d1, d2, d3, d4, d5⟩ := blk6 H2.out.2
  clear c0 c1 c2 c3 c4 c5 hbA hb2 H1 hW1
  cases b
  · go_wp2_with fail
    refine (alive_any _).mono ?_
    rintro e w3 ⟨rfl, hb3⟩
    have H3 := Lib.hid (H2.out.1.trans (hb3.mono H2.out.1.size))
    clear hb3
    go_wp2
    exact HR.out _ _ ⟨rfl, H3.out⟩
  · have main : ∀ (v : Value) (W : World), DeadDisk W v → Below w2.heap.size w2 W → Hid (DeadDisk W v ∧ Below w.heap.size w W ∧ W.heap[w.heap.size]? = some (.cells #[.int .i64 kd, .int .i64 ia, .int .i64 ib, .string t, .bool raw, .slice ka kn kc] 33 (0, 0))) :=
      fun v W h1 h2 => Lib.hid ⟨h1, H2.out.1.trans (h2.mono H2.out.1.size), blk_on h2 H2.out.2⟩
    cases there
    case false =>
      have HD := main (.pointer none) w2 (Or.inl rfl) (Below.refl _ _)
      obtain ⟨pv, hpv⟩ : ∃ pv : Value, pv = .pointer none := ⟨_, rfl⟩
      clear main
      go_wp2_with fail
      refine (dread_no _ ia _ HD.out.1).mono ?_
      rintro e w3 ⟨rfl, rfl⟩
      have x1 := after_cell d1
      have x2 := after_cell d2
      have x5 := after_cell d5
      have x0 := after_cell d0
      have x3 := after_cell d3
      have x4 := after_cell d4
      have cT := fun q => calls_after (acttext_any ⟨kd, ia, ib, t, raw, []⟩ (.slice ka kn kc) (After w3 q))
      have cW := fun q => calls_after_same ((dwrite_no (.pointer none) ia (actText ⟨kd, ia, ib, t, raw, []⟩) (After w3 q) (dead_keep HD.out.1 (after_below w3 q))).mono fun e w' ⟨h1, h2⟩ => ⟨h1, h2.symm⟩)
      have cF := fun q => calls_after_same ((dflush_no (.pointer none) (After w3 q) (dead_keep HD.out.1 (after_below w3 q))).mono fun e w' ⟨h1, h2⟩ => ⟨h1, h2.symm⟩)
      have cA := fun q => calls_after_same ((darm_no (.pointer none) ib (After w3 q) (dead_keep HD.out.1 (after_below w3 q))).mono fun e w' ⟨h1, h2⟩ => ⟨h1, h2.symm⟩)
      have cC := fun q => calls_after_same ((dcrash_no (.pointer none) (.slice ka kn kc) (After w3 q) (dead_keep HD.out.1 (after_below w3 q))).mono fun e w' ⟨h1, h2⟩ => ⟨h1, h2.symm⟩)
      go_wp2_with fail
      refine wp_region_after (by kernel_rfl) (by kernel_rfl) ?_
      repeat (quiet_step (first | exact cT _ | exact cW _ | exact cF _ | exact cA _ | exact cC _))
      refine wpQuiet_nil ?_
      rintro w5 ⟨q, rfl⟩
      have hb5 := after_below w3 q
      have H5 := Lib.hid (And.intro (dead_keep HD.out.1 hb5) (And.intro (HD.out.2.1.trans (hb5.mono HD.out.2.1.size)) (blk_on hb5 HD.out.2.2)))
      generalize After w3 q = w5 at *
      clear hb5 x0 x1 x2 x3 x4 x5 cT cW cF cA cC d0 d1 d2 d3 d4 d5
      go_wp2_with fail
      refine (dseize_no _ w5 H5.out.1).mono ?_
      rintro e w6 ⟨rfl, hb6⟩
      obtain ⟨W7, hW7⟩ : ∃ W7, w6.alloc (.cells #[.slice none 0 0, .slice none 0 0] 40) = W7 := ⟨_, rfl⟩
      have hb7 : Below w6.heap.size w6 W7 := by rw [← hW7]; exact alloc_below w6 _
      have hk7 : W7.heap[w6.heap.size]? = some (.cells #[.slice none 0 0, .slice none 0 0] 40 (0, 0)) := by rw [← hW7]; exact alloc_new w6 _
      have hb57 := hb6.trans (hb7.mono hb6.size)
      have H7 := Lib.hid (And.intro (dead_keep H5.out.1 hb57) (And.intro (H5.out.2.1.trans (hb57.mono H5.out.2.1.size)) (And.intro (blk_on hb57 H5.out.2.2) hk7)))
      have HW7 := Lib.hid hW7
      clear hb6 hb7 hk7 hb57 hW7
      obtain ⟨d0, d1, d2, d3, d4, d5⟩ := blk6 H7.out.2.2.1
      obtain ⟨g0, g1, -, -⟩ := blk2 H7.out.2.2.2
      have x1 := after_cell d1
      have x2 := after_cell d2
      have x5 := after_cell d5
      have x0 := after_cell d0
      have x3 := after_cell d3
      have x4 := after_cell d4
      have y0 := after_cell g0
      have y1 := after_cell g1
      have cT := fun q => calls_after (acttext_any ⟨kd, ia, ib, t, raw, []⟩ (.slice ka kn kc) (After W7 q))
      have cW := fun q => calls_after_same ((dboot_no (.pointer none) (After W7 q) (dead_keep H7.out.1 (after_below W7 q))).mono fun e w' ⟨h1, h2⟩ => ⟨h1, h2.symm⟩)
      have cF := fun q => calls_after_same ((dover_no (.pointer none) ia (actText ⟨kd, ia, ib, t, raw, []⟩) (After W7 q) (dead_keep H7.out.1 (after_below W7 q))).mono fun e w' ⟨h1, h2⟩ => ⟨h1, h2.symm⟩)
      have cA := fun q => calls_after_same ((dsize_no (.pointer none) (After W7 q) (dead_keep H7.out.1 (after_below W7 q))).mono fun e w' ⟨h1, h2⟩ => ⟨h1, h2.symm⟩)
      have cC := fun q => calls_after_same ((ddown_no (.pointer none) (After W7 q) (dead_keep H7.out.1 (after_below W7 q))).mono fun e w' ⟨h1, h2⟩ => ⟨h1, h2.symm⟩)
      have cL := fun q => calls_after (alive_any (After W7 q))
      go_wp2_with fail
      rw [HW7.out]
      refine wp_region_after (by kernel_rfl) (by kernel_rfl) ?_
      repeat (quiet_step (first | exact cT _ | exact cW _ | exact cF _ | exact cA _ | exact cC _ | exact cL _))
      refine wpQuiet_nil ?_
      rintro w8 ⟨q, rfl⟩
      have hb8 := after_below W7 q
      have H8 := Lib.hid (H7.out.2.1.trans (hb8.mono H7.out.2.1.size))
      generalize After W7 q = w8 at *
      clear hb8 x0 x1 x2 x3 x4 x5 y0 y1 cT cW cF cA cC cL
      go_wp2
      exact HR.out _ _ ⟨rfl, H8.out⟩
    case true =>
      obtain ⟨W3, hW3⟩ : ∃ W3, w2.alloc (.cells #[.slice none 0 0, .slice none 0 0, .bool false, .bool false, .int .i64 0] 48) = W3 := ⟨_, rfl⟩
      have hk3 : W3.heap[w2.heap.size]? = some (.cells #[.slice none 0 0, .slice none 0 0, .bool false, .bool false, .int .i64 0] 48 (0, 0)) := by rw [← hW3]; exact alloc_new w2 _
      have HD := main (.pointer (some ⟨w2.heap.size, 0, none⟩)) W3 (Or.inr ⟨_, rfl, by rw [cell_of_row W3 _ 2 _ _ _ hk3]; rfl⟩) (by rw [← hW3]; exact alloc_below w2 _)
      clear main hk3 d0 d1 d2 d3 d4 d5
      obtain ⟨d0, d1, d2, d3, d4, d5⟩ := blk6 HD.out.2.2
      go_wp2_with fail
      refine (dread_no _ ia _ HD.out.1).mono ?_
      rintro e w3 ⟨rfl, rfl⟩
      have x1 := after_cell d1
      have x2 := after_cell d2
      have x5 := after_cell d5
      have x0 := after_cell d0
      have x3 := after_cell d3
      have x4 := after_cell d4
      have cT := fun q => calls_after (acttext_any ⟨kd, ia, ib, t, raw, []⟩ (.slice ka kn kc) (After w3 q))
      have cW := fun q => calls_after_same ((dwrite_no (.pointer (some ⟨w2.heap.size, 0, none⟩)) ia (actText ⟨kd, ia, ib, t, raw, []⟩) (After w3 q) (dead_keep HD.out.1 (after_below w3 q))).mono fun e w' ⟨h1, h2⟩ => ⟨h1, h2.symm⟩)
      have cF := fun q => calls_after_same ((dflush_no (.pointer (some ⟨w2.heap.size, 0, none⟩)) (After w3 q) (dead_keep HD.out.1 (after_below w3 q))).mono fun e w' ⟨h1, h2⟩ => ⟨h1, h2.symm⟩)
      have cA := fun q => calls_after_same ((darm_no (.pointer (some ⟨w2.heap.size, 0, none⟩)) ib (After w3 q) (dead_keep HD.out.1 (after_below w3 q))).mono fun e w' ⟨h1, h2⟩ => ⟨h1, h2.symm⟩)
      have cC := fun q => calls_after_same ((dcrash_no (.pointer (some ⟨w2.heap.size, 0, none⟩)) (.slice ka kn kc) (After w3 q) (dead_keep HD.out.1 (after_below w3 q))).mono fun e w' ⟨h1, h2⟩ => ⟨h1, h2.symm⟩)
      go_wp2_with fail
      refine wp_region_after (by kernel_rfl) (by kernel_rfl) ?_
      repeat (quiet_step (first | exact cT _ | exact cW _ | exact cF _ | exact cA _ | exact cC _))
      refine wpQuiet_nil ?_
      rintro w5 ⟨q, rfl⟩
      have hb5 := after_below w3 q
      have H5 := Lib.hid (And.intro (dead_keep HD.out.1 hb5) (And.intro (HD.out.2.1.trans (hb5.mono HD.out.2.1.size)) (blk_on hb5 HD.out.2.2)))
      generalize After w3 q = w5 at *
      clear hb5 x0 x1 x2 x3 x4 x5 cT cW cF cA cC d0 d1 d2 d3 d4 d5
      go_wp2_with fail
      refine (dseize_no _ w5 H5.out.1).mono ?_
      rintro e w6 ⟨rfl, hb6⟩
      obtain ⟨W7, hW7⟩ : ∃ W7, w6.alloc (.cells #[.slice none 0 0, .slice none 0 0] 40) = W7 := ⟨_, rfl⟩
      have hb7 : Below w6.heap.size w6 W7 := by rw [← hW7]; exact alloc_below w6 _
      have hk7 : W7.heap[w6.heap.size]? = some (.cells #[.slice none 0 0, .slice none 0 0] 40 (0, 0)) := by rw [← hW7]; exact alloc_new w6 _
      have hb57 := hb6.trans (hb7.mono hb6.size)
      have H7 := Lib.hid (And.intro (dead_keep H5.out.1 hb57) (And.intro (H5.out.2.1.trans (hb57.mono H5.out.2.1.size)) (And.intro (blk_on hb57 H5.out.2.2) hk7)))
      have HW7 := Lib.hid hW7
      clear hb6 hb7 hk7 hb57 hW7
      obtain ⟨d0, d1, d2, d3, d4, d5⟩ := blk6 H7.out.2.2.1
      obtain ⟨g0, g1, -, -⟩ := blk2 H7.out.2.2.2
      have x1 := after_cell d1
      have x2 := after_cell d2
      have x5 := after_cell d5
      have x0 := after_cell d0
      have x3 := after_cell d3
      have x4 := after_cell d4
      have y0 := after_cell g0
      have y1 := after_cell g1
      have cT := fun q => calls_after (acttext_any ⟨kd, ia, ib, t, raw, []⟩ (.slice ka kn kc) (After W7 q))
      have cW := fun q => calls_after_same ((dboot_no (.pointer (some ⟨w2.heap.size, 0, none⟩)) (After W7 q) (dead_keep H7.out.1 (after_below W7 q))).mono fun e w' ⟨h1, h2⟩ => ⟨h1, h2.symm⟩)
      have cF := fun q => calls_after_same ((dover_no (.pointer (some ⟨w2.heap.size, 0, none⟩)) ia (actText ⟨kd, ia, ib, t, raw, []⟩) (After W7 q) (dead_keep H7.out.1 (after_below W7 q))).mono fun e w' ⟨h1, h2⟩ => ⟨h1, h2.symm⟩)
      have cA := fun q => calls_after_same ((dsize_no (.pointer (some ⟨w2.heap.size, 0, none⟩)) (After W7 q) (dead_keep H7.out.1 (after_below W7 q))).mono fun e w' ⟨h1, h2⟩ => ⟨h1, h2.symm⟩)
      have cC := fun q => calls_after_same ((ddown_no (.pointer (some ⟨w2.heap.size, 0, none⟩)) (After W7 q) (dead_keep H7.out.1 (after_below W7 q))).mono fun e w' ⟨h1, h2⟩ => ⟨h1, h2.symm⟩)
      have cL := fun q => calls_after (alive_any (After W7 q))
      go_wp2_with fail
      rw [HW7.out]
      refine wp_region_after (by kernel_rfl) (by kernel_rfl) ?_
      repeat (quiet_step (first | exact cT _ | exact cW _ | exact cF _ | exact cA _ | exact cC _ | exact cL _))
      refine wpQuiet_nil ?_
      rintro w8 ⟨q, rfl⟩
      have hb8 := after_below W7 q
      have H8 := Lib.hid (H7.out.2.1.trans (hb8.mono H7.out.2.1.size))
      generalize After W7 q = w8 at *
      clear hb8 x0 x1 x2 x3 x4 x5 y0 y1 cT cW cF cA cC cL
      go_wp2
      exact HR.out _ _ ⟨rfl, H8.out⟩
end Go.Proofs.Ytielmlnbjliacaa
