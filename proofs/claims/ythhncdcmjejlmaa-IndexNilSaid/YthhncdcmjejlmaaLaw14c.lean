/- The law IndexNil: what its walk gives. -/
import Derived.Test.YthhncdcmjejlmaaIdxOf
namespace Go.Proofs.Ythhncdcmjejlmaa
open Go.RowKit Ks
set_option linter.unusedVariables false

theorem epoch_dead (nv : Value) (ep : Int) (w : World) (h : Dead w 46 nv) :
    Calls Try.prog 20 #[nv, .int .i64 ep] w fun e w' => e = .returned (.slice none 0 0) ∧ Below w.heap.size w w' := by
  refine calls_by fun R HR => ?_
  go_enter Try.func20, Try.ntmps20
  go_wp2_with fail
  refine (all_dead nv _ h).mono ?_
  rintro e w1 ⟨rfl, rfl⟩
  clear h
  go_wp2
  go_loopg [12, 5] 0 (fun g i r wr => i = .int .i64 0 ∧ r = .slice none 0 0 ∧ wr = w1)
  case atStart => exact ⟨rfl, rfl, rfl⟩
  case round =>
    obtain ⟨rfl, rfl, rfl⟩ := hrel
    go_wp2
    exact HR.out _ _ ⟨rfl, Below.refl _ _⟩

set_option maxHeartbeats 4000000 in
set_option maxRecDepth 100000 in
theorem law_nil (a b c : Int) (there : Bool) (w : World) :
    Calls Try.prog 6 #[.agg #[.int .i64 a, .int .i64 b, .int .i64 c], .bool there] w fun e w' => e = .returned (.bool true) ∧ Below w.heap.size w w' := by
  refine calls_by fun R HR => ?_
  obtain ⟨W1, hW1⟩ : ∃ W1, w.alloc (.cells #[.int .i64 a, .int .i64 b, .int .i64 c] 27) = W1 := ⟨_, rfl⟩
  have hb1 : Below w.heap.size w W1 := by rw [← hW1]; exact alloc_below w _
  have k1 : W1.heap[w.heap.size]? = some (.cells #[.int .i64 a, .int .i64 b, .int .i64 c] 27 (0, 0)) := by rw [← hW1]; exact alloc_new w _
  cases there
  case false =>
    have hb0 := hb1
    have k0 := k1
    have hd0 : Dead W1 46 (.pointer none) := Or.inl rfl
    clear hb1 k1
    obtain ⟨x0, x1, x2, -, -, -⟩ := blk3 k0
    have H0 := Lib.hid (And.intro hb0 (And.intro k0 hd0))
    clear hb0 k0 hd0
    go_enter Try.func6, Try.ntmps6
    go_wp2_with fail
    refine (newest_dead (.pointer none) a b _ H0.out.2.2).mono ?_
    rintro e w1 ⟨rfl, hb1⟩
    have hA1 := alloc_below w1 (.cells #[.int .i64 0, .int .i64 0, .int .i64 0] 27)
    have kA1 := alloc_new w1 (.cells #[.int .i64 0, .int .i64 0, .int .i64 0] 27)
    obtain ⟨w2, hw2⟩ : ∃ w2, w1.alloc (.cells #[.int .i64 0, .int .i64 0, .int .i64 0] 27) = w2 := ⟨_, rfl⟩
    rw [hw2] at hA1 kA1
    have hB1 := hb1.trans (hA1.mono hb1.size)
    have k2 := (hB1.block _ (lt_of_block H0.out.2.1)).trans H0.out.2.1
    have H2 := Lib.hid (And.intro (H0.out.1.trans (hB1.mono H0.out.1.size)) (And.intro k2 (And.intro (H0.out.2.2.keep hB1) kA1)))
    clear hb1 hA1 kA1 hB1 x0 x1 x2
    obtain ⟨x0, x1, x2, -, -, -⟩ := blk3 k2
    clear k2
    rw [show optV none = .tuple #[.agg #[.int .i64 0, .int .i64 0, .int .i64 0], .bool false] from rfl]
    have HW2 := Lib.hid hw2
    have x0' : (w1.alloc (.cells #[.int .i64 0, .int .i64 0, .int .i64 0] 27)).cell? ⟨w.heap.size, 0, none⟩ = some (.int .i64 a) := by rw [hw2]; exact x0
    have x1' : (w1.alloc (.cells #[.int .i64 0, .int .i64 0, .int .i64 0] 27)).cell? ⟨w.heap.size, 1, none⟩ = some (.int .i64 b) := by rw [hw2]; exact x1
    clear hw2 x0 x1 x2
    go_wp2_with fail
    rw [HW2.out]
    refine (of_dead (.pointer none) a b _ H2.out.2.2.1).mono ?_
    rintro e w3 ⟨rfl, hb3⟩
    rw [show optV none = .tuple #[.agg #[.int .i64 0, .int .i64 0, .int .i64 0], .bool false] from rfl]
    obtain ⟨w4, hw4⟩ : ∃ w4, w3.alloc (.cells #[.int .i64 0, .int .i64 0, .int .i64 0] 27) = w4 := ⟨_, rfl⟩
    have hb4 : Below w3.heap.size w3 w4 := by rw [← hw4]; exact alloc_below w3 _
    have k4 : w4.heap[w3.heap.size]? = some (.cells #[.int .i64 0, .int .i64 0, .int .i64 0] 27 (0, 0)) := by rw [← hw4]; exact alloc_new w3 _
    have hB4 := hb3.trans (hb4.mono hb3.size)
    have k2 := (hB4.block _ (lt_of_block H2.out.2.1)).trans H2.out.2.1
    have k3 := (hB4.block _ (lt_of_block H2.out.2.2.2)).trans H2.out.2.2.2
    have hd4 := H2.out.2.2.1.keep hB4
    have H4 := Lib.hid (And.intro (H2.out.1.trans (hB4.mono H2.out.1.size)) hd4)
    have HW4 := Lib.hid hw4
    obtain ⟨x0, x1, x2, -, -, -⟩ := blk3 k2
    obtain ⟨y0, y1, y2, -, -, -⟩ := blk3 k3
    obtain ⟨z0, z1, z2, -, -, -⟩ := blk3 k4
    have x0' := after_cell x0
    have x1' := after_cell x1
    have x2' := after_cell x2
    have y0' := after_cell y0
    have y1' := after_cell y1
    have y2' := after_cell y2
    have z0' := after_cell z0
    have z1' := after_cell z1
    have z2' := after_cell z2
    have cA := fun q => calls_after (add_dead (.pointer none) (a, b, c) (After w4 q) (hd4.keep (after_below w4 q)))
    have cB := fun q => calls_after ((all_dead (.pointer none) (After w4 q) (hd4.keep (after_below w4 q))).mono fun e w' ⟨h1, h2⟩ => ⟨h1, by rw [h2]; exact Below.refl _ _⟩)
    have cC := fun q => calls_after (epoch_dead (.pointer none) b (After w4 q) (hd4.keep (after_below w4 q)))
    have cD := fun q => calls_after (places_dead (.pointer none) (After w4 q) (hd4.keep (after_below w4 q)))
    have cE := fun q => calls_after ((copy_dead (.pointer none) (After w4 q) (hd4.keep (after_below w4 q))).mono fun e w' ⟨h1, h2⟩ => ⟨h1, by rw [h2]; exact Below.refl _ _⟩)
    have cF := fun q => calls_after (alive_any (After w4 q))
    clear hb3 hb4 k4 hB4 k2 k3 hd4 hw4 x0 x1 x2 y0 y1 y2 z0 z1 z2
    go_wp2_with fail
    rw [HW4.out]
    refine wp_region_after (by kernel_rfl) (by kernel_rfl) ?_
    repeat (quiet_step (first | exact cA _ | exact cB _ | exact cC _ | exact cD _ | exact cE _ | exact cF _))
    refine wpQuiet_nil ?_
    rintro w5 ⟨q, rfl⟩
    have hb5 := after_below w4 q
    generalize After w4 q = w5 at *
    clear x0' x1' x2' y0' y1' y2' z0' z1' z2' cA cB cC cD cE cF
    go_wp2
    exact HR.out _ _ ⟨rfl, H4.out.1.trans (hb5.mono H4.out.1.size)⟩
  case true =>
    obtain ⟨W2, hW2⟩ : ∃ W2, W1.alloc (.cells #[.bool false, .slice none 0 0] 46) = W2 := ⟨_, rfl⟩
    have hb2 : Below W1.heap.size W1 W2 := by rw [← hW2]; exact alloc_below W1 _
    have hb0 := hb1.trans (hb2.mono hb1.size)
    have k0 := (hb2.block _ (lt_of_block k1)).trans k1
    have hd0 : Dead W2 46 (.pointer (some ⟨W1.heap.size, 0, none⟩)) := Or.inr ⟨_, rfl, by rw [← hW2]; exact alloc_new W1 _⟩
    clear hb1 k1 hb2
    obtain ⟨x0, x1, x2, -, -, -⟩ := blk3 k0
    have H0 := Lib.hid (And.intro hb0 (And.intro k0 hd0))
    clear hb0 k0 hd0
    go_enter Try.func6, Try.ntmps6
    go_wp2_with fail
    refine (newest_dead (.pointer (some ⟨W1.heap.size, 0, none⟩)) a b _ H0.out.2.2).mono ?_
    rintro e w1 ⟨rfl, hb1⟩
    have hA1 := alloc_below w1 (.cells #[.int .i64 0, .int .i64 0, .int .i64 0] 27)
    have kA1 := alloc_new w1 (.cells #[.int .i64 0, .int .i64 0, .int .i64 0] 27)
    obtain ⟨w2, hw2⟩ : ∃ w2, w1.alloc (.cells #[.int .i64 0, .int .i64 0, .int .i64 0] 27) = w2 := ⟨_, rfl⟩
    rw [hw2] at hA1 kA1
    have hB1 := hb1.trans (hA1.mono hb1.size)
    have k2 := (hB1.block _ (lt_of_block H0.out.2.1)).trans H0.out.2.1
    have H2 := Lib.hid (And.intro (H0.out.1.trans (hB1.mono H0.out.1.size)) (And.intro k2 (And.intro (H0.out.2.2.keep hB1) kA1)))
    clear hb1 hA1 kA1 hB1 x0 x1 x2
    obtain ⟨x0, x1, x2, -, -, -⟩ := blk3 k2
    clear k2
    rw [show optV none = .tuple #[.agg #[.int .i64 0, .int .i64 0, .int .i64 0], .bool false] from rfl]
    have HW2 := Lib.hid hw2
    have x0' : (w1.alloc (.cells #[.int .i64 0, .int .i64 0, .int .i64 0] 27)).cell? ⟨w.heap.size, 0, none⟩ = some (.int .i64 a) := by rw [hw2]; exact x0
    have x1' : (w1.alloc (.cells #[.int .i64 0, .int .i64 0, .int .i64 0] 27)).cell? ⟨w.heap.size, 1, none⟩ = some (.int .i64 b) := by rw [hw2]; exact x1
    clear hw2 x0 x1 x2
    go_wp2_with fail
    rw [HW2.out]
    refine (of_dead (.pointer (some ⟨W1.heap.size, 0, none⟩)) a b _ H2.out.2.2.1).mono ?_
    rintro e w3 ⟨rfl, hb3⟩
    rw [show optV none = .tuple #[.agg #[.int .i64 0, .int .i64 0, .int .i64 0], .bool false] from rfl]
    obtain ⟨w4, hw4⟩ : ∃ w4, w3.alloc (.cells #[.int .i64 0, .int .i64 0, .int .i64 0] 27) = w4 := ⟨_, rfl⟩
    have hb4 : Below w3.heap.size w3 w4 := by rw [← hw4]; exact alloc_below w3 _
    have k4 : w4.heap[w3.heap.size]? = some (.cells #[.int .i64 0, .int .i64 0, .int .i64 0] 27 (0, 0)) := by rw [← hw4]; exact alloc_new w3 _
    have hB4 := hb3.trans (hb4.mono hb3.size)
    have k2 := (hB4.block _ (lt_of_block H2.out.2.1)).trans H2.out.2.1
    have k3 := (hB4.block _ (lt_of_block H2.out.2.2.2)).trans H2.out.2.2.2
    have hd4 := H2.out.2.2.1.keep hB4
    have H4 := Lib.hid (And.intro (H2.out.1.trans (hB4.mono H2.out.1.size)) hd4)
    have HW4 := Lib.hid hw4
    obtain ⟨x0, x1, x2, -, -, -⟩ := blk3 k2
    obtain ⟨y0, y1, y2, -, -, -⟩ := blk3 k3
    obtain ⟨z0, z1, z2, -, -, -⟩ := blk3 k4
    have x0' := after_cell x0
    have x1' := after_cell x1
    have x2' := after_cell x2
    have y0' := after_cell y0
    have y1' := after_cell y1
    have y2' := after_cell y2
    have z0' := after_cell z0
    have z1' := after_cell z1
    have z2' := after_cell z2
    have cA := fun q => calls_after (add_dead (.pointer (some ⟨W1.heap.size, 0, none⟩)) (a, b, c) (After w4 q) (hd4.keep (after_below w4 q)))
    have cB := fun q => calls_after ((all_dead (.pointer (some ⟨W1.heap.size, 0, none⟩)) (After w4 q) (hd4.keep (after_below w4 q))).mono fun e w' ⟨h1, h2⟩ => ⟨h1, by rw [h2]; exact Below.refl _ _⟩)
    have cC := fun q => calls_after (epoch_dead (.pointer (some ⟨W1.heap.size, 0, none⟩)) b (After w4 q) (hd4.keep (after_below w4 q)))
    have cD := fun q => calls_after (places_dead (.pointer (some ⟨W1.heap.size, 0, none⟩)) (After w4 q) (hd4.keep (after_below w4 q)))
    have cE := fun q => calls_after ((copy_dead (.pointer (some ⟨W1.heap.size, 0, none⟩)) (After w4 q) (hd4.keep (after_below w4 q))).mono fun e w' ⟨h1, h2⟩ => ⟨h1, by rw [h2]; exact Below.refl _ _⟩)
    have cF := fun q => calls_after (alive_any (After w4 q))
    clear hb3 hb4 k4 hB4 k2 k3 hd4 hw4 x0 x1 x2 y0 y1 y2 z0 z1 z2
    go_wp2_with fail
    rw [HW4.out]
    refine wp_region_after (by kernel_rfl) (by kernel_rfl) ?_
    repeat (quiet_step (first | exact cA _ | exact cB _ | exact cC _ | exact cD _ | exact cE _ | exact cF _))
    refine wpQuiet_nil ?_
    rintro w5 ⟨q, rfl⟩
    have hb5 := after_below w4 q
    generalize After w4 q = w5 at *
    clear x0' x1' x2' y0' y1' y2' z0' z1' z2' cA cB cC cD cE cF
    go_wp2
    exact HR.out _ _ ⟨rfl, H4.out.1.trans (hb5.mono H4.out.1.size)⟩

end Go.Proofs.Ythhncdcmjejlmaa
