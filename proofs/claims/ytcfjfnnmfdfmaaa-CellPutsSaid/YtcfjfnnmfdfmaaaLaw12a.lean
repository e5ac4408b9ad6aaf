/- The law CellPuts: what its walk gives. -/
import Derived.Test.YtcfjfnnmfdfmaaaAlive12
import Derived.Test.YtcfjfnnmfdfmaaaCells5
import Derived.Test.YtcfjfnnmfdfmaaaAfter
import Derived.Test.YtcfjfnnmfdfmaaaCellRPut
import Derived.Test.YtcfjfnnmfdfmaaaCellHold
namespace Go.Proofs.Ytcfjfnnmfdfmaaa
open Go.RowKit Ks
set_option linter.unusedVariables false

theorem cellE_of (e s l : Int) (g : Bool) (t : ByteArray) : cellE e s l g t = 0 ∧ cellOk e s l g t = true ∨ cellE e s l g t = 2 ∧ cellOk e s l g t = false := by
  cases h : cellOk e s l g t with
  | true => left; exact ⟨by rw [cellE, if_pos h], rfl⟩
  | false => right; exact ⟨by rw [cellE, if_neg (by rw [h]; simp)], rfl⟩
theorem holdE_of (x : ByteArray) : holdE x = 0 ∧ holdOk x = true ∨ holdE x = 2 ∧ holdOk x = false := by
  cases h : holdOk x with
  | true => left; exact ⟨by rw [holdE, if_pos h], rfl⟩
  | false => right; exact ⟨by rw [holdE, if_neg (by rw [h]; simp)], rfl⟩

set_option maxHeartbeats 2000000 in
set_option maxRecDepth 100000 in
theorem law_puts (e s l : Int) (g : Bool) (t x : ByteArray) (w : World) :
    Calls Try.prog 3 #[.agg #[.int .i64 e, .int .i64 s, .int .i64 l, .bool g, .string t], .string x] w fun en w' => en = .returned (.bool true) ∧ Below w.heap.size w w' := by
  refine calls_by fun R HR => ?_
  have hA : Below w.heap.size w (w.alloc (.cells #[.int .i64 e, .int .i64 s, .int .i64 l, .bool g, .string t] 23)) := (Below.refl _ _).alloc (Nat.le_refl _) _
  by_cases h1 : (10000 : Int) < t.size
  · go_enter Try.func3, Try.ntmps3
    go_wp2_with fail
    refine (alive_any _).mono ?_
    rintro en w1 ⟨rfl, hb1⟩
    go_wp2
    exact HR.out _ _ ⟨rfl, hA.trans (hb1.mono hA.size)⟩
  by_cases h2 : (10000 : Int) < x.size
  · go_enter Try.func3, Try.ntmps3
    go_wp2_with fail
    refine (alive_any _).mono ?_
    rintro en w1 ⟨rfl, hb1⟩
    go_wp2
    exact HR.out _ _ ⟨rfl, hA.trans (hb1.mono hA.size)⟩
  have blk0 : (w.alloc (.cells #[.int .i64 e, .int .i64 s, .int .i64 l, .bool g, .string t] 23)).heap[w.heap.size]? = some (.cells #[.int .i64 e, .int .i64 s, .int .i64 l, .bool g, .string t] 23 (0, 0)) := heap_alloc_new w _
  have hz0 : w.heap.size < (w.alloc (.cells #[.int .i64 e, .int .i64 s, .int .i64 l, .bool g, .string t] 23)).heap.size := by simp
  go_enter Try.func3, Try.ntmps3
  go_wp2_with fail
  refine (cput_any _ _ _ _ _ _).mono ?_
  rintro en w1 ⟨rfl, hb1⟩
  have blk1 := blk_next hb1 hz0 blk0
  have hz1 := Nat.lt_of_lt_of_le hz0 hb1.size
  have hB1 := hA.trans (hb1.mono hA.size)
  clear blk0 hz0 hb1 hA h1 h2
  obtain ⟨z0, z1, z2, z3, z4⟩ := cells5 blk1
  go_wp2_with fail
  refine (crput_any _ _ _ _ _ _).mono ?_
  rintro en w2 ⟨rfl, hb2⟩
  go_wp2_with fail
  refine (hold_any _ _).mono ?_
  rintro en w3 ⟨rfl, hb3⟩
  go_wp2_with fail
  refine (rhold_any _ _).mono ?_
  rintro en w4 ⟨rfl, hb4⟩
  have hb13 := hb2.trans (hb3.mono hb2.size)
  have hb14 := hb13.trans (hb4.mono hb13.size)
  have blk4 := blk_next hb14 hz1 blk1
  have hz4 := Nat.lt_of_lt_of_le hz1 hb14.size
  have hB4 := hB1.trans (hb14.mono hB1.size)
  clear blk1 hz1 hb14 hb13 hb2 hb3 hb4 hB1 z0 z1 z2 z3 z4
  obtain ⟨z0, z1, z2, z3, z4⟩ := cells5 blk4
  rcases cellE_of e s l g t with ⟨a1, a2⟩ | ⟨a1, a2⟩ <;> rcases holdE_of x with ⟨b1, b2⟩ | ⟨b1, b2⟩
  all_goals first
  | (
    rw [a1, a2, b1, b2]
    have A1 := Lib.hid a1
    clear a1 a2 b1 b2
    go_wp2_with fail
    refine (check_any _ _ _ _ _ _).mono ?_
    rintro en w5 ⟨rfl, hb5⟩
    rw [A1.out]
    have hA5 : Below w4.heap.size w4 w5 := ((Below.refl _ _).alloc (Nat.le_refl _) _).trans (hb5.mono (by simp))
    have blkL := blk_next hb5 (by simp) (heap_alloc_new w4 _)
    have blk5 := blk_next hA5 hz4 blk4
    have hz5 := Nat.lt_of_lt_of_le hz4 hA5.size
    have hzL : w4.heap.size < w5.heap.size := by have := hb5.size; simp at this; omega
    have hB5 := hB4.trans (hA5.mono hB4.size)
    clear hb5 hA5 z0 z1 z2 z3 z4
    obtain ⟨z0, z1, z2, z3, z4⟩ := cells5 blk5
    obtain ⟨y0, y1, y2, y3, y4⟩ := cells5 blkL
    clear blk4 blkL blk5 hB4 A1
    go_wp2_with fail
    have cL : ∀ p, Calls Try.prog 13 #[.agg #[.int .i64 e, .int .i64 s, .int .i64 l, .bool g, .string t]] (After w5 p) fun en w' => en = .returned (.agg #[.int .i64 e, .int .i64 s, .int .i64 l, .bool true, .string ⟨#[]⟩]) ∧ ∃ p : Regrown, w' = After w5 p := fun p => calls_after (left_any e s l g t _)
    have cA : ∀ p, Calls Try.prog 7 #[] (After w5 p) fun en w' => en = .returned (.bool true) ∧ ∃ p : Regrown, w' = After w5 p := fun p => calls_after (alive_any _)
    have k0 := fun p => after_cell z0 p
    have k1 := fun p => after_cell z1 p
    have k2 := fun p => after_cell z2 p
    have k3 := fun p => after_cell z3 p
    have k4 := fun p => after_cell z4 p
    have m0 := fun p => after_cell y0 p
    have m1 := fun p => after_cell y1 p
    have m2 := fun p => after_cell y2 p
    have m3 := fun p => after_cell y3 p
    have m4 := fun p => after_cell y4 p
    refine wp_region_after (by kernel_rfl) (by kernel_rfl) ?_
    repeat (quiet_step (first | exact cL _ | exact cA _))
    refine wpQuiet_nil ?_
    rintro w6 ⟨p, rfl⟩
    have hb6 := after_below w5 p
    generalize After w5 p = w6 at *
    clear k0 k1 k2 k3 k4 m0 m1 m2 m3 m4 cL cA
    go_wp2
    exact HR.out _ _ ⟨rfl, hB5.trans (hb6.mono hB5.size)⟩)
  | (trace_state; fail)

end Go.Proofs.Ytcfjfnnmfdfmaaa
