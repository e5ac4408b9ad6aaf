/- The law CellApart: what its walk gives. -/
import Derived.Test.YtcfjfnnmfdfmaaaAlive12
import Derived.Test.YtcfjfnnmfdfmaaaAfter
import Derived.Test.YtcfjfnnmfdfmaaaCellBackPlain
import Derived.Test.YtcfjfnnmfdfmaaaCellKind
import Derived.Test.YtcfjfnnmfdfmaaaCellHold
namespace Go.Proofs.Ytcfjfnnmfdfmaaa
open Go.RowKit Ks
set_option linter.unusedVariables false

theorem apart1 (e s l : Int) (g : Bool) (t : ByteArray) :
    (cellE e s l g t = 0 ∧ ∃ S, cellS e s l true ⟨#[]⟩ = S ∧ cellE e s l true ⟨#[]⟩ = 0 ∧ takeV S = .agg #[.int .i64 e, .int .i64 s, .int .i64 l, .bool true, .string ⟨#[]⟩] ∧ takeE S = 0 ∧ S.size = 4096 ∧ S.extract 17 4096 = zerosS 4079 ∧ kindOf S = 2) ∨ cellE e s l g t = 2 := by
  by_cases h : cellOk e s l g t = true
  · obtain ⟨h1, h2⟩ := left_cell e s l g t h
    obtain ⟨q0, q1, q2, q3⟩ := take_cell e s l true ⟨#[]⟩ h1
    refine Or.inl ⟨by rw [cellE, if_pos h], _, rfl, by rw [cellE, if_pos h1], q1, q2, cell_size _ _ _ _ _ h1, h2, ?_⟩
    rw [kindOf, if_pos q0, if_pos q3]
  · exact Or.inr (by rw [cellE, if_neg h])
theorem apart2 (b : ByteArray) : ∃ (v0 v1 v2 : Int) (v3 : Bool) (v4 : ByteArray), takeV b = .agg #[.int .i64 v0, .int .i64 v1, .int .i64 v2, .bool v3, .string v4] ∧ ((takeE b = 0 ∧ heldE b = 3) ∨ (takeE b = 3 ∧ heldE b = 0) ∨ (takeE b = 3 ∧ heldE b = 3)) := by
  by_cases h : takeOk b = true
  · obtain ⟨q1, q2⟩ := take_agg b h
    have h2 := not_both b h
    exact ⟨_, _, _, _, _, q1, Or.inl ⟨q2, by rw [heldE, if_neg (by rw [h2]; simp)]⟩⟩
  · obtain ⟨q1, q2⟩ := take_noagg b h
    rcases heldE_of b with ⟨r1, _⟩ | ⟨r1, _⟩
    · exact ⟨_, _, _, _, _, q1, Or.inr (Or.inl ⟨q2, r1⟩)⟩
    · exact ⟨_, _, _, _, _, q1, Or.inr (Or.inr ⟨q2, r1⟩)⟩

set_option maxHeartbeats 4000000 in
set_option maxRecDepth 100000 in
theorem law_apart (e s l : Int) (g : Bool) (t b : ByteArray) (w : World) :
    Calls Try.prog 6 #[.agg #[.int .i64 e, .int .i64 s, .int .i64 l, .bool g, .string t], .string b] w fun en w' => en = .returned (.bool true) ∧ Below w.heap.size w w' := by
  refine calls_by fun R HR => ?_
  have hA : Below w.heap.size w (w.alloc (.cells #[.int .i64 e, .int .i64 s, .int .i64 l, .bool g, .string t] 23)) := (Below.refl _ _).alloc (Nat.le_refl _) _
  by_cases h1 : (10000 : Int) < t.size
  · go_enter Try.func6, Try.ntmps6
    go_wp2_with fail
    refine (alive_any _).mono ?_
    rintro en w1 ⟨rfl, hb1⟩
    go_wp2
    exact HR.out _ _ ⟨rfl, hA.trans (hb1.mono hA.size)⟩
  by_cases h2 : (10000 : Int) < b.size
  · go_enter Try.func6, Try.ntmps6
    go_wp2_with fail
    refine (alive_any _).mono ?_
    rintro en w1 ⟨rfl, hb1⟩
    go_wp2
    exact HR.out _ _ ⟨rfl, hA.trans (hb1.mono hA.size)⟩
  have hbz : b.size ≤ 9223372036854775807 := by omega
  have blk0 : (w.alloc (.cells #[.int .i64 e, .int .i64 s, .int .i64 l, .bool g, .string t] 23)).heap[w.heap.size]? = some (.cells #[.int .i64 e, .int .i64 s, .int .i64 l, .bool g, .string t] 23 (0, 0)) := heap_alloc_new w _
  have hz0 : w.heap.size < (w.alloc (.cells #[.int .i64 e, .int .i64 s, .int .i64 l, .bool g, .string t] 23)).heap.size := by simp
  obtain ⟨v0, v1, v2, v3, v4, hv, h34⟩ := apart2 b
  rcases apart1 e s l g t with ⟨a1, S, a2, a3, a4, a5, a6, a7, a8⟩ | a1 <;> rcases h34 with ⟨d1, d2⟩ | ⟨d1, d2⟩ | ⟨d1, d2⟩
  all_goals first
  | (
    have A1 := Lib.hid a1
    have D1 := Lib.hid d1
    have D2 := Lib.hid d2
    have HV := Lib.hid hv
    clear a1 d1 d2 hv
    try have A2 := Lib.hid a2
    try have A3 := Lib.hid a3
    try have A4 := Lib.hid a4
    try have A5 := Lib.hid a5
    try have A7 := Lib.hid a7
    try have A8 := Lib.hid a8
    try clear a2 a3 a4 a5 a7 a8
    go_enter Try.func6, Try.ntmps6
    go_wp2_with fail
    refine (ctake_any b _ hbz).mono ?_
    rintro en w1 ⟨rfl, hb1⟩
    have blk1 := blk_next hb1 hz0 blk0
    have hz1 := Nat.lt_of_lt_of_le hz0 hb1.size
    have hB1 := hA.trans (hb1.mono hA.size)
    clear blk0 hz0 hb1 hA h1 h2
    rw [HV.out, D1.out]
    go_wp2_with fail
    refine (held_any b _ hbz).mono ?_
    rintro en w2 ⟨rfl, hb2⟩
    rw [D2.out]
    have hA2 : Below w1.heap.size w1 w2 := ((Below.refl _ _).alloc (Nat.le_refl _) _).trans (hb2.mono (by simp))
    have blk2 := blk_next hA2 hz1 blk1
    have hz2 := Nat.lt_of_lt_of_le hz1 hA2.size
    have hB2 := hB1.trans (hA2.mono hB1.size)
    clear blk1 hz1 hb2 hA2 hB1
    obtain ⟨z0, z1, z2, z3, z4⟩ := cells5 blk2
    go_wp2_with fail
    refine (check_any _ _ _ _ _ _).mono ?_
    rintro en w3 ⟨rfl, hb3⟩
    rw [A1.out]
    have blk3 := blk_next hb3 hz2 blk2
    have hz3 := Nat.lt_of_lt_of_le hz2 hb3.size
    have hB3 := hB2.trans (hb3.mono hB2.size)
    clear blk2 hz2 hb3 hB2 z0 z1 z2 z3 z4
    obtain ⟨z0, z1, z2, z3, z4⟩ := cells5 blk3
    go_wp2_with fail
    first
    | (refine (alive_any _).mono ?_
       rintro en w4 ⟨rfl, hb4⟩
       have hB4 := hB3.trans (hb4.mono hB3.size)
       go_wp2
       exact HR.out _ _ ⟨rfl, hB4⟩)
    | (refine (left_any _ _ _ _ _ _).mono ?_
       rintro en w4 ⟨rfl, hb4⟩
       go_wp2_with fail
       refine (cput_any _ _ _ _ _ _).mono ?_
       rintro en w5 ⟨rfl, hb5⟩
       rw [A2.out, A3.out]
       go_wp2_with fail
       refine (ctake_any S _ (by omega)).mono ?_
       rintro en w6 ⟨rfl, hb6⟩
       rw [A4.out, A5.out]
       have hb45 := hb4.trans (hb5.mono hb4.size)
       have hb46 := hb45.trans (hb6.mono hb45.size)
       have hAl : Below w6.heap.size w6 (w6.alloc (.cells #[.int .i64 e, .int .i64 s, .int .i64 l, .bool true, .string ⟨#[]⟩] 23)) := (Below.refl _ _).alloc (Nat.le_refl _) _
       have hb47 := hb46.trans (hAl.mono hb46.size)
       have blk7 := blk_next hb47 hz3 blk3
       have hB7 := hB3.trans (hb47.mono hB3.size)
       have blkD : (w6.alloc (.cells #[.int .i64 e, .int .i64 s, .int .i64 l, .bool true, .string ⟨#[]⟩] 23)).heap[w6.heap.size]? = _ := heap_alloc_new w6 _
       clear hb4 hb5 hb6 hb45 hb46 hAl hb47 blk3 hz3 hB3 z0 z1 z2 z3 z4
       go_wp2_with fail
       generalize w6.alloc (.cells #[.int .i64 e, .int .i64 s, .int .i64 l, .bool true, .string ⟨#[]⟩] 23) = w7 at *
       obtain ⟨z0, z1, z2, z3, z4⟩ := cells5 blk7
       obtain ⟨y0, y1, y2, y3, y4⟩ := cells5 blkD
       have k0 := fun p => after_cell z0 p
       have k1 := fun p => after_cell z1 p
       have k2 := fun p => after_cell z2 p
       have m0 := fun p => after_cell y0 p
       have m1 := fun p => after_cell y1 p
       have m2 := fun p => after_cell y2 p
       have m3 := fun p => after_cell y3 p
       clear z0 z1 z2 z3 z4 y0 y1 y2 y3 y4 blk7 blkD
       have hs17 : 17 ≤ S.size := by omega
       have hsI : (S.size : Int) = 4096 := by omega
       have cN := fun p => calls_after (noughts_any 4079 (After w7 p) (by omega))
       have cK : ∀ p, Calls Try.prog 18 #[.string S] (After w7 p) fun en w' => en = .returned (.int .i64 2) ∧ ∃ p : Regrown, w' = After w7 p := fun p => by have := calls_after (kind_any S (After w7 p) (by omega)); rw [A8.out] at this; exact this
       have cA : ∀ p, Calls Try.prog 7 #[] (After w7 p) fun en w' => en = .returned (.bool true) ∧ ∃ p : Regrown, w' = After w7 p := fun p => calls_after (alive_any _)
       have hT : ((S.extract 17 4096).toList == (zerosS 4079).toList) = true := by rw [A7.out]; exact beq_self_eq_true _
       refine wp_region_after (by kernel_rfl) (by kernel_rfl) ?_
       repeat (quiet_step (first | exact cN _ | exact cK _ | exact cA _))
       refine wpQuiet_nil ?_
       rintro w8 ⟨p, rfl⟩
       have hb8 := after_below w7 p
       generalize After w7 p = w8 at *
       clear k0 k1 k2 m0 m1 m2 m3 cN cK cA
       go_wp2
       exact HR.out _ _ ⟨rfl, hB7.trans (hb8.mono hB7.size)⟩))
  | (trace_state; fail)

end Go.Proofs.Ytcfjfnnmfdfmaaa
