/- The law CellBack: what its walk gives. -/
import Derived.Test.YtcfjfnnmfdfmaaaAlive12
import Derived.Test.YtcfjfnnmfdfmaaaCellBackPlain
import Derived.Test.YtcfjfnnmfdfmaaaCellKind
import Derived.Test.YtcfjfnnmfdfmaaaCellHold
namespace Go.Proofs.Ytcfjfnnmfdfmaaa
open Go.RowKit Ks
set_option linter.unusedVariables false

theorem back1 (e s l : Int) (g : Bool) (t : ByteArray) :
    (cellE e s l g t = 0 ∧ takeV (cellS e s l g t) = .agg #[.int .i64 e, .int .i64 s, .int .i64 l, .bool g, .string t] ∧ takeE (cellS e s l g t) = 0 ∧ (cellS e s l g t).size = 4096) ∨ cellE e s l g t = 2 := by
  by_cases h : cellOk e s l g t = true
  · obtain ⟨_, q1, q2, _⟩ := take_cell e s l g t h
    exact Or.inl ⟨by rw [cellE, if_pos h], q1, q2, cell_size e s l g t h⟩
  · exact Or.inr (by rw [cellE, if_neg h])
theorem back2 (x : ByteArray) : (holdE x = 0 ∧ heldS (holdS x) = x ∧ heldE (holdS x) = 0 ∧ (holdS x).size = 4096) ∨ holdE x = 2 := by
  by_cases h : holdOk x = true
  · obtain ⟨q1, q2, q3⟩ := held_hold x h
    exact Or.inl ⟨by rw [holdE, if_pos h], q1, q2, q3⟩
  · exact Or.inr (by rw [holdE, if_neg h])
theorem back3 (b : ByteArray) : ∃ (v0 v1 v2 : Int) (v3 : Bool) (v4 : ByteArray), takeV b = .agg #[.int .i64 v0, .int .i64 v1, .int .i64 v2, .bool v3, .string v4] ∧ ((takeE b = 0 ∧ cellS v0 v1 v2 v3 v4 = b ∧ cellE v0 v1 v2 v3 v4 = 0) ∨ takeE b = 3) := by
  by_cases h : takeOk b = true
  · obtain ⟨q1, q2⟩ := take_agg b h
    obtain ⟨r1, r2, r3⟩ := take_back b h
    exact ⟨_, _, _, _, _, q1, Or.inl ⟨q2, r2, r3⟩⟩
  · obtain ⟨q1, q2⟩ := take_noagg b h
    exact ⟨_, _, _, _, _, q1, Or.inr q2⟩
theorem back4 (b : ByteArray) : (heldE b = 0 ∧ holdS (heldS b) = b ∧ holdE (heldS b) = 0) ∨ heldE b = 3 := by
  by_cases h : heldOk b = true
  · obtain ⟨r1, r2, r3, r4⟩ := held_back b h
    exact Or.inl ⟨by rw [heldE, if_pos h], by rw [r1]; exact r3, by rw [r1]; exact r4⟩
  · exact Or.inr (by rw [heldE, if_neg h])

set_option maxHeartbeats 4000000 in
set_option maxRecDepth 100000 in
theorem law_back (e s l : Int) (g : Bool) (t x b : ByteArray) (w : World) :
    Calls Try.prog 4 #[.agg #[.int .i64 e, .int .i64 s, .int .i64 l, .bool g, .string t], .string x, .string b] w fun en w' => en = .returned (.bool true) ∧ Below w.heap.size w w' := by
  refine calls_by fun R HR => ?_
  have hA : Below w.heap.size w (w.alloc (.cells #[.int .i64 e, .int .i64 s, .int .i64 l, .bool g, .string t] 23)) := (Below.refl _ _).alloc (Nat.le_refl _) _
  by_cases h1 : (10000 : Int) < t.size
  · go_enter Try.func4, Try.ntmps4
    go_wp2_with fail
    refine (alive_any _).mono ?_
    rintro en w1 ⟨rfl, hb1⟩
    go_wp2
    exact HR.out _ _ ⟨rfl, hA.trans (hb1.mono hA.size)⟩
  by_cases h2 : (10000 : Int) < x.size
  · go_enter Try.func4, Try.ntmps4
    go_wp2_with fail
    refine (alive_any _).mono ?_
    rintro en w1 ⟨rfl, hb1⟩
    go_wp2
    exact HR.out _ _ ⟨rfl, hA.trans (hb1.mono hA.size)⟩
  by_cases h3 : (10000 : Int) < b.size
  · go_enter Try.func4, Try.ntmps4
    go_wp2_with fail
    refine (alive_any _).mono ?_
    rintro en w1 ⟨rfl, hb1⟩
    go_wp2
    exact HR.out _ _ ⟨rfl, hA.trans (hb1.mono hA.size)⟩
  have hbz : b.size ≤ 9223372036854775807 := by omega
  have blk0 : (w.alloc (.cells #[.int .i64 e, .int .i64 s, .int .i64 l, .bool g, .string t] 23)).heap[w.heap.size]? = some (.cells #[.int .i64 e, .int .i64 s, .int .i64 l, .bool g, .string t] 23 (0, 0)) := heap_alloc_new w _
  have hz0 : w.heap.size < (w.alloc (.cells #[.int .i64 e, .int .i64 s, .int .i64 l, .bool g, .string t] 23)).heap.size := by simp
  obtain ⟨v0, v1, v2, v3, v4, hv, h34⟩ := back3 b
  rcases back1 e s l g t with ⟨a1, a2, a3, a4⟩ | a1 <;> rcases back2 x with ⟨c1, c2, c3, c4⟩ | c1 <;> rcases h34 with ⟨d1, d2, d3⟩ | d1 <;> rcases back4 b with ⟨f1, f2, f3⟩ | f1
  all_goals first
  | (
    have A1 := Lib.hid a1
    have C1 := Lib.hid c1
    have D1 := Lib.hid d1
    have F1 := Lib.hid f1
    have HV := Lib.hid hv
    clear a1 c1 d1 f1 hv
    try have A2 := Lib.hid a2
    try have A3 := Lib.hid a3
    try have C2 := Lib.hid c2
    try have C3 := Lib.hid c3
    try have D2 := Lib.hid d2
    try have D3 := Lib.hid d3
    try have F2 := Lib.hid f2
    try have F3 := Lib.hid f3
    try clear a2 a3
    try clear c2 c3
    try clear d2 d3
    try clear f2 f3
    go_enter Try.func4, Try.ntmps4
    go_wp2_with fail
    refine (cput_any _ _ _ _ _ _).mono ?_
    rintro en w1 ⟨rfl, hb1⟩
    have blk1 := blk_next hb1 hz0 blk0
    have hz1 := Nat.lt_of_lt_of_le hz0 hb1.size
    have hB1 := hA.trans (hb1.mono hA.size)
    clear blk0 hz0 hb1 hA h1 h2 h3
    rw [A1.out]
    go_wp2_with fail
    first
    | (refine (ctake_any _ _ (by omega)).mono ?_
       rintro en w2 ⟨rfl, hb2⟩
       rw [A2.out, A3.out]
       have blk2 := blk_next hb2 hz1 blk1
       have hz2 := Nat.lt_of_lt_of_le hz1 hb2.size
       have hB2 := (hB1.trans (hb2.mono hB1.size))
       obtain ⟨z0, z1, z2, z3, z4⟩ := cells5 blk2
       clear blk1 hz1 hb2 hB1
       go_wp2_with fail
       refine (hold_any _ _).mono ?_
       rintro en w3 ⟨rfl, hb3⟩
       have hB3 := (hB2.alloc hB2.size _).trans (hb3.mono (by have := hB2.size; simp; omega))
       clear hb3 hB2 z0 z1 z2 z3 z4 blk2 hz2)
    | (refine (hold_any _ _).mono ?_
       rintro en w3 ⟨rfl, hb3⟩
       have hB3 := hB1.trans (hb3.mono hB1.size)
       clear hb3 hB1)
    rw [C1.out]
    go_wp2_with fail
    first
    | (refine (held_any (holdS x) _ (by omega)).mono ?_
       rintro en w4 ⟨rfl, hb4⟩
       rw [C2.out, C3.out]
       have hB4 := hB3.trans (hb4.mono hB3.size)
       clear hb4 hB3
       go_wp2_with fail
       refine (ctake_any b _ hbz).mono ?_
       rintro en w5 ⟨rfl, hb5⟩
       have hB5 := hB4.trans (hb5.mono hB4.size)
       clear hb5 hB4)
    | (refine (ctake_any b _ hbz).mono ?_
       rintro en w5 ⟨rfl, hb5⟩
       have hB5 := hB3.trans (hb5.mono hB3.size)
       clear hb5 hB3)
    rw [HV.out, D1.out]
    go_wp2_with fail
    first
    | (refine (cput_any _ _ _ _ _ _).mono ?_
       rintro en w6 ⟨rfl, hb6⟩
       rw [D2.out, D3.out]
       have hB6 := (hB5.alloc hB5.size _).trans (hb6.mono (by have := hB5.size; simp; omega))
       clear hb6 hB5
       go_wp2_with fail
       refine (held_any b _ hbz).mono ?_
       rintro en w7 ⟨rfl, hb7⟩
       have hB7 := hB6.trans (hb7.mono hB6.size)
       clear hb7 hB6)
    | (refine (held_any b _ hbz).mono ?_
       rintro en w7 ⟨rfl, hb7⟩
       have hB7 := (hB5.alloc hB5.size _).trans (hb7.mono (by have := hB5.size; simp; omega))
       clear hb7 hB5)
    rw [F1.out]
    go_wp2_with fail
    first
    | (refine (hold_any _ _).mono ?_
       rintro en w8 ⟨rfl, hb8⟩
       rw [F2.out, F3.out]
       have hB8 := hB7.trans (hb8.mono hB7.size)
       clear hb8 hB7
       go_wp2_with fail
       refine (alive_any _).mono ?_
       rintro en w9 ⟨rfl, hb9⟩
       have hB9 := hB8.trans (hb9.mono hB8.size)
       clear hb9 hB8)
    | (refine (alive_any _).mono ?_
       rintro en w9 ⟨rfl, hb9⟩
       have hB9 := hB7.trans (hb9.mono hB7.size)
       clear hb9 hB7)
    go_wp2
    exact HR.out _ _ ⟨rfl, hB9⟩)
  | (trace_state; fail)

end Go.Proofs.Ytcfjfnnmfdfmaaa
