/- The law CellTakes: what its walk gives. -/
import Derived.Test.YtcfjfnnmfdfmaaaAlive12
import Derived.Test.YtcfjfnnmfdfmaaaCellKind
namespace Go.Proofs.Ytcfjfnnmfdfmaaa
open Go.RowKit Ks
set_option linter.unusedVariables false

set_option maxHeartbeats 2000000 in
set_option maxRecDepth 100000 in
theorem law_takes (b : ByteArray) (w : World) (hbz : b.size ≤ 9223372036854775807) :
    Calls Try.prog 5 #[.string b] w fun en w' => en = .returned (.bool true) ∧ Below w.heap.size w w' := by
  refine calls_by fun R HR => ?_
  by_cases h1 : (10000 : Int) < b.size
  · go_enter Try.func5, Try.ntmps5
    go_wp2_with fail
    refine (alive_any _).mono ?_
    rintro en w1 ⟨rfl, hb1⟩
    go_wp2
    exact HR.out _ _ ⟨rfl, hb1⟩
  obtain ⟨v0, v1, v2, v3, v4, hv⟩ : ∃ (v0 v1 v2 : Int) (v3 : Bool) (v4 : ByteArray), takeV b = .agg #[.int .i64 v0, .int .i64 v1, .int .i64 v2, .bool v3, .string v4] := by
    by_cases ht : takeOk b = true
    · exact ⟨_, _, _, _, _, (take_agg b ht).1⟩
    · exact ⟨_, _, _, _, _, (take_noagg b ht).1⟩
  have hcase : takeE b = 0 ∧ takeOk b = true ∨ takeE b = 3 ∧ takeOk b = false := by
    by_cases ht : takeOk b = true
    · exact Or.inl ⟨(take_agg b ht).2, ht⟩
    · exact Or.inr ⟨(take_noagg b ht).2, by simpa using ht⟩
  rcases hcase with ⟨a1, a2⟩ | ⟨a1, a2⟩ <;> rcases heldE_of b with ⟨b1, b2⟩ | ⟨b1, b2⟩
  all_goals first
  | (
    have A1 := Lib.hid a1
    have A2 := Lib.hid a2
    have B1 := Lib.hid b1
    have B2 := Lib.hid b2
    have HV := Lib.hid hv
    clear a1 a2 b1 b2 hv
    go_enter Try.func5, Try.ntmps5
    go_wp2_with fail
    refine (ctake_any b _ hbz).mono ?_
    rintro en w1 ⟨rfl, hb1⟩
    rw [HV.out, A1.out]
    go_wp2_with fail
    refine (crtake_any b _).mono ?_
    rintro en w2 ⟨rfl, hb2⟩
    rw [HV.out, A2.out]
    go_wp2_with fail
    refine (held_any b _ hbz).mono ?_
    rintro en w3 ⟨rfl, hb3⟩
    rw [B1.out]
    go_wp2_with fail
    refine (rheld_any b _).mono ?_
    rintro en w4 ⟨rfl, hb4⟩
    rw [B2.out]
    have hA2 : Below w1.heap.size w1 w2 := ((Below.refl _ _).alloc (Nat.le_refl _) _).trans (hb2.mono (by simp))
    have blkA := blk_next hb2 (by simp) (heap_alloc_new w1 _)
    have hzA : w1.heap.size < w2.heap.size := by have := hb2.size; simp at this; omega
    have hA3 : Below w2.heap.size w2 w3 := ((Below.refl _ _).alloc (Nat.le_refl _) _).trans (hb3.mono (by simp))
    have hA4 := hA3.trans (hb4.mono hA3.size)
    have blkB := blk_next hb4 (by have := hb3.size; simp at this; omega) (blk_next hb3 (by simp) (heap_alloc_new w2 _))
    have blkA4 := blk_next hA4 hzA blkA
    have hB2 := hb1.trans (hA2.mono hb1.size)
    have hB4 := hB2.trans (hA4.mono hB2.size)
    obtain ⟨z0, z1, z2, z3, z4⟩ := cells5 blkA4
    obtain ⟨y0, y1, y2, y3, y4⟩ := cells5 blkB
    clear hA2 hA3 hA4 blkA blkB blkA4 hb1 hb2 hb3 hb4 hB2 h1 hzA HV A1 A2 B1 B2
    go_wp2_with fail
    refine (kind_any b _ hbz).mono ?_
    rintro en w5 ⟨rfl, hb5⟩
    go_wp2_with fail
    refine (rkind_any b _ hbz).mono ?_
    rintro en w6 ⟨rfl, hb6⟩
    go_wp2_with fail
    refine (alive_any _).mono ?_
    rintro en w7 ⟨rfl, hb7⟩
    go_wp2
    have hB5 := hB4.trans (hb5.mono hB4.size)
    have hB6 := hB5.trans (hb6.mono hB5.size)
    exact HR.out _ _ ⟨rfl, hB6.trans (hb7.mono hB6.size)⟩)
  | (trace_state; fail)

end Go.Proofs.Ytcfjfnnmfdfmaaa
