/- What kind any bytes are: cell.Kind and the reference's Kind. -/
import Derived.Test.YtcfjfnnmfdfmaaaCellTake
import Derived.Test.YtcfjfnnmfdfmaaaCellRTake
import Derived.Test.YtcfjfnnmfdfmaaaCellHeld
import Derived.Test.YtcfjfnnmfdfmaaaOctetNoughts
import Derived.Test.YtcfjfnnmfdfmaaaOctetFillP
import Derived.Test.YtcfjfnnmfdfmaaaCells5
namespace Go.Proofs.Ytcfjfnnmfdfmaaa
open Go.RowKit Ks
set_option linter.unusedVariables false

def kindOf (b : ByteArray) : Int := if takeOk b then (if takeG b then 2 else 1) else if heldOk b then 3 else if b.toList == (zerosS 4096).toList then 0 else -1
theorem take_agg (b : ByteArray) (h : takeOk b = true) : takeV b = .agg #[.int .i64 (numAt b 1 4), .int .i64 (numAt b 5 4), .int .i64 (numAt b 9 4), .bool (takeG b), .string (takeT b)] ∧ takeE b = 0 := take_yes b h
theorem take_noagg (b : ByteArray) (h : ¬ takeOk b = true) : takeV b = .agg #[.int .i64 0, .int .i64 0, .int .i64 0, .bool false, .string ⟨#[]⟩] ∧ takeE b = 3 := take_no b h
theorem heldE_of (b : ByteArray) : heldE b = 0 ∧ heldOk b = true ∨ heldE b = 3 ∧ heldOk b = false := by
  cases h : heldOk b with
  | true => left; exact ⟨by rw [heldE, if_pos h], rfl⟩
  | false => right; exact ⟨by rw [heldE, if_neg (by rw [h]; simp)], rfl⟩

theorem nil_eq (b : ByteArray) (h : ¬ takeOk b = true) (h2 : heldOk b = false) : (b.toList == (zerosS 4096).toList) = true ∧ kindOf b = 0 ∨ (b.toList == (zerosS 4096).toList) = false ∧ kindOf b = -1 := by
  cases hz : (b.toList == (zerosS 4096).toList) with
  | true => left; exact ⟨rfl, by rw [kindOf, if_neg h, if_neg (by rw [h2]; simp), if_pos hz]⟩
  | false => right; exact ⟨rfl, by rw [kindOf, if_neg h, if_neg (by rw [h2]; simp), if_neg (by rw [hz]; simp)]⟩

set_option maxHeartbeats 1000000 in
theorem kind_any (b : ByteArray) (w : World) (hbz : b.size ≤ 9223372036854775807) :
    Calls Try.prog 18 #[.string b] w fun en w' => en = .returned (.int .i64 (kindOf b)) ∧ Below w.heap.size w w' := by
  refine calls_by fun R HR => ?_
  by_cases ht : takeOk b = true
  · obtain ⟨q1, q2⟩ := take_agg b ht
    have Q := Lib.hid (show kindOf b = if takeG b then 2 else 1 by rw [kindOf, if_pos ht])
    clear ht
    go_enter Try.func18, Try.ntmps18
    go_wp2_with fail
    refine (ctake_any b _ hbz).mono ?_
    rintro en w1 ⟨rfl, hb1⟩
    rw [q1, q2]
    go_wp2_with fail
    refine (held_any b _ hbz).mono ?_
    rintro en w2 ⟨rfl, hb2⟩
    have hA2 : Below w1.heap.size w1 w2 := ((Below.refl _ _).alloc (Nat.le_refl _) _).trans (hb2.mono (by simp))
    have blk := blk_next hb2 (by simp) (heap_alloc_new w1 _)
    have hB2 := hb1.trans (hA2.mono hb1.size)
    obtain ⟨z0, z1, z2, z3, z4⟩ := cells5 blk
    clear blk hA2 hb2 hb1 q1 q2 hbz
    generalize takeG b = g at *
    cases g
    all_goals
      go_wp2
      refine HR.out _ _ ⟨by rw [Q.out]; rfl, hB2⟩
  · obtain ⟨q1, q2⟩ := take_noagg b ht
    have Ht := Lib.hid ht
    clear ht
    go_enter Try.func18, Try.ntmps18
    go_wp2_with fail
    refine (ctake_any b _ hbz).mono ?_
    rintro en w1 ⟨rfl, hb1⟩
    rw [q1, q2]
    go_wp2_with fail
    refine (held_any b _ hbz).mono ?_
    rintro en w2 ⟨rfl, hb2⟩
    have hA2 : Below w1.heap.size w1 w2 := ((Below.refl _ _).alloc (Nat.le_refl _) _).trans (hb2.mono (by simp))
    have hB2 := hb1.trans (hA2.mono hb1.size)
    clear hA2 hb2 hb1 q1 q2 hbz
    rcases heldE_of b with ⟨r1, r2⟩ | ⟨r1, r2⟩
    · have Q := Lib.hid (show kindOf b = 3 by rw [kindOf, if_neg Ht.out, if_pos r2])
      rw [r1]
      clear r1 r2
      go_wp2
      refine HR.out _ _ ⟨by rw [Q.out]; rfl, hB2⟩
    · rcases nil_eq b Ht.out r2 with ⟨n1, n2⟩ | ⟨n1, n2⟩
      all_goals
        have Q := Lib.hid n2
        rw [r1]
        clear r1 r2 n2
        go_wp2_with fail
        refine (Try.strings_Repeat ⟨#[0]⟩ 4096 _ (by decide) (by decide)).mono ?_
        rintro en w3 ⟨rfl, hb3⟩
        rw [repeat_zeros, show ((4096 : Nat) : Int) = 4096 from rfl]
        generalize zerosS 4096 = Z at *
        go_wp2
        refine HR.out _ _ ⟨by rw [Q.out]; rfl, hB2.trans (hb3.mono hB2.size)⟩

set_option maxHeartbeats 1000000 in
theorem rkind_any (b : ByteArray) (w : World) (hbz : b.size ≤ 9223372036854775807) :
    Calls Try.prog 19 #[.string b] w fun en w' => en = .returned (.int .i64 (kindOf b)) ∧ Below w.heap.size w w' := by
  refine calls_by fun R HR => ?_
  by_cases ht : takeOk b = true
  · obtain ⟨q1, q2⟩ := take_agg b ht
    have Q := Lib.hid (show kindOf b = if takeG b then 2 else 1 by rw [kindOf, if_pos ht])
    go_enter Try.func19, Try.ntmps19
    go_wp2_with fail
    refine (crtake_any b _).mono ?_
    rintro en w1 ⟨rfl, hb1⟩
    rw [q1, ht]
    generalize takeG b = g at *
    clear ht
    cases g
    all_goals
      go_wp2
      refine HR.out _ _ ⟨by rw [Q.out]; rfl, hb1.trans (((Below.refl w1.heap.size w1).alloc (Nat.le_refl _) _).mono hb1.size)⟩
  · obtain ⟨q1, q2⟩ := take_noagg b ht
    have Ht := Lib.hid ht
    have h0 : takeOk b = false := by simpa using ht
    go_enter Try.func19, Try.ntmps19
    go_wp2_with fail
    refine (crtake_any b _).mono ?_
    rintro en w1 ⟨rfl, hb1⟩
    rw [q1, h0]
    clear ht h0
    go_wp2_with fail
    refine (rheld_any b _).mono ?_
    rintro en w2 ⟨rfl, hb2⟩
    have hA2 : Below w1.heap.size w1 w2 := ((Below.refl _ _).alloc (Nat.le_refl _) _).trans (hb2.mono (by simp))
    have hB2 := hb1.trans (hA2.mono hb1.size)
    clear hA2 hb2 hb1 q1 q2 hbz
    cases hh : heldOk b
    · rcases nil_eq b Ht.out hh with ⟨n1, n2⟩ | ⟨n1, n2⟩
      all_goals
        have Q := Lib.hid n2
        clear n2 hh
        go_wp2_with fail
        refine (noughts_any 4096 _ (by omega)).mono ?_
        rintro en w3 ⟨rfl, hb3⟩
        generalize zerosS 4096 = Z at *
        go_wp2
        refine HR.out _ _ ⟨by rw [Q.out]; rfl, hB2.trans (hb3.mono hB2.size)⟩
    · have Q := Lib.hid (show kindOf b = 3 by rw [kindOf, if_neg Ht.out, if_pos hh])
      clear hh
      go_wp2
      refine HR.out _ _ ⟨by rw [Q.out]; rfl, hB2⟩

end Go.Proofs.Ytcfjfnnmfdfmaaa
