/- The law OctetOrder: what its walk gives. -/
import Derived.Test.YtcondfgjlkgnbaaAlive01
import Derived.Test.YtcondfgjlkgnbaaOctetOrderPlain
namespace Go.Proofs.Ytcondfgjlkgnbaa
open Go.RowKit Ks
set_option linter.unusedVariables false

set_option maxHeartbeats 400000 in
theorem law_order (a b width : Int) (w : World) (ha : a ≤ 9223372036854775807) (hb : b ≤ 9223372036854775807) :
    Calls Try.prog 4 #[.int .i64 a, .int .i64 b, .int .i64 width] w fun e w' => e = .returned (.bool true) ∧ Below w.heap.size w w' := by
  refine calls_by fun R HR => ?_
  by_cases h1 : putOk a width = true
  · by_cases h2 : putOk b width = true
    · have e1 : putE a width = 0 := by rw [putE, if_pos h1]
      have e2 : putE b width = 0 := by rw [putE, if_pos h2]
      have hw := putOk_width h1
      have hw2 := putOk_width h2
      have z1 : ((putS a width).size : Int) = width := by
        rw [putS, if_pos h1]
        show (((putL width.toNat a.toNat).length : Nat) : Int) = width
        rw [putL_length]; omega
      have z2 : ((putS b width).size : Int) = width := by
        rw [putS, if_pos h2]
        show (((putL width.toNat b.toNat).length : Nat) : Int) = width
        rw [putL_length]; omega
      have t1 : (putS a width).toList = putL width.toNat a.toNat := by rw [putS, if_pos h1, ByteArray.toList_mk]
      have t2 : (putS b width).toList = putL width.toNat b.toNat := by rw [putS, if_pos h2, ByteArray.toList_mk]
      have hL : Op.bytesLess (putS a width).toList (putS b width).toList = decide (a < b) := by
        rw [t1, t2, putL_less _ _ _ (putOk_lt h1 ha) (putOk_lt h2 hb)]
        congr 1
        apply propext
        omega
      have hE : ((putS a width).toList == (putS b width).toList) = (a == b) := by
        rw [t1, t2]
        rw [Bool.eq_iff_iff, beq_iff_eq, beq_iff_eq]
        constructor
        · intro h
          have := putL_inj _ _ _ (putOk_lt h1 ha) (putOk_lt h2 hb) h
          omega
        · intro h; rw [h]
      clear h1 h2 t1 t2 hw hw2
      go_enter Try.func4, Try.ntmps4
      go_wp2_with fail
      refine (put_any _ _ _ ha).mono ?_
      rintro e w1 ⟨rfl, hb1⟩
      go_wp2_with fail
      refine (put_any _ _ _ hb).mono ?_
      rintro e w2 ⟨rfl, hb2⟩
      go_wp2_with fail
      refine (alive_any _).mono ?_
      rintro e w3 ⟨rfl, hb3⟩
      go_wp2
      have h1 := hb1.trans (hb2.mono hb1.size)
      exact HR.out _ _ ⟨rfl, h1.trans (hb3.mono h1.size)⟩
    · have e2 : putE b width = 2 := by rw [putE, if_neg h2]
      clear h1 h2
      go_enter Try.func4, Try.ntmps4
      go_wp2_with fail
      refine (put_any _ _ _ ha).mono ?_
      rintro e w1 ⟨rfl, hb1⟩
      go_wp2_with fail
      refine (put_any _ _ _ hb).mono ?_
      rintro e w2 ⟨rfl, hb2⟩
      have h1 := hb1.trans (hb2.mono hb1.size)
      go_wp2_with fail
      all_goals
        refine (alive_any _).mono ?_
        rintro e w3 ⟨rfl, hb3⟩
        go_wp2
        exact HR.out _ _ ⟨rfl, h1.trans (hb3.mono h1.size)⟩
  · have e1 : putE a width = 2 := by rw [putE, if_neg h1]
    clear h1
    go_enter Try.func4, Try.ntmps4
    go_wp2_with fail
    refine (put_any _ _ _ ha).mono ?_
    rintro e w1 ⟨rfl, hb1⟩
    go_wp2_with fail
    refine (put_any _ _ _ hb).mono ?_
    rintro e w2 ⟨rfl, hb2⟩
    have h1 := hb1.trans (hb2.mono hb1.size)
    go_wp2_with fail
    all_goals
      refine (alive_any _).mono ?_
      rintro e w3 ⟨rfl, hb3⟩
      go_wp2
      exact HR.out _ _ ⟨rfl, h1.trans (hb3.mono h1.size)⟩

end Go.Proofs.Ytcondfgjlkgnbaa
