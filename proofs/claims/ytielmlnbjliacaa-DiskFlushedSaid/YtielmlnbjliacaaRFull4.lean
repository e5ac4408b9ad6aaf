/- A text as a block: its first bytes, and noughts behind. -/
import Derived.Test.YtielmlnbjliacaaOctetNoughts
import Derived.Test.YtielmlnbjliacaaTextPlain
namespace Go.Proofs.Ytielmlnbjliacaa
open Go.RowKit Ks
set_option linter.unusedVariables false

/-- a text as a block -/
def full4 (s : ByteArray) : ByteArray := if 4096 < s.size then s.extract 0 4096 else s ++ zerosS (4096 - s.size)
set_option maxHeartbeats 1000000 in
theorem full4_any (t : ByteArray) (w : World) : Calls Try.prog 29 #[.string t] w fun e w' => e = .returned (.string (full4 t)) ∧ Below w.heap.size w w' := by
  refine calls_by fun R HR => ?_
  by_cases h : 4096 < t.size
  · have HV := Lib.hid (show full4 t = t.extract 0 4096 by rw [full4, if_pos h])
    have hi : (4096 : Int) < (t.size : Int) := by omega
    clear h
    go_enter Try.func29, Try.ntmps29
    go_wp2
    exact HR.out _ _ ⟨by rw [HV.out] <;> rfl, Below.refl _ _⟩
  · have HV := Lib.hid (show full4 t = t ++ zerosS (4096 - t.size) by rw [full4, if_neg h])
    have hi : ¬ (4096 : Int) < (t.size : Int) := by omega
    have HC : Hid (∀ w, Calls Try.prog 31 #[.int .i64 (4096 - t.size)] w fun e w' => e = .returned (.string (zerosS (4096 - t.size))) ∧ Below w.heap.size w w') := Lib.hid fun w => noughts_any _ w (by omega)
    have hcat : t.size + (zerosS (4096 - t.size)).size ≤ 9223372036854775807 := by
      have := zerosS_size (4096 - t.size)
      rw [show (((4096 - t.size : Nat)) : Int) = 4096 - (t.size : Int) by omega] at this
      omega
    generalize zerosS (4096 - t.size) = Z at *
    clear h
    go_enter Try.func29, Try.ntmps29
    go_wp2_with fail
    refine (HC.out _).mono ?_
    rintro e w1 ⟨rfl, hb⟩
    go_wp2
    exact HR.out _ _ ⟨by rw [HV.out] <;> rfl, hb⟩
end Go.Proofs.Ytielmlnbjliacaa
