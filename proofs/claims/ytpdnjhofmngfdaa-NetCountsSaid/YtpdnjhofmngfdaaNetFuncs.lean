/- The net's closures, and the first letter that .. -/
import Derived.Test.YtpdnjhofmngfdaaProg
import Derived.Test.YtpdnjhofmngfdaaNetBase
namespace Go.Proofs.Ytpdnjhofmngfdaa
open Go.RowKit Ks
set_option linter.unusedVariables false

theorem bad_any (t : Int) (s : ByteArray) (w : World) :
    Calls Try.prog 19 #[.agg #[.int .i64 t, .string s]] w fun e w' => e = .returned (.bool (badL (t, s))) ∧ Below w.heap.size w w' := by
  refine calls_by fun R HR => ?_
  have hA : Below w.heap.size w (w.alloc (.cells #[.int .i64 t, .string s] 24)) := (Below.refl _ _).alloc (Nat.le_refl _) _
  have hA2 : Below w.heap.size w (w.alloc (.cells #[.int .i64 t, .string s] 24)).drew := hA.drew
  have HA := Lib.hid hA
  have HA2 := Lib.hid hA2
  clear hA hA2
  by_cases h1 : t < 0
  · have Q := Lib.hid (show badL (t, s) = true by simp [badL, h1])
    go_enter Try.func19, Try.ntmps19
    go_wp2
    exact HR.out _ _ ⟨by rw [Q.out]; try rfl, by first | exact HA.out | exact HA2.out⟩
  by_cases h2 : 1 < t
  · have Q := Lib.hid (show badL (t, s) = true by simp [badL, h2])
    go_enter Try.func19, Try.ntmps19
    go_wp2
    exact HR.out _ _ ⟨by rw [Q.out]; try rfl, by first | exact HA.out | exact HA2.out⟩
  by_cases h3 : (10000 : Int) < s.size
  · have Q := Lib.hid (show badL (t, s) = true by simp only [badL, decide_eq_true_eq]; omega)
    go_enter Try.func19, Try.ntmps19
    go_wp2
    exact HR.out _ _ ⟨by rw [Q.out]; try rfl, by first | exact HA.out | exact HA2.out⟩
  · have Q := Lib.hid (show badL (t, s) = false by simp only [badL, decide_eq_false_iff_not]; omega)
    go_enter Try.func19, Try.ntmps19
    go_wp2
    exact HR.out _ _ ⟨by rw [Q.out]; try rfl, by first | exact HA.out | exact HA2.out⟩

theorem to_any (t : Int) (s : ByteArray) (b : Nat) (to : Int) (w : World) (hb : w.cell? ⟨b, 0, none⟩ = some (.int .i64 to)) :
    Calls Try.prog 23 #[.agg #[.int .i64 t, .string s], .pointer (some ⟨b, 0, none⟩)] w fun e w' => e = .returned (.bool (t == to)) ∧ Below w.heap.size w w' := by
  refine calls_by fun R HR => ?_
  have hA : Below w.heap.size w (w.alloc (.cells #[.int .i64 t, .string s] 24)) := (Below.refl _ _).alloc (Nat.le_refl _) _
  have hlt := World.block_lt_of_cell? _ _ hb
  simp only at hlt
  go_enter Try.func23, Try.ntmps23
  go_wp2
  exact HR.out _ _ ⟨rfl, hA⟩

end Go.Proofs.Ytpdnjhofmngfdaa
