/- The chapter's examples. -/
import Derived.Test.YtcondfgjlkgnbaaOctetText
namespace Go.Proofs.Ytcondfgjlkgnbaa
open Go.RowKit Ks
set_option linter.unusedVariables false

theorem alive_put : putS 258 3 = ⟨#[0, 1, 2]⟩ ∧ putE 258 3 = 0 := by decide +kernel
theorem alive_get : getV ⟨#[1, 0]⟩ = 256 ∧ getE ⟨#[1, 0]⟩ = 0 := by decide +kernel
theorem alive_text : textS ⟨#[97, 98]⟩ = ⟨#[0, 0, 0, 2, 97, 98]⟩ := by decide +kernel

set_option maxHeartbeats 400000 in
theorem alive_any (w : World) : Calls Try.prog 12 #[] w fun e w' => e = .returned (.bool true) ∧ Below w.heap.size w w' := by
  refine calls_by fun R HR => ?_
  go_enter Try.func12, Try.ntmps12
  go_wp2_with fail
  refine (put_any _ _ _ (by omega)).mono ?_
  rintro e w1 ⟨rfl, hb1⟩
  rw [alive_put.1, alive_put.2]
  go_wp2_with fail
  refine (get_any _ _).mono ?_
  rintro e w2 ⟨rfl, rfl⟩
  rw [alive_get.1, alive_get.2]
  go_wp2_with fail
  refine (text_any _ _ (by show 2 < _; omega)).mono ?_
  rintro e w3 ⟨rfl, hb3⟩
  rw [alive_text]
  go_wp2
  exact HR.out _ _ ⟨rfl, hb1.trans (hb3.mono hb1.size)⟩

end Go.Proofs.Ytcondfgjlkgnbaa
