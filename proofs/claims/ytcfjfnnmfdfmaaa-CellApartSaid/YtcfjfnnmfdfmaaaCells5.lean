/- A block of five cells. -/
import Derived.Test.YtcfjfnnmfdfmaaaBlock
namespace Ks
open Go Go.RowKit
set_option linter.unusedVariables false

theorem cells5 {w : World} {b : Nat} {c0 c1 c2 c3 c4 : Value} {T : TypeId} {fr : Nat × Nat} (h : w.heap[b]? = some (.cells #[c0, c1, c2, c3, c4] T fr)) :
    w.cell? ⟨b, 0, none⟩ = some c0 ∧ w.cell? ⟨b, 1, none⟩ = some c1 ∧ w.cell? ⟨b, 2, none⟩ = some c2 ∧ w.cell? ⟨b, 3, none⟩ = some c3 ∧ w.cell? ⟨b, 4, none⟩ = some c4 := by
  refine ⟨?_, ?_, ?_, ?_, ?_⟩
  · rw [cell_of_row w b 0 _ _ _ h]; rfl
  · rw [cell_of_row w b 1 _ _ _ h]; rfl
  · rw [cell_of_row w b 2 _ _ _ h]; rfl
  · rw [cell_of_row w b 3 _ _ _ h]; rfl
  · rw [cell_of_row w b 4 _ _ _ h]; rfl

theorem blk_next {w w1 : World} {b : Nat} {o : Obj} (hb : Below w.heap.size w w1) (hlt : b < w.heap.size) (h : w.heap[b]? = some o) : w1.heap[b]? = some o := (hb.block b hlt).trans h

end Ks
