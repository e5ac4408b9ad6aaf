/- Texts in a slice. Plain. No program is in sight. -/
import Derived.Test.YtophfeapmmfppaaSeq
namespace Ks
open Go Go.RowKit
set_option linter.unusedVariables false
def strE : Enc ByteArray := ⟨1, fun s => [.string s], fun _ => rfl, fun x u hu => by simp only [List.mem_singleton] at hu; subst hu; rfl, by decide⟩
theorem Rd.str {w : World} {a : Option Addr} {n c : Nat} {l : List ByteArray} (h : Rd strE w (.slice a n c) l) (i : Nat) (hi : i < l.length) : ∃ b o, a = some ⟨b, o, none⟩ ∧ b < w.heap.size ∧ w.cell? ⟨b, o + i, none⟩ = some (.string l[i]) := by
  obtain ⟨b, o, h1, h2, h3⟩ := h.at i l[i] (List.getElem?_eq_getElem hi)
  refine ⟨b, o, h1, h2, ?_⟩
  have := h3 0 (.string l[i]) rfl
  simpa [strE] using this
/-- texts, one behind the other -/
def joinL (l : List ByteArray) : List UInt8 := l.flatMap fun s => s.data.toList
theorem joinL_take (l : List ByteArray) (k : Nat) (h : k < l.length) : joinL (l.take (k + 1)) = joinL (l.take k) ++ l[k].data.toList := by
  rw [joinL, List.take_succ_eq_append_getElem h, List.flatMap_append]; simp [joinL]
theorem joinL_append (a b : List ByteArray) : joinL (a ++ b) = joinL a ++ joinL b := by simp [joinL]
theorem joinL_le (l : List ByteArray) (k : Nat) : (joinL (l.take k)).length ≤ (joinL l).length := by
  have : joinL l = joinL (l.take k) ++ joinL (l.drop k) := by rw [← joinL_append, List.take_append_drop]
  rw [this, List.length_append]; omega
end Ks
