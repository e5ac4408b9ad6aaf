/- Numbers in a slice. Plain. -/
import Derived.Test.YtedjngljblhmpaaSeqObj
namespace Ks
open Go Go.RowKit
set_option linter.unusedVariables false
def numE : Enc Int := ⟨1, fun x => [.int .i64 x], fun _ => rfl, fun x u hu => by simp only [List.mem_cons, List.not_mem_nil, or_false] at hu; rcases hu with rfl; rfl, by decide⟩
theorem rdI_num {w : World} {v : Value} {l : List Int} (h : Rd numE w v l) (hr : ∀ x ∈ l, -9223372036854775808 ≤ x ∧ x ≤ 9223372036854775807) : RdI w v l := by
  obtain ⟨a, cap, rfl, hc, hn, hh⟩ := h
  refine ⟨a, cap, rfl, hc, fun i x hx => ?_⟩
  obtain ⟨b, o, rfl, hb, hcell⟩ := hh i x hx
  have h0 := hcell 0 _ rfl
  refine ⟨⟨b, o, rfl, hb, ?_⟩, hr x (List.mem_of_getElem? hx)⟩
  have e : o + i * numE.k + 0 = o + i := by show o + i * 1 + 0 = _; omega
  rw [e] at h0; exact h0
end Ks
