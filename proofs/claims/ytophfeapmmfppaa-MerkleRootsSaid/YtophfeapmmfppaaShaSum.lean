/- A sum as a string: of one text, of two, of none. -/
import Derived.Test.YtophfeapmmfppaaShaSumV
import Derived.Test.YtophfeapmmfppaaShaRSum
namespace Ks
open Go Go.RowKit
set_option linter.unusedVariables false
/-- a text's sum, as a string -/
def shaS (l : List UInt8) : ByteArray := ⟨(shaL l).toArray⟩
theorem shaS_eq (l : List UInt8) : (⟨(shaL l).toArray⟩ : ByteArray) = shaS l := rfl
theorem shaS_data (l : List UInt8) : (shaS l).data.toList = shaL l := rfl
theorem shaS_size (l : List UInt8) : (shaS l).size = 32 := by show (shaL l).toArray.size = 32; simp [shaL_length]
theorem join_one (s : ByteArray) : joinL [s] = s.data.toList := by simp [joinL]
theorem join_two (s t : ByteArray) : joinL [s, t] = s.data.toList ++ t.data.toList := by simp [joinL]
theorem Rd.one (w : World) (s : ByteArray) (T : TypeId) : Rd strE (w.alloc (.cells #[.string s] T)) (.slice (some ⟨w.heap.size, 0, none⟩) 1 1) [s] :=
  Rd.single s (alloc_new w _) rfl
end Ks
namespace Go.Proofs.Ytophfeapmmfppaa
open Go.RowKit Ks
set_option linter.unusedVariables false
/-- the sum of one text, that lies in a new block -/
theorem sum1_any (s : ByteArray) (T : TypeId) (w : World) (h : s.size ≤ 50000000000) :
    Calls Try.prog 13 #[.slice (some ⟨w.heap.size, 0, none⟩) 1 1] (w.alloc (.cells #[.string s] T)) fun e w' => e = .returned (.string (shaS s.data.toList)) ∧ Below w.heap.size w w' :=
  (sumv_any [s] _ _ (Rd.one w s T) (by rw [join_one, data_length]; exact h) (by simp)).mono fun e w' ⟨h1, h2⟩ => ⟨by rw [h1, join_one, shaS_eq], (alloc_below w _).trans (h2.mono (by simp))⟩
theorem sum2_any (s t : ByteArray) (T : TypeId) (w : World) (h : s.size ≤ 10000000000) (h2 : t.size ≤ 10000000000) :
    Calls Try.prog 13 #[.slice (some ⟨w.heap.size, 0, none⟩) 2 2] (w.alloc (.cells #[.string s, .string t] T)) fun e w' => e = .returned (.string (shaS (s.data.toList ++ t.data.toList))) ∧ Below w.heap.size w w' :=
  (sumv_any [s, t] _ _ (Rd.block (alloc_new w _) rfl) (by rw [join_two, List.length_append, data_length, data_length]; omega) (by simp)).mono fun e w' ⟨h1, h2⟩ => ⟨by rw [h1, join_two, shaS_eq], (alloc_below w _).trans (h2.mono (by simp))⟩
theorem sum0_any (w : World) : Calls Try.prog 13 #[.slice none 0 0] w fun e w' => e = .returned (.string (shaS [])) ∧ Below w.heap.size w w' :=
  (sumv_any [] _ _ (Rd.nil w) (by decide) (by decide)).mono fun e w' ⟨h1, h2⟩ => ⟨by rw [h1]; rfl, h2⟩
theorem rsumS_any (s : ByteArray) (w : World) (h : s.size ≤ 1000000000) : Calls Try.prog 31 #[.string s] w fun e w' => e = .returned (.string (shaS s.data.toList)) ∧ Below w.heap.size w w' := rsum_any s w h
end Go.Proofs.Ytophfeapmmfppaa
