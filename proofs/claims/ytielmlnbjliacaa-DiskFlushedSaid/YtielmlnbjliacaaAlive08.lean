/- The chapter's example. -/
import Derived.Test.YtielmlnbjliacaaDiskDead
import Derived.Test.YtielmlnbjliacaaRFull4
namespace Ks
open Go
theorem alive_plain (A B : ByteArray) (hA : A.size = 4096) (hB : B.size = 4096) :
    writeE (newD 8) 1 A = 0 ∧ writeE (writeD (newD 8) 1 A) 1 B = 0 ∧ readD (bootD (crashD (writeD (writeD (newD 8) 1 A) 1 B) [0])) 1 = (A, 0) ∧
    (bootD (crashD (writeD (writeD (newD 8) 1 A) 1 B) [0])).blocks.length = 8 ∧ (bootD (crashD (writeD (writeD (newD 8) 1 A) 1 B) [0])).down = false := by
  obtain ⟨Z, hZ⟩ : ∃ Z : ByteArray, (⟨(List.replicate 4096 0).toArray⟩ : ByteArray) = Z := ⟨_, rfl⟩
  have h0 : newD 8 = ⟨List.replicate 8 Z, [], false, 0⟩ := by rw [newD, hZ]
  have p1 : placeE (newD 8) 1 A = 0 := by rw [h0]; simp [placeE, inD, hA]
  have w1 : writeD (newD 8) 1 A = ⟨List.replicate 8 Z, [(1, A)], false, 0⟩ := by
    unfold writeD
    rw [p1, h0]; simp [stepD]
  have p2 : placeE ⟨List.replicate 8 Z, [(1, A)], false, 0⟩ 1 B = 0 := by simp [placeE, inD, hB]
  have w2 : writeD ⟨List.replicate 8 Z, [(1, A)], false, 0⟩ 1 B = ⟨List.replicate 8 Z, [(1, A), (1, B)], false, 0⟩ := by
    unfold writeD
    rw [p2]; simp [stepD]
  rw [w1, w2]
  refine ⟨?_, ?_, ?_, ?_, ?_⟩
  · unfold writeE; rw [p1, h0]; simp [stepD]
  · unfold writeE; rw [p2]; simp [stepD]
  · simp [readD, bootD, crashD, keptC, putC, inD, showC]
  · simp [bootD, crashD, keptC, putC]
  · rfl
end Ks
