/- A row copied by append, and one more behind it, in a statement that draws its order: what each order runs to. Plain. No program is in sight. -/
import Derived.Test.YtophfeapmmfppaaSeqObj
namespace Ks
open Go Go.RowKit
set_option linter.unusedVariables false

variable {α : Type} {E : Enc α}

theorem alloc2_heap (w : World) (o o' : Obj) : ((w.alloc o).alloc o').heap[w.heap.size]? = some o ∧ ((w.alloc o).alloc o').heap[w.heap.size + 1]? = some o' := by
  refine ⟨by rw [Below.heap_alloc _ _ _ (by simp)]; exact heap_alloc_new w o, ?_⟩
  have := heap_alloc_new (w.alloc o) o'
  rw [show (w.alloc o).heap.size = w.heap.size + 1 by simp] at this
  exact this
theorem row_fresh {w : World} {B g : Nat} {e : TypeId} (h : w.heap[g]? = some (.cells #[] e (0, 0))) (hB : B ≤ g) : Row E w B e (.slice (some ⟨g, 0, none⟩) 0 0) [] :=
  ⟨by simp [Enc.cs_nil], Or.inr ⟨g, 0, #[], rfl, hB, h, Nat.le_refl _, Nat.zero_le _, by simp, by simp [Enc.cs_nil]⟩⟩

/-- what two appends leave -/
def Two {P : Program} (E : Enc α) (t e : TypeId) (w Wa : World) (s lv u : Value) (L : List α) (x : α) : Prop :=
  ∃ a1 n1 c1 w5 a2 n2 c2 w6, (Builtin.append_ #[t, t] t #[s, lv]).run P Wa = .ok (.slice a1 n1 c1) w5 ∧ (Builtin.append_ #[t, t] t #[.slice a1 n1 c1, u]).run P w5 = .ok (.slice a2 n2 c2) w6 ∧
    Row E w6 w.heap.size e (.slice a2 n2 c2) (L ++ [x]) ∧ Below w.heap.size w w5 ∧ Below w.heap.size w w6

theorem append_two {P : Program} {t e : TypeId} {bytes : Nat} (T : ElemT P t e E.k bytes) (w : World) (lv : Value) (L : List α) (x : α) (X : Array Value) (hX : X.toList = E.enc x) (hl : Rd E w lv L) (b1 : L.length ≤ 1000000) (b2 : bytes ≤ 1000) :
    (∃ a1 n1 c1 w5 a2 n2 c2 w6, (Builtin.append_ #[t, t] t #[.slice (some ⟨w.heap.size, 0, none⟩) 0 0, lv]).run P (w.alloc (.cells #[] e)) = .ok (.slice a1 n1 c1) w5 ∧
      (Builtin.append_ #[t, t] t #[.slice a1 n1 c1, .slice (some ⟨w5.heap.size, 0, none⟩) 1 1]).run P (w5.alloc (.cells X e)) = .ok (.slice a2 n2 c2) w6 ∧ Row E w6 w.heap.size e (.slice a2 n2 c2) (L ++ [x]) ∧ Below w.heap.size w w5 ∧ Below w.heap.size w w6) ∧
    Two (P := P) E t e w ((w.alloc (.cells #[] e)).alloc (.cells X e)) (.slice (some ⟨w.heap.size, 0, none⟩) 0 0) lv (.slice (some ⟨w.heap.size + 1, 0, none⟩) 1 1) L x ∧
    Two (P := P) E t e w ((w.alloc (.cells X e)).alloc (.cells #[] e)) (.slice (some ⟨w.heap.size + 1, 0, none⟩) 0 0) lv (.slice (some ⟨w.heap.size, 0, none⟩) 1 1) L x := by
  have hA := alloc_below w (.cells #[] e)
  have hAX : Below w.heap.size w ((w.alloc (.cells #[] e)).alloc (.cells X e)) := hA.alloc hA.size _
  have hX1 := alloc_below w (.cells X e)
  have hXA : Below w.heap.size w ((w.alloc (.cells X e)).alloc (.cells #[] e)) := hX1.alloc hX1.size _
  have shape : ∀ {w' : World} {B : Nat} {v : Value} {l : List α}, Row E w' B e v l → ∃ a n c, v = .slice a n c := fun h => by
    obtain ⟨a, c, e, _⟩ := h.shape
    exact ⟨a, _, c, e⟩
  refine ⟨?_, ?_, ?_⟩
  · obtain ⟨v1, w5, hr1, hG1⟩ := run_append_row (ty := t) T (w.alloc (.cells #[] e)) w.heap.size _ _ [] L (row_fresh (alloc_new w _) (Nat.le_refl _)) (hl.below hA) hA.size (by simp; omega) b2
    have hB5 : Below w.heap.size w w5 := hG1.below hA hA.size fun b hb => by simp [Value.ownBlock] at hb; omega
    have hX5 := alloc_below w5 (.cells X e)
    rw [List.nil_append] at hG1
    obtain ⟨v2, w6, hr2, hG2⟩ := run_append_row (ty := t) T (w5.alloc (.cells X e)) w.heap.size _ _ L [x] (hG1.1.below hX5) (Rd.single x (alloc_new w5 _) hX) (Nat.le_trans hB5.size hX5.size) (by simp; omega) b2
    obtain ⟨a1, n1, c1, rfl⟩ := shape hG1.1
    obtain ⟨a2, n2, c2, rfl⟩ := shape hG2.1
    exact ⟨a1, n1, c1, w5, a2, n2, c2, w6, hr1, hr2, hG2.1, hB5, hG2.below (hB5.trans (hX5.mono hB5.size)) (Nat.le_trans hB5.size hX5.size) fun b hb => (hG1.1.lt hb).1⟩
  · obtain ⟨k1, k2⟩ := alloc2_heap w (.cells #[] e) (.cells X e)
    obtain ⟨v1, w5, hr1, hG1⟩ := run_append_row (ty := t) T ((w.alloc (.cells #[] e)).alloc (.cells X e)) w.heap.size _ _ [] L (row_fresh k1 (Nat.le_refl _)) (hl.below hAX) hAX.size (by simp; omega) b2
    have hB5 : Below w.heap.size w w5 := hG1.below hAX hAX.size fun b hb => by simp [Value.ownBlock] at hb; omega
    rw [List.nil_append] at hG1
    have kx := hG1.block k2 (by simp [Value.ownBlock])
    obtain ⟨v2, w6, hr2, hG2⟩ := run_append_row (ty := t) T w5 w.heap.size _ _ L [x] hG1.1 (Rd.single x kx hX) hB5.size (by simp; omega) b2
    obtain ⟨a1, n1, c1, rfl⟩ := shape hG1.1
    obtain ⟨a2, n2, c2, rfl⟩ := shape hG2.1
    exact ⟨a1, n1, c1, w5, a2, n2, c2, w6, hr1, hr2, hG2.1, hB5, hG2.below hB5 hB5.size fun b hb => (hG1.1.lt hb).1⟩
  · obtain ⟨k1, k2⟩ := alloc2_heap w (.cells X e) (.cells #[] e)
    obtain ⟨v1, w5, hr1, hG1⟩ := run_append_row (ty := t) T ((w.alloc (.cells X e)).alloc (.cells #[] e)) w.heap.size _ _ [] L (row_fresh k2 (by omega)) (hl.below hXA) hXA.size (by simp; omega) b2
    have hB5 : Below w.heap.size w w5 := hG1.below hXA hXA.size fun b hb => by simp [Value.ownBlock] at hb; omega
    rw [List.nil_append] at hG1
    have kx := hG1.block k1 (by simp [Value.ownBlock])
    obtain ⟨v2, w6, hr2, hG2⟩ := run_append_row (ty := t) T w5 w.heap.size _ _ L [x] hG1.1 (Rd.single x kx hX) hB5.size (by simp; omega) b2
    obtain ⟨a1, n1, c1, rfl⟩ := shape hG1.1
    obtain ⟨a2, n2, c2, rfl⟩ := shape hG2.1
    exact ⟨a1, n1, c1, w5, a2, n2, c2, w6, hr1, hr2, hG2.1, hB5, hG2.below hB5 hB5.size fun b hb => (hG1.1.lt hb).1⟩
end Ks
