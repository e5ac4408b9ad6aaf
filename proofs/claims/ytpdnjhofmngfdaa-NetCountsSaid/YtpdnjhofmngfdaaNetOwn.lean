/- Letters that a net owns: plain. No program is in sight. -/
import Derived.Test.YtpdnjhofmngfdaaNetBase
namespace Ks
open Go Go.RowKit
set_option linter.unusedVariables false

theorem letCs_length (l : List Let) : (letCs l).length = l.length * 2 := by
  induction l with
  | nil => rfl
  | cons x l ih => simp only [letCs, List.flatMap_cons, List.length_append] at ih ⊢; rw [ih]; simp [letC]; omega
theorem letCs_get (l : List Let) (i : Nat) (x : Let) (h : l[i]? = some x) : (letCs l)[i * 2]? = some (.int .i64 x.1) ∧ (letCs l)[i * 2 + 1]? = some (.string x.2) := by
  induction l generalizing i with
  | nil => simp at h
  | cons y l ih =>
    have e : letCs (y :: l) = letC y ++ letCs l := by simp [letCs]
    match i, h with
    | 0, h => simp at h; subst h; rw [e]; exact ⟨rfl, rfl⟩
    | i + 1, h =>
      obtain ⟨h1, h2⟩ := ih i (by simpa using h)
      rw [e, List.getElem?_append_right (by simp [letC]; omega), List.getElem?_append_right (by simp [letC]; omega)]
      rw [show (i + 1) * 2 - (letC y).length = i * 2 by simp [letC]; omega, show (i + 1) * 2 + 1 - (letC y).length = i * 2 + 1 by simp [letC]; omega]
      exact ⟨h1, h2⟩
theorem letCs_cell (l : List Let) (j : Nat) (u : Value) (h : (letCs l)[j]? = some u) : ∃ i x, l[i]? = some x ∧ ((j = i * 2 ∧ u = .int .i64 x.1) ∨ (j = i * 2 + 1 ∧ u = .string x.2)) := by
  have hj : j < l.length * 2 := by rw [← letCs_length]; exact (List.getElem?_eq_some_iff.1 h).1
  have hi : j / 2 < l.length := by omega
  obtain ⟨h1, h2⟩ := letCs_get l (j / 2) l[j / 2] (List.getElem?_eq_getElem hi)
  refine ⟨j / 2, l[j / 2], List.getElem?_eq_getElem hi, ?_⟩
  rcases Nat.mod_two_eq_zero_or_one j with hm | hm
  · left
    have e : j / 2 * 2 = j := by omega
    rw [e] at h1
    rw [h1] at h
    exact ⟨e.symm, (Option.some.inj h).symm⟩
  · right
    have e : j / 2 * 2 + 1 = j := by omega
    rw [e] at h2
    rw [h2] at h
    exact ⟨e.symm, (Option.some.inj h).symm⟩
theorem letCs_one (l : List Let) : ∀ u ∈ letCs l, u.oneCell' = true := by
  intro u hu
  simp only [letCs, List.mem_flatMap] at hu
  obtain ⟨x, _, hx⟩ := hu
  simp only [letC, List.mem_cons, List.not_mem_nil, or_false] at hx
  rcases hx with rfl | rfl <;> rfl

/-- the cells that a reading tells -/
theorem RdL.cells {w : World} {b o n c : Nat} {l : List Let} (h : RdL w (.slice (some ⟨b, o, none⟩) n c) l) : n = l.length ∧ ∀ j u, (letCs l)[j]? = some u → w.cell? ⟨b, o + j, none⟩ = some u := by
  obtain ⟨a, cap, e, hc, hn, h⟩ := h
  simp only [Value.slice.injEq] at e
  obtain ⟨rfl, rfl, rfl⟩ := e
  refine ⟨rfl, fun j u hj => ?_⟩
  obtain ⟨i, x, hx, hh⟩ := letCs_cell l j u hj
  obtain ⟨b', o', e, _, h1, h2⟩ := h i x hx
  simp only [Option.some.injEq, Addr.mk.injEq, and_true] at e
  obtain ⟨rfl, rfl⟩ := e
  rcases hh with ⟨rfl, rfl⟩ | ⟨rfl, rfl⟩
  · exact h1
  · rw [← Nat.add_assoc]; exact h2

/-- a slice value owns its letters' cells, or is full -/
def Own (w : World) (T : TypeId) (v : Value) (l : List Let) : Prop :=
  w.ownsRow 0 T 2 v l.length (letCs l) ∨ (∃ g, v = .slice (some ⟨g, 0, none⟩) l.length l.length ∧ g < w.heap.size ∧ ∀ j u, (letCs l)[j]? = some u → w.cell? ⟨g, j, none⟩ = some u)

theorem ownsRow_rd {w : World} {B : Nat} {T : TypeId} {v : Value} {l : List Let} (h : w.ownsRow B T 2 v l.length (letCs l)) : RdL w v l := by
  rcases h.2 with ⟨rfl, h0⟩ | ⟨g, cap, cur, rfl, hb, hg, hn, hc, hs, ht⟩
  · have : l = [] := List.length_eq_zero_iff.1 h0
    subst this
    exact RdL.nil w
  · refine ⟨_, cap, rfl, hn, fun e => by simp at e, fun i x hx => ⟨g, 0, rfl, lt_of_block hg, ?_⟩⟩
    obtain ⟨h1, h2⟩ := letCs_get l i x hx
    rw [← ht] at h1 h2
    have hlt : i < l.length := (List.getElem?_eq_some_iff.1 hx).1
    rw [List.getElem?_take, if_pos (by omega)] at h1 h2
    rw [Nat.zero_add, cell_of_row w g _ _ T _ hg, cell_of_row w g _ _ T _ hg]
    exact ⟨by rw [← Array.getElem?_toList]; exact h1, by rw [← Array.getElem?_toList]; exact h2⟩
theorem Own.rd {w : World} {T : TypeId} {v : Value} {l : List Let} (h : Own w T v l) : RdL w v l := by
  rcases h with h | ⟨g, rfl, hg, hc⟩
  · exact ownsRow_rd h
  · refine ⟨_, _, rfl, Nat.le_refl _, fun e => by simp at e, fun i x hx => ⟨g, 0, rfl, hg, ?_⟩⟩
    obtain ⟨h1, h2⟩ := letCs_get l i x hx
    rw [Nat.zero_add]
    exact ⟨hc _ _ h1, hc _ _ h2⟩
theorem Own.nil (w : World) (T : TypeId) : Own w T (.slice none 0 0) [] := Or.inl (World.ownsRow_nil w 0 T 2)
theorem Own.keep {w w' : World} {T : TypeId} {v : Value} {l : List Let} (h : Own w T v l) (hs : w.heap.size ≤ w'.heap.size) (hb : ∀ b, v.ownBlock = some b → w'.heap[b]? = w.heap[b]?) : Own w' T v l := by
  rcases h with ⟨h1, h2⟩ | ⟨g, rfl, hg, hc⟩
  · refine Or.inl ⟨h1, ?_⟩
    rcases h2 with h2 | ⟨g, cap, cur, rfl, r1, r2, r3⟩
    · exact Or.inl h2
    · exact Or.inr ⟨g, cap, cur, rfl, r1, (hb g rfl).trans r2, r3⟩
  · exact Or.inr ⟨g, rfl, Nat.lt_of_lt_of_le hg hs, fun j u hj => (World.cell?_of_block (a := ⟨g, j, none⟩) (hb g rfl)).trans (hc j u hj)⟩
theorem Own.lt {w : World} {T : TypeId} {v : Value} {l : List Let} (h : Own w T v l) {b : Nat} (hb : v.ownBlock = some b) : b < w.heap.size := by
  rcases h with h | ⟨g, rfl, hg, hc⟩
  · exact (h.lt b hb).2
  · simp [Value.ownBlock] at hb; omega

/-- a net that has letters -/
structure NetAt (w : World) (TN TL : TypeId) (n : Nat) (v : Value) (l : List Let) : Prop where
  blk : w.heap[n]? = some (.cells #[.bool true, v] TN (0, 0))
  own : Own w TL v l
  ne : v.ownBlock ≠ some n
  len : l.length ≤ 64
theorem NetAt.lt {w : World} {TN TL : TypeId} {n : Nat} {v : Value} {l : List Let} (h : NetAt w TN TL n v l) : n < w.heap.size := lt_of_block h.blk
theorem NetAt.keep {w w' : World} {TN TL : TypeId} {n : Nat} {v : Value} {l : List Let} (h : NetAt w TN TL n v l) (hb : Below w.heap.size w w') : NetAt w' TN TL n v l :=
  ⟨(hb.block n h.lt).trans h.blk, h.own.keep hb.size fun b e => hb.block b (h.own.lt e), h.ne, h.len⟩
theorem NetAt.cells {w : World} {TN TL : TypeId} {n : Nat} {v : Value} {l : List Let} (h : NetAt w TN TL n v l) : w.cell? ⟨n, 0, none⟩ = some (.bool true) ∧ w.cell? ⟨n, 1, none⟩ = some v ∧ w.frozen? ⟨n, 0, none⟩ = false ∧ w.frozen? ⟨n, 1, none⟩ = false := by
  refine ⟨?_, ?_, ?_, ?_⟩
  · rw [cell_of_row w n 0 _ _ _ h.blk]; rfl
  · rw [cell_of_row w n 1 _ _ _ h.blk]; rfl
  · exact frozen_of_row w n 0 _ _ h.blk
  · exact frozen_of_row w n 1 _ _ h.blk
/-- a net that is none, or that no call made -/
def DeadAt (w : World) (TN : TypeId) (v : Value) : Prop := v = .pointer none ∨ ∃ n, v = .pointer (some ⟨n, 0, none⟩) ∧ w.heap[n]? = some (.cells #[.bool false, .slice none 0 0] TN (0, 0))
theorem DeadAt.keep {w w' : World} {TN : TypeId} {v : Value} (h : DeadAt w TN v) (hb : Below w.heap.size w w') : DeadAt w' TN v := by
  rcases h with h | ⟨n, rfl, h⟩
  · exact Or.inl h
  · exact Or.inr ⟨n, rfl, (hb.block n (lt_of_block h)).trans h⟩

end Ks
