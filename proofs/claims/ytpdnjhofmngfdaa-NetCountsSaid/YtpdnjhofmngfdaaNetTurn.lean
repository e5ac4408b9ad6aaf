/- What a net's call turns: plain. -/
import Derived.Test.YtpdnjhofmngfdaaNetAppend
namespace Ks
open Go Go.RowKit
set_option linter.unusedVariables false

def sendE (L l : List Let) : Int := if l.any badL then 2 else if 64 < L.length + l.length then 5 else 0
def sendL (L l : List Let) : List Let := if sendE L l = 0 then L ++ l else L

/-- only the net and its own row of letters are turned -/
structure Turn (w w' : World) (n : Nat) (v v' : Value) : Prop where
  os : w'.os = w.os
  tape : w'.tape = w.tape
  output : w'.output = w.output
  size : w.heap.size ≤ w'.heap.size
  block : ∀ k, k < w.heap.size → k ≠ n → v.ownBlock ≠ some k → w'.heap[k]? = w.heap[k]?
  own : v'.ownBlock = v.ownBlock ∨ ∀ b, v'.ownBlock = some b → w.heap.size ≤ b

theorem Turn.of_below {w w' : World} {n : Nat} {v : Value} (hb : Below w.heap.size w w') : Turn w w' n v v :=
  ⟨hb.os, hb.tape, hb.output, hb.size, fun k hk _ _ => hb.block k hk, Or.inl rfl⟩
theorem Turn.below {w w' : World} {n B : Nat} {v v' : Value} (h : Turn w w' n v v') (hn : B ≤ n) (hv : ∀ b, v.ownBlock = some b → B ≤ b) (hB : B ≤ w.heap.size) : Below B w w' :=
  ⟨h.os, h.tape, h.output, h.size, fun k hk => h.block k (by omega) (by omega) fun e => by have := hv k e; omega⟩
theorem Turn.after {w w1 w2 : World} {n : Nat} {v v' : Value} (hb : Below w.heap.size w w1) (h : Turn w1 w2 n v v') : Turn w w2 n v v' :=
  ⟨h.os.trans hb.os, h.tape.trans hb.tape, h.output.trans hb.output, Nat.le_trans hb.size h.size, fun k hk h1 h2 => (h.block k (Nat.lt_of_lt_of_le hk hb.size) h1 h2).trans (hb.block k hk),
    h.own.imp id fun h b e => Nat.le_trans hb.size (h b e)⟩
theorem Turn.then {w w1 w2 : World} {n : Nat} {v v' : Value} (h : Turn w w1 n v v') (hb : Below w1.heap.size w1 w2) : Turn w w2 n v v' :=
  ⟨hb.os.trans h.os, hb.tape.trans h.tape, hb.output.trans h.output, Nat.le_trans h.size hb.size, fun k hk h1 h2 => (hb.block k (Nat.lt_of_lt_of_le hk h.size)).trans (h.block k hk h1 h2), h.own⟩
theorem Turn.low {w w' : World} {n B : Nat} {v v' : Value} (h : Turn w w' n v v') (hv : ∀ b, v.ownBlock = some b → B ≤ b) (hB : B ≤ w.heap.size) : ∀ b, v'.ownBlock = some b → B ≤ b := by
  intro b hb
  rcases h.own with e | e
  · exact hv b (e ▸ hb)
  · exact Nat.le_trans hB (e b hb)
theorem Turn.set {w w1 : World} {n m o : Nat} {v v' : Value} (h : Turn w w1 n v v') (hm : w.heap.size ≤ m) (u : Value) : Turn w (w1.setCell ⟨m, o, none⟩ u) n v v' := by
  have hB : Below 0 w1 (w1.setCell ⟨m, o, none⟩ u) := (Below.refl 0 w1).setCell (Nat.zero_le _) u
  exact ⟨hB.os.trans h.os, hB.tape.trans h.tape, hB.output.trans h.output, Nat.le_trans h.size hB.size, fun k hk h1 h2 => (Below.heap_setCell _ _ _ _ (by show k ≠ m; omega)).trans (h.block k hk h1 h2), h.own⟩
/-- what lies elsewhere reads as it did -/
theorem RdL.turn {w w' : World} {n : Nat} {v v' lv : Value} {l : List Let} (hl : RdL w lv l) (h : Turn w w' n v v') (h1 : lv.ownBlock ≠ some n) (h2 : ∀ b, lv.ownBlock = some b → v.ownBlock ≠ some b) : RdL w' lv l := by
  obtain ⟨a, cap, rfl, hc, hn, hh⟩ := hl
  refine ⟨a, cap, rfl, hc, hn, fun i x hx => ?_⟩
  obtain ⟨b, o, rfl, hlt, c1, c2⟩ := hh i x hx
  have e := h.block b hlt (fun e => h1 (by simp [Value.ownBlock, e])) (h2 b rfl)
  exact ⟨b, o, rfl, Nat.lt_of_lt_of_le hlt h.size, (World.cell?_of_block (a := ⟨b, o + i * 2, none⟩) e).trans c1, (World.cell?_of_block (a := ⟨b, o + i * 2 + 1, none⟩) e).trans c2⟩

theorem heap_set1 {w : World} {n : Nat} {c0 c1 : Value} {T : TypeId} (u : Value) (h : w.heap[n]? = some (.cells #[c0, c1] T (0, 0))) : (w.setCell ⟨n, 1, none⟩ u).heap[n]? = some (.cells #[c0, u] T (0, 0)) := by
  simp [World.setCell, Array.getElem?_modify, h]
theorem heap_set_ne {w : World} {n k o : Nat} (u : Value) (h : k ≠ n) : (w.setCell ⟨n, o, none⟩ u).heap[k]? = w.heap[k]? := by
  exact Below.heap_setCell _ _ _ _ h

theorem NetAt.set {w : World} {TN TL : TypeId} {n m o : Nat} {v : Value} {l : List Let} (h : NetAt w TN TL n v l) (u : Value) (h1 : m ≠ n) (h2 : v.ownBlock ≠ some m) : NetAt (w.setCell ⟨m, o, none⟩ u) TN TL n v l :=
  ⟨(heap_set_ne u (fun e => h1 e.symm)).trans h.blk, h.own.keep (by simp) fun b e => heap_set_ne u fun e2 => h2 (by rw [e, e2]), h.ne, h.len⟩
theorem own_at {w : World} {T : TypeId} {v : Value} {l : List Let} (h : Own w T v l) (hl : 0 < l.length) : ∃ g cap, v = .slice (some ⟨g, 0, none⟩) l.length cap ∧ l.length ≤ cap ∧ g < w.heap.size := by
  rcases h with h | ⟨g, rfl, hg, hc⟩
  · rcases h.2 with ⟨_, h0⟩ | ⟨g, cap, cur, rfl, _, hg, hn, _⟩
    · omega
    · exact ⟨g, cap, rfl, hn, lt_of_block hg⟩
  · exact ⟨g, _, rfl, Nat.le_refl _, hg⟩
/-- the letters ahead of one place, with no room behind; those behind it -/
theorem own_take {w : World} {T : TypeId} {g cap : Nat} {l : List Let} (h : RdL w (.slice (some ⟨g, 0, none⟩) l.length cap) l) (hg : g < w.heap.size) (k : Nat) (hk : k < l.length) : Own w T (.slice (some ⟨g, 0, none⟩) k k) (l.take k) := by
  have hl : (l.take k).length = k := by rw [List.length_take]; omega
  refine Or.inr ⟨g, by rw [hl], hg, fun j u hj => ?_⟩
  obtain ⟨i, x, hx, hh⟩ := letCs_cell _ j u hj
  have hik : i < k := by have := (List.getElem?_eq_some_iff.1 hx).1; omega
  rw [List.getElem?_take, if_pos hik] at hx
  obtain ⟨h1, h2⟩ := letCs_get l i x hx
  have := h.cells.2
  rcases hh with ⟨rfl, rfl⟩ | ⟨rfl, rfl⟩
  · have := this _ _ h1; rwa [Nat.zero_add] at this
  · have := this _ _ h2; rwa [Nat.zero_add] at this
theorem rd_drop {w : World} {g cap k : Nat} {l : List Let} (h : RdL w (.slice (some ⟨g, 0, none⟩) l.length cap) l) (hk : k ≤ l.length) (a : Option Addr) (ha : ∀ x, l[k]? = some x → a = some ⟨g, k * 2, none⟩) (ha2 : a ≠ none) (c : Nat) (hc : l.length - k ≤ c) :
    RdL w (.slice a (l.length - k) c) (l.drop k) := by
  refine ⟨a, c, by rw [List.length_drop], by rw [List.length_drop]; exact hc, fun e => absurd e ha2, fun i x hx => ?_⟩
  rw [List.getElem?_drop] at hx
  have hlt : k + i < l.length := (List.getElem?_eq_some_iff.1 hx).1
  obtain ⟨a', cap', e, _, _, hh⟩ := h
  simp only [Value.slice.injEq] at e
  obtain ⟨rfl, _, _⟩ := e
  obtain ⟨b, o, e2, hb, h1, h2⟩ := hh (k + i) x hx
  simp only [Option.some.injEq, Addr.mk.injEq, and_true] at e2
  obtain ⟨rfl, rfl⟩ := e2
  refine ⟨g, k * 2, ha l[k] (List.getElem?_eq_getElem (by omega)), hb, ?_, ?_⟩
  · rw [Nat.zero_add] at h1; rw [← Nat.add_mul]; exact h1
  · rw [Nat.zero_add] at h2; rw [← Nat.add_mul]; exact h2

/-- the store that ends a net's call -/
theorem turned {w w2 : World} {TN TL : TypeId} {n : Nat} {v v' : Value} {L L' : List Let} (h : NetAt w TN TL n v L) (ho : Own w2 TL v' L') (hg : w.grownBy w2 v.ownBlock) (hor : v'.ownBlock = v.ownBlock ∨ ∀ b, v'.ownBlock = some b → w.heap.size ≤ b) (hlen : L'.length ≤ 64) :
    NetAt (w2.setCell ⟨n, 1, none⟩ v') TN TL n v' L' ∧ Turn w (w2.setCell ⟨n, 1, none⟩ v') n v v' := by
  have hne : v'.ownBlock ≠ some n := by
    rcases hor with e | e
    · rw [e]; exact h.ne
    · intro e2; have := e n e2; have := h.lt; omega
  have hb2 : w2.heap[n]? = some (.cells #[.bool true, v] TN (0, 0)) := (hg.block n h.lt (fun e => h.ne e.symm)).trans h.blk
  have hs : (w2.setCell ⟨n, 1, none⟩ v').heap.size = w2.heap.size := by simp
  refine ⟨⟨heap_set1 v' hb2, ho.keep (by rw [hs]; exact Nat.le_refl _) fun b e => heap_set_ne v' fun e2 => hne (by rw [e, e2]), hne, hlen⟩, ?_⟩
  have hB : Below 0 w2 (w2.setCell ⟨n, 1, none⟩ v') := (Below.refl 0 w2).setCell (Nat.zero_le _) v'
  refine ⟨hB.os.trans hg.os, hB.tape.trans hg.tape, hB.output.trans hg.output, by rw [hs]; exact hg.size, fun k hk h1 h2 => ?_, hor⟩
  rw [heap_set_ne v' h1]
  exact hg.block k hk fun e => h2 e.symm

end Ks
