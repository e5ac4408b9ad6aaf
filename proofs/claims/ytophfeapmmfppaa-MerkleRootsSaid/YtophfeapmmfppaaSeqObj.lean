/- A thing that was made, with a row of its own: what stands of it, what a call turns. Plain. No program is in sight. -/
import Derived.Test.YtophfeapmmfppaaSeq
namespace Ks
open Go Go.RowKit
set_option linter.unusedVariables false

variable {α : Type} {E : Enc α}

/-- a thing of two cells: that it was made, and its row -/
structure Held (E : Enc α) (w : World) (TN TL : TypeId) (n : Nat) (v : Value) (l : List α) : Prop where
  blk : w.heap[n]? = some (.cells #[.bool true, v] TN (0, 0))
  own : Row E w 0 TL v l
  ne : v.ownBlock ≠ some n
theorem Held.lt {w : World} {TN TL : TypeId} {n : Nat} {v : Value} {l : List α} (h : Held E w TN TL n v l) : n < w.heap.size := lt_of_block h.blk
theorem Held.keep {w w' : World} {TN TL : TypeId} {n : Nat} {v : Value} {l : List α} (h : Held E w TN TL n v l) (hb : Below w.heap.size w w') : Held E w' TN TL n v l :=
  ⟨(hb.block n h.lt).trans h.blk, h.own.below hb, h.ne⟩
theorem Held.cells {w : World} {TN TL : TypeId} {n : Nat} {v : Value} {l : List α} (h : Held E w TN TL n v l) : w.cell? ⟨n, 0, none⟩ = some (.bool true) ∧ w.cell? ⟨n, 1, none⟩ = some v ∧ w.frozen? ⟨n, 0, none⟩ = false ∧ w.frozen? ⟨n, 1, none⟩ = false :=
  ⟨by rw [cell_of_row w n 0 _ _ _ h.blk]; rfl, by rw [cell_of_row w n 1 _ _ _ h.blk]; rfl, frozen_of_row w n 0 _ _ h.blk, frozen_of_row w n 1 _ _ h.blk⟩
/-- a thing that is none, or that no call made -/
def Dead (w : World) (TN : TypeId) (v : Value) : Prop := v = .pointer none ∨ ∃ n, v = .pointer (some ⟨n, 0, none⟩) ∧ w.heap[n]? = some (.cells #[.bool false, .slice none 0 0] TN (0, 0))
theorem Dead.keep {w w' : World} {TN : TypeId} {v : Value} (h : Dead w TN v) (hb : Below w.heap.size w w') : Dead w' TN v := by
  rcases h with h | ⟨n, rfl, h⟩
  · exact Or.inl h
  · exact Or.inr ⟨n, rfl, (hb.block n (lt_of_block h)).trans h⟩

/-- only the thing and its own row are turned -/
structure Turned (w w' : World) (n : Nat) (v v' : Value) : Prop where
  os : w'.os = w.os
  tape : w'.tape = w.tape
  output : w'.output = w.output
  size : w.heap.size ≤ w'.heap.size
  block : ∀ k, k < w.heap.size → k ≠ n → v.ownBlock ≠ some k → w'.heap[k]? = w.heap[k]?
  own : v'.ownBlock = v.ownBlock ∨ ∀ b, v'.ownBlock = some b → w.heap.size ≤ b
theorem Turned.of_below {w w' : World} {n : Nat} {v : Value} (hb : Below w.heap.size w w') : Turned w w' n v v :=
  ⟨hb.os, hb.tape, hb.output, hb.size, fun k hk _ _ => hb.block k hk, Or.inl rfl⟩
theorem Turned.below {w w' : World} {n B : Nat} {v v' : Value} (h : Turned w w' n v v') (hn : B ≤ n) (hv : ∀ b, v.ownBlock = some b → B ≤ b) (hB : B ≤ w.heap.size) : Below B w w' :=
  ⟨h.os, h.tape, h.output, h.size, fun k hk => h.block k (by omega) (by omega) fun e => by have := hv k e; omega⟩
theorem Turned.after {w w1 w2 : World} {n : Nat} {v v' : Value} (hb : Below w.heap.size w w1) (h : Turned w1 w2 n v v') : Turned w w2 n v v' :=
  ⟨h.os.trans hb.os, h.tape.trans hb.tape, h.output.trans hb.output, Nat.le_trans hb.size h.size, fun k hk h1 h2 => (h.block k (Nat.lt_of_lt_of_le hk hb.size) h1 h2).trans (hb.block k hk),
    h.own.imp id fun h b e => Nat.le_trans hb.size (h b e)⟩
theorem Turned.then {w w1 w2 : World} {n : Nat} {v v' : Value} (h : Turned w w1 n v v') (hb : Below w1.heap.size w1 w2) : Turned w w2 n v v' :=
  ⟨hb.os.trans h.os, hb.tape.trans h.tape, hb.output.trans h.output, Nat.le_trans h.size hb.size, fun k hk h1 h2 => (hb.block k (Nat.lt_of_lt_of_le hk h.size)).trans (h.block k hk h1 h2), h.own⟩
theorem Turned.low {w w' : World} {n B : Nat} {v v' : Value} (h : Turned w w' n v v') (hv : ∀ b, v.ownBlock = some b → B ≤ b) (hB : B ≤ w.heap.size) : ∀ b, v'.ownBlock = some b → B ≤ b := by
  intro b hb
  rcases h.own with e | e
  · exact hv b (e ▸ hb)
  · exact Nat.le_trans hB (e b hb)
theorem set_ne {w : World} {n k o : Nat} (u : Value) (h : k ≠ n) : (w.setCell ⟨n, o, none⟩ u).heap[k]? = w.heap[k]? := Below.heap_setCell _ _ _ _ h
theorem set_one {w : World} {n : Nat} {c0 c1 : Value} {T : TypeId} (u : Value) (h : w.heap[n]? = some (.cells #[c0, c1] T (0, 0))) : (w.setCell ⟨n, 1, none⟩ u).heap[n]? = some (.cells #[c0, u] T (0, 0)) := by
  simp [World.setCell, Array.getElem?_modify, h]
theorem Rd.put {w : World} {v : Value} {l : List α} (h : Rd E w v l) {m o : Nat} (u : Value) (hm : v.ownBlock ≠ some m) : Rd E (w.setCell ⟨m, o, none⟩ u) v l :=
  h.keep (by simp) fun b e => set_ne u fun e2 => hm (by rw [e, e2])
theorem Rd.turned {w w' : World} {n : Nat} {v v' u : Value} {β : Type} {E' : Enc β} {l : List β} (hl : Rd E' w u l) (h : Turned w w' n v v') (h1 : u.ownBlock ≠ some n) (h2 : ∀ b, u.ownBlock = some b → v.ownBlock ≠ some b) : Rd E' w' u l := by
  obtain ⟨a, cap, rfl, hc, hn, hh⟩ := hl
  refine ⟨a, cap, rfl, hc, hn, fun i x hx => ?_⟩
  obtain ⟨b, o, rfl, hlt, hcs⟩ := hh i x hx
  have e := h.block b hlt (fun e => h1 (by simp [Value.ownBlock, e])) (h2 b rfl)
  exact ⟨b, o, rfl, Nat.lt_of_lt_of_le hlt h.size, fun j u hu => (World.cell?_of_block (a := ⟨b, o + i * E'.k + j, none⟩) e).trans (hcs j u hu)⟩
theorem Rd.lt' {w : World} {v : Value} {l : List α} (h : Rd E w v l) (hl : l ≠ []) {b : Nat} (hb : v.ownBlock = some b) : b < w.heap.size := by
  cases l with
  | nil => exact absurd rfl hl
  | cons x l =>
    obtain ⟨a, cap, rfl, _⟩ := h.shape
    obtain ⟨b', o, rfl, hb', _⟩ := h.at 0 x rfl
    simp [Value.ownBlock] at hb
    omega
theorem Rd.empty {w : World} {v : Value} (h : Rd E w v []) (w' : World) : Rd E w' v [] := by
  obtain ⟨a, cap, rfl, h1, h2, _⟩ := h
  exact ⟨a, cap, rfl, h1, h2, fun i x hx => by simp at hx⟩

theorem Row.any {w : World} {B : Nat} {T : TypeId} {v : Value} {l : List α} (h : Row E w B T v l) : ∃ a n cap, v = .slice a n cap := by
  obtain ⟨a, cap, e, _⟩ := h.shape
  exact ⟨a, _, cap, e⟩
/-- the store that ends a call -/
theorem Held.store {w w2 : World} {TN TL : TypeId} {n : Nat} {v v' : Value} {L L' : List α} (h : Held E w TN TL n v L) (hg : Grew E w w2 0 TL v v' L') :
    Held E (w2.setCell ⟨n, 1, none⟩ v') TN TL n v' L' ∧ Turned w (w2.setCell ⟨n, 1, none⟩ v') n v v' := by
  obtain ⟨ho, hg, hor, _⟩ := hg
  have hne : v'.ownBlock ≠ some n := by
    rcases hor with e | e
    · rw [e]; exact h.ne
    · intro e2; have := e n e2; have := h.lt; omega
  have hb2 : w2.heap[n]? = some (.cells #[.bool true, v] TN (0, 0)) := (hg.block n h.lt (fun e => h.ne e.symm)).trans h.blk
  have hs : (w2.setCell ⟨n, 1, none⟩ v').heap.size = w2.heap.size := by simp
  refine ⟨⟨set_one v' hb2, ho.keep fun b e => set_ne v' fun e2 => hne (by rw [e, e2]), hne⟩, ?_⟩
  have hB : Below 0 w2 (w2.setCell ⟨n, 1, none⟩ v') := (Below.refl 0 w2).setCell (Nat.zero_le _) v'
  refine ⟨hB.os.trans hg.os, hB.tape.trans hg.tape, hB.output.trans hg.output, by rw [hs]; exact hg.size, fun k hk h1 h2 => ?_, hor⟩
  rw [set_ne v' h1]
  exact hg.block k hk fun e => h2 e.symm

/-- cells of a block known whole -/
theorem blk1 {w : World} {b : Nat} {c0 : Value} {T : TypeId} (h : w.heap[b]? = some (.cells #[c0] T (0, 0))) : w.cell? ⟨b, 0, none⟩ = some c0 ∧ w.frozen? ⟨b, 0, none⟩ = false :=
  ⟨by rw [cell_of_row w b 0 _ _ _ h]; rfl, frozen_of_row w b 0 _ _ h⟩
theorem blk2 {w : World} {b : Nat} {c0 c1 : Value} {T : TypeId} (h : w.heap[b]? = some (.cells #[c0, c1] T (0, 0))) : w.cell? ⟨b, 0, none⟩ = some c0 ∧ w.cell? ⟨b, 1, none⟩ = some c1 ∧ w.frozen? ⟨b, 0, none⟩ = false ∧ w.frozen? ⟨b, 1, none⟩ = false :=
  ⟨by rw [cell_of_row w b 0 _ _ _ h]; rfl, by rw [cell_of_row w b 1 _ _ _ h]; rfl, frozen_of_row w b 0 _ _ h, frozen_of_row w b 1 _ _ h⟩
theorem blk3 {w : World} {b : Nat} {c0 c1 c2 : Value} {T : TypeId} (h : w.heap[b]? = some (.cells #[c0, c1, c2] T (0, 0))) : w.cell? ⟨b, 0, none⟩ = some c0 ∧ w.cell? ⟨b, 1, none⟩ = some c1 ∧ w.cell? ⟨b, 2, none⟩ = some c2 ∧ w.frozen? ⟨b, 0, none⟩ = false ∧ w.frozen? ⟨b, 1, none⟩ = false ∧ w.frozen? ⟨b, 2, none⟩ = false :=
  ⟨by rw [cell_of_row w b 0 _ _ _ h]; rfl, by rw [cell_of_row w b 1 _ _ _ h]; rfl, by rw [cell_of_row w b 2 _ _ _ h]; rfl, frozen_of_row w b 0 _ _ h, frozen_of_row w b 1 _ _ h, frozen_of_row w b 2 _ _ h⟩
theorem alloc_new (w : World) (o : Obj) : (w.alloc o).heap[w.heap.size]? = some o := heap_alloc_new w o
theorem alloc_below (w : World) (o : Obj) : Below w.heap.size w (w.alloc o) := (Below.refl _ _).alloc (Nat.le_refl _) _
theorem drew_below (w : World) : Below w.heap.size w w.drew := (Below.refl _ _).drew
end Ks
