/- Things made of several blocks: which blocks a call turns. Plain. No program is in sight. -/
import Derived.Test.YtielmlnbjliacaaSeqObj
import Derived.Test.YtielmlnbjliacaaBlkRow
namespace Ks
open Go Go.RowKit
set_option linter.unusedVariables false

/-- only the blocks of F are turned; what the thing has behind it, F', is of F or new -/
structure Turn (w w' : World) (F F' : Nat → Prop) : Prop where
  os : w'.os = w.os
  tape : w'.tape = w.tape
  output : w'.output = w.output
  size : w.heap.size ≤ w'.heap.size
  block : ∀ k, k < w.heap.size → ¬ F k → w'.heap[k]? = w.heap[k]?
  foot : ∀ k, F' k → F k ∨ w.heap.size ≤ k
theorem Turn.of_below {w w' : World} (F : Nat → Prop) (h : Below w.heap.size w w') : Turn w w' F F := ⟨h.os, h.tape, h.output, h.size, fun k hk _ => h.block k hk, fun k hk => Or.inl hk⟩
theorem Turn.refl (w : World) (F : Nat → Prop) : Turn w w F F := Turn.of_below F (Below.refl _ _)
theorem Turn.trans {w w1 w2 : World} {F F1 F2 : Nat → Prop} (h : Turn w w1 F F1) (g : Turn w1 w2 F1 F2) : Turn w w2 F F2 := by
  refine ⟨g.os.trans h.os, g.tape.trans h.tape, g.output.trans h.output, Nat.le_trans h.size g.size, fun k hk hF => ?_, fun k hk => ?_⟩
  · refine (g.block k (Nat.lt_of_lt_of_le hk h.size) fun h1 => ?_).trans (h.block k hk hF)
    rcases h.foot k h1 with h2 | h2
    · exact hF h2
    · omega
  · rcases g.foot k hk with h1 | h1
    · exact h.foot k h1
    · exact Or.inr (Nat.le_trans h.size h1)
theorem Turn.below {w w' : World} {F F' : Nat → Prop} {B : Nat} (h : Turn w w' F F') (hF : ∀ k, F k → B ≤ k) (hB : B ≤ w.heap.size) : Below B w w' :=
  ⟨h.os, h.tape, h.output, h.size, fun k hk => h.block k (by omega) fun h1 => by have := hF k h1; omega⟩
theorem Turn.low {w w' : World} {F F' : Nat → Prop} {B : Nat} (h : Turn w w' F F') (hF : ∀ k, F k → B ≤ k) (hB : B ≤ w.heap.size) : ∀ k, F' k → B ≤ k := by
  intro k hk
  rcases h.foot k hk with h1 | h1
  · exact hF k h1
  · omega
/-- another thing is not turned -/
theorem Turn.other {w w' : World} {F F' G : Nat → Prop} (h : Turn w w' F F') (hG : ∀ k, G k → k < w.heap.size) (hd : ∀ k, F k → ¬ G k) : ∀ k, G k → w'.heap[k]? = w.heap[k]? := fun k hk => h.block k (hG k hk) fun h1 => hd k h1 hk
theorem Turn.apart {w w' : World} {F F' G : Nat → Prop} (h : Turn w w' F F') (hG : ∀ k, G k → k < w.heap.size) (hd : ∀ k, F k → ¬ G k) : ∀ k, F' k → ¬ G k := fun k hk hg => by
  rcases h.foot k hk with h1 | h1
  · exact hd k h1 hg
  · have := hG k hg; omega
theorem Turn.mono {w w' : World} {F F' G : Nat → Prop} (h : Turn w w' F F') (hG : ∀ k, G k → F' k) : Turn w w' F G := ⟨h.os, h.tape, h.output, h.size, h.block, fun k hk => h.foot k (hG k hk)⟩
theorem Turn.wide {w w' : World} {F F' G G' : Nat → Prop} (h : Turn w w' F F') (hF : ∀ k, F k → G k) (hG : ∀ k, G' k → F' k ∨ G k ∨ w.heap.size ≤ k) : Turn w w' G G' := by
  refine ⟨h.os, h.tape, h.output, h.size, fun k hk hn => h.block k hk fun h1 => hn (hF k h1), fun k hk => ?_⟩
  rcases hG k hk with h1 | h1 | h1
  · rcases h.foot k h1 with h2 | h2
    · exact Or.inl (hF k h2)
    · exact Or.inr h2
  · exact Or.inl h1
  · exact Or.inr h1
theorem Turn.cell (w : World) {F : Nat → Prop} (b o : Nat) (v : Value) (h : F b) : Turn w (w.setCell ⟨b, o, none⟩ v) F F :=
  have h1 : Below 0 w (w.setCell ⟨b, o, none⟩ v) := (Below.refl 0 w).setCell (Nat.zero_le _) v
  ⟨h1.os, h1.tape, h1.output, by simp, fun k hk hn => set_ne v fun e => hn (e ▸ h), fun k hk => Or.inl hk⟩
theorem Turn.row (w : World) {F : Nat → Prop} (b : Nat) (C : Array Value) (h : F b) : Turn w (w.setRow b C) F F :=
  ⟨rfl, rfl, rfl, by simp, fun k hk hn => setRow_other w b k C fun e => hn (e ▸ h), fun k hk => Or.inl hk⟩
theorem Turn.grown {w w' : World} {F : Nat → Prop} {row : Option Nat} (h : w.grownBy w' row) (hF : ∀ b, row = some b → F b) : Turn w w' F F :=
  ⟨h.os, h.tape, h.output, h.size, fun k hk hn => h.block k hk fun e => hn (hF k e.symm), fun k hk => Or.inl hk⟩

/-- a cell of a block known whole is written -/
theorem set_blk {w : World} {b : Nat} {C : Array Value} {t : TypeId} (h : w.heap[b]? = some (.cells C t (0, 0))) (o : Nat) (v : Value) : (w.setCell ⟨b, o, none⟩ v).heap[b]? = some (.cells (C.setIfInBounds o v) t (0, 0)) := by
  rw [setCell_eq_setRow w b o _ _ _ _ h, setRow_heap w b _ _ _ _ h]
theorem Turn.cell1 (w : World) (b o : Nat) (v : Value) : Turn w (w.setCell ⟨b, o, none⟩ v) (fun k => k = b) (fun k => k = b) := Turn.cell w (F := fun k => k = b) b o v rfl

variable {α : Type} {E : Enc α}
/-- a cell of an own row, of elements of one cell -/
theorem Row.set1 {w : World} {B : Nat} {T : TypeId} {g n cap : Nat} {l : List α} (h : Row E w B T (.slice (some ⟨g, 0, none⟩) n cap) l) (hk : E.k = 1) (i : Nat) (hi : i < l.length) (x : α) (v : Value) (hv : E.enc x = [v]) :
    Row E (w.setCell ⟨g, i, none⟩ v) B T (.slice (some ⟨g, 0, none⟩) n cap) (l.set i x) := by
  have hcs : ∀ l : List α, ∀ j y, l[j]? = some y → (E.cs l)[j]? = (E.enc y)[0]? := fun l j y hj => by
    have := E.cs_get l j y hj 0 (by omega)
    rwa [hk, Nat.mul_one] at this
  refine ⟨by rw [E.cs_length, List.length_set], ?_⟩
  rcases h.2 with ⟨e, h0⟩ | ⟨g', cap', cur, e, hB, hg, hn, hc, hs, ht⟩
  · cases e
  · cases e
    rw [hk, Nat.mul_one] at ht hs
    have hlen : (l.set i x).length = l.length := List.length_set
    refine Or.inr ⟨g, cap, cur.setIfInBounds i v, by rw [hlen], hB, ?_, by rw [hlen]; exact hn, hc, by simpa [hk] using hs, ?_⟩
    · rw [setCell_eq_setRow w g i _ _ _ _ hg, setRow_heap w g _ _ _ _ hg]
    · rw [hk, Nat.mul_one, hlen, Array.toList_setIfInBounds]
      have hcl : l.length ≤ cur.toList.length := by simp; omega
      have hm : (E.cs l).length = l.length := by rw [E.cs_length, hk, Nat.mul_one]
      refine List.ext_getElem? fun j => ?_
      rw [List.getElem?_take]
      by_cases hj : j < l.length
      · rw [if_pos hj, List.getElem?_set]
        by_cases e : i = j
        · subst e
          have := hcs (l.set i x) i x (by rw [List.getElem?_set_self hi])
          rw [this, hv]
          simp; omega
        · rw [if_neg e]
          have hy : (l.set i x)[j]? = some l[j] := by rw [List.getElem?_set_ne e, List.getElem?_eq_getElem hj]
          rw [hcs _ j _ hy, ← hcs l j _ (List.getElem?_eq_getElem hj), ← ht, List.getElem?_take, if_pos hj]
      · rw [if_neg hj]
        exact (List.getElem?_eq_none (by rw [E.cs_length, hk, Nat.mul_one, hlen]; omega)).symm
theorem Row.own_lt {w : World} {B : Nat} {T : TypeId} {v : Value} {l : List α} (h : Row E w B T v l) {b : Nat} (hb : v.ownBlock = some b) : b < w.heap.size := (h.lt hb).2
/-- a row is kept where its block is -/
theorem Row.turn {w w' : World} {B : Nat} {T : TypeId} {v : Value} {l : List α} {F F' : Nat → Prop} (h : Row E w B T v l) (hT : Turn w w' F F') (hd : ∀ b, v.ownBlock = some b → ¬ F b) : Row E w' B T v l :=
  h.keep fun b e => hT.block b (h.own_lt e) (hd b e)
theorem Grew.turn {w w' : World} {B : Nat} {e : TypeId} {v v' : Value} {l : List α} (h : Grew E w w' B e v v' l) {F : Nat → Prop} (hF : ∀ b, v.ownBlock = some b → F b) : Turn w w' F F := Turn.grown h.2.1 hF
theorem Grew.foot {w w' : World} {B : Nat} {e : TypeId} {v v' : Value} {l : List α} (h : Grew E w w' B e v v' l) : ∀ b, v'.ownBlock = some b → v.ownBlock = some b ∨ w.heap.size ≤ b := fun b hb => by
  rcases h.2.2.1 with e | e
  · exact Or.inl (e ▸ hb)
  · exact Or.inr (e b hb)
end Ks
