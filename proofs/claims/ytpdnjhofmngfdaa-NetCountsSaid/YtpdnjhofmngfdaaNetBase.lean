/- Letters, and slices of them: plain. No program is in sight. -/
import Derived.Test.YtpdnjhofmngfdaaBase
namespace Ks
open Go Go.RowKit
set_option linter.unusedVariables false

abbrev Let := Int × ByteArray
def letC (x : Let) : List Value := [.int .i64 x.1, .string x.2]
def letCs (l : List Let) : List Value := l.flatMap letC
def letV (x : Let) : Value := .agg #[.int .i64 x.1, .string x.2]

/-- a slice value reads as letters -/
def RdL (w : World) (v : Value) (l : List Let) : Prop :=
  ∃ a cap, v = .slice a l.length cap ∧ l.length ≤ cap ∧ (a = none → cap = 0) ∧ ∀ i x, l[i]? = some x →
    ∃ b o, a = some ⟨b, o, none⟩ ∧ b < w.heap.size ∧ w.cell? ⟨b, o + i * 2, none⟩ = some (.int .i64 x.1) ∧ w.cell? ⟨b, o + i * 2 + 1, none⟩ = some (.string x.2)

theorem RdL.keep {w w' : World} {v : Value} {l : List Let} (h : RdL w v l) (hs : w.heap.size ≤ w'.heap.size) (hb : ∀ b, v.ownBlock = some b → w'.heap[b]? = w.heap[b]?) : RdL w' v l := by
  obtain ⟨a, cap, rfl, hc, hn, h⟩ := h
  refine ⟨a, cap, rfl, hc, hn, fun i x hx => ?_⟩
  obtain ⟨b, o, rfl, hlt, h1, h2⟩ := h i x hx
  have e := hb b rfl
  exact ⟨b, o, rfl, Nat.lt_of_lt_of_le hlt hs, (World.cell?_of_block (a := ⟨b, o + i * 2, none⟩) e).trans h1, (World.cell?_of_block (a := ⟨b, o + i * 2 + 1, none⟩) e).trans h2⟩
theorem RdL.below {w w' : World} {v : Value} {l : List Let} (h : RdL w v l) (hb : Below w.heap.size w w') : RdL w' v l := by
  obtain ⟨a, cap, rfl, hc, hn, h⟩ := h
  refine ⟨a, cap, rfl, hc, hn, fun i x hx => ?_⟩
  obtain ⟨b, o, rfl, hlt, h1, h2⟩ := h i x hx
  have e := hb.block b hlt
  exact ⟨b, o, rfl, Nat.lt_of_lt_of_le hlt hb.size, (World.cell?_of_block (a := ⟨b, o + i * 2, none⟩) e).trans h1, (World.cell?_of_block (a := ⟨b, o + i * 2 + 1, none⟩) e).trans h2⟩
theorem RdL.nil (w : World) : RdL w (.slice none 0 0) [] := ⟨none, 0, rfl, Nat.le_refl _, fun _ => rfl, fun i x hx => by simp at hx⟩

/-- the first of them that .., or -1 -/
def idxL (p : Let → Bool) : List Let → Int
  | [] => -1
  | x :: l => if p x then 0 else if idxL p l = -1 then -1 else idxL p l + 1
theorem idxL_ge (p : Let → Bool) (l : List Let) : -1 ≤ idxL p l := by
  induction l with
  | nil => simp [idxL]
  | cons x l ih => simp only [idxL]; split <;> (try split) <;> omega
theorem idxL_none (p : Let → Bool) (l : List Let) (h : ∀ (i : Nat) (x : Let), l[i]? = some x → p x = false) : idxL p l = -1 := by
  induction l with
  | nil => rfl
  | cons x l ih =>
    rw [idxL, if_neg (by rw [h 0 x rfl]; simp), if_pos (ih fun i y hy => h (i + 1) y (by simpa using hy))]
theorem idxL_hit (p : Let → Bool) (l : List Let) (k : Nat) (x : Let) (hx : l[k]? = some x) (hp : p x = true) (h : ∀ (i : Nat), i < k → ∀ (y : Let), l[i]? = some y → p y = false) : idxL p l = k := by
  induction l generalizing k with
  | nil => simp at hx
  | cons y l ih =>
    match k, hx with
    | 0, hx => simp at hx; subst hx; rw [idxL, if_pos hp]; rfl
    | k + 1, hx =>
      have := ih k (by simpa using hx) (fun i hi z hz => h (i + 1) (by omega) z (by simpa using hz))
      rw [idxL, if_neg (by rw [h 0 (by omega) y rfl]; simp), if_neg (by rw [this]; omega), this]
      omega
theorem idxL_any (p : Let → Bool) (l : List Let) : decide (0 ≤ idxL p l) = l.any p := by
  induction l with
  | nil => rfl
  | cons x l ih =>
    rw [List.any_cons, ← ih, idxL]
    have := idxL_ge p l
    cases hp : p x with
    | true => simp
    | false =>
      simp
      split
      · next h => rw [h]
      · next h => omega

def badL (x : Let) : Bool := decide (x.1 < 0 ∨ 1 < x.1 ∨ 10000 < x.2.size)

end Ks
