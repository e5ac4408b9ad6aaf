/- How many letters are like one: plain; two letters compared. -/
import Derived.Test.YtpdnjhofmngfdaaLaw30b
namespace Ks
open Go Go.RowKit
set_option linter.unusedVariables false
open Go.Proofs.Ytpdnjhofmngfdaa

def eqB (x y : Let) : Bool := decide (x = y)
def cnt (x : Let) : List Let → Nat
  | [] => 0
  | y :: l => (if eqB y x = true then 1 else 0) + cnt x l
theorem cnt_append (x : Let) (a b : List Let) : cnt x (a ++ b) = cnt x a + cnt x b := by
  induction a with
  | nil => simp [cnt]
  | cons y a ih => rw [List.cons_append, cnt, cnt, ih]; omega
theorem cnt_one (x y : Let) : cnt x [y] = if eqB y x = true then 1 else 0 := rfl
theorem cnt_le (x : Let) (l : List Let) : cnt x l ≤ l.length := by
  induction l with
  | nil => simp [cnt]
  | cons y l ih => rw [cnt, List.length_cons]; split <;> omega
theorem cnt_snoc (x : Let) (l : List Let) (k : Nat) (y : Let) (h : l[k]? = some y) : cnt x (l.take (k + 1)) = cnt x (l.take k) + if eqB y x = true then 1 else 0 := by
  rw [take_snoc l k y h, cnt_append, cnt_one]
theorem mem_cnt (x : Let) (l : List Let) (h : 0 < cnt x l) : x ∈ l := by
  induction l with
  | nil => simp [cnt] at h
  | cons y l ih =>
    rw [cnt] at h
    by_cases e : eqB y x = true
    · simp [eqB] at e; simp [e]
    · rw [if_neg e] at h; exact List.mem_cons_of_mem _ (ih (by omega))
theorem cnt_of_mem (x : Let) (l : List Let) (h : x ∈ l) : 0 < cnt x l := by
  induction l with
  | nil => simp at h
  | cons y l ih =>
    rw [cnt]
    rcases List.mem_cons.1 h with rfl | h
    · simp [eqB]; omega
    · have := ih h; omega
theorem cnt_cut (x : Let) (l : List Let) (k : Nat) (y : Let) (h : l[k]? = some y) : cnt x l = cnt x (l.take k ++ l.drop (k + 1)) + if eqB y x = true then 1 else 0 := by
  have e : l = l.take k ++ (y :: l.drop (k + 1)) := by
    obtain ⟨hlt, rfl⟩ := List.getElem?_eq_some_iff.1 h
    rw [← List.drop_eq_getElem_cons hlt, List.take_append_drop]
  conv => lhs; rw [e]
  rw [cnt_append, cnt_append, cnt]
  omega

theorem str_toList (s t : ByteArray) : (s.toList = t.toList) ↔ s = t := by
  constructor
  · intro h
    rw [ByteArray.toList_eq, ByteArray.toList_eq] at h
    cases s; cases t
    simp at h
    congr
  · rintro rfl; rfl

structure CountsAt (w wr : World) (TN TL : TypeId) (n : Nat) (v : Value) (L : List Let) (x : Let) (c : Int) (s : Bool) : Prop where
  net : NetAt wr TN TL n v L
  below : Below w.heap.size w wr
  nlow : w.heap.size ≤ n
  vlow : ∀ b, v.ownBlock = some b → w.heap.size ≤ b
  cnt : c = cnt x L
  sent : 0 < Ks.cnt x L → s = true
theorem CountsAt.keep {w wr wx : World} {TN TL : TypeId} {n : Nat} {v : Value} {L : List Let} {x : Let} {c : Int} {s : Bool} (h : CountsAt w wr TN TL n v L x c s) (hb : Below wr.heap.size wr wx) : CountsAt w wx TN TL n v L x c s :=
  ⟨h.net.keep hb, h.below.trans (hb.mono h.below.size), h.nlow, h.vlow, h.cnt, h.sent⟩
theorem CountsAt.step {w wr w4 wx : World} {TN TL : TypeId} {n : Nat} {v v' : Value} {L L' : List Let} {x : Let} {c c' : Int} {s s' : Bool} (h : CountsAt w wr TN TL n v L x c s) (hb : Below wr.heap.size wr w4)
    (hN : NetAt wx TN TL n v' L') (hT : Turn w4 wx n v v') (hc : c' = Ks.cnt x L') (hs : 0 < Ks.cnt x L' → s' = true) : CountsAt w wx TN TL n v' L' x c' s' :=
  ⟨hN, (h.below.trans (hb.mono h.below.size)).trans (hT.below h.nlow h.vlow (Nat.le_trans h.below.size hb.size)), h.nlow, hT.low h.vlow (Nat.le_trans h.below.size hb.size), hc, hs⟩

theorem cells3 {w : World} {b : Nat} {c0 c1 c2 : Value} {T : TypeId} {fr : Nat × Nat} (h : w.heap[b]? = some (.cells #[c0, c1, c2] T fr)) : w.cell? ⟨b, 0, none⟩ = some c0 ∧ w.cell? ⟨b, 1, none⟩ = some c1 ∧ w.cell? ⟨b, 2, none⟩ = some c2 :=
  ⟨by rw [cell_of_row w b 0 _ _ _ h]; rfl, by rw [cell_of_row w b 1 _ _ _ h]; rfl, by rw [cell_of_row w b 2 _ _ _ h]; rfl⟩
def CntIn (cc : Int) (ss : Bool) (x : Let) (ls : List Let) (k2 : Nat) (c2 : Int) (s2 : Bool) : Prop := c2 = cc + cnt x (ls.take k2) ∧ (ss = true ∨ 0 < cnt x (ls.take k2) → s2 = true)
def isB (L : List Let) (n : Int) (x : Let) : Bool := if n < 0 ∨ (L.length : Int) ≤ n then false else eqB (letD L n) x
end Ks
namespace Go.Proofs.Ytpdnjhofmngfdaa
open Go.RowKit Ks
theorem eqL (w : World) (a b : Int) (s t : ByteArray) : (binOp .eql 24 (.agg #[.int .i64 a, .string s]) (.agg #[.int .i64 b, .string t])).run Try.prog w = .ok (.bool (eqB (a, s) (b, t))) w := by
  go_simp
  by_cases h1 : a = b <;> by_cases h2 : s.toList = t.toList
  · have h3 := (str_toList s t).1 h2
    simp [eqB, h1, h3]
  · have h3 : ¬ s = t := fun e => h2 ((str_toList s t).2 e)
    simp [eqB, h1, h2, h3]
  · simp [eqB, h1]
  · simp [eqB, h1]
end Go.Proofs.Ytpdnjhofmngfdaa
