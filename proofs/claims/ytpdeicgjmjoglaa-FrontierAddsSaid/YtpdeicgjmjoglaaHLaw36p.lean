/- Frontiers in a law: what is kept of what is added. Plain. No program is in sight. -/
import Derived.Test.YtpdeicgjmjoglaaM1
import Derived.Test.YtpdeicgjmjoglaaM6
namespace Ks
open Go Go.RowKit
set_option linter.unusedVariables false
/-- the hashes among them -/
def keepL (l : List ByteArray) : List ByteArray := l.filter fun s => s.size == 32
theorem keep_take (l : List ByteArray) (k : Nat) (x : ByteArray) (h : l[k]? = some x) : keepL (l.take (k + 1)) = if x.size = 32 then keepL (l.take k) ++ [x] else keepL (l.take k) := by
  have e : l.take (k + 1) = l.take k ++ [x] := by rw [List.take_add_one, h]; rfl
  rw [e, keepL, List.filter_append]
  by_cases hx : x.size = 32
  · rw [if_pos hx]; simp [hx, keepL]
  · rw [if_neg hx]; simp [hx, keepL]
theorem keep_len (l : List ByteArray) (k : Nat) : (keepL (l.take k)).length ≤ k := by
  have h1 : (keepL (l.take k)).length ≤ (l.take k).length := List.length_filter_le _ _
  rw [List.length_take] at h1
  omega
theorem keep_whole (l : List ByteArray) (h : wholeL l = true) : keepL l = l := by
  rw [keepL, List.filter_eq_self]
  intro a ha
  simp only [wholeL, List.all_eq_true] at h
  exact h a ha
theorem keep_is (l : List ByteArray) : wholeL (keepL l) = true := by
  simp only [wholeL, keepL, List.all_eq_true, List.mem_filter]
  exact fun x h => h.2
/-- a frontier of the law's own -/
structure FrontOwn (w wx : World) (TN : TypeId) (n : Nat) (v : Value) (l : List ByteArray) : Prop where
  at_ : FrontAt wx TN n v l
  below : Below w.heap.size w wx
  ge : w.heap.size ≤ n
  lt : ∀ b, v.ownBlock = some b → b < wx.heap.size
theorem FrontOwn.keep {w wx w' : World} {TN : TypeId} {n : Nat} {v : Value} {l : List ByteArray} (h : FrontOwn w wx TN n v l) (hb : Below wx.heap.size wx w') : FrontOwn w w' TN n v l :=
  ⟨h.at_.keep hb, h.below.trans (hb.mono h.below.size), h.ge, fun b e => Nat.lt_of_lt_of_le (h.lt b e) hb.size⟩
theorem FrontOwn.added {w wx w' : World} {TN : TypeId} {n : Nat} {v v' : Value} {l l' : List ByteArray} (h : FrontOwn w wx TN n v l) (h' : FrontAt w' TN n v' l') (hs : Solo wx w' n) (hv : ∀ b, v'.ownBlock = some b → wx.heap.size ≤ b ∧ b < w'.heap.size) : FrontOwn w w' TN n v' l' :=
  ⟨h', h.below.trans (hs.below h.ge h.below.size), h.ge, fun b e => (hv b e).2⟩
theorem FrontOwn.other {w wx w' : World} {TN : TypeId} {n m : Nat} {v : Value} {l : List ByteArray} (h : FrontOwn w wx TN n v l) (hs : Solo wx w' m) (hne : m ≠ n) (hv : v.ownBlock ≠ some m) (hm : w.heap.size ≤ m) : FrontOwn w w' TN n v l :=
  ⟨⟨(hs.block n h.at_.lt (Ne.symm hne)).trans h.at_.blk, hs.rd h.at_.row hv, h.at_.ne, h.at_.wide, h.at_.few⟩, h.below.trans (hs.below hm h.below.size), h.ge, fun b e => Nat.lt_of_lt_of_le (h.lt b e) hs.size⟩
theorem Solo.row {α : Type} {E : Enc α} {w w' : World} {n B : Nat} {T : TypeId} {v : Value} {l : List α} (h : Solo w w' n) (hr : Row E w B T v l) (hne : v.ownBlock ≠ some n) : Row E w' B T v l :=
  hr.keep fun b e => h.block b (hr.lt e).2 fun e2 => hne (by rw [e, e2])
end Ks
