/- Texts that the claim rests on, part 4: MovedMore, MerkleLow, RangeSeen, RangeMoved, MerkleLevels, MerkleRoot, StepCall. -/
import Derived.Shelf.Abstract
import Derived.RangeFuncNested
import Derived.RangeFuncBound
import Derived.RangeFuncCalls
import Derived.RangeFuncLeaves
import Derived.OrdersIn
import Derived.Shelf.RegionOpen
import Derived.OwnWalkIn
import Derived.TacticsInMore
import Derived.LoopNIn
import Derived.LoopIn
import Derived.WalkMore
import Derived.Test.YtophfeapmmfppaaM3
/- A region that draws its order, some of whose steps turn what was there: an operation that alone may be done now; an append. Plain. No program is in sight. -/
namespace Ks
open Go Go.RowKit
set_option linter.unusedVariables false
section
variable {P : Program} {ops : Array Oper} {md : Region.Mode} {C : Told → World → Prop}
/-- an operation that alone may be done now -/
theorem mv_alone {Q : Told → Act → Prop} {fuel : Nat} {listed : Array Bool} {F : Told} {a : Act} (i : Nat) {o : Oper}
    (ho : ops[i]? = some o) (hr : Region.ready md ops listed = [i]) (hw : Region.wanted o (yielded ops a.tmps) = true) (V : Value → Prop)
    (hc : ∀ g w, agree md o F g → g i = none → C g w → ∀ D : Value → World → Prop, (∀ v w', V v → C (upd g i v) w' → D v w') → movesUpon P D ((execOp a.eval o).run P w))
    (hK : ∀ v, V v → wpAnyM P md ops C Q fuel (listed.setIfInBounds i true) (upd F i v) (a.put o.dst v)) : wpAnyM P md ops C Q (fuel + 1) listed F a := by
  refine ⟨by rw [hr]; simp, fun j hj => ?_⟩
  rw [hr] at hj
  obtain rfl : j = i := by simpa using hj
  exact Moves.mOp (V := V) ho (.inl ⟨hw, fun g w h0 h1 h2 => hc g w h0 h1 h2 _ fun v w' a b => ⟨a, b⟩⟩) hK
/-- an append that alone may be done now -/
theorem mv_append {α : Type} {E : Enc α} {Q : Told → Act → Prop} {fuel : Nat} {listed : Array Bool} {F : Told} {a : Act} (i : Nat) {o : Oper}
    (ho : ops[i]? = some o) (hr : Region.ready md ops listed = [i]) (hg : o.guard = none) (s x : Operand) (t : TypeId)
    (hop : o.op = .call { callee := .builtin .append, args := #[s, x], argTypes := #[t, t] }) {e : TypeId} {bytes : Nat} (T : ElemT P t e E.k bytes) (B : Nat)
    (v lv : Value) (L l : List α) (hs : a.eval s = v) (hx : a.eval x = lv) (b1 : L.length + l.length ≤ 140000000) (b2 : bytes ≤ 1000)
    (hrow : ∀ g w, agree md o F g → g i = none → C g w → Row E w B e v L ∧ Rd E w lv l ∧ B ≤ w.heap.size)
    (V : Value → Prop) (hV : ∀ g w v' w', agree md o F g → g i = none → C g w → Grew E w w' B e v v' (L ++ l) → V v' ∧ C (upd g i v') w')
    (hK : ∀ v', V v' → wpAnyM P md ops C Q fuel (listed.setIfInBounds i true) (upd F i v') (a.put o.dst v')) : wpAnyM P md ops C Q (fuel + 1) listed F a := by
  refine mv_alone i ho hr (by simp [Region.wanted, hg]) V (fun g w h0 h1 h2 D hD => ?_) hK
  obtain ⟨r1, r2, r3⟩ := hrow g w h0 h1 h2
  obtain ⟨v', w', hrun, r⟩ := run_append_row (P := P) (t := t) (ty := o.type) T w B v lv L l r1 r2 r3 b1 b2
  simp [execOp, hop, resolve, invoke, builtin, hs, hx, hrun, Result.andThen, movesUpon]
  exact hD _ _ (hV g w v' w' h0 h1 h2 r).1 (hV g w v' w' h0 h1 h2 r).2
end
/-- what is read, or reckoned, wherever it was not yet -/
theorem mv_readN {P : Program} {ops : Array Oper} {md : Region.Mode} {C : Told → World → Prop} {Q : Told → Act → Prop} {fuel : Nat} {listed : Array Bool} {f : Told} {a : Act} (i : Nat) {o : Oper} {S : Type} {F : S → World} (hF : ∀ f w, f i = none → C f w → ∃ s, w = F s) (hm : ∀ f w v, f i = none → C f w → C (upd f i v) w)
    (ho : ops[i]? = some o) (hs : Region.noSelect ops = true) (hfree : Region.free md ops listed i = true) (hr : (Region.ready md ops listed).contains i = true)
    (h : ∀ K : Value → Act → Prop, (∀ v a, wpAnyM P md ops C Q fuel (listed.setIfInBounds i true) (upd f i v) a → K v a) → if Region.wanted o (yielded ops a.tmps) then ∃ v, (∀ s, Oper.quietUpon P (fun w' => w' = F s) (F s) v ((execOp a.eval o).run P (F s))) ∧ K v (a.put o.dst v) else K undef (a.put o.dst undef)) :
    wpAnyM P md ops C Q (fuel + 1) listed f a := by
  have h := h (fun v a => wpAnyM P md ops C Q fuel (listed.setIfInBounds i true) (upd f i v) a) fun _ _ h => h
  have key : ∀ u, Moves P md ops C o i (fun v => v = u) f a → wpAnyM P md ops C Q fuel (listed.setIfInBounds i true) (upd f i u) (a.put o.dst u) → wpAnyM P md ops C Q (fuel + 1) listed f a := fun u h1 h2 =>
    wpAnyM_first ho (Region.noSelect_spec hs) fuel listed f a (Region.free_spec ho hfree) (by simpa using hr) h1 h2
  split at h
  · rename_i hw
    obtain ⟨v, h1, h2⟩ := h
    refine key v (.inl ⟨hw, fun g w _ hn hC => ?_⟩) h2
    obtain ⟨s, rfl⟩ := hF g w hn hC
    have h3 := h1 s
    generalize (execOp a.eval o).run P (F s) = r at *
    cases r with
    | ok n w' =>
      cases n <;> simp only [Oper.quietUpon] at h3 <;> simp only [movesUpon]
      case value u => obtain ⟨rfl, rfl⟩ := h3; exact ⟨rfl, hm _ _ _ hn hC⟩
      case skip => obtain ⟨rfl, rfl⟩ := h3; exact ⟨rfl, hm _ _ _ hn hC⟩
      case enter g args =>
        obtain ⟨rfl, h4⟩ := h3
        exact h4.mono fun e w'' ⟨he, hw''⟩ => by subst hw''; exact ⟨v, he, rfl, hm _ _ _ hn hC⟩
    | halt x w' => simp only [Oper.quietUpon] at h3
  · rename_i hw
    exact key undef (.inr ⟨by simpa using hw, rfl, fun g w _ hn hC => hm _ _ _ hn hC⟩) h
theorem moved_classN (C : Told → World → Prop) (i : Nat) : ∃ (S : Type) (F : S → World), (∀ f w, f i = none → C f w → ∃ s, w = F s) ∧ ∀ s, ∃ f, f i = none ∧ C f (F s) :=
  ⟨{ x : Told × World // x.1 i = none ∧ C x.1 x.2 }, fun s => s.1.2, fun f w h1 h => ⟨⟨(f, w), h1, h⟩, rfl⟩, fun s => ⟨s.1.1, s.2⟩⟩
theorem grown_trans {w w1 w2 : World} {r : Option Nat} (h : w.grownBy w1 r) (k : Below w1.heap.size w1 w2) : w.grownBy w2 r :=
  ⟨k.os.trans h.os, k.tape.trans h.tape, k.output.trans h.output, Nat.le_trans h.size k.size, fun j hj hr => (k.block j (Nat.lt_of_lt_of_le hj h.size)).trans (h.block j hj hr)⟩
theorem below_grown {w w1 w2 : World} {r : Option Nat} (h : Below w.heap.size w w1) (k : w1.grownBy w2 r) : w.grownBy w2 r :=
  ⟨k.os.trans h.os, k.tape.trans h.tape, k.output.trans h.output, Nat.le_trans h.size k.size, fun j hj hr => (k.block j (Nat.lt_of_lt_of_le hj h.size) hr).trans (h.block j hj)⟩
theorem grown_of {w w1 : World} (h : Below w.heap.size w w1) (r : Option Nat) : w.grownBy w1 r := below_grown h (World.grownBy.refl w1 r)
/-- a class of worlds behind one, where an own row grows: s is what is appended, u the row that it becomes -/
def Appends {α : Type} (E : Enc α) (B : Nat) (w0 : World) (T : TypeId) (v : Value) (L l : List α) (s u : Option Value) (w : World) : Prop :=
  match u with
  | none => Below w0.heap.size w0 w ∧ Row E w B T v L ∧ ∀ x, s = some x → Rd E w x l
  | some u => w0.grownBy w v.ownBlock ∧ (u.ownBlock = v.ownBlock ∨ ∀ b, u.ownBlock = some b → w0.heap.size ≤ b) ∧ Row E w B T u (L ++ l)
section
variable {α : Type} {E : Enc α} {B : Nat} {w0 w w' : World} {T : TypeId} {v : Value} {L l : List α} {s u : Option Value}
theorem Appends.start (h : Row E w0 B T v L) (hb : Below w0.heap.size w0 w) : Appends E B w0 T v L l none none w := ⟨hb, h.below hb, fun x hx => by cases hx⟩
theorem Appends.on (h : Appends E B w0 T v L l s u w) (hb : Below w.heap.size w w') : Appends E B w0 T v L l s u w' := by
  cases u with
  | none => exact ⟨h.1.trans (hb.mono h.1.size), h.2.1.below hb, fun x hx => (h.2.2 x hx).below hb⟩
  | some u => exact ⟨grown_trans h.1 hb, h.2.1, h.2.2.below hb⟩
theorem Appends.size (h : Appends E B w0 T v L l s u w) : w0.heap.size ≤ w.heap.size := by
  cases u with
  | none => exact h.1.size
  | some u => exact h.1.size
theorem Appends.grown (h : Appends E B w0 T v L l s u w) : w0.grownBy w v.ownBlock := by
  cases u with
  | none => exact grown_of h.1 _
  | some u => exact h.1
theorem Appends.cell {a : Addr} {x : Value} (h : Appends E B w0 T v L l s u w) (hc : w0.cell? a = some x) (hne : v.ownBlock ≠ some a.block) : w.cell? a = some x :=
  h.grown.cell hc fun e => hne e.symm
theorem Appends.block {b : Nat} {o : Obj} (h : Appends E B w0 T v L l s u w) (hc : w0.heap[b]? = some o) (hne : v.ownBlock ≠ some b) : w.heap[b]? = some o :=
  (h.grown.block b (lt_of_block hc) fun e => hne e.symm).trans hc
/-- what is appended, in a new block -/
theorem Appends.made (h : Appends E B w0 T v L l s u w) (cs : Array Value) (e : cs.toList = E.cs l) (fr : Nat × Nat := (0, 0)) : Appends E B w0 T v L l (some (.slice (some ⟨w.heap.size, 0, none⟩) l.length l.length)) u (w.alloc (.cells cs T fr)) := by
  have hb := alloc_below w (.cells cs T fr)
  cases u with
  | none => exact ⟨h.1.trans (hb.mono h.1.size), h.2.1.below hb, fun x hx => by cases hx; exact Rd.block (alloc_new w _) e⟩
  | some u => exact ⟨grown_trans h.1 hb, h.2.1, h.2.2.below hb⟩
theorem Appends.grew {v' : Value} (h : Appends E B w0 T v L l s none w) (hG : Grew E w w' B T v v' (L ++ l)) : Appends E B w0 T v L l s (some v') w' :=
  ⟨below_grown h.1 hG.2.1, hG.2.2.1.imp id fun hh b e => Nat.le_trans h.1.size (hh b e), hG.1⟩
theorem Appends.rows {lv : Value} (h : Appends E B w0 T v L l (some lv) none w) (hB : B ≤ w0.heap.size) : Row E w B T v L ∧ Rd E w lv l ∧ B ≤ w.heap.size := ⟨h.2.1, h.2.2 lv rfl, Nat.le_trans hB h.1.size⟩
end
/-- the same, where the row lies in a box: a: what was read of it, z: that it was stored -/
def AppStore {α : Type} (E : Enc α) (B : Nat) (w0 : World) (T : TypeId) (v : Value) (L l : List α) (bo : Nat) (a s u z : Option Value) (w : World) : Prop :=
  match z with
  | none => Appends E B w0 T v L l s u w ∧ (u ≠ none → a ≠ none ∧ s ≠ none)
  | some _ => (a ≠ none ∧ s ≠ none) ∧ ∃ u' w1, u = some u' ∧ Appends E B w0 T v L l s (some u') w1 ∧ w = w1.setCell ⟨bo, 0, none⟩ u'
section
variable {α : Type} {E : Enc α} {B bo : Nat} {w0 w w' : World} {T : TypeId} {v : Value} {L l : List α} {a s u z : Option Value}
theorem AppStore.start (h : Row E w0 B T v L) (hb : Below w0.heap.size w0 w) : AppStore E B w0 T v L l bo none none none none w := ⟨Appends.start h hb, fun h => absurd rfl h⟩
theorem AppStore.read (x : Value) (h : AppStore E B w0 T v L l bo a s u z w) : AppStore E B w0 T v L l bo (some x) s u z w := by
  cases z with
  | none => exact ⟨h.1, fun hu => ⟨(fun e => by cases e), (h.2 hu).2⟩⟩
  | some z => exact ⟨⟨(fun e => by cases e), h.1.2⟩, h.2⟩
/-- what was there stands, but for the row and its box -/
theorem AppStore.cell {ad : Addr} {x : Value} (h : AppStore E B w0 T v L l bo a s u z w) (hc : w0.cell? ad = some x) (hne : v.ownBlock ≠ some ad.block) (hbo : ad.block ≠ bo) : w.cell? ad = some x := by
  cases z with
  | none => exact h.1.cell hc hne
  | some z =>
    obtain ⟨_, u', w1, _, h1, rfl⟩ := h
    have hfar : (w1.setCell ⟨bo, 0, none⟩ u').cell? ad = w1.cell? ad := World.cell?_of_block (Below.heap_setCell _ _ _ _ hbo)
    rw [hfar]
    exact h1.cell hc hne
/-- the box, ahead of its reading -/
theorem AppStore.box {x : Value} (h : AppStore E B w0 T v L l bo none s u z w) (hc : w0.cell? ⟨bo, 0, none⟩ = some x) (hne : v.ownBlock ≠ some bo) : w.cell? ⟨bo, 0, none⟩ = some x := by
  cases z with
  | none => exact h.1.cell hc hne
  | some z => exact absurd rfl h.1.1
theorem AppStore.unread (h : AppStore E B w0 T v L l bo a s u none w) : Appends E B w0 T v L l s u w := h.1
theorem AppStore.early (h : AppStore E B w0 T v L l bo a none u z w) : u = none ∧ z = none := by
  cases z with
  | none =>
    cases u with
    | none => exact ⟨rfl, rfl⟩
    | some u => exact absurd rfl (h.2 (fun e => by cases e)).2
  | some z => exact absurd rfl h.1.2
theorem AppStore.mid (h : AppStore E B w0 T v L l bo a s none z w) : z = none := by
  cases z with
  | none => rfl
  | some z => obtain ⟨_, u', w1, e, _⟩ := h; cases e
theorem AppStore.made (h : AppStore E B w0 T v L l bo a none u z w) (cs : Array Value) (e : cs.toList = E.cs l) (fr : Nat × Nat := (0, 0)) : AppStore E B w0 T v L l bo a (some (.slice (some ⟨w.heap.size, 0, none⟩) l.length l.length)) u z (w.alloc (.cells cs T fr)) := by
  obtain ⟨rfl, rfl⟩ := h.early
  exact ⟨h.1.made cs e fr, fun h => absurd rfl h⟩
theorem AppStore.rows {lv : Value} (h : AppStore E B w0 T v L l bo a (some lv) none z w) (hB : B ≤ w0.heap.size) : Row E w B T v L ∧ Rd E w lv l ∧ B ≤ w.heap.size := by
  obtain rfl := h.mid
  exact h.1.rows hB
theorem AppStore.grew {v' : Value} {x y : Value} (h : AppStore E B w0 T v L l bo (some x) (some y) none z w) (hG : Grew E w w' B T v v' (L ++ l)) : AppStore E B w0 T v L l bo (some x) (some y) (some v') z w' := by
  obtain rfl := h.mid
  exact ⟨h.1.grew hG, fun _ => ⟨(fun e => by cases e), (fun e => by cases e)⟩⟩
theorem AppStore.stored {v' y : Value} (h : AppStore E B w0 T v L l bo a s (some v') none w) : AppStore E B w0 T v L l bo a s (some v') (some y) (w.setCell ⟨bo, 0, none⟩ v') :=
  ⟨h.2 (fun e => by cases e), v', w, rfl, h.1, rfl⟩
theorem AppStore.done {u' y : Value} (h : AppStore E B w0 T v L l bo a s (some u') (some y) w) : ∃ w1, w0.grownBy w1 v.ownBlock ∧ Row E w1 B T u' (L ++ l) ∧ w = w1.setCell ⟨bo, 0, none⟩ u' := by
  obtain ⟨_, u2, w1, e, h1, rfl⟩ := h
  cases e
  exact ⟨w1, h1.1, h1.2.2, rfl⟩
theorem Appends.frozen {ad : Addr} {x : Value} (h : Appends E B w0 T v L l s u w) (hc : w0.cell? ad = some x) (hf : w0.frozen? ad = false) (hne : v.ownBlock ≠ some ad.block) : w.frozen? ad = false := by
  rw [World.frozen?_of_block (h.grown.block ad.block (World.block_lt_of_cell? _ _ hc) fun e => hne e.symm)]
  exact hf
end
end Ks
/- Trees of hashes: a leaf's and a node's hash; whether all are hashes; the level above. -/
namespace Ks
open Go Go.RowKit
set_option linter.unusedVariables false
theorem leafS_eq (s : ByteArray) : shaS (0 :: s.data.toList) = leafS s := rfl
theorem nodeS_eq (a b : ByteArray) : shaS (insideL a b) = nodeS a b := rfl
theorem inside_cat (a b : ByteArray) : (ByteArray.mk #[1] ++ a ++ b) = insideS a b := by
  cases a with | mk a => cases b with | mk b => cases a with | mk a => cases b with | mk b => simp [insideS, insideL, ByteArray.mk_append_mk]
theorem inside_size (a b : ByteArray) : (insideS a b).size = 1 + a.size + b.size := by
  rw [← data_length]
  show (insideL a b).length = _
  rw [insideL, List.length_cons, List.length_append, data_length, data_length]; omega
theorem leafS_size (a : ByteArray) : (leafS a).size = 32 := sha1_size _
/-- the first that is not so -/
def idxS (p : ByteArray → Bool) : List ByteArray → Int
  | [] => -1
  | x :: l => if p x then 0 else (if idxS p l = -1 then -1 else idxS p l + 1)
theorem idxS_low (p : ByteArray → Bool) (l : List ByteArray) : -1 ≤ idxS p l := by
  induction l with
  | nil => exact Int.le_refl _
  | cons x l ih => rw [idxS]; split <;> (try split) <;> omega
theorem idxS_none (p : ByteArray → Bool) (l : List ByteArray) (h : ∀ x ∈ l, p x = false) : idxS p l = -1 := by
  induction l with
  | nil => rfl
  | cons x l ih => rw [idxS, h x (by simp), ih fun y hy => h y (by simp [hy])]; rfl
theorem idxS_hit (p : ByteArray → Bool) (l : List ByteArray) (k : Nat) (x : ByteArray) (hx : l[k]? = some x) (hq : p x = true) (hno : ∀ i, i < k → ∀ y, l[i]? = some y → p y = false) : idxS p l = k := by
  induction l generalizing k with
  | nil => simp at hx
  | cons a l ih =>
    cases k with
    | zero => simp at hx; subst hx; rw [idxS, hq]; rfl
    | succ k =>
      have h1 := hno 0 (by omega) a rfl
      have h2 := ih k (by simpa using hx) fun i hi y hy => hno (i + 1) (by omega) y (by simpa using hy)
      rw [idxS, h1, h2]
      rw [if_neg (by simp), if_neg (by omega)]
      omega
theorem idxS_any (p : ByteArray → Bool) (l : List ByteArray) : decide (0 ≤ idxS p l) = l.any p := by
  induction l with
  | nil => rfl
  | cons x l ih =>
    have := idxS_low p l
    rw [idxS, List.any_cons, ← ih]
    cases p x with
    | true => simp
    | false =>
      rw [if_neg (by simp), Bool.false_or]
      split
      · rename_i h; rw [h]
      · rw [decide_eq_decide]; omega
theorem whole_any' (l : List ByteArray) : (l.any fun s => (s.size : Int) != 32) = !wholeL l := by
  unfold wholeL
  rw [List.not_all_eq_any_not]
  congr 1
  funext s
  rw [Bool.eq_iff_iff]; simp [bne_iff_ne]; omega
theorem above_get (l : List ByteArray) (k : Nat) (h : 2 * k + 1 < l.length) : aboveL (l.take (2 * k + 2)) = aboveL (l.take (2 * k)) ++ [nodeS (l[2 * k]'(by omega)) l[2 * k + 1]] := by
  have e : l.take (2 * k + 2) = l.take (2 * k) ++ [l[2 * k]'(by omega), l[2 * k + 1]] := by
    rw [List.take_succ_eq_append_getElem (by omega), List.take_succ_eq_append_getElem (by omega), List.append_assoc]; rfl
  rw [e, above_append k _ _ (by rw [List.length_take]; omega)]
  rfl
theorem above_last (l : List ByteArray) (k : Nat) (h : 2 * k + 1 = l.length) : aboveL l = aboveL (l.take (2 * k)) ++ [l[2 * k]'(by omega)] := by
  have e : l = l.take (2 * k) ++ [l[2 * k]'(by omega)] := by
    conv => lhs; rw [← List.take_of_length_le (show l.length ≤ 2 * k + 1 by omega)]
    rw [List.take_succ_eq_append_getElem (by omega)]
  conv => lhs; rw [e]
  rw [above_append k _ _ (by rw [List.length_take]; omega)]
  rfl
end Ks
namespace Go.Proofs.Ytophfeapmmfppaa
open Go.RowKit Ks
set_option linter.unusedVariables false
theorem Try.infoS : (Try.prog.info? 9).map (fun i => (i.zero, i.size, i.bytes)) = some (some (.string ⟨#[]⟩), 1, 16) := by kernel_rfl
theorem strT : ElemT Try.prog 22 9 strE.k 16 := elemT_of Try.underlying22 Try.infoS rfl
theorem leaf_any (s : ByteArray) (w : World) (h : s.size ≤ 10000000000) : Calls Try.prog 12 #[.string s] w fun e w' => e = .returned (.string (leafS s)) ∧ Below w.heap.size w w' := by
  refine calls_by fun R HR => ?_
  have H := Lib.hid h
  clear h
  go_enter Try.func12, Try.ntmps12
  go_wp2_with fail
  refine (sum2_any ⟨#[0]⟩ s _ w (by decide) H.out).mono ?_
  rintro e w1 ⟨rfl, hb⟩
  have HB := Lib.hid hb
  clear hb
  rw [show shaS ((ByteArray.mk #[0]).data.toList ++ s.data.toList) = leafS s from rfl]
  go_wp2
  exact HR.out _ _ ⟨rfl, HB.out⟩
theorem inside_any (a b : ByteArray) (w : World) (h : a.size ≤ 10000000000) (h2 : b.size ≤ 10000000000) : Calls Try.prog 30 #[.string a, .string b] w fun e w' => e = .returned (.string (insideS a b)) ∧ w' = w := by
  refine calls_by fun R HR => ?_
  have HC := Lib.hid (inside_cat a b)
  go_enter Try.func30, Try.ntmps30
  go_wp2
  exact HR.out _ _ ⟨by rw [← HC.out]; rfl, rfl⟩
theorem node_any (a b : ByteArray) (w : World) (h : a.size ≤ 10000000000) (h2 : b.size ≤ 10000000000) : Calls Try.prog 14 #[.string a, .string b] w fun e w' => e = .returned (.string (nodeS a b)) ∧ Below w.heap.size w w' := by
  refine calls_by fun R HR => ?_
  have H := Lib.hid (show (insideS a b).size ≤ 50000000000 by rw [inside_size]; omega)
  have HA := Lib.hid h
  have HB := Lib.hid h2
  clear h h2
  go_enter Try.func14, Try.ntmps14
  go_wp2_with fail
  refine (inside_any a b w HA.out HB.out).mono ?_
  rintro e w1 ⟨rfl, hw⟩
  subst hw
  go_wp2_with fail
  refine (sum1_any (insideS a b) _ _ H.out).mono ?_
  rintro e w2 ⟨rfl, hb⟩
  have HB := Lib.hid hb
  clear hb
  rw [show shaS (insideS a b).data.toList = nodeS a b from rfl]
  go_wp2
  exact HR.out _ _ ⟨rfl, HB.out⟩
theorem notwide_any (s : ByteArray) (w : World) : Calls Try.prog 35 #[.string s] w fun e w' => e = .returned (.bool ((s.size : Int) != 32)) ∧ Below w.heap.size w w' := by
  refine calls_by fun R HR => ?_
  go_enter Try.func35, Try.ntmps35
  go_wp2
  exact HR.out _ _ ⟨rfl, Below.refl _ _⟩
set_option maxHeartbeats 1000000 in
theorem indexS_any (g : Nat) (lb : Array Value) (eg : ∀ args w, (callFunc g args).run Try.prog w = .ok (.enter g args) w) (p : ByteArray → Bool) (lv : Value) (l : List ByteArray) (w : World) (hl : Rd strE w lv l) (hlen : l.length ≤ 9223372036854775807)
    (hp : ∀ x w', Below w.heap.size w w' → Calls Try.prog g (#[.string x] ++ lb) w' fun e w'' => e = .returned (.bool (p x)) ∧ Below w'.heap.size w' w'') :
    Calls Try.prog 49 #[lv, .func (.func g) #[] lb] w fun e w' => e = .returned (.int .i64 (idxS p l)) ∧ Below w.heap.size w w' := by
  refine calls_by fun R HR => ?_
  obtain ⟨a, cap, rfl, hcap, -⟩ := hl.shape
  have HL := Lib.hid hl
  have Hp := Lib.hid hp
  clear hl hp
  go_enter Try.func49, Try.ntmps49
  go_wp2
  go_loopw [8] (fun i wr => ∃ k : Nat, k ≤ l.length ∧ i = .int .i64 k ∧ Hid (∀ (i : Nat), i < k → ∀ (y : ByteArray), l[i]? = some y → p y = false) ∧ Below w.heap.size w wr) (fun i _ => l.length - (intOf i).toNat)
  case atStart => exact ⟨0, by omega, rfl, Lib.hid (fun i hi => absurd hi (by omega)), Below.refl _ _⟩
  case round =>
    obtain ⟨k, hk, rfl, hno, hbel⟩ := hrel
    by_cases hlt : k < l.length
    · obtain ⟨b, o, rfl, hb, c1⟩ := (HL.out.below hbel).str k hlt
      have hx := Lib.hid (List.getElem?_eq_getElem hlt)
      generalize l[k] = x at c1 hx
      have hcall := Hp.out x wr hbel
      cases hq : p x with
      | true =>
        rw [hq] at hcall
        go_wp2_with (go_at_fn g; refine hcall.mono ?_; rintro e w' ⟨rfl, hb'⟩)
        refine HR.out _ _ ⟨?_, hbel.trans (hb'.mono hbel.size)⟩
        rw [idxS_hit p l k x hx.out hq hno.out]; rfl
      | false =>
        rw [hq] at hcall
        go_wp2_with (go_at_fn g; refine hcall.mono ?_; rintro e w' ⟨rfl, hb'⟩)
        go_roundw
        case rel =>
          refine ⟨k + 1, by omega, by go_num, Lib.hid fun i hi y hy => ?_, hbel.trans (hb'.mono hbel.size)⟩
          by_cases e : i = k
          · subst e; rw [hx.out] at hy; cases hy; exact hq
          · exact hno.out i (by omega) y hy
        case measure => simp [intOf]; omega
    · obtain rfl : k = l.length := by omega
      have Q := Lib.hid (idxS_none p l fun x hx => by
        obtain ⟨i, hi, rfl⟩ := List.getElem_of_mem hx
        exact hno.out i hi _ (List.getElem?_eq_getElem hi))
      go_wp2
      refine HR.out _ _ ⟨?_, hbel⟩
      rw [Q.out]; rfl
theorem containsS_any (lv : Value) (l : List ByteArray) (w : World) (hl : Rd strE w lv l) (hlen : l.length ≤ 9223372036854775807) :
    Calls Try.prog 34 #[lv, .func (.func 35) #[] #[]] w fun e w' => e = .returned (.bool (!wholeL l)) ∧ Below w.heap.size w w' := by
  refine calls_by fun R HR => ?_
  have hi := indexS_any 35 #[] (fun _ _ => rfl) (fun s => (s.size : Int) != 32) lv l w hl hlen fun x w' _ => notwide_any x w'
  have hq := idxS_any (fun s => (s.size : Int) != 32) l
  rw [whole_any'] at hq
  generalize idxS (fun s => (s.size : Int) != 32) l = q at *
  go_enter Try.func34, Try.ntmps34
  go_wp2_with fail
  refine hi.mono ?_
  rintro e w1 ⟨rfl, hb⟩
  have Q := Lib.hid hq
  clear hi hq
  go_wp2
  exact HR.out _ _ ⟨by rw [← Q.out]; rfl, hb⟩
theorem whole_any (lv : Value) (l : List ByteArray) (w : World) (hl : Rd strE w lv l) (hlen : l.length ≤ 9223372036854775807) :
    Calls Try.prog 25 #[lv] w fun e w' => e = .returned (.bool (wholeL l)) ∧ Below w.heap.size w w' := by
  refine calls_by fun R HR => ?_
  obtain ⟨a, cap, rfl, hcap, -⟩ := hl.shape
  have HC := Lib.hid (containsS_any _ l w hl hlen)
  clear hl hlen hcap
  generalize wholeL l = b at *
  go_enter Try.func25, Try.ntmps25
  go_wp2_with fail
  refine HC.out.mono ?_
  rintro e w1 ⟨rfl, hb⟩
  have HB := Lib.hid hb
  clear hb
  cases b <;>
  · go_wp2
    exact HR.out _ _ ⟨rfl, HB.out⟩
theorem whole_get {l : List ByteArray} (h : wholeL l = true) (i : Nat) (x : ByteArray) (hx : l[i]? = some x) : x.size = 32 := by
  have := List.mem_of_getElem? hx
  simp only [wholeL, List.all_eq_true, beq_iff_eq] at h
  exact h x this
theorem eg_node : ∀ args w, (callFunc 14 args).run Try.prog w = .ok (.enter 14 args) w := fun _ _ => rfl
set_option maxRecDepth 20000 in
set_option maxHeartbeats 4000000 in
theorem above_any (lv : Value) (l : List ByteArray) (w : World) (hl : Rd strE w lv l) (hw : wholeL l = true) (hlen : l.length ≤ 100000000) :
    Calls Try.prog 37 #[lv] w fun e w' => ∃ v, e = .returned v ∧ Row strE w' w.heap.size 9 v (aboveL l) ∧ Below w.heap.size w w' := by
  refine calls_by fun R HR => ?_
  obtain ⟨a, cap, rfl, hcap, -⟩ := hl.shape
  have HL := Lib.hid (And.intro hl (And.intro hw hlen))
  have hli : (l.length : Int) ≤ 100000000 := by omega
  clear hl hw hlen
  go_enter Try.func37, Try.ntmps37
  go_wp2_with fail
  go_loopw [3, 4] (fun o0 i wr => ∃ (k : Nat) (ov : Value), k ≤ l.length ∧ ov = o0 ∧ i = .int .i64 k ∧ Hid ((∃ j, k = 2 * j) ∧ Row strE wr w.heap.size 9 ov (aboveL (l.take k)) ∧ Below w.heap.size w wr)) (fun _ i _ => l.length + 1 - (intOf i).toNat)
  case atStart => exact ⟨0, _, by omega, rfl, rfl, Lib.hid ⟨⟨0, rfl⟩, Row.nil _ _ _, Below.refl _ _⟩⟩
  case round =>
    obtain ⟨k, ov, hk, rfl, rfl, hN⟩ := hrel
    by_cases hlt : k < l.length
    · have hki : (k : Int) < (l.length : Int) := by omega
      have HAL := Lib.hid (show (aboveL (l.take k)).length ≤ 100000000 by rw [above_length, List.length_take]; have := HL.out.2.2; omega)
      have hrd := HL.out.1.below hN.out.2.2
      by_cases hlast : k + 1 = l.length
      · obtain ⟨b, o, rfl, hb, c1⟩ := hrd.str k hlt
        have HA := Lib.hid (show aboveL l = aboveL (l.take k) ++ [l[k]] by
          obtain ⟨j, rfl⟩ := hN.out.1
          exact above_last l j hlast)
        have hkl : ((k : Int) + 1 == (l.length : Int)) = true := by rw [beq_iff_eq]; omega
        generalize l[k] = x at *
        have HB := Lib.hid hb
        clear hrd hb hlast
        go_wp2_with (at_builtin; refine wpList_append_row _ rfl _ _ 22 rfl strT w.heap.size _ _ (aboveL (l.take k)) [x] rfl rfl (hN.out.2.1.below (alloc_below wr _)) (Rd.single x (alloc_new wr _) rfl) (by have := hN.out.2.2.size; simp; omega) (by have := HAL.out; simp; omega) (by decide) ?_)
        intro v' w2 hG
        have HG := Lib.hid (And.intro (show Row strE w2 w.heap.size 9 v' (aboveL l) by rw [HA.out]; exact hG.1) (hG.below (hN.out.2.2.trans ((alloc_below wr _).mono hN.out.2.2.size)) (by have := hN.out.2.2.size; simp; omega) (fun b hb => (hN.out.2.1.lt hb).1)))
        clear hG
        go_wp2
        exact HR.out _ _ ⟨_, rfl, HG.out⟩
      · have hlt2 : k + 1 < l.length := by omega
        obtain ⟨b, o, rfl, hb, c1⟩ := hrd.str k hlt
        obtain ⟨b', o', e', hb', c2⟩ := hrd.str (k + 1) hlt2
        simp only [Option.some.injEq, Addr.mk.injEq, and_true] at e'
        obtain ⟨rfl, rfl⟩ := e'
        have HA := Lib.hid (show aboveL (l.take (k + 2)) = aboveL (l.take k) ++ [nodeS l[k] l[k + 1]] by
          obtain ⟨j, rfl⟩ := hN.out.1
          exact above_get l j hlt2)
        have hkl : ((k : Int) + 1 == (l.length : Int)) = false := by rw [beq_eq_false_iff_ne]; omega
        have z1 := whole_get HL.out.2.1 k _ (List.getElem?_eq_getElem hlt)
        have z2 := whole_get HL.out.2.1 (k + 1) _ (List.getElem?_eq_getElem hlt2)
        have hbw : b < w.heap.size := by
          obtain ⟨b9, o9, e9, h9, _⟩ := HL.out.1.str k hlt
          simp only [Option.some.injEq, Addr.mk.injEq, and_true] at e9
          omega
        have HB0 := Lib.hid hbw
        clear hbw
        generalize l[k] = x at *
        generalize l[k + 1] = y at *
        have dc := Lib.hid (fun w => node_any x y w (by omega) (by omega))
        have hki2 : (k : Int) + 1 < (l.length : Int) := by omega
        have hki0 : 0 ≤ (k : Int) + 1 := by omega
        have hwr : IntKind.i64.wrap ((k : Int) + 1) = (k : Int) + 1 := by rw [IntKind.wrap_i64]; omega
        have hne : ov.ownBlock ≠ some b := fun e => by have h1 := (hN.out.2.1.lt e).1; have h2 := HB0.out; omega
        generalize hz : nodeS x y = z at *
        go_wp2_with fail
        refine wp_region_mv (fun f => Appends strE w.heap.size wr 9 ov (aboveL (l.take k)) [z] (f 11) (f 12)) (by kernel_rfl) (Appends.start hN.out.2.1 (drew_below wr)) ?_
        obtain ⟨S, F, hF, hFC⟩ := moved_class (fun f => Appends strE w.heap.size wr 9 ov (aboveL (l.take k)) [z] (f 11) (f 12))
        have k0 : ∀ s, (F s).cell? ⟨b, o + k, none⟩ = some (.string x) := fun s => (hFC s).choose_spec.cell c1 hne
        have k1 : ∀ s, (F s).cell? ⟨b, o + (k + 1), none⟩ = some (.string y) := fun s => (hFC s).choose_spec.cell c2 hne
        clear hrd hb hb' c1 c2 z1 z2 hlast
        show wpAnyM _ _ _ _ _ 14 (Array.replicate 14 false) _ _
        refine mv_read 0 hF (fun _ _ _ h => h) rfl (by kernel_rfl) (by kernel_rfl) (by kernel_rfl) (fun K hK => ?_)
        go_simp
        first | refine ⟨_, fun _ => rfl, hK _ _ ?_⟩ | refine hK _ _ ?_
        clear hK K
        refine mv_read 1 hF (fun _ _ _ h => h) rfl (by kernel_rfl) (by kernel_rfl) (by kernel_rfl) (fun K hK => ?_)
        go_simp
        first | refine ⟨_, fun _ => rfl, hK _ _ ?_⟩ | refine hK _ _ ?_
        clear hK K
        refine mv_read 2 hF (fun _ _ _ h => h) rfl (by kernel_rfl) (by kernel_rfl) (by kernel_rfl) (fun K hK => ?_)
        go_simp
        first | refine ⟨_, fun _ => rfl, hK _ _ ?_⟩ | refine hK _ _ ?_
        clear hK K
        refine mv_read 3 hF (fun _ _ _ h => h) rfl (by kernel_rfl) (by kernel_rfl) (by kernel_rfl) (fun K hK => ?_)
        go_simp
        first | refine ⟨_, fun _ => rfl, hK _ _ ?_⟩ | refine hK _ _ ?_
        clear hK K
        refine mv_read 4 hF (fun _ _ _ h => h) rfl (by kernel_rfl) (by kernel_rfl) (by kernel_rfl) (fun K hK => ?_)
        go_simp
        first | refine ⟨_, fun _ => rfl, hK _ _ ?_⟩ | refine hK _ _ ?_
        clear hK K
        refine mv_read 5 hF (fun _ _ _ h => h) rfl (by kernel_rfl) (by kernel_rfl) (by kernel_rfl) (fun K hK => ?_)
        go_simp
        first | refine ⟨_, fun _ => rfl, hK _ _ ?_⟩ | refine hK _ _ ?_
        clear hK K
        refine mv_read 6 hF (fun _ _ _ h => h) rfl (by kernel_rfl) (by kernel_rfl) (by kernel_rfl) (fun K hK => ?_)
        go_simp
        first | refine ⟨_, fun _ => rfl, hK _ _ ?_⟩ | refine hK _ _ ?_
        clear hK K
        refine mv_read 7 hF (fun _ _ _ h => h) rfl (by kernel_rfl) (by kernel_rfl) (by kernel_rfl) (fun K hK => ?_)
        go_simp
        first | refine ⟨_, fun _ => rfl, hK _ _ ?_⟩ | refine hK _ _ ?_
        clear hK K
        refine mv_read 8 hF (fun _ _ _ h => h) rfl (by kernel_rfl) (by kernel_rfl) (by kernel_rfl) (fun K hK => ?_)
        go_simp
        first | refine ⟨_, fun _ => rfl, hK _ _ ?_⟩ | refine hK _ _ ?_
        clear hK K
        refine mv_read 9 hF (fun _ _ _ h => h) rfl (by kernel_rfl) (by kernel_rfl) (by kernel_rfl) (fun K hK => ?_)
        go_simp
        first | refine ⟨_, fun _ => rfl, hK _ _ ?_⟩ | refine hK _ _ ?_
        clear hK K
        refine mv_call1 10 14 rfl (by kernel_rfl) (by kernel_rfl) (by kernel_rfl) rfl rfl eg_node (args := #[.string x, .string y]) rfl (u := .string z) (fun g w _ _ h => (dc.out w).mono fun e w' ⟨h1, h2⟩ => ⟨h1, h.on h2⟩) ?_
        refine mv_alone 11 rfl (by kernel_rfl) rfl (fun v => ∃ g, v = .slice (some ⟨g, 0, none⟩) 1 1) (fun g w _ _ h D hD => ?_) ?_
        · go_simp
          exact hD _ _ ⟨_, rfl⟩ (h.made #[.string z] rfl)
        rintro _ ⟨gs, rfl⟩
        refine mv_append 12 rfl (by kernel_rfl) rfl (.tmp 23) (.tmp 34) 22 rfl strT w.heap.size _ _ (aboveL (l.take k)) [z] rfl rfl (by have := HAL.out; simp; omega) (by decide) (fun g w ha h0 h => ?_) (fun _ => True) (fun g w v' w' ha h0 h hG => ?_) ?_
        · have e1 : g 11 = some (.slice (some ⟨gs, 0, none⟩) 1 1) := (agree_on 11 ha (by kernel_rfl)).trans rfl
          simp only [e1, h0] at h
          exact h.rows hN.out.2.2.size
        · simp only [h0] at h
          exact ⟨trivial, h.grew hG⟩
        rintro vz -
        refine mv_read 13 hF (fun _ _ _ h => h) rfl (by kernel_rfl) (by kernel_rfl) (by kernel_rfl) (fun K hK => ?_)
        go_simp
        first | refine ⟨_, fun _ => rfl, hK _ _ ?_⟩ | refine hK _ _ ?_
        clear hK K
        refine mv_end (by kernel_rfl) ?_
        intro w2 hw2
        have HG : Appends strE w.heap.size wr 9 ov (aboveL (l.take k)) [z] (some (.slice (some ⟨gs, 0, none⟩) 1 1)) (some vz) w2 := hw2
        have HG := Lib.hid (And.intro (show Row strE w2 w.heap.size 9 vz (aboveL (l.take (k + 2))) by rw [HA.out]; exact HG.2.2) (hN.out.2.2.grown HG.1 hN.out.2.2.size (fun b e => (hN.out.2.1.lt e).1)))
        clear hw2 hF hFC k0 k1
        go_wp2_with fail
        go_roundw
        case rel => exact ⟨k + 2, _, by omega, rfl, by go_num, Lib.hid ⟨by obtain ⟨j, rfl⟩ := hN.out.1; exact ⟨j + 1, by omega⟩, HG.out.1, HG.out.2⟩⟩
        case measure => simp [intOf]; omega
    · obtain rfl : k = l.length := by omega
      have HX := hN.out.2
      rw [List.take_length] at HX
      have HX2 := Lib.hid HX
      clear HX
      go_wp2
      exact HR.out _ _ ⟨_, rfl, HX2.out⟩
end Go.Proofs.Ytophfeapmmfppaa
/- A range over a function that hands on what lies in memory (slices): the contract says of each what it reads as where it is handed. The loop's body leaves no way but its end. Plain. No program is in sight. -/
namespace Ks
open Go Go.RowKit
set_option linter.unusedVariables false

/-- What an iterator hands on: behind the last round (world A) x was made (world B), of which New tells; X is what it reads of x behind the round. -/
def SeenAll {α : Type} (F : Fence) (n : Nat) (P : Program) (g : Nat) (lb : Array Value) (encs : α → Array Value) (X : α → World → Prop) (New : List α → α → World → World → Prop) (x0 : α) (S : List α → Prop) (w : World) : Prop :=
  ∀ (l : Nat) (J : List α → World → Prop) (M : List α → α → World → Prop) (W : World), Below w.heap.size w W →
    (∀ pre A B, J pre A → Below A.heap.size A B → J pre B) → (∀ pre x A B, J pre A → Below A.heap.size A B → New pre x A B → M pre x B) →
    (∀ pre x W1, M pre x W1 → YieldAt F (n - 1) P l (encs x) W1 fun e W' => e = .returned (.bool true) ∧ J (pre ++ [x]) W' ∧ X x W') →
    (∀ A, Below W.heap.size W A → M [] x0 A) →
    CallsIn F n P g (#[.func (.yield l) #[] #[]] ++ lb) W fun e W' => (∃ v, e = .returned v) ∧ ∃ xs, S xs ∧ J xs W'

def seenPost {α : Type} (B : Nat) (I : List α → World → Prop) (X : α → World → Prop) (pre : List α) (x : α) (W : World) : Exit → Act → World → Prop
  | .normal, _, W' => KeepsFrom B W W' ∧ I (pre ++ [x]) W' ∧ X x W'
  | _, _, _ => False

theorem wpIn_range_seen {F : Fence} {n : Nat} {P : Program} {α : Type} {g : Operand} {ps : Array Tmp} {assign body : Code} {Q : Exit → Act → World → Prop} {a : Act} {w : World}
    (hro : F.round = none) (h1 : 1 ≤ n) {gf : Nat} {lb : Array Value} (hg : a.eval g = .func (.func gf) #[] lb) (hFg : F.fn gf) (eg : ∀ args w, (callFunc gf args).run P w = .ok (.enter gf args) w)
    {encs : α → Array Value} {X : α → World → Prop} {New : List α → α → World → World → Prop} {x0 : α} {S : List α → Prop} (hseq : SeenAll F (n - 1) P gf lb encs X New x0 S w) (hps : ∀ x, (encs x).size = ps.size)
    (I : List α → World → Prop) (M : List α → α → World → Prop) (hI : OwnFrom w.heap.size I) (hM : OwnFrom w.heap.size fun (s : List α × α) W => M s.1 s.2 W) (hX : OwnFrom w.heap.size X)
    (hIB : ∀ pre A B, I pre A → w.heap.size + 2 ≤ A.heap.size → Below A.heap.size A B → I pre B) (hIM : ∀ pre x A B, I pre A → w.heap.size + 2 ≤ A.heap.size → Below A.heap.size A B → New pre x A B → M pre x B)
    (h0 : ∀ A, Below w.heap.size w A → M [] x0 A) (a₁ : α → Act)
    (hassign : ∀ (l : Nat) (x : α) (W : World) (K : Act → World → Prop), K (a₁ x) W →
      assign.wpIn (F.inRound l) (n - 1 - 1) P (Exit.then K (fun _ _ _ => False)) { tmps := (ps.zip (encs x)).foldl (fun t (p, v) => t.setIfInBounds p v) a.tmps, defers := [] } W)
    (hbody : ∀ (l : Nat) (pre : List α) (x : α) (W : World), w.heap.size + 2 ≤ W.heap.size → M pre x W → body.wpIn (F.inRound l) (n - 1 - 1) P (seenPost w.heap.size I X pre x W) (a₁ x) W)
    (hdone : ∀ (D : Nat) (xs : List α) (W : World), w.heap.size ≤ D → S xs → I xs W → W.heap[D]? = some (.deferred (some [])) → Q .normal { a with defers := { target := .collected D, args := #[] } :: a.defers } W) :
    (Code.rangeFunc g ps assign body).wpIn F n P Q a w := by
  refine wpIn_rangeFunc fun fn hfn => ?_
  rw [hro]
  obtain ⟨mk, hmk⟩ : ∃ mk : LoopState → Loop, mk = fun st => { state := st, pending := none, fn, tmps := a.tmps, params := ps, assign, body, defers := w.heap.size } := ⟨_, rfl⟩
  obtain ⟨V, hV⟩ : ∃ V, (w.alloc (.deferred (some []))).alloc (.loop (mk .ready)) = V := ⟨_, rfl⟩
  have hs2 : V.heap.size = w.heap.size + 2 := by rw [← hV]; simp
  have hrec : V.heap[w.heap.size + 1]? = some (.loop (mk .ready)) := by
    rw [← hV]; have := World.alloc_heap_new (w.alloc (.deferred (some []))) (.loop (mk .ready)); rwa [World.size_alloc] at this
  have hdef : V.heap[w.heap.size]? = some (.deferred (some [])) := by
    rw [← hV]; exact (Below.heap_alloc _ _ _ (by simp)).trans (World.alloc_heap_new w _)
  have hwV : Below w.heap.size w V := by rw [← hV]; exact ((Below.refl _ w).alloc (Nat.le_refl _) _).alloc (by simp) _
  have lt : ∀ {A : World} {k : Nat} {o : Obj}, A.heap[k]? = some o → k < A.heap.size := fun h => (Array.getElem?_eq_some_iff.1 h).1
  refine ⟨w.heap.size + 1, [{ target := .collected w.heap.size, args := #[] }], V, { target := .fn (.func gf) lb, args := #[.func (.yield (w.heap.size + 1)) #[] #[]] }, V, gf,
    #[.func (.yield (w.heap.size + 1)) #[] #[]] ++ lb, V, by rw [← hV, hmk]; exact run_enterLoop_outer _ _ _ _ _, by simp only [resolve, hg]; simp [go_sem],
    fun f' hf' => by simp [Target.leads] at hf'; subst hf'; exact hFg, by simp [invoke, go_sem, eg], fun _ => h1, ?_⟩
  have key := hseq (w.heap.size + 1) (fun pre W => I pre W ∧ W.heap[w.heap.size + 1]? = some (.loop (mk .ready)) ∧ W.heap[w.heap.size]? = some (.deferred (some [])))
    (fun pre x W => M pre x W ∧ W.heap[w.heap.size + 1]? = some (.loop (mk .ready)) ∧ W.heap[w.heap.size]? = some (.deferred (some []))) V hwV
    (fun pre A B h hb => ⟨hIB pre A B h.1 (by have := lt h.2.1; omega) hb, (hb.block _ (lt h.2.1)).trans h.2.1, (hb.block _ (lt h.2.2)).trans h.2.2⟩)
    (fun pre x A B h hb hn => ⟨hIM pre x A B h.1 (by have := lt h.2.1; omega) hb hn, (hb.block _ (lt h.2.1)).trans h.2.1, (hb.block _ (lt h.2.2)).trans h.2.2⟩)
    (fun pre x W h => ?_) (fun A hb => ⟨h0 A (hwV.trans (hb.mono (by omega))), (hb.block _ (by omega)).trans hrec, (hb.block _ (by omega)).trans hdef⟩)
  · refine key.mono ?_
    rintro e W2 ⟨⟨v, rfl⟩, xs, hS, hi, hl, hk⟩
    exact ⟨none, _, by have := run_endLoop (P := P) hl (by rw [hmk]; simp); rw [hmk] at this; exact this, hdone _ xs _ (Nat.le_refl _) hS (hI.putObj _ hi (by omega) hl rfl) ((World.putObj_heap_other (by omega)).trans hk)⟩
  · obtain ⟨hm, hl, hk⟩ := h
    have hlt := lt hl
    have hy := run_yield (P := P) (args := encs x) hl (by rw [hmk]; exact hps x)
    rw [hmk] at hy
    refine ⟨fn, _, assign, body, hy, roundIn_of_wpIn hfn (hassign _ x W _ ⟨_, run_beginRound hl (by rw [hmk]), ?_⟩)⟩
    have hl2 : (W.putObj (w.heap.size + 1) (.loop { mk .ready with state := .busy })).heap[w.heap.size + 1]? = some (.loop { mk .ready with state := .busy }) := World.putObj_heap_same hlt
    have hk2 : (W.putObj (w.heap.size + 1) (.loop { mk .ready with state := .busy })).heap[w.heap.size]? = some (.deferred (some [])) := (World.putObj_heap_other (by omega)).trans hk
    refine wpIn_mono (hbody _ pre x _ (by simp; omega) (hM.putObj (s := (pre, x)) _ hm (by omega) hl rfl)) ?_
    rintro e a3 W3 hp
    cases e with
    | normal =>
      obtain ⟨hk3, hi3, hx3⟩ := hp
      have hl3 := hk3.same _ _ (by omega) hl2 rfl
      have hd3 := hk3.same _ _ (Nat.le_refl _) hk2 rfl
      have hr := run_endRound (P := P) none hl3
      have hlt3 := lt hl3
      refine ⟨_, _, hr, rfl, ⟨hI.putObj _ hi3 (by omega) hl3 rfl, ?_, (World.putObj_heap_other (by omega)).trans hd3⟩, hX.putObj _ hx3 (by omega) hl3 rfl⟩
      rw [World.putObj_heap_same hlt3, hmk]
      rfl
    | ret => exact hp.elim
    | exit id => exact hp.elim
    | goto t => exact hp.elim
    | panic ch => exact hp.elim
    | outgrown => exact hp.elim
end Ks
/- A region that draws its order in a round of a range over a function, walked once by its class of worlds. Plain. No program is in sight. -/
namespace Ks
open Go Go.RowKit
set_option linter.unusedVariables false
def noDeferB (ops : Array Oper) : Bool := ops.all fun o => match o.op with | .defer _ => false | _ => true
theorem noDefer_at {ops : Array Oper} (h : noDeferB ops = true) {i : Nat} {o : Oper} (ho : ops[i]? = some o) : ∀ c, o.op ≠ .defer c := by
  intro c e
  have hi := (Array.getElem?_eq_some_iff.1 ho)
  obtain ⟨hi, rfl⟩ := hi
  have := Array.all_eq_true.1 h i hi
  rw [e] at this
  cases this
section
variable {P : Program} {ops : Array Oper} {md : Region.Mode} {C : Told → World → Prop} {l n : Nat}
theorem wpOpIn_of_mOp {i : Nat} {f : Told} {a : Act} {K : Told → Act → Prop} {K' : Act → World → Prop} {Q' : Exit → Act → World → Prop} {w : World} (hnd : noDeferB ops = true) (hf : f i = none) (hC : C f w) (h : ∀ v a w', C (upd f i v) w' → K (upd f i v) a → K' a w') (hh : mOp P md ops C i K f a) : wpOpIn (Fence.wide.inRound l) n P ops Q' i K' a w := by
  unfold mOp at hh
  unfold wpOpIn
  split
  · rename_i ho; simp only [ho] at hh
  · rename_i o ho
    simp only [ho] at hh
    obtain ⟨V, h1, h2⟩ := hh
    rcases h1 with ⟨hw, h1⟩ | ⟨hw, hV, h1⟩
    · rw [if_pos hw]
      have h3 := h1 f w (fun _ _ _ => rfl) hf hC
      refine ⟨fun _ _ => trivial, ?_⟩
      rw [Oper.semAt_eq _ _ _ (noDefer_at hnd ho)]
      generalize (execOp a.eval o).run P w = r at *
      cases r with
      | ok n w' =>
        cases n <;> simp only [movesUpon] at h3 <;> simp only [Oper.uponIn]
        case value u => exact h _ _ _ h3.2 (h2 _ h3.1)
        case skip => exact h _ _ _ h3.2 (h2 _ h3.1)
        case enter g args =>
          refine ⟨(fun e => by cases e), ?_⟩
          exact CallsIn.inRound l (callsIn_wide.2 (h3.mono fun e w'' ⟨v, he, hv, hw''⟩ => by subst he; exact h _ _ _ hw'' (h2 _ hv)))
      | halt x w' => simp only [movesUpon] at h3
    · rw [if_neg (by simp [hw])]
      exact ⟨fun _ _ => trivial, h _ _ _ (h1 f w (fun _ _ _ => rfl) hf hC) (h2 _ hV)⟩
theorem wpAnyIn_of_moved {Q : Told → Act → Prop} {Q' : Exit → Act → World → Prop} (hnd : noDeferB ops = true) (hQ : ∀ f a w, C f w → Q f a → Q' .normal a w) : ∀ (fuel : Nat) (listed : Array Bool) (f : Told) (a : Act) (w : World), (∀ i, listed.getD i true = false → f i = none) → C f w →
    wpAnyM P md ops C Q fuel listed f a → wpAnyIn (Fence.wide.inRound l) n P md ops Q' fuel listed a w
  | 0, _, _, _, _, _, hw, h => ⟨h.1, hQ _ _ _ hw h.2⟩
  | fuel + 1, listed, f, _, _, hi, hw, h => ⟨fun h0 => absurd h0 h.1, fun i hr => by
      have h0 := (mem_ready.1 hr).1
      refine wpOpIn_of_mOp hnd (hi i h0) hw (fun v a' w' hw' => wpAnyIn_of_moved hnd hQ fuel _ _ a' w' (fun j hj => ?_) hw') (h.2 i hr)
      by_cases e : j = i
      · subst e
        have hlt : j < listed.size := by
          rcases Nat.lt_or_ge j listed.size with h' | h'
          · exact h'
          · simp [Array.getElem?_eq_none h'] at h0
        simp [hlt] at hj
      · rw [getD_set_ne true (Ne.symm e)] at hj
        rw [upd_ne _ _ e]; exact hi j hj⟩
theorem wpIn_region_mv {id : Nat} {Q : Exit → Act → World → Prop} {a : Act} {w : World} {L : List Oper} (C : Told → World → Prop) (hm : P.follows .mixedOrders = true) (hnd : noDeferB L.toArray = true) (hC : C (fun _ => none) w.drew)
    (h : wpAnyM P .any L.toArray C (fun f a' => ∀ w', C f w' → Q .normal a' w') L.length (Array.replicate L.length false) (fun _ => none) a) : (Code.region id L.toArray true).wpIn (Fence.wide.inRound l) n P Q a w :=
  wpIn_region_any hm (wpAnyIn_of_moved (C := C) (Q := fun f a => ∀ w', C f w' → Q .normal a w') hnd (fun f a w hw h => h w hw) _ _ (fun _ => none) _ _ (fun _ _ => rfl) hC (by simpa using h))
end
end Ks
/- Trees of hashes: the levels, handed on by a function. -/
namespace Ks
open Go Go.RowKit
set_option linter.unusedVariables false
def levelsL (l : List ByteArray) : List (List ByteArray) :=
  if h : 2 ≤ l.length then l :: levelsL (aboveL l) else [l]
termination_by l.length
decreasing_by rw [above_length]; omega
theorem levels_two (l : List ByteArray) (h : 2 ≤ l.length) : levelsL l = l :: levelsL (aboveL l) := by rw [levelsL, dif_pos h]
theorem levels_low (l : List ByteArray) (h : ¬ 2 ≤ l.length) : levelsL l = [l] := by rw [levelsL, dif_neg h]
abbrev Lev := Value × List ByteArray
def levX (x : Lev) (w : World) : Prop := Rd strE w x.1 x.2
def levNew (l : List ByteArray) (T : TypeId) (pre : List Lev) (x : Lev) (A B : World) : Prop := Row strE B A.heap.size T x.1 x.2 ∧ ∃ t, pre.map Prod.snd ++ x.2 :: t = levelsL l
theorem levels_head (l : List ByteArray) : ∃ t, levelsL l = l :: t := by
  by_cases h : 2 ≤ l.length
  · exact ⟨_, levels_two l h⟩
  · exact ⟨[], levels_low l h⟩
def lenV : Value → Nat
  | .slice _ n _ => n
  | _ => 0
theorem above_whole (l : List ByteArray) (h : wholeL l = true) : wholeL (aboveL l) = true := by
  have key : ∀ n (l : List ByteArray), l.length ≤ n → wholeL l = true → wholeL (aboveL l) = true := by
    intro n
    induction n with
    | zero => intro l hn _; (obtain rfl : l = [] := List.length_eq_zero_iff.1 (by omega)); rfl
    | succ n ih =>
      intro l hn h
      match l, hn, h with
      | [], _, _ => rfl
      | [a], _, h => exact h
      | a :: b :: l, hn, h =>
        simp only [List.length_cons] at hn
        simp only [wholeL, List.all_cons, Bool.and_eq_true, beq_iff_eq] at h
        have := ih l (by omega) h.2.2
        simp only [aboveL, wholeL, List.all_cons, nodeS_size, Bool.and_eq_true, beq_iff_eq, true_and]
        exact this
  exact key _ l (Nat.le_refl _) h
theorem wpIn_scope_wide {P : Program} {n : Nat} {c : Code} {Q : Exit → Act → World → Prop} {a : Act} {w : World} (h : c.wpIn Fence.wide n P (Exit.noGoto Q) a w) : (Code.scope c).wpIn Fence.wide n P Q a w := wpIn_wide.2 (wp_scope_straight (wpIn_wide.1 h))
theorem wpIn_label_wide {P : Program} {n l : Nat} {Q : Exit → Act → World → Prop} {a : Act} {w : World} (h : Q .normal a w) : (Code.label l).wpIn Fence.wide n P Q a w := wpIn_wide.2 (wp_label h)
end Ks
namespace Go.Proofs.Ytophfeapmmfppaa
open Go.RowKit Ks
set_option linter.unusedVariables false
attribute [local go_sem] Oper.semAt_some
theorem levels_any (a : Option Addr) (k c : Nat) (w : World) : Calls Try.prog 26 #[.slice a k c] w fun e w' => e = .returned (.func (.func 36) #[] #[.pointer (some ⟨w.heap.size, 0, none⟩)]) ∧ w' = w.alloc (.cells #[.slice a k c] 22) := by
  refine calls_by fun R HR => ?_
  go_enter Try.func26, Try.ntmps26
  go_wp2
  exact HR.out _ _ ⟨rfl, rfl⟩
set_option maxRecDepth 100000 in
set_option maxHeartbeats 2000000 in
theorem levels_seen (n Bn : Nat) (lv : Value) (l : List ByteArray) (w : World) (hBn : Bn < w.heap.size) (hc : w.cell? ⟨Bn, 0, none⟩ = some lv) (hr : Rd strE w lv l) (hw : wholeL l = true) (hl : l.length ≤ 100000000) :
    SeenAll Fence.wide n Try.prog 36 #[.pointer (some ⟨Bn, 0, none⟩)] (fun x : Lev => #[x.1]) levX (levNew l 9) (lv, l) (fun xs => xs.map Prod.snd = levelsL l) w := by
  intro lp J M W hW hJ hM hY h0
  have hcW : W.cell? ⟨Bn, 0, none⟩ = some lv := (hW.cell (p := ⟨Bn, 0, none⟩) hBn).trans hc
  have HJ := Lib.hid hJ
  have HMn := Lib.hid hM
  have HY := Lib.hid hY
  have H0 := Lib.hid (h0 W (Below.refl _ _))
  have HS := Lib.hid (And.intro hw (And.intro hl hr))
  clear hJ hM hY h0 hw hl
  obtain ⟨a0, cap0, rfl, -⟩ := hr.shape
  clear hr hc
  refine callsIn_of_wp Try.func36 rfl trivial ?_ rfl
  simp only [Try.ntmps36, List.size_toArray, List.length_cons, List.length_nil, Nat.reduceAdd, Nat.reduceSub, Array.replicate_succ, Array.replicate_zero, List.push_toArray, List.append_toArray, List.nil_append, List.cons_append]
  gi_wp2
  refine wpIn_scope_wide ?_
  gi_wp2
  refine wpIn_label_wide ?_
  gi_wp2
  gi_loopw [3] (fun v wr => ∃ (pre : List Lev) (L : List ByteArray) (a : Option Addr) (c : Nat), .slice a L.length c = v ∧ Hid (M pre (.slice a L.length c, L) wr ∧ wholeL L = true ∧ L.length ≤ 100000000 ∧ pre.map Prod.snd ++ levelsL L = levelsL l)) (fun v _ => lenV v)
  case atStart => exact ⟨[], l, a0, cap0, rfl, Lib.hid ⟨H0.out, HS.out.1, HS.out.2.1, rfl⟩⟩
  case round =>
    obtain ⟨pre, L, a, c, rfl, hN⟩ := hrel
    obtain ⟨fn, tmps, assign, body, hy, hR⟩ := HY.out pre (.slice a L.length c, L) wr hN.out.1
    dsimp only at hy
    have HR3 := Lib.hid hR
    clear hR
    by_cases h2 : 2 ≤ L.length
    · have h2i : ¬ (L.length : Int) < 2 := by omega
      have HL := Lib.hid h2
      clear h2
      gi_wp2
      refine ⟨(fun e => by cases e), HR3.out.mono ?_⟩
      rintro e W3 ⟨rfl, hJ3, hX3⟩
      have H3 := Lib.hid (And.intro hJ3 hX3)
      clear hJ3 hX3
      gi_wp2
      refine ⟨trivial, (fun e => by cases e), (callsIn_wide.2 (above_any _ L W3 H3.out.2 hN.out.2.1 hN.out.2.2.1)).mono ?_⟩
      rintro e w4 ⟨v', rfl, hrow, hb⟩
      obtain ⟨a', c', hv', -⟩ := hrow.shape
      have H4 := Lib.hid (And.intro hrow hb)
      clear hrow hb
      subst hv'
      gi_wp2
      go_roundw
      case rel =>
        have hnext : (pre ++ [((.slice a L.length c, L) : Lev)]).map Prod.snd ++ levelsL (aboveL L) = levelsL l := by rw [← hN.out.2.2.2, levels_two L HL.out]; simp
        obtain ⟨t, ht⟩ := levels_head (aboveL L)
        refine ⟨pre ++ [(.slice a L.length c, L)], aboveL L, a', c', rfl, Lib.hid ⟨HMn.out _ _ W3 _ H3.out.1 H4.out.2 ⟨H4.out.1, t, by rw [← hnext, ht]⟩, above_whole L hN.out.2.1, ?_, hnext⟩⟩
        rw [above_length]; have := hN.out.2.2.1; omega
      case measure =>
        show lenV _ < lenV _
        simp only [lenV]
        rw [above_length]; have := HL.out; omega
    · have h2i : (L.length : Int) < 2 := by omega
      have HL := Lib.hid h2
      clear h2
      gi_wp2
      refine ⟨(fun e => by cases e), HR3.out.mono ?_⟩
      rintro e W3 ⟨rfl, hJ3, hX3⟩
      have H3 := Lib.hid (And.intro hJ3 hX3)
      clear hJ3 hX3
      gi_wp2
      simp only [Exit.noGoto]
      gi_wp2
      go_end0
      exact ⟨⟨_, rfl⟩, pre ++ [(.slice a L.length c, L)], by rw [← hN.out.2.2.2, levels_low L HL.out]; simp, H3.out.1⟩
end Go.Proofs.Ytophfeapmmfppaa
/- Trees of hashes: the root of leaves. -/
namespace Ks
open Go Go.RowKit
set_option linter.unusedVariables false
def rootsOf : ByteArray → List (List ByteArray) → ByteArray
  | r, [] => r
  | r, l :: ls => rootsOf (if l.length = 1 then l.headD ⟨#[]⟩ else r) ls
theorem rootsOf_snoc (r : ByteArray) (ls : List (List ByteArray)) (l : List ByteArray) : rootsOf r (ls ++ [l]) = if l.length = 1 then l.headD ⟨#[]⟩ else rootsOf r ls := by
  induction ls generalizing r with
  | nil => rfl
  | cons x ls ih => exact ih _
theorem roots_levels : ∀ (n : Nat) (l : List ByteArray) (r : ByteArray), l.length ≤ n → rootsOf r (levelsL l) = if l.length = 0 then r else rootL l := by
  intro n
  induction n with
  | zero =>
    intro l r h
    obtain rfl : l = [] := List.length_eq_zero_iff.1 (by omega)
    rw [levels_low _ (by simp)]; rfl
  | succ n ih =>
    intro l r h
    by_cases h2 : 2 ≤ l.length
    · have ha := above_length l
      rw [levels_two l h2]
      show rootsOf (if l.length = 1 then l.headD ⟨#[]⟩ else r) (levelsL (aboveL l)) = _
      rw [if_neg (by omega), ih _ _ (by omega), if_neg (by omega), if_neg (by omega), root_above l (by omega)]
    · rw [levels_low l h2]
      match l, h2 with
      | [], _ => rfl
      | [a], _ => rw [root_one]; rfl
      | a :: b :: l, h2 => simp at h2
def rootV (l : List ByteArray) : ByteArray := if wholeL l then rootL l else ⟨#[]⟩
def wholeE (l : List ByteArray) : Int := if wholeL l then 0 else 2
theorem rd_own : Own (fun (x : Lev) W => Rd strE W x.1 x.2) := by
  intro s W W' row hs hg hr
  obtain ⟨a, cap, e, hc, hn, h⟩ := hs
  refine ⟨a, cap, e, hc, hn, fun i x hx => ?_⟩
  obtain ⟨b, o, h1, h2, h3⟩ := h i x hx
  exact ⟨b, o, h1, Nat.lt_of_lt_of_le h2 hg.size, fun j u hu => cell_kept (h3 j u hu) hg hr⟩
theorem Rd.put' {α : Type} {E : Enc α} {w : World} {v : Value} {l : List α} (h : Rd E w v l) {m o : Nat} (u : Value) (hm : l ≠ [] → v.ownBlock ≠ some m) : Rd E (w.setCell ⟨m, o, none⟩ u) v l := by
  cases l with
  | nil =>
    obtain ⟨a, cap, e, hc, hn, _⟩ := h
    exact ⟨a, cap, e, hc, hn, fun i x hx => by simp at hx⟩
  | cons x l => exact h.put u (hm (by simp))
theorem Rd.low {w : World} {v : Value} {l : List ByteArray} (h : Rd strE w v l) {b : Nat} (hb : w.heap.size ≤ b) : l ≠ [] → v.ownBlock ≠ some b := by
  intro hl e
  cases l with
  | nil => exact hl rfl
  | cons x l =>
    obtain ⟨a, cap, rfl, _⟩ := h.shape
    obtain ⟨b1, o1, rfl, h1, _⟩ := h.str 0 (by simp)
    simp [Value.ownBlock] at e
    omega
end Ks
namespace Go.Proofs.Ytophfeapmmfppaa
open Go.RowKit Ks
set_option linter.unusedVariables false
attribute [local go_sem] Oper.semAt_some
theorem root_no (lv : Value) (l : List ByteArray) (w : World) (hr : Rd strE w lv l) (hl : l.length ≤ 100000000) (hw : wholeL l = false) :
    Calls Try.prog 10 #[lv] w fun e w' => e = .returned (.tuple #[.string ⟨#[]⟩, .int .i64 2]) ∧ Below w.heap.size w w' := by
  have HW := whole_any lv l w hr (by omega)
  rw [hw] at HW
  obtain ⟨a, cap, rfl, -⟩ := hr.shape
  have HW := Lib.hid HW
  clear hr hl hw
  refine (callsIn_wide (n := 5)).1 ?_
  refine callsIn_of_wp_marks Try.func10 rfl trivial ?_ rfl
  simp only [Try.ntmps10, List.size_toArray, List.length_cons, List.length_nil, Nat.reduceAdd, Nat.reduceSub, Array.replicate_succ, Array.replicate_zero, List.push_toArray, List.append_toArray, List.nil_append, List.cons_append]
  gi_wp2
  refine ⟨trivial, (callsIn_wide.2 HW.out).mono ?_⟩
  rintro e w1 ⟨rfl, hb⟩
  have HB := Lib.hid hb
  clear hb
  gi_wp2
  exact ⟨_, results_tmp2 rfl _ _ _, rfl, HB.out⟩
set_option maxRecDepth 100000 in
set_option maxHeartbeats 2000000 in
theorem root_yes (lv : Value) (l : List ByteArray) (w : World) (hr : Rd strE w lv l) (hl : l.length ≤ 100000000) (hw : wholeL l = true) :
    Calls Try.prog 10 #[lv] w fun e w' => e = .returned (.tuple #[.string (rootL l), .int .i64 0]) ∧ Below w.heap.size w w' := by
  have HW := whole_any lv l w hr (by omega)
  rw [hw] at HW
  obtain ⟨a, cap, rfl, -⟩ := hr.shape
  have HW := Lib.hid HW
  have HS := Lib.hid (And.intro hr (And.intro hl hw))
  clear hr hl hw
  refine (callsIn_wide (n := 5)).1 ?_
  refine callsIn_of_wp_marks Try.func10 rfl trivial ?_ rfl
  simp only [Try.ntmps10, List.size_toArray, List.length_cons, List.length_nil, Nat.reduceAdd, Nat.reduceSub, Array.replicate_succ, Array.replicate_zero, List.push_toArray, List.append_toArray, List.nil_append, List.cons_append]
  gi_wp2
  refine ⟨trivial, (callsIn_wide.2 HW.out).mono ?_⟩
  rintro e w1 ⟨rfl, hb⟩
  have HB := Lib.hid hb
  clear hb
  gi_wp2
  refine ⟨trivial, (callsIn_wide.2 (sum0_any w1)).mono ?_⟩
  rintro e w2 ⟨rfl, hb⟩
  have HB2 := Lib.hid (HB.out.trans (hb.mono HB.out.size))
  clear hb
  gi_wp2
  refine ⟨trivial, (callsIn_wide.2 (levels_any a l.length cap _)).mono ?_⟩
  rintro e w4 ⟨rfl, rfl⟩
  have HLZ := Lib.hid (roots_levels l.length l (shaS []) (Nat.le_refl _))
  obtain ⟨Z, hZ⟩ : ∃ Z, shaS [] = Z := ⟨_, rfl⟩
  rw [hZ] at HLZ
  have HZ := Lib.hid (show Z = rootL [] by rw [← hZ, root_nil]; rfl)
  simp only [hZ] at *
  clear hZ
  have hs := blk1 (alloc_new w2 (.cells #[.string Z] 9))
  have hb0 := blk1 (alloc_new (w2.alloc (.cells #[.string Z] 9)) (.cells #[.slice a l.length cap] 22))
  rw [World.size_alloc] at hb0
  have hB0 : Below w.heap.size w ((w2.alloc (.cells #[.string Z] 9)).alloc (.cells #[.slice a l.length cap] 22)) := (HB2.out.alloc HB2.out.size _).alloc (by have := HB2.out.size; simp; omega) _
  have HK := Lib.hid (And.intro hs (And.intro hb0 hB0))
  gi_wp2
  rw [World.size_alloc]
  refine wpIn_range_seen (α := Lev) rfl (by omega) (gf := 36) (lb := #[.pointer (some ⟨w2.heap.size + 1, 0, none⟩)]) rfl trivial (enters_of Try.func36 (by kernel_rfl) rfl)
    (levels_seen _ (w2.heap.size + 1) _ l _ (by simp) hb0.1 (HS.out.1.below hB0) HS.out.2.2 HS.out.2.1) (fun _ => rfl)
    (fun pre W => (W.cell? ⟨w2.heap.size, 0, none⟩ = some (.string (rootsOf Z (pre.map Prod.snd))) ∧ W.frozen? ⟨w2.heap.size, 0, none⟩ = false) ∧ Below w.heap.size w W)
    (fun pre x W => (((W.cell? ⟨w2.heap.size, 0, none⟩ = some (.string (rootsOf Z (pre.map Prod.snd))) ∧ W.frozen? ⟨w2.heap.size, 0, none⟩ = false) ∧ Below w.heap.size w W) ∧ levX x W) ∧ (x.2 ≠ [] → x.1.ownBlock ≠ some w2.heap.size))
    (OwnFrom.and (Own.from (fun s A B row hs hg hr => ⟨cell_kept hs.1 hg hr, (frozen_kept hs.1 hg hr).trans hs.2⟩) _) (ownFrom_below (Nat.le_refl _) (by have := HB2.out.size; simp; omega)))
    (OwnFrom.and (OwnFrom.and (OwnFrom.and (Own.from (fun s A B row hs hg hr => ⟨cell_kept hs.1 hg hr, (frozen_kept hs.1 hg hr).trans hs.2⟩) _) (ownFrom_below (Nat.le_refl _) (by have := HB2.out.size; simp; omega))) (fun s A B row hs hg hr => rd_own s.2 A B row hs hg (fun r e => (hr r e).2))) (fun s A B row hs hg hr => hs))
    (Own.from rd_own _)
    ?hIB ?hIM ?h0
    (fun x => { tmps := #[.slice a l.length cap, undef, .string ⟨#[]⟩, .int .i64 0, .pointer (some ⟨w2.heap.size, 0, none⟩), x.1, .slice a l.length cap, .bool true, .bool false, .string Z, .slice a l.length cap, .func (.func 36) #[] #[.pointer (some ⟨w2.heap.size + 1, 0, none⟩)], x.1, undef, undef, undef, undef, undef, undef, undef], defers := [] }) ?assign ?body ?done
  case hIB =>
    intro pre A B hi hA hb
    simp only [World.size_alloc] at hA
    exact ⟨⟨(hb.cell (p := ⟨w2.heap.size, 0, none⟩) (by simp; omega)).trans hi.1.1, (hb.frozen (p := ⟨w2.heap.size, 0, none⟩) (by simp; omega)).trans hi.1.2⟩, hi.2.trans (hb.mono hi.2.size)⟩
  case hIM =>
    intro pre x A B hi hA hb hn
    simp only [World.size_alloc] at hA
    refine ⟨⟨⟨⟨(hb.cell (p := ⟨w2.heap.size, 0, none⟩) (by simp; omega)).trans hi.1.1, (hb.frozen (p := ⟨w2.heap.size, 0, none⟩) (by simp; omega)).trans hi.1.2⟩, hi.2.trans (hb.mono hi.2.size)⟩, hn.1.rd⟩, fun _ e => ?_⟩
    have := (hn.1.lt e).1
    omega
  case h0 =>
    intro A hb
    refine ⟨⟨⟨⟨(hb.cell (p := ⟨w2.heap.size, 0, none⟩) (by simp; omega)).trans (((alloc_below _ _).cell (p := ⟨w2.heap.size, 0, none⟩) (by simp)).trans HK.out.1.1), (hb.frozen (p := ⟨w2.heap.size, 0, none⟩) (by simp; omega)).trans (((alloc_below _ _).frozen (p := ⟨w2.heap.size, 0, none⟩) (by simp)).trans HK.out.1.2)⟩, HK.out.2.2.trans (hb.mono HK.out.2.2.size)⟩, HS.out.1.below (HK.out.2.2.trans (hb.mono HK.out.2.2.size))⟩, HS.out.1.low HB2.out.size⟩
  case assign =>
    intro lp x W K hK
    gi_wp2
    exact hK
  case body =>
    rintro lp pre ⟨v, L⟩ W hsz ⟨⟨⟨⟨hc, hf⟩, hb⟩, hx⟩, hne⟩
    change Rd strE W v L at hx
    obtain ⟨a', c', rfl, -⟩ := hx.shape
    have HX := Lib.hid (And.intro hx (And.intro hb hne))
    have HR := Lib.hid (rootsOf_snoc Z (pre.map Prod.snd) L)
    have HC := Lib.hid (And.intro hc hf)
    clear hb hne
    by_cases h1 : L.length = 1
    · have hlb : ((L.length : Int) == 1) = true := by rw [h1]; rfl
      obtain ⟨b, o, rfl, hb, c0⟩ := hx.str 0 (by omega)
      rw [Nat.add_zero] at c0
      have hli : (0 : Int) < (L.length : Int) := by omega
      have HL := Lib.hid (show L.headD ⟨#[]⟩ = L[0] by match L, h1 with | [y], _ => rfl)
      have HL1 := Lib.hid h1
      generalize L[0] = y at *
      clear hx hb h1
      gi_wp2
      refine ⟨(KeepsOthers.setCell _ _ _).from _, ⟨⟨?_, ?_⟩, ?_⟩, ?_⟩
      · rw [List.map_append, show [((.slice (some ⟨b, o, none⟩) L.length c', L) : Lev)].map Prod.snd = [L] from rfl, HR.out, if_pos HL1.out, HL.out]
        exact World.cell?_setCell_same' _ _ _ (by rw [HC.out.1]; rfl)
      · rw [World.frozen?_setCell]; exact HC.out.2
      · exact HX.out.2.1.setCell (p := ⟨w2.heap.size, 0, none⟩) HB2.out.size _
      · exact Rd.put' HX.out.1 _ HX.out.2.2
    · have hlb : ((L.length : Int) == 1) = false := by rw [beq_eq_false_iff_ne]; omega
      have HL1 := Lib.hid h1
      clear hx h1
      gi_wp2
      refine ⟨KeepsFrom.refl _ _, ⟨⟨?_, HC.out.2⟩, HX.out.2.1⟩, HX.out.1⟩
      rw [List.map_append, show [((.slice a' L.length c', L) : Lev)].map Prod.snd = [L] from rfl, HR.out, if_neg HL1.out]
      exact HC.out.1
  case done =>
    rintro D xs W hD hS ⟨⟨hc, hf⟩, hb⟩ hK
    rw [hS, HLZ.out] at hc
    have hroot : (if l.length = 0 then Z else rootL l) = rootL l := by
      split
      · rename_i h
        rw [HZ.out, List.length_eq_zero_iff.1 h]
      · rfl
    rw [hroot] at hc
    gi_wp2
    refine ⟨by simp, .inl ⟨_, _, rfl, run_takeDeferred hK, ?_⟩⟩
    exact ⟨_, results_tmp2 rfl _ _ _, rfl, hb.trans (belowK_b (w := w) (Nat.le_refl _) W D _ _ (by simp at hD; have := HB2.out.size; omega) hK rfl rfl)⟩
theorem root_any (lv : Value) (l : List ByteArray) (w : World) (hr : Rd strE w lv l) (hl : l.length ≤ 100000000) :
    Calls Try.prog 10 #[lv] w fun e w' => e = .returned (.tuple #[.string (rootV l), .int .i64 (wholeE l)]) ∧ Below w.heap.size w w' := by
  unfold rootV wholeE
  cases h : wholeL l
  · exact root_no lv l w hr hl h
  · exact root_yes lv l w hr hl h
end Go.Proofs.Ytophfeapmmfppaa
/- A call of a function at a step of a region that draws its order, by its contract. Plain. No program is in sight. -/
namespace Ks
open Go Go.RowKit
set_option linter.unusedVariables false
theorem step_call {P : Program} {ops : Array Oper} {o : Oper} {a : Act} {w : World} {K : Act → World → Prop} {Q : Exit → Act → World → Prop} {F : Prop} (hg : o.guard = none) (f : FuncId) (xs : Array Operand) (ts : Array TypeId)
    (hop : o.op = Op.call { callee := Callee.value (.func f), args := xs, argTypes := ts }) (eg : ∀ args w, (callFunc f args).run P w = .ok (.enter f args) w) (args : Array Value) (hargs : xs.toList.map a.eval = args.toList)
    {Φ : Value → World → Prop} (hc : Calls P f args w fun e w' => ∃ v, e = .returned v ∧ Φ v w') (hK : ∀ v w', Φ v w' → K (a.put o.dst v) w') : if Region.wanted o (yielded ops a.tmps) = true then Oper.wp P o a w K Q else F := by
  have hw : Region.wanted o (yielded ops a.tmps) = true := by simp [Region.wanted, hg]
  rw [if_pos hw]
  have hrun : (execOp a.eval o).run P w = .ok (.enter f args) w := by
    have h : xs.map a.eval = args := Array.toList_inj.1 (by simpa using hargs)
    simp [execOp, hop, resolve, Deferred.ofValue, Act.eval, invoke, eg, ← h]
  unfold Oper.wp
  rw [hrun, Oper.upon_enter]
  exact hc.mono fun e w' ⟨v, he, h⟩ => by subst he; exact hK v w' h
/-- a cell that was there, behind a callee that turned nothing -/
theorem cell_on {w w1 : World} {n o : Nat} {v : Value} (hb : Below w.heap.size w w1) (h : w.cell? ⟨n, o, none⟩ = some v) : w1.cell? ⟨n, o, none⟩ = some v ∧ ∀ ob, (w1.alloc ob).cell? ⟨n, o, none⟩ = some v := by
  have hlt : n < w.heap.size := World.block_lt_of_cell? w _ h
  have h1 := (hb.cell (p := ⟨n, o, none⟩) hlt).trans h
  exact ⟨h1, fun ob => (((Below.refl w1.heap.size w1).alloc (Nat.le_refl _) ob).cell (p := ⟨n, o, none⟩) (Nat.lt_of_lt_of_le hlt hb.size)).trans h1⟩
theorem blk_on {w w1 : World} {b : Nat} {o : Obj} (hb : Below w.heap.size w w1) (h : w.heap[b]? = some o) : w1.heap[b]? = some o := (hb.block b (Array.getElem?_eq_some_iff.1 h).1).trans h
end Ks
