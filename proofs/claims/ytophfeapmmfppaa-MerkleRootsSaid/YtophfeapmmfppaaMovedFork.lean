/- A region that draws its order, where two steps may come either way round: a call that makes a row of its own, and what is appended to it. Plain. No program is in sight. -/
import Derived.Test.YtophfeapmmfppaaMovedMore
namespace Ks
open Go Go.RowKit
set_option linter.unusedVariables false
section
variable {P : Program} {ops : Array Oper} {md : Region.Mode} {C : Told → World → Prop}
theorem mOp_alone {K : Told → Act → Prop} {F : Told} {a : Act} (i : Nat) {o : Oper} (ho : ops[i]? = some o) (hw : Region.wanted o (yielded ops a.tmps) = true) (V : Value → Prop)
    (hc : ∀ g w, agree md o F g → g i = none → C g w → ∀ D : Value → World → Prop, (∀ v w', V v → C (upd g i v) w' → D v w') → movesUpon P D ((execOp a.eval o).run P w))
    (hK : ∀ v, V v → K (upd F i v) (a.put o.dst v)) : mOp P md ops C i K F a :=
  Moves.mOp (V := V) ho (.inl ⟨hw, fun g w h0 h1 h2 => hc g w h0 h1 h2 _ fun v w' a b => ⟨a, b⟩⟩) hK
theorem mOp_call {K : Told → Act → Prop} {F : Told} {a : Act} (i : Nat) {o : Oper} (f : FuncId) {xs : Array Operand} {ts : Array TypeId} (ho : ops[i]? = some o) (hw : Region.wanted o (yielded ops a.tmps) = true)
    (hop : o.op = Op.call { callee := Callee.value (.func f), args := xs, argTypes := ts }) (eg : ∀ args w, (callFunc f args).run P w = .ok (.enter f args) w) {args : Array Value} (hargs : xs.toList.map a.eval = args.toList)
    (V : Value → Prop) (hc : ∀ g w, agree md o F g → g i = none → C g w → Calls P f args w fun e w' => ∃ v, e = .returned v ∧ V v ∧ C (upd g i v) w')
    (hK : ∀ v, V v → K (upd F i v) (a.put o.dst v)) : mOp P md ops C i K F a := by
  refine Moves.mOp (V := V) ho (.inl ⟨hw, fun g w h0 h1 h2 => ?_⟩) hK
  have hrun : (execOp a.eval o).run P w = .ok (.enter f args) w := by
    have h : xs.map a.eval = args := Array.toList_inj.1 (by simpa using hargs)
    simp [execOp, hop, resolve, Deferred.ofValue, Act.eval, invoke, eg, ← h]
  rw [hrun]
  exact hc g w h0 h1 h2
theorem mv_fork {Q : Told → Act → Prop} {fuel : Nat} {listed : Array Bool} {F : Told} {a : Act} (i j : Nat) (hr : Region.ready md ops listed = [i, j])
    (h1 : mOp P md ops C i (wpAnyM P md ops C Q fuel (listed.setIfInBounds i true)) F a) (h2 : mOp P md ops C j (wpAnyM P md ops C Q fuel (listed.setIfInBounds j true)) F a) : wpAnyM P md ops C Q (fuel + 1) listed F a := by
  refine ⟨by rw [hr]; simp, fun k hk => ?_⟩
  rw [hr] at hk
  rcases List.mem_cons.1 hk with rfl | hk
  · exact h1
  · obtain rfl : k = j := by simpa using hk
    exact h2
end
/-- a class of worlds behind one, where a call makes a row of its own (p), a step makes what is appended (s), and a step appends it (u) -/
def Joins {α : Type} (E : Enc α) (w0 : World) (T : TypeId) (L l : List α) (p s u : Option Value) (w : World) : Prop :=
  Below w0.heap.size w0 w ∧ (match u with
  | none => (∀ v, p = some v → Row E w w0.heap.size T v L) ∧ (∀ x, s = some x → Rd E w x l)
  | some u => (p ≠ none ∧ s ≠ none) ∧ Row E w w0.heap.size T u (L ++ l))
section
variable {α : Type} {E : Enc α} {w0 w w' : World} {T : TypeId} {L l : List α} {p s u : Option Value}
theorem Joins.start (hb : Below w0.heap.size w0 w) : Joins E w0 T L l none none none w := ⟨hb, ⟨(fun v h => by cases h), (fun v h => by cases h)⟩⟩
theorem Joins.on (h : Joins E w0 T L l p s u w) (hb : Below w.heap.size w w') : Joins E w0 T L l p s u w' := by
  refine ⟨h.1.trans (hb.mono h.1.size), ?_⟩
  have h2 := h.2
  cases u with
  | none => exact ⟨fun v e => (h2.1 v e).below hb, fun x e => (h2.2 x e).below hb⟩
  | some u => exact ⟨h2.1, h2.2.below hb⟩
theorem Joins.early1 (h : Joins E w0 T L l none s u w) : u = none := by
  cases u with
  | none => rfl
  | some u => exact absurd rfl h.2.1.1
theorem Joins.early2 (h : Joins E w0 T L l p none u w) : u = none := by
  cases u with
  | none => rfl
  | some u => exact absurd rfl h.2.1.2
theorem Joins.path {v : Value} (h : Joins E w0 T L l none s u w) (hr : Row E w' w.heap.size T v L) (hb : Below w.heap.size w w') : Joins E w0 T L l (some v) s u w' := by
  obtain rfl := h.early1
  exact ⟨h.1.trans (hb.mono h.1.size), ⟨(fun v' e => by cases e; exact hr.down h.1.size), (fun x e => (h.2.2 x e).below hb)⟩⟩
theorem Joins.made (h : Joins E w0 T L l p none u w) (cs : Array Value) (e : cs.toList = E.cs l) (fr : Nat × Nat := (0, 0)) (T' : TypeId) : Joins E w0 T L l p (some (.slice (some ⟨w.heap.size, 0, none⟩) l.length l.length)) u (w.alloc (.cells cs T' fr)) := by
  obtain rfl := h.early2
  have hb := alloc_below w (.cells cs T' fr)
  exact ⟨h.1.trans (hb.mono h.1.size), ⟨(fun v e => (h.2.1 v e).below hb), (fun x e2 => by cases e2; exact Rd.block (alloc_new w _) e)⟩⟩
theorem Joins.rows {v x : Value} (h : Joins E w0 T L l (some v) (some x) none w) : Row E w w0.heap.size T v L ∧ Rd E w x l ∧ w0.heap.size ≤ w.heap.size := ⟨h.2.1 v rfl, h.2.2 x rfl, h.1.size⟩
theorem Joins.grew {v x v' : Value} (h : Joins E w0 T L l (some v) (some x) none w) (hG : Grew E w w' w0.heap.size T v v' (L ++ l)) : Joins E w0 T L l (some v) (some x) (some v') w' :=
  ⟨hG.below h.1 h.1.size (fun b e => ((h.2.1 v rfl).lt e).1), ⟨(fun e => by cases e), (fun e => by cases e)⟩, hG.1⟩
end
end Ks
