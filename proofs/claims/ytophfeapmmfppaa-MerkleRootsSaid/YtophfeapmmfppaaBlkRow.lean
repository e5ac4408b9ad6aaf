/- Parts of a block that is known whole: what is loaded out of its midst, what is stored there; also in a region that draws its order. Plain. No program is in sight. -/
import Derived.Test.YtophfeapmmfppaaArrRow
import Derived.Test.YtophfeapmmfppaaQuietTail
import Derived.Deep.MidRow
namespace Ks
open Go Go.RowKit
set_option linter.unusedVariables false

/-- a block's cells, with others from a place on -/
def splice (C : Array Value) (o : Nat) (D : Array Value) : Array Value := (C.toList.take o ++ D.toList ++ C.toList.drop (o + D.size)).toArray
theorem splice_all (C D : Array Value) (h : D.size = C.size) : splice C 0 D = D := by
  have : C.toList.drop D.size = [] := List.drop_eq_nil_of_le (by simp [h])
  simp [splice, this]
theorem setCells_row (b : Nat) (t : TypeId) : ∀ (D : List Value) (o : Nat) (w : World) (C : Array Value), w.heap[b]? = some (.cells C t (0, 0)) → o + D.length ≤ C.size →
    w.setCells b o D = w.setRow b (splice C o D.toArray) := by
  intro D
  induction D with
  | nil =>
    intro o w C h _
    have : splice C o #[] = C := by simp [splice]
    rw [World.setCells, show ([] : List Value).toArray = #[] from rfl, this, setRow_self w b C t (0, 0) h]
  | cons v D ih =>
    intro o w C h hs
    simp only [List.length_cons] at hs
    rw [World.setCells, setCell_eq_setRow w b o C t (0, 0) v h]
    rw [ih (o + 1) _ (C.setIfInBounds o v) (setRow_heap _ _ _ _ _ _ h) (by simp; omega), setRow_setRow]
    congr 1
    simp only [splice, Array.toList_setIfInBounds, List.size_toArray, List.length_cons]
    have hlt : o < C.toList.length := by simp; omega
    rw [List.take_set, List.drop_set_of_lt (by omega), List.take_succ_eq_append_getElem hlt, List.set_append_right _ _ (by simp; omega)]
    congr 1
    simp [Nat.min_eq_left (Nat.le_of_lt (show o < C.size by omega)), Nat.add_assoc, Nat.add_comm 1]

variable {P : Program}
theorem run_loadAt_blk (w : World) (b o n : Nat) (ty : TypeId) (C D : Array Value) (t : TypeId) (fr : Nat × Nat) (d : TypeDesc) (hb : w.heap[b]? = some (.cells C t fr)) (hD : C.extract o (o + n) = D) (hn : D.size = n)
    (hu : P.underlying ty = some d) (hd : d.isRow = true) (hi : (P.info? ty).map (·.size) = some n) :
    (Instr.loadAt ty (.pointer (some ⟨b, o, none⟩))).run P w = .ok (.agg D) w := by
  have := run_loadAt_mid (P := P) w b o ty D.toList d (by rw [← hD]; exact World.rangeAt_of_block hb o n) hu hd (by rw [hi]; simp [hn])
  simpa using this
theorem wpList_load_blk {ops : Array Oper} {rest : List Oper} {op : Oper} {a : Act} {w : World} {Q : Exit → Act → World → Prop} (hgd : op.guard = none) (ty : TypeId) (x : Operand) (ho : op.op = .load ty x)
    (b o n : Nat) (hx : a.eval x = .pointer (some ⟨b, o, none⟩)) (C D : Array Value) (t : TypeId) (fr : Nat × Nat) (d : TypeDesc) (hb : w.heap[b]? = some (.cells C t fr)) (hD : C.extract o (o + n) = D) (hn : D.size = n)
    (hu : P.underlying ty = some d) (hd : d.isRow = true) (hi : (P.info? ty).map (·.size) = some n)
    (h : wpList P ops Q rest (a.put op.dst (.agg D)) w) : wpList P ops Q (op :: rest) a w := by
  refine wpList_plain hgd fun _ hK => ?_
  unfold Oper.wp execOp
  have := run_loadAt_blk (P := P) w b o n ty C D t fr d hb hD hn hu hd hi
  simp only [ho, hx, Sem.run_bind, Sem.run_pure, Result.andThen_ok, this]
  exact hK _ _ h
theorem wpList_store_blk {ops : Array Oper} {rest : List Oper} {op : Oper} {a : Act} {w : World} {Q : Exit → Act → World → Prop} (hgd : op.guard = none) (ty : TypeId) (x y : Operand) (ho : op.op = .store ty x y)
    (b o n : Nat) (hx : a.eval x = .pointer (some ⟨b, o, none⟩)) (C D E : Array Value) (hy : a.eval y = .agg D) (t : TypeId) (hb : w.heap[b]? = some (.cells C t (0, 0))) (hn : D.size = n) (hfit : o + n ≤ C.size)
    (hi : (P.info? ty).map (·.size) = some n) (h1 : D.all (·.oneCell') = true) (hE : splice C o D = E)
    (h : wpList P ops Q rest (a.put op.dst undef) (w.setRow b E)) : wpList P ops Q (op :: rest) a w := by
  refine wpList_store_mid hgd ty x y ho b o D hx hy (fun j hj => ⟨?_, frozen_of_row w b _ _ _ hb⟩) (by rw [hi, hn]) h1 ?_
  · rw [cell_of_row w b (o + j) C t (0, 0) hb, Array.getElem?_eq_getElem (by omega)]; rfl
  · rw [setCells_row b t D.toList o w C hb (by simp; omega), Array.toArray_toList, hE]
    exact h
/-- a result that lies in a variable of its own -/
theorem ret_blk {fn : Func} {R : Ending → World → Prop} {a : Act} {w : World} {p : Tmp} {ty t : TypeId} {b : Nat} {C : Array Value} {d : TypeDesc} {fr : Nat × Nat} (h : fn.results = #[.cell p ty])
    (hp : a.tmps.getD p undef = .pointer (some ⟨b, 0, none⟩)) (hb : w.heap[b]? = some (.cells C t fr)) (hu : P.underlying ty = some d) (hd : d.isRow = true) (hi : (P.info? ty).map (·.size) = some C.size)
    (hdf : a.defers = []) (hR : R (.returned (.agg C)) w) : bodyPost P fn R .ret a w := by
  refine bodyPost_ret (results_one h hp ?_) hdf hR
  have := run_loadVar_mid (P := P) w b 0 ty C.toList d (fun j v hj => by rw [Nat.zero_add, cell_of_row w b j C t fr hb]; simpa using hj) hu hd (by rw [hi]; simp)
  simpa using this
/-- a load in a region that draws its order -/
theorem wpQuiet_load_blk {ops : Array Oper} {rest : List Oper} {op : Oper} {a : Act} {Cw : World → Prop} {Q : Act → Prop} (hgd : op.guard = none) (ty : TypeId) (x : Operand) (ho : op.op = .load ty x)
    (b o n : Nat) (hx : a.eval x = .pointer (some ⟨b, o, none⟩)) (C D : Array Value) (t : TypeId) (fr : Nat × Nat) (d : TypeDesc) (hb : ∀ w, Cw w → w.heap[b]? = some (.cells C t fr)) (hD : C.extract o (o + n) = D) (hn : D.size = n)
    (hu : P.underlying ty = some d) (hd : d.isRow = true) (hi : (P.info? ty).map (·.size) = some n)
    (h : wpQuiet P ops Cw Q rest (a.put op.dst (.agg D))) : wpQuiet P ops Cw Q (op :: rest) a := by
  refine wpQuiet_step fun K hK => ?_
  rw [if_pos (by simp [Region.wanted, hgd])]
  refine ⟨.agg D, fun w hw => ?_, hK _ h⟩
  unfold Oper.quietAt execOp
  have := run_loadAt_blk (P := P) w b o n ty C D t fr d (hb w hw) hD hn hu hd hi
  simp only [ho, hx, Sem.run_bind, Sem.run_pure, Result.andThen_ok, this]
  exact ⟨rfl, rfl⟩
/-- a block that was there, behind w -/
theorem after_blk {w : World} {b : Nat} {o : Obj} (h : w.heap[b]? = some o) : ∀ w', (∃ p : Regrown, w' = After w p) → w'.heap[b]? = some o := by
  rintro w' ⟨p, rfl⟩
  exact ((after_below w p).block b (Array.getElem?_eq_some_iff.1 h).1).trans h
end Ks
