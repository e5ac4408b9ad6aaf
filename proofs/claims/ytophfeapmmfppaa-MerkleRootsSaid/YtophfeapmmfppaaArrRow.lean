/- Whole arrays out of and into their blocks, by law: no program is in sight. -/
import Derived.Test.YtophfeapmmfppaaBase
import Derived.Test.YtophfeapmmfppaaSeqObj
import Derived.Deep.WholeRow
import Derived.Laws.CopyOwn
import Derived.BigQuiet
namespace Ks
open Go Go.RowKit
set_option linter.unusedVariables false
/-- numbers, as an array's cells -/
def u32s (l : List Nat) : Array Value := (l.map fun (n : Nat) => Value.int .u32 (n : Int)).toArray
def i64s (l : List Nat) : Array Value := (l.map fun (n : Nat) => Value.int .i64 (n : Int)).toArray
@[simp] theorem u32s_size (l : List Nat) : (u32s l).size = l.length := by simp [u32s]
@[simp] theorem i64s_size (l : List Nat) : (i64s l).size = l.length := by simp [i64s]
theorem u32s_one (l : List Nat) : (u32s l).all (·.oneCell') = true := by simp [u32s]; intro a _; rfl
theorem i64s_one (l : List Nat) : (i64s l).all (·.oneCell') = true := by simp [i64s]; intro a _; rfl
theorem u32s_set (l : List Nat) (i x : Nat) : (u32s l).setIfInBounds i (.int .u32 (x : Int)) = u32s (l.set i x) := by simp [u32s, List.map_set]
theorem i64s_set (l : List Nat) (i x : Nat) : (i64s l).setIfInBounds i (.int .i64 (x : Int)) = i64s (l.set i x) := by simp [i64s, List.map_set]
theorem u32s_get (l : List Nat) (i : Nat) (h : i < l.length) : (u32s l)[i]? = some (.int .u32 ((l.getD i 0 : Nat) : Int)) := by simp [u32s, h]
theorem i64s_get (l : List Nat) (i : Nat) (h : i < l.length) : (i64s l)[i]? = some (.int .i64 ((l.getD i 0 : Nat) : Int)) := by simp [i64s, h]

theorem blk_keep {w : World} {b : Nat} {o : Obj} (h : w.heap[b]? = some o) (o' : Obj) : (w.alloc o').heap[b]? = some o :=
  ((alloc_below w o').block b (Array.getElem?_eq_some_iff.1 h).1).trans h
theorem alloc_new2 (w : World) (o o' : Obj) : ((w.alloc o).alloc o').heap[w.heap.size + 1]? = some o' := by
  rw [← World.size_alloc (w := w) (o := o)]; exact alloc_new _ _
theorem code_cut {P : Program} {c : Code} {Q : Exit → Act → World → Prop} {a : Act} {w : World} (F : World → Prop) (hF : F w) (h : ∀ w', F w' → c.wp P Q a w') : c.wp P Q a w := h w hF
variable {P : Program}
theorem results_one {fn : Func} {p : Tmp} {ty : TypeId} (h : fn.results = #[.cell p ty]) {tmps : Array Value} {w : World} {a : Addr} {v : Value}
    (hp : tmps.getD p undef = .pointer (some a)) (hl : (loadVar ty a).run P w = .ok v w) : (results fn tmps).run P w = .ok v w := by
  simp only [results, h]
  simp only [Array.mapM_eq_mapM_toList, List.mapM_cons, List.mapM_nil, hp]
  simp [asAddr, hl]
/-- a result that lies in a variable of its own: an array's cells, known whole -/
theorem ret_arr {fn : Func} {R : Ending → World → Prop} {a : Act} {w : World} {p : Tmp} {ty t e : TypeId} {n b N : Nat} {C : Array Value} (h : fn.results = #[.cell p ty])
    (hp : a.tmps.getD p undef = .pointer (some ⟨b, 0, none⟩)) (hb : w.heap[b]? = some (.cells C t (0, 0))) (hu : P.underlying ty = some (.array n e)) (hi : (P.info? ty).map (·.size) = some N) (hn : C.size = N)
    (hd : a.defers = []) (hR : R (.returned (.agg C)) w) : bodyPost P fn R .ret a w :=
  bodyPost_ret (results_one h hp (run_loadVar_row _ _ t ty C (0, 0) _ hb hu rfl (by rw [hi, hn]))) hd hR

theorem wp_storeA {op : Oper} {a : Act} {w : World} {K : Act → World → Prop} {Q : Exit → Act → World → Prop} (ty : TypeId) (x y : Operand) (ho : op.op = .store ty x y)
    (b : Nat) (t : TypeId) (old C : Array Value) (N : Nat) (hx : a.eval x = .pointer (some ⟨b, 0, none⟩)) (hy : a.eval y = .agg C) (hb : w.heap[b]? = some (.cells old t (0, 0)))
    (hi : (P.info? ty).map (·.size) = some N) (hn : C.size = N) (hs : old.size = N) (h1 : C.all (·.oneCell') = true)
    (h : K (a.put op.dst undef) (w.setRow b C)) : op.wp P a w K Q := by
  unfold Oper.wp execOp
  simp only [ho, hx, hy, Instr.storeAt, Instr.sureAddr, Sem.run_bind, Sem.run_pure, Result.andThen_ok, run_storeVar_row w b t ty old C hb (by rw [hi, hn]) (by rw [hs, hn]) h1]
  exact h
theorem wpList_storeA {ops : Array Oper} {rest : List Oper} {op : Oper} {a : Act} {w : World} {Q : Exit → Act → World → Prop} (hgd : op.guard = none) (ty : TypeId) (x y : Operand) (ho : op.op = .store ty x y)
    (b : Nat) (t : TypeId) (old C : Array Value) (N : Nat) (hx : a.eval x = .pointer (some ⟨b, 0, none⟩)) (hy : a.eval y = .agg C) (hb : w.heap[b]? = some (.cells old t (0, 0)))
    (hi : (P.info? ty).map (·.size) = some N) (hn : C.size = N) (hs : old.size = N) (h1 : C.all (·.oneCell') = true)
    (h : wpList P ops Q rest (a.put op.dst undef) (w.setRow b C)) : wpList P ops Q (op :: rest) a w :=
  wpList_plain hgd fun _ hK => wp_storeA ty x y ho b t old C N hx hy hb hi hn hs h1 (hK _ _ h)
/-- into the block that was made last -/
theorem wpList_storeN {ops : Array Oper} {rest : List Oper} {op : Oper} {a : Act} {w : World} {Q : Exit → Act → World → Prop} (hgd : op.guard = none) (ty : TypeId) (x y : Operand) (ho : op.op = .store ty x y)
    (t : TypeId) (old C : Array Value) (N : Nat) (hx : a.eval x = .pointer (some ⟨w.heap.size, 0, none⟩)) (hy : a.eval y = .agg C)
    (hi : (P.info? ty).map (·.size) = some N) (hn : C.size = N) (hs : old.size = N) (h1 : C.all (·.oneCell') = true)
    (h : wpList P ops Q rest (a.put op.dst undef) (w.alloc (.cells C t))) : wpList P ops Q (op :: rest) a (w.alloc (.cells old t)) :=
  wpList_storeA hgd ty x y ho _ t old C N hx hy (alloc_new _ _) hi hn hs h1 (by rw [World.setRow_alloc_new]; exact h)
theorem wp_loadA {op : Oper} {a : Act} {w : World} {K : Act → World → Prop} {Q : Exit → Act → World → Prop} (ty : TypeId) (x : Operand) (ho : op.op = .load ty x)
    (b : Nat) (t e : TypeId) (C : Array Value) (n N : Nat) (hx : a.eval x = .pointer (some ⟨b, 0, none⟩)) (hb : w.heap[b]? = some (.cells C t (0, 0))) (hu : P.underlying ty = some (.array n e))
    (hi : (P.info? ty).map (·.size) = some N) (hn : C.size = N) (h : K (a.put op.dst (.agg C)) w) : op.wp P a w K Q := by
  unfold Oper.wp execOp
  simp only [ho, hx, Instr.loadAt, Instr.sureAddr, Sem.run_bind, Sem.run_pure, Result.andThen_ok, run_loadVar_row w b t ty C (0, 0) _ hb hu rfl (by rw [hi, hn])]
  exact h
theorem wpList_loadA {ops : Array Oper} {rest : List Oper} {op : Oper} {a : Act} {w : World} {Q : Exit → Act → World → Prop} (hgd : op.guard = none) (ty : TypeId) (x : Operand) (ho : op.op = .load ty x)
    (b : Nat) (t e : TypeId) (C : Array Value) (n N : Nat) (hx : a.eval x = .pointer (some ⟨b, 0, none⟩)) (hb : w.heap[b]? = some (.cells C t (0, 0))) (hu : P.underlying ty = some (.array n e))
    (hi : (P.info? ty).map (·.size) = some N) (hn : C.size = N) (h : wpList P ops Q rest (a.put op.dst (.agg C)) w) : wpList P ops Q (op :: rest) a w :=
  wpList_plain hgd fun _ hK => wp_loadA ty x ho b t e C n N hx hb hu hi hn (hK _ _ h)
end Ks
