/- Elements copied between slices, elements put in: plain. No program is in sight. -/
import Derived.Test.YthhncdcmjejlmaaSeq
import Derived.Laws.CopyRow
import Derived.Lib.AppendZerosOnto
import Derived.Lib.Overlaps
namespace Ks
open Go Go.RowKit
set_option linter.unusedVariables false
set_option linter.unusedSimpArgs false

theorem run_copy_k {P : Program} (w : World) (dT sT ty elem : TypeId) (k g off dLen dCap : Nat) (a : Addr) (sLen sCap : Nat) (cur : Array Value) (T : TypeId) (cs : List Value) (m : Nat)
    (hu : P.underlying dT = some (.slice elem)) (hs : (P.info? elem).map (·.size) = some k) (hm : m = Nat.min sLen dLen) (hn : cs.length = m * k)
    (hg : w.heap[g]? = some (.cells cur T (0, 0))) (hsrc : ∀ j v, cs[j]? = some v → w.cell? (a.add j) = some v) (hfit : off + cs.length ≤ cur.size) (h1 : ∀ v ∈ cs, v.oneCell' = true) :
    (Builtin.copy_ #[dT, sT] ty #[.slice (some ⟨g, off, none⟩) dLen dCap, .slice (some a) sLen sCap]).run P w = .ok (goInt m) (w.setRow g (cur.toList.take off ++ cs ++ cur.toList.drop (off + cs.length)).toArray) := by
  have hst := run_storeCells_at P g off T cs 0 cur w hg (by simpa using hfit) h1
  simp only [Nat.add_zero] at hst
  cases hq : P.info? elem with
  | none => simp [hq] at hs
  | some i =>
    have hi : i.size = k := by simpa [hq] using hs
    have hf := run_firstCells_some (P := P) w k m a sLen sCap cs hn hsrc
    subst hm
    simp [Builtin.copy_, run_underlying hu, Builtin.lenOf, Go.sizeOf, typeInfo, hq, hi, hf, hst]

theorem wpList_copy_of {P : Program} (w : World) {ops : Array Oper} {rest : List Oper} {o : Oper} {a : Act} {Q : Exit → Act → World → Prop} (hgd : o.guard = none) (d s : Operand) (t t' : TypeId)
    (ho : o.op = .call { callee := .builtin .copy, args := #[d, s], argTypes := #[t, t'] }) (v u : Value) (hd : a.eval d = v) (hs : a.eval s = u) {v' : Value} {w' : World}
    (hr : (Builtin.copy_ #[t, t'] o.type #[v, u]).run P w = .ok v' w') (h : wpList P ops Q rest (a.put o.dst v') w') : wpList P ops Q (o :: rest) a w :=
  wpList_plain hgd fun _ hK => by
    unfold Oper.wp execOp
    simp only [ho, resolve, invoke, builtin, Sem.run_bind, Sem.run_pure, Result.andThen_ok, List.map_toArray, List.map_cons, List.map_nil, hd, hs, hr]
    exact hK _ _ h
theorem step_copy_of {P : Program} {ops : Array Oper} {o : Oper} {a : Act} {w : World} {K : Act → World → Prop} {Q : Exit → Act → World → Prop} {F : Prop}
    (hg : o.guard = none) (d x : Operand) (dT sT : TypeId) (hop : o.op = Op.call { callee := Callee.builtin Builtin.copy, args := #[d, x], argTypes := #[dT, sT] })
    (v u : Value) (hd : a.eval d = v) (hx : a.eval x = u) {v' : Value} {w' : World} (hr : (Builtin.copy_ #[dT, sT] o.type #[v, u]).run P w = .ok v' w') (hK : K (a.put o.dst v') w') :
    if Region.wanted o (yielded ops a.tmps) = true then Oper.wp P o a w K Q else F := by
  have hw : Region.wanted o (yielded ops a.tmps) = true := by simp [Region.wanted, hg]
  rw [if_pos hw]
  unfold Oper.wp
  simp [execOp, hop, resolve, invoke, builtin, hd, hx, hr, Result.andThen]
  exact hK

/-- what stands in a row behind a piece written over it -/
def over (A : List Value) (off : Nat) (D : List Value) : List Value := A.take off ++ D ++ A.drop (off + D.length)
theorem over_length (A : List Value) (off : Nat) (D : List Value) (h : off + D.length ≤ A.length) : (over A off D).length = A.length := by
  simp [over]; omega
theorem over_take (A : List Value) (off : Nat) (D : List Value) (h : off + D.length ≤ A.length) : (over A off D).take off = A.take off := by
  have : (A.take off).length = off := by simp; omega
  rw [over, List.append_assoc, List.take_append_of_le_length (by omega), List.take_take]
  simp
theorem over_drop (A : List Value) (off : Nat) (D : List Value) (h : off + D.length ≤ A.length) : (over A off D).drop off = D ++ A.drop (off + D.length) := by
  have : (A.take off).length = off := by simp; omega
  rw [over, List.append_assoc, List.drop_append_of_le_length (by omega), List.drop_of_length_le (by omega), List.nil_append]

theorem ins_shift (A P X D : List Value) (hA : A.take P.length = P) (hl : P.length + X.length + D.length ≤ A.length) :
    (over (over A (P.length + X.length) D) P.length X).length = A.length ∧ (over (over A (P.length + X.length) D) P.length X).take (P.length + X.length + D.length) = P ++ X ++ D := by
  have h1 := over_length A (P.length + X.length) D (by omega)
  have h2 := over_length (over A (P.length + X.length) D) P.length X (by omega)
  refine ⟨by omega, ?_⟩
  have t1 : (over A (P.length + X.length) D).take P.length = P := by
    have := over_take A (P.length + X.length) D (by omega)
    have h := congrArg (List.take P.length) this
    rw [List.take_take, List.take_take, Nat.min_eq_left (by omega)] at h
    rw [h, hA]
  have t2 := over_drop A (P.length + X.length) D (by omega)
  rw [over, t1, t2, ← List.append_assoc, List.take_append_of_le_length (by simp; omega), List.take_of_length_le (by simp; omega)]
theorem ins_grow (A P X D : List Value) (hA : A.take P.length = P) (hl : P.length + X.length + D.length ≤ A.length) :
    (over (over A P.length X) (P.length + X.length) D).length = A.length ∧ (over (over A P.length X) (P.length + X.length) D).take (P.length + X.length + D.length) = P ++ X ++ D := by
  have h1 := over_length A P.length X (by omega)
  have h2 := over_length (over A P.length X) (P.length + X.length) D (by omega)
  refine ⟨by omega, ?_⟩
  have t1 : (over A P.length X).take (P.length + X.length) = P ++ X := by
    rw [over, hA, List.take_append_of_le_length (by simp), List.take_of_length_le (by simp)]
  rw [over, t1, List.take_append_of_le_length (by simp; omega), List.take_of_length_le (by simp; omega)]

theorem Row.capmax {α : Type} {E : Enc α} {w : World} {B : Nat} {T : TypeId} {a : Option Addr} {n cap : Nat} {l : List α} (h : Row E w B T (.slice a n cap) l) : cap ≤ 9223372036854775807 := by
  rcases h.2 with ⟨e, _⟩ | ⟨g, cap', cur, e, _, _, _, hm, _⟩
  · simp only [Value.slice.injEq] at e; omega
  · simp only [Value.slice.injEq] at e; unfold maxLen at hm; omega
/-- the row itself -/
theorem Row.cur {α : Type} {E : Enc α} {w : World} {B : Nat} {T : TypeId} {g n cap : Nat} {l : List α} (h : Row E w B T (.slice (some ⟨g, 0, none⟩) n cap) l) :
    ∃ cur : Array Value, B ≤ g ∧ w.heap[g]? = some (.cells cur T (0, 0)) ∧ l.length ≤ cap ∧ cap ≤ maxLen ∧ cur.size = cap * E.k ∧ cur.toList.take (l.length * E.k) = E.cs l := by
  rcases h.2 with ⟨e, _⟩ | ⟨g', cap', cur, e, h1, h2, h3, h4, h5, h6⟩
  · cases e
  · simp only [Value.slice.injEq, Option.some.injEq, Addr.mk.injEq, and_true, true_and] at e
    obtain ⟨rfl, _, rfl⟩ := e
    exact ⟨cur, h1, h2, h3, h4, h5, h6⟩
theorem shape_cells {w : World} {b : Nat} {cs : Array Value} {T : TypeId} {fr : Nat × Nat} (h : w.heap[b]? = some (.cells cs T fr)) : w.shape? b = some (T, cs.size) := by
  simp [World.shape?, h]

end Ks
