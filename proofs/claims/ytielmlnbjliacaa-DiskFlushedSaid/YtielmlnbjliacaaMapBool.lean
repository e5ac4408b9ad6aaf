/- A map of bools that a call made: what it has, of the numbers that were put. Plain. No program is in sight. -/
import Derived.Test.YtielmlnbjliacaaBase
import Derived.Maps.OwnOps
import Derived.Maps.Views
import Derived.Carry
namespace Ks
open Go Go.RowKit Go.Maps
set_option linter.unusedVariables false
section
variable {H : Type} {P : Program}
theorem lookup_bool {k e t : TypeId} {w : World} {b n : Nat} {D : DataW H} (h : w.ownsMap P k (plainElem P e) b n D) (K : Keyed P k) (ht : P.underlying t = some (.map k e)) (he : P.underlying e = some .bool) (hz : (zeroValue e).run P w = .ok (.bool false) w)
    {key : Value} {kl : Lit} (hkey : keyOf P k key = some kl) (x : Bool) (hx : D.atKey kl (.lit (.bool false)) = .lit (.bool x)) : (Instr.lookup t (.map (some b)) key false).run P w = .ok (.bool x) w := by
  obtain ⟨v, ps, hrun, hv⟩ := h.lookup K ht hz (plainElem_bool he false) hkey
  rw [hx] at hv
  unfold plainElem at hv
  rw [he] at hv
  cases v <;> simp at hv
  obtain ⟨rfl, _⟩ := hv
  exact hrun
theorem wpList_lookup_own_bool (w : World) {ops : Array Oper} {rest : List Oper} {o : Oper} {a : Act} {Q : Exit → Act → World → Prop}
    (hg : o.guard = none) (m x : Operand) (t : TypeId) (hop : o.op = Op.lookup t m x false)
    (k e : TypeId) (K : Keyed P k) (ht : P.underlying t = some (.map k e)) (he : P.underlying e = some .bool) (hz : (zeroValue e).run P w = .ok (.bool false) w) (b n : Nat) (D : DataW H)
    (hm : a.eval m = .map (some b)) (hown : w.ownsMap P k (plainElem P e) b n D) (key : Value) (kl : Lit) (hx : a.eval x = key) (hkey : keyOf P k key = some kl) (c : Bool) (hc : D.atKey kl (.lit (.bool false)) = .lit (.bool c))
    (hK : wpList P ops Q rest (a.put o.dst (.bool c)) w) :
    wpList P ops Q (o :: rest) a w := by
  refine wpList_plain hg fun K' hK' => ?_
  have hrun := lookup_bool hown K ht he hz hkey c hc
  unfold Oper.wp
  simp [execOp, hop, hm, hx, hrun, Result.andThen]
  exact hK' _ _ hK
end
/-- the map of these numbers -/
def keepM (l : List Int) : DataW Unit := l.foldl (fun m x => m.put (.int .i64 x) (.lit (.bool true))) (.map [])
theorem keepM_snoc (l : List Int) (x : Int) : keepM (l ++ [x]) = (keepM l).put (.int .i64 x) (.lit (.bool true)) := by simp [keepM]
theorem keepM_map (l : List Int) : IsMap (keepM l) := by
  have key : ∀ (l : List Int) (m : DataW Unit), IsMap m → IsMap (l.foldl (fun m x => m.put (.int .i64 x) (.lit (.bool true))) m) := by
    intro l
    induction l with
    | nil => intro m h; exact h
    | cons x l ih => intro m h; exact ih _ (h.put _ _)
  exact key l _ isMap_empty
theorem keepM_at (l : List Int) (x : Int) : (keepM l).atKey (.int .i64 x) (.lit (.bool false)) = .lit (.bool (decide (x ∈ l))) := by
  have key : ∀ (l : List Int) (m : DataW Unit) (d : List Int), IsMap m → m.atKey (.int .i64 x) (.lit (.bool false)) = .lit (.bool (decide (x ∈ d))) → (l.foldl (fun m y => m.put (.int .i64 y) (.lit (.bool true))) m).atKey (.int .i64 x) (.lit (.bool false)) = .lit (.bool (decide (x ∈ d ++ l))) := by
    intro l
    induction l with
    | nil => intro m d hm h; simpa using h
    | cons y l ih =>
      intro m d hm h
      have := ih (m.put (.int .i64 y) (.lit (.bool true))) (d ++ [y]) (hm.put _ _) ?_
      · simpa using this
      · by_cases e : x = y
        · subst e
          rw [atKey_put_same hm (by trivial)]
          simp
        · rw [atKey_put_other (by simp [e]), h]
          simp [e]
  have := key l (.map []) [] isMap_empty (by rfl)
  rw [List.nil_append] at this
  exact this
end Ks
