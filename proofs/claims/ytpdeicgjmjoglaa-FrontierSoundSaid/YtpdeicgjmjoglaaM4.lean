/- Texts that the claim rests on, part 4: Moved, MovedMore, MerkleLow, FrontLow, SeqFull, StepCall. -/
import Derived.BigQuiet
import Derived.Shelf.Abstract
import Derived.Lib.SliceRun
import Derived.Scope
import Derived.ArgAppend
import Derived.Test.YtpdeicgjmjoglaaM3
/- A region that draws its order, some of whose calls turn what was there, each at most once: walked once. The class of worlds goes by what was done, and what it yielded. Plain. No program is in sight. -/
namespace Ks
open Go Go.RowKit
set_option linter.unusedVariables false

abbrev Told := Nat → Option Value
def upd (f : Told) (k : Nat) (v : Value) : Told := fun j => bif Nat.beq j k then some v else f j
theorem beq_ne {j k : Nat} (h : j ≠ k) : Nat.beq j k = false := by rw [← Bool.not_eq_true]; exact fun e => h (Nat.eq_of_beq_eq_true e)
theorem beq_self (k : Nat) : Nat.beq k k = true := Nat.beq_refl k
theorem upd_self (f : Told) (k : Nat) (v : Value) : upd f k v k = some v := by unfold upd; rw [beq_self]; rfl
theorem upd_ne (f : Told) {j k : Nat} (v : Value) (h : j ≠ k) : upd f k v j = f j := by unfold upd; rw [beq_ne h]; rfl
theorem upd_comm (f : Told) {i j : Nat} (u v : Value) (h : i ≠ j) : upd (upd f i u) j v = upd (upd f j v) i u := by
  funext k
  by_cases e : k = i
  · subst e; rw [upd_ne _ _ h, upd_self, upd_self]
  · by_cases e2 : k = j
    · subst e2; rw [upd_self, upd_ne _ _ e, upd_self]
    · rw [upd_ne _ _ e2, upd_ne _ _ e, upd_ne _ _ e, upd_ne _ _ e2]

section
variable {P : Program} {ops : Array Oper} {md : Region.Mode} {C : Told → World → Prop}

def movesUpon (P : Program) (D : Value → World → Prop) : Result Next → Prop
  | .ok (.value u) w' => D u w'
  | .ok .skip w' => D undef w'
  | .ok (.enter f args) w' => Calls P f args w' (fun e w'' => ∃ v, e = .returned v ∧ D v w'')
  | _ => False
/-- what it waits for yielded the same -/
def agree (md : Region.Mode) (o : Oper) (f g : Told) : Prop := ∀ e ∈ o.after, Region.binds md e = true → g e.on = f e.on

theorem agree_on {o : Oper} {f g : Told} (i : Nat) (h : agree md o f g) (hb : (o.after.any fun e => Nat.beq e.on i && Region.binds md e) = true) : g i = f i := by
  obtain ⟨e, he, h2⟩ : ∃ e, e ∈ o.after ∧ (Nat.beq e.on i && Region.binds md e) = true := by simpa using Array.any_eq_true'.1 hb
  simp only [Bool.and_eq_true] at h2
  have h3 := h e he h2.2
  rwa [Nat.eq_of_beq_eq_true h2.1] at h3

/-- wherever it is done, and whatever else was done, it yields one of these -/
def Moves (P : Program) (md : Region.Mode) (ops : Array Oper) (C : Told → World → Prop) (o : Oper) (k : Nat) (V : Value → Prop) (f : Told) (a : Act) : Prop :=
  (Region.wanted o (yielded ops a.tmps) = true ∧ ∀ g w, agree md o f g → g k = none → C g w → movesUpon P (fun v w' => V v ∧ C (upd g k v) w') ((execOp a.eval o).run P w)) ∨
  (Region.wanted o (yielded ops a.tmps) = false ∧ V undef ∧ ∀ g w, agree md o f g → g k = none → C g w → C (upd g k undef) w)

def mOp (P : Program) (md : Region.Mode) (ops : Array Oper) (C : Told → World → Prop) (i : Nat) (K : Told → Act → Prop) (f : Told) (a : Act) : Prop :=
  match ops[i]? with
  | none => False
  | some o => ∃ V, Moves P md ops C o i V f a ∧ ∀ v, V v → K (upd f i v) (a.put o.dst v)
theorem mOp_mono {i : Nat} {f : Told} {a : Act} {K K' : Told → Act → Prop} (h : ∀ f a, K f a → K' f a) (hh : mOp P md ops C i K f a) : mOp P md ops C i K' f a := by
  unfold mOp at *
  split
  · rename_i ho; simp only [ho] at hh
  · rename_i o ho
    simp only [ho] at hh
    obtain ⟨V, h1, h2⟩ := hh
    exact ⟨V, h1, fun v hv => h _ _ (h2 v hv)⟩

def wpAnyM (P : Program) (md : Region.Mode) (ops : Array Oper) (C : Told → World → Prop) (Q : Told → Act → Prop) : Nat → Array Bool → Told → Act → Prop
  | 0, listed, f, a => Region.ready md ops listed = [] ∧ Q f a
  | fuel + 1, listed, f, a => Region.ready md ops listed ≠ [] ∧ ∀ i ∈ Region.ready md ops listed, mOp P md ops C i (wpAnyM P md ops C Q fuel (listed.setIfInBounds i true)) f a

theorem wpOp_of_mOp {i : Nat} {f : Told} {a : Act} {K : Told → Act → Prop} {K' : Act → World → Prop} {Q' : Exit → Act → World → Prop} {w : World} (hf : f i = none) (hC : C f w) (h : ∀ v a w', C (upd f i v) w' → K (upd f i v) a → K' a w') (hh : mOp P md ops C i K f a) : wpOp P ops Q' i K' a w := by
  unfold mOp at hh
  unfold wpOp
  split
  · rename_i ho; simp only [ho] at hh
  · rename_i o ho
    simp only [ho] at hh
    obtain ⟨V, h1, h2⟩ := hh
    rcases h1 with ⟨hw, h1⟩ | ⟨hw, hV, h1⟩
    · rw [if_pos hw]
      refine .inl ?_
      have h3 := h1 f w (fun _ _ _ => rfl) hf hC
      unfold Oper.wp
      generalize (execOp a.eval o).run P w = r at *
      cases r with
      | ok n w' =>
        cases n <;> simp only [movesUpon] at h3 <;> simp only [Oper.upon]
        case value u => exact h _ _ _ h3.2 (h2 _ h3.1)
        case skip => exact h _ _ _ h3.2 (h2 _ h3.1)
        case enter g args => exact h3.mono fun e w'' ⟨v, he, hv, hw''⟩ => by subst he; exact h _ _ _ hw'' (h2 _ hv)
      | halt x w' => simp only [movesUpon] at h3
    · rw [if_neg (by simp [hw])]
      exact h _ _ _ (h1 f w (fun _ _ _ => rfl) hf hC) (h2 _ hV)

theorem wpAny_of_moved {Q : Told → Act → Prop} {Q' : Exit → Act → World → Prop} (hQ : ∀ f a w, C f w → Q f a → Q' .normal a w) : ∀ (fuel : Nat) (listed : Array Bool) (f : Told) (a : Act) (w : World), (∀ i, listed.getD i true = false → f i = none) → C f w →
    wpAnyM P md ops C Q fuel listed f a → wpAny P md ops Q' fuel listed a w
  | 0, _, _, _, _, _, hw, h => ⟨h.1, hQ _ _ _ hw h.2⟩
  | fuel + 1, listed, f, _, _, hi, hw, h => ⟨fun h0 => absurd h0 h.1, fun i hr => by
      have h0 := (mem_ready.1 hr).1
      refine wpOp_of_mOp (hi i h0) hw (fun v a' w' hw' => wpAny_of_moved hQ fuel _ _ a' w' (fun j hj => ?_) hw') (h.2 i hr)
      by_cases e : j = i
      · subst e
        have hlt : j < listed.size := by
          rcases Nat.lt_or_ge j listed.size with h' | h'
          · exact h'
          · simp [Array.getElem?_eq_none h'] at h0
        simp [hlt] at hj
      · rw [getD_set_ne true (Ne.symm e)] at hj
        rw [upd_ne _ _ e]; exact hi j hj⟩

theorem Moves.mOp {i : Nat} {o : Oper} {V : Value → Prop} {f : Told} {a : Act} (hi : ops[i]? = some o) (hy : Moves P md ops C o i V f a) {K : Told → Act → Prop} (h : ∀ v, V v → K (upd f i v) (a.put o.dst v)) : mOp P md ops C i K f a := by
  unfold Ks.mOp
  simp only [hi]
  exact ⟨V, hy, h⟩
theorem Moves.of_same {o : Oper} {i : Nat} {V : Value → Prop} {f f' : Told} {a a' : Act} (hy : Moves P md ops C o i V f a) (hf : ∀ e ∈ o.after, Region.binds md e = true → f' e.on = f e.on) (he : execOp a'.eval o = execOp a.eval o)
    (hw : Region.wanted o (yielded ops a'.tmps) = Region.wanted o (yielded ops a.tmps)) : Moves P md ops C o i V f' a' := by
  unfold Moves at *
  rw [he, hw]
  rcases hy with ⟨h1, h2⟩ | ⟨h1, h2, h3⟩
  · exact .inl ⟨h1, fun g w ha => h2 g w fun e hm hb => (ha e hm hb).trans (hf e hm hb)⟩
  · exact .inr ⟨h1, h2, fun g w ha => h3 g w fun e hm hb => (ha e hm hb).trans (hf e hm hb)⟩
theorem mOp_put {i j : Nat} {oi oj : Oper} {u : Value} (hij : i ≠ j) (hj : ops[j]? = some oj) (hap : oi.apart ops oj = true)
    (hsi : ∀ cs b, oi.op ≠ .select cs b) (hsj : ∀ cs b, oj.op ≠ .select cs b) {K : Told → Act → Prop} {f : Told} {a : Act}
    (hai : ∀ e ∈ oi.after, Region.binds md e = true → e.on ≠ j) (haj : ∀ e ∈ oj.after, Region.binds md e = true → e.on ≠ i)
    (hy : Moves P md ops C oi i (fun v => v = u) f a) (h : mOp P md ops C j K (upd f i u) (a.put oi.dst u)) :
    mOp P md ops C j (fun f' a' => Moves P md ops C oi i (fun v => v = u) f' a' ∧ K (upd f' i u) (a'.put oi.dst u)) f a := by
  obtain ⟨h1, h2, h3⟩ := Oper.apart_spec hap
  have keep : ∀ v, Moves P md ops C oi i (fun v => v = u) (upd f j v) (a.put oj.dst v) := fun v =>
    hy.of_same (fun e he hb => upd_ne _ _ (hai e he hb)) (execOp_put oi hsi a oj.dst v h3) (wanted_put oi a oj.dst v h3)
  unfold mOp at *
  simp only [hj] at *
  obtain ⟨V, hV, hn⟩ := h
  refine ⟨V, ?_, fun v hv => ⟨keep v, ?_⟩⟩
  · exact hV.of_same (fun e he hb => (upd_ne _ _ (haj e he hb)).symm) (execOp_put oj hsj a oi.dst u h1).symm (wanted_put oj a oi.dst u h1).symm
  · rw [← Act.put_comm a u v h2, ← upd_comm f u v hij]
    exact hn v hv

theorem wpAnyM_first {Q : Told → Act → Prop} {i : Nat} {oi : Oper} {u : Value} (hi : ops[i]? = some oi) (hsel : ∀ (j : Nat) (o : Oper) cs b, ops[j]? = some o → o.op ≠ .select cs b) :
    ∀ (fuel : Nat) (listed : Array Bool) (f : Told) (a : Act),
      (∀ j oj, ops[j]? = some oj → j ≠ i → listed.getD j true = false → (∀ e ∈ oj.after, Region.binds md e = true → e.on ≠ i) → oi.apart ops oj = true) →
      i ∈ Region.ready md ops listed → Moves P md ops C oi i (fun v => v = u) f a →
      wpAnyM P md ops C Q fuel (listed.setIfInBounds i true) (upd f i u) (a.put oi.dst u) → wpAnyM P md ops C Q (fuel + 1) listed f a := by
  intro fuel
  induction fuel with
  | zero =>
    intro listed f a _ hr hy H
    refine ⟨fun h => (by rw [h] at hr; cases hr), fun j hj => ?_⟩
    by_cases hji : j = i
    · subst hji; exact hy.mOp hi (fun v hv => by subst hv; exact H)
    · have := ready_mono hj hji
      rw [H.1] at this
      cases this
  | succ fuel ih =>
    intro listed f a hfree hr hy H
    refine ⟨fun h => (by rw [h] at hr; cases hr), fun j hj => ?_⟩
    by_cases hji : j = i
    · subst hji; exact hy.mOp hi (fun v hv => by subst hv; exact H)
    · have h1 := H.2 j (ready_mono hj hji)
      obtain ⟨hjun, oj, hoj, hall⟩ := mem_ready.1 hj
      have both : ∀ {k : Nat} {b : Bool}, listed.getD k true = false → listed.getD k false = b → b = false := fun {k b} h0 hb => by
        rcases Nat.lt_or_ge k listed.size with h' | h'
        · simp [h'] at h0 hb; rw [h0] at hb; exact hb.symm
        · simp [Array.getElem?_eq_none h'] at h0
      have hnot : ∀ e ∈ oj.after, Region.binds md e = true → e.on ≠ i := fun e he hb heq => by
        have h1 := hall e he hb
        rw [heq] at h1
        exact Bool.noConfusion (both (mem_ready.1 hr).1 h1)
      have hnoti : ∀ e ∈ oi.after, Region.binds md e = true → e.on ≠ j := fun e he hb heq => by
        obtain ⟨_, o', ho', hall'⟩ := mem_ready.1 hr
        rw [hi] at ho'
        cases ho'
        have h1 := hall' e he hb
        rw [heq] at h1
        exact Bool.noConfusion (both hjun h1)
      have h2 := mOp_put (Ne.symm hji) hoj (hfree j oj hoj hji hjun hnot) (fun cs b => hsel i oi cs b hi) (fun cs b => hsel j oj cs b hoj) hnoti hnot hy h1
      have hfree' : ∀ k ok, ops[k]? = some ok → k ≠ i → (listed.setIfInBounds j true).getD k true = false →
          (∀ e ∈ ok.after, Region.binds md e = true → e.on ≠ i) → oi.apart ops ok = true := fun k ok hk hki hun hno => by
        refine hfree k ok hk hki ?_ hno
        by_cases hjk : j = k
        · subst hjk; exact hjun
        · rw [getD_set_ne true hjk] at hun; exact hun
      refine mOp_mono (fun f' a' h3 => ih (listed.setIfInBounds j true) f' a' hfree' (ready_mono hr (Ne.symm hji)) h3.1 ?_) h2
      rw [Array.setIfInBounds_comm _ _ hji]
      exact h3.2

theorem wp_region_mv {id : Nat} {Q : Exit → Act → World → Prop} {a : Act} {w : World} {l : List Oper} (C : Told → World → Prop) (hm : P.follows .mixedOrders = true) (hC : C (fun _ => none) w.drew)
    (h : wpAnyM P .any l.toArray C (fun f a' => ∀ w', C f w' → Q .normal a' w') l.length (Array.replicate l.length false) (fun _ => none) a) : (Code.region id l.toArray true).wp P Q a w :=
  wp_region_any hm (wpAny_of_moved (C := C) (Q := fun f a => ∀ w', C f w' → Q .normal a w') (fun f a w hw h => h w hw) _ _ (fun _ => none) _ _ (fun _ _ => rfl) hC (by simpa using h))
theorem mv_end {Q : Told → Act → Prop} {listed : Array Bool} {f : Told} {a : Act} (h0 : Region.ready md ops listed = []) (h : Q f a) : wpAnyM P md ops C Q 0 listed f a := ⟨h0, h⟩

/-- all worlds of the class, by a name -/
theorem moved_class (C : Told → World → Prop) : ∃ (S : Type) (F : S → World), (∀ f w, C f w → ∃ s, w = F s) ∧ ∀ s, ∃ f, C f (F s) :=
  ⟨{ x : Told × World // C x.1 x.2 }, fun s => s.1.2, fun f w h => ⟨⟨(f, w), h⟩, rfl⟩, fun s => ⟨s.1.1, s.2⟩⟩
/-- what is read, or reckoned, in all of them: taken first -/
theorem mv_read {Q : Told → Act → Prop} {fuel : Nat} {listed : Array Bool} {f : Told} {a : Act} (i : Nat) {o : Oper} {S : Type} {F : S → World} (hF : ∀ f w, C f w → ∃ s, w = F s) (hm : ∀ f w v, C f w → C (upd f i v) w)
    (ho : ops[i]? = some o) (hs : Region.noSelect ops = true) (hfree : Region.free md ops listed i = true) (hr : (Region.ready md ops listed).contains i = true)
    (h : ∀ K : Value → Act → Prop, (∀ v a, wpAnyM P md ops C Q fuel (listed.setIfInBounds i true) (upd f i v) a → K v a) → if Region.wanted o (yielded ops a.tmps) then ∃ v, (∀ s, Oper.quietUpon P (fun w' => w' = F s) (F s) v ((execOp a.eval o).run P (F s))) ∧ K v (a.put o.dst v) else K undef (a.put o.dst undef)) :
    wpAnyM P md ops C Q (fuel + 1) listed f a := by
  have h := h (fun v a => wpAnyM P md ops C Q fuel (listed.setIfInBounds i true) (upd f i v) a) fun _ _ h => h
  have key : ∀ u, Moves P md ops C o i (fun v => v = u) f a → wpAnyM P md ops C Q fuel (listed.setIfInBounds i true) (upd f i u) (a.put o.dst u) → wpAnyM P md ops C Q (fuel + 1) listed f a := fun u h1 h2 =>
    wpAnyM_first ho (Region.noSelect_spec hs) fuel listed f a (Region.free_spec ho hfree) (by simpa using hr) h1 h2
  split at h
  · rename_i hw
    obtain ⟨v, h1, h2⟩ := h
    refine key v (.inl ⟨hw, fun g w _ hn hC => ?_⟩) h2
    obtain ⟨s, rfl⟩ := hF g w hC
    have h3 := h1 s
    generalize (execOp a.eval o).run P (F s) = r at *
    cases r with
    | ok n w' =>
      cases n <;> simp only [Oper.quietUpon] at h3 <;> simp only [movesUpon]
      case value u => obtain ⟨rfl, rfl⟩ := h3; exact ⟨rfl, hm _ _ _ hC⟩
      case skip => obtain ⟨rfl, rfl⟩ := h3; exact ⟨rfl, hm _ _ _ hC⟩
      case enter g args =>
        obtain ⟨rfl, h4⟩ := h3
        exact h4.mono fun e w'' ⟨he, hw''⟩ => by subst hw''; exact ⟨v, he, rfl, hm _ _ _ hC⟩
    | halt x w' => simp only [Oper.quietUpon] at h3
  · rename_i hw
    exact key undef (.inr ⟨by simpa using hw, rfl, fun g w _ _ hC => hm _ _ _ hC⟩) h
/-- a call that yields one value, wherever it is done: taken first -/
theorem mv_call1 {Q : Told → Act → Prop} {fuel : Nat} {listed : Array Bool} {F : Told} {a : Act} (i : Nat) {o : Oper} (f : FuncId) {xs : Array Operand} {ts : Array TypeId}
    (ho : ops[i]? = some o) (hs : Region.noSelect ops = true) (hfree : Region.free md ops listed i = true) (hr : (Region.ready md ops listed).contains i = true) (hw : Region.wanted o (yielded ops a.tmps) = true)
    (hop : o.op = Op.call { callee := Callee.value (.func f), args := xs, argTypes := ts }) (eg : ∀ args w, (callFunc f args).run P w = .ok (.enter f args) w) {args : Array Value} (hargs : xs.toList.map a.eval = args.toList)
    {u : Value} (hc : ∀ g w, agree md o F g → g i = none → C g w → Calls P f args w fun e w' => e = .returned u ∧ C (upd g i u) w')
    (hK : wpAnyM P md ops C Q fuel (listed.setIfInBounds i true) (upd F i u) (a.put o.dst u)) : wpAnyM P md ops C Q (fuel + 1) listed F a := by
  refine wpAnyM_first (u := u) ho (Region.noSelect_spec hs) fuel listed F a (Region.free_spec ho hfree) (by simpa using hr) (.inl ⟨hw, fun g w h0 h1 h2 => ?_⟩) hK
  have hrun : (execOp a.eval o).run P w = .ok (.enter f args) w := by
    have h : xs.map a.eval = args := Array.toList_inj.1 (by simpa using hargs)
    simp [execOp, hop, resolve, Deferred.ofValue, Act.eval, invoke, eg, ← h]
  rw [hrun]
  exact (hc g w h0 h1 h2).mono fun e w' ⟨h1, h2⟩ => ⟨u, h1, rfl, h2⟩
/-- a call that alone may be done now -/
theorem mv_call {Q : Told → Act → Prop} {fuel : Nat} {listed : Array Bool} {F : Told} {a : Act} (i : Nat) {o : Oper} (f : FuncId) {xs : Array Operand} {ts : Array TypeId}
    (ho : ops[i]? = some o) (hr : Region.ready md ops listed = [i]) (hw : Region.wanted o (yielded ops a.tmps) = true)
    (hop : o.op = Op.call { callee := Callee.value (.func f), args := xs, argTypes := ts }) (eg : ∀ args w, (callFunc f args).run P w = .ok (.enter f args) w) {args : Array Value} (hargs : xs.toList.map a.eval = args.toList)
    (V : Value → Prop) (hc : ∀ g w, agree md o F g → g i = none → C g w → Calls P f args w fun e w' => ∃ v, e = .returned v ∧ V v ∧ C (upd g i v) w')
    (hK : ∀ v, V v → wpAnyM P md ops C Q fuel (listed.setIfInBounds i true) (upd F i v) (a.put o.dst v)) : wpAnyM P md ops C Q (fuel + 1) listed F a := by
  refine ⟨by rw [hr]; simp, fun j hj => ?_⟩
  rw [hr] at hj
  obtain rfl : j = i := by simpa using hj
  refine Moves.mOp (V := V) ho (.inl ⟨hw, fun g w h0 h1 h2 => ?_⟩) hK
  have hrun : (execOp a.eval o).run P w = .ok (.enter f args) w := by
    have h : xs.map a.eval = args := Array.toList_inj.1 (by simpa using hargs)
    simp [execOp, hop, resolve, Deferred.ofValue, Act.eval, invoke, eg, ← h]
  rw [hrun]
  exact hc g w h0 h1 h2
end
end Ks
/- A region that draws its order, some of whose steps turn what was there: an operation that alone may be done now; an append. Plain. No program is in sight. -/
namespace Ks
open Go Go.RowKit
set_option linter.unusedVariables false
section
variable {P : Program} {ops : Array Oper} {md : Region.Mode} {C : Told → World → Prop}
/-- an operation that alone may be done now -/
theorem mv_alone {Q : Told → Act → Prop} {fuel : Nat} {listed : Array Bool} {F : Told} {a : Act} (i : Nat) {o : Oper}
    (ho : ops[i]? = some o) (hr : Region.ready md ops listed = [i]) (hw : Region.wanted o (yielded ops a.tmps) = true) (V : Value → Prop)
    (hc : ∀ g w, agree md o F g → g i = none → C g w → ∀ D : Value → World → Prop, (∀ v w', V v → C (upd g i v) w' → D v w') → movesUpon P D ((execOp a.eval o).run P w))
    (hK : ∀ v, V v → wpAnyM P md ops C Q fuel (listed.setIfInBounds i true) (upd F i v) (a.put o.dst v)) : wpAnyM P md ops C Q (fuel + 1) listed F a := by
  refine ⟨by rw [hr]; simp, fun j hj => ?_⟩
  rw [hr] at hj
  obtain rfl : j = i := by simpa using hj
  exact Moves.mOp (V := V) ho (.inl ⟨hw, fun g w h0 h1 h2 => hc g w h0 h1 h2 _ fun v w' a b => ⟨a, b⟩⟩) hK
/-- an append that alone may be done now -/
theorem mv_append {α : Type} {E : Enc α} {Q : Told → Act → Prop} {fuel : Nat} {listed : Array Bool} {F : Told} {a : Act} (i : Nat) {o : Oper}
    (ho : ops[i]? = some o) (hr : Region.ready md ops listed = [i]) (hg : o.guard = none) (s x : Operand) (t : TypeId)
    (hop : o.op = .call { callee := .builtin .append, args := #[s, x], argTypes := #[t, t] }) {e : TypeId} {bytes : Nat} (T : ElemT P t e E.k bytes) (B : Nat)
    (v lv : Value) (L l : List α) (hs : a.eval s = v) (hx : a.eval x = lv) (b1 : L.length + l.length ≤ 140000000) (b2 : bytes ≤ 1000)
    (hrow : ∀ g w, agree md o F g → g i = none → C g w → Row E w B e v L ∧ Rd E w lv l ∧ B ≤ w.heap.size)
    (V : Value → Prop) (hV : ∀ g w v' w', agree md o F g → g i = none → C g w → Grew E w w' B e v v' (L ++ l) → V v' ∧ C (upd g i v') w')
    (hK : ∀ v', V v' → wpAnyM P md ops C Q fuel (listed.setIfInBounds i true) (upd F i v') (a.put o.dst v')) : wpAnyM P md ops C Q (fuel + 1) listed F a := by
  refine mv_alone i ho hr (by simp [Region.wanted, hg]) V (fun g w h0 h1 h2 D hD => ?_) hK
  obtain ⟨r1, r2, r3⟩ := hrow g w h0 h1 h2
  obtain ⟨v', w', hrun, r⟩ := run_append_row (P := P) (t := t) (ty := o.type) T w B v lv L l r1 r2 r3 b1 b2
  simp [execOp, hop, resolve, invoke, builtin, hs, hx, hrun, Result.andThen, movesUpon]
  exact hD _ _ (hV g w v' w' h0 h1 h2 r).1 (hV g w v' w' h0 h1 h2 r).2
end
/-- what is read, or reckoned, wherever it was not yet -/
theorem mv_readN {P : Program} {ops : Array Oper} {md : Region.Mode} {C : Told → World → Prop} {Q : Told → Act → Prop} {fuel : Nat} {listed : Array Bool} {f : Told} {a : Act} (i : Nat) {o : Oper} {S : Type} {F : S → World} (hF : ∀ f w, f i = none → C f w → ∃ s, w = F s) (hm : ∀ f w v, f i = none → C f w → C (upd f i v) w)
    (ho : ops[i]? = some o) (hs : Region.noSelect ops = true) (hfree : Region.free md ops listed i = true) (hr : (Region.ready md ops listed).contains i = true)
    (h : ∀ K : Value → Act → Prop, (∀ v a, wpAnyM P md ops C Q fuel (listed.setIfInBounds i true) (upd f i v) a → K v a) → if Region.wanted o (yielded ops a.tmps) then ∃ v, (∀ s, Oper.quietUpon P (fun w' => w' = F s) (F s) v ((execOp a.eval o).run P (F s))) ∧ K v (a.put o.dst v) else K undef (a.put o.dst undef)) :
    wpAnyM P md ops C Q (fuel + 1) listed f a := by
  have h := h (fun v a => wpAnyM P md ops C Q fuel (listed.setIfInBounds i true) (upd f i v) a) fun _ _ h => h
  have key : ∀ u, Moves P md ops C o i (fun v => v = u) f a → wpAnyM P md ops C Q fuel (listed.setIfInBounds i true) (upd f i u) (a.put o.dst u) → wpAnyM P md ops C Q (fuel + 1) listed f a := fun u h1 h2 =>
    wpAnyM_first ho (Region.noSelect_spec hs) fuel listed f a (Region.free_spec ho hfree) (by simpa using hr) h1 h2
  split at h
  · rename_i hw
    obtain ⟨v, h1, h2⟩ := h
    refine key v (.inl ⟨hw, fun g w _ hn hC => ?_⟩) h2
    obtain ⟨s, rfl⟩ := hF g w hn hC
    have h3 := h1 s
    generalize (execOp a.eval o).run P (F s) = r at *
    cases r with
    | ok n w' =>
      cases n <;> simp only [Oper.quietUpon] at h3 <;> simp only [movesUpon]
      case value u => obtain ⟨rfl, rfl⟩ := h3; exact ⟨rfl, hm _ _ _ hn hC⟩
      case skip => obtain ⟨rfl, rfl⟩ := h3; exact ⟨rfl, hm _ _ _ hn hC⟩
      case enter g args =>
        obtain ⟨rfl, h4⟩ := h3
        exact h4.mono fun e w'' ⟨he, hw''⟩ => by subst hw''; exact ⟨v, he, rfl, hm _ _ _ hn hC⟩
    | halt x w' => simp only [Oper.quietUpon] at h3
  · rename_i hw
    exact key undef (.inr ⟨by simpa using hw, rfl, fun g w _ hn hC => hm _ _ _ hn hC⟩) h
theorem moved_classN (C : Told → World → Prop) (i : Nat) : ∃ (S : Type) (F : S → World), (∀ f w, f i = none → C f w → ∃ s, w = F s) ∧ ∀ s, ∃ f, f i = none ∧ C f (F s) :=
  ⟨{ x : Told × World // x.1 i = none ∧ C x.1 x.2 }, fun s => s.1.2, fun f w h1 h => ⟨⟨(f, w), h1, h⟩, rfl⟩, fun s => ⟨s.1.1, s.2⟩⟩
theorem grown_trans {w w1 w2 : World} {r : Option Nat} (h : w.grownBy w1 r) (k : Below w1.heap.size w1 w2) : w.grownBy w2 r :=
  ⟨k.os.trans h.os, k.tape.trans h.tape, k.output.trans h.output, Nat.le_trans h.size k.size, fun j hj hr => (k.block j (Nat.lt_of_lt_of_le hj h.size)).trans (h.block j hj hr)⟩
theorem below_grown {w w1 w2 : World} {r : Option Nat} (h : Below w.heap.size w w1) (k : w1.grownBy w2 r) : w.grownBy w2 r :=
  ⟨k.os.trans h.os, k.tape.trans h.tape, k.output.trans h.output, Nat.le_trans h.size k.size, fun j hj hr => (k.block j (Nat.lt_of_lt_of_le hj h.size) hr).trans (h.block j hj)⟩
theorem grown_of {w w1 : World} (h : Below w.heap.size w w1) (r : Option Nat) : w.grownBy w1 r := below_grown h (World.grownBy.refl w1 r)
/-- a class of worlds behind one, where an own row grows: s is what is appended, u the row that it becomes -/
def Appends {α : Type} (E : Enc α) (B : Nat) (w0 : World) (T : TypeId) (v : Value) (L l : List α) (s u : Option Value) (w : World) : Prop :=
  match u with
  | none => Below w0.heap.size w0 w ∧ Row E w B T v L ∧ ∀ x, s = some x → Rd E w x l
  | some u => w0.grownBy w v.ownBlock ∧ (u.ownBlock = v.ownBlock ∨ ∀ b, u.ownBlock = some b → w0.heap.size ≤ b) ∧ Row E w B T u (L ++ l)
section
variable {α : Type} {E : Enc α} {B : Nat} {w0 w w' : World} {T : TypeId} {v : Value} {L l : List α} {s u : Option Value}
theorem Appends.start (h : Row E w0 B T v L) (hb : Below w0.heap.size w0 w) : Appends E B w0 T v L l none none w := ⟨hb, h.below hb, fun x hx => by cases hx⟩
theorem Appends.on (h : Appends E B w0 T v L l s u w) (hb : Below w.heap.size w w') : Appends E B w0 T v L l s u w' := by
  cases u with
  | none => exact ⟨h.1.trans (hb.mono h.1.size), h.2.1.below hb, fun x hx => (h.2.2 x hx).below hb⟩
  | some u => exact ⟨grown_trans h.1 hb, h.2.1, h.2.2.below hb⟩
theorem Appends.size (h : Appends E B w0 T v L l s u w) : w0.heap.size ≤ w.heap.size := by
  cases u with
  | none => exact h.1.size
  | some u => exact h.1.size
theorem Appends.grown (h : Appends E B w0 T v L l s u w) : w0.grownBy w v.ownBlock := by
  cases u with
  | none => exact grown_of h.1 _
  | some u => exact h.1
theorem Appends.cell {a : Addr} {x : Value} (h : Appends E B w0 T v L l s u w) (hc : w0.cell? a = some x) (hne : v.ownBlock ≠ some a.block) : w.cell? a = some x :=
  h.grown.cell hc fun e => hne e.symm
theorem Appends.block {b : Nat} {o : Obj} (h : Appends E B w0 T v L l s u w) (hc : w0.heap[b]? = some o) (hne : v.ownBlock ≠ some b) : w.heap[b]? = some o :=
  (h.grown.block b (lt_of_block hc) fun e => hne e.symm).trans hc
/-- what is appended, in a new block -/
theorem Appends.made (h : Appends E B w0 T v L l s u w) (cs : Array Value) (e : cs.toList = E.cs l) (fr : Nat × Nat := (0, 0)) : Appends E B w0 T v L l (some (.slice (some ⟨w.heap.size, 0, none⟩) l.length l.length)) u (w.alloc (.cells cs T fr)) := by
  have hb := alloc_below w (.cells cs T fr)
  cases u with
  | none => exact ⟨h.1.trans (hb.mono h.1.size), h.2.1.below hb, fun x hx => by cases hx; exact Rd.block (alloc_new w _) e⟩
  | some u => exact ⟨grown_trans h.1 hb, h.2.1, h.2.2.below hb⟩
theorem Appends.grew {v' : Value} (h : Appends E B w0 T v L l s none w) (hG : Grew E w w' B T v v' (L ++ l)) : Appends E B w0 T v L l s (some v') w' :=
  ⟨below_grown h.1 hG.2.1, hG.2.2.1.imp id fun hh b e => Nat.le_trans h.1.size (hh b e), hG.1⟩
theorem Appends.rows {lv : Value} (h : Appends E B w0 T v L l (some lv) none w) (hB : B ≤ w0.heap.size) : Row E w B T v L ∧ Rd E w lv l ∧ B ≤ w.heap.size := ⟨h.2.1, h.2.2 lv rfl, Nat.le_trans hB h.1.size⟩
end
/-- the same, where the row lies in a box: a: what was read of it, z: that it was stored -/
def AppStore {α : Type} (E : Enc α) (B : Nat) (w0 : World) (T : TypeId) (v : Value) (L l : List α) (bo : Nat) (a s u z : Option Value) (w : World) : Prop :=
  match z with
  | none => Appends E B w0 T v L l s u w ∧ (u ≠ none → a ≠ none ∧ s ≠ none)
  | some _ => (a ≠ none ∧ s ≠ none) ∧ ∃ u' w1, u = some u' ∧ Appends E B w0 T v L l s (some u') w1 ∧ w = w1.setCell ⟨bo, 0, none⟩ u'
section
variable {α : Type} {E : Enc α} {B bo : Nat} {w0 w w' : World} {T : TypeId} {v : Value} {L l : List α} {a s u z : Option Value}
theorem AppStore.start (h : Row E w0 B T v L) (hb : Below w0.heap.size w0 w) : AppStore E B w0 T v L l bo none none none none w := ⟨Appends.start h hb, fun h => absurd rfl h⟩
theorem AppStore.read (x : Value) (h : AppStore E B w0 T v L l bo a s u z w) : AppStore E B w0 T v L l bo (some x) s u z w := by
  cases z with
  | none => exact ⟨h.1, fun hu => ⟨(fun e => by cases e), (h.2 hu).2⟩⟩
  | some z => exact ⟨⟨(fun e => by cases e), h.1.2⟩, h.2⟩
/-- what was there stands, but for the row and its box -/
theorem AppStore.cell {ad : Addr} {x : Value} (h : AppStore E B w0 T v L l bo a s u z w) (hc : w0.cell? ad = some x) (hne : v.ownBlock ≠ some ad.block) (hbo : ad.block ≠ bo) : w.cell? ad = some x := by
  cases z with
  | none => exact h.1.cell hc hne
  | some z =>
    obtain ⟨_, u', w1, _, h1, rfl⟩ := h
    have hfar : (w1.setCell ⟨bo, 0, none⟩ u').cell? ad = w1.cell? ad := World.cell?_of_block (Below.heap_setCell _ _ _ _ hbo)
    rw [hfar]
    exact h1.cell hc hne
/-- the box, ahead of its reading -/
theorem AppStore.box {x : Value} (h : AppStore E B w0 T v L l bo none s u z w) (hc : w0.cell? ⟨bo, 0, none⟩ = some x) (hne : v.ownBlock ≠ some bo) : w.cell? ⟨bo, 0, none⟩ = some x := by
  cases z with
  | none => exact h.1.cell hc hne
  | some z => exact absurd rfl h.1.1
theorem AppStore.unread (h : AppStore E B w0 T v L l bo a s u none w) : Appends E B w0 T v L l s u w := h.1
theorem AppStore.early (h : AppStore E B w0 T v L l bo a none u z w) : u = none ∧ z = none := by
  cases z with
  | none =>
    cases u with
    | none => exact ⟨rfl, rfl⟩
    | some u => exact absurd rfl (h.2 (fun e => by cases e)).2
  | some z => exact absurd rfl h.1.2
theorem AppStore.mid (h : AppStore E B w0 T v L l bo a s none z w) : z = none := by
  cases z with
  | none => rfl
  | some z => obtain ⟨_, u', w1, e, _⟩ := h; cases e
theorem AppStore.made (h : AppStore E B w0 T v L l bo a none u z w) (cs : Array Value) (e : cs.toList = E.cs l) (fr : Nat × Nat := (0, 0)) : AppStore E B w0 T v L l bo a (some (.slice (some ⟨w.heap.size, 0, none⟩) l.length l.length)) u z (w.alloc (.cells cs T fr)) := by
  obtain ⟨rfl, rfl⟩ := h.early
  exact ⟨h.1.made cs e fr, fun h => absurd rfl h⟩
theorem AppStore.rows {lv : Value} (h : AppStore E B w0 T v L l bo a (some lv) none z w) (hB : B ≤ w0.heap.size) : Row E w B T v L ∧ Rd E w lv l ∧ B ≤ w.heap.size := by
  obtain rfl := h.mid
  exact h.1.rows hB
theorem AppStore.grew {v' : Value} {x y : Value} (h : AppStore E B w0 T v L l bo (some x) (some y) none z w) (hG : Grew E w w' B T v v' (L ++ l)) : AppStore E B w0 T v L l bo (some x) (some y) (some v') z w' := by
  obtain rfl := h.mid
  exact ⟨h.1.grew hG, fun _ => ⟨(fun e => by cases e), (fun e => by cases e)⟩⟩
theorem AppStore.stored {v' y : Value} (h : AppStore E B w0 T v L l bo a s (some v') none w) : AppStore E B w0 T v L l bo a s (some v') (some y) (w.setCell ⟨bo, 0, none⟩ v') :=
  ⟨h.2 (fun e => by cases e), v', w, rfl, h.1, rfl⟩
theorem AppStore.done {u' y : Value} (h : AppStore E B w0 T v L l bo a s (some u') (some y) w) : ∃ w1, w0.grownBy w1 v.ownBlock ∧ Row E w1 B T u' (L ++ l) ∧ w = w1.setCell ⟨bo, 0, none⟩ u' := by
  obtain ⟨_, u2, w1, e, h1, rfl⟩ := h
  cases e
  exact ⟨w1, h1.1, h1.2.2, rfl⟩
theorem Appends.frozen {ad : Addr} {x : Value} (h : Appends E B w0 T v L l s u w) (hc : w0.cell? ad = some x) (hf : w0.frozen? ad = false) (hne : v.ownBlock ≠ some ad.block) : w.frozen? ad = false := by
  rw [World.frozen?_of_block (h.grown.block ad.block (World.block_lt_of_cell? _ _ hc) fun e => hne e.symm)]
  exact hf
end
end Ks
/- Trees of hashes: a leaf's and a node's hash; whether all are hashes; the level above. -/
namespace Ks
open Go Go.RowKit
set_option linter.unusedVariables false
theorem leafS_eq (s : ByteArray) : shaS (0 :: s.data.toList) = leafS s := rfl
theorem nodeS_eq (a b : ByteArray) : shaS (insideL a b) = nodeS a b := rfl
theorem inside_cat (a b : ByteArray) : (ByteArray.mk #[1] ++ a ++ b) = insideS a b := by
  cases a with | mk a => cases b with | mk b => cases a with | mk a => cases b with | mk b => simp [insideS, insideL, ByteArray.mk_append_mk]
theorem inside_size (a b : ByteArray) : (insideS a b).size = 1 + a.size + b.size := by
  rw [← data_length]
  show (insideL a b).length = _
  rw [insideL, List.length_cons, List.length_append, data_length, data_length]; omega
theorem leafS_size (a : ByteArray) : (leafS a).size = 32 := sha1_size _
/-- the first that is not so -/
def idxS (p : ByteArray → Bool) : List ByteArray → Int
  | [] => -1
  | x :: l => if p x then 0 else (if idxS p l = -1 then -1 else idxS p l + 1)
theorem idxS_low (p : ByteArray → Bool) (l : List ByteArray) : -1 ≤ idxS p l := by
  induction l with
  | nil => exact Int.le_refl _
  | cons x l ih => rw [idxS]; split <;> (try split) <;> omega
theorem idxS_none (p : ByteArray → Bool) (l : List ByteArray) (h : ∀ x ∈ l, p x = false) : idxS p l = -1 := by
  induction l with
  | nil => rfl
  | cons x l ih => rw [idxS, h x (by simp), ih fun y hy => h y (by simp [hy])]; rfl
theorem idxS_hit (p : ByteArray → Bool) (l : List ByteArray) (k : Nat) (x : ByteArray) (hx : l[k]? = some x) (hq : p x = true) (hno : ∀ i, i < k → ∀ y, l[i]? = some y → p y = false) : idxS p l = k := by
  induction l generalizing k with
  | nil => simp at hx
  | cons a l ih =>
    cases k with
    | zero => simp at hx; subst hx; rw [idxS, hq]; rfl
    | succ k =>
      have h1 := hno 0 (by omega) a rfl
      have h2 := ih k (by simpa using hx) fun i hi y hy => hno (i + 1) (by omega) y (by simpa using hy)
      rw [idxS, h1, h2]
      rw [if_neg (by simp), if_neg (by omega)]
      omega
theorem idxS_any (p : ByteArray → Bool) (l : List ByteArray) : decide (0 ≤ idxS p l) = l.any p := by
  induction l with
  | nil => rfl
  | cons x l ih =>
    have := idxS_low p l
    rw [idxS, List.any_cons, ← ih]
    cases p x with
    | true => simp
    | false =>
      rw [if_neg (by simp), Bool.false_or]
      split
      · rename_i h; rw [h]
      · rw [decide_eq_decide]; omega
theorem whole_any' (l : List ByteArray) : (l.any fun s => (s.size : Int) != 32) = !wholeL l := by
  unfold wholeL
  rw [List.not_all_eq_any_not]
  congr 1
  funext s
  rw [Bool.eq_iff_iff]; simp [bne_iff_ne]; omega
theorem above_get (l : List ByteArray) (k : Nat) (h : 2 * k + 1 < l.length) : aboveL (l.take (2 * k + 2)) = aboveL (l.take (2 * k)) ++ [nodeS (l[2 * k]'(by omega)) l[2 * k + 1]] := by
  have e : l.take (2 * k + 2) = l.take (2 * k) ++ [l[2 * k]'(by omega), l[2 * k + 1]] := by
    rw [List.take_succ_eq_append_getElem (by omega), List.take_succ_eq_append_getElem (by omega), List.append_assoc]; rfl
  rw [e, above_append k _ _ (by rw [List.length_take]; omega)]
  rfl
theorem above_last (l : List ByteArray) (k : Nat) (h : 2 * k + 1 = l.length) : aboveL l = aboveL (l.take (2 * k)) ++ [l[2 * k]'(by omega)] := by
  have e : l = l.take (2 * k) ++ [l[2 * k]'(by omega)] := by
    conv => lhs; rw [← List.take_of_length_le (show l.length ≤ 2 * k + 1 by omega)]
    rw [List.take_succ_eq_append_getElem (by omega)]
  conv => lhs; rw [e]
  rw [above_append k _ _ (by rw [List.length_take]; omega)]
  rfl
end Ks
namespace Go.Proofs.Ytpdeicgjmjoglaa
open Go.RowKit Ks
set_option linter.unusedVariables false
theorem Try.infoS : (Try.prog.info? 9).map (fun i => (i.zero, i.size, i.bytes)) = some (some (.string ⟨#[]⟩), 1, 16) := by kernel_rfl
theorem strT : ElemT Try.prog 22 9 strE.k 16 := elemT_of Try.underlying22 Try.infoS rfl
theorem leaf_any (s : ByteArray) (w : World) (h : s.size ≤ 10000000000) : Calls Try.prog 29 #[.string s] w fun e w' => e = .returned (.string (leafS s)) ∧ Below w.heap.size w w' := by
  refine calls_by fun R HR => ?_
  have H := Lib.hid h
  clear h
  go_enter Try.func29, Try.ntmps29
  go_wp2_with fail
  refine (sum2_any ⟨#[0]⟩ s _ w (by decide) H.out).mono ?_
  rintro e w1 ⟨rfl, hb⟩
  have HB := Lib.hid hb
  clear hb
  rw [show shaS ((ByteArray.mk #[0]).data.toList ++ s.data.toList) = leafS s from rfl]
  go_wp2
  exact HR.out _ _ ⟨rfl, HB.out⟩
theorem inside_any (a b : ByteArray) (w : World) (h : a.size ≤ 10000000000) (h2 : b.size ≤ 10000000000) : Calls Try.prog 46 #[.string a, .string b] w fun e w' => e = .returned (.string (insideS a b)) ∧ w' = w := by
  refine calls_by fun R HR => ?_
  have HC := Lib.hid (inside_cat a b)
  go_enter Try.func46, Try.ntmps46
  go_wp2
  exact HR.out _ _ ⟨by rw [← HC.out]; rfl, rfl⟩
theorem node_any (a b : ByteArray) (w : World) (h : a.size ≤ 10000000000) (h2 : b.size ≤ 10000000000) : Calls Try.prog 30 #[.string a, .string b] w fun e w' => e = .returned (.string (nodeS a b)) ∧ Below w.heap.size w w' := by
  refine calls_by fun R HR => ?_
  have H := Lib.hid (show (insideS a b).size ≤ 50000000000 by rw [inside_size]; omega)
  have HA := Lib.hid h
  have HB := Lib.hid h2
  clear h h2
  go_enter Try.func30, Try.ntmps30
  go_wp2_with fail
  refine (inside_any a b w HA.out HB.out).mono ?_
  rintro e w1 ⟨rfl, hw⟩
  subst hw
  go_wp2_with fail
  refine (sum1_any (insideS a b) _ _ H.out).mono ?_
  rintro e w2 ⟨rfl, hb⟩
  have HB := Lib.hid hb
  clear hb
  rw [show shaS (insideS a b).data.toList = nodeS a b from rfl]
  go_wp2
  exact HR.out _ _ ⟨rfl, HB.out⟩
theorem notwide_any (s : ByteArray) (w : World) : Calls Try.prog 48 #[.string s] w fun e w' => e = .returned (.bool ((s.size : Int) != 32)) ∧ Below w.heap.size w w' := by
  refine calls_by fun R HR => ?_
  go_enter Try.func48, Try.ntmps48
  go_wp2
  exact HR.out _ _ ⟨rfl, Below.refl _ _⟩
set_option maxHeartbeats 1000000 in
theorem indexS_any (g : Nat) (lb : Array Value) (eg : ∀ args w, (callFunc g args).run Try.prog w = .ok (.enter g args) w) (p : ByteArray → Bool) (lv : Value) (l : List ByteArray) (w : World) (hl : Rd strE w lv l) (hlen : l.length ≤ 9223372036854775807)
    (hp : ∀ x w', Below w.heap.size w w' → Calls Try.prog g (#[.string x] ++ lb) w' fun e w'' => e = .returned (.bool (p x)) ∧ Below w'.heap.size w' w'') :
    Calls Try.prog 64 #[lv, .func (.func g) #[] lb] w fun e w' => e = .returned (.int .i64 (idxS p l)) ∧ Below w.heap.size w w' := by
  refine calls_by fun R HR => ?_
  obtain ⟨a, cap, rfl, hcap, -⟩ := hl.shape
  have HL := Lib.hid hl
  have Hp := Lib.hid hp
  clear hl hp
  go_enter Try.func64, Try.ntmps64
  go_wp2
  go_loopw [8] (fun i wr => ∃ k : Nat, k ≤ l.length ∧ i = .int .i64 k ∧ Hid (∀ (i : Nat), i < k → ∀ (y : ByteArray), l[i]? = some y → p y = false) ∧ Below w.heap.size w wr) (fun i _ => l.length - (intOf i).toNat)
  case atStart => exact ⟨0, by omega, rfl, Lib.hid (fun i hi => absurd hi (by omega)), Below.refl _ _⟩
  case round =>
    obtain ⟨k, hk, rfl, hno, hbel⟩ := hrel
    by_cases hlt : k < l.length
    · obtain ⟨b, o, rfl, hb, c1⟩ := (HL.out.below hbel).str k hlt
      have hx := Lib.hid (List.getElem?_eq_getElem hlt)
      generalize l[k] = x at c1 hx
      have hcall := Hp.out x wr hbel
      cases hq : p x with
      | true =>
        rw [hq] at hcall
        go_wp2_with (go_at_fn g; refine hcall.mono ?_; rintro e w' ⟨rfl, hb'⟩)
        refine HR.out _ _ ⟨?_, hbel.trans (hb'.mono hbel.size)⟩
        rw [idxS_hit p l k x hx.out hq hno.out]; rfl
      | false =>
        rw [hq] at hcall
        go_wp2_with (go_at_fn g; refine hcall.mono ?_; rintro e w' ⟨rfl, hb'⟩)
        go_roundw
        case rel =>
          refine ⟨k + 1, by omega, by go_num, Lib.hid fun i hi y hy => ?_, hbel.trans (hb'.mono hbel.size)⟩
          by_cases e : i = k
          · subst e; rw [hx.out] at hy; cases hy; exact hq
          · exact hno.out i (by omega) y hy
        case measure => simp [intOf]; omega
    · obtain rfl : k = l.length := by omega
      have Q := Lib.hid (idxS_none p l fun x hx => by
        obtain ⟨i, hi, rfl⟩ := List.getElem_of_mem hx
        exact hno.out i hi _ (List.getElem?_eq_getElem hi))
      go_wp2
      refine HR.out _ _ ⟨?_, hbel⟩
      rw [Q.out]; rfl
theorem containsS_any (lv : Value) (l : List ByteArray) (w : World) (hl : Rd strE w lv l) (hlen : l.length ≤ 9223372036854775807) :
    Calls Try.prog 47 #[lv, .func (.func 48) #[] #[]] w fun e w' => e = .returned (.bool (!wholeL l)) ∧ Below w.heap.size w w' := by
  refine calls_by fun R HR => ?_
  have hi := indexS_any 48 #[] (fun _ _ => rfl) (fun s => (s.size : Int) != 32) lv l w hl hlen fun x w' _ => notwide_any x w'
  have hq := idxS_any (fun s => (s.size : Int) != 32) l
  rw [whole_any'] at hq
  generalize idxS (fun s => (s.size : Int) != 32) l = q at *
  go_enter Try.func47, Try.ntmps47
  go_wp2_with fail
  refine hi.mono ?_
  rintro e w1 ⟨rfl, hb⟩
  have Q := Lib.hid hq
  clear hi hq
  go_wp2
  exact HR.out _ _ ⟨by rw [← Q.out]; rfl, hb⟩
theorem whole_any (lv : Value) (l : List ByteArray) (w : World) (hl : Rd strE w lv l) (hlen : l.length ≤ 9223372036854775807) :
    Calls Try.prog 33 #[lv] w fun e w' => e = .returned (.bool (wholeL l)) ∧ Below w.heap.size w w' := by
  refine calls_by fun R HR => ?_
  obtain ⟨a, cap, rfl, hcap, -⟩ := hl.shape
  have HC := Lib.hid (containsS_any _ l w hl hlen)
  clear hl hlen hcap
  generalize wholeL l = b at *
  go_enter Try.func33, Try.ntmps33
  go_wp2_with fail
  refine HC.out.mono ?_
  rintro e w1 ⟨rfl, hb⟩
  have HB := Lib.hid hb
  clear hb
  cases b <;>
  · go_wp2
    exact HR.out _ _ ⟨rfl, HB.out⟩
theorem whole_get {l : List ByteArray} (h : wholeL l = true) (i : Nat) (x : ByteArray) (hx : l[i]? = some x) : x.size = 32 := by
  have := List.mem_of_getElem? hx
  simp only [wholeL, List.all_eq_true, beq_iff_eq] at h
  exact h x this
theorem eg_node : ∀ args w, (callFunc 30 args).run Try.prog w = .ok (.enter 30 args) w := fun _ _ => rfl
set_option maxRecDepth 20000 in
set_option maxHeartbeats 4000000 in
theorem above_any (lv : Value) (l : List ByteArray) (w : World) (hl : Rd strE w lv l) (hw : wholeL l = true) (hlen : l.length ≤ 100000000) :
    Calls Try.prog 50 #[lv] w fun e w' => ∃ v, e = .returned v ∧ Row strE w' w.heap.size 9 v (aboveL l) ∧ Below w.heap.size w w' := by
  refine calls_by fun R HR => ?_
  obtain ⟨a, cap, rfl, hcap, -⟩ := hl.shape
  have HL := Lib.hid (And.intro hl (And.intro hw hlen))
  have hli : (l.length : Int) ≤ 100000000 := by omega
  clear hl hw hlen
  go_enter Try.func50, Try.ntmps50
  go_wp2_with fail
  go_loopw [3, 4] (fun o0 i wr => ∃ (k : Nat) (ov : Value), k ≤ l.length ∧ ov = o0 ∧ i = .int .i64 k ∧ Hid ((∃ j, k = 2 * j) ∧ Row strE wr w.heap.size 9 ov (aboveL (l.take k)) ∧ Below w.heap.size w wr)) (fun _ i _ => l.length + 1 - (intOf i).toNat)
  case atStart => exact ⟨0, _, by omega, rfl, rfl, Lib.hid ⟨⟨0, rfl⟩, Row.nil _ _ _, Below.refl _ _⟩⟩
  case round =>
    obtain ⟨k, ov, hk, rfl, rfl, hN⟩ := hrel
    by_cases hlt : k < l.length
    · have hki : (k : Int) < (l.length : Int) := by omega
      have HAL := Lib.hid (show (aboveL (l.take k)).length ≤ 100000000 by rw [above_length, List.length_take]; have := HL.out.2.2; omega)
      have hrd := HL.out.1.below hN.out.2.2
      by_cases hlast : k + 1 = l.length
      · obtain ⟨b, o, rfl, hb, c1⟩ := hrd.str k hlt
        have HA := Lib.hid (show aboveL l = aboveL (l.take k) ++ [l[k]] by
          obtain ⟨j, rfl⟩ := hN.out.1
          exact above_last l j hlast)
        have hkl : ((k : Int) + 1 == (l.length : Int)) = true := by rw [beq_iff_eq]; omega
        generalize l[k] = x at *
        have HB := Lib.hid hb
        clear hrd hb hlast
        go_wp2_with (at_builtin; refine wpList_append_row _ rfl _ _ 22 rfl strT w.heap.size _ _ (aboveL (l.take k)) [x] rfl rfl (hN.out.2.1.below (alloc_below wr _)) (Rd.single x (alloc_new wr _) rfl) (by have := hN.out.2.2.size; simp; omega) (by have := HAL.out; simp; omega) (by decide) ?_)
        intro v' w2 hG
        have HG := Lib.hid (And.intro (show Row strE w2 w.heap.size 9 v' (aboveL l) by rw [HA.out]; exact hG.1) (hG.below (hN.out.2.2.trans ((alloc_below wr _).mono hN.out.2.2.size)) (by have := hN.out.2.2.size; simp; omega) (fun b hb => (hN.out.2.1.lt hb).1)))
        clear hG
        go_wp2
        exact HR.out _ _ ⟨_, rfl, HG.out⟩
      · have hlt2 : k + 1 < l.length := by omega
        obtain ⟨b, o, rfl, hb, c1⟩ := hrd.str k hlt
        obtain ⟨b', o', e', hb', c2⟩ := hrd.str (k + 1) hlt2
        simp only [Option.some.injEq, Addr.mk.injEq, and_true] at e'
        obtain ⟨rfl, rfl⟩ := e'
        have HA := Lib.hid (show aboveL (l.take (k + 2)) = aboveL (l.take k) ++ [nodeS l[k] l[k + 1]] by
          obtain ⟨j, rfl⟩ := hN.out.1
          exact above_get l j hlt2)
        have hkl : ((k : Int) + 1 == (l.length : Int)) = false := by rw [beq_eq_false_iff_ne]; omega
        have z1 := whole_get HL.out.2.1 k _ (List.getElem?_eq_getElem hlt)
        have z2 := whole_get HL.out.2.1 (k + 1) _ (List.getElem?_eq_getElem hlt2)
        have hbw : b < w.heap.size := by
          obtain ⟨b9, o9, e9, h9, _⟩ := HL.out.1.str k hlt
          simp only [Option.some.injEq, Addr.mk.injEq, and_true] at e9
          omega
        have HB0 := Lib.hid hbw
        clear hbw
        generalize l[k] = x at *
        generalize l[k + 1] = y at *
        have dc := Lib.hid (fun w => node_any x y w (by omega) (by omega))
        have hki2 : (k : Int) + 1 < (l.length : Int) := by omega
        have hki0 : 0 ≤ (k : Int) + 1 := by omega
        have hwr : IntKind.i64.wrap ((k : Int) + 1) = (k : Int) + 1 := by rw [IntKind.wrap_i64]; omega
        have hne : ov.ownBlock ≠ some b := fun e => by have h1 := (hN.out.2.1.lt e).1; have h2 := HB0.out; omega
        generalize hz : nodeS x y = z at *
        go_wp2_with fail
        refine wp_region_mv (fun f => Appends strE w.heap.size wr 9 ov (aboveL (l.take k)) [z] (f 11) (f 12)) (by kernel_rfl) (Appends.start hN.out.2.1 (drew_below wr)) ?_
        obtain ⟨S, F, hF, hFC⟩ := moved_class (fun f => Appends strE w.heap.size wr 9 ov (aboveL (l.take k)) [z] (f 11) (f 12))
        have k0 : ∀ s, (F s).cell? ⟨b, o + k, none⟩ = some (.string x) := fun s => (hFC s).choose_spec.cell c1 hne
        have k1 : ∀ s, (F s).cell? ⟨b, o + (k + 1), none⟩ = some (.string y) := fun s => (hFC s).choose_spec.cell c2 hne
        clear hrd hb hb' c1 c2 z1 z2 hlast
        show wpAnyM _ _ _ _ _ 14 (Array.replicate 14 false) _ _
        refine mv_read 0 hF (fun _ _ _ h => h) rfl (by kernel_rfl) (by kernel_rfl) (by kernel_rfl) (fun K hK => ?_)
        go_simp
        first | refine ⟨_, fun _ => rfl, hK _ _ ?_⟩ | refine hK _ _ ?_
        clear hK K
        refine mv_read 1 hF (fun _ _ _ h => h) rfl (by kernel_rfl) (by kernel_rfl) (by kernel_rfl) (fun K hK => ?_)
        go_simp
        first | refine ⟨_, fun _ => rfl, hK _ _ ?_⟩ | refine hK _ _ ?_
        clear hK K
        refine mv_read 2 hF (fun _ _ _ h => h) rfl (by kernel_rfl) (by kernel_rfl) (by kernel_rfl) (fun K hK => ?_)
        go_simp
        first | refine ⟨_, fun _ => rfl, hK _ _ ?_⟩ | refine hK _ _ ?_
        clear hK K
        refine mv_read 3 hF (fun _ _ _ h => h) rfl (by kernel_rfl) (by kernel_rfl) (by kernel_rfl) (fun K hK => ?_)
        go_simp
        first | refine ⟨_, fun _ => rfl, hK _ _ ?_⟩ | refine hK _ _ ?_
        clear hK K
        refine mv_read 4 hF (fun _ _ _ h => h) rfl (by kernel_rfl) (by kernel_rfl) (by kernel_rfl) (fun K hK => ?_)
        go_simp
        first | refine ⟨_, fun _ => rfl, hK _ _ ?_⟩ | refine hK _ _ ?_
        clear hK K
        refine mv_read 5 hF (fun _ _ _ h => h) rfl (by kernel_rfl) (by kernel_rfl) (by kernel_rfl) (fun K hK => ?_)
        go_simp
        first | refine ⟨_, fun _ => rfl, hK _ _ ?_⟩ | refine hK _ _ ?_
        clear hK K
        refine mv_read 6 hF (fun _ _ _ h => h) rfl (by kernel_rfl) (by kernel_rfl) (by kernel_rfl) (fun K hK => ?_)
        go_simp
        first | refine ⟨_, fun _ => rfl, hK _ _ ?_⟩ | refine hK _ _ ?_
        clear hK K
        refine mv_read 7 hF (fun _ _ _ h => h) rfl (by kernel_rfl) (by kernel_rfl) (by kernel_rfl) (fun K hK => ?_)
        go_simp
        first | refine ⟨_, fun _ => rfl, hK _ _ ?_⟩ | refine hK _ _ ?_
        clear hK K
        refine mv_read 8 hF (fun _ _ _ h => h) rfl (by kernel_rfl) (by kernel_rfl) (by kernel_rfl) (fun K hK => ?_)
        go_simp
        first | refine ⟨_, fun _ => rfl, hK _ _ ?_⟩ | refine hK _ _ ?_
        clear hK K
        refine mv_read 9 hF (fun _ _ _ h => h) rfl (by kernel_rfl) (by kernel_rfl) (by kernel_rfl) (fun K hK => ?_)
        go_simp
        first | refine ⟨_, fun _ => rfl, hK _ _ ?_⟩ | refine hK _ _ ?_
        clear hK K
        refine mv_call1 10 30 rfl (by kernel_rfl) (by kernel_rfl) (by kernel_rfl) rfl rfl eg_node (args := #[.string x, .string y]) rfl (u := .string z) (fun g w _ _ h => (dc.out w).mono fun e w' ⟨h1, h2⟩ => ⟨h1, h.on h2⟩) ?_
        refine mv_alone 11 rfl (by kernel_rfl) rfl (fun v => ∃ g, v = .slice (some ⟨g, 0, none⟩) 1 1) (fun g w _ _ h D hD => ?_) ?_
        · go_simp
          exact hD _ _ ⟨_, rfl⟩ (h.made #[.string z] rfl)
        rintro _ ⟨gs, rfl⟩
        refine mv_append 12 rfl (by kernel_rfl) rfl (.tmp 23) (.tmp 34) 22 rfl strT w.heap.size _ _ (aboveL (l.take k)) [z] rfl rfl (by have := HAL.out; simp; omega) (by decide) (fun g w ha h0 h => ?_) (fun _ => True) (fun g w v' w' ha h0 h hG => ?_) ?_
        · have e1 : g 11 = some (.slice (some ⟨gs, 0, none⟩) 1 1) := (agree_on 11 ha (by kernel_rfl)).trans rfl
          simp only [e1, h0] at h
          exact h.rows hN.out.2.2.size
        · simp only [h0] at h
          exact ⟨trivial, h.grew hG⟩
        rintro vz -
        refine mv_read 13 hF (fun _ _ _ h => h) rfl (by kernel_rfl) (by kernel_rfl) (by kernel_rfl) (fun K hK => ?_)
        go_simp
        first | refine ⟨_, fun _ => rfl, hK _ _ ?_⟩ | refine hK _ _ ?_
        clear hK K
        refine mv_end (by kernel_rfl) ?_
        intro w2 hw2
        have HG : Appends strE w.heap.size wr 9 ov (aboveL (l.take k)) [z] (some (.slice (some ⟨gs, 0, none⟩) 1 1)) (some vz) w2 := hw2
        have HG := Lib.hid (And.intro (show Row strE w2 w.heap.size 9 vz (aboveL (l.take (k + 2))) by rw [HA.out]; exact HG.2.2) (hN.out.2.2.grown HG.1 hN.out.2.2.size (fun b e => (hN.out.2.1.lt e).1)))
        clear hw2 hF hFC k0 k1
        go_wp2_with fail
        go_roundw
        case rel => exact ⟨k + 2, _, by omega, rfl, by go_num, Lib.hid ⟨by obtain ⟨j, rfl⟩ := hN.out.1; exact ⟨j + 1, by omega⟩, HG.out.1, HG.out.2⟩⟩
        case measure => simp [intOf]; omega
    · obtain rfl : k = l.length := by omega
      have HX := hN.out.2
      rw [List.take_length] at HX
      have HX2 := Lib.hid HX
      clear HX
      go_wp2
      exact HR.out _ _ ⟨_, rfl, HX2.out⟩
end Go.Proofs.Ytpdeicgjmjoglaa
/- A frontier: its readers. -/
namespace Go.Proofs.Ytpdeicgjmjoglaa
open Go.RowKit Ks
set_option linter.unusedVariables false
abbrev TF : TypeId := 39
theorem fthere_live (n : Nat) (v : Value) (l : List ByteArray) (w : World) (h : FrontAt w 39 n v l) :
    Calls Try.prog 31 #[.pointer (some ⟨n, 0, none⟩)] w fun e w' => e = .returned (.bool true) ∧ w' = w := by
  refine calls_by fun R HR => ?_
  obtain ⟨c0, c1, c2, f0, f1, f2⟩ := blk3 h.blk
  clear h
  go_enter Try.func31, Try.ntmps31
  go_wp2
  exact HR.out _ _ ⟨rfl, rfl⟩
theorem fthere_dead (nv : Value) (w : World) (h : FrontNo w 39 nv) :
    Calls Try.prog 31 #[nv] w fun e w' => e = .returned (.bool false) ∧ w' = w := by
  refine calls_by fun R HR => ?_
  rcases h with rfl | ⟨n, rfl, h⟩
  · go_enter Try.func31, Try.ntmps31
    go_wp2
    exact HR.out _ _ ⟨rfl, rfl⟩
  · obtain ⟨c0, c1, c2, f0, f1, f2⟩ := blk3 h
    clear h
    go_enter Try.func31, Try.ntmps31
    go_wp2
    exact HR.out _ _ ⟨rfl, rfl⟩
theorem fnew_any (w : World) : Calls Try.prog 11 #[] w fun e w' => e = .returned (.pointer (some ⟨w.heap.size, 0, none⟩)) ∧ FrontAt w' 39 w.heap.size (.slice none 0 0) [] ∧ Below w.heap.size w w' := by
  refine calls_by fun R HR => ?_
  go_enter Try.func11, Try.ntmps11
  go_wp2
  refine HR.out _ _ ⟨rfl, ⟨alloc_new w _, ?_, (by simp [Value.ownBlock]), (by simp), by simp⟩, alloc_below w _⟩
  rw [peaks_nil]
  exact Rd.nil _
set_option maxHeartbeats 1000000 in
theorem sclone_any (lv : Value) (l : List ByteArray) (w : World) (hl : Rd strE w lv l) (hlen : l.length ≤ 10000000) :
    Calls Try.prog 32 #[lv] w fun e w' => ∃ v', e = .returned v' ∧ Row strE w' w.heap.size 9 v' l ∧ Below w.heap.size w w' := by
  refine calls_by fun R HR => ?_
  have HL := Lib.hid hl
  have q22 : ∀ (w : World) (a : Option Addr) (n c n' c' : Nat), (binOp .eql 22 (.slice a n c) (.slice none n' c')).run Try.prog w = .ok (.bool a.isNone) w := fun w a n c n' c' => Lib.run_eql_slice_nil w _ _ a n c n' c' Try.underlying22
  obtain ⟨a, cap, rfl, hcap, hnone⟩ := hl.shape
  cases a with
  | none =>
    have hc0 := hnone rfl
    have : l = [] := List.length_eq_zero_iff.1 (by omega)
    subst this
    clear hnone hl
    subst hc0
    go_enter Try.func32, Try.ntmps32
    go_wp2
    exact HR.out _ _ ⟨_, rfl, Row.nil _ _ _, Below.refl _ _⟩
  | some ad =>
    clear hnone hl
    obtain ⟨W1, hW1⟩ : ∃ W1, w.alloc (.cells #[] 9) = W1 := ⟨_, rfl⟩
    have hb1 : Below w.heap.size w W1 := by rw [← hW1]; exact alloc_below w _
    have hrow : Row strE W1 w.heap.size 9 (.slice (some ⟨w.heap.size, 0, none⟩) 0 0) [] := by rw [← hW1]; exact Row.made w _ _ (Nat.le_refl _)
    have H1 := Lib.hid (And.intro hb1 (And.intro hrow (HL.out.below hb1)))
    clear hb1 hrow
    go_enter Try.func32, Try.ntmps32
    go_wp2_with (at_builtin; refine wpList_append_row _ rfl _ _ 22 rfl strT w.heap.size _ _ [] l rfl rfl H1.out.2.1 H1.out.2.2 H1.out.1.size (by simp; omega) (by decide) ?_)
    intro v' w2 hG
    have HG := Lib.hid hG
    clear hG
    go_wp2
    exact HR.out _ _ ⟨v', rfl, HG.out.1, HG.out.below H1.out.1 H1.out.1.size (fun b hb => by simp [Value.ownBlock] at hb; omega)⟩
theorem fcount_live (n : Nat) (v : Value) (l : List ByteArray) (w : World) (h : FrontAt w 39 n v l) :
    Calls Try.prog 14 #[.pointer (some ⟨n, 0, none⟩)] w fun e w' => e = .returned (.int .i64 (l.length : Int)) ∧ w' = w := by
  refine calls_by fun R HR => ?_
  have HI := Lib.hid h
  clear h
  go_enter Try.func14, Try.ntmps14
  go_wp2_with fail
  refine (fthere_live n v l _ HI.out).mono ?_
  rintro e w1 ⟨rfl, rfl⟩
  obtain ⟨c0, c1, c2, f0, f1, f2⟩ := blk3 HI.out.blk
  go_wp2
  exact HR.out _ _ ⟨rfl, rfl⟩
theorem fpeaks_live (n : Nat) (v : Value) (l : List ByteArray) (w : World) (h : FrontAt w 39 n v l) :
    Calls Try.prog 16 #[.pointer (some ⟨n, 0, none⟩)] w fun e w' => ∃ v', e = .returned v' ∧ Row strE w' w.heap.size 9 v' (peaksB l) ∧ Below w.heap.size w w' := by
  refine calls_by fun R HR => ?_
  have HI := Lib.hid h
  have HLN := Lib.hid (show (peaksB l).length ≤ 10000000 by have := peaks_le l; have := h.few; omega)
  obtain ⟨va, vn, vc, hv⟩ : ∃ a n c, v = .slice a n c := ⟨_, _, _, h.row.shape.choose_spec.choose_spec.1⟩
  subst hv
  clear h
  go_enter Try.func16, Try.ntmps16
  go_wp2_with fail
  refine (fthere_live n _ l _ HI.out).mono ?_
  rintro e w1 ⟨rfl, rfl⟩
  obtain ⟨c0, c1, c2, f0, f1, f2⟩ := blk3 HI.out.blk
  go_wp2_with fail
  refine (sclone_any _ (peaksB l) _ HI.out.row HLN.out).mono ?_
  rintro e w2 ⟨v', rfl, hr, hb⟩
  have HRR := Lib.hid hr
  clear hr
  go_wp2
  exact HR.out _ _ ⟨v', rfl, HRR.out, hb⟩
theorem fcount_dead (nv : Value) (w : World) (h : FrontNo w 39 nv) :
    Calls Try.prog 14 #[nv] w fun e w' => e = .returned (.int .i64 0) ∧ w' = w := by
  refine calls_by fun R HR => ?_
  go_enter Try.func14, Try.ntmps14
  go_wp2_with fail
  refine (fthere_dead nv _ h).mono ?_
  rintro e w1 ⟨rfl, rfl⟩
  clear h
  go_wp2
  exact HR.out _ _ ⟨rfl, rfl⟩
theorem fpeaks_dead (nv : Value) (w : World) (h : FrontNo w 39 nv) :
    Calls Try.prog 16 #[nv] w fun e w' => e = .returned (.slice none 0 0) ∧ w' = w := by
  refine calls_by fun R HR => ?_
  go_enter Try.func16, Try.ntmps16
  go_wp2_with fail
  refine (fthere_dead nv _ h).mono ?_
  rintro e w1 ⟨rfl, rfl⟩
  clear h
  go_wp2
  exact HR.out _ _ ⟨rfl, rfl⟩
theorem fcopy_dead (nv : Value) (w : World) (h : FrontNo w 39 nv) :
    Calls Try.prog 17 #[nv] w fun e w' => e = .returned (.pointer none) ∧ w' = w := by
  refine calls_by fun R HR => ?_
  go_enter Try.func17, Try.ntmps17
  go_wp2_with fail
  refine (fthere_dead nv _ h).mono ?_
  rintro e w1 ⟨rfl, rfl⟩
  clear h
  go_wp2
  exact HR.out _ _ ⟨rfl, rfl⟩
theorem froot_dead (nv : Value) (w : World) (h : FrontNo w 39 nv) :
    Calls Try.prog 15 #[nv] w fun e w' => e = .returned (.string ⟨#[]⟩) ∧ w' = w := by
  refine calls_by fun R HR => ?_
  go_enter Try.func15, Try.ntmps15
  go_wp2_with fail
  refine (fthere_dead nv _ h).mono ?_
  rintro e w1 ⟨rfl, rfl⟩
  clear h
  go_wp2
  exact HR.out _ _ ⟨rfl, rfl⟩
set_option maxRecDepth 100000 in
theorem fadd_dead (nv : Value) (s : ByteArray) (w : World) (h : FrontNo w 39 nv) :
    Calls Try.prog 12 #[nv, .string s] w fun e w' => e = .returned (.int .i64 1) ∧ w' = w := by
  refine calls_by fun R HR => ?_
  go_enter Try.func12, Try.ntmps12
  go_wp2_with fail
  refine wp_scope_straight ?_
  go_wp2_with fail
  refine (fthere_dead nv _ h).mono ?_
  rintro e w1 ⟨rfl, rfl⟩
  clear h
  go_wp2
  exact HR.out _ _ ⟨rfl, rfl⟩
end Go.Proofs.Ytpdeicgjmjoglaa
/- Append to a slice that is full makes a new row; such an append in a region that draws its order, and the store of it. Plain. No program is in sight. -/
namespace Ks
open Go Go.RowKit
set_option linter.unusedVariables false
section
variable {α : Type} {E : Enc α}
theorem run_append_full {P : Program} {t ty e : TypeId} {bytes : Nat} (T : ElemT P t e E.k bytes) (w : World) (a : Option Addr) (lv : Value) (L l : List α) (hL : Rd E w (.slice a L.length L.length) L) (hl : Rd E w lv l) (hne : l ≠ []) (b1 : L.length + l.length ≤ 140000000) (b2 : bytes ≤ 1000) :
    ∃ v' w', (Builtin.append_ #[t, t] ty #[.slice a L.length L.length, lv]).run P w = .ok v' w' ∧ Row E w' w.heap.size e v' (L ++ l) ∧ Below w.heap.size w w' := by
  obtain ⟨h1, i, z, h2, h3, h4, h5, h6⟩ := T
  have hmax : L.length + l.length ≤ maxLen := by unfold maxLen; omega
  have hby : (L.length + l.length) * bytes ≤ 140737488355328 := by
    have : (L.length + l.length) * bytes ≤ 140000000 * 1000 := Nat.mul_le_mul b1 b2
    omega
  have hpos : 0 < l.length := List.length_pos_iff.2 hne
  obtain ⟨a2, c2, rfl, _, _⟩ := hl.shape
  obtain ⟨b, o, rfl, _⟩ := hl.at 0 l[0] (List.getElem?_eq_getElem hpos)
  have hsrc : ∀ j u, (E.cs l)[j]? = some u → w.cell? ((⟨b, o, none⟩ : Addr).add j) = some u := fun j u hj => by rw [Addr.add_lit]; exact hl.cells.2 j u hj
  have hlen2 : (L ++ l).length = L.length + l.length := List.length_append
  cases a with
  | none =>
    obtain ⟨a3, c3, e3, _, hz⟩ := hL.shape
    simp only [Value.slice.injEq] at e3
    have hc : c3 = 0 := hz e3.1.symm
    have h0 : L.length = 0 := by omega
    obtain rfl : L = [] := List.length_eq_zero_iff.1 h0
    obtain ⟨v', w', hrun, r1, r2, _⟩ := run_append_own (P := P) w w.heap.size t ty e i z E.k bytes h1 h2 h3 h4 h5 h6 E.pos (.slice none 0 0) 0 [] (World.ownsRow_nil w _ e E.k) ⟨b, o, none⟩ l.length c2 (E.cs l) (E.cs_length l) hsrc (E.cs_one l) (by simpa using hmax) (by simpa using hby) (Nat.le_refl _)
    rw [Nat.zero_add, List.nil_append] at r1
    exact ⟨v', w', hrun, r1, r2.os, r2.tape, r2.output, r2.size, fun k hk => r2.block k hk (by simp [Value.ownBlock])⟩
  | some ad =>
    have hold : ∀ j u, (E.cs L)[j]? = some u → w.cell? (ad.add j) = some u := by
      intro j u hj
      obtain ⟨i', x, j', hx, _, _, _⟩ := E.cs_cell L j u hj
      obtain ⟨b', o', e', _⟩ := hL.at i' x hx
      cases e'
      rw [Addr.add_lit]
      exact hL.cells.2 j u hj
    obtain ⟨v', w', hrun, r1, r2⟩ := run_append_arg_grows (P := P) w t ty e i z E.k bytes h1 h2 h3 h4 h5 h6 E.pos ad L.length L.length (E.cs L) (E.cs_length L) hold ⟨b, o, none⟩ l.length c2 (E.cs l) (E.cs_length l) hsrc (by omega) hmax hby
    refine ⟨v', w', hrun, ?_, r2.os, r2.tape, r2.output, r2.size, fun k hk => r2.block k hk (by simp)⟩
    show w'.ownsRow _ e E.k _ (L ++ l).length (E.cs (L ++ l))
    rw [hlen2, E.cs_append]
    exact r1
variable {P : Program} {ops : Array Oper} {md : Region.Mode} {C : Told → World → Prop}
theorem mv_append_full {Q : Told → Act → Prop} {fuel : Nat} {listed : Array Bool} {F : Told} {a : Act} (i : Nat) {o : Oper}
    (ho : ops[i]? = some o) (hr : Region.ready md ops listed = [i]) (hg : o.guard = none) (s x : Operand) (t : TypeId)
    (hop : o.op = .call { callee := .builtin .append, args := #[s, x], argTypes := #[t, t] }) {e : TypeId} {bytes : Nat} (T : ElemT P t e E.k bytes)
    (ad : Option Addr) (n : Nat) (lv : Value) (L l : List α) (hs : a.eval s = .slice ad n n) (hn : n = L.length) (hx : a.eval x = lv) (hne : l ≠ []) (b1 : L.length + l.length ≤ 140000000) (b2 : bytes ≤ 1000)
    (hrow : ∀ g w, agree md o F g → g i = none → C g w → Rd E w (.slice ad n n) L ∧ Rd E w lv l)
    (V : Value → Prop) (hV : ∀ g w v' w', agree md o F g → g i = none → C g w → Row E w' w.heap.size e v' (L ++ l) → Below w.heap.size w w' → V v' ∧ C (upd g i v') w')
    (hK : ∀ v', V v' → wpAnyM P md ops C Q fuel (listed.setIfInBounds i true) (upd F i v') (a.put o.dst v')) : wpAnyM P md ops C Q (fuel + 1) listed F a := by
  subst hn
  refine mv_alone i ho hr (by simp [Region.wanted, hg]) V (fun g w h0 h1 h2 D hD => ?_) hK
  obtain ⟨r1, r2⟩ := hrow g w h0 h1 h2
  obtain ⟨v', w', hrun, r, rb⟩ := run_append_full (P := P) (t := t) (ty := o.type) T w ad lv L l r1 r2 hne b1 b2
  simp [execOp, hop, resolve, invoke, builtin, hs, hx, hrun, Result.andThen, movesUpon]
  exact hD _ _ (hV g w v' w' h0 h1 h2 r rb).1 (hV g w v' w' h0 h1 h2 r rb).2
end
/-- a class of worlds behind one, where something is read thrice of a cell, what is made of it is joined to others as a new row, and stored into that cell -/
def FullStore {α : Type} (E : Enc α) (w0 : World) (T : TypeId) (R l : List α) (bo co : Nat) (r1 r2 r3 s u z : Option Value) (w : World) : Prop :=
  match z with
  | none => Below w0.heap.size w0 w ∧ (∀ x, s = some x → Rd E w x l) ∧ (∀ x, u = some x → (r1 ≠ none ∧ r2 ≠ none ∧ r3 ≠ none ∧ s ≠ none) ∧ Row E w w0.heap.size T x R)
  | some _ => (r1 ≠ none ∧ r2 ≠ none ∧ r3 ≠ none ∧ s ≠ none) ∧ ∃ u' w1, u = some u' ∧ Below w0.heap.size w0 w1 ∧ Row E w1 w0.heap.size T u' R ∧ w = w1.setCell ⟨bo, co, none⟩ u'
section
variable {α : Type} {E : Enc α} {bo co : Nat} {w0 w w' : World} {T : TypeId} {R l : List α} {r1 r2 r3 s u z : Option Value}
theorem FullStore.start (hb : Below w0.heap.size w0 w) : FullStore E w0 T R l bo co none none none none none none w := ⟨hb, (fun v h => by cases h), (fun v h => by cases h)⟩
theorem FullStore.told (h : FullStore E w0 T R l bo co r1 r2 r3 s u z w) {q1 q2 q3 : Option Value} (h1 : r1 ≠ none → q1 ≠ none) (h2 : r2 ≠ none → q2 ≠ none) (h3 : r3 ≠ none → q3 ≠ none) : FullStore E w0 T R l bo co q1 q2 q3 s u z w := by
  cases z with
  | none => exact ⟨h.1, h.2.1, fun x hx => ⟨⟨h1 (h.2.2 x hx).1.1, h2 (h.2.2 x hx).1.2.1, h3 (h.2.2 x hx).1.2.2.1, (h.2.2 x hx).1.2.2.2⟩, (h.2.2 x hx).2⟩⟩
  | some z => exact ⟨⟨h1 h.1.1, h2 h.1.2.1, h3 h.1.2.2.1, h.1.2.2.2⟩, h.2⟩
theorem FullStore.yet (h : FullStore E w0 T R l bo co r1 r2 r3 s u none w) : Below w0.heap.size w0 w := h.1
theorem FullStore.un1 (h : FullStore E w0 T R l bo co none r2 r3 s u z w) : z = none ∧ u = none := by
  cases z with
  | none =>
    refine ⟨rfl, ?_⟩
    cases u with
    | none => rfl
    | some u => exact absurd rfl (h.2.2 u rfl).1.1
  | some z => exact absurd rfl h.1.1
theorem FullStore.un2 (h : FullStore E w0 T R l bo co r1 none r3 s u z w) : z = none ∧ u = none := by
  cases z with
  | none =>
    refine ⟨rfl, ?_⟩
    cases u with
    | none => rfl
    | some u => exact absurd rfl (h.2.2 u rfl).1.2.1
  | some z => exact absurd rfl h.1.2.1
theorem FullStore.un3 (h : FullStore E w0 T R l bo co r1 r2 none s u z w) : z = none ∧ u = none := by
  cases z with
  | none =>
    refine ⟨rfl, ?_⟩
    cases u with
    | none => rfl
    | some u => exact absurd rfl (h.2.2 u rfl).1.2.2.1
  | some z => exact absurd rfl h.1.2.2.1
theorem FullStore.un4 (h : FullStore E w0 T R l bo co r1 r2 r3 none u z w) : z = none ∧ u = none := by
  cases z with
  | none =>
    refine ⟨rfl, ?_⟩
    cases u with
    | none => rfl
    | some u => exact absurd rfl (h.2.2 u rfl).1.2.2.2
  | some z => exact absurd rfl h.1.2.2.2
theorem FullStore.un5 (h : FullStore E w0 T R l bo co r1 r2 r3 s none z w) : z = none := by
  cases z with
  | none => rfl
  | some z => obtain ⟨_, _, _, e, _⟩ := h; cases e
/-- what was there stands, but for the block that is stored into -/
theorem FullStore.cell {ad : Addr} {x : Value} (h : FullStore E w0 T R l bo co r1 r2 r3 s u z w) (hc : w0.cell? ad = some x) (hbo : ad.block ≠ bo) : w.cell? ad = some x := by
  cases z with
  | none => exact (h.1.cell (p := ad) (World.block_lt_of_cell? _ _ hc)).trans hc
  | some z =>
    obtain ⟨_, u', w1, _, h1, _, rfl⟩ := h
    have hfar : (w1.setCell ⟨bo, co, none⟩ u').cell? ad = w1.cell? ad := World.cell?_of_block (Below.heap_setCell _ _ _ _ hbo)
    rw [hfar]
    exact (h1.cell (p := ad) (World.block_lt_of_cell? _ _ hc)).trans hc
theorem FullStore.on (h : FullStore E w0 T R l bo co r1 r2 r3 none u z w) (hb : Below w.heap.size w w') : FullStore E w0 T R l bo co r1 r2 r3 none u z w' := by
  obtain ⟨rfl, rfl⟩ := h.un4
  exact ⟨h.1.trans (hb.mono h.1.size), (fun v e => by cases e), (fun v e => by cases e)⟩
theorem FullStore.made (h : FullStore E w0 T R l bo co r1 r2 r3 none u z w) (cs : Array Value) (e : cs.toList = E.cs l) (fr : Nat × Nat := (0, 0)) (T' : TypeId) : FullStore E w0 T R l bo co r1 r2 r3 (some (.slice (some ⟨w.heap.size, 0, none⟩) l.length l.length)) u z (w.alloc (.cells cs T' fr)) := by
  obtain ⟨rfl, rfl⟩ := h.un4
  have hb := alloc_below w (.cells cs T' fr)
  exact ⟨h.1.trans (hb.mono h.1.size), (fun x e2 => by cases e2; exact Rd.block (alloc_new w _) e), (fun v e => by cases e)⟩
theorem FullStore.grew {x1 x2 x3 x4 v' : Value} (h : FullStore E w0 T R l bo co (some x1) (some x2) (some x3) (some x4) none z w) (hr : Row E w' w.heap.size T v' R) (hb : Below w.heap.size w w') : FullStore E w0 T R l bo co (some x1) (some x2) (some x3) (some x4) (some v') z w' := by
  obtain rfl := h.un5
  refine ⟨h.1.trans (hb.mono h.1.size), (fun x e => (h.2.1 x e).below hb), fun x e => ?_⟩
  cases e
  exact ⟨⟨(fun e => by cases e), (fun e => by cases e), (fun e => by cases e), (fun e => by cases e)⟩, hr.down h.1.size⟩
theorem FullStore.stored {v' y : Value} (h : FullStore E w0 T R l bo co r1 r2 r3 s (some v') none w) : FullStore E w0 T R l bo co r1 r2 r3 s (some v') (some y) (w.setCell ⟨bo, co, none⟩ v') :=
  ⟨(h.2.2 v' rfl).1, v', w, rfl, h.1, (h.2.2 v' rfl).2, rfl⟩
theorem FullStore.done {u' y : Value} (h : FullStore E w0 T R l bo co r1 r2 r3 s (some u') (some y) w) : ∃ w1, Below w0.heap.size w0 w1 ∧ Row E w1 w0.heap.size T u' R ∧ w = w1.setCell ⟨bo, co, none⟩ u' := by
  obtain ⟨_, u2, w1, e, h1, h2, rfl⟩ := h
  cases e
  exact ⟨w1, h1, h2, rfl⟩
end
/-- an append to a full slice at a step of a region that draws its order -/
theorem step_append_full {P : Program} {ops : Array Oper} {o : Oper} {a : Act} {w : World} {K : Act → World → Prop} {Q : Exit → Act → World → Prop} {F : Prop} {α : Type} {E : Enc α} (hg : o.guard = none) (s x : Operand) (t : TypeId)
    (hop : o.op = Op.call { callee := Callee.builtin Builtin.append, args := #[s, x], argTypes := #[t, t] }) {e : TypeId} {bytes : Nat} (T : ElemT P t e E.k bytes)
    (ad : Option Addr) (n : Nat) (lv : Value) (L l : List α) (hn : n = L.length) (hs : a.eval s = .slice ad n n) (hx : a.eval x = lv) (hL : Rd E w (.slice ad n n) L) (hl : Rd E w lv l) (hne : l ≠ []) (b1 : L.length + l.length ≤ 140000000) (b2 : bytes ≤ 1000)
    (hK : ∀ v' w', Row E w' w.heap.size e v' (L ++ l) → Below w.heap.size w w' → K (a.put o.dst v') w') : if Region.wanted o (yielded ops a.tmps) = true then Oper.wp P o a w K Q else F := by
  subst hn
  obtain ⟨v', w', hrun, r, rb⟩ := run_append_full (P := P) (t := t) (ty := o.type) T w ad lv L l hL hl hne b1 b2
  exact step_append_of hg s x t hop hrun hs hx (hK v' w' r rb)
/-- what is read, or reckoned: what it waits for was told -/
theorem mv_readA {P : Program} {ops : Array Oper} {md : Region.Mode} {C : Told → World → Prop} {Q : Told → Act → Prop} {fuel : Nat} {listed : Array Bool} {f : Told} {a : Act} (i : Nat) {o : Oper} {S : Type} {F : S → World} (hF : ∀ f w, C f w → ∃ s, w = F s) (hm : ∀ g w v, agree md o f g → g i = none → C g w → C (upd g i v) w)
    (ho : ops[i]? = some o) (hs : Region.noSelect ops = true) (hfree : Region.free md ops listed i = true) (hr : (Region.ready md ops listed).contains i = true)
    (h : ∀ K : Value → Act → Prop, (∀ v a, wpAnyM P md ops C Q fuel (listed.setIfInBounds i true) (upd f i v) a → K v a) → if Region.wanted o (yielded ops a.tmps) then ∃ v, (∀ s, Oper.quietUpon P (fun w' => w' = F s) (F s) v ((execOp a.eval o).run P (F s))) ∧ K v (a.put o.dst v) else K undef (a.put o.dst undef)) :
    wpAnyM P md ops C Q (fuel + 1) listed f a := by
  have h := h (fun v a => wpAnyM P md ops C Q fuel (listed.setIfInBounds i true) (upd f i v) a) fun _ _ h => h
  have key : ∀ u, Moves P md ops C o i (fun v => v = u) f a → wpAnyM P md ops C Q fuel (listed.setIfInBounds i true) (upd f i u) (a.put o.dst u) → wpAnyM P md ops C Q (fuel + 1) listed f a := fun u h1 h2 =>
    wpAnyM_first ho (Region.noSelect_spec hs) fuel listed f a (Region.free_spec ho hfree) (by simpa using hr) h1 h2
  split at h
  · rename_i hw
    obtain ⟨v, h1, h2⟩ := h
    refine key v (.inl ⟨hw, fun g w ha hn hC => ?_⟩) h2
    obtain ⟨s, rfl⟩ := hF g w hC
    have h3 := h1 s
    generalize (execOp a.eval o).run P (F s) = r at *
    cases r with
    | ok n w' =>
      cases n <;> simp only [Oper.quietUpon] at h3 <;> simp only [movesUpon]
      case value u => obtain ⟨rfl, rfl⟩ := h3; exact ⟨rfl, hm _ _ _ ha hn hC⟩
      case skip => obtain ⟨rfl, rfl⟩ := h3; exact ⟨rfl, hm _ _ _ ha hn hC⟩
      case enter g args =>
        obtain ⟨rfl, h4⟩ := h3
        exact h4.mono fun e w'' ⟨he, hw''⟩ => by subst hw''; exact ⟨v, he, rfl, hm _ _ _ ha hn hC⟩
    | halt x w' => simp only [Oper.quietUpon] at h3
  · rename_i hw
    exact key undef (.inr ⟨by simpa using hw, rfl, fun g w ha hn hC => hm _ _ _ ha hn hC⟩) h
theorem told_self (f : Told) (k : Nat) (v : Value) : upd f k v k ≠ none := by rw [upd_self]; exact fun e => by cases e
theorem told_by {g F : Told} {k : Nat} {v : Value} (h : g k = F k) (h2 : F k = some v) : g k ≠ none := by rw [h, h2]; exact fun e => by cases e
theorem FullStore.grew2 {α : Type} {E : Enc α} {bo co : Nat} {w0 w w' : World} {T : TypeId} {R l : List α} {r1 r2 r3 s z : Option Value} {v' : Value} (h : FullStore E w0 T R l bo co r1 r2 r3 s none z w) (k : r1 ≠ none ∧ r2 ≠ none ∧ r3 ≠ none ∧ s ≠ none) (hr : Row E w' w.heap.size T v' R) (hb : Below w.heap.size w w') : FullStore E w0 T R l bo co r1 r2 r3 s (some v') z w' := by
  obtain rfl := h.un5
  refine ⟨h.1.trans (hb.mono h.1.size), (fun x e => (h.2.1 x e).below hb), fun x e => ?_⟩
  cases e
  exact ⟨k, hr.down h.1.size⟩
end Ks
/- A call of a function at a step of a region that draws its order, by its contract. Plain. No program is in sight. -/
namespace Ks
open Go Go.RowKit
set_option linter.unusedVariables false
theorem step_call {P : Program} {ops : Array Oper} {o : Oper} {a : Act} {w : World} {K : Act → World → Prop} {Q : Exit → Act → World → Prop} {F : Prop} (hg : o.guard = none) (f : FuncId) (xs : Array Operand) (ts : Array TypeId)
    (hop : o.op = Op.call { callee := Callee.value (.func f), args := xs, argTypes := ts }) (eg : ∀ args w, (callFunc f args).run P w = .ok (.enter f args) w) (args : Array Value) (hargs : xs.toList.map a.eval = args.toList)
    {Φ : Value → World → Prop} (hc : Calls P f args w fun e w' => ∃ v, e = .returned v ∧ Φ v w') (hK : ∀ v w', Φ v w' → K (a.put o.dst v) w') : if Region.wanted o (yielded ops a.tmps) = true then Oper.wp P o a w K Q else F := by
  have hw : Region.wanted o (yielded ops a.tmps) = true := by simp [Region.wanted, hg]
  rw [if_pos hw]
  have hrun : (execOp a.eval o).run P w = .ok (.enter f args) w := by
    have h : xs.map a.eval = args := Array.toList_inj.1 (by simpa using hargs)
    simp [execOp, hop, resolve, Deferred.ofValue, Act.eval, invoke, eg, ← h]
  unfold Oper.wp
  rw [hrun, Oper.upon_enter]
  exact hc.mono fun e w' ⟨v, he, h⟩ => by subst he; exact hK v w' h
/-- a cell that was there, behind a callee that turned nothing -/
theorem cell_on {w w1 : World} {n o : Nat} {v : Value} (hb : Below w.heap.size w w1) (h : w.cell? ⟨n, o, none⟩ = some v) : w1.cell? ⟨n, o, none⟩ = some v ∧ ∀ ob, (w1.alloc ob).cell? ⟨n, o, none⟩ = some v := by
  have hlt : n < w.heap.size := World.block_lt_of_cell? w _ h
  have h1 := (hb.cell (p := ⟨n, o, none⟩) hlt).trans h
  exact ⟨h1, fun ob => (((Below.refl w1.heap.size w1).alloc (Nat.le_refl _) ob).cell (p := ⟨n, o, none⟩) (Nat.lt_of_lt_of_le hlt hb.size)).trans h1⟩
theorem blk_on {w w1 : World} {b : Nat} {o : Obj} (hb : Below w.heap.size w w1) (h : w.heap[b]? = some o) : w1.heap[b]? = some o := (hb.block b (Array.getElem?_eq_some_iff.1 h).1).trans h
end Ks
