/- A region that draws its order in a round of a range over a function, walked once by its class of worlds. Plain. No program is in sight. -/
import Derived.Test.YtophfeapmmfppaaMovedMore
import Derived.Test.YtophfeapmmfppaaRangeSeen
import Derived.OrdersIn
namespace Ks
open Go Go.RowKit
set_option linter.unusedVariables false
def noDeferB (ops : Array Oper) : Bool := ops.all fun o => match o.op with | .defer _ => false | _ => true
theorem noDefer_at {ops : Array Oper} (h : noDeferB ops = true) {i : Nat} {o : Oper} (ho : ops[i]? = some o) : ∀ c, o.op ≠ .defer c := by
  intro c e
  have hi := (Array.getElem?_eq_some_iff.1 ho)
  obtain ⟨hi, rfl⟩ := hi
  have := Array.all_eq_true.1 h i hi
  rw [e] at this
  cases this
section
variable {P : Program} {ops : Array Oper} {md : Region.Mode} {C : Told → World → Prop} {l n : Nat}
theorem wpOpIn_of_mOp {i : Nat} {f : Told} {a : Act} {K : Told → Act → Prop} {K' : Act → World → Prop} {Q' : Exit → Act → World → Prop} {w : World} (hnd : noDeferB ops = true) (hf : f i = none) (hC : C f w) (h : ∀ v a w', C (upd f i v) w' → K (upd f i v) a → K' a w') (hh : mOp P md ops C i K f a) : wpOpIn (Fence.wide.inRound l) n P ops Q' i K' a w := by
  unfold mOp at hh
  unfold wpOpIn
  split
  · rename_i ho; simp only [ho] at hh
  · rename_i o ho
    simp only [ho] at hh
    obtain ⟨V, h1, h2⟩ := hh
    rcases h1 with ⟨hw, h1⟩ | ⟨hw, hV, h1⟩
    · rw [if_pos hw]
      have h3 := h1 f w (fun _ _ _ => rfl) hf hC
      refine ⟨fun _ _ => trivial, ?_⟩
      rw [Oper.semAt_eq _ _ _ (noDefer_at hnd ho)]
      generalize (execOp a.eval o).run P w = r at *
      cases r with
      | ok n w' =>
        cases n <;> simp only [movesUpon] at h3 <;> simp only [Oper.uponIn]
        case value u => exact h _ _ _ h3.2 (h2 _ h3.1)
        case skip => exact h _ _ _ h3.2 (h2 _ h3.1)
        case enter g args =>
          refine ⟨(fun e => by cases e), ?_⟩
          exact CallsIn.inRound l (callsIn_wide.2 (h3.mono fun e w'' ⟨v, he, hv, hw''⟩ => by subst he; exact h _ _ _ hw'' (h2 _ hv)))
      | halt x w' => simp only [movesUpon] at h3
    · rw [if_neg (by simp [hw])]
      exact ⟨fun _ _ => trivial, h _ _ _ (h1 f w (fun _ _ _ => rfl) hf hC) (h2 _ hV)⟩
theorem wpAnyIn_of_moved {Q : Told → Act → Prop} {Q' : Exit → Act → World → Prop} (hnd : noDeferB ops = true) (hQ : ∀ f a w, C f w → Q f a → Q' .normal a w) : ∀ (fuel : Nat) (listed : Array Bool) (f : Told) (a : Act) (w : World), (∀ i, listed.getD i true = false → f i = none) → C f w →
    wpAnyM P md ops C Q fuel listed f a → wpAnyIn (Fence.wide.inRound l) n P md ops Q' fuel listed a w
  | 0, _, _, _, _, _, hw, h => ⟨h.1, hQ _ _ _ hw h.2⟩
  | fuel + 1, listed, f, _, _, hi, hw, h => ⟨fun h0 => absurd h0 h.1, fun i hr => by
      have h0 := (mem_ready.1 hr).1
      refine wpOpIn_of_mOp hnd (hi i h0) hw (fun v a' w' hw' => wpAnyIn_of_moved hnd hQ fuel _ _ a' w' (fun j hj => ?_) hw') (h.2 i hr)
      by_cases e : j = i
      · subst e
        have hlt : j < listed.size := by
          rcases Nat.lt_or_ge j listed.size with h' | h'
          · exact h'
          · simp [Array.getElem?_eq_none h'] at h0
        simp [hlt] at hj
      · rw [getD_set_ne true (Ne.symm e)] at hj
        rw [upd_ne _ _ e]; exact hi j hj⟩
theorem wpIn_region_mv {id : Nat} {Q : Exit → Act → World → Prop} {a : Act} {w : World} {L : List Oper} (C : Told → World → Prop) (hm : P.follows .mixedOrders = true) (hnd : noDeferB L.toArray = true) (hC : C (fun _ => none) w.drew)
    (h : wpAnyM P .any L.toArray C (fun f a' => ∀ w', C f w' → Q .normal a' w') L.length (Array.replicate L.length false) (fun _ => none) a) : (Code.region id L.toArray true).wpIn (Fence.wide.inRound l) n P Q a w :=
  wpIn_region_any hm (wpAnyIn_of_moved (C := C) (Q := fun f a => ∀ w', C f w' → Q .normal a w') hnd (fun f a w hw h => h w hw) _ _ (fun _ => none) _ _ (fun _ _ => rfl) hC (by simpa using h))
end
end Ks
