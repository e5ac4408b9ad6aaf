/- A range over a function that hands on what lies in memory (slices): the contract says of each what it reads as where it is handed. The loop's body leaves no way but its end. Plain. No program is in sight. -/
import Derived.RangeFuncNested
import Derived.RangeFuncBound
import Derived.RangeFuncCalls
import Derived.RangeFuncLeaves
namespace Ks
open Go Go.RowKit
set_option linter.unusedVariables false

/-- What an iterator hands on: behind the last round (world A) x was made (world B), of which New tells; X is what it reads of x behind the round. -/
def SeenAll {α : Type} (F : Fence) (n : Nat) (P : Program) (g : Nat) (lb : Array Value) (encs : α → Array Value) (X : α → World → Prop) (New : List α → α → World → World → Prop) (x0 : α) (S : List α → Prop) (w : World) : Prop :=
  ∀ (l : Nat) (J : List α → World → Prop) (M : List α → α → World → Prop) (W : World), Below w.heap.size w W →
    (∀ pre A B, J pre A → Below A.heap.size A B → J pre B) → (∀ pre x A B, J pre A → Below A.heap.size A B → New pre x A B → M pre x B) →
    (∀ pre x W1, M pre x W1 → YieldAt F (n - 1) P l (encs x) W1 fun e W' => e = .returned (.bool true) ∧ J (pre ++ [x]) W' ∧ X x W') →
    (∀ A, Below W.heap.size W A → M [] x0 A) →
    CallsIn F n P g (#[.func (.yield l) #[] #[]] ++ lb) W fun e W' => (∃ v, e = .returned v) ∧ ∃ xs, S xs ∧ J xs W'

def seenPost {α : Type} (B : Nat) (I : List α → World → Prop) (X : α → World → Prop) (pre : List α) (x : α) (W : World) : Exit → Act → World → Prop
  | .normal, _, W' => KeepsFrom B W W' ∧ I (pre ++ [x]) W' ∧ X x W'
  | _, _, _ => False

theorem wpIn_range_seen {F : Fence} {n : Nat} {P : Program} {α : Type} {g : Operand} {ps : Array Tmp} {assign body : Code} {Q : Exit → Act → World → Prop} {a : Act} {w : World}
    (hro : F.round = none) (h1 : 1 ≤ n) {gf : Nat} {lb : Array Value} (hg : a.eval g = .func (.func gf) #[] lb) (hFg : F.fn gf) (eg : ∀ args w, (callFunc gf args).run P w = .ok (.enter gf args) w)
    {encs : α → Array Value} {X : α → World → Prop} {New : List α → α → World → World → Prop} {x0 : α} {S : List α → Prop} (hseq : SeenAll F (n - 1) P gf lb encs X New x0 S w) (hps : ∀ x, (encs x).size = ps.size)
    (I : List α → World → Prop) (M : List α → α → World → Prop) (hI : OwnFrom w.heap.size I) (hM : OwnFrom w.heap.size fun (s : List α × α) W => M s.1 s.2 W) (hX : OwnFrom w.heap.size X)
    (hIB : ∀ pre A B, I pre A → w.heap.size + 2 ≤ A.heap.size → Below A.heap.size A B → I pre B) (hIM : ∀ pre x A B, I pre A → w.heap.size + 2 ≤ A.heap.size → Below A.heap.size A B → New pre x A B → M pre x B)
    (h0 : ∀ A, Below w.heap.size w A → M [] x0 A) (a₁ : α → Act)
    (hassign : ∀ (l : Nat) (x : α) (W : World) (K : Act → World → Prop), K (a₁ x) W →
      assign.wpIn (F.inRound l) (n - 1 - 1) P (Exit.then K (fun _ _ _ => False)) { tmps := (ps.zip (encs x)).foldl (fun t (p, v) => t.setIfInBounds p v) a.tmps, defers := [] } W)
    (hbody : ∀ (l : Nat) (pre : List α) (x : α) (W : World), w.heap.size + 2 ≤ W.heap.size → M pre x W → body.wpIn (F.inRound l) (n - 1 - 1) P (seenPost w.heap.size I X pre x W) (a₁ x) W)
    (hdone : ∀ (D : Nat) (xs : List α) (W : World), w.heap.size ≤ D → S xs → I xs W → W.heap[D]? = some (.deferred (some [])) → Q .normal { a with defers := { target := .collected D, args := #[] } :: a.defers } W) :
    (Code.rangeFunc g ps assign body).wpIn F n P Q a w := by
  refine wpIn_rangeFunc fun fn hfn => ?_
  rw [hro]
  obtain ⟨mk, hmk⟩ : ∃ mk : LoopState → Loop, mk = fun st => { state := st, pending := none, fn, tmps := a.tmps, params := ps, assign, body, defers := w.heap.size } := ⟨_, rfl⟩
  obtain ⟨V, hV⟩ : ∃ V, (w.alloc (.deferred (some []))).alloc (.loop (mk .ready)) = V := ⟨_, rfl⟩
  have hs2 : V.heap.size = w.heap.size + 2 := by rw [← hV]; simp
  have hrec : V.heap[w.heap.size + 1]? = some (.loop (mk .ready)) := by
    rw [← hV]; have := World.alloc_heap_new (w.alloc (.deferred (some []))) (.loop (mk .ready)); rwa [World.size_alloc] at this
  have hdef : V.heap[w.heap.size]? = some (.deferred (some [])) := by
    rw [← hV]; exact (Below.heap_alloc _ _ _ (by simp)).trans (World.alloc_heap_new w _)
  have hwV : Below w.heap.size w V := by rw [← hV]; exact ((Below.refl _ w).alloc (Nat.le_refl _) _).alloc (by simp) _
  have lt : ∀ {A : World} {k : Nat} {o : Obj}, A.heap[k]? = some o → k < A.heap.size := fun h => (Array.getElem?_eq_some_iff.1 h).1
  refine ⟨w.heap.size + 1, [{ target := .collected w.heap.size, args := #[] }], V, { target := .fn (.func gf) lb, args := #[.func (.yield (w.heap.size + 1)) #[] #[]] }, V, gf,
    #[.func (.yield (w.heap.size + 1)) #[] #[]] ++ lb, V, by rw [← hV, hmk]; exact run_enterLoop_outer _ _ _ _ _, by simp only [resolve, hg]; simp [go_sem],
    fun f' hf' => by simp [Target.leads] at hf'; subst hf'; exact hFg, by simp [invoke, go_sem, eg], fun _ => h1, ?_⟩
  have key := hseq (w.heap.size + 1) (fun pre W => I pre W ∧ W.heap[w.heap.size + 1]? = some (.loop (mk .ready)) ∧ W.heap[w.heap.size]? = some (.deferred (some [])))
    (fun pre x W => M pre x W ∧ W.heap[w.heap.size + 1]? = some (.loop (mk .ready)) ∧ W.heap[w.heap.size]? = some (.deferred (some []))) V hwV
    (fun pre A B h hb => ⟨hIB pre A B h.1 (by have := lt h.2.1; omega) hb, (hb.block _ (lt h.2.1)).trans h.2.1, (hb.block _ (lt h.2.2)).trans h.2.2⟩)
    (fun pre x A B h hb hn => ⟨hIM pre x A B h.1 (by have := lt h.2.1; omega) hb hn, (hb.block _ (lt h.2.1)).trans h.2.1, (hb.block _ (lt h.2.2)).trans h.2.2⟩)
    (fun pre x W h => ?_) (fun A hb => ⟨h0 A (hwV.trans (hb.mono (by omega))), (hb.block _ (by omega)).trans hrec, (hb.block _ (by omega)).trans hdef⟩)
  · refine key.mono ?_
    rintro e W2 ⟨⟨v, rfl⟩, xs, hS, hi, hl, hk⟩
    exact ⟨none, _, by have := run_endLoop (P := P) hl (by rw [hmk]; simp); rw [hmk] at this; exact this, hdone _ xs _ (Nat.le_refl _) hS (hI.putObj _ hi (by omega) hl rfl) ((World.putObj_heap_other (by omega)).trans hk)⟩
  · obtain ⟨hm, hl, hk⟩ := h
    have hlt := lt hl
    have hy := run_yield (P := P) (args := encs x) hl (by rw [hmk]; exact hps x)
    rw [hmk] at hy
    refine ⟨fn, _, assign, body, hy, roundIn_of_wpIn hfn (hassign _ x W _ ⟨_, run_beginRound hl (by rw [hmk]), ?_⟩)⟩
    have hl2 : (W.putObj (w.heap.size + 1) (.loop { mk .ready with state := .busy })).heap[w.heap.size + 1]? = some (.loop { mk .ready with state := .busy }) := World.putObj_heap_same hlt
    have hk2 : (W.putObj (w.heap.size + 1) (.loop { mk .ready with state := .busy })).heap[w.heap.size]? = some (.deferred (some [])) := (World.putObj_heap_other (by omega)).trans hk
    refine wpIn_mono (hbody _ pre x _ (by simp; omega) (hM.putObj (s := (pre, x)) _ hm (by omega) hl rfl)) ?_
    rintro e a3 W3 hp
    cases e with
    | normal =>
      obtain ⟨hk3, hi3, hx3⟩ := hp
      have hl3 := hk3.same _ _ (by omega) hl2 rfl
      have hd3 := hk3.same _ _ (Nat.le_refl _) hk2 rfl
      have hr := run_endRound (P := P) none hl3
      have hlt3 := lt hl3
      refine ⟨_, _, hr, rfl, ⟨hI.putObj _ hi3 (by omega) hl3 rfl, ?_, (World.putObj_heap_other (by omega)).trans hd3⟩, hX.putObj _ hx3 (by omega) hl3 rfl⟩
      rw [World.putObj_heap_same hlt3, hmk]
      rfl
    | ret => exact hp.elim
    | exit id => exact hp.elim
    | goto t => exact hp.elim
    | panic ch => exact hp.elim
    | outgrown => exact hp.elim
end Ks
