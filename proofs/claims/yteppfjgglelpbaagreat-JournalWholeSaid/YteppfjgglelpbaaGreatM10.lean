/- Texts that the claim rests on, part 10: RangeGen, JrnUnlike, NumE, SlotPick, SlotStale, JrnRightP, MovedCall, RangeSlot. -/
import Derived.Shelf.RegionOpen
import Derived.OwnWalkIn
import Derived.TacticsInMore
import Derived.LoopNIn
import Derived.LoopIn
import Derived.WalkMore
import Derived.Scope
import Derived.BigQuiet
import Derived.Test.YteppfjgglelpbaaGreatM9
/- A range over a function whose walk rests on what the caller keeps; the body may leave early. Plain. No program is in sight. -/
namespace Ks
open Go Go.RowKit
set_option linter.unusedVariables false

/-- what an iterator does, whatever the caller keeps at the state s (J, which tells I); Gives: it may hand on x at s; Next: behind that round; Skip: it goes on by itself; End: it ends -/
def IterAll {σ α : Type} (F : Fence) (n : Nat) (P : Program) (g : Nat) (lb : Array Value) (encs : α → Array Value) (I : σ → World → Prop) (Gives : σ → α → Prop) (Next : σ → α → σ → Prop) (Skip : σ → σ → Prop) (s0 : σ) (End : σ → Prop) (w : World) : Prop :=
  ∀ (l : Nat) (J : σ → World → Prop) (Jx : World → Prop) (W : World), Below w.heap.size w W →
    (∀ s A, J s A → I s A) → (∀ s A B, J s A → Below A.heap.size A B → J s B) →
    (∀ s x A, J s A → Gives s x → YieldAt F (n - 1) P l (encs x) A fun e W' => (e = .returned (.bool true) ∧ ∃ s', Next s x s' ∧ J s' W') ∨ (e = .returned (.bool false) ∧ Jx W')) →
    (∀ s s' A, J s A → Skip s s' → J s' A) → J s0 W →
    CallsIn F n P g (#[.func (.yield l) #[] #[]] ++ lb) W fun e W' => (∃ v, e = .returned v) ∧ ((∃ s, End s ∧ J s W') ∨ Jx W')

def genPost {σ : Type} (B : Nat) (I : σ → World → Prop) (Ix : Code → World → Prop) (N : σ → Prop) (W : World) : Exit → Act → World → Prop
  | .normal, _, W' => KeepsFrom B W W' ∧ ∃ s', N s' ∧ I s' W'
  | .ret, _, W' => KeepsFrom B W W' ∧ Ix .ret W'
  | .exit id, _, W' => KeepsFrom B W W' ∧ Ix (.exit id) W'
  | .goto t, _, W' => KeepsFrom B W W' ∧ Ix (.goto t) W'
  | .panic _, _, _ => False
  | .outgrown, _, _ => False

theorem wpIn_range_gen {F : Fence} {n : Nat} {P : Program} {σ α : Type} {g : Operand} {ps : Array Tmp} {assign body : Code} {Q : Exit → Act → World → Prop} {a : Act} {w : World}
    (hro : F.round = none) (h1 : 1 ≤ n) {gf : Nat} {lb : Array Value} (hg : a.eval g = .func (.func gf) #[] lb) (hFg : F.fn gf) (eg : ∀ args w, (callFunc gf args).run P w = .ok (.enter gf args) w)
    {encs : α → Array Value} (I : σ → World → Prop) (Ix : Code → World → Prop) {Gives : σ → α → Prop} {Next : σ → α → σ → Prop} {Skip : σ → σ → Prop} {s0 : σ} {End : σ → Prop}
    (hseq : IterAll F (n - 1) P gf lb encs I Gives Next Skip s0 End w) (hps : ∀ x, (encs x).size = ps.size)
    (hI : OwnFrom w.heap.size I) (hIx : OwnFrom w.heap.size Ix)
    (hIB : ∀ s A B, I s A → w.heap.size + 2 ≤ A.heap.size → Below A.heap.size A B → I s B) (hIS : ∀ s s' A, I s A → Skip s s' → I s' A)
    (h0 : I s0 w) (a₁ : α → Nat → Act) (asg : α → World → World) (Nw : α × Nat → World → Prop) (hNw : OwnFrom w.heap.size Nw) (hasg : ∀ x W, Below W.heap.size W (asg x W) ∧ Nw (x, W.heap.size) (asg x W))
    (hassign : ∀ (l : Nat) (x : α) (W : World) (K : Act → World → Prop), K (a₁ x W.heap.size) (asg x W) →
      assign.wpIn (F.inRound l) (n - 1 - 1) P (Exit.then K (fun _ _ _ => False)) { tmps := (ps.zip (encs x)).foldl (fun t (p, v) => t.setIfInBounds p v) a.tmps, defers := [] } W)
    (hbody : ∀ (l : Nat) (s : σ) (x : α) (b : Nat) (W : World), w.heap.size + 2 ≤ b → b ≤ W.heap.size → I s W → Gives s x → Nw (x, b) W → body.wpIn (F.inRound l) (n - 1 - 1) P (genPost w.heap.size I Ix (Next s x) W) (a₁ x b) W)
    (hdone : ∀ (D : Nat) (s : σ) (W : World), w.heap.size ≤ D → End s → I s W → W.heap[D]? = some (.deferred (some [])) → Q .normal { a with defers := { target := .collected D, args := #[] } :: a.defers } W)
    (hstop : ∀ (D : Nat) (c : Code) (W : World), w.heap.size ≤ D → Ix c W → W.heap[D]? = some (.deferred (some [])) → c.wpIn F n P Q { a with defers := { target := .collected D, args := #[] } :: a.defers } W) :
    (Code.rangeFunc g ps assign body).wpIn F n P Q a w := by
  refine wpIn_rangeFunc fun fn hfn => ?_
  rw [hro]
  obtain ⟨mk, hmk⟩ : ∃ mk : LoopState → Option Code → Loop, mk = fun st pe => { state := st, pending := pe, fn, tmps := a.tmps, params := ps, assign, body, defers := w.heap.size } := ⟨_, rfl⟩
  obtain ⟨V, hV⟩ : ∃ V, (w.alloc (.deferred (some []))).alloc (.loop (mk .ready none)) = V := ⟨_, rfl⟩
  have hs2 : V.heap.size = w.heap.size + 2 := by rw [← hV]; simp
  have hrec : V.heap[w.heap.size + 1]? = some (.loop (mk .ready none)) := by
    rw [← hV]; have := World.alloc_heap_new (w.alloc (.deferred (some []))) (.loop (mk .ready none)); rwa [World.size_alloc] at this
  have hdef : V.heap[w.heap.size]? = some (.deferred (some [])) := by
    rw [← hV]; exact (Below.heap_alloc _ _ _ (by simp)).trans (World.alloc_heap_new w _)
  have hwV : Below w.heap.size w V := by rw [← hV]; exact ((Below.refl _ w).alloc (Nat.le_refl _) _).alloc (by simp) _
  have hIV : I s0 V := by rw [← hV]; exact hI.alloc _ (hI.alloc _ h0)
  have lt : ∀ {A : World} {k : Nat} {o : Obj}, A.heap[k]? = some o → k < A.heap.size := fun h => (Array.getElem?_eq_some_iff.1 h).1
  refine ⟨w.heap.size + 1, [{ target := .collected w.heap.size, args := #[] }], V, { target := .fn (.func gf) lb, args := #[.func (.yield (w.heap.size + 1)) #[] #[]] }, V, gf,
    #[.func (.yield (w.heap.size + 1)) #[] #[]] ++ lb, V, by rw [← hV, hmk]; exact run_enterLoop_outer _ _ _ _ _, by simp only [resolve, hg]; simp [go_sem],
    fun f' hf' => by simp [Target.leads] at hf'; subst hf'; exact hFg, by simp [invoke, go_sem, eg], fun _ => h1, ?_⟩
  have key := hseq (w.heap.size + 1) (fun s W => I s W ∧ W.heap[w.heap.size + 1]? = some (.loop (mk .ready none)) ∧ W.heap[w.heap.size]? = some (.deferred (some [])))
    (fun W => ∃ c, Ix c W ∧ W.heap[w.heap.size + 1]? = some (.loop (mk .done (some c))) ∧ W.heap[w.heap.size]? = some (.deferred (some []))) V hwV
    (fun s A h => h.1)
    (fun s A B h hb => ⟨hIB s A B h.1 (by have := lt h.2.1; omega) hb, (hb.block _ (lt h.2.1)).trans h.2.1, (hb.block _ (lt h.2.2)).trans h.2.2⟩)
    (fun s x W h hx => ?_) (fun s s' A h hk => ⟨hIS s s' A h.1 hk, h.2⟩) ⟨hIV, hrec, hdef⟩
  · refine key.mono ?_
    rintro e W2 ⟨⟨v, rfl⟩, ⟨s, hE, hi, hl, hk⟩ | ⟨c, hi, hl, hk⟩⟩
    · exact ⟨none, _, by have := run_endLoop (P := P) hl (by rw [hmk]; simp); rw [hmk] at this; exact this, hdone _ s _ (Nat.le_refl _) hE (hI.putObj _ hi (by omega) hl rfl) ((World.putObj_heap_other (by omega)).trans hk)⟩
    · exact ⟨some c, _, by have := run_endLoop (P := P) hl (by rw [hmk]; simp); rw [hmk] at this; exact this, hstop _ c _ (Nat.le_refl _) (hIx.putObj _ hi (by omega) hl rfl) ((World.putObj_heap_other (by omega)).trans hk)⟩
  · obtain ⟨hm, hl, hk⟩ := h
    have hlt0 := lt hl
    have hy := run_yield (P := P) (args := encs x) hl (by rw [hmk]; exact hps x)
    rw [hmk] at hy
    have hWs : w.heap.size + 2 ≤ W.heap.size := by omega
    obtain ⟨hA, hN⟩ := hasg x W
    refine ⟨fn, _, assign, body, hy, roundIn_of_wpIn hfn (hassign _ x W _ ?_)⟩
    obtain ⟨b, hbq⟩ : ∃ b, W.heap.size = b := ⟨_, rfl⟩
    obtain ⟨W9, hW9⟩ : ∃ W9, asg x W = W9 := ⟨_, rfl⟩
    rw [hW9] at hA hN ⊢
    rw [hbq] at hN
    replace hm := hIB s _ _ hm hWs hA
    replace hl := (hA.block _ (lt hl)).trans hl
    replace hk := (hA.block _ (lt hk)).trans hk
    have hb9 : b ≤ W9.heap.size := by rw [← hbq]; exact hA.size
    rw [hbq] at hWs ⊢
    clear hA hy hlt0 hbq hW9 W
    obtain ⟨W, rfl⟩ : ∃ W, W = W9 := ⟨_, rfl⟩
    have hlt := lt hl
    refine ⟨_, run_beginRound hl (by rw [hmk]), ?_⟩
    have hl2 : (W.putObj (w.heap.size + 1) (.loop { mk .ready none with state := .busy })).heap[w.heap.size + 1]? = some (.loop { mk .ready none with state := .busy }) := World.putObj_heap_same hlt
    have hk2 : (W.putObj (w.heap.size + 1) (.loop { mk .ready none with state := .busy })).heap[w.heap.size]? = some (.deferred (some [])) := (World.putObj_heap_other (by omega)).trans hk
    have fin : ∀ (jump : Option Code) (W3 : World), KeepsFrom w.heap.size (W.putObj (w.heap.size + 1) (.loop { mk .ready none with state := .busy })) W3 →
        (Instr.endRound (w.heap.size + 1) jump).run P W3 = .ok (.bool jump.isNone) (W3.putObj (w.heap.size + 1) (.loop (mk (if jump.isNone then .ready else .done) jump))) ∧
        W3.heap[w.heap.size + 1]? = some (.loop { mk .ready none with state := .busy }) ∧
        (W3.putObj (w.heap.size + 1) (.loop (mk (if jump.isNone then .ready else .done) jump))).heap[w.heap.size + 1]? = some (.loop (mk (if jump.isNone then .ready else .done) jump)) ∧
        (W3.putObj (w.heap.size + 1) (.loop (mk (if jump.isNone then .ready else .done) jump))).heap[w.heap.size]? = some (.deferred (some [])) := fun jump W3 hk3 => by
      have hl3 := hk3.same _ _ (by omega) hl2 rfl
      have := run_endRound (P := P) jump hl3
      rw [hmk] at this ⊢
      exact ⟨this, by rw [hmk] at hl3; exact hl3, World.putObj_heap_same (lt hl3), (World.putObj_heap_other (by omega)).trans (hk3.same _ _ (Nat.le_refl _) hk2 rfl)⟩
    refine wpIn_mono (hbody _ s x b _ hWs (by simpa using hb9) (hI.putObj _ hm (by omega) hl rfl) hx (hNw.putObj (s := (x, b)) _ hN (by omega) hl rfl)) ?_
    rintro e a3 W3 hp
    cases e with
    | normal =>
      obtain ⟨hk3, s', hn, hi3⟩ := hp
      obtain ⟨hr, hl3, hl4, hk4⟩ := fin none W3 hk3
      exact ⟨_, _, hr, .inl ⟨rfl, s', hn, hI.putObj _ hi3 (by omega) hl3 rfl, hl4, hk4⟩⟩
    | ret =>
      obtain ⟨hk3, hi3⟩ := hp
      obtain ⟨hr, hl3, hl4, hk4⟩ := fin (some .ret) W3 hk3
      exact ⟨_, _, hr, .inr ⟨rfl, .ret, hIx.putObj _ hi3 (by omega) hl3 rfl, hl4, hk4⟩⟩
    | exit id =>
      obtain ⟨hk3, hi3⟩ := hp
      obtain ⟨hr, hl3, hl4, hk4⟩ := fin (some (.exit id)) W3 hk3
      exact ⟨_, _, hr, .inr ⟨rfl, .exit id, hIx.putObj _ hi3 (by omega) hl3 rfl, hl4, hk4⟩⟩
    | goto t =>
      obtain ⟨hk3, hi3⟩ := hp
      obtain ⟨hr, hl3, hl4, hk4⟩ := fin (some (.goto t)) W3 hk3
      exact ⟨_, _, hr, .inr ⟨rfl, .goto t, hIx.putObj _ hi3 (by omega) hl3 rfl, hl4, hk4⟩⟩
    | panic ch => exact hp.elim
    | outgrown => exact hp.elim
theorem wpIn_scope_wd {P : Program} {n : Nat} {c : Code} {Q : Exit → Act → World → Prop} {a : Act} {w : World} (h : c.wpIn Fence.wide n P (Exit.noGoto Q) a w) : (Code.scope c).wpIn Fence.wide n P Q a w := wpIn_wide.2 (wp_scope_straight (wpIn_wide.1 h))
theorem wpIn_label_wd {P : Program} {n l : Nat} {Q : Exit → Act → World → Prop} {a : Act} {w : World} (h : Q .normal a w) : (Code.label l).wpIn Fence.wide n P Q a w := wpIn_wide.2 (wp_label h)
/-- a block of cells is the caller's own -/
theorem ownFrom_blk {β : Type} {B b : Nat} (f : β → Array Value) (T : TypeId) (fr : Nat × Nat) : OwnFrom B (fun s W => W.heap[b]? = some (.cells (f s) T fr)) :=
  fun s W W' row hs hg hr => (grownBy_keeps_cells hg (fun r e => (hr r e).2) hs rfl).trans hs
theorem ownFrom_blk0 {β : Type} {B b : Nat} (o : Obj) (ho : o.isCells = true) : OwnFrom B (fun (_ : β) W => W.heap[b]? = some o) :=
  fun s W W' row hs hg hr => (grownBy_keeps_cells hg (fun r e => (hr r e).2) hs ho).trans hs
end Ks
/- Places that do not show noughts, one by one: of the program's journal. -/
set_option maxRecDepth 100000
namespace Go.Proofs.YteppfjgglelpbaaGreat
open Go.RowKit Ks
set_option linter.unusedVariables false
set_option linter.unusedSimpArgs false
attribute [local go_sem] Oper.semAt_some
theorem str_neqJ {a b : ByteArray} (h : a ≠ b) : (a.toList == b.toList) = false := by
  rw [beq_eq_false_iff_ne]
  intro e
  rw [ByteArray.toList_eq, ByteArray.toList_eq] at e
  apply h
  obtain ⟨⟨x⟩⟩ := a
  obtain ⟨⟨y⟩⟩ := b
  have : x = y := e
  rw [this]
theorem unlike_any (dn : Nat) (fr up : Int) (w : World) : Calls Tryz.prog 53 #[.pointer (some ⟨dn, 0, none⟩), .int .i64 fr, .int .i64 up] w fun e w' =>
    e = .returned (.func (.func 83) #[] #[.pointer (some ⟨w.heap.size + 1, 0, none⟩), .pointer (some ⟨w.heap.size + 2, 0, none⟩), .pointer (some ⟨w.heap.size, 0, none⟩)]) ∧ Below w.heap.size w w' ∧ w'.heap.size = w.heap.size + 3 ∧
    w'.heap[w.heap.size]? = some (.cells #[.pointer (some ⟨dn, 0, none⟩)] 25 (0, 0)) ∧ w'.heap[w.heap.size + 1]? = some (.cells #[.int .i64 fr] 3 (0, 0)) ∧ w'.heap[w.heap.size + 2]? = some (.cells #[.int .i64 up] 3 (0, 0)) := by
  refine calls_by fun R HR => ?_
  obtain ⟨W1, hW1⟩ : ∃ W, w.alloc (.cells #[.pointer (some ⟨dn, 0, none⟩)] 25) = W := ⟨_, rfl⟩
  have b1 : Below w.heap.size w W1 := by rw [← hW1]; exact alloc_below _ _
  have n1 : W1.heap[w.heap.size]? = some (.cells #[.pointer (some ⟨dn, 0, none⟩)] 25 (0, 0)) := by rw [← hW1]; exact alloc_new _ _
  have s1 : W1.heap.size = w.heap.size + 1 := by rw [← hW1]; simp
  obtain ⟨W2, hW2⟩ : ∃ W, W1.alloc (.cells #[.int .i64 fr] 3) = W := ⟨_, rfl⟩
  have b2 : Below W1.heap.size W1 W2 := by rw [← hW2]; exact alloc_below _ _
  have n2 : W2.heap[W1.heap.size]? = some (.cells #[.int .i64 fr] 3 (0, 0)) := by rw [← hW2]; exact alloc_new _ _
  have s2 : W2.heap.size = w.heap.size + 2 := by rw [← hW2]; simp [s1]
  obtain ⟨W3, hW3⟩ : ∃ W, W2.alloc (.cells #[.int .i64 up] 3) = W := ⟨_, rfl⟩
  have b3 : Below W2.heap.size W2 W3 := by rw [← hW3]; exact alloc_below _ _
  have n3 : W3.heap[W2.heap.size]? = some (.cells #[.int .i64 up] 3 (0, 0)) := by rw [← hW3]; exact alloc_new _ _
  have s3 : W3.heap.size = w.heap.size + 3 := by rw [← hW3]; simp [s2]
  rw [s1] at n2
  rw [s2] at n3
  have H := Lib.hid (And.intro ((b1.trans (b2.mono b1.size)).trans (b3.mono (b1.trans (b2.mono b1.size)).size)) (And.intro s3 (And.intro (blk_on b3 (blk_on b2 n1)) (And.intro (blk_on b3 n2) n3))))
  clear b1 b2 b3 n1 n2 n3 s3
  go_enter Tryz.func53, Tryz.ntmps53
  go_wp2
  exact HR.out _ _ ⟨by simp [s1, s2], H.out⟩
set_option maxRecDepth 100000 in
set_option maxHeartbeats 4000000 in
theorem unlike_iter (k0 bf bt bd dn : Nat) (vb vc : Value) (d : DS) (fr up : Int) (hfr : 0 ≤ fr ∧ fr ≤ 1000000) (hup : up ≤ 1000000) (I : Nat → World → Prop) (w : World)
    (hI : ∀ k A, I k A → A.cell? ⟨bf, 0, none⟩ = some (.int .i64 fr) ∧ A.cell? ⟨bt, 0, none⟩ = some (.int .i64 up) ∧ A.cell? ⟨bd, 0, none⟩ = some (.pointer (some ⟨dn, 0, none⟩)) ∧ DkAt A dn vb vc d) :
    IterAll Fence.wide k0 Tryz.prog 83 #[.pointer (some ⟨bf, 0, none⟩), .pointer (some ⟨bt, 0, none⟩), .pointer (some ⟨bd, 0, none⟩)] (fun x : Int => #[.int .i64 x]) I
      (fun k x => k < (up - fr).toNat ∧ x = fr + (k : Int) ∧ (readD d x).1 ≠ zerosS 4096) (fun k _ k' => k' = k + 1) (fun k k' => k < (up - fr).toNat ∧ k' = k + 1 ∧ (readD d (fr + (k : Int))).1 = zerosS 4096) 0 (fun k => k = (up - fr).toNat) w := by
  intro lp J Jx W hW hJI hJB hY hS h0
  have HI := Lib.hid (fun k A (h : J k A) => hI k A (hJI k A h))
  have HYd := Lib.hid hY
  have H0 := Lib.hid h0
  have HSk := Lib.hid hS
  have HB := Lib.hid hJB
  have HSl := Lib.hid (fun w => slempty_any w)
  have HRd := Lib.hid (fun (i : Int) (A : World) (h : DkAt A dn vb vc d) => dread_any i A h)
  generalize zerosS 4096 = ZS at *
  clear hJI hJB hY hS h0 hI
  obtain ⟨b0, b1, b2, -⟩ := HI.out 0 W H0.out
  refine callsIn_of_wp Tryz.func83 rfl trivial ?_ rfl
  simp only [Tryz.ntmps83, List.size_toArray, List.length_cons, List.length_nil, Nat.reduceAdd, Nat.reduceSub, Array.replicate_succ, Array.replicate_zero, List.push_toArray, List.append_toArray, List.nil_append, List.cons_append]
  gi_wp2
  gi_loopw [5] (fun v wr => ∃ (j : Nat), j ≤ (up - fr).toNat ∧ v = .int .i64 (fr + (j : Int)) ∧ Hid (J j wr)) (fun v _ => (up - intOf v).toNat)
  case atStart => exact ⟨0, Nat.zero_le _, by simp, H0⟩
  case round =>
    obtain ⟨j, hj, rfl, hN⟩ := hrel
    obtain ⟨c0, c1, c2, hd⟩ := HI.out _ wr hN.out
    by_cases hlt : fr + (j : Int) < up
    case neg =>
      have hz : decide (fr + (j : Int) < up) = false := decide_eq_false hlt
      have HJn := Lib.hid (show j = (up - fr).toNat by omega)
      clear hd hj
      gi_wp2
      go_end0
      exact ⟨⟨_, rfl⟩, Or.inl (by have := hN.out; rw [HJn.out] at this; exact this)⟩
    have hz : decide (fr + (j : Int) < up) = true := decide_eq_true hlt
    have HJn := Lib.hid (show j < (up - fr).toNat by omega)
    have hw2 : wrap64 (fr + (j : Int) + 1) = fr + ((j + 1 : Nat) : Int) := by unfold wrap64; omega
    have HR1 := Lib.hid (HRd.out (fr + (j : Int)) wr hd)
    have HYj := Lib.hid (fun A (h : J j A) (h2 : (readD d (fr + (j : Int))).1 ≠ ZS) => HYd.out j (fr + (j : Int)) A h ⟨HJn.out, rfl, h2⟩)
    have HSj := Lib.hid (fun A (h : J j A) (h2 : (readD d (fr + (j : Int))).1 = ZS) => HSk.out j (j + 1) A h ⟨HJn.out, rfl, h2⟩)
    clear hd hj hlt
    generalize (readD d (fr + (j : Int))).1 = T at *
    generalize (readD d (fr + (j : Int))).2 = RE at *
    gi_wp2
    refine ⟨trivial, (fun e => by cases e), (callsIn_wide.2 HR1.out).mono ?_⟩
    rintro e y9 ⟨rfl, hw⟩
    rw [hw]
    clear hw y9
    gi_wp2
    refine ⟨trivial, (fun e => by cases e), (callsIn_wide.2 (HSl.out wr)).mono ?_⟩
    rintro e v2 ⟨rfl, hb⟩
    have HN2 := Lib.hid (HB.out _ _ _ hN.out hb)
    clear hb c0 c1 c2
    obtain ⟨c0, c1, c2, -⟩ := HI.out _ v2 HN2.out
    by_cases ht : T = ZS
    case pos =>
      have htb : (T.toList == ZS.toList) = true := by rw [ht]; simp
      have HN3 := Lib.hid (HSj.out v2 HN2.out ht)
      clear HR1 HYj HSj HYd HSl
      gi_wp2
      refine ⟨(fun f e => by cases e), ?_⟩
      gi_wp2
      go_roundw
      case rel => exact ⟨j + 1, HJn.out, by rw [hw2], HN3⟩
      case measure => have := HJn.out; simp [intOf]; omega
    have htb : (T.toList == ZS.toList) = false := str_neqJ ht
    have HR3 := Lib.hid (HYj.out v2 HN2.out ht)
    obtain ⟨fn, tmps, assign, body, hy, hR⟩ := HR3.out
    have HR4 := Lib.hid hR
    clear HR3 hR ht HR1 HYj HSj HYd HSl
    gi_wp2
    refine ⟨(fun e => by cases e), HR4.out.mono ?_⟩
    rintro e W3 (⟨rfl, s', rfl, hJ3⟩ | ⟨rfl, hJ3⟩)
    · have H3 := Lib.hid hJ3
      clear hJ3
      gi_wp2
      go_roundw
      case rel => exact ⟨j + 1, HJn.out, by rw [hw2], H3⟩
      case measure => have := HJn.out; simp [intOf]; omega
    · have H3 := Lib.hid hJ3
      clear hJ3
      gi_wp2
      exact bodyPost_ret (results_none rfl _ _ _) rfl ⟨⟨_, rfl⟩, Or.inr H3.out⟩
end Go.Proofs.YteppfjgglelpbaaGreat
/- Numbers in a slice. Plain. -/
namespace Ks
open Go Go.RowKit
set_option linter.unusedVariables false
def numE : Enc Int := ⟨1, fun x => [.int .i64 x], fun _ => rfl, fun x u hu => by simp only [List.mem_cons, List.not_mem_nil, or_false] at hu; rcases hu with rfl; rfl, by decide⟩
theorem rdI_num {w : World} {v : Value} {l : List Int} (h : Rd numE w v l) (hr : ∀ x ∈ l, -9223372036854775808 ≤ x ∧ x ≤ 9223372036854775807) : RdI w v l := by
  obtain ⟨a, cap, rfl, hc, hn, hh⟩ := h
  refine ⟨a, cap, rfl, hc, fun i x hx => ?_⟩
  obtain ⟨b, o, rfl, hb, hcell⟩ := hh i x hx
  have h0 := hcell 0 _ rfl
  refine ⟨⟨b, o, rfl, hb, ?_⟩, hr x (List.mem_of_getElem? hx)⟩
  have e : o + i * numE.k + 0 = o + i := by show o + i * 1 + 0 = _; omega
  rw [e] at h0; exact h0
end Ks
/- Which key is picked: slots.Pick and the reference's. -/
set_option maxRecDepth 100000
namespace Ks
open Go Go.RowKit
set_option linter.unusedVariables false
theorem ep_ok {ep : Int} : epOk ep = true ↔ 0 ≤ ep ∧ ep ≤ 4294967295 := by simp [epOk]
theorem tmod2 (ep : Int) (h : 0 ≤ ep) : ep.tmod 2 = ep % 2 := Int.tmod_eq_emod_of_nonneg h
theorem pick_none {a b : ByteArray} {ep : Int} (h : ¬ epOk ep = true) : pickE a b ep = 2 ∧ pickK a b ep = ⟨#[]⟩ := by
  have e : pickE a b ep = 2 := by rw [pickE, if_neg h]
  exact ⟨e, by rw [pickK, if_neg (by rw [e]; decide)]⟩
theorem pick_err {a b : ByteArray} {ep : Int} (h : epOk ep = true) (h2 : slotX (pickB a b ep) ≠ 0) : pickE a b ep = slotX (pickB a b ep) ∧ pickK a b ep = ⟨#[]⟩ := by
  have e : pickE a b ep = slotX (pickB a b ep) := by rw [pickE, if_pos h, if_neg h2]
  exact ⟨e, by rw [pickK, if_neg (by rw [e]; exact h2)]⟩
theorem pick_other {a b : ByteArray} {ep : Int} (h : epOk ep = true) (h2 : slotX (pickB a b ep) = 0) (h3 : slotXN (pickB a b ep) ≠ ep) : pickE a b ep = 7 ∧ pickK a b ep = ⟨#[]⟩ := by
  have e : pickE a b ep = 7 := by rw [pickE, if_pos h, if_pos h2, if_neg h3]
  exact ⟨e, by rw [pickK, if_neg (by rw [e]; decide)]⟩
theorem pick_yes {a b : ByteArray} {ep : Int} (h : epOk ep = true) (h2 : slotX (pickB a b ep) = 0) (h3 : slotXN (pickB a b ep) = ep) : pickE a b ep = 0 ∧ pickK a b ep = slotXK (pickB a b ep) := by
  have e : pickE a b ep = 0 := by rw [pickE, if_pos h, if_pos h2, if_pos h3]
  exact ⟨e, by rw [pickK, if_pos e]⟩
end Ks
namespace Go.Proofs.YteppfjgglelpbaaGreat
open Go.RowKit Ks
set_option linter.unusedVariables false
theorem idx2_0 (x y : ByteArray) (w : World) : (Instr.index 135 (.agg #[.string x, .string y]) (.int .i64 0)).run Tryz.prog w = .ok (.string x) w := by kernel_rfl
theorem idx2_1 (x y : ByteArray) (w : World) : (Instr.index 135 (.agg #[.string x, .string y]) (.int .i64 1)).run Tryz.prog w = .ok (.string y) w := by kernel_rfl
set_option maxRecDepth 100000 in
set_option maxHeartbeats 1000000 in
theorem slpick_any (a b : ByteArray) (ep : Int) (ha : a.size ≤ 9223372036854775807) (hb : b.size ≤ 9223372036854775807) (w : World) : Calls Tryz.prog 79 #[.string a, .string b, .int .i64 ep] w fun e w' => e = .returned (.tuple #[.string (pickK a b ep), .int .i64 (pickE a b ep)]) ∧ Below w.heap.size w w' := by
  refine calls_by fun R HR => ?_
  have HM := Lib.hid (slmay_any ep w)
  by_cases hep : epOk ep = true
  · rw [hep] at HM
    obtain ⟨h0, h1⟩ := ep_ok.1 hep
    have hm2 : ep % 2 = 0 ∨ ep % 2 = 1 := by omega
    have hT := tmod2 ep h0
    have HT := Lib.hid (sltake_any (pickB a b ep) (by unfold pickB; split <;> assumption) w)
    have HEP := Lib.hid hep
    clear hep ha hb
    rcases hm2 with hm | hm
    all_goals
      rw [hm] at hT
      have hB : (if ep % 2 = 1 then b else a) = pickB a b ep := rfl
      rw [hm] at hB
      simp at hB
      have HB := Lib.hid hB
      clear hB
      have q0 := idx2_0
      have q1 := idx2_1
      go_enter Tryz.func79, Tryz.ntmps79
      go_wp2_with fail
      refine HM.out.mono ?_
      rintro e w1 ⟨rfl, rfl⟩
      go_wp2_with fail
      rw [HB.out]
      refine HT.out.mono ?_
      rintro e w2 ⟨rfl, hb2⟩
      have H2 := Lib.hid hb2
      clear hb2
      by_cases hx : slotX (pickB a b ep) = 0
      · by_cases hn : slotXN (pickB a b ep) = ep
        · have HV := Lib.hid (pick_yes HEP.out hx hn)
          have hnb : (slotXN (pickB a b ep) != ep) = false := by rw [hn]; simp
          rw [hx]
          clear hx hn
          go_wp2
          exact HR.out _ _ ⟨by rw [HV.out.1, HV.out.2] <;> rfl, H2.out⟩
        · have HV := Lib.hid (pick_other HEP.out hx hn)
          have hnb : (slotXN (pickB a b ep) != ep) = true := by rw [bne_iff_ne]; exact hn
          rw [hx]
          clear hx hn
          go_wp2
          exact HR.out _ _ ⟨by rw [HV.out.1, HV.out.2] <;> rfl, H2.out⟩
      · have HV := Lib.hid (pick_err HEP.out hx)
        have hxb : (slotX (pickB a b ep) != 0) = true := by rw [bne_iff_ne]; exact hx
        clear hx
        go_wp2
        exact HR.out _ _ ⟨by rw [HV.out.1, HV.out.2] <;> rfl, H2.out⟩
  · have HV := Lib.hid (pick_none (a := a) (b := b) hep)
    have hf : epOk ep = false := by simpa using hep
    rw [hf] at HM
    clear hf hep ha hb
    go_enter Tryz.func79, Tryz.ntmps79
    go_wp2_with fail
    refine HM.out.mono ?_
    rintro e w1 ⟨rfl, rfl⟩
    go_wp2
    exact HR.out _ _ ⟨by rw [HV.out.1, HV.out.2] <;> rfl, Below.refl _ _⟩
end Go.Proofs.YteppfjgglelpbaaGreat
/- What is stale: slots.Stale and the reference's. -/
set_option maxRecDepth 100000
namespace Go.Proofs.YteppfjgglelpbaaGreat
open Go.RowKit Ks
set_option linter.unusedVariables false
theorem infoInt11 : (Tryz.prog.info? 3).map (fun i => (i.zero, i.size, i.bytes)) = some (some (.int .i64 0), numE.k, 8) := by kernel_rfl
theorem intT11 : ElemT Tryz.prog 48 3 numE.k 8 := elemT_of Tryz.underlying48 infoInt11 rfl
theorem set_blk1 {w : World} {b : Nat} {x : Value} {t : TypeId} (h : w.heap[b]? = some (.cells #[x] t (0, 0))) (v : Value) : (w.setCell ⟨b, 0, none⟩ v).heap[b]? = some (.cells #[v] t (0, 0)) := by
  simp [World.setCell, Array.getElem?_modify, h]
theorem num_range (i : Int) (h : i = 0 ∨ i = 1) : ∀ x ∈ [i], -9223372036854775808 ≤ x ∧ x ≤ 9223372036854775807 := by
  intro x hx
  simp only [List.mem_singleton] at hx
  omega
/-- the closure: where nothing is to be put -/
theorem put_no (i : Int) (x : ByteArray) (ep : Int) (e o : Nat) (w : World) (h0 : 0 ≤ ep) (he : w.cell? ⟨e, 0, none⟩ = some (.int .i64 ep)) (h : i = ep % 2) :
    Calls Tryz.prog 100 #[.int .i64 i, .string x, .pointer (some ⟨e, 0, none⟩), .pointer (some ⟨o, 0, none⟩)] w fun en w' => en = .returned (.tuple #[]) ∧ w' = w := by
  refine calls_by fun R HR => ?_
  have hT := tmod2 ep h0
  have hb : (i != ep.tmod 2) = false := by rw [hT, h]; simp
  go_enter Tryz.func100, Tryz.ntmps100
  go_wp2
  go_end0
  exact HR.out _ _ ⟨rfl, rfl⟩
theorem put_same (i : Int) (x : ByteArray) (ep : Int) (e o : Nat) (w : World) (h0 : 0 ≤ ep) (he : w.cell? ⟨e, 0, none⟩ = some (.int .i64 ep)) (h : i ≠ ep % 2) (hx : x = zerosS 4096) :
    Calls Tryz.prog 100 #[.int .i64 i, .string x, .pointer (some ⟨e, 0, none⟩), .pointer (some ⟨o, 0, none⟩)] w fun en w' => en = .returned (.tuple #[]) ∧ Below w.heap.size w w' := by
  refine calls_by fun R HR => ?_
  have hT := tmod2 ep h0
  have hb : (i != ep.tmod 2) = true := by rw [hT, bne_iff_ne]; exact h
  have HE := Lib.hid (slempty_any w)
  rw [← hx] at HE
  clear hx
  go_enter Tryz.func100, Tryz.ntmps100
  go_wp2_with fail
  refine HE.out.mono ?_
  rintro en w1 ⟨rfl, hb1⟩
  have H1 := Lib.hid hb1
  clear hb1
  go_wp2
  go_end0
  exact HR.out _ _ ⟨rfl, H1.out⟩
set_option maxRecDepth 100000 in
set_option maxHeartbeats 1000000 in
theorem put_yes (i : Int) (x : ByteArray) (ep : Int) (e o : Nat) (w : World) (h0 : 0 ≤ ep) (he : w.cell? ⟨e, 0, none⟩ = some (.int .i64 ep)) (hi : i = 0 ∨ i = 1) (h : i ≠ ep % 2) (hx : x ≠ zerosS 4096) (ho : w.heap[o]? = some (.cells #[.slice none 0 0] 48 (0, 0))) :
    Calls Tryz.prog 100 #[.int .i64 i, .string x, .pointer (some ⟨e, 0, none⟩), .pointer (some ⟨o, 0, none⟩)] w fun en w' => en = .returned (.tuple #[]) ∧ ∃ v w1, Below w.heap.size w w1 ∧ w' = w1.setCell ⟨o, 0, none⟩ v ∧ RdI w1 v [i] ∧ (∀ b, v.ownBlock = some b → w.heap.size ≤ b) ∧ ∃ a n c, v = .slice a n c := by
  refine calls_by fun R HR => ?_
  have hT := tmod2 ep h0
  have hb : (i != ep.tmod 2) = true := by rw [hT, bne_iff_ne]; exact h
  have HE := Lib.hid (slempty_any w)
  have hne := str_neq hx
  obtain ⟨Z, hZ⟩ : ∃ Z, zerosS 4096 = Z := ⟨_, rfl⟩
  rw [hZ] at hne HE
  have HO := Lib.hid ho
  have HI := Lib.hid hi
  clear hx hZ ho hi
  go_enter Tryz.func100, Tryz.ntmps100
  go_wp2_with fail
  refine HE.out.mono ?_
  rintro en w1 ⟨rfl, hb1⟩
  have H1 := Lib.hid (And.intro hb1 (blk_below hb1 HO.out))
  clear hb1
  obtain ⟨c0, f0⟩ := blk1 H1.out.2
  go_wp2_with (at_builtin; refine wpList_append_row _ rfl _ _ 48 rfl intT11 w1.heap.size _ _ [] [i] rfl rfl (Row.nil _ _ _) (Rd.single (E := numE) i (alloc_new _ _) rfl) (by simp) (by simp) (by decide) ?_)
  intro v' w3 hG
  have hB3 : Below w1.heap.size w1 w3 := hG.below (alloc_below w1 _) (by simp) (fun b hb => by simp [Value.ownBlock] at hb)
  have hl := hG.low (B0 := w1.heap.size) (by simp) (fun b hb => by simp [Value.ownBlock] at hb)
  have HG := Lib.hid (And.intro hB3 (And.intro (rdI_num hG.1.rd (num_range i HI.out)) hl))
  obtain ⟨a2, n2, cap2, rfl⟩ := hG.1.any
  have k3 := blk_below hB3 H1.out.2
  obtain ⟨d0, g0⟩ := blk1 k3
  clear hG hB3 hl k3 c0 f0
  go_wp2
  go_end0
  exact HR.out _ _ ⟨rfl, _, w3, H1.out.1.trans (HG.out.1.mono H1.out.1.size), rfl, HG.out.2.1, fun b hb => Nat.le_trans H1.out.1.size (HG.out.2.2 b hb), _, _, _, rfl⟩

def staleTo (a b : ByteArray) (ep : Int) (k : Nat) : List Int :=
  if k = 0 then [] else if k = 1 then (if ep % 2 = 1 then (if a = zerosS 4096 then [] else [0]) else []) else (if ep % 2 = 1 then (if a = zerosS 4096 then [] else [0]) else (if b = zerosS 4096 then [] else [1]))
/-- what stands behind so many rounds -/
def StInv (w wr : World) (a b : ByteArray) (ep : Int) (k : Nat) : Prop :=
  Below w.heap.size w wr ∧ wr.heap[w.heap.size]? = some (.cells #[.int .i64 ep] 3 (0, 0)) ∧ ∃ p n c, wr.heap[w.heap.size + 1]? = some (.cells #[.slice p n c] 48 (0, 0)) ∧ RdI wr (.slice p n c) (staleTo a b ep k) ∧ (staleTo a b ep k = [] → Value.slice p n c = .slice none 0 0)
theorem StInv.same {w wr w' : World} {a b : ByteArray} {ep : Int} {k k' : Nat} (h : StInv w wr a b ep k) (hb : Below wr.heap.size wr w') (e : staleTo a b ep k' = staleTo a b ep k) : StInv w w' a b ep k' := by
  obtain ⟨h1, h2, p, n, c, h3, h4, h5⟩ := h
  exact ⟨h1.trans (hb.mono h1.size), blk_below hb h2, p, n, c, blk_below hb h3, by rw [e]; exact h4.below hb, by rw [e]; exact h5⟩
theorem stale_step (w wr : World) (a b : ByteArray) (ep : Int) (h0 : 0 ≤ ep) (k : Nat) (x : ByteArray) (hk : (k = 0 ∧ x = a) ∨ (k = 1 ∧ x = b)) (h : StInv w wr a b ep k) :
    Calls Tryz.prog 100 #[.int .i64 (k : Int), .string x, .pointer (some ⟨w.heap.size, 0, none⟩), .pointer (some ⟨w.heap.size + 1, 0, none⟩)] wr fun en w' => en = .returned (.tuple #[]) ∧ StInv w w' a b ep (k + 1) := by
  have hh := h
  obtain ⟨h1, h2, p, n, c, h3, h4, h5⟩ := h
  have he : wr.cell? ⟨w.heap.size, 0, none⟩ = some (.int .i64 ep) := (blk1 h2).1
  by_cases hi : (k : Int) = ep % 2
  · refine (put_no k x ep _ _ wr h0 he hi).mono ?_
    rintro en w' ⟨rfl, rfl⟩
    refine ⟨rfl, hh.same (Below.refl _ _) ?_⟩
    rcases hk with ⟨rfl, rfl⟩ | ⟨rfl, rfl⟩
    · have : ep % 2 = 0 := by omega
      simp [staleTo, this]
    · have : ep % 2 = 1 := by omega
      simp [staleTo, this]
  · by_cases hx : x = zerosS 4096
    · refine (put_same k x ep _ _ wr h0 he hi hx).mono ?_
      rintro en w' ⟨rfl, hb⟩
      refine ⟨rfl, hh.same hb ?_⟩
      rcases hk with ⟨rfl, rfl⟩ | ⟨rfl, rfl⟩
      · have : ep % 2 = 1 := by omega
        simp [staleTo, this, hx]
      · have : ep % 2 = 0 := by omega
        simp [staleTo, this, hx]
    · have hnil : staleTo a b ep k = [] := by
        rcases hk with ⟨rfl, rfl⟩ | ⟨rfl, rfl⟩
        · rfl
        · have : ep % 2 = 0 := by omega
          simp [staleTo, this]
      have e := h5 hnil
      cases e
      refine (put_yes k x ep _ _ wr h0 he (by omega) hi hx h3).mono ?_
      rintro en w' ⟨rfl, v, w1, hb, rfl, hr, hl, a2, n2, c2, rfl⟩
      have hsz : w.heap.size + 1 < wr.heap.size := lt_of_block h3
      have hO := blk_below hb h3
      have hnew : staleTo a b ep (k + 1) = [(k : Int)] := by
        rcases hk with ⟨rfl, rfl⟩ | ⟨rfl, rfl⟩
        · have : ep % 2 = 1 := by omega
          simp [staleTo, this, hx]
        · have : ep % 2 = 0 := by omega
          simp [staleTo, this, hx]
      have hB : Below w.heap.size w1 (w1.setCell ⟨w.heap.size + 1, 0, none⟩ (.slice a2 n2 c2)) := (Below.refl _ _).setCell (Nat.le_succ _) _
      refine ⟨rfl, (h1.trans (hb.mono h1.size)).trans hB, ?_, a2, n2, c2, ?_, ?_, ?_⟩
      · rw [set_ne _ (by omega)]; exact blk_below hb h2
      · exact set_blk1 hO _
      · rw [hnew]
        obtain ⟨q, cap, e, hc, hh⟩ := hr
        cases e
        refine ⟨_, _, rfl, hc, fun i y hy => ?_⟩
        obtain ⟨⟨b1, o1, hq, hlt, hcell⟩, hr⟩ := hh i y hy
        refine ⟨⟨b1, o1, hq, by simpa using hlt, ?_⟩, hr⟩
        have hge := hl b1 (by subst hq; rfl)
        rw [World.cell?_of_block (a := ⟨b1, o1 + i, none⟩) (set_ne _ (by show b1 ≠ w.heap.size + 1; omega))]
        exact hcell
      · rw [hnew]; intro e; cases e

set_option maxRecDepth 100000 in
set_option maxHeartbeats 1000000 in
theorem slstale_any (a b : ByteArray) (ep : Int) (w : World) : Calls Tryz.prog 81 #[.string a, .string b, .int .i64 ep] w fun e w' => ∃ v, e = .returned v ∧ RdI w' v (staleL a b ep) ∧ Below w.heap.size w w' := by
  refine calls_by fun R HR => ?_
  obtain ⟨W1, hW1⟩ : ∃ W1, w.alloc (.cells #[.int .i64 ep] 3) = W1 := ⟨_, rfl⟩
  have hb1 : Below w.heap.size w W1 := by rw [← hW1]; exact alloc_below w _
  have k1 : W1.heap[w.heap.size]? = some (.cells #[.int .i64 ep] 3 (0, 0)) := by rw [← hW1]; exact alloc_new w _
  have hs1 : W1.heap.size = w.heap.size + 1 := by rw [← hW1]; simp
  obtain ⟨W2, hW2⟩ : ∃ W2, W1.alloc (.cells #[.slice none 0 0] 48) = W2 := ⟨_, rfl⟩
  have hb2 : Below W1.heap.size W1 W2 := by rw [← hW2]; exact alloc_below W1 _
  have k2 : W2.heap[w.heap.size + 1]? = some (.cells #[.slice none 0 0] 48 (0, 0)) := by rw [← hW2, ← hs1]; exact alloc_new W1 _
  have hI : StInv w W2 a b ep 0 := ⟨hb1.trans (hb2.mono hb1.size), blk_below hb2 k1, _, _, _, k2, RdI.nil _, fun _ => rfl⟩
  have H1 := Lib.hid hI
  have HM := Lib.hid (slmay_any ep W2)
  obtain ⟨c0, -⟩ := blk1 hI.2.1
  obtain ⟨d0, -⟩ := blk1 k2
  have q0 := idx2_0
  have q1 := idx2_1
  clear hb1 k1 hb2 k2 hI
  by_cases hep : epOk ep = true
  · rw [hep] at HM
    have HE := Lib.hid (And.intro (ep_ok.1 hep) hep)
    clear hep
    go_enter Tryz.func81, Tryz.ntmps81
    go_wp2_with fail
    refine HM.out.mono ?_
    rintro e w3 ⟨rfl, rfl⟩
    clear c0 d0 hW1 hW2
    go_wp2_with fail
    go_loopg [19] 2 (fun g i wr => ∃ (k : Nat), k + g = 2 ∧ i = .int .i64 k ∧ Hid (StInv w wr a b ep k))
    case atStart => exact ⟨0, rfl, rfl, H1⟩
    case round =>
      obtain ⟨k, hk, rfl, hN⟩ := hrel
      have hk3 : k = 0 ∨ k = 1 ∨ k = 2 := by omega
      rcases hk3 with rfl | rfl | rfl
      · have TC := Lib.hid (stale_step w wr a b ep HE.out.1.1 0 a (Or.inl ⟨rfl, rfl⟩) hN.out)
        clear hN
        go_wp2_with fail
        refine TC.out.mono ?_
        rintro e w4 ⟨rfl, hI⟩
        have HI := Lib.hid hI
        clear hI TC
        go_wp2_with fail
        go_roundg (gk - 1)
        case rel => exact ⟨1, by omega, by go_num, HI⟩
        case measure => omega
      · have TC := Lib.hid (stale_step w wr a b ep HE.out.1.1 1 b (Or.inr ⟨rfl, rfl⟩) hN.out)
        clear hN
        go_wp2_with fail
        refine TC.out.mono ?_
        rintro e w4 ⟨rfl, hI⟩
        have HI := Lib.hid hI
        clear hI TC
        go_wp2_with fail
        go_roundg (gk - 1)
        case rel => exact ⟨2, by omega, by go_num, HI⟩
        case measure => omega
      · obtain ⟨h1, h2, p, n, c, h3, h4, h5⟩ := hN.out
        have HV := Lib.hid (And.intro h1 (show RdI wr (.slice p n c) (staleL a b ep) by
          have e : staleL a b ep = staleTo a b ep 2 := by rw [staleL, if_pos HE.out.2]; rfl
          rw [e]; exact h4))
        obtain ⟨d0, -⟩ := blk1 h3
        clear h1 h2 h3 h4 h5 hN hk
        go_wp2
        exact HR.out _ _ ⟨_, rfl, HV.out.2, HV.out.1⟩
  · have hf : epOk ep = false := by simpa using hep
    rw [hf] at HM
    have HV := Lib.hid (show staleL a b ep = [] by rw [staleL, if_neg hep])
    clear hep hf
    go_enter Tryz.func81, Tryz.ntmps81
    go_wp2_with fail
    refine HM.out.mono ?_
    rintro e w3 ⟨rfl, rfl⟩
    go_wp2
    exact HR.out _ _ ⟨_, rfl, by rw [HV.out]; exact RdI.nil _, H1.out.1⟩

theorem stale_cases (a b : ByteArray) (ep : Int) : (epOk ep = false ∧ staleL a b ep = []) ∨ (epOk ep = true ∧ ep % 2 = 1 ∧ a = zerosS 4096 ∧ staleL a b ep = []) ∨ (epOk ep = true ∧ ep % 2 = 1 ∧ a ≠ zerosS 4096 ∧ staleL a b ep = [0]) ∨
    (epOk ep = true ∧ ep % 2 = 0 ∧ b = zerosS 4096 ∧ staleL a b ep = []) ∨ (epOk ep = true ∧ ep % 2 = 0 ∧ b ≠ zerosS 4096 ∧ staleL a b ep = [1]) := by
  unfold staleL
  by_cases h : epOk ep = true
  · rw [if_pos h]
    have hm : ep % 2 = 0 ∨ ep % 2 = 1 := by omega
    rcases hm with hm | hm
    · rw [if_neg (by omega)]
      by_cases hb : b = zerosS 4096
      · rw [if_pos hb]; exact Or.inr (Or.inr (Or.inr (Or.inl ⟨h, hm, hb, rfl⟩)))
      · rw [if_neg hb]; exact Or.inr (Or.inr (Or.inr (Or.inr ⟨h, hm, hb, rfl⟩)))
    · rw [if_pos hm]
      by_cases ha : a = zerosS 4096
      · rw [if_pos ha]; exact Or.inr (Or.inl ⟨h, hm, ha, rfl⟩)
      · rw [if_neg ha]; exact Or.inr (Or.inr (Or.inl ⟨h, hm, ha, rfl⟩))
  · rw [if_neg h]; exact Or.inl ⟨by simpa using h, rfl⟩
/-- append of one number to none -/
theorem grew_one {w w3 : World} {o : Obj} {i : Int} {v' : Value} (hi : i = 0 ∨ i = 1) (hG : Grew numE (w.alloc o) w3 w.heap.size 3 (.slice none 0 0) v' ([] ++ [i])) : Below w.heap.size w w3 ∧ RdI w3 v' [i] :=
  ⟨hG.below (alloc_below w _) (by simp) (fun b hb => by simp [Value.ownBlock] at hb), rdI_num hG.1.rd (num_range i hi)⟩
end Go.Proofs.YteppfjgglelpbaaGreat
/- Where noughts are written as a disk is put right: plain; a box with a row of numbers that grows. -/
set_option maxRecDepth 100000
namespace Ks
open Go Go.RowKit
set_option linter.unusedVariables false
theorem unlikeL_snoc (d : DS) : ∀ (k : Nat) (i : Int), unlikeL d (k + 1) i = unlikeL d k i ++ (if (readD d (i + (k : Int))).1 ≠ zerosS 4096 then [i + (k : Int)] else [])
  | 0, i => by
    show (if (readD d i).1 ≠ zerosS 4096 then i :: [] else []) = [] ++ _
    rw [show i + ((0 : Nat) : Int) = i by omega]
    rfl
  | k + 1, i => by
    have ih := unlikeL_snoc d k (i + 1)
    rw [show i + 1 + (k : Int) = i + ((k + 1 : Nat) : Int) by omega] at ih
    show (if (readD d i).1 ≠ zerosS 4096 then i :: unlikeL d (k + 1) (i + 1) else unlikeL d (k + 1) (i + 1)) = (if (readD d i).1 ≠ zerosS 4096 then i :: unlikeL d k (i + 1) else unlikeL d k (i + 1)) ++ _
    rw [ih]
    split <;> simp
theorem unlikeL_length (d : DS) : ∀ (k : Nat) (i : Int), (unlikeL d k i).length ≤ k
  | 0, i => Nat.le_refl 0
  | k + 1, i => by
    have ih := unlikeL_length d k (i + 1)
    unfold unlikeL
    split
    · simp; exact ih
    · omega
theorem staleL_length (a b : ByteArray) (e : Int) : (staleL a b e).length ≤ 1 := by
  unfold staleL
  split
  · split
    · split <;> simp
    · split <;> simp
  · simp
/-- a box with a row of its own above B: what else was below stands -/
structure BoxRow (w0 : World) (bo : Nat) (TB T : TypeId) (v : Value) (L : List Int) (w : World) : Prop where
  blk : w.heap[bo]? = some (.cells #[v] TB (0, 0))
  row : Row numE w w0.heap.size T v L
  tn : Turn w0 w (fun k => k = bo) (fun k => k = bo)
  lt : bo < w0.heap.size
section
variable {w0 w w' : World} {bo : Nat} {TB T : TypeId} {v v' : Value} {L : List Int}
theorem BoxRow.on (h : BoxRow w0 bo TB T v L w) (hb : Below w.heap.size w w') : BoxRow w0 bo TB T v L w' :=
  ⟨(hb.block _ (lt_of_block h.blk)).trans h.blk, h.row.below hb, h.tn.trans (Turn.of_below _ hb), h.lt⟩
theorem BoxRow.ne (h : BoxRow w0 bo TB T v L w) : v.ownBlock ≠ some bo := fun e => by
  have := (h.row.lt e).1
  have := h.lt
  omega
theorem BoxRow.put (h : BoxRow w0 bo TB T v L w) {x : Int} (hr : Row numE w' w0.heap.size T v' (L ++ [x])) (hg : w.grownBy w' v.ownBlock) (hu : v'.ownBlock = v.ownBlock ∨ ∀ b, v'.ownBlock = some b → w.heap.size ≤ b) : BoxRow w0 bo TB T v' (L ++ [x]) (w'.setCell ⟨bo, 0, none⟩ v') := by
  have hsz := h.tn.size
  have hlt := h.lt
  have hk : ∀ k, k < w0.heap.size → w'.heap[k]? = w.heap[k]? := fun k hk => hg.block k (by omega) fun e => by have := (h.row.lt e.symm).1; omega
  have hne : v'.ownBlock ≠ some bo := by
    rcases hu with e | e
    · rw [e]; exact h.ne
    · exact fun e2 => by have := e bo e2; omega
  have hs := (Below.refl 0 w').setCell (p := ⟨bo, 0, none⟩) (Nat.zero_le _) v'
  refine ⟨?_, hr.keep fun b e => set_ne _ fun e2 => hne (by rw [e, e2]), ⟨(hs.os.trans hg.os).trans h.tn.os, (hs.tape.trans hg.tape).trans h.tn.tape, (hs.output.trans hg.output).trans h.tn.output, by simp; exact Nat.le_trans hsz hg.size, fun k h1 h2 => ?_, fun k h1 => Or.inl h1⟩, hlt⟩
  · have := (hk bo hlt).trans h.blk
    simp [World.setCell, Array.getElem?_modify, this]
  · exact (set_ne _ h2).trans ((hk k h1).trans (h.tn.block k h1 h2))
theorem BoxRow.start (h : w.heap[bo]? = some (.cells #[.slice none 0 0] TB (0, 0))) : BoxRow w bo TB T (.slice none 0 0) [] w :=
  ⟨h, Row.nil _ _ _, Turn.refl _ _, lt_of_block h⟩
end
theorem turn_low {w y z : World} {F F' : Nat → Prop} (h : Turn w y F F') (hb : Below w.heap.size y z) : Turn w z F F' :=
  ⟨hb.os.trans h.os, hb.tape.trans h.tape, hb.output.trans h.output, Nat.le_trans h.size hb.size, fun k h1 h2 => (hb.block k h1).trans (h.block k h1 h2), h.foot⟩
theorem stepsE_one (d : DS) (x : Stp) : stepsE d [x] = stpE d x := by
  unfold stepsE stepsE
  split
  · rfl
  · rename_i h; exact (Classical.not_not.1 h).symm
theorem stepsD_one (d : DS) (x : Stp) : stepsD d [x] = stpD d x := by
  unfold stepsD stepsD
  split <;> rfl
/-- as BoxRow, from a world on in which the row may stand already, in o0 -/
structure BoxOld (w0 : World) (bo : Nat) (o0 : Option Nat) (B : Nat) (TB T : TypeId) (v : Value) (L : List Int) (w : World) : Prop where
  blk : w.heap[bo]? = some (.cells #[v] TB (0, 0))
  row : Row numE w B T v L
  own : v.ownBlock = o0 ∨ ∀ b, v.ownBlock = some b → w0.heap.size ≤ b
  tn : Turn w0 w (fun k => k = bo ∨ o0 = some k) (fun k => k = bo ∨ o0 = some k)
  lt : bo < w0.heap.size
  ne0 : o0 ≠ some bo
  ge : B ≤ w0.heap.size
section
variable {w0 w w' : World} {bo B : Nat} {o0 : Option Nat} {TB T : TypeId} {v v' : Value} {L : List Int}
theorem BoxOld.on (h : BoxOld w0 bo o0 B TB T v L w) (hb : Below w.heap.size w w') : BoxOld w0 bo o0 B TB T v L w' :=
  ⟨(hb.block _ (lt_of_block h.blk)).trans h.blk, h.row.below hb, h.own, h.tn.trans (Turn.of_below _ hb), h.lt, h.ne0, h.ge⟩
theorem BoxOld.ne (h : BoxOld w0 bo o0 B TB T v L w) : v.ownBlock ≠ some bo := fun e => by
  rcases h.own with q | q
  · exact h.ne0 (q.symm.trans e)
  · have := q bo e; have := h.lt; omega
theorem BoxOld.put (h : BoxOld w0 bo o0 B TB T v L w) {x : Int} (hr : Row numE w' B T v' (L ++ [x])) (hg : w.grownBy w' v.ownBlock) (hu : v'.ownBlock = v.ownBlock ∨ ∀ b, v'.ownBlock = some b → w.heap.size ≤ b) : BoxOld w0 bo o0 B TB T v' (L ++ [x]) (w'.setCell ⟨bo, 0, none⟩ v') := by
  have hsz := h.tn.size
  have hlt := h.lt
  have hne : v'.ownBlock ≠ some bo := by
    rcases hu with e | e
    · rw [e]; exact h.ne
    · exact fun e2 => by have := e bo e2; omega
  have hs := (Below.refl 0 w').setCell (p := ⟨bo, 0, none⟩) (Nat.zero_le _) v'
  refine ⟨?_, hr.keep fun b e => set_ne _ fun e2 => hne (by rw [e, e2]), ?_, ⟨(hs.os.trans hg.os).trans h.tn.os, (hs.tape.trans hg.tape).trans h.tn.tape, (hs.output.trans hg.output).trans h.tn.output, by simp; exact Nat.le_trans hsz hg.size, fun k h1 h2 => ?_, fun k h1 => Or.inl h1⟩, hlt, h.ne0, h.ge⟩
  · have := (hg.block bo (by omega) fun e => h.ne e.symm).trans h.blk
    simp [World.setCell, Array.getElem?_modify, this]
  · rcases hu with e | e
    · rw [e]; exact h.own
    · exact Or.inr fun b e2 => Nat.le_trans hsz (e b e2)
  · refine (set_ne _ fun e => h2 (Or.inl e)).trans ((hg.block k (by omega) fun e => ?_).trans (h.tn.block k h1 h2))
    rcases h.own with q | q
    · exact h2 (Or.inr (q.symm.trans e.symm))
    · have := q k e.symm; omega
theorem BoxRow.old (h : BoxRow w0 bo TB T v L w) : BoxOld w bo v.ownBlock w0.heap.size TB T v L w :=
  ⟨h.blk, h.row, Or.inl rfl, Turn.refl _ _, lt_of_block h.blk, h.ne, h.tn.size⟩
end
theorem boxOld_own {β : Type} {w0 : World} {bo B : Nat} {o0 : Option Nat} {TB T : TypeId} (f : β → List Int) : OwnFrom w0.heap.size (fun (s : β) W => ∃ v, BoxOld w0 bo o0 B TB T v (f s) W) := by
  rintro s W W' row ⟨v, h⟩ hg hr
  have hr' := fun r e => (hr r e).2
  refine ⟨v, (grownBy_keeps_cells hg hr' h.blk rfl).trans h.blk, ?_, h.own, ⟨hg.os.trans h.tn.os, hg.tape.trans h.tn.tape, hg.output.trans h.tn.output, Nat.le_trans h.tn.size hg.size, fun k h1 h2 => (hg.block k (by have := h.tn.size; omega) fun e => ?_).trans (h.tn.block k h1 h2), fun k h => Or.inl h⟩, h.lt, h.ne0, h.ge⟩
  · refine Row.keep h.row fun b e => hg.block b (h.row.lt e).2 fun e2 => ?_
    obtain ⟨o, h1, h2⟩ := hr' b e2.symm
    rcases h.row.2 with ⟨h, _⟩ | ⟨g, cap, cur, h, _, hh, _⟩
    · rw [h] at e; simp [Value.ownBlock] at e
    · rw [h] at e
      simp only [Value.ownBlock, Option.some.injEq] at e
      subst e
      rw [hh] at h1
      cases h1
      cases h2
  · have := (hr k e.symm).1; omega
end Ks
namespace Go.Proofs.YteppfjgglelpbaaGreat
open Go.RowKit Ks
/-- places that are gone through, as a value whose boxes begin at b -/
def unlV (b : Nat) : Value := .func (.func 83) #[] #[.pointer (some ⟨b + 1, 0, none⟩), .pointer (some ⟨b + 2, 0, none⟩), .pointer (some ⟨b, 0, none⟩)]
structure UnlAt (w : World) (b dn : Nat) (fr up : Int) : Prop where
  d : w.heap[b]? = some (.cells #[.pointer (some ⟨dn, 0, none⟩)] 25 (0, 0))
  f : w.heap[b + 1]? = some (.cells #[.int .i64 fr] 3 (0, 0))
  u : w.heap[b + 2]? = some (.cells #[.int .i64 up] 3 (0, 0))
theorem UnlAt.on {w w' : World} {b dn : Nat} {fr up : Int} (h : UnlAt w b dn fr up) (hb : Below w.heap.size w w') : UnlAt w' b dn fr up :=
  ⟨(hb.block _ (lt_of_block h.d)).trans h.d, (hb.block _ (lt_of_block h.f)).trans h.f, (hb.block _ (lt_of_block h.u)).trans h.u⟩
/-- ahead of the going through -/
structure UnlC (W : World) (dn : Nat) (fr up : Int) (e : Option Value) (w : World) : Prop where
  b : Below W.heap.size W w
  at_ : ∀ v, e = some v → ∃ b, W.heap.size ≤ b ∧ v = unlV b ∧ UnlAt w b dn fr up
theorem UnlC.start (W : World) (dn : Nat) (fr up : Int) : UnlC W dn fr up none W.drew := ⟨drew_below W, fun v e => by cases e⟩
theorem UnlC.on {W w w' : World} {dn : Nat} {fr up : Int} {e : Option Value} (h : UnlC W dn fr up e w) (hb : Below w.heap.size w w') : UnlC W dn fr up e w' :=
  ⟨h.b.trans (hb.mono h.b.size), fun v q => by obtain ⟨b, h1, h2, h3⟩ := h.at_ v q; exact ⟨b, h1, h2, h3.on hb⟩⟩
theorem UnlC.call {W w w' : World} {dn b : Nat} {fr up : Int} {e : Option Value} (h : UnlC W dn fr up e w) (hb : Below w.heap.size w w') (hw : w.heap.size ≤ b) (ha : UnlAt w' b dn fr up) : UnlC W dn fr up (some (unlV b)) w' :=
  ⟨h.b.trans (hb.mono h.b.size), fun v q => by cases q; exact ⟨b, Nat.le_trans h.b.size hw, rfl, ha⟩⟩
/-- the end of a call that has gone through -/
theorem jfin {w W y : World} {jn dn D : Nat} {spv vb vc vd : Value} {s : SupT} {br : Bool} {d : DS} (hW : Below w.heap.size w W) (hD : ¬ FJ jn dn vb vc D ∧ w.heap.size ≤ D ∧ D < W.heap.size) (hK : W.heap[D]? = some (.deferred (some [])))
    (hj : JHd y jn spv dn vb vd s br d) (ht : Turn W y (FJ jn dn vb vc) (FJ jn dn vb vd)) :
    y.heap[D]? = some (.deferred (some [])) ∧ JHd (y.putObj D (.deferred none)) jn spv dn vb vd s br d ∧ Turn w (y.putObj D (.deferred none)) (FJ jn dn vb vc) (FJ jn dn vb vd) := by
  have hy := (ht.block D hD.2.2 hD.1).trans hK
  refine ⟨hy, hj.keep fun k q => World.putObj_heap_other fun e => ?_, turn_low ((Turn.of_below _ hW).trans ht) (belowK_b (w := w) (Nat.le_refl _) y D _ (.deferred none) hD.2.1 hy rfl rfl)⟩
  subst e
  rcases ht.foot _ q with q | q
  · exact hD.1 q
  · have := hD.2.2; omega
end Go.Proofs.YteppfjgglelpbaaGreat
/- A region that draws its order: out = append(out, f(..)), the row in a box, what is appended out of a call. Plain. No program is in sight. -/
namespace Ks
open Go Go.RowKit
set_option linter.unusedVariables false
/-- r: what the call gave, a: what was read of the box, s: what is appended, u: the row that it becomes, z: that it was stored -/
def AppCall {α : Type} (E : Enc α) (B : Nat) (w0 : World) (T : TypeId) (v : Value) (L l : List α) (bo : Nat) (r a s u z : Option Value) (w : World) : Prop :=
  AppStore E B w0 T v L l bo a s u z w ∧ (s ≠ none → r ≠ none)
section
variable {α : Type} {E : Enc α} {B bo : Nat} {w0 w w' : World} {T : TypeId} {v : Value} {L l : List α} {r a s u z : Option Value}
theorem AppCall.start (h : Row E w0 B T v L) (hb : Below w0.heap.size w0 w) : AppCall E B w0 T v L l bo none none none none none w := ⟨AppStore.start h hb, fun h => absurd rfl h⟩
theorem AppCall.read (x : Value) (h : AppCall E B w0 T v L l bo r a s u z w) : AppCall E B w0 T v L l bo r (some x) s u z w := ⟨h.1.read x, h.2⟩
theorem AppCall.early (h : AppCall E B w0 T v L l bo none a s u z w) : s = none ∧ u = none ∧ z = none := by
  have e : s = none := Classical.byContradiction fun hs => absurd rfl (h.2 hs)
  subst e
  exact ⟨rfl, h.1.early⟩
theorem AppCall.yet (h : AppCall E B w0 T v L l bo none a s u z w) : Below w0.heap.size w0 w := by
  obtain ⟨rfl, rfl, rfl⟩ := h.early
  exact h.1.1.1
theorem AppCall.call (y : Value) (h : AppCall E B w0 T v L l bo none a s u z w) (hb : Below w.heap.size w w') : AppCall E B w0 T v L l bo (some y) a s u z w' := by
  obtain ⟨rfl, rfl, rfl⟩ := h.early
  exact ⟨⟨h.1.1.on hb, fun h => absurd rfl h⟩, fun h => absurd rfl h⟩
theorem AppCall.cell {ad : Addr} {x : Value} (h : AppCall E B w0 T v L l bo r a s u z w) (hc : w0.cell? ad = some x) (hne : v.ownBlock ≠ some ad.block) (hbo : ad.block ≠ bo) : w.cell? ad = some x := h.1.cell hc hne hbo
theorem AppCall.box {x : Value} (h : AppCall E B w0 T v L l bo r none s u z w) (hc : w0.cell? ⟨bo, 0, none⟩ = some x) (hne : v.ownBlock ≠ some bo) : w.cell? ⟨bo, 0, none⟩ = some x := h.1.box hc hne
theorem AppCall.made (h : AppCall E B w0 T v L l bo r a none u z w) (hr : r ≠ none) (cs : Array Value) (e : cs.toList = E.cs l) (fr : Nat × Nat := (0, 0)) : AppCall E B w0 T v L l bo r a (some (.slice (some ⟨w.heap.size, 0, none⟩) l.length l.length)) u z (w.alloc (.cells cs T fr)) := by
  exact ⟨h.1.made cs e fr, fun _ => hr⟩
theorem AppCall.rows {lv : Value} (h : AppCall E B w0 T v L l bo r a (some lv) none z w) (hB : B ≤ w0.heap.size) : Row E w B T v L ∧ Rd E w lv l ∧ B ≤ w.heap.size := h.1.rows hB
theorem AppCall.grew {v' : Value} {x y : Value} (h : AppCall E B w0 T v L l bo r (some x) (some y) none z w) (hG : Grew E w w' B T v v' (L ++ l)) : AppCall E B w0 T v L l bo r (some x) (some y) (some v') z w' := ⟨h.1.grew hG, h.2⟩
theorem AppCall.unread (h : AppCall E B w0 T v L l bo r a s u none w) : Appends E B w0 T v L l s u w := h.1.1
theorem AppCall.stored {v' y : Value} (h : AppCall E B w0 T v L l bo r a s (some v') none w) : AppCall E B w0 T v L l bo r a s (some v') (some y) (w.setCell ⟨bo, 0, none⟩ v') := ⟨h.1.stored, h.2⟩
theorem AppCall.done {u' y : Value} (h : AppCall E B w0 T v L l bo r a s (some u') (some y) w) : ∃ w1, w0.grownBy w1 v.ownBlock ∧ Row E w1 B T u' (L ++ l) ∧ w = w1.setCell ⟨bo, 0, none⟩ u' := h.1.done
theorem AppCall.done4 {u' y : Value} (h : AppCall E B w0 T v L l bo r a s (some u') (some y) w) : ∃ w1, w0.grownBy w1 v.ownBlock ∧ (u'.ownBlock = v.ownBlock ∨ ∀ b, u'.ownBlock = some b → w0.heap.size ≤ b) ∧ Row E w1 B T u' (L ++ l) ∧ w = w1.setCell ⟨bo, 0, none⟩ u' := by
  obtain ⟨_, u2, w1, e, h1, rfl⟩ := h.1
  cases e
  exact ⟨w1, h1.1, h1.2.1, h1.2.2, rfl⟩
end
/-- a box with a row of one's own, and whatever else stands above B -/
structure BoxAt {α : Type} (E : Enc α) (w : World) (B : Nat) (T TB : TypeId) (bo : Nat) (v : Value) (L : List α) : Prop where
  blk : w.heap[bo]? = some (.cells #[v] TB (0, 0))
  row : Row E w B T v L
  ne : v.ownBlock ≠ some bo
  ge : B ≤ bo
section
variable {α : Type} {E : Enc α} {B bo : Nat} {w0 w w' w1 : World} {T TB : TypeId} {v u : Value} {L M : List α}
theorem BoxAt.lt (h : BoxAt E w B T TB bo v L) : bo < w.heap.size := lt_of_block h.blk
theorem BoxAt.keep (h : BoxAt E w B T TB bo v L) (hb : Below w.heap.size w w') : BoxAt E w' B T TB bo v L := ⟨(hb.block bo h.lt).trans h.blk, h.row.below hb, h.ne, h.ge⟩
/-- behind the store: the box, what stood below, what stood above in another block -/
theorem BoxAt.turned (h : BoxAt E w B T TB bo v L) (hg : w.grownBy w1 v.ownBlock) (hu : u.ownBlock = v.ownBlock ∨ ∀ b, u.ownBlock = some b → w.heap.size ≤ b) (hr : Row E w1 B T u M) : BoxAt E (w1.setCell ⟨bo, 0, none⟩ u) B T TB bo u M ∧ Below B w (w1.setCell ⟨bo, 0, none⟩ u) ∧
    (∀ k, k < w.heap.size → k ≠ bo → v.ownBlock ≠ some k → (w1.setCell ⟨bo, 0, none⟩ u).heap[k]? = w.heap[k]?) := by
  have hne : u.ownBlock ≠ some bo := by
    rcases hu with e | e
    · rw [e]; exact h.ne
    · exact fun e2 => by have := e bo e2; have := h.lt; omega
  have hk := (hg.block bo h.lt fun e => h.ne e.symm).trans h.blk
  have hbl : ∀ k, k < w.heap.size → k ≠ bo → v.ownBlock ≠ some k → (w1.setCell ⟨bo, 0, none⟩ u).heap[k]? = w.heap[k]? := fun k h1 h2 h3 => by
    rw [set_ne _ h2]; exact hg.block k h1 fun e => h3 e.symm
  have hs := (Below.refl 0 w1).setCell (p := ⟨bo, 0, none⟩) (Nat.zero_le _) u
  refine ⟨⟨?_, hr.keep fun b e => set_ne _ fun e2 => hne (by rw [e, e2]), hne, h.ge⟩, ⟨hs.os.trans hg.os, hs.tape.trans hg.tape, hs.output.trans hg.output, by simp; exact hg.size, fun k hk => ?_⟩, hbl⟩
  · simp [World.setCell, Array.getElem?_modify, hk]
  · by_cases hkw : k < w.heap.size
    · refine hbl k hkw (fun e => by have := h.ge; omega) fun e => by have := (h.row.lt e).1; omega
    · have := h.lt
      have := h.ge
      omega
end
/-- an array of the callers' own, below -/
def Low (B : Nat) (v : Value) : Prop := ∀ b, v.ownBlock = some b → b < B
theorem Rd.low_keep {α : Type} {E : Enc α} {w w' : World} {B : Nat} {v : Value} {l : List α} (h : Rd E w v l) (hl : Low B v) (hB : B ≤ w.heap.size) (hb : Below B w w') : Rd E w' v l :=
  h.keep hb.size fun b e => hb.block b (hl b e)
end Ks
/- A range over a function whose value is put into a slot: the act of a round. Plain. No program is in sight. -/
namespace Ks
open Go Go.RowKit
set_option linter.unusedVariables false
theorem wpIn_range_slot {F : Fence} {n : Nat} {P : Program} {σ α : Type} {g : Operand} {p : Tmp} {assign body : Code} {Q : Exit → Act → World → Prop} {a : Act} {w : World}
    (hro : F.round = none) (h1 : 1 ≤ n) (q : Tmp) (v : α → Value) {gf : Nat} {lb : Array Value} (hg : a.eval g = .func (.func gf) #[] lb) (hFg : F.fn gf) (eg : ∀ args w, (callFunc gf args).run P w = .ok (.enter gf args) w)
    (I : σ → World → Prop) (Ix : Code → World → Prop) {Gives : σ → α → Prop} {Next : σ → α → σ → Prop} {Skip : σ → σ → Prop} {s0 : σ} {End : σ → Prop}
    (hseq : IterAll F (n - 1) P gf lb (fun x => #[v x]) I Gives Next Skip s0 End w)
    (hI : OwnFrom w.heap.size I) (hIx : OwnFrom w.heap.size Ix)
    (hIB : ∀ s A B, I s A → w.heap.size + 2 ≤ A.heap.size → Below A.heap.size A B → I s B) (hIS : ∀ s s' A, I s A → Skip s s' → I s' A)
    (h0 : I s0 w)
    (hassign : ∀ (l : Nat) (x : α) (W : World) (K : Act → World → Prop), K { tmps := (a.tmps.setIfInBounds p (v x)).setIfInBounds q (v x), defers := [] } W →
      assign.wpIn (F.inRound l) (n - 1 - 1) P (Exit.then K (fun _ _ _ => False)) { tmps := a.tmps.setIfInBounds p (v x), defers := [] } W)
    (hbody : ∀ (l : Nat) (s : σ) (x : α) (W : World), w.heap.size + 2 ≤ W.heap.size → I s W → Gives s x → body.wpIn (F.inRound l) (n - 1 - 1) P (genPost w.heap.size I Ix (Next s x) W) { tmps := (a.tmps.setIfInBounds p (v x)).setIfInBounds q (v x), defers := [] } W)
    (hdone : ∀ (D : Nat) (s : σ) (W : World), w.heap.size ≤ D → End s → I s W → W.heap[D]? = some (.deferred (some [])) → Q .normal { a with defers := { target := .collected D, args := #[] } :: a.defers } W)
    (hstop : ∀ (D : Nat) (c : Code) (W : World), w.heap.size ≤ D → Ix c W → W.heap[D]? = some (.deferred (some [])) → c.wpIn F n P Q { a with defers := { target := .collected D, args := #[] } :: a.defers } W) :
    (Code.rangeFunc g #[p] assign body).wpIn F n P Q a w :=
  wpIn_range_gen hro h1 hg hFg eg I Ix hseq (fun _ => rfl) hI hIx hIB hIS h0 (fun x _ => { tmps := (a.tmps.setIfInBounds p (v x)).setIfInBounds q (v x), defers := [] }) (fun _ W => W) (fun _ _ => True) (fun _ _ _ _ _ _ _ => trivial) (fun x W => ⟨Below.refl _ _, trivial⟩)
    (fun l x W K hK => by have := hassign l x W K hK; simpa using this) (fun l s x b W h2 h3 h4 h5 _ => hbody l s x W (Nat.le_trans h2 h3) h4 h5) hdone hstop
variable {α : Type} {E : Enc α}
/-- `append` inside a fence -/
theorem wpListIn_append_row {F : Fence} {n : Nat} {P : Program} (w : World) {ops : Array Oper} {rest : List Oper} {o : Oper} {a : Act} {Q : Exit → Act → World → Prop} (hg : o.guard = none) (s x : Operand) (t : TypeId)
    (hop : o.op = Op.call { callee := Callee.builtin Builtin.append, args := #[s, x], argTypes := #[t, t] }) {e : TypeId} {bytes : Nat} (T : ElemT P t e E.k bytes) (B : Nat)
    (v lv : Value) (L l : List α) (hs : a.eval s = v) (hx : a.eval x = lv) (hown : Row E w B e v L) (hl : Rd E w lv l) (hB : B ≤ w.heap.size) (b1 : L.length + l.length ≤ 140000000) (b2 : bytes ≤ 1000)
    (hK : ∀ v' w', Grew E w w' B e v v' (L ++ l) → wpListIn F n P ops Q rest (a.put o.dst v') w') : wpListIn F n P ops Q (o :: rest) a w := by
  refine wpListIn_plain hg fun K hK' => ?_
  obtain ⟨v', w', hrun, r⟩ := run_append_row (P := P) (t := t) (ty := o.type) T w B v lv L l hown hl hB b1 b2
  unfold Oper.wpIn
  refine ⟨?_, ?_⟩
  · simp [Oper.about, hop, resolve, Target.leads, Sem.run_pure]
  · rw [Oper.semAt_plain F _ _ (by rw [hop]; intro c hc'; cases hc')]
    simp [execOp, hop, resolve, invoke, builtin, hs, hx, hrun, Result.andThen]
    exact hK' _ _ (hK v' w' r)
theorem row_isCells {w : World} {B : Nat} {T : TypeId} {v : Value} {l : List α} (h : Row E w B T v l) : ∀ (j : Nat) (o : Obj), v.ownBlock = some j → w.heap[j]? = some o → o.isCells = true := by
  intro j o e ho
  rcases h.2 with ⟨h, _⟩ | ⟨g, cap, cur, h, _, hh, _⟩
  · rw [h] at e; simp [Value.ownBlock] at e
  · rw [h] at e
    simp only [Value.ownBlock, Option.some.injEq] at e
    subst e
    rw [hh] at ho
    cases ho
    rfl
end Ks
