/- The program's disk and the reference's, side by side. -/
import Derived.Test.YtielmlnbjliacaaLawFew08
import Derived.Test.YtielmlnbjliacaaAlive08W
import Derived.Test.YtielmlnbjliacaaRDiskSame
import Derived.Test.YtielmlnbjliacaaMoved
namespace Go.Proofs.Ytielmlnbjliacaa
open Go.RowKit Ks
set_option linter.unusedVariables false
structure Both (w : World) (n : Nat) (vb vc : Value) (s : DS) (m : Nat) (ub uc : Value) (t : DS) : Prop where
  p : DkAt w n vb vc s
  r : RkAt w m ub uc t
  ap : ∀ k, DF n vb vc k → ¬ DF m ub uc k
def FG (n : Nat) (vb vc : Value) (m : Nat) (ub uc : Value) : Nat → Prop := fun k => DF n vb vc k ∨ DF m ub uc k
variable {n m : Nat} {vb vc ub uc vb' vc' ub' uc' : Value} {s t s' t' : DS}
theorem Both.lt {w : World} (h : Both w n vb vc s m ub uc t) : ∀ k, FG n vb vc m ub uc k → k < w.heap.size := fun k hk => hk.elim (h.p.lt k) (h.r.lt k)
theorem Both.below {w w' : World} (h : Both w n vb vc s m ub uc t) (hb : Below w.heap.size w w') : Both w' n vb vc s m ub uc t := ⟨h.p.below hb, h.r.below hb, h.ap⟩
theorem Both.left {w w' : World} (h : Both w n vb vc s m ub uc t) (hd : DkAt w' n vb' vc' s') (hT : Turn w w' (DF n vb vc) (DF n vb' vc')) :
    Both w' n vb' vc' s' m ub uc t ∧ Turn w w' (FG n vb vc m ub uc) (FG n vb' vc' m ub uc) :=
  ⟨⟨hd, h.r.keep (hT.other h.r.lt h.ap), hT.apart h.r.lt h.ap⟩, hT.wide (fun k hk => Or.inl hk) fun k hk => hk.elim Or.inl fun h => Or.inr (Or.inl (Or.inr h))⟩
theorem Both.right {w w' : World} (h : Both w n vb vc s m ub uc t) (hd : RkAt w' m ub' uc' t') (hT : Turn w w' (DF m ub uc) (DF m ub' uc')) :
    Both w' n vb vc s m ub' uc' t' ∧ Turn w w' (FG n vb vc m ub uc) (FG n vb vc m ub' uc') :=
  ⟨⟨h.p.keep (hT.other h.p.lt fun k h1 h2 => h.ap k h2 h1), hd, fun k h1 h2 => hT.apart h.p.lt (fun k h1 h2 => h.ap k h2 h1) k h2 h1⟩, hT.wide (fun k hk => Or.inr hk) fun k hk => hk.elim (fun h => Or.inr (Or.inl (Or.inl h))) Or.inl⟩

/-- behind W, the one done or not, the other done or not -/
def Stage (W : World) (n : Nat) (vb vc : Value) (s s' : DS) (m : Nat) (ub uc : Value) (t t' : DS) (p q : Bool) (w : World) : Prop :=
  ∃ vb1 vc1 ub1 uc1, Both w n vb1 vc1 (bif p then s' else s) m ub1 uc1 (bif q then t' else t) ∧ Turn W w (FG n vb vc m ub uc) (FG n vb1 vc1 m ub1 uc1)
theorem Stage.start {W : World} (h : Both W n vb vc s m ub uc t) : Stage W n vb vc s s' m ub uc t t' false false W := ⟨_, _, _, _, h, Turn.refl _ _⟩
theorem Stage.on {W w w' : World} {p q : Bool} (h : Stage W n vb vc s s' m ub uc t t' p q w) (hb : Below w.heap.size w w') : Stage W n vb vc s s' m ub uc t t' p q w' := by
  obtain ⟨a, b, c, d, h1, h2⟩ := h
  exact ⟨a, b, c, d, h1.below hb, h2.trans (Turn.of_below _ hb)⟩
theorem Stage.cell {W w : World} {p q : Bool} (h : Stage W n vb vc s s' m ub uc t t' p q w) {b o : Nat} {v : Value} (hv : W.cell? ⟨b, o, none⟩ = some v) (hF : ¬ FG n vb vc m ub uc b) : w.cell? ⟨b, o, none⟩ = some v := by
  obtain ⟨_, _, _, _, h1, h2⟩ := h
  exact (World.cell?_of_block (a := ⟨b, o, none⟩) (h2.block b (World.block_lt_of_cell? _ _ hv) hF)).trans hv
theorem Stage.left {W w : World} {q : Bool} {f : FuncId} {args : Array Value} {v : Value} (h : Stage W n vb vc s s' m ub uc t t' false q w)
    (hc : ∀ vb vc w, DkAt w n vb vc s → Calls Try.prog f args w fun e w' => ∃ vb' vc', e = .returned v ∧ DkAt w' n vb' vc' s' ∧ Turn w w' (DF n vb vc) (DF n vb' vc')) :
    Calls Try.prog f args w fun e w' => e = .returned v ∧ Stage W n vb vc s s' m ub uc t t' true q w' := by
  obtain ⟨a, b, c, d, h1, h2⟩ := h
  refine (hc a b w h1.p).mono fun e w' ⟨a', b', h3, h4, h5⟩ => ?_
  obtain ⟨g1, g2⟩ := h1.left h4 h5
  exact ⟨h3, a', b', c, d, g1, h2.trans g2⟩
theorem Stage.right {W w : World} {p : Bool} {f : FuncId} {args : Array Value} {v : Value} (h : Stage W n vb vc s s' m ub uc t t' p false w)
    (hc : ∀ ub uc w, RkAt w m ub uc t → Calls Try.prog f args w fun e w' => ∃ ub' uc', e = .returned v ∧ RkAt w' m ub' uc' t' ∧ Turn w w' (DF m ub uc) (DF m ub' uc')) :
    Calls Try.prog f args w fun e w' => e = .returned v ∧ Stage W n vb vc s s' m ub uc t t' p true w' := by
  obtain ⟨a, b, c, d, h1, h2⟩ := h
  refine (hc c d w h1.r).mono fun e w' ⟨a', b', h3, h4, h5⟩ => ?_
  obtain ⟨g1, g2⟩ := h1.right h4 h5
  exact ⟨h3, a, b, a', b', g1, h2.trans g2⟩

/-- what `does` leaves -/
def Done (w : World) (n : Nat) (vb vc : Value) (s s' : DS) (m : Nat) (ub uc : Value) (t t' : DS) (e : Ending) (w' : World) : Prop :=
  ∃ r, e = .returned (.bool r) ∧ (s = t → r = true) ∧ ∃ vb1 vc1 ub1 uc1, Both w' n vb1 vc1 s' m ub1 uc1 t' ∧ Turn w w' (FG n vb vc m ub uc) (FG n vb1 vc1 m ub1 uc1)
end Go.Proofs.Ytielmlnbjliacaa
