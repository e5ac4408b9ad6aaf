/- The law's `does`: what both disks have is held against each other. -/
import Derived.Test.YtielmlnbjliacaaDoes08
import Derived.Test.YtielmlnbjliacaaDiskLoad
namespace Ks
open Go Go.RowKit
set_option linter.unusedVariables false
theorem agg_one (a b : Value) : (Value.agg #[a, b]).cells.toList = [a, b] := rfl
end Ks
namespace Go.Proofs.Ytielmlnbjliacaa
open Go.RowKit Ks
set_option linter.unusedVariables false
variable {n m : Nat} {vb vc ub uc : Value} {s t : DS}
/-- the class of worlds: nothing is turned; what was seized is known -/
def Held8 (W : World) (n : Nat) (vb vc : Value) (s : DS) (m : Nat) (ub uc : Value) (t : DS) (v : Option Value) (w : World) : Prop :=
  Both w n vb vc s m ub uc t ∧ Below W.heap.size W w ∧ ∀ x, v = some x → ∃ va vd, x = .agg #[va, vd] ∧ Rd strE w va s.blocks ∧ Rd pwE w vd s.cache
theorem Held8.on {W w w' : World} {v : Option Value} (h : Held8 W n vb vc s m ub uc t v w) (hb : Below w.heap.size w w') : Held8 W n vb vc s m ub uc t v w' :=
  ⟨h.1.below hb, h.2.1.trans (hb.mono h.2.1.size), fun x hx => by obtain ⟨va, vd, h1, h2, h3⟩ := h.2.2 x hx; exact ⟨va, vd, h1, h2.below hb, h3.below hb⟩⟩
theorem same_any8 {w : World} (h : Both w n vb vc s m ub uc t) (va vd : Value) (h1 : Rd strE w va s.blocks) (h2 : Rd pwE w vd s.cache) :
    Calls Try.prog 19 #[.agg #[va, vd], .agg #[ub, uc]] w fun e w' => ∃ r, e = .returned (.bool r) ∧ (s = t → r = true) ∧ Below w.heap.size w w' := by
  have hs := h.p.ok
  have ht := h.r.ok
  refine (rsame_any va vd ub uc s.blocks t.blocks s.cache t.cache w h1 h2 h.r.rb.rd h.r.rc.rd (by have := hs.blocks; unfold maxLen; omega) (by have := ht.blocks; unfold maxLen; omega) (by have := hs.cache; unfold maxLen; omega) (by have := ht.cache; unfold maxLen; omega)).mono ?_
  rintro e w' ⟨b, he, hb, hB⟩
  exact ⟨b, he, fun e => hb.2 (by subst e; exact ⟨rfl, rfl⟩), hB⟩

set_option maxHeartbeats 4000000 in
set_option maxRecDepth 100000 in
theorem does8 (kd at_ ib : Int) (tx : ByteArray) (raw : Bool) (ka : Option Addr) (kn kc : Nat) (w : World) (h : Both w n vb vc s m ub uc t) (hkd : kd < 1 ∨ 7 < kd) :
    Calls Try.prog 12 #[.pointer (some ⟨n, 0, none⟩), .pointer (some ⟨m, 0, none⟩), .agg #[.int .i64 kd, .int .i64 at_, .int .i64 ib, .string tx, .bool raw, .slice ka kn kc]] w
      (Done w n vb vc s s m ub uc t t) := by
  refine calls_by fun R HR => ?_
  obtain ⟨W, hW⟩ : ∃ W, w.alloc (.cells #[.int .i64 kd, .int .i64 at_, .int .i64 ib, .string tx, .bool raw, .slice ka kn kc] 33) = W := ⟨_, rfl⟩
  have hb : Below w.heap.size w W := by rw [← hW]; exact alloc_below w _
  have hk : W.heap[w.heap.size]? = some (.cells #[.int .i64 kd, .int .i64 at_, .int .i64 ib, .string tx, .bool raw, .slice ka kn kc] 33 (0, 0)) := by rw [← hW]; exact alloc_new w _
  have hnF : ¬ FG n vb vc m ub uc w.heap.size := fun hk => Nat.lt_irrefl _ (h.lt _ hk)
  obtain ⟨c0, c1, c2, c3, c4, c5⟩ := blk6 hk
  have H := Lib.hid (And.intro hb (And.intro (h.below hb) (And.intro hnF hk)))
  have e1 : (kd == 1) = false := by rw [beq_eq_false_iff_ne]; omega
  have e2 : (kd == 2) = false := by rw [beq_eq_false_iff_ne]; omega
  have e3 : (kd == 3) = false := by rw [beq_eq_false_iff_ne]; omega
  have e4 : (kd == 4) = false := by rw [beq_eq_false_iff_ne]; omega
  have e5 : (kd == 5) = false := by rw [beq_eq_false_iff_ne]; omega
  have e6 : (kd == 6) = false := by rw [beq_eq_false_iff_ne]; omega
  have e7 : (kd == 7) = false := by rw [beq_eq_false_iff_ne]; omega
  clear hb hk h hnF hkd
  obtain ⟨ua, ul, ucp, hub⟩ := H.out.2.1.r.rb.any
  obtain ⟨ca, cl, ccp, huc⟩ := H.out.2.1.r.rc.any
  have hul : ul = t.blocks.length := by obtain ⟨a, c, e, _⟩ := H.out.2.1.r.rb.shape; rw [hub] at e; cases e; rfl
  have HU := Lib.hid (And.intro hub (And.intro huc hul))
  clear hub huc hul
  obtain ⟨p, hp⟩ : ∃ p, s.down = p := ⟨_, rfl⟩
  obtain ⟨q, hq⟩ : ∃ q, t.down = q := ⟨_, rfl⟩
  have HPQ := Lib.hid (And.intro hp hq)
  clear hp hq
  go_enter Try.func12, Try.ntmps12
  go_wp2_with fail
  refine wp_region_mv (fun f => Held8 W n vb vc s m ub uc t (f 1)) (by kernel_rfl) (Held8.on ⟨H.out.2.1, Below.refl _ _, fun x hx => by cases hx⟩ (drew_below W)) ?_
  obtain ⟨S, F, hF, hFC⟩ := moved_class (fun f => Held8 W n vb vc s m ub uc t (f 1))
  have k0 : ∀ s, (F s).cell? ⟨m, 0, none⟩ = some (.slice ua ul ucp) := fun s => by have := (hFC s).choose_spec.1.r.cells.1; rw [HU.out.1] at this; exact this
  have k1 : ∀ s, (F s).cell? ⟨m, 1, none⟩ = some (.slice ca cl ccp) := fun s => by have := (hFC s).choose_spec.1.r.cells.2.1; rw [HU.out.2.1] at this; exact this
  have k2 : ∀ s, (F s).cell? ⟨m, 2, none⟩ = some (.bool q) := fun s => by have := (hFC s).choose_spec.1.r.cells.2.2.1; rw [HPQ.out.2] at this; exact this
  clear c0 c1 c2 c3 c4 c5 e1 e2 e3 e4 e5 e6 e7
  show wpAnyM _ _ _ _ _ 28 (Array.replicate 28 false) _ _
  refine mv_read 0 hF (fun _ _ _ h => h) rfl (by kernel_rfl) (by kernel_rfl) (by kernel_rfl) (fun K hK => ?_)
  go_simp
  first | refine ⟨_, fun _ => rfl, hK _ _ ?_⟩ | refine hK _ _ ?_
  clear hK K
  refine mv_read 2 hF (fun _ _ _ h => h) rfl (by kernel_rfl) (by kernel_rfl) (by kernel_rfl) (fun K hK => ?_)
  go_simp
  first | refine ⟨_, fun _ => rfl, hK _ _ ?_⟩ | refine hK _ _ ?_
  clear hK K
  refine mv_read 3 hF (fun _ _ _ h => h) rfl (by kernel_rfl) (by kernel_rfl) (by kernel_rfl) (fun K hK => ?_)
  go_simp
  first | refine ⟨_, fun _ => rfl, hK _ _ ?_⟩ | refine hK _ _ ?_
  clear hK K
  refine mv_read 4 hF (fun _ _ _ h => h) rfl (by kernel_rfl) (by kernel_rfl) (by kernel_rfl) (fun K hK => ?_)
  go_simp
  first | refine ⟨_, fun _ => rfl, hK _ _ ?_⟩ | refine hK _ _ ?_
  clear hK K
  refine mv_read 5 hF (fun _ _ _ h => h) rfl (by kernel_rfl) (by kernel_rfl) (by kernel_rfl) (fun K hK => ?_)
  go_simp
  first | refine ⟨_, fun _ => rfl, hK _ _ ?_⟩ | refine hK _ _ ?_
  clear hK K
  refine mv_call 1 15 rfl (by kernel_rfl) rfl rfl eg_seize (args := #[.pointer (some ⟨n, 0, none⟩)]) rfl (fun v => ∃ va vd, v = .agg #[va, vd])
    (fun g w _ h0 h => (dseize_any w h.1.p).mono fun e w' ⟨va, vd, h1, h2, h3, h4⟩ => ⟨_, h1, ⟨va, vd, rfl⟩, h.1.below h4, h.2.1.trans (h4.mono h.2.1.size), fun x hx => by cases hx; exact ⟨va, vd, rfl, h2, h3⟩⟩) ?_
  rintro v ⟨va, vd, rfl⟩
  refine mv_call 6 19 rfl (by kernel_rfl) rfl rfl eg_same (args := #[.agg #[va, vd], .agg #[.slice ua ul ucp, .slice ca cl ccp]]) rfl (fun v => ∃ r, v = .bool r ∧ (s = t → r = true))
    (fun g w hag h0 h => ?_) ?_
  · have h1 : g 1 = some (.agg #[va, vd]) := agree_on 1 hag (by kernel_rfl)
    obtain ⟨xa, xd, hx, hx1, hx2⟩ := h.2.2 _ h1
    cases hx
    have := same_any8 h.1 _ _ hx1 hx2
    rw [HU.out.1, HU.out.2.1] at this
    exact this.mono fun e w' ⟨r, h1, h2, h3⟩ => ⟨_, h1, ⟨r, rfl, h2⟩, h.on h3⟩
  rintro v ⟨r, rfl, hr⟩
  have HRR := Lib.hid hr
  clear hr
  cases r
  · refine mv_read 7 hF (fun _ _ _ h => h) rfl (by kernel_rfl) (by kernel_rfl) (by kernel_rfl) (fun K hK => ?_)
    go_simp
    first | refine ⟨_, fun _ => rfl, hK _ _ ?_⟩ | refine hK _ _ ?_
    clear hK K
    refine mv_read 8 hF (fun _ _ _ h => h) rfl (by kernel_rfl) (by kernel_rfl) (by kernel_rfl) (fun K hK => ?_)
    go_simp
    first | refine ⟨_, fun _ => rfl, hK _ _ ?_⟩ | refine hK _ _ ?_
    clear hK K
    refine mv_read 9 hF (fun _ _ _ h => h) rfl (by kernel_rfl) (by kernel_rfl) (by kernel_rfl) (fun K hK => ?_)
    go_simp
    first | refine ⟨_, fun _ => rfl, hK _ _ ?_⟩ | refine hK _ _ ?_
    clear hK K
    refine mv_read 10 hF (fun _ _ _ h => h) rfl (by kernel_rfl) (by kernel_rfl) (by kernel_rfl) (fun K hK => ?_)
    go_simp
    first | refine ⟨_, fun _ => rfl, hK _ _ ?_⟩ | refine hK _ _ ?_
    clear hK K
    refine mv_read 11 hF (fun _ _ _ h => h) rfl (by kernel_rfl) (by kernel_rfl) (by kernel_rfl) (fun K hK => ?_)
    go_simp
    first | refine ⟨_, fun _ => rfl, hK _ _ ?_⟩ | refine hK _ _ ?_
    clear hK K
    refine mv_read 12 hF (fun _ _ _ h => h) rfl (by kernel_rfl) (by kernel_rfl) (by kernel_rfl) (fun K hK => ?_)
    go_simp
    first | refine ⟨_, fun _ => rfl, hK _ _ ?_⟩ | refine hK _ _ ?_
    clear hK K
    refine mv_read 13 hF (fun _ _ _ h => h) rfl (by kernel_rfl) (by kernel_rfl) (by kernel_rfl) (fun K hK => ?_)
    go_simp
    first | refine ⟨_, fun _ => rfl, hK _ _ ?_⟩ | refine hK _ _ ?_
    clear hK K
    refine mv_read 14 hF (fun _ _ _ h => h) rfl (by kernel_rfl) (by kernel_rfl) (by kernel_rfl) (fun K hK => ?_)
    go_simp
    first | refine ⟨_, fun _ => rfl, hK _ _ ?_⟩ | refine hK _ _ ?_
    clear hK K
    refine mv_read 15 hF (fun _ _ _ h => h) rfl (by kernel_rfl) (by kernel_rfl) (by kernel_rfl) (fun K hK => ?_)
    go_simp
    first | refine ⟨_, fun _ => rfl, hK _ _ ?_⟩ | refine hK _ _ ?_
    clear hK K
    refine mv_read 16 hF (fun _ _ _ h => h) rfl (by kernel_rfl) (by kernel_rfl) (by kernel_rfl) (fun K hK => ?_)
    go_simp
    first | refine ⟨_, fun _ => rfl, hK _ _ ?_⟩ | refine hK _ _ ?_
    clear hK K
    refine mv_read 17 hF (fun _ _ _ h => h) rfl (by kernel_rfl) (by kernel_rfl) (by kernel_rfl) (fun K hK => ?_)
    go_simp
    first | refine ⟨_, fun _ => rfl, hK _ _ ?_⟩ | refine hK _ _ ?_
    clear hK K
    refine mv_read 18 hF (fun _ _ _ h => h) rfl (by kernel_rfl) (by kernel_rfl) (by kernel_rfl) (fun K hK => ?_)
    go_simp
    first | refine ⟨_, fun _ => rfl, hK _ _ ?_⟩ | refine hK _ _ ?_
    clear hK K
    refine mv_read 19 hF (fun _ _ _ h => h) rfl (by kernel_rfl) (by kernel_rfl) (by kernel_rfl) (fun K hK => ?_)
    go_simp
    first | refine ⟨_, fun _ => rfl, hK _ _ ?_⟩ | refine hK _ _ ?_
    clear hK K
    refine mv_read 20 hF (fun _ _ _ h => h) rfl (by kernel_rfl) (by kernel_rfl) (by kernel_rfl) (fun K hK => ?_)
    go_simp
    first | refine ⟨_, fun _ => rfl, hK _ _ ?_⟩ | refine hK _ _ ?_
    clear hK K
    refine mv_read 21 hF (fun _ _ _ h => h) rfl (by kernel_rfl) (by kernel_rfl) (by kernel_rfl) (fun K hK => ?_)
    go_simp
    first | refine ⟨_, fun _ => rfl, hK _ _ ?_⟩ | refine hK _ _ ?_
    clear hK K
    refine mv_read 22 hF (fun _ _ _ h => h) rfl (by kernel_rfl) (by kernel_rfl) (by kernel_rfl) (fun K hK => ?_)
    go_simp
    first | refine ⟨_, fun _ => rfl, hK _ _ ?_⟩ | refine hK _ _ ?_
    clear hK K
    refine mv_read 23 hF (fun _ _ _ h => h) rfl (by kernel_rfl) (by kernel_rfl) (by kernel_rfl) (fun K hK => ?_)
    go_simp
    first | refine ⟨_, fun _ => rfl, hK _ _ ?_⟩ | refine hK _ _ ?_
    clear hK K
    refine mv_read 24 hF (fun _ _ _ h => h) rfl (by kernel_rfl) (by kernel_rfl) (by kernel_rfl) (fun K hK => ?_)
    go_simp
    first | refine ⟨_, fun _ => rfl, hK _ _ ?_⟩ | refine hK _ _ ?_
    clear hK K
    refine mv_read 25 hF (fun _ _ _ h => h) rfl (by kernel_rfl) (by kernel_rfl) (by kernel_rfl) (fun K hK => ?_)
    go_simp
    first | refine ⟨_, fun _ => rfl, hK _ _ ?_⟩ | refine hK _ _ ?_
    clear hK K
    refine mv_read 26 hF (fun _ _ _ h => h) rfl (by kernel_rfl) (by kernel_rfl) (by kernel_rfl) (fun K hK => ?_)
    go_simp
    first | refine ⟨_, fun _ => rfl, hK _ _ ?_⟩ | refine hK _ _ ?_
    clear hK K
    refine mv_read 27 hF (fun _ _ _ h => h) rfl (by kernel_rfl) (by kernel_rfl) (by kernel_rfl) (fun K hK => ?_)
    go_simp
    first | refine ⟨_, fun _ => rfl, hK _ _ ?_⟩ | refine hK _ _ ?_
    clear hK K
    refine mv_end (by kernel_rfl) ?_
    intro w' hw'
    have HW := Lib.hid hw'
    clear hw' hF hFC k0 k1 k2
    go_wp2
    exact HR.out _ _ ⟨false, rfl, HRR.out, _, _, _, _, HW.out.1, Turn.of_below _ (H.out.1.trans (HW.out.2.1.mono H.out.1.size))⟩
  · refine mv_read 7 hF (fun _ _ _ h => h) rfl (by kernel_rfl) (by kernel_rfl) (by kernel_rfl) (fun K hK => ?_)
    go_simp
    first | refine ⟨_, fun _ => rfl, hK _ _ ?_⟩ | refine hK _ _ ?_
    clear hK K
    refine mv_read 8 hF (fun _ _ _ h => h) rfl (by kernel_rfl) (by kernel_rfl) (by kernel_rfl) (fun K hK => ?_)
    go_simp
    first | refine ⟨_, fun _ => rfl, hK _ _ ?_⟩ | refine hK _ _ ?_
    clear hK K
    refine mv_call1 9 20 rfl (by kernel_rfl) (by kernel_rfl) (by kernel_rfl) rfl rfl eg_down (args := #[.pointer (some ⟨n, 0, none⟩)]) rfl
      (u := .bool p) (fun g w _ h0 h => (ddown_any w h.1.p).mono fun e w' ⟨h1, h2⟩ => ⟨by rw [h1, HPQ.out.1], by subst h2; exact h⟩) ?_
    refine mv_read 10 hF (fun _ _ _ h => h) rfl (by kernel_rfl) (by kernel_rfl) (by kernel_rfl) (fun K hK => ?_)
    go_simp
    first | refine ⟨_, fun _ => rfl, hK _ _ ?_⟩ | refine hK _ _ ?_
    clear hK K
    refine mv_read 11 hF (fun _ _ _ h => h) rfl (by kernel_rfl) (by kernel_rfl) (by kernel_rfl) (fun K hK => ?_)
    go_simp
    first | refine ⟨_, fun _ => rfl, hK _ _ ?_⟩ | refine hK _ _ ?_
    clear hK K
    refine mv_read 12 hF (fun _ _ _ h => h) rfl (by kernel_rfl) (by kernel_rfl) (by kernel_rfl) (fun K hK => ?_)
    go_simp
    first | refine ⟨_, fun _ => rfl, hK _ _ ?_⟩ | refine hK _ _ ?_
    clear hK K
    refine mv_read 13 hF (fun _ _ _ h => h) rfl (by kernel_rfl) (by kernel_rfl) (by kernel_rfl) (fun K hK => ?_)
    go_simp
    first | refine ⟨_, fun _ => rfl, hK _ _ ?_⟩ | refine hK _ _ ?_
    clear hK K
    cases p <;> cases q
    · refine mv_read 14 hF (fun _ _ _ h => h) rfl (by kernel_rfl) (by kernel_rfl) (by kernel_rfl) (fun K hK => ?_)
      go_simp
      first | refine ⟨_, fun _ => rfl, hK _ _ ?_⟩ | refine hK _ _ ?_
      clear hK K
      refine mv_read 15 hF (fun _ _ _ h => h) rfl (by kernel_rfl) (by kernel_rfl) (by kernel_rfl) (fun K hK => ?_)
      go_simp
      first | refine ⟨_, fun _ => rfl, hK _ _ ?_⟩ | refine hK _ _ ?_
      clear hK K
      refine mv_read 16 hF (fun _ _ _ h => h) rfl (by kernel_rfl) (by kernel_rfl) (by kernel_rfl) (fun K hK => ?_)
      go_simp
      first | refine ⟨_, fun _ => rfl, hK _ _ ?_⟩ | refine hK _ _ ?_
      clear hK K
      refine mv_read 17 hF (fun _ _ _ h => h) rfl (by kernel_rfl) (by kernel_rfl) (by kernel_rfl) (fun K hK => ?_)
      go_simp
      first | refine ⟨_, fun _ => rfl, hK _ _ ?_⟩ | refine hK _ _ ?_
      clear hK K
      refine mv_call1 18 24 rfl (by kernel_rfl) (by kernel_rfl) (by kernel_rfl) rfl rfl eg_size (args := #[.pointer (some ⟨n, 0, none⟩)]) rfl
        (u := .int .i64 (s.blocks.length : Nat)) (fun g w _ h0 h => (dsize_any w h.1.p).mono fun e w' ⟨h1, h2⟩ => ⟨h1, by subst h2; exact h⟩) ?_
      refine mv_read 19 hF (fun _ _ _ h => h) rfl (by kernel_rfl) (by kernel_rfl) (by kernel_rfl) (fun K hK => ?_)
      go_simp
      first | refine ⟨_, fun _ => rfl, hK _ _ ?_⟩ | refine hK _ _ ?_
      clear hK K
      refine mv_read 20 hF (fun _ _ _ h => h) rfl (by kernel_rfl) (by kernel_rfl) (by kernel_rfl) (fun K hK => ?_)
      go_simp
      first | refine ⟨_, fun _ => rfl, hK _ _ ?_⟩ | refine hK _ _ ?_
      clear hK K
      refine mv_read 21 hF (fun _ _ _ h => h) rfl (by kernel_rfl) (by kernel_rfl) (by kernel_rfl) (fun K hK => ?_)
      go_simp
      first | refine ⟨_, fun _ => rfl, hK _ _ ?_⟩ | refine hK _ _ ?_
      clear hK K
      refine mv_read 22 hF (fun _ _ _ h => h) rfl (by kernel_rfl) (by kernel_rfl) (by kernel_rfl) (fun K hK => ?_)
      go_simp
      first | refine ⟨_, fun _ => rfl, hK _ _ ?_⟩ | refine hK _ _ ?_
      clear hK K
      refine mv_read 23 hF (fun _ _ _ h => h) rfl (by kernel_rfl) (by kernel_rfl) (by kernel_rfl) (fun K hK => ?_)
      go_simp
      first | refine ⟨_, fun _ => rfl, hK _ _ ?_⟩ | refine hK _ _ ?_
      clear hK K
      refine mv_read 24 hF (fun _ _ _ h => h) rfl (by kernel_rfl) (by kernel_rfl) (by kernel_rfl) (fun K hK => ?_)
      go_simp
      first | refine ⟨_, fun _ => rfl, hK _ _ ?_⟩ | refine hK _ _ ?_
      clear hK K
      refine mv_read 25 hF (fun _ _ _ h => h) rfl (by kernel_rfl) (by kernel_rfl) (by kernel_rfl) (fun K hK => ?_)
      go_simp
      first | refine ⟨_, fun _ => rfl, hK _ _ ?_⟩ | refine hK _ _ ?_
      clear hK K
      refine mv_read 26 hF (fun _ _ _ h => h) rfl (by kernel_rfl) (by kernel_rfl) (by kernel_rfl) (fun K hK => ?_)
      go_simp
      first | refine ⟨_, fun _ => rfl, hK _ _ ?_⟩ | refine hK _ _ ?_
      clear hK K
      refine mv_read 27 hF (fun _ _ _ h => h) rfl (by kernel_rfl) (by kernel_rfl) (by kernel_rfl) (fun K hK => ?_)
      go_simp
      first | refine ⟨_, fun _ => rfl, hK _ _ ?_⟩ | refine hK _ _ ?_
      clear hK K
      refine mv_end (by kernel_rfl) ?_
      intro w' hw'
      have HW := Lib.hid hw'
      clear hw' hF hFC k0 k1 k2
      go_wp2
      exact HR.out _ _ ⟨((s.blocks.length : Int) == (ul : Int)), rfl, (fun e => by rw [HU.out.2.2, e]; simp), _, _, _, _, HW.out.1, Turn.of_below _ (H.out.1.trans (HW.out.2.1.mono H.out.1.size))⟩
    · refine mv_read 14 hF (fun _ _ _ h => h) rfl (by kernel_rfl) (by kernel_rfl) (by kernel_rfl) (fun K hK => ?_)
      go_simp
      first | refine ⟨_, fun _ => rfl, hK _ _ ?_⟩ | refine hK _ _ ?_
      clear hK K
      refine mv_read 15 hF (fun _ _ _ h => h) rfl (by kernel_rfl) (by kernel_rfl) (by kernel_rfl) (fun K hK => ?_)
      go_simp
      first | refine ⟨_, fun _ => rfl, hK _ _ ?_⟩ | refine hK _ _ ?_
      clear hK K
      refine mv_read 16 hF (fun _ _ _ h => h) rfl (by kernel_rfl) (by kernel_rfl) (by kernel_rfl) (fun K hK => ?_)
      go_simp
      first | refine ⟨_, fun _ => rfl, hK _ _ ?_⟩ | refine hK _ _ ?_
      clear hK K
      refine mv_read 17 hF (fun _ _ _ h => h) rfl (by kernel_rfl) (by kernel_rfl) (by kernel_rfl) (fun K hK => ?_)
      go_simp
      first | refine ⟨_, fun _ => rfl, hK _ _ ?_⟩ | refine hK _ _ ?_
      clear hK K
      refine mv_read 18 hF (fun _ _ _ h => h) rfl (by kernel_rfl) (by kernel_rfl) (by kernel_rfl) (fun K hK => ?_)
      go_simp
      first | refine ⟨_, fun _ => rfl, hK _ _ ?_⟩ | refine hK _ _ ?_
      clear hK K
      refine mv_read 19 hF (fun _ _ _ h => h) rfl (by kernel_rfl) (by kernel_rfl) (by kernel_rfl) (fun K hK => ?_)
      go_simp
      first | refine ⟨_, fun _ => rfl, hK _ _ ?_⟩ | refine hK _ _ ?_
      clear hK K
      refine mv_read 20 hF (fun _ _ _ h => h) rfl (by kernel_rfl) (by kernel_rfl) (by kernel_rfl) (fun K hK => ?_)
      go_simp
      first | refine ⟨_, fun _ => rfl, hK _ _ ?_⟩ | refine hK _ _ ?_
      clear hK K
      refine mv_read 21 hF (fun _ _ _ h => h) rfl (by kernel_rfl) (by kernel_rfl) (by kernel_rfl) (fun K hK => ?_)
      go_simp
      first | refine ⟨_, fun _ => rfl, hK _ _ ?_⟩ | refine hK _ _ ?_
      clear hK K
      refine mv_read 22 hF (fun _ _ _ h => h) rfl (by kernel_rfl) (by kernel_rfl) (by kernel_rfl) (fun K hK => ?_)
      go_simp
      first | refine ⟨_, fun _ => rfl, hK _ _ ?_⟩ | refine hK _ _ ?_
      clear hK K
      refine mv_read 23 hF (fun _ _ _ h => h) rfl (by kernel_rfl) (by kernel_rfl) (by kernel_rfl) (fun K hK => ?_)
      go_simp
      first | refine ⟨_, fun _ => rfl, hK _ _ ?_⟩ | refine hK _ _ ?_
      clear hK K
      refine mv_read 24 hF (fun _ _ _ h => h) rfl (by kernel_rfl) (by kernel_rfl) (by kernel_rfl) (fun K hK => ?_)
      go_simp
      first | refine ⟨_, fun _ => rfl, hK _ _ ?_⟩ | refine hK _ _ ?_
      clear hK K
      refine mv_read 25 hF (fun _ _ _ h => h) rfl (by kernel_rfl) (by kernel_rfl) (by kernel_rfl) (fun K hK => ?_)
      go_simp
      first | refine ⟨_, fun _ => rfl, hK _ _ ?_⟩ | refine hK _ _ ?_
      clear hK K
      refine mv_read 26 hF (fun _ _ _ h => h) rfl (by kernel_rfl) (by kernel_rfl) (by kernel_rfl) (fun K hK => ?_)
      go_simp
      first | refine ⟨_, fun _ => rfl, hK _ _ ?_⟩ | refine hK _ _ ?_
      clear hK K
      refine mv_read 27 hF (fun _ _ _ h => h) rfl (by kernel_rfl) (by kernel_rfl) (by kernel_rfl) (fun K hK => ?_)
      go_simp
      first | refine ⟨_, fun _ => rfl, hK _ _ ?_⟩ | refine hK _ _ ?_
      clear hK K
      refine mv_end (by kernel_rfl) ?_
      intro w' hw'
      have HW := Lib.hid hw'
      clear hw' hF hFC k0 k1 k2
      go_wp2
      exact HR.out _ _ ⟨false, rfl, (fun e => absurd (HPQ.out.1.symm.trans ((congrArg DS.down e).trans HPQ.out.2)) (by decide)), _, _, _, _, HW.out.1, Turn.of_below _ (H.out.1.trans (HW.out.2.1.mono H.out.1.size))⟩
    · refine mv_read 14 hF (fun _ _ _ h => h) rfl (by kernel_rfl) (by kernel_rfl) (by kernel_rfl) (fun K hK => ?_)
      go_simp
      first | refine ⟨_, fun _ => rfl, hK _ _ ?_⟩ | refine hK _ _ ?_
      clear hK K
      refine mv_read 15 hF (fun _ _ _ h => h) rfl (by kernel_rfl) (by kernel_rfl) (by kernel_rfl) (fun K hK => ?_)
      go_simp
      first | refine ⟨_, fun _ => rfl, hK _ _ ?_⟩ | refine hK _ _ ?_
      clear hK K
      refine mv_read 16 hF (fun _ _ _ h => h) rfl (by kernel_rfl) (by kernel_rfl) (by kernel_rfl) (fun K hK => ?_)
      go_simp
      first | refine ⟨_, fun _ => rfl, hK _ _ ?_⟩ | refine hK _ _ ?_
      clear hK K
      refine mv_read 17 hF (fun _ _ _ h => h) rfl (by kernel_rfl) (by kernel_rfl) (by kernel_rfl) (fun K hK => ?_)
      go_simp
      first | refine ⟨_, fun _ => rfl, hK _ _ ?_⟩ | refine hK _ _ ?_
      clear hK K
      refine mv_read 18 hF (fun _ _ _ h => h) rfl (by kernel_rfl) (by kernel_rfl) (by kernel_rfl) (fun K hK => ?_)
      go_simp
      first | refine ⟨_, fun _ => rfl, hK _ _ ?_⟩ | refine hK _ _ ?_
      clear hK K
      refine mv_read 19 hF (fun _ _ _ h => h) rfl (by kernel_rfl) (by kernel_rfl) (by kernel_rfl) (fun K hK => ?_)
      go_simp
      first | refine ⟨_, fun _ => rfl, hK _ _ ?_⟩ | refine hK _ _ ?_
      clear hK K
      refine mv_read 20 hF (fun _ _ _ h => h) rfl (by kernel_rfl) (by kernel_rfl) (by kernel_rfl) (fun K hK => ?_)
      go_simp
      first | refine ⟨_, fun _ => rfl, hK _ _ ?_⟩ | refine hK _ _ ?_
      clear hK K
      refine mv_read 21 hF (fun _ _ _ h => h) rfl (by kernel_rfl) (by kernel_rfl) (by kernel_rfl) (fun K hK => ?_)
      go_simp
      first | refine ⟨_, fun _ => rfl, hK _ _ ?_⟩ | refine hK _ _ ?_
      clear hK K
      refine mv_read 22 hF (fun _ _ _ h => h) rfl (by kernel_rfl) (by kernel_rfl) (by kernel_rfl) (fun K hK => ?_)
      go_simp
      first | refine ⟨_, fun _ => rfl, hK _ _ ?_⟩ | refine hK _ _ ?_
      clear hK K
      refine mv_read 23 hF (fun _ _ _ h => h) rfl (by kernel_rfl) (by kernel_rfl) (by kernel_rfl) (fun K hK => ?_)
      go_simp
      first | refine ⟨_, fun _ => rfl, hK _ _ ?_⟩ | refine hK _ _ ?_
      clear hK K
      refine mv_read 24 hF (fun _ _ _ h => h) rfl (by kernel_rfl) (by kernel_rfl) (by kernel_rfl) (fun K hK => ?_)
      go_simp
      first | refine ⟨_, fun _ => rfl, hK _ _ ?_⟩ | refine hK _ _ ?_
      clear hK K
      refine mv_read 25 hF (fun _ _ _ h => h) rfl (by kernel_rfl) (by kernel_rfl) (by kernel_rfl) (fun K hK => ?_)
      go_simp
      first | refine ⟨_, fun _ => rfl, hK _ _ ?_⟩ | refine hK _ _ ?_
      clear hK K
      refine mv_read 26 hF (fun _ _ _ h => h) rfl (by kernel_rfl) (by kernel_rfl) (by kernel_rfl) (fun K hK => ?_)
      go_simp
      first | refine ⟨_, fun _ => rfl, hK _ _ ?_⟩ | refine hK _ _ ?_
      clear hK K
      refine mv_read 27 hF (fun _ _ _ h => h) rfl (by kernel_rfl) (by kernel_rfl) (by kernel_rfl) (fun K hK => ?_)
      go_simp
      first | refine ⟨_, fun _ => rfl, hK _ _ ?_⟩ | refine hK _ _ ?_
      clear hK K
      refine mv_end (by kernel_rfl) ?_
      intro w' hw'
      have HW := Lib.hid hw'
      clear hw' hF hFC k0 k1 k2
      go_wp2
      exact HR.out _ _ ⟨false, rfl, (fun e => absurd (HPQ.out.1.symm.trans ((congrArg DS.down e).trans HPQ.out.2)) (by decide)), _, _, _, _, HW.out.1, Turn.of_below _ (H.out.1.trans (HW.out.2.1.mono H.out.1.size))⟩
    · refine mv_read 14 hF (fun _ _ _ h => h) rfl (by kernel_rfl) (by kernel_rfl) (by kernel_rfl) (fun K hK => ?_)
      go_simp
      first | refine ⟨_, fun _ => rfl, hK _ _ ?_⟩ | refine hK _ _ ?_
      clear hK K
      refine mv_read 15 hF (fun _ _ _ h => h) rfl (by kernel_rfl) (by kernel_rfl) (by kernel_rfl) (fun K hK => ?_)
      go_simp
      first | refine ⟨_, fun _ => rfl, hK _ _ ?_⟩ | refine hK _ _ ?_
      clear hK K
      refine mv_read 16 hF (fun _ _ _ h => h) rfl (by kernel_rfl) (by kernel_rfl) (by kernel_rfl) (fun K hK => ?_)
      go_simp
      first | refine ⟨_, fun _ => rfl, hK _ _ ?_⟩ | refine hK _ _ ?_
      clear hK K
      refine mv_read 17 hF (fun _ _ _ h => h) rfl (by kernel_rfl) (by kernel_rfl) (by kernel_rfl) (fun K hK => ?_)
      go_simp
      first | refine ⟨_, fun _ => rfl, hK _ _ ?_⟩ | refine hK _ _ ?_
      clear hK K
      refine mv_call1 18 24 rfl (by kernel_rfl) (by kernel_rfl) (by kernel_rfl) rfl rfl eg_size (args := #[.pointer (some ⟨n, 0, none⟩)]) rfl
        (u := .int .i64 (s.blocks.length : Nat)) (fun g w _ h0 h => (dsize_any w h.1.p).mono fun e w' ⟨h1, h2⟩ => ⟨h1, by subst h2; exact h⟩) ?_
      refine mv_read 19 hF (fun _ _ _ h => h) rfl (by kernel_rfl) (by kernel_rfl) (by kernel_rfl) (fun K hK => ?_)
      go_simp
      first | refine ⟨_, fun _ => rfl, hK _ _ ?_⟩ | refine hK _ _ ?_
      clear hK K
      refine mv_read 20 hF (fun _ _ _ h => h) rfl (by kernel_rfl) (by kernel_rfl) (by kernel_rfl) (fun K hK => ?_)
      go_simp
      first | refine ⟨_, fun _ => rfl, hK _ _ ?_⟩ | refine hK _ _ ?_
      clear hK K
      refine mv_read 21 hF (fun _ _ _ h => h) rfl (by kernel_rfl) (by kernel_rfl) (by kernel_rfl) (fun K hK => ?_)
      go_simp
      first | refine ⟨_, fun _ => rfl, hK _ _ ?_⟩ | refine hK _ _ ?_
      clear hK K
      refine mv_read 22 hF (fun _ _ _ h => h) rfl (by kernel_rfl) (by kernel_rfl) (by kernel_rfl) (fun K hK => ?_)
      go_simp
      first | refine ⟨_, fun _ => rfl, hK _ _ ?_⟩ | refine hK _ _ ?_
      clear hK K
      refine mv_read 23 hF (fun _ _ _ h => h) rfl (by kernel_rfl) (by kernel_rfl) (by kernel_rfl) (fun K hK => ?_)
      go_simp
      first | refine ⟨_, fun _ => rfl, hK _ _ ?_⟩ | refine hK _ _ ?_
      clear hK K
      refine mv_read 24 hF (fun _ _ _ h => h) rfl (by kernel_rfl) (by kernel_rfl) (by kernel_rfl) (fun K hK => ?_)
      go_simp
      first | refine ⟨_, fun _ => rfl, hK _ _ ?_⟩ | refine hK _ _ ?_
      clear hK K
      refine mv_read 25 hF (fun _ _ _ h => h) rfl (by kernel_rfl) (by kernel_rfl) (by kernel_rfl) (fun K hK => ?_)
      go_simp
      first | refine ⟨_, fun _ => rfl, hK _ _ ?_⟩ | refine hK _ _ ?_
      clear hK K
      refine mv_read 26 hF (fun _ _ _ h => h) rfl (by kernel_rfl) (by kernel_rfl) (by kernel_rfl) (fun K hK => ?_)
      go_simp
      first | refine ⟨_, fun _ => rfl, hK _ _ ?_⟩ | refine hK _ _ ?_
      clear hK K
      refine mv_read 27 hF (fun _ _ _ h => h) rfl (by kernel_rfl) (by kernel_rfl) (by kernel_rfl) (fun K hK => ?_)
      go_simp
      first | refine ⟨_, fun _ => rfl, hK _ _ ?_⟩ | refine hK _ _ ?_
      clear hK K
      refine mv_end (by kernel_rfl) ?_
      intro w' hw'
      have HW := Lib.hid hw'
      clear hw' hF hFC k0 k1 k2
      go_wp2
      exact HR.out _ _ ⟨((s.blocks.length : Int) == (ul : Int)), rfl, (fun e => by rw [HU.out.2.2, e]; simp), _, _, _, _, HW.out.1, Turn.of_below _ (H.out.1.trans (HW.out.2.1.mono H.out.1.size))⟩

theorem does_any (a : ActT) (ka : Option Addr) (kn kc : Nat) (w : World) (h : Both w n vb vc s m ub uc t) (hk : RdI w (.slice ka kn kc) a.keep) (hkl : a.keep.length ≤ 9223372036854775807) (hn : a.n ≤ 9223372036854775807) (hfar : a.keep ≠ [] → ∀ b o, ka = some ⟨b, o, none⟩ → ¬ DF m ub uc b) :
    Calls Try.prog 12 #[.pointer (some ⟨n, 0, none⟩), .pointer (some ⟨m, 0, none⟩), actV a (.slice ka kn kc)] w (Done w n vb vc s (doD s a) m ub uc t (doD t a)) := by
  obtain ⟨kd, at_, ib, tx, raw, keep⟩ := a
  by_cases h1 : kd = 1
  · subst h1; exact does1 at_ ib tx raw ka kn kc w h _ rfl
  by_cases h2 : kd = 2
  · subst h2; exact does2 at_ ib tx raw ka kn kc w h
  by_cases h3 : kd = 3
  · subst h3; exact does3 at_ ib tx raw ka kn kc w h
  by_cases h4 : kd = 4
  · subst h4; exact does4 at_ ib tx raw ka kn kc w h hn
  by_cases h5 : kd = 5
  · subst h5; exact does5 at_ ib tx raw ka kn kc w h keep hk hkl hfar
  by_cases h6 : kd = 6
  · subst h6; exact does6 at_ ib tx raw ka kn kc w h
  by_cases h7 : kd = 7
  · subst h7; exact does7 at_ ib tx raw ka kn kc w h _ rfl
  have e : ∀ s : DS, doD s ⟨kd, at_, ib, tx, raw, keep⟩ = s := fun s => by unfold doD; simp only [h1, h3, h4, h5, h6, h7, if_false]
  rw [e, e]
  exact does8 kd at_ ib tx raw ka kn kc w h (by omega)
end Go.Proofs.Ytielmlnbjliacaa
