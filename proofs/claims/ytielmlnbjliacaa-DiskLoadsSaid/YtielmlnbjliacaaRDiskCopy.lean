/- The reference's disk: an image copied. -/
import Derived.Test.YtielmlnbjliacaaRDiskNew
import Derived.Test.YtielmlnbjliacaaSeqBoth
namespace Ks
open Go Go.RowKit
set_option linter.unusedVariables false
theorem below_all {w0 w : World} (h : Below w0.heap.size w0 w) (o : Obj) : Below w0.heap.size w0 (w.alloc o) := h.alloc h.size o
theorem szle {w0 w : World} (h : Below w0.heap.size w0 w) : w0.heap.size ≤ w.heap.size := h.size
theorem below_drew {w0 w : World} (h : Below w0.heap.size w0 w) : Below w0.heap.size w0 w.drew := h.trans ((drew_below w).mono h.size)
theorem row_drew {α : Type} {E : Enc α} {w : World} {B : Nat} {T : TypeId} {v : Value} {l : List α} (h : Row E w B T v l) : Row E w.drew B T v l := h
theorem heap_drew {w : World} {g : Nat} {o : Obj} (h : w.heap[g]? = some o) : w.drew.heap[g]? = some o := h
theorem grew_two {α β : Type} {E : Enc α} {E' : Enc β} {w w' : World} {B B' : Nat} {T T' : TypeId} {u v v' : Value} {l : List α} {l' : List β} (hr : Row E w B T u l) (hG : Grew E' w w' B' T' v v' l') (hne : ∀ b, u.ownBlock = some b → v.ownBlock ≠ some b) :
    Row E w' B T u l ∧ ∀ b, u.ownBlock = some b → v'.ownBlock ≠ some b := by
  refine ⟨hr.keep fun b e => hG.2.1.block b (hr.own_lt e) (fun e2 => hne b e e2.symm), fun b e e2 => ?_⟩
  rcases hG.2.2.1 with h | h
  · exact hne b e (h ▸ e2)
  · have := h b e2; have := hr.own_lt e; omega
/-- a list appended onto a fresh empty slice, at a step of a region that draws its order -/
theorem step_copy {α : Type} {E : Enc α} {P : Program} {ops : Array Oper} {o : Oper} {a : Act} {w : World} {K : Act → World → Prop} {Q : Exit → Act → World → Prop} {F : Prop} (hg : o.guard = none) (s x : Operand) (t : TypeId)
    (hop : o.op = Op.call { callee := Callee.builtin Builtin.append, args := #[s, x], argTypes := #[t, t] }) {e : TypeId} {bytes : Nat} (T : ElemT P t e E.k bytes) (B : Nat)
    (g : Nat) (lv : Value) (l : List α) (hs : a.eval s = .slice (some ⟨g, 0, none⟩) 0 0) (hx : a.eval x = lv) (hfr : w.heap[g]? = some (.cells #[] e (0, 0))) (hBg : B ≤ g) (hl : Rd E w lv l) (b1 : l.length ≤ 1000000) (b2 : bytes ≤ 1000)
    (hK : ∀ v' w', Grew E w w' B e (.slice (some ⟨g, 0, none⟩) 0 0) v' l → B ≤ w.heap.size → (∀ b, (Value.slice (some ⟨g, 0, none⟩) 0 0).ownBlock = some b → B ≤ b) → K (a.put o.dst v') w') : if Region.wanted o (yielded ops a.tmps) = true then Oper.wp P o a w K Q else F :=
  step_append_row hg s x t hop T B _ lv [] l hs hx (row_fresh hfr hBg) hl (Nat.le_of_lt (Nat.lt_of_le_of_lt hBg (lt_of_block hfr))) (by simp; omega) b2 fun v' w' h => hK v' w' (by simpa using h) (Nat.le_of_lt (Nat.lt_of_le_of_lt hBg (lt_of_block hfr))) (fun b e => by simp [Value.ownBlock] at e; omega)
end Ks
namespace Go.Proofs.Ytielmlnbjliacaa
open Go.RowKit Ks
set_option linter.unusedVariables false

set_option maxHeartbeats 40000000 in
theorem rcopy_any (va vd : Value) (B : List ByteArray) (C : List PutT) (w : World) (ha : Rd strE w va B) (hd : Rd pwE w vd C) (hB : B.length ≤ 1000000) (hC : C.length ≤ 1000000) :
    Calls Try.prog 26 #[.agg #[va, vd]] w fun e w' => ∃ vb vc, e = .returned (.agg #[vb, vc]) ∧ Row strE w' w.heap.size 9 vb B ∧ Row pwE w' w.heap.size 75 vc C ∧ (∀ b, vb.ownBlock = some b → vc.ownBlock ≠ some b) ∧ Below w.heap.size w w' := by
  refine calls_by fun R HR => ?_
  obtain ⟨aa, ca, hva, qa⟩ := ha.shape
  obtain ⟨ad, cd, hvd, qd⟩ := hd.shape
  have HH := Lib.hid (And.intro ha hd)
  subst hva hvd
  clear ha hd qa qd
  go_enter Try.func26, Try.ntmps26
  go_wp2_with fail
  have HF : Hid (((w.alloc (.cells #[.slice aa B.length ca, .slice ad C.length cd] 40)).alloc (.cells #[.slice none 0 0, .slice none 0 0] 40)).heap[w.heap.size]? = some (.cells #[.slice aa B.length ca, .slice ad C.length cd] 40 (0, 0)) ∧ ((w.alloc (.cells #[.slice aa B.length ca, .slice ad C.length cd] 40)).alloc (.cells #[.slice none 0 0, .slice none 0 0] 40)).heap[w.heap.size + 1]? = some (.cells #[.slice none 0 0, .slice none 0 0] 40 (0, 0)) ∧ Below w.heap.size w ((w.alloc (.cells #[.slice aa B.length ca, .slice ad C.length cd] 40)).alloc (.cells #[.slice none 0 0, .slice none 0 0] 40)) ∧ w.heap.size + 2 ≤ ((w.alloc (.cells #[.slice aa B.length ca, .slice ad C.length cd] 40)).alloc (.cells #[.slice none 0 0, .slice none 0 0] 40)).heap.size) := Lib.hid
    ⟨(alloc2_heap _ _ _).1, (alloc2_heap _ _ _).2, (alloc_below w _).alloc (by simp) _, by simp⟩
  generalize (w.alloc (.cells #[.slice aa B.length ca, .slice ad C.length cd] 40)).alloc (.cells #[.slice none 0 0, .slice none 0 0] 40) = W at *
  generalize hrb : w.heap.size = rb at *
  have HRB := Lib.hid hrb
  have hbb0 := drew_below W
  have d0 : W.drew.cell? ⟨rb, 0, none⟩ = some (.slice aa B.length ca) := (blk2 HF.out.1).1
  have d1 : W.drew.cell? ⟨rb, 1, none⟩ = some (.slice ad C.length cd) := (blk2 HF.out.1).2.1
  have d0' : W.cell? ⟨rb, 0, none⟩ = some (.slice aa B.length ca) := d0
  have d1' : W.cell? ⟨rb, 1, none⟩ = some (.slice ad C.length cd) := d1
  have dA := fun o => (cell_on (Below.refl _ _) d0').2 o
  have dB := fun o => (cell_on (Below.refl _ _) d1').2 o
  have dAA := fun o o' => (cell_on (Below.refl _ _) (dA o)).2 o'
  have dBB := fun o o' => (cell_on (Below.refl _ _) (dB o)).2 o'
  have HRS : Hid (∀ w', Below W.heap.size W w' → Rd strE w' (.slice aa B.length ca) B) := Lib.hid fun w' h => (HH.out.1.below (by rw [HRB.out]; exact HF.out.2.2.1)).below h
  have HRP : Hid (∀ w', Below W.heap.size W w' → Rd pwE w' (.slice ad C.length cd) C) := Lib.hid fun w' h => (HH.out.2.below (by rw [HRB.out]; exact HF.out.2.2.1)).below h
  clear hrb
  go_region_law (first
    | ((refine step_copy rfl (.tmp 3) (.tmp 5) 37 rfl strT W.heap.size _ (.slice aa B.length ca) B rfl rfl ?_ ?_ (HRS.out _ ?_) hB (by decide) ?_;
        (first
          | exact alloc_new _ _
          | exact blk_keep (alloc_new _ _) _
          | exact heap_drew (alloc_new _ _)
          | exact heap_drew (blk_keep (alloc_new _ _) _)
          | exact hGp.block (heap_drew (alloc_new _ _)) (by simp [Value.ownBlock])
          | exact hGp.block (heap_drew (blk_keep (alloc_new _ _) _)) (by simp [Value.ownBlock])
          | exact hGp.block (alloc_new _ _) (by simp [Value.ownBlock])
          | exact hGp.block (blk_keep (alloc_new _ _) _) (by simp [Value.ownBlock])
          | exact (alloc2_heap _ _ _).2
          | exact heap_drew (alloc2_heap _ _ _).2
          | exact hGp.block (heap_drew (alloc2_heap _ _ _).2) (by simp [Value.ownBlock])
          | exact hGp.block (alloc2_heap _ _ _).2 (by simp [Value.ownBlock]));
        (first | exact Nat.le_refl _ | exact Nat.le_succ _ | exact szle (by repeat first | assumption | exact Below.refl _ _ | refine below_drew ?_ | refine below_all ?_ _));
        (repeat first | assumption | exact Below.refl _ _ | refine below_drew ?_ | refine below_all ?_ _);
        intro v' w3 hGs hsz1 hob1; obtain ⟨a1, n1, k1, rfl⟩ := hGs.1.any;
        have hbb1 : Below W.heap.size W w3 := hGs.below (by repeat first | assumption | exact Below.refl _ _ | refine below_drew ?_ | refine below_all ?_ _) hsz1 hob1;
        have eq10 := (blk2 (blk_on hbb1 HF.out.1)).1; have eq11 := (blk2 (blk_on hbb1 HF.out.1)).2.1;
        have eq1A := fun o => (cell_on (Below.refl _ _) eq10).2 o; have eq1B := fun o => (cell_on (Below.refl _ _) eq11).2 o;
        obtain ⟨kq10, kq11, pq10, pq11⟩ := blk2 (blk_on hbb1 HF.out.2.1)))
    | ((refine step_copy rfl (.tmp 7) (.tmp 9) 38 rfl pwT W.heap.size _ (.slice ad C.length cd) C rfl rfl ?_ ?_ (HRP.out _ ?_) hC (by decide) ?_;
        (first
          | exact alloc_new _ _
          | exact blk_keep (alloc_new _ _) _
          | exact heap_drew (alloc_new _ _)
          | exact heap_drew (blk_keep (alloc_new _ _) _)
          | exact hGs.block (heap_drew (alloc_new _ _)) (by simp [Value.ownBlock])
          | exact hGs.block (heap_drew (blk_keep (alloc_new _ _) _)) (by simp [Value.ownBlock])
          | exact hGs.block (alloc_new _ _) (by simp [Value.ownBlock])
          | exact hGs.block (blk_keep (alloc_new _ _) _) (by simp [Value.ownBlock])
          | exact (alloc2_heap _ _ _).2
          | exact heap_drew (alloc2_heap _ _ _).2
          | exact hGs.block (heap_drew (alloc2_heap _ _ _).2) (by simp [Value.ownBlock])
          | exact hGs.block (alloc2_heap _ _ _).2 (by simp [Value.ownBlock]));
        (first | exact Nat.le_refl _ | exact Nat.le_succ _ | exact szle (by repeat first | assumption | exact Below.refl _ _ | refine below_drew ?_ | refine below_all ?_ _));
        (repeat first | assumption | exact Below.refl _ _ | refine below_drew ?_ | refine below_all ?_ _);
        intro v' w4 hGp hsz2 hob2; obtain ⟨a2, n2, k2, rfl⟩ := hGp.1.any;
        have hbb2 : Below W.heap.size W w4 := hGp.below (by repeat first | assumption | exact Below.refl _ _ | refine below_drew ?_ | refine below_all ?_ _) hsz2 hob2;
        have eq20 := (blk2 (blk_on hbb2 HF.out.1)).1; have eq21 := (blk2 (blk_on hbb2 HF.out.1)).2.1;
        have eq2A := fun o => (cell_on (Below.refl _ _) eq20).2 o; have eq2B := fun o => (cell_on (Below.refl _ _) eq21).2 o;
        obtain ⟨kq20, kq21, pq20, pq21⟩ := blk2 (blk_on hbb2 HF.out.2.1))))
  all_goals first
  | (
    obtain ⟨S2, S3⟩ := grew_two (by first | exact hGs.1 | exact hGs.1.below (alloc_below _ _)) hGp (fun b e e2 => by
      simp [Value.ownBlock] at e2
      first
      | (have := hGs.1.own_lt e; omega)
      | (rcases hGs.2.2.1 with h | h
         · rw [h] at e; simp [Value.ownBlock] at e; omega
         · have := h b e; simp [World.drew] at this; omega))
    have hz := HF.out.2.2.2
    have S1' : Row strE ((w4.setCell ⟨rb + 1, 0, none⟩ (.slice a1 n1 k1)).setCell ⟨rb + 1, 1, none⟩ (.slice a2 n2 k2)) W.heap.size 9 (.slice a1 n1 k1) B := S2.keep fun b e => by
      have := (S2.lt e).1
      rw [set_ne _ (by omega), set_ne _ (by omega)]
    have S2' : Row pwE ((w4.setCell ⟨rb + 1, 0, none⟩ (.slice a1 n1 k1)).setCell ⟨rb + 1, 1, none⟩ (.slice a2 n2 k2)) W.heap.size 75 (.slice a2 n2 k2) C := hGp.1.keep fun b e => by
      have := (hGp.1.lt e).1
      rw [set_ne _ (by omega), set_ne _ (by omega)]
    have hbk := set_blk (set_blk (blk_on hbb2 HF.out.2.1) 0 (.slice a1 n1 k1)) 1 (.slice a2 n2 k2)
    have hbw : Below rb w ((w4.setCell ⟨rb + 1, 0, none⟩ (.slice a1 n1 k1)).setCell ⟨rb + 1, 1, none⟩ (.slice a2 n2 k2)) := ((HF.out.2.2.1.trans (hbb2.mono (by omega))).setCell (by simp) _).setCell (by simp) _
    have HX := Lib.hid (And.intro (S1'.down (B' := rb) (by omega)) (And.intro (S2'.down (B' := rb) (by omega)) (And.intro hbk (And.intro S3 hbw))))
    clear S1' S2' hbk hbw S2 S3
    go_simp
    go_wp2
    exact ret_blk Try.results26 rfl HX.out.2.2.1 Try.underlying40 rfl (by kernel_rfl) rfl (HR.out _ _ ⟨_, _, rfl, HX.out.1, HX.out.2.1, HX.out.2.2.2.1, HX.out.2.2.2.2⟩))
  | (trace_state; fail)
end Go.Proofs.Ytielmlnbjliacaa
