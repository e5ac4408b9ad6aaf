/- The program's disk: copies of its rows; what is seized; a disk out of an image. -/
import Derived.Test.YtielmlnbjliacaaDiskNew
import Derived.WalkSpells
import Derived.WalkLawsBesides
namespace Ks
open Go Go.RowKit
set_option linter.unusedVariables false
theorem below_on {w W w1 : World} (h : Below w.heap.size w W) (hb : Below W.heap.size W w1) : Below w.heap.size w w1 := h.trans (hb.mono h.size)
end Ks
namespace Go.Proofs.Ytielmlnbjliacaa
open Go.RowKit Ks
set_option linter.unusedVariables false
variable {n : Nat} {vb vc : Value} {s : DS}

set_option maxHeartbeats 1000000 in
theorem dclone_str (lv : Value) (l : List ByteArray) (w : World) (hl : Rd strE w lv l) (hlen : l.length ≤ 1000000) :
    Calls Try.prog 44 #[lv] w fun e w' => ∃ v', e = .returned v' ∧ Row strE w' w.heap.size 9 v' l ∧ Below w.heap.size w w' := by
  refine calls_by fun R HR => ?_
  have HL := Lib.hid hl
  have q22 : ∀ (w : World) (a : Option Addr) (n c n' c' : Nat), (binOp .eql 37 (.slice a n c) (.slice none n' c')).run Try.prog w = .ok (.bool a.isNone) w := fun w a n c n' c' => Lib.run_eql_slice_nil w _ _ a n c n' c' Try.underlying37
  obtain ⟨a, cap, rfl, hcap, hnone⟩ := hl.shape
  cases a with
  | none =>
    have hc0 := hnone rfl
    have : l = [] := List.length_eq_zero_iff.1 (by omega)
    subst this
    clear hnone hl
    subst hc0
    go_enter Try.func44, Try.ntmps44
    go_wp2
    exact HR.out _ _ ⟨_, rfl, Row.nil _ _ _, Below.refl _ _⟩
  | some ad =>
    clear hnone hl
    obtain ⟨W1, hW1⟩ : ∃ W1, w.alloc (.cells #[] 9) = W1 := ⟨_, rfl⟩
    have hb1 : Below w.heap.size w W1 := by rw [← hW1]; exact alloc_below w _
    have hrow : Row strE W1 w.heap.size 9 (.slice (some ⟨w.heap.size, 0, none⟩) 0 0) [] := by rw [← hW1]; exact Row.made w _ _ (Nat.le_refl _)
    have H1 := Lib.hid (And.intro hb1 (And.intro hrow (HL.out.below hb1)))
    clear hb1 hrow
    go_enter Try.func44, Try.ntmps44
    go_wp2_with (at_builtin; refine wpList_append_row _ rfl _ _ 37 rfl strT w.heap.size _ _ [] l rfl rfl H1.out.2.1 H1.out.2.2 H1.out.1.size (by simp; omega) (by decide) ?_)
    intro v' w2 hG
    have HG := Lib.hid hG
    clear hG
    go_wp2
    exact HR.out _ _ ⟨v', rfl, HG.out.1, HG.out.below H1.out.1 H1.out.1.size (fun b hb => by simp [Value.ownBlock] at hb; omega)⟩

set_option maxHeartbeats 1000000 in
theorem dclone_put (lv : Value) (l : List PutT) (w : World) (hl : Rd pwE w lv l) (hlen : l.length ≤ 1000000) :
    Calls Try.prog 45 #[lv] w fun e w' => ∃ v', e = .returned v' ∧ Row pwE w' w.heap.size 75 v' l ∧ Below w.heap.size w w' := by
  refine calls_by fun R HR => ?_
  have HL := Lib.hid hl
  have q22 : ∀ (w : World) (a : Option Addr) (n c n' c' : Nat), (binOp .eql 38 (.slice a n c) (.slice none n' c')).run Try.prog w = .ok (.bool a.isNone) w := fun w a n c n' c' => Lib.run_eql_slice_nil w _ _ a n c n' c' Try.underlying38
  obtain ⟨a, cap, rfl, hcap, hnone⟩ := hl.shape
  cases a with
  | none =>
    have hc0 := hnone rfl
    have : l = [] := List.length_eq_zero_iff.1 (by omega)
    subst this
    clear hnone hl
    subst hc0
    go_enter Try.func45, Try.ntmps45
    go_wp2
    exact HR.out _ _ ⟨_, rfl, Row.nil _ _ _, Below.refl _ _⟩
  | some ad =>
    clear hnone hl
    obtain ⟨W1, hW1⟩ : ∃ W1, w.alloc (.cells #[] 75) = W1 := ⟨_, rfl⟩
    have hb1 : Below w.heap.size w W1 := by rw [← hW1]; exact alloc_below w _
    have hrow : Row pwE W1 w.heap.size 75 (.slice (some ⟨w.heap.size, 0, none⟩) 0 0) [] := by rw [← hW1]; exact Row.made w _ _ (Nat.le_refl _)
    have H1 := Lib.hid (And.intro hb1 (And.intro hrow (HL.out.below hb1)))
    clear hb1 hrow
    go_enter Try.func45, Try.ntmps45
    go_wp2_with (at_builtin; refine wpList_append_row _ rfl _ _ 38 rfl pwT w.heap.size _ _ [] l rfl rfl H1.out.2.1 H1.out.2.2 H1.out.1.size (by simp; omega) (by decide) ?_)
    intro v' w2 hG
    have HG := Lib.hid hG
    clear hG
    go_wp2
    exact HR.out _ _ ⟨v', rfl, HG.out.1, HG.out.below H1.out.1 H1.out.1.size (fun b hb => by simp [Value.ownBlock] at hb; omega)⟩

theorem eg_cs : ∀ args w, (callFunc 44 args).run Try.prog w = .ok (.enter 44 args) w := fun _ _ => rfl
theorem eg_cp : ∀ args w, (callFunc 45 args).run Try.prog w = .ok (.enter 45 args) w := fun _ _ => rfl

set_option maxHeartbeats 2000000 in
theorem dseize_any (w : World) (h : DkAt w n vb vc s) : Calls Try.prog 15 #[.pointer (some ⟨n, 0, none⟩)] w fun e w' => ∃ va vd, e = .returned (.agg #[va, vd]) ∧ Rd strE w' va s.blocks ∧ Rd pwE w' vd s.cache ∧ Below w.heap.size w w' := by
  refine calls_by fun R HR => ?_
  have HH := Lib.hid h
  have hbl := h.ok.blocks
  have hcl := h.ok.cache
  obtain ⟨c0, c1, c2, c3, c4⟩ := h.cells
  clear h c3 c4
  go_enter Try.func15, Try.ntmps15
  go_wp2_with fail
  obtain ⟨W, hW⟩ : ∃ W, w.alloc (.cells #[.slice none 0 0, .slice none 0 0] 40) = W := ⟨_, rfl⟩
  rw [hW]
  have hb0 : Below w.heap.size w W := by rw [← hW]; exact alloc_below _ _
  have hblk : W.heap[w.heap.size]? = some (.cells #[.slice none 0 0, .slice none 0 0] 40 (0, 0)) := by rw [← hW]; exact alloc_new _ _
  have HB0 := Lib.hid (And.intro hb0 hblk)
  have k2 := (hb0.cell (p := ⟨n, 2, none⟩) (lt_of_block HH.out.blk)).trans c2
  have k0 := (hb0.cell (p := ⟨n, 0, none⟩) (lt_of_block HH.out.blk)).trans c0
  have k1 := (hb0.cell (p := ⟨n, 1, none⟩) (lt_of_block HH.out.blk)).trans c1
  have HT := Lib.hid (dthere_yes n W k2)
  generalize hrb : w.heap.size = rb at *
  have HRB := Lib.hid hrb
  clear hW hb0 hblk c0 c1 c2 k2 hrb
  refine HT.out.mono ?_
  rintro e w1 ⟨rfl, rfl⟩
  have HCB : Hid (∀ W', Below w1.heap.size w1 W' → Calls Try.prog 44 #[vb] W' fun e w' => ∃ v', e = .returned v' ∧ (Row strE w' W'.heap.size 9 v' s.blocks ∧ Below W'.heap.size W' w')) := Lib.hid fun W' hb => dclone_str _ _ _ ((HH.out.rb.rd.below (by rw [HRB.out]; exact HB0.out.1)).below hb) (by omega)
  have HCC : Hid (∀ W', Below w1.heap.size w1 W' → Calls Try.prog 45 #[vc] W' fun e w' => ∃ v', e = .returned v' ∧ (Row pwE w' W'.heap.size 75 v' s.cache ∧ Below W'.heap.size W' w')) := Lib.hid fun W' hb => dclone_put _ _ _ ((HH.out.rc.rd.below (by rw [HRB.out]; exact HB0.out.1)).below hb) (by omega)
  clear hbl hcl
  go_wp2_with fail
  have d0 : w1.drew.cell? ⟨n, 0, none⟩ = some vb := k0
  have d1 : w1.drew.cell? ⟨n, 1, none⟩ = some vc := k1
  have hbb0 := drew_below w1
  have hbk0 : w1.drew.heap[rb]? = some (.cells #[.slice none 0 0, .slice none 0 0] 40 (0, 0)) := HB0.out.2
  clear k0 k1
  go_region_law (first
    | ((refine step_call rfl 44 _ _ rfl eg_cs #[vb] ?_ (HCB.out _ ?_) ?_; rfl; assumption; rintro v w2 ⟨hr1, hb1⟩; obtain ⟨a1, n1, k1, rfl⟩ := hr1.any; have hbk1 := blk_on (b := rb) (o := .cells #[.slice none 0 0, .slice none 0 0] 40 (0, 0)) hb1 (by assumption); obtain ⟨g10, g11, p10, p11⟩ := blk2 hbk1; have hbb1 := below_on (w := w1) (by assumption) hb1; obtain ⟨e0, -⟩ := cell_on (n := n) (o := 0) hb1 (by assumption); obtain ⟨e1, -⟩ := cell_on (n := n) (o := 1) hb1 (by assumption)))
    | ((refine step_call rfl 45 _ _ rfl eg_cp #[vc] ?_ (HCC.out _ ?_) ?_; rfl; assumption; rintro v w2 ⟨hr2, hb2⟩; obtain ⟨a2, n2, k2, rfl⟩ := hr2.any; have hbk2 := blk_on (b := rb) (o := .cells #[.slice none 0 0, .slice none 0 0] 40 (0, 0)) hb2 (by assumption); obtain ⟨g20, g21, p20, p21⟩ := blk2 hbk2; have hbb2 := below_on (w := w1) (by assumption) hb2; obtain ⟨f0, -⟩ := cell_on (n := n) (o := 0) hb2 (by assumption); obtain ⟨f1, -⟩ := cell_on (n := n) (o := 1) hb2 (by assumption))))
  all_goals first
  | (
    have R1 : Row strE w2 w1.heap.size 9 (.slice a1 n1 k1) s.blocks := by first | exact (hr1.below hb2).down (Nat.le_refl _) | exact hr1.down hbb2.size
    have R2 : Row pwE w2 w1.heap.size 75 (.slice a2 n2 k2) s.cache := by first | exact (hr2.below hb1).down (Nat.le_refl _) | exact hr2.down hbb1.size
    have hbf : Below w1.heap.size w1 w2 := by first | exact hbb2 | exact hbb1
    have hrl := lt_of_block HB0.out.2
    have hbkf : w2.heap[rb]? = some (.cells #[.slice none 0 0, .slice none 0 0] 40 (0, 0)) := by first | exact hbk2 | exact hbk1
    have R1' : Row strE ((w2.setCell ⟨rb, 0, none⟩ (.slice a1 n1 k1)).setCell ⟨rb, 1, none⟩ (.slice a2 n2 k2)) w1.heap.size 9 (.slice a1 n1 k1) s.blocks := R1.keep fun b e => by
      have := (R1.lt e).1
      rw [set_ne _ (by omega), set_ne _ (by omega)]
    have R2' : Row pwE ((w2.setCell ⟨rb, 0, none⟩ (.slice a1 n1 k1)).setCell ⟨rb, 1, none⟩ (.slice a2 n2 k2)) w1.heap.size 75 (.slice a2 n2 k2) s.cache := R2.keep fun b e => by
      have := (R2.lt e).1
      rw [set_ne _ (by omega), set_ne _ (by omega)]
    have hbk := set_blk (set_blk hbkf 0 (.slice a1 n1 k1)) 1 (.slice a2 n2 k2)
    have hbw : Below rb w ((w2.setCell ⟨rb, 0, none⟩ (.slice a1 n1 k1)).setCell ⟨rb, 1, none⟩ (.slice a2 n2 k2)) := ((HB0.out.1.trans (hbf.mono (by omega))).setCell (Nat.le_refl _) _).setCell (Nat.le_refl _) _
    have HX := Lib.hid (And.intro R1'.rd (And.intro R2'.rd (And.intro hbk hbw)))
    clear R1 R2 R1' R2' hbk hbw
    go_wp2
    exact ret_blk Try.results15 rfl HX.out.2.2.1 Try.underlying40 rfl (by kernel_rfl) rfl (HR.out _ _ ⟨_, _, rfl, HX.out.1, HX.out.2.1, HX.out.2.2.2⟩))
  | (trace_state; fail)
theorem dseize_no (v : Value) (w : World) (hv : DeadDisk w v) : Calls Try.prog 15 #[v] w fun e w' => e = .returned (.agg #[.slice none 0 0, .slice none 0 0]) ∧ Below w.heap.size w w' := by
  refine calls_by fun R HR => ?_
  go_enter Try.func15, Try.ntmps15
  go_wp2_with fail
  have hv2 : DeadDisk (w.alloc (.cells #[.slice none 0 0, .slice none 0 0] 40)) v := by
    rcases hv with h | ⟨n, h1, h2⟩
    · exact Or.inl h
    · exact Or.inr ⟨n, h1, ((alloc_below w _).cell (p := ⟨n, 2, none⟩) (World.block_lt_of_cell? w _ h2)).trans h2⟩
  refine (dthere_no v _ hv2).mono ?_
  rintro e w1 ⟨rfl, rfl⟩
  clear hv hv2
  go_wp2
  exact ret_blk Try.results15 rfl (alloc_new _ _) Try.underlying40 rfl (by kernel_rfl) rfl (HR.out _ _ ⟨rfl, alloc_below _ _⟩)
end Go.Proofs.Ytielmlnbjliacaa
