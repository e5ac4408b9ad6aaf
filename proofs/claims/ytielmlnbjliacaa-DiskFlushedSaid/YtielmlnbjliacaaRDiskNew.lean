/- The reference's disk: new. -/
import Derived.Test.YtielmlnbjliacaaRDiskFlush
import Derived.Test.YtielmlnbjliacaaDiskLoad
import Derived.Test.YtielmlnbjliacaaRFull4
import Derived.Test.YtielmlnbjliacaaTextPlain
namespace Go.Proofs.Ytielmlnbjliacaa
open Go.RowKit Ks
set_option linter.unusedVariables false

theorem eg_noughts : ∀ args w, (callFunc 31 args).run Try.prog w = .ok (.enter 31 args) w := fun _ _ => rfl

theorem rnew_no (m : Int) (w : World) (h : m < 8 ∨ 1024 < m) : Calls Try.prog 11 #[.int .i64 m] w fun e w' => e = .returned (.pointer none) ∧ w' = w := by
  refine calls_by fun R HR => ?_
  rcases h with h | h
  all_goals
    go_enter Try.func11, Try.ntmps11
    go_wp2
    exact HR.out _ _ ⟨rfl, rfl⟩

set_option maxHeartbeats 2000000 in
theorem rnew_any (m : Nat) (w : World) (h8 : 8 ≤ m) (h1024 : m ≤ 1024) : Calls Try.prog 11 #[.int .i64 m] w fun e w' => ∃ n vb, e = .returned (.pointer (some ⟨n, 0, none⟩)) ∧ RkAt w' n vb (.slice none 0 0) (newD m) ∧ Below w.heap.size w w' ∧ ∀ k, DF n vb (.slice none 0 0) k → w.heap.size ≤ k := by
  refine calls_by fun R HR => ?_
  have h8i : ¬ (m : Int) < 8 := by omega
  have h1024i : ¬ (1024 : Int) < (m : Int) := by omega
  have HM := Lib.hid (And.intro h8 h1024)
  clear h8 h1024
  obtain ⟨Z, hZ⟩ : ∃ Z, zerosS 4096 = Z := ⟨_, rfl⟩
  have HRC : Hid (∀ w : World, Calls Try.prog 31 #[.int .i64 4096] w fun e w' => ∃ v, e = .returned v ∧ (v = .string Z ∧ Below w.heap.size w w')) := Lib.hid fun w => (noughts_any 4096 w (by omega)).mono fun e w' ⟨h1, h2⟩ => ⟨_, h1, by rw [hZ], h2⟩
  have HZ := Lib.hid hZ
  clear hZ
  go_enter Try.func11, Try.ntmps11
  go_wp2_with fail
  have HF : Hid ((w.alloc (.cells #[.slice none 0 0, .slice none 0 0] 40)).heap[w.heap.size]? = some (.cells #[.slice none 0 0, .slice none 0 0] 40 (0, 0)) ∧ Row strE (w.alloc (.cells #[.slice none 0 0, .slice none 0 0] 40)) (w.heap.size + 1) 9 (.slice none 0 0) (List.replicate 0 Z) ∧ Below w.heap.size w (w.alloc (.cells #[.slice none 0 0, .slice none 0 0] 40))) := Lib.hid ⟨alloc_new _ _, Row.nil _ _ _, alloc_below _ _⟩
  generalize w.alloc (.cells #[.slice none 0 0, .slice none 0 0] 40) = W at *
  generalize hn : w.heap.size = n at *
  have HN := Lib.hid hn
  clear hn
  go_loopw [4] (fun i wx => ∃ (k : Nat) (vb : Value), k ≤ m ∧ i = .int .i64 k ∧ Hid (wx.heap[n]? = some (.cells #[vb, .slice none 0 0] 40 (0, 0)) ∧ Row strE wx (n + 1) 9 vb (List.replicate k Z) ∧ Below n w wx)) (fun i _ => m - (intOf i).toNat)
  case atStart => exact ⟨0, _, by omega, rfl, HF⟩
  case round =>
    clear HF
    obtain ⟨k, vb, hk, rfl, hN⟩ := hrel
    by_cases hlt : k < m
    · have hlti : (k : Int) < (m : Int) := by omega
      obtain ⟨c0, -, f0, -⟩ := blk2 hN.out.1
      obtain ⟨a0, cap0, hv0, _⟩ := hN.out.2.1.shape
      rw [List.length_replicate] at hv0
      subst hv0
      go_wp2_with fail
      have hnlt := lt_of_block hN.out.1
      have HN2 := Lib.hid hnlt
      have BLK : Hid (wr.drew.heap[n]? = some (.cells #[.slice a0 k cap0, .slice none 0 0] 40 (0, 0))) := Lib.hid hN.out.1
      have HNE : Hid ((Value.slice a0 k cap0).ownBlock ≠ some n) := Lib.hid fun e => by have := (hN.out.2.1.lt e).1; omega
      clear hnlt
      have d0 : wr.drew.cell? ⟨n, 0, none⟩ = some (.slice a0 k cap0) := c0
      go_region_law (first
        | ((refine step_call rfl 31 _ _ rfl eg_noughts #[.int .i64 4096] ?_ (HRC.out _) ?_; rfl; rintro v w1 ⟨rfl, hb1⟩; obtain ⟨e0, e1⟩ := cell_on hb1 d0))
        | ((refine step_append_row rfl (.tmp 17) (.tmp 19) 37 rfl strT (n + 1) _ _ (List.replicate k Z) [Z] (by simp [Act.eval]) (by simp [Act.eval]) (((hN.out.2.1.below (drew_below _)).below hb1).below (alloc_below _ _)) (Rd.single (E := strE) Z (alloc_new _ _) rfl) (Nat.le_trans (show n + 1 ≤ wr.drew.heap.size from HN2.out) (Nat.le_trans hb1.size (by simp))) (by simp; have := HM.out.2; omega) (by decide) ?_; intro v' w3 hG; obtain ⟨a2, n2, cap2, rfl⟩ := hG.1.any; have hbn := hG.block (blk_keep ((hb1.block n (show n < wr.drew.heap.size from HN2.out)).trans BLK.out) _) HNE.out; have k0 := (blk2 hbn).1; have g0 := frozen_of_row w3 n 0 _ _ hbn)))
      all_goals
        have hbw : Below n w w1 := (hN.out.2.2.trans ((drew_below wr).mono (Nat.le_of_lt HN2.out))).trans (hb1.mono (Nat.le_of_lt HN2.out))
        have HQ := Lib.hid (And.intro (set_blk hbn 0 (.slice a2 n2 cap2)) (And.intro (hG.1.keep (w' := w3.setCell ⟨n, 0, none⟩ (.slice a2 n2 cap2)) fun b e => by have := (hG.1.lt e).1; exact set_ne _ (by omega)) ((hG.below (hbw.alloc (Nat.le_trans (Nat.le_of_lt HN2.out) hb1.size) _) (Nat.le_trans (Nat.le_of_lt HN2.out) (Nat.le_trans hb1.size (by simp))) (fun b e => by have := (hN.out.2.1.lt e).1; omega)).setCell (p := ⟨n, 0, none⟩) (Nat.le_refl _) (.slice a2 n2 cap2))))
        clear hbw
        go_wp2_with fail
        go_roundw
        case' rel => exact ⟨k + 1, _, by omega, by go_num, by rw [repl_succ]; exact HQ⟩
        case' measure => simp [intOf]; omega
    · obtain rfl : k = m := by omega
      obtain ⟨c0, c1, f0, -⟩ := blk2 hN.out.1
      have HNL := Lib.hid (lt_of_block hN.out.1)
      go_wp2
      have hA := alloc_below wr (.cells #[vb, .slice none 0 0, .bool false, .int .i64 0] 64)
      refine HR.out _ _ ⟨wr.heap.size, vb, rfl, ⟨alloc_new _ _, ?_, Row.nil _ _ _, ?_, by simp [Value.ownBlock], fun b e => by simp [Value.ownBlock], newD_ok _ HM.out.2⟩, ?_, ?_⟩
      · rw [newD, ← zeros4096, HZ.out]; exact (hN.out.2.1.down (Nat.zero_le _)).below hA
      · intro e; have := hN.out.2.1.own_lt e; omega
      · exact hN.out.2.2.alloc (by have := HNL.out; omega) _
      · intro k hk
        have := HNL.out
        rcases hk with rfl | e | e
        · omega
        · have := (hN.out.2.1.lt e).1; omega
        · simp [Value.ownBlock] at e
end Go.Proofs.Ytielmlnbjliacaa
