/- The program's disk: new. -/
import Derived.Test.YtielmlnbjliacaaDiskFlush
import Derived.Test.YtielmlnbjliacaaTextPlain
import Derived.Test.YtielmlnbjliacaaShelf
import Derived.Test.YtielmlnbjliacaaStepCall
import Derived.Deep.RegionLaw
namespace Ks
open Go Go.RowKit
set_option linter.unusedVariables false
theorem zeros4096 : zerosS 4096 = ⟨(List.replicate 4096 0).toArray⟩ := rfl
theorem repl_succ {α : Type} (k : Nat) (x : α) : List.replicate (k + 1) x = List.replicate k x ++ [x] := List.replicate_succ'
theorem blk5 {w : World} {b : Nat} {c0 c1 c2 c3 c4 : Value} {T : TypeId} (h : w.heap[b]? = some (.cells #[c0, c1, c2, c3, c4] T (0, 0))) : w.cell? ⟨b, 0, none⟩ = some c0 ∧ w.cell? ⟨b, 1, none⟩ = some c1 := ⟨by rw [cell_of_row w b 0 _ _ _ h]; rfl, by rw [cell_of_row w b 1 _ _ _ h]; rfl⟩
end Ks
namespace Go.Proofs.Ytielmlnbjliacaa
open Go.RowKit Ks
set_option linter.unusedVariables false

theorem eg_repeat : ∀ args w, (callFunc 30 args).run Try.prog w = .ok (.enter 30 args) w := fun _ _ => rfl
theorem repeat4096 (w : World) : Calls Try.prog 30 #[.string ⟨#[0]⟩, .int .i64 4096] w fun e w' => e = .returned (.string (zerosS 4096)) ∧ Below w.heap.size w w' :=
  (Try.strings_Repeat ⟨#[0]⟩ 4096 w (by decide) (by decide)).mono fun e w' ⟨h1, h2⟩ => ⟨by rw [h1, repeat_zeros]; rfl, h2⟩

theorem dnew_err (m : Int) (w : World) (h : m < 8 ∨ 1024 < m) : Calls Try.prog 10 #[.int .i64 m] w fun e w' => e = .returned (.tuple #[.pointer none, .int .i64 2]) ∧ w' = w := by
  rcases h with h | h
  all_goals
    go_enter Try.func10, Try.ntmps10
    go_wp2
    go_ret2
    exact ⟨rfl, rfl⟩

set_option maxHeartbeats 2000000 in
theorem dnew_any (m : Nat) (w : World) (h8 : 8 ≤ m) (h1024 : m ≤ 1024) : Calls Try.prog 10 #[.int .i64 m] w fun e w' => ∃ n vb, e = .returned (.tuple #[.pointer (some ⟨n, 0, none⟩), .int .i64 0]) ∧ DkAt w' n vb (.slice none 0 0) (newD m) ∧ Below w.heap.size w w' ∧ ∀ k, DF n vb (.slice none 0 0) k → w.heap.size ≤ k := by
  refine calls_by fun R HR => ?_
  have h8i : ¬ (m : Int) < 8 := by omega
  have h1024i : ¬ (1024 : Int) < (m : Int) := by omega
  have HM := Lib.hid (And.intro h8 h1024)
  clear h8 h1024
  obtain ⟨Z, hZ⟩ : ∃ Z, zerosS 4096 = Z := ⟨_, rfl⟩
  have HR4 : Hid (∀ w : World, Calls Try.prog 30 #[.string ⟨#[0]⟩, .int .i64 4096] w fun e w' => e = .returned (.string Z) ∧ Below w.heap.size w w') := Lib.hid fun w => by rw [← hZ]; exact repeat4096 w
  have HRC : Hid (∀ w : World, Calls Try.prog 30 #[.string ⟨#[0]⟩, .int .i64 4096] w fun e w' => ∃ v, e = .returned v ∧ (v = .string Z ∧ Below w.heap.size w w')) := Lib.hid fun w => (HR4.out w).mono fun e w' ⟨h1, h2⟩ => ⟨_, h1, rfl, h2⟩
  have HZ := Lib.hid hZ
  clear hZ
  go_enter Try.func10, Try.ntmps10
  go_wp2_with fail
  have HF : Hid (DkAt (w.alloc (.cells #[.slice none 0 0, .slice none 0 0, .bool true, .bool false, .int .i64 0] 48)) w.heap.size (.slice none 0 0) (.slice none 0 0) ⟨List.replicate 0 Z, [], false, 0⟩ ∧ Below w.heap.size w (w.alloc (.cells #[.slice none 0 0, .slice none 0 0, .bool true, .bool false, .int .i64 0] 48)) ∧ ∀ k, DF w.heap.size (.slice none 0 0) (.slice none 0 0) k → w.heap.size ≤ k) := Lib.hid
    ⟨⟨alloc_new _ _, Row.nil _ _ _, Row.nil _ _ _, by simp [Value.ownBlock], by simp [Value.ownBlock], by simp [Value.ownBlock], ⟨Nat.zero_le _, Nat.zero_le _, (fun p hp => by cases hp), Nat.zero_le _⟩⟩, alloc_below _ _, fun k hk => by
      rcases hk with rfl | e | e
      · exact Nat.le_refl _
      · simp [Value.ownBlock] at e
      · simp [Value.ownBlock] at e⟩
  generalize w.alloc (.cells #[.slice none 0 0, .slice none 0 0, .bool true, .bool false, .int .i64 0] 48) = W at *
  generalize hn : w.heap.size = n at *
  have HN := Lib.hid hn
  clear hn
  go_loopw [14] (fun i wx => ∃ (k : Nat) (vb : Value), k ≤ m ∧ i = .int .i64 k ∧ Hid (DkAt wx n vb (.slice none 0 0) ⟨List.replicate k Z, [], false, 0⟩ ∧ Below n w wx ∧ ∀ k, DF n vb (.slice none 0 0) k → n ≤ k)) (fun i _ => m - (intOf i).toNat)
  case atStart => exact ⟨0, _, by omega, rfl, HF⟩
  case round =>
    clear HF
    obtain ⟨k, vb, hk, rfl, hN⟩ := hrel
    by_cases hlt : k < m
    · have hlti : (k : Int) < (m : Int) := by omega
      have c0 := hN.out.1.cells.1
      have f0 := hN.out.1.froz 0
      obtain ⟨a0, cap0, hv0, _⟩ := hN.out.1.rb.shape
      change vb = .slice a0 (List.replicate k Z).length cap0 at hv0
      rw [List.length_replicate] at hv0
      rw [hv0] at c0
      have HV := Lib.hid hv0
      clear hv0
      go_wp2_with fail
      have HRow := Lib.hid (show Row strE wr 0 9 (.slice a0 k cap0) (List.replicate k Z) by rw [← HV.out]; exact hN.out.1.rb)
      have hnlt := lt_of_block hN.out.1.blk
      have HN2 := Lib.hid hnlt
      have BLK : Hid (wr.drew.heap[n]? = some (.cells #[.slice a0 k cap0, .slice none 0 0, .bool true, .bool false, .int .i64 0] 48 (0, 0))) := Lib.hid (by rw [← HV.out]; exact hN.out.1.blk)
      have HNE : Hid ((Value.slice a0 k cap0).ownBlock ≠ some n) := Lib.hid (by rw [← HV.out]; exact hN.out.1.nb)
      clear hnlt
      have d0 : wr.drew.cell? ⟨n, 0, none⟩ = some (.slice a0 k cap0) := c0
      go_region_law (first
        | ((refine step_call rfl 30 _ _ rfl eg_repeat #[.string ⟨#[0]⟩, .int .i64 4096] ?_ (HRC.out _) ?_; rfl; rintro v w1 ⟨rfl, hb1⟩; obtain ⟨e0, e1⟩ := cell_on hb1 d0))
        | ((refine step_append_row rfl (.tmp 21) (.tmp 23) 37 rfl strT 0 _ _ (List.replicate k Z) [Z] (by simp [Act.eval]) (by simp [Act.eval]) (((HRow.out.below (drew_below _)).below hb1).below (alloc_below _ _)) (Rd.single (E := strE) Z (alloc_new _ _) rfl) (Nat.zero_le _) (by simp; have := HM.out.2; omega) (by decide) ?_; intro v' w3 hG; obtain ⟨a2, n2, cap2, rfl⟩ := hG.1.any; have hbn := hG.block (blk_keep ((hb1.block n (show n < wr.drew.heap.size from HN2.out)).trans BLK.out) _) HNE.out; have k0 := (blk5 hbn).1; have g0 := frozen_of_row w3 n 0 _ _ hbn)))
      all_goals
        have hN3 : DkAt w1 n vb (.slice none 0 0) ⟨List.replicate k Z, [], false, 0⟩ := (hN.out.1.below (drew_below _)).below hb1
        rw [HV.out] at hN3
        obtain ⟨q1, q2⟩ := hN3.appendB _ hG ⟨by show (List.replicate k Z ++ [Z]).length ≤ _; simp; have := HM.out.2; omega, Nat.zero_le _, (fun p hp => by cases hp), Nat.zero_le _⟩
        have HQ := Lib.hid (And.intro q1 (And.intro (((hN.out.2.1.trans ((drew_below wr).mono (Nat.le_of_lt HN2.out))).trans (hb1.mono (Nat.le_of_lt HN2.out))).trans (q2.below (B := n) (by rw [← HV.out]; exact hN.out.2.2) (Nat.le_trans (Nat.le_of_lt HN2.out) hb1.size))) (q2.low (B := n) (by rw [← HV.out]; exact hN.out.2.2) (Nat.le_trans (Nat.le_of_lt HN2.out) hb1.size))))
        clear q1 q2 hN3
        go_wp2_with fail
        go_roundw
        case' rel => exact ⟨k + 1, _, by omega, by go_num, by rw [repl_succ]; exact HQ⟩
        case' measure => simp [intOf]; omega
    · obtain rfl : k = m := by omega
      go_wp2
      exact HR.out _ _ ⟨n, vb, rfl, by rw [newD, ← zeros4096, HZ.out]; exact hN.out.1, hN.out.2.1, hN.out.2.2⟩
end Go.Proofs.Ytielmlnbjliacaa
