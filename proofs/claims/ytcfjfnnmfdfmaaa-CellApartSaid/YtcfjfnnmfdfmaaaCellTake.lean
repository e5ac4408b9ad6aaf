/- Which cell any bytes are: cell.Take. -/
import Derived.Test.YtcfjfnnmfdfmaaaCellPut
import Derived.Test.YtcfjfnnmfdfmaaaCellPlain3
import Derived.Test.YtcfjfnnmfdfmaaaOctetUnpack
import Derived.Test.YtcfjfnnmfdfmaaaOctetCutP
namespace Go.Proofs.Ytcfjfnnmfdfmaaa
open Go.RowKit Ks
set_option linter.unusedVariables false

set_option maxHeartbeats 2000000 in
set_option maxRecDepth 100000 in
theorem ctake_any (b : ByteArray) (w : World) (hbz : b.size ≤ 9223372036854775807) :
    Calls Try.prog 14 #[.string b] w fun en w' => en = .returned (.tuple #[takeV b, .int .i64 (takeE b)]) ∧ Below w.heap.size w w' := by
  refine calls_by fun R HR => ?_
  by_cases hb : b.size = 4096
  case neg =>
    have hf : ¬ takeOk b = true := by simp only [takeOk, decide_eq_true_eq]; exact fun h => hb h.1
    obtain ⟨q1, q2⟩ := take_no b hf
    have hbb : ((b.size : Int) != 4096) = true := by simp; omega
    have Q1 := Lib.hid q1
    have Q2 := Lib.hid q2
    clear q1 q2 hf hb
    go_enter Try.func14, Try.ntmps14
    go_wp2
    refine bodyPost_ret (v := .tuple #[noCell, .int .i64 3]) (by simp [results, Try.results14, go_sem, noCell]) rfl ?_
    exact HR.out _ _ ⟨by rw [Q1.out, Q2.out], (Below.refl _ _).alloc (Nat.le_refl _) _⟩
  have hbb : ((b.size : Int) != 4096) = false := by simp [hb]
  obtain ⟨u1, u2⟩ := unpack_cell b hb
  have U1 := Lib.hid u1
  have U2 := Lib.hid u2
  have Hb := Lib.hid hb
  have hb2 : 4096 ≤ b.size := by omega
  have hb3 : b.size ≤ 4096 := by omega
  have hb13 : (13 : Int) ≤ (b.size : Int) := by omega
  clear u1 u2 hb hbz
  go_enter Try.func14, Try.ntmps14
  go_wp2_with fail
  go_region_held3 (fun w' => True)
    (first | trivial | go_keep)
    (first
      | (go_at_call 22; refine (widths_any _).mono ?_; rintro en w2 ⟨rfl, rfl⟩)
      | (go_at_call 29; refine (unpack_any _ [1, 4, 4, 4] _ _ (RdI.block _ 3 (0, 0) 4 rfl (by decide) (by exact heap_alloc2_new _ _ _)) (by decide) (by simp; omega)).mono ?_; rintro en w3 ⟨v, rfl, hr, hb3⟩; rw [U1.out]; rw [U2.out] at hr; have HR3 := Lib.hid hr; clear hr))
  all_goals
    have hA := Below.trans ((((Below.refl (w.heap.size + 1) (w.alloc (.cells #[.int .i64 0, .int .i64 0, .int .i64 0, .bool false, .string ⟨#[]⟩] 23))).alloc (by simp) _)).drew) (hb3.mono (by simp))
    have hB := Below.trans ((Below.refl w.heap.size w).alloc (Nat.le_refl _) _) (hA.mono (by omega))
    have hz3 : w.heap.size + 1 ≤ w3.heap.size := by have := hA.size; simpa using this
    have blk : w3.heap[w.heap.size]? = some (.cells #[.int .i64 0, .int .i64 0, .int .i64 0, .bool false, .string ⟨#[]⟩] 23 (0, 0)) := (hA.block _ (by omega)).trans (heap_alloc_new w _)
    clear hb3 hA
    have z0 := cell_of_row w3 w.heap.size 0 _ _ _ blk
    have z1 := cell_of_row w3 w.heap.size 1 _ _ _ blk
    have z2 := cell_of_row w3 w.heap.size 2 _ _ _ blk
    have z3 := cell_of_row w3 w.heap.size 3 _ _ _ blk
    have z4 := cell_of_row w3 w.heap.size 4 _ _ _ blk
    have f0 := frozen_of_row w3 w.heap.size 0 _ _ blk
    have f1 := frozen_of_row w3 w.heap.size 1 _ _ blk
    have f2 := frozen_of_row w3 w.heap.size 2 _ _ blk
    have f3 := frozen_of_row w3 w.heap.size 3 _ _ blk
    have f4 := frozen_of_row w3 w.heap.size 4 _ _ blk
    simp at z0 z1 z2 z3 z4
    clear blk
    go_wp2_with fail
    refine (cut_any _ _ (by simp; omega)).mono ?_
    rintro en w4 ⟨rfl, hb4⟩
    have hB4 := hB.trans (hb4.mono hB.size)
    have hz4 : w.heap.size < w4.heap.size := by have := hb4.size; omega
    obtain ⟨hc4, hf4⟩ := bcells hb4
    rw [← hc4 _ _ (by omega)] at z0 z1 z2 z3 z4
    rw [← hf4 _ _ (by omega)] at f0 f1 f2 f3 f4
    have HR4 := Lib.hid (HR3.out.below hb4)
    clear hc4 hf4 hb4 hB
    by_cases hc : cutOk (b.extract 13 b.size) = true
    · have he : cutE (b.extract 13 b.size) = 0 := by rw [cutE, if_pos hc]
      rw [he]
      have Hc := Lib.hid hc
      clear hc he
      obtain ⟨bL, oL, cL, rfl, hbL, l0, l1, l2, l3⟩ := RdI.four HR4.out
      have hG : ((numAt b 0 1 : Int) == 2) = takeG b := takeG_int b
      go_wp2_with fail
      go_region_held3 (fun w' => w'.cell? ⟨bL, oL, none⟩ = some (.int .i64 (numAt b 0 1 : Int)) ∧ w'.cell? ⟨bL, oL + 1, none⟩ = some (.int .i64 (numAt b 1 4 : Int)) ∧ w'.cell? ⟨bL, oL + 2, none⟩ = some (.int .i64 (numAt b 5 4 : Int)) ∧ w'.cell? ⟨bL, oL + 3, none⟩ = some (.int .i64 (numAt b 9 4 : Int)))
        (first | go_keep)
        (first | fail)
      all_goals
        go_wp2_with fail
        refine (cput_any _ _ _ _ _ _).mono ?_
        rintro en w5 ⟨rfl, hb5⟩
        have hA5 := Below.trans (((Below.refl w4.heap.size w4).alloc (Nat.le_refl _) _).drew) (hb5.mono (by simp))
        have hB5 := hB4.trans (hA5.mono hB4.size)
        obtain ⟨hc5, hf5⟩ := bcells hA5
        have blk5 := hb5.block w4.heap.size (by simp)
        rw [← hc5 _ _ hz4] at z0 z1 z2 z3 z4
        rw [← hf5 _ _ hz4] at f0 f1 f2 f3 f4
        rw [show ∀ o, ((w4.alloc o).drew).heap[w4.heap.size]? = some o from fun o => heap_alloc_new w4 o] at blk5
        have y0 := cell_of_row w5 w4.heap.size 0 _ _ _ blk5
        have y1 := cell_of_row w5 w4.heap.size 1 _ _ _ blk5
        have y2 := cell_of_row w5 w4.heap.size 2 _ _ _ blk5
        have y3 := cell_of_row w5 w4.heap.size 3 _ _ _ blk5
        have y4 := cell_of_row w5 w4.heap.size 4 _ _ _ blk5
        simp only [List.getElem?_toArray, List.getElem?_cons_zero, List.getElem?_cons_succ] at y0 y1 y2 y3 y4
        clear hA5 hb5 hc5 hf5 blk5 l0 l1 l2 l3 hB4
        by_cases hok : cellOk (numAt b 1 4) (numAt b 5 4) (numAt b 9 4) (takeG b) (takeT b) = true
        · have he : cellE (numAt b 1 4) (numAt b 5 4) (numAt b 9 4) (takeG b) (takeT b) = 0 := by rw [cellE, if_pos hok]
          have Hok := Lib.hid hok
          clear hok
          by_cases heq : cellS (numAt b 1 4) (numAt b 5 4) (numAt b 9 4) (takeG b) (takeT b) = b
          · have hf : takeOk b = true := by simp only [takeOk, decide_eq_true_eq]; exact ⟨Hb.out, Hc.out, Hok.out, heq⟩
            obtain ⟨q1, q2⟩ := take_yes b hf
            have Q1 := Lib.hid q1
            have Q2 := Lib.hid q2
            rw [show cutA (b.extract 13 b.size) = takeT b from rfl] at *
            rw [he, heq]
            clear q1 q2 hf heq he
            go_wp2
            refine bodyPost_ret (v := .tuple #[cellV (numAt b 1 4) (numAt b 5 4) (numAt b 9 4) (takeG b) (takeT b), .int .i64 0]) (by simp [results, Try.results14, go_sem, cellV, z0, z1, z2, z3, z4]) rfl ?_
            refine HR.out _ _ ⟨by rw [Q1.out, Q2.out], ?_⟩
            exact ((((hB5.setCell (Nat.le_refl _) _).setCell (Nat.le_refl _) _).setCell (Nat.le_refl _) _).setCell (Nat.le_refl _) _).setCell (Nat.le_refl _) _
          · have hf : ¬ takeOk b = true := by simp only [takeOk, decide_eq_true_eq]; exact fun h => heq h.2.2.2
            have hne := str_neq heq
            clear heq
            obtain ⟨q1, q2⟩ := take_no b hf
            have Q1 := Lib.hid q1
            have Q2 := Lib.hid q2
            rw [show cutA (b.extract 13 b.size) = takeT b from rfl] at *
            rw [he]
            clear q1 q2 hf he
            go_wp2
            refine bodyPost_ret (v := .tuple #[noCell, .int .i64 3]) (by simp [results, Try.results14, go_sem, noCell, z0, z1, z2, z3, z4]) rfl ?_
            refine HR.out _ _ ⟨by rw [Q1.out, Q2.out], ?_⟩
            exact ((((hB5.setCell (Nat.le_refl _) _).setCell (Nat.le_refl _) _).setCell (Nat.le_refl _) _).setCell (Nat.le_refl _) _).setCell (Nat.le_refl _) _
        · have he : cellE (numAt b 1 4) (numAt b 5 4) (numAt b 9 4) (takeG b) (takeT b) = 2 := by rw [cellE, if_neg hok]
          have hf : ¬ takeOk b = true := by simp only [takeOk, decide_eq_true_eq]; exact fun h => hok h.2.2.1
          clear hok
          obtain ⟨q1, q2⟩ := take_no b hf
          have Q1 := Lib.hid q1
          have Q2 := Lib.hid q2
          rw [show cutA (b.extract 13 b.size) = takeT b from rfl] at *
          rw [he]
          clear q1 q2 hf he
          go_wp2
          refine bodyPost_ret (v := .tuple #[noCell, .int .i64 3]) (by simp [results, Try.results14, go_sem, noCell, z0, z1, z2, z3, z4]) rfl ?_
          refine HR.out _ _ ⟨by rw [Q1.out, Q2.out], ?_⟩
          exact ((((hB5.setCell (Nat.le_refl _) _).setCell (Nat.le_refl _) _).setCell (Nat.le_refl _) _).setCell (Nat.le_refl _) _).setCell (Nat.le_refl _) _
    · have he : cutE (b.extract 13 b.size) = 3 := by rw [cutE, if_neg hc]
      rw [he]
      have hf : ¬ takeOk b = true := by simp only [takeOk, decide_eq_true_eq]; exact fun h => hc h.2.1
      obtain ⟨q1, q2⟩ := take_no b hf
      have Q1 := Lib.hid q1
      have Q2 := Lib.hid q2
      clear q1 q2 hf hc
      go_wp2
      refine bodyPost_ret (v := .tuple #[noCell, .int .i64 3]) (by simp [results, Try.results14, go_sem, noCell, z0, z1, z2, z3, z4]) rfl ?_
      refine HR.out _ _ ⟨by rw [Q1.out, Q2.out], ?_⟩
      exact ((((hB4.setCell (Nat.le_refl _) _).setCell (Nat.le_refl _) _).setCell (Nat.le_refl _) _).setCell (Nat.le_refl _) _).setCell (Nat.le_refl _) _

end Go.Proofs.Ytcfjfnnmfdfmaaa
