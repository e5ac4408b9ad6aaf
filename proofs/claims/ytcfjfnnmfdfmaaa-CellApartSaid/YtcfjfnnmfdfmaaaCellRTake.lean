/- Which cell any bytes are: the reference's Take. -/
import Derived.Test.YtcfjfnnmfdfmaaaCellRPut
import Derived.Test.YtcfjfnnmfdfmaaaCellPlain3
import Derived.Test.YtcfjfnnmfdfmaaaOctetRGet
import Derived.Test.YtcfjfnnmfdfmaaaOctetCutR
namespace Go.Proofs.Ytcfjfnnmfdfmaaa
open Go.RowKit Ks
set_option linter.unusedVariables false

set_option maxHeartbeats 2000000 in
set_option maxRecDepth 100000 in
theorem crtake_any (b : ByteArray) (w : World) :
    Calls Try.prog 16 #[.string b] w fun en w' => en = .returned (.tuple #[takeV b, .bool (takeOk b)]) ∧ Below w.heap.size w w' := by
  refine calls_by fun R HR => ?_
  by_cases hb : b.size = 4096
  case neg =>
    have hf : ¬ takeOk b = true := by simp only [takeOk, decide_eq_true_eq]; exact fun h => hb h.1
    have q2 : takeOk b = false := by simpa using hf
    have Q1 := Lib.hid (take_no b hf).1
    have Q2 := Lib.hid q2
    have hbb : ((b.size : Int) != 4096) = true := by simp; omega
    clear q2 hf hb
    go_enter Try.func16, Try.ntmps16
    go_wp2
    refine bodyPost_ret (v := .tuple #[noCell, .bool false]) (by simp [results, Try.results16, go_sem, noCell]) rfl ?_
    exact HR.out _ _ ⟨by rw [Q1.out, Q2.out], (Below.refl _ _).alloc (Nat.le_refl _) _⟩
  have hbb : ((b.size : Int) != 4096) = false := by simp [hb]
  have Hb := Lib.hid hb
  have g1 : getV (b.extract 1 5) = (numAt b 1 4 : Int) := (getV_at b 1 5 (by omega) (by omega) (by omega)).1
  have g2 : getV (b.extract 5 9) = (numAt b 5 4 : Int) := (getV_at b 5 9 (by omega) (by omega) (by omega)).1
  have g3 : getV (b.extract 9 13) = (numAt b 9 4 : Int) := (getV_at b 9 13 (by omega) (by omega) (by omega)).1
  have hb2 : 4096 ≤ b.size := by omega
  have hb3 : b.size ≤ 4096 := by omega
  have hpos : 0 < b.size := by omega
  have hbyte : (((b[0]'hpos).toNat : Int) == 2) = takeG b := by rw [byte_at b hpos]; exact takeG_int b
  clear hb
  go_enter Try.func16, Try.ntmps16
  go_wp2_with fail
  refine (rget_any _ _).mono ?_
  rintro en w1 ⟨rfl, rfl⟩
  rw [g1]
  go_wp2_with fail
  refine (rget_any _ _).mono ?_
  rintro en w1 ⟨rfl, rfl⟩
  rw [g2]
  go_wp2_with fail
  refine (rget_any _ _).mono ?_
  rintro en w1 ⟨rfl, rfl⟩
  rw [g3]
  clear g1 g2 g3
  go_wp2_with fail
  refine (rcut_any _ _ (by simp; omega)).mono ?_
  rintro en w4 ⟨rfl, hb4⟩
  have hB4 := Below.trans ((Below.refl w.heap.size w).alloc (Nat.le_refl _) _) (hb4.mono (by simp))
  have hz4 : w.heap.size < w4.heap.size := by have := hb4.size; simp at this; omega
  have blk : w4.heap[w.heap.size]? = some (.cells #[.int .i64 0, .int .i64 0, .int .i64 0, .bool false, .string ⟨#[]⟩] 23 (0, 0)) := (hb4.block _ (by simp)).trans (heap_alloc_new w _)
  clear hb4
  by_cases hc : cutOk (b.extract 13 b.size) = true
  · have he : cutE (b.extract 13 b.size) = 0 := by rw [cutE, if_pos hc]
    rw [he]
    have Hc := Lib.hid hc
    clear hc he
    have z0 := cell_of_row w4 w.heap.size 0 _ _ _ blk
    have z1 := cell_of_row w4 w.heap.size 1 _ _ _ blk
    have z2 := cell_of_row w4 w.heap.size 2 _ _ _ blk
    have z3 := cell_of_row w4 w.heap.size 3 _ _ _ blk
    have z4 := cell_of_row w4 w.heap.size 4 _ _ _ blk
    have f0 := frozen_of_row w4 w.heap.size 0 _ _ blk
    have f1 := frozen_of_row w4 w.heap.size 1 _ _ blk
    have f2 := frozen_of_row w4 w.heap.size 2 _ _ blk
    have f3 := frozen_of_row w4 w.heap.size 3 _ _ blk
    have f4 := frozen_of_row w4 w.heap.size 4 _ _ blk
    simp at z0 z1 z2 z3 z4
    clear blk
    go_wp2_with fail
    refine (crput_any _ _ _ _ _ _).mono ?_
    rintro en w5 ⟨rfl, hb5⟩
    have hA5 := Below.trans ((Below.refl w4.heap.size w4).alloc (Nat.le_refl _) _) (hb5.mono (by simp))
    have hB5 := hB4.trans (hA5.mono hB4.size)
    obtain ⟨hc5, hf5⟩ := bcells hA5
    have blk5 := hb5.block w4.heap.size (by simp)
    rw [← hc5 _ _ hz4] at z0 z1 z2 z3 z4
    rw [← hf5 _ _ hz4] at f0 f1 f2 f3 f4
    rw [show ∀ o, (w4.alloc o).heap[w4.heap.size]? = some o from fun o => heap_alloc_new w4 o] at blk5
    have y0 := cell_of_row w5 w4.heap.size 0 _ _ _ blk5
    have y1 := cell_of_row w5 w4.heap.size 1 _ _ _ blk5
    have y2 := cell_of_row w5 w4.heap.size 2 _ _ _ blk5
    have y3 := cell_of_row w5 w4.heap.size 3 _ _ _ blk5
    have y4 := cell_of_row w5 w4.heap.size 4 _ _ _ blk5
    simp only [List.getElem?_toArray, List.getElem?_cons_zero, List.getElem?_cons_succ] at y0 y1 y2 y3 y4
    clear hA5 hb5 hc5 hf5 blk5 hB4 hbyte
    by_cases hok : cellOk (numAt b 1 4) (numAt b 5 4) (numAt b 9 4) (takeG b) (takeT b) = true
    · have Hok := Lib.hid hok
      have hok' : cellOk (numAt b 1 4) (numAt b 5 4) (numAt b 9 4) (takeG b) (cutA (b.extract 13 b.size)) = true := hok
      rw [hok']
      clear hok hok'
      by_cases heq : cellS (numAt b 1 4) (numAt b 5 4) (numAt b 9 4) (takeG b) (takeT b) = b
      · have hf : takeOk b = true := by simp only [takeOk, decide_eq_true_eq]; exact ⟨Hb.out, Hc.out, Hok.out, heq⟩
        have Q1 := Lib.hid (take_yes b hf).1
        have Q2 := Lib.hid hf
        rw [show cutA (b.extract 13 b.size) = takeT b from rfl] at *
        rw [heq]
        clear hf heq
        go_wp2
        refine bodyPost_ret (v := .tuple #[cellV (numAt b 1 4) (numAt b 5 4) (numAt b 9 4) (takeG b) (takeT b), .bool true]) (by simp [results, Try.results16, go_sem, cellV, z0, z1, z2, z3, z4]) rfl ?_
        refine HR.out _ _ ⟨by rw [Q1.out, Q2.out], ?_⟩
        exact ((((hB5.setCell (Nat.le_refl _) _).setCell (Nat.le_refl _) _).setCell (Nat.le_refl _) _).setCell (Nat.le_refl _) _).setCell (Nat.le_refl _) _
      · have hf : ¬ takeOk b = true := by simp only [takeOk, decide_eq_true_eq]; exact fun h => heq h.2.2.2
        have hne := str_neq heq
        clear heq
        have Q1 := Lib.hid (take_no b hf).1
        have q2 : takeOk b = false := by simpa using hf
        have Q2 := Lib.hid q2
        rw [show cutA (b.extract 13 b.size) = takeT b from rfl] at *
        clear q2 hf
        go_wp2
        refine bodyPost_ret (v := .tuple #[noCell, .bool false]) (by simp [results, Try.results16, go_sem, noCell, z0, z1, z2, z3, z4]) rfl ?_
        refine HR.out _ _ ⟨by rw [Q1.out, Q2.out], ?_⟩
        exact ((((hB5.setCell (Nat.le_refl _) _).setCell (Nat.le_refl _) _).setCell (Nat.le_refl _) _).setCell (Nat.le_refl _) _).setCell (Nat.le_refl _) _
    · have hf : ¬ takeOk b = true := by simp only [takeOk, decide_eq_true_eq]; exact fun h => hok h.2.2.1
      have he : cellOk (numAt b 1 4) (numAt b 5 4) (numAt b 9 4) (takeG b) (cutA (b.extract 13 b.size)) = false := by
        have h : cellOk (numAt b 1 4) (numAt b 5 4) (numAt b 9 4) (takeG b) (takeT b) = false := by simpa using hok
        exact h
      rw [he]
      clear hok he
      have Q1 := Lib.hid (take_no b hf).1
      have q2 : takeOk b = false := by simpa using hf
      have Q2 := Lib.hid q2
      rw [show cutA (b.extract 13 b.size) = takeT b from rfl] at *
      clear q2 hf
      go_wp2
      refine bodyPost_ret (v := .tuple #[noCell, .bool false]) (by simp [results, Try.results16, go_sem, noCell, z0, z1, z2, z3, z4]) rfl ?_
      refine HR.out _ _ ⟨by rw [Q1.out, Q2.out], ?_⟩
      exact ((((hB5.setCell (Nat.le_refl _) _).setCell (Nat.le_refl _) _).setCell (Nat.le_refl _) _).setCell (Nat.le_refl _) _).setCell (Nat.le_refl _) _
  · have he : cutE (b.extract 13 b.size) = 3 := by rw [cutE, if_neg hc]
    rw [he]
    have hf : ¬ takeOk b = true := by simp only [takeOk, decide_eq_true_eq]; exact fun h => hc h.2.1
    have Q1 := Lib.hid (take_no b hf).1
    have q2 : takeOk b = false := by simpa using hf
    have Q2 := Lib.hid q2
    have z0 := cell_of_row w4 w.heap.size 0 _ _ _ blk
    have z1 := cell_of_row w4 w.heap.size 1 _ _ _ blk
    have z2 := cell_of_row w4 w.heap.size 2 _ _ _ blk
    have z3 := cell_of_row w4 w.heap.size 3 _ _ _ blk
    have z4 := cell_of_row w4 w.heap.size 4 _ _ _ blk
    have f0 := frozen_of_row w4 w.heap.size 0 _ _ blk
    have f1 := frozen_of_row w4 w.heap.size 1 _ _ blk
    have f2 := frozen_of_row w4 w.heap.size 2 _ _ blk
    have f3 := frozen_of_row w4 w.heap.size 3 _ _ blk
    have f4 := frozen_of_row w4 w.heap.size 4 _ _ blk
    simp at z0 z1 z2 z3 z4
    clear q2 hf hc blk
    go_wp2
    refine bodyPost_ret (v := .tuple #[noCell, .bool false]) (by simp [results, Try.results16, go_sem, noCell, z0, z1, z2, z3, z4]) rfl ?_
    refine HR.out _ _ ⟨by rw [Q1.out, Q2.out], ?_⟩
    exact ((((hB4.setCell (Nat.le_refl _) _).setCell (Nat.le_refl _) _).setCell (Nat.le_refl _) _).setCell (Nat.le_refl _) _).setCell (Nat.le_refl _) _

end Go.Proofs.Ytcfjfnnmfdfmaaa
