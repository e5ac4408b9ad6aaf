/- A cell's bytes: cell.Put. -/
import Derived.Test.YtcfjfnnmfdfmaaaCellCheck
import Derived.Test.YtcfjfnnmfdfmaaaCellPlain2
import Derived.Test.YtcfjfnnmfdfmaaaOctetPack
import Derived.Test.YtcfjfnnmfdfmaaaOctetTextP
import Derived.Test.YtcfjfnnmfdfmaaaOctetFillP
import Derived.Deep.RegionHeld3
import Derived.Test.YtcfjfnnmfdfmaaaBlock
namespace Go.Proofs.Ytcfjfnnmfdfmaaa
open Go.RowKit Ks
set_option linter.unusedVariables false

set_option maxHeartbeats 1000000 in
set_option maxRecDepth 100000 in
theorem cput_any (e s l : Int) (g : Bool) (t : ByteArray) (w : World) :
    Calls Try.prog 8 #[.agg #[.int .i64 e, .int .i64 s, .int .i64 l, .bool g, .string t]] w fun en w' => en = .returned (.tuple #[.string (cellS e s l g t), .int .i64 (cellE e s l g t)]) ∧ Below w.heap.size w w' := by
  refine calls_by fun R HR => ?_
  by_cases hok : cellOk e s l g t = true
  case neg =>
    have he : cellE e s l g t = 2 := by rw [cellE, if_neg hok]
    have Hok := Lib.hid hok
    clear hok
    go_enter Try.func8, Try.ntmps8
    go_wp2_with fail
    refine (check_any e s l g t _).mono ?_
    rintro en w1 ⟨rfl, hb1⟩
    rw [he]
    go_wp2
    refine HR.out _ _ ⟨?_, ((Below.refl _ _).alloc (Nat.le_refl _) _).trans (hb1.mono (by simp))⟩
    rw [cellS, if_neg Hok.out, he]; try rfl
  have he : cellE e s l g t = 0 := by rw [cellE, if_pos hok]
  have Hok := Lib.hid hok
  clear hok
  go_enter Try.func8, Try.ntmps8
  go_wp2_with fail
  refine (check_any e s l g t _).mono ?_
  rintro en w1 ⟨rfl, hb1⟩
  rw [he]
  have c0 : w1.cell? ⟨w.heap.size, 0, none⟩ = some (.int .i64 e) := (hb1.cell (p := ⟨w.heap.size, 0, none⟩) (by simp)).trans (by simp [World.cell?_alloc_at])
  have c1 : w1.cell? ⟨w.heap.size, 1, none⟩ = some (.int .i64 s) := (hb1.cell (p := ⟨w.heap.size, 1, none⟩) (by simp)).trans (by simp [World.cell?_alloc_at])
  have c2 : w1.cell? ⟨w.heap.size, 2, none⟩ = some (.int .i64 l) := (hb1.cell (p := ⟨w.heap.size, 2, none⟩) (by simp)).trans (by simp [World.cell?_alloc_at])
  have c3 : w1.cell? ⟨w.heap.size, 3, none⟩ = some (.bool g) := (hb1.cell (p := ⟨w.heap.size, 3, none⟩) (by simp)).trans (by simp [World.cell?_alloc_at])
  have c4 : w1.cell? ⟨w.heap.size, 4, none⟩ = some (.string t) := (hb1.cell (p := ⟨w.heap.size, 4, none⟩) (by simp)).trans (by simp [World.cell?_alloc_at])
  have hB1 : Below w.heap.size w w1 := ((Below.refl _ _).alloc (Nat.le_refl _) _).trans (hb1.mono (by simp))
  have hz1 : w.heap.size < w1.heap.size := by have := hb1.size; simp at this; omega
  clear hb1
  have hrange : (0 ≤ e ∧ e ≤ 4294967295) ∧ (0 ≤ s ∧ s ≤ 4294967295) ∧ 0 ≤ l ∧ l ≤ 4095 := by have := Hok.out; simp only [cellOk, decide_eq_true_eq] at this; omega
  obtain ⟨⟨r1, r2⟩, ⟨r3, r4⟩, r5, r6⟩ := hrange
  cases g with
  | false =>
    have hcs := cellS_eq e s l false t 1 rfl Hok.out
    obtain ⟨q1, q2, q3, q4, q5⟩ := hcs
    have Q4 := Lib.hid q4
    have Q5 := Lib.hid q5
    have hts : (textS t).size = 4 + t.size := textS_size t
    have ht4 : t.size ≤ 4000 := by have := Hok.out; simp only [cellOk, decide_eq_true_eq] at this; omega
    clear q4 q5
    go_wp2_with fail
    go_region_held3 (fun w' => w'.cell? ⟨w.heap.size, 0, none⟩ = some (.int .i64 e) ∧ w'.cell? ⟨w.heap.size, 1, none⟩ = some (.int .i64 s) ∧ w'.cell? ⟨w.heap.size, 2, none⟩ = some (.int .i64 l))
      (first | go_keep)
      (first
        | (go_at_call 22; refine (widths_any _).mono ?_; rintro en w2 ⟨rfl, rfl⟩)
        | (go_at_call 21; refine (pack_any _ _ [1, 4, 4, 4] [1, e, s, l] _ (RdI.block _ 3 (0, 0) 4 rfl (by decide) (by first | exact heap_alloc2_old _ _ _ | exact heap_alloc2_new _ _ _)) (RdI.block _ 3 (0, 0) 4 rfl (by intro x hx; simp at hx; omega) (by first | exact heap_alloc2_old _ _ _ | exact heap_alloc2_new _ _ _)) (by simp)).mono ?_; rintro en w3 ⟨rfl, hb3⟩; have hbb := Below.trans ((((Below.refl w1.heap.size w1).alloc (Nat.le_refl _) _).alloc (by simp) _).drew) (hb3.mono (by simp; omega)); clear hb3; have k0 := (hbb.cell (p := ⟨w.heap.size, 0, none⟩) hz1).trans c0; have k1 := (hbb.cell (p := ⟨w.heap.size, 1, none⟩) hz1).trans c1; have k2 := (hbb.cell (p := ⟨w.heap.size, 2, none⟩) hz1).trans c2; have k4 := (hbb.cell (p := ⟨w.heap.size, 4, none⟩) hz1).trans c4; have hB3 := hB1.trans (hbb.mono hB1.size); clear hbb))
    all_goals
      go_wp2_with fail
      refine (text_any _ _ (by omega)).mono ?_
      rintro en w4 ⟨rfl, hb4⟩
      go_wp2_with fail
      refine (fill_any _ _ _).mono ?_
      rintro en w5 ⟨rfl, hb5⟩
      rw [Q4.out, Q5.out]
      have hB4 := hB3.trans (hb4.mono hB3.size)
      go_wp2
      refine HR.out _ _ ⟨?_, hB4.trans (hb5.mono hB4.size)⟩
      rw [he]; try rfl
  | true =>
    have hcs := cellS_eq e s l true t 2 rfl Hok.out
    obtain ⟨q1, q2, q3, q4, q5⟩ := hcs
    have Q4 := Lib.hid q4
    have Q5 := Lib.hid q5
    have hts : (textS t).size = 4 + t.size := textS_size t
    have ht4 : t.size ≤ 4000 := by have := Hok.out; simp only [cellOk, decide_eq_true_eq] at this; omega
    clear q4 q5
    go_wp2_with fail
    go_region_held3 (fun w' => w'.cell? ⟨w.heap.size, 0, none⟩ = some (.int .i64 e) ∧ w'.cell? ⟨w.heap.size, 1, none⟩ = some (.int .i64 s) ∧ w'.cell? ⟨w.heap.size, 2, none⟩ = some (.int .i64 l))
      (first | go_keep)
      (first
        | (go_at_call 22; refine (widths_any _).mono ?_; rintro en w2 ⟨rfl, rfl⟩)
        | (go_at_call 21; refine (pack_any _ _ [1, 4, 4, 4] [2, e, s, l] _ (RdI.block _ 3 (0, 0) 4 rfl (by decide) (by first | exact heap_alloc2_old _ _ _ | exact heap_alloc2_new _ _ _)) (RdI.block _ 3 (0, 0) 4 rfl (by intro x hx; simp at hx; omega) (by first | exact heap_alloc2_old _ _ _ | exact heap_alloc2_new _ _ _)) (by simp)).mono ?_; rintro en w3 ⟨rfl, hb3⟩; have hbb := Below.trans ((((Below.refl w1.heap.size w1).alloc (Nat.le_refl _) _).alloc (by simp) _).drew) (hb3.mono (by simp; omega)); clear hb3; have k0 := (hbb.cell (p := ⟨w.heap.size, 0, none⟩) hz1).trans c0; have k1 := (hbb.cell (p := ⟨w.heap.size, 1, none⟩) hz1).trans c1; have k2 := (hbb.cell (p := ⟨w.heap.size, 2, none⟩) hz1).trans c2; have k4 := (hbb.cell (p := ⟨w.heap.size, 4, none⟩) hz1).trans c4; have hB3 := hB1.trans (hbb.mono hB1.size); clear hbb))
    all_goals
      go_wp2_with fail
      refine (text_any _ _ (by omega)).mono ?_
      rintro en w4 ⟨rfl, hb4⟩
      go_wp2_with fail
      refine (fill_any _ _ _).mono ?_
      rintro en w5 ⟨rfl, hb5⟩
      rw [Q4.out, Q5.out]
      have hB4 := hB3.trans (hb4.mono hB3.size)
      go_wp2
      refine HR.out _ _ ⟨?_, hB4.trans (hb5.mono hB4.size)⟩
      rw [he]; try rfl

end Go.Proofs.Ytcfjfnnmfdfmaaa
