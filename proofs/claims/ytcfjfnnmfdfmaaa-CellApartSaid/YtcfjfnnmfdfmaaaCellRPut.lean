/- A cell's bytes: the reference's Put. -/
import Derived.Test.YtcfjfnnmfdfmaaaCellCheck
import Derived.Test.YtcfjfnnmfdfmaaaCellPlain2
import Derived.Test.YtcfjfnnmfdfmaaaOctetRPut
import Derived.Test.YtcfjfnnmfdfmaaaOctetTextR
import Derived.Test.YtcfjfnnmfdfmaaaOctetNoughts
import Derived.Test.YtcfjfnnmfdfmaaaBlock
namespace Go.Proofs.Ytcfjfnnmfdfmaaa
open Go.RowKit Ks
set_option linter.unusedVariables false

set_option maxHeartbeats 1000000 in
set_option maxRecDepth 100000 in
theorem crput_any (e s l : Int) (g : Bool) (t : ByteArray) (w : World) :
    Calls Try.prog 9 #[.agg #[.int .i64 e, .int .i64 s, .int .i64 l, .bool g, .string t]] w fun en w' => en = .returned (.tuple #[.string (cellS e s l g t), .bool (cellOk e s l g t)]) ∧ Below w.heap.size w w' := by
  refine calls_by fun R HR => ?_
  by_cases hok : cellOk e s l g t = true
  case neg =>
    have he : cellOk e s l g t = false := by simpa using hok
    go_enter Try.func9, Try.ntmps9
    go_wp2_with fail
    refine (right_any e s l g t _).mono ?_
    rintro en w1 ⟨rfl, hb1⟩
    go_wp2
    refine HR.out _ _ ⟨?_, ((Below.refl _ _).alloc (Nat.le_refl _) _).trans (hb1.mono (by simp))⟩
    rw [cellS, if_neg hok, he]; try rfl
  have hrange : (0 ≤ e ∧ e ≤ 4294967295) ∧ (0 ≤ s ∧ s ≤ 4294967295) ∧ (0 ≤ l ∧ l ≤ 4095) ∧ t.size ≤ 4000 := by have := hok; simp only [cellOk, decide_eq_true_eq] at this; omega
  obtain ⟨⟨r1, r2⟩, ⟨r3, r4⟩, ⟨r5, r6⟩, r7⟩ := hrange
  have Hok := Lib.hid hok
  have hz := cellR_size e s l t r1 r2 r3 r4 r5 r6
  obtain ⟨z1, z2, z3⟩ := hz
  have hts : (textS t).size = 4 + t.size := textS_size t
  have HE : Hid (∀ k, k = (if g then (2 : UInt8) else 1) → ByteArray.mk #[k] ++ putS e 4 ++ putS s 4 ++ putS l 4 ++ textS t ++ zerosS (4096 - (17 + t.size : Nat)) = cellS e s l g t) :=
    Lib.hid (fun k hk => cellR_eq e s l g t k hk hok)
  clear hok
  go_enter Try.func9, Try.ntmps9
  go_wp2_with fail
  refine (right_any e s l g t _).mono ?_
  rintro en w1 ⟨rfl, hb1⟩
  rw [Hok.out]
  have c0 : w1.cell? ⟨w.heap.size, 0, none⟩ = some (.int .i64 e) := (hb1.cell (p := ⟨w.heap.size, 0, none⟩) (by simp)).trans (by simp [World.cell?_alloc_at])
  have c1 : w1.cell? ⟨w.heap.size, 1, none⟩ = some (.int .i64 s) := (hb1.cell (p := ⟨w.heap.size, 1, none⟩) (by simp)).trans (by simp [World.cell?_alloc_at])
  have c2 : w1.cell? ⟨w.heap.size, 2, none⟩ = some (.int .i64 l) := (hb1.cell (p := ⟨w.heap.size, 2, none⟩) (by simp)).trans (by simp [World.cell?_alloc_at])
  have c3 : w1.cell? ⟨w.heap.size, 3, none⟩ = some (.bool g) := (hb1.cell (p := ⟨w.heap.size, 3, none⟩) (by simp)).trans (by simp [World.cell?_alloc_at])
  have c4 : w1.cell? ⟨w.heap.size, 4, none⟩ = some (.string t) := (hb1.cell (p := ⟨w.heap.size, 4, none⟩) (by simp)).trans (by simp [World.cell?_alloc_at])
  have hB1 : Below w.heap.size w w1 := ((Below.refl _ _).alloc (Nat.le_refl _) _).trans (hb1.mono (by simp))
  have hz1 : w.heap.size < w1.heap.size := by have := hb1.size; simp at this; omega
  clear hb1
  cases g
  all_goals
    go_wp2_with fail
    refine (rput_any _ _ _ (by omega)).mono ?_
    rintro en w2 ⟨rfl, hb2⟩
    have d1 := (hb2.cell (p := ⟨w.heap.size, 1, none⟩) hz1).trans c1
    have d2 := (hb2.cell (p := ⟨w.heap.size, 2, none⟩) hz1).trans c2
    have d4 := (hb2.cell (p := ⟨w.heap.size, 4, none⟩) hz1).trans c4
    have hB2 := hB1.trans (hb2.mono hB1.size)
    have hz2 : w.heap.size < w2.heap.size := Nat.lt_of_lt_of_le hz1 hb2.size
    clear hb2 c0 c1 c2 c3 c4 hB1 hz1
    go_wp2_with fail
    refine (rput_any _ _ _ (by omega)).mono ?_
    rintro en w3 ⟨rfl, hb3⟩
    have f2 := (hb3.cell (p := ⟨w.heap.size, 2, none⟩) hz2).trans d2
    have f4 := (hb3.cell (p := ⟨w.heap.size, 4, none⟩) hz2).trans d4
    have hB3 := hB2.trans (hb3.mono hB2.size)
    have hz3 : w.heap.size < w3.heap.size := Nat.lt_of_lt_of_le hz2 hb3.size
    clear hb3 d1 d2 d4 hB2 hz2
    go_wp2_with fail
    refine (rput_any _ _ _ (by omega)).mono ?_
    rintro en w4 ⟨rfl, hb4⟩
    have g4 := (hb4.cell (p := ⟨w.heap.size, 4, none⟩) hz3).trans f4
    have hB4 := hB3.trans (hb4.mono hB3.size)
    clear hb4 f2 f4 hB3 hz3
    go_wp2_with fail
    refine (rtext_any _ _ (by omega)).mono ?_
    rintro en w5 ⟨rfl, hb5⟩
    have hB5 := hB4.trans (hb5.mono hB4.size)
    clear hb5 g4 hB4
    go_wp2_with fail
    rw [show ((4096 : Int) - (13 + (4 + (t.size : Int)))) = 4096 - ((17 + t.size : Nat) : Int) by omega]
    refine (noughts_any _ _ (by omega)).mono ?_
    rintro en w6 ⟨rfl, hb6⟩
    have hzz : (zerosS ((4096 : Int) - ((17 + t.size : Nat) : Int))).size = 4079 - t.size := by
      show (List.replicate _ _).length = _
      rw [List.length_replicate]; omega
    generalize hZ : zerosS ((4096 : Int) - ((17 + t.size : Nat) : Int)) = Z at *
    have HZ := Lib.hid hZ
    clear hZ
    go_wp2
    refine HR.out _ _ ⟨?_, hB5.trans (hb6.mono hB5.size)⟩
    rw [← HE.out _ rfl, Hok.out]; try rfl

set_option maxHeartbeats 1000000 in
theorem rhold_any (t : ByteArray) (w : World) :
    Calls Try.prog 11 #[.string t] w fun en w' => en = .returned (.tuple #[.string (holdS t), .bool (holdOk t)]) ∧ Below w.heap.size w w' := by
  refine calls_by fun R HR => ?_
  by_cases h1 : t.size < 1
  · have hf : ¬ holdOk t = true := by simp only [holdOk, decide_eq_true_eq]; omega
    have he : holdOk t = false := by simpa using hf
    have Hs : Hid (holdS t = ⟨#[]⟩) := Lib.hid (by rw [holdS, if_neg hf])
    clear hf
    go_enter Try.func11, Try.ntmps11
    go_wp2
    refine HR.out _ _ ⟨?_, Below.refl _ _⟩
    rw [Hs.out, he]; try rfl
  by_cases h2 : 4000 < t.size
  · have hf : ¬ holdOk t = true := by simp only [holdOk, decide_eq_true_eq]; omega
    have he : holdOk t = false := by simpa using hf
    have Hs : Hid (holdS t = ⟨#[]⟩) := Lib.hid (by rw [holdS, if_neg hf])
    clear hf
    go_enter Try.func11, Try.ntmps11
    go_wp2
    refine HR.out _ _ ⟨?_, Below.refl _ _⟩
    rw [Hs.out, he]; try rfl
  have hok : holdOk t = true := by simp only [holdOk, decide_eq_true_eq]; omega
  obtain ⟨q1, q2, q3, q4⟩ := holdS_eq t hok
  have Q2 := Lib.hid q2
  have Hok := Lib.hid hok
  have hts : (textS t).size = 4 + t.size := textS_size t
  clear q1 q2 q3 q4 hok
  go_enter Try.func11, Try.ntmps11
  go_wp2_with fail
  refine (rtext_any _ _ (by omega)).mono ?_
  rintro en w1 ⟨rfl, hb1⟩
  go_wp2_with fail
  rw [show ((4096 : Int) - (1 + (4 + (t.size : Int)))) = 4096 - ((5 + t.size : Nat) : Int) by omega]
  refine (noughts_any _ _ (by omega)).mono ?_
  rintro en w2 ⟨rfl, hb2⟩
  have hzz : (zerosS ((4096 : Int) - ((5 + t.size : Nat) : Int))).size = 4091 - t.size := by
    show (List.replicate _ _).length = _
    rw [List.length_replicate]; omega
  generalize hZ : zerosS ((4096 : Int) - ((5 + t.size : Nat) : Int)) = Z at *
  have HZ := Lib.hid hZ
  clear hZ
  go_wp2
  refine HR.out _ _ ⟨?_, hb1.trans (hb2.mono hb1.size)⟩
  rw [← Q2.out, Hok.out]; try rfl

end Go.Proofs.Ytcfjfnnmfdfmaaa
