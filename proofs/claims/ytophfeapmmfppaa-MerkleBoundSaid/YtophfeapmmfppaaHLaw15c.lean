/- The law MerkleProves: what its walk gives. -/
import Derived.Test.YtophfeapmmfppaaHLaw15b
import Derived.BigQuiet
namespace Go.Proofs.Ytophfeapmmfppaa
open Go Ks
theorem path_most (l : List ByteArray) (j k : Nat) (x : ByteArray) (hx : l[j]? = some x) (h : l.length ≤ 2 ^ k) : (pathL l j).length ≤ k := by
  have hj : j < l.length := (List.getElem?_eq_some_iff.1 hx).1
  rw [(path_leads l.length l j x rfl hx).2, ← sidesM_eq l.length k j hj h]
  exact sidesM_le _ _ _
theorem own_is (l : List ByteArray) (j : Nat) (x : ByteArray) (hw : wholeL l = true) (hx : l[j]? = some x) (hn : l.length ≤ 1048576) (hz : x.size = 32) : isV (rootL l) l.length j x (pathL l j) = true := by
  have hj : j < l.length := (List.getElem?_eq_some_iff.1 hx).1
  obtain ⟨p1, p2⟩ := path_leads l.length l j x rfl hx
  obtain ⟨q1, -⟩ := path_whole l.length l j rfl hw hj
  have hb : ¬ ((l.length : Int) < 1 ∨ 1048576 < (l.length : Int) ∨ (j : Int) < 0 ∨ (l.length : Int) ≤ (j : Int)) := by omega
  have hv := up_yes (c := (l.length : Int)) (i := (j : Int)) (x := x) (ps := pathL l j) hb ⟨hz, q1, by rw [Int.toNat_natCast, Int.toNat_natCast]; exact p2⟩
  rw [isV, hv.1, hv.2, Int.toNat_natCast, Int.toNat_natCast, p1]
  simp
open Go.RowKit
set_option linter.unusedVariables false
set_option maxRecDepth 100000 in
set_option maxHeartbeats 4000000 in
theorem proves_few (lv : Value) (l : List ByteArray) (i : Int) (w : World) (hl : Rd strE w lv l) (hf : ¬ (l.length ≤ 70 ∧ bytesN l ≤ 5000)) :
    Calls Try.prog 5 #[lv, .int .i64 i] w fun e w' => e = .returned (.bool true) ∧ Below w.heap.size w w' := by
  refine calls_by fun R HR => ?_
  have HF := Lib.hid (few_any l lv w hl)
  obtain ⟨a, cap, rfl, -⟩ := hl.shape
  have HL0 := Lib.hid hl
  rw [decide_eq_false hf] at HF
  clear hf hl
  have H1 := Lib.hid ((Below.refl w.heap.size w))
  go_enter Try.func5, Try.ntmps5
  go_wp2_with fail
  refine (HF.out).mono ?_
  rintro en v2 ⟨rfl, hw⟩
  rw [hw]
  clear hw
  go_wp2_with fail
  refine (alive_any _).mono ?_
  rintro en v2 ⟨rfl, hb⟩
  have H2 := Lib.hid ((H1.out.trans (hb.mono H1.out.size)))
  clear hb
  go_wp2
  exact HR.out _ _ ⟨rfl, H2.out⟩
set_option maxRecDepth 100000 in
set_option maxHeartbeats 4000000 in
theorem proves_no (lv : Value) (l : List ByteArray) (i : Int) (w : World) (hl : Rd strE w lv l) (hf : l.length ≤ 70 ∧ bytesN l ≤ 5000) (ho : ¬ (wholeL l = true ∧ 0 ≤ i ∧ i < l.length)) :
    Calls Try.prog 5 #[lv, .int .i64 i] w fun e w' => e = .returned (.bool true) ∧ Below w.heap.size w w' := by
  refine calls_by fun R HR => ?_
  have HF := Lib.hid (few_any l lv w hl)
  obtain ⟨a, cap, rfl, -⟩ := hl.shape
  have HL0 := Lib.hid hl
  rw [decide_eq_true hf] at HF
  have f1 := hf.1
  have HRt := Lib.hid (fun w (h : Rd strE w (.slice a l.length cap) l) => root_any _ l w h (bytes_len f1))
  have HPt := Lib.hid (fun w (h : Rd strE w (.slice a l.length cap) l) => path_any _ l i w h (bytes_len f1))
  have hp := path_out ho
  simp only [hp] at HPt
  have hwe : wholeE l = 0 ∨ wholeE l = 2 := by unfold wholeE; split <;> simp
  generalize rootV l = Z at *
  generalize wholeE l = we at *
  clear hp ho hf f1 hl
  rcases hwe with rfl | rfl
  all_goals
    have H1 := Lib.hid (And.intro (Below.refl w.heap.size w) HL0.out)
    go_enter Try.func5, Try.ntmps5
    go_wp2_with fail
    refine (HF.out).mono ?_
    rintro en v2 ⟨rfl, hw⟩
    rw [hw]
    clear hw
    go_wp2_with fail
    refine (HRt.out _ H1.out.2).mono ?_
    rintro en v2 ⟨rfl, hb⟩
    have H2 := Lib.hid (And.intro (H1.out.1.trans (hb.mono H1.out.1.size)) (H1.out.2.below hb))
    clear hb
    go_wp2_with fail
    refine (HPt.out _ H2.out.2).mono ?_
    rintro en v3 ⟨pv, rfl, hrow, hb⟩
    have H3 := Lib.hid (And.intro (H2.out.1.trans (hb.mono H2.out.1.size)) (And.intro (H2.out.2.below hb) hrow))
    obtain ⟨pa, pc, rfl, -⟩ := hrow.shape
    clear hrow
    clear hb
    go_wp2_with fail
    refine (alive_any _).mono ?_
    rintro en v4 ⟨rfl, hb⟩
    have H4 := Lib.hid (And.intro (H3.out.1.trans (hb.mono H3.out.1.size)) (And.intro (H3.out.2.1.below hb) (H3.out.2.2.below hb)))
    clear hb
    go_wp2
    exact HR.out _ _ ⟨rfl, H4.out.1⟩
set_option maxRecDepth 100000 in
set_option maxHeartbeats 4000000 in
theorem proves_yes (lv : Value) (l : List ByteArray) (j : Nat) (w : World) (hl : Rd strE w lv l) (hf : l.length ≤ 70 ∧ bytesN l ≤ 5000) (hw : wholeL l = true) (hj : j < l.length) :
    Calls Try.prog 5 #[lv, .int .i64 (j : Nat)] w fun e w' => e = .returned (.bool true) ∧ Below w.heap.size w w' := by
  refine calls_by fun R HR => ?_
  have HF := Lib.hid (few_any l lv w hl)
  obtain ⟨a, cap, rfl, -⟩ := hl.shape
  have HL0 := Lib.hid hl
  rw [decide_eq_true hf] at HF
  have f1 := hf.1
  have HRt := Lib.hid (fun w (h : Rd strE w (.slice a l.length cap) l) => root_any _ l w h (bytes_len f1))
  have HPt := Lib.hid (fun w (h : Rd strE w (.slice a l.length cap) l) => path_any _ l (j : Int) w h (bytes_len f1))
  have hp := path_in hw hj
  have hv := root_whole hw
  simp only [hp] at HPt
  simp only [hv] at HRt
  have hg := List.getElem?_eq_getElem hj
  have hz := whole_get hw j _ hg
  have HI := Lib.hid (own_is l j _ hw hg (by omega) hz)
  have HM := Lib.hid (fun k (h : l.length ≤ 2 ^ k) => path_most l j k _ hg h)
  have HPB := Lib.hid (show (pathL l j).length ≤ 100000000 by have := path_len l.length l j rfl; omega)
  obtain ⟨b, o, rfl, hb0, c0⟩ := hl.str j hj
  have HL1 := Lib.hid (fun (w1 : World) (h : Below w.heap.size w w1) => (h.cell (p := ⟨b, o + j, none⟩) hb0).trans c0)
  generalize l[j] = x at *
  generalize rootL l = Z at *
  generalize pathL l j = P at *
  have h0 : ¬ (j : Int) < 0 := by omega
  have h1 : (j : Int) < (l.length : Int) := by omega
  have hli : (l.length : Int) ≤ 70 := by omega
  have HLN := Lib.hid f1
  clear hp hv hf f1 hl hw hj hg hz c0 hb0
  have H1 := Lib.hid (And.intro (Below.refl w.heap.size w) HL0.out)
  go_enter Try.func5, Try.ntmps5
  go_wp2_with fail
  refine (HF.out).mono ?_
  rintro en v2 ⟨rfl, hw⟩
  rw [hw]
  clear hw
  go_wp2_with fail
  refine (HRt.out _ H1.out.2).mono ?_
  rintro en v2 ⟨rfl, hb⟩
  have H2 := Lib.hid (And.intro (H1.out.1.trans (hb.mono H1.out.1.size)) (H1.out.2.below hb))
  clear hb
  go_wp2_with fail
  refine (HPt.out _ H2.out.2).mono ?_
  rintro en v3 ⟨pv, rfl, hrow, hb⟩
  have H3 := Lib.hid (And.intro (H2.out.1.trans (hb.mono H2.out.1.size)) (And.intro (H2.out.2.below hb) hrow))
  obtain ⟨pa, pc, rfl, -⟩ := hrow.shape
  clear hrow
  clear hb
  go_wp2_with fail
  go_loop [9, 10] (fun c m => ∃ k q : Nat, c = .int .i64 k ∧ m = .int .i64 q ∧ k ≤ 200 ∧ q ≤ 200 ∧ Hid (q = 2 ^ k)) (fun c m => 200 - (intOf m).toNat)
  case atStart => exact ⟨0, 1, rfl, rfl, by omega, by omega, Lib.hid rfl⟩
  case round =>
    obtain ⟨k, q, rfl, rfl, hk, hq, HQ⟩ := hrel
    by_cases hlt : q < l.length
    · have hqi : (q : Int) < (l.length : Int) := by omega
      have HK2 := Lib.hid (show q ≤ 70 ∧ k < q ∧ 0 < q by
        have h1 := HLN.out
        have h2 : k < 2 ^ k := Nat.lt_two_pow_self
        rw [← HQ.out] at h2
        omega)
      clear hlt
      go_wp2
      go_round
      case rel => exact ⟨k + 1, q * 2, by go_num, by go_num, by have := HK2.out; omega, by have := HK2.out; omega, Lib.hid (by rw [HQ.out, Nat.pow_succ])⟩
      case measure => have := HK2.out; simp [intOf]; omega
    · have hqi : ¬ (q : Int) < (l.length : Int) := by omega
      have hpk : P.length ≤ k := HM.out k (by rw [← HQ.out]; omega)
      have hpi : (P.length : Int) ≤ (k : Int) := by omega
      have cc := HL1.out _ H3.out.1
      clear hlt hpk hk hq
      go_wp2_with fail
      refine (check_any Z l.length j x P _ _ HPB.out H3.out.2.2.rd).mono ?_
      rintro en v4 ⟨rfl, hb⟩
      rw [HI.out]
      have H4 := Lib.hid (And.intro (H3.out.1.trans (hb.mono H3.out.1.size)) (And.intro (H3.out.2.1.below hb) (H3.out.2.2.below hb)))
      clear cc
      clear hb
      go_wp2_with fail
      refine (alive_any _).mono ?_
      rintro en v5 ⟨rfl, hb⟩
      have H5 := Lib.hid (And.intro (H4.out.1.trans (hb.mono H4.out.1.size)) (And.intro (H4.out.2.1.below hb) (H4.out.2.2.below hb)))
      clear hb
      go_wp2
      exact HR.out _ _ ⟨rfl, H5.out.1⟩
theorem law_proves (lv : Value) (l : List ByteArray) (i : Int) (w : World) (hl : Rd strE w lv l) :
    Calls Try.prog 5 #[lv, .int .i64 i] w fun e w' => e = .returned (.bool true) ∧ Below w.heap.size w w' := by
  by_cases hf : l.length ≤ 70 ∧ bytesN l ≤ 5000
  · by_cases h : wholeL l = true ∧ 0 ≤ i ∧ i < l.length
    · obtain ⟨j, rfl⟩ : ∃ j : Nat, i = (j : Int) := ⟨i.toNat, by omega⟩
      exact proves_yes lv l j w hl hf h.1 (by omega)
    · exact proves_no lv l i w hl hf h
  · exact proves_few lv l i w hl hf
end Go.Proofs.Ytophfeapmmfppaa
