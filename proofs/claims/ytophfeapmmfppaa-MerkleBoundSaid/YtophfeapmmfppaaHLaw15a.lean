/- The law MerkleRoots: what its walk gives. -/
import Derived.Test.YtophfeapmmfppaaM5
import Derived.Test.YtophfeapmmfppaaM6
namespace Ks
open Go
theorem leaf_cat (s : ByteArray) : shaS (ByteArray.mk #[0] ++ s).data.toList = leafS s := by
  cases s with | mk d => cases d with | mk l => rw [ByteArray.mk_append_one]; rfl
theorem node_cat (s t : ByteArray) : shaS (ByteArray.mk #[1] ++ s ++ t).data.toList = nodeS s t := by rw [inside_cat]; rfl
theorem leaf_cat_size (s : ByteArray) : (ByteArray.mk #[0] ++ s).size = 1 + s.size := by rw [ByteArray.size_append]; rfl
theorem bytes_len {l : List ByteArray} (h : l.length ≤ 70) : l.length ≤ 100000000 := by omega
theorem path_in {l : List ByteArray} {i : Nat} (hw : wholeL l = true) (hi : i < l.length) : pathE l i = 0 ∧ pathV l i = pathL l i := by
  have h : wholeL l = true ∧ (0 : Int) ≤ (i : Int) ∧ (i : Int) < l.length := ⟨hw, by omega, by omega⟩
  exact ⟨by rw [pathE, if_pos h], by rw [pathV, if_pos h]; rfl⟩
theorem path_out {l : List ByteArray} {i : Int} (h : ¬ (wholeL l = true ∧ 0 ≤ i ∧ i < l.length)) : pathE l i = 2 ∧ pathV l i = [] := ⟨by rw [pathE, if_neg h], by rw [pathV, if_neg h]⟩
theorem root_whole {l : List ByteArray} (hw : wholeL l = true) : rootV l = rootL l ∧ wholeE l = 0 := ⟨by rw [rootV, if_pos hw], by rw [wholeE, if_pos hw]⟩
theorem root_nowhole {l : List ByteArray} (hw : wholeL l = false) : rootV l = ⟨#[]⟩ ∧ wholeE l = 2 := ⟨by rw [rootV, hw]; rfl, by rw [wholeE, hw]; rfl⟩
end Ks
namespace Go.Proofs.Ytophfeapmmfppaa
open Go.RowKit Ks
set_option linter.unusedVariables false
theorem eg_rtexts : ∀ args w, (callFunc 17 args).run Try.prog w = .ok (.enter 17 args) w := fun _ _ => rfl
set_option maxRecDepth 100000 in
set_option maxHeartbeats 4000000 in
theorem roots_few (lv : Value) (l : List ByteArray) (i : Int) (s t : ByteArray) (w : World) (hl : Rd strE w lv l) (hf : ¬ (l.length ≤ 70 ∧ bytesN l ≤ 5000 ∧ s.size ≤ 1000 ∧ t.size ≤ 1000)) :
    Calls Try.prog 3 #[lv, .int .i64 i, .string s, .string t] w fun e w' => e = .returned (.bool true) ∧ Below w.heap.size w w' := by
  refine calls_by fun R HR => ?_
  have HF := Lib.hid (few_any l lv w hl)
  obtain ⟨a, cap, rfl, -⟩ := hl.shape
  by_cases h1 : l.length ≤ 70 ∧ bytesN l ≤ 5000
  · rw [decide_eq_true h1] at HF
    have hst : ((1000 : Int) < (s.size : Int)) ∨ (¬ (1000 : Int) < (s.size : Int) ∧ (1000 : Int) < (t.size : Int)) := by
      by_cases h2 : s.size ≤ 1000
      · have : ¬ t.size ≤ 1000 := fun h3 => hf ⟨h1.1, h1.2, h2, h3⟩
        omega
      · omega
    clear h1 hf hl
    rcases hst with hs1 | ⟨hs1, ht1⟩
    all_goals
      go_enter Try.func3, Try.ntmps3
      go_wp2_with fail
      refine HF.out.mono ?_
      rintro e w1 ⟨rfl, hw⟩
      rw [hw]
      clear hw
      go_wp2_with fail
      refine (alive_any _).mono ?_
      rintro e w2 ⟨rfl, hb⟩
      have HB := Lib.hid hb
      clear hb
      go_wp2
      exact HR.out _ _ ⟨rfl, HB.out⟩
  · rw [decide_eq_false h1] at HF
    clear h1 hf hl
    go_enter Try.func3, Try.ntmps3
    go_wp2_with fail
    refine HF.out.mono ?_
    rintro e w1 ⟨rfl, hw⟩
    rw [hw]
    clear hw
    go_wp2_with fail
    refine (alive_any _).mono ?_
    rintro e w2 ⟨rfl, hb⟩
    have HB := Lib.hid hb
    clear hb
    go_wp2
    exact HR.out _ _ ⟨rfl, HB.out⟩
set_option maxRecDepth 100000 in
set_option maxHeartbeats 4000000 in
theorem roots_no (lv : Value) (l : List ByteArray) (i : Int) (s t : ByteArray) (w : World) (hl : Rd strE w lv l) (f1 : l.length ≤ 70) (f2 : bytesN l ≤ 5000) (f3 : s.size ≤ 1000) (f4 : t.size ≤ 1000) (hw : wholeL l = false) :
    Calls Try.prog 3 #[lv, .int .i64 i, .string s, .string t] w fun e w' => e = .returned (.bool true) ∧ Below w.heap.size w w' := by
  refine calls_by fun R HR => ?_
  have HF := Lib.hid (few_any l lv w hl)
  obtain ⟨a, cap, rfl, -⟩ := hl.shape
  have hd : decide (l.length ≤ 70 ∧ bytesN l ≤ 5000) = true := decide_eq_true ⟨f1, f2⟩
  rw [hd] at HF
  have hs1 : ¬ (1000 : Int) < (s.size : Int) := by omega
  have ht1 : ¬ (1000 : Int) < (t.size : Int) := by omega
  have hs2 : ¬ 9223372036854775807 < 1 + s.size := by omega
  have ht2 : ¬ 9223372036854775807 < 1 + s.size + t.size := by omega
  have HRt := Lib.hid (fun w (h : Rd strE w (.slice a l.length cap) l) => root_any _ l w h (bytes_len f1))
  have HPt := Lib.hid (fun w (h : Rd strE w (.slice a l.length cap) l) => path_any _ l i w h (bytes_len f1))
  have HW := Lib.hid (fun w (h : Rd strE w (.slice a l.length cap) l) => rwhole_any _ l w h (by omega))
  have HL := Lib.hid (fun w => leaf_any s w (by omega))
  have HN := Lib.hid (fun w => node_any s t w (by omega) (by omega))
  have HL2 := Lib.hid (fun w => sum1_any (ByteArray.mk #[0] ++ s) 9 w (by rw [leaf_cat_size]; omega))
  have HN2 := Lib.hid (fun w => sum1_any (ByteArray.mk #[1] ++ s ++ t) 9 w (by rw [inside_cat, inside_size]; omega))
  simp only [leaf_cat] at HL2
  simp only [node_cat] at HN2
  have HD := Lib.hid hl
  have HB := Lib.hid f1
  have hv := root_nowhole hw
  have hp := path_out (l := l) (i := i) (fun h => by rw [hw] at h; cases h.1)
  simp only [hv] at HRt
  simp only [hp] at HPt
  simp only [hw] at HW
  clear hv hp hw
  clear f1 f2 f3 f4 hd hl
  go_enter Try.func3, Try.ntmps3
  go_wp2_with fail
  refine HF.out.mono ?_
  rintro e w1 ⟨rfl, hw⟩
  rw [hw]
  clear hw
  go_wp2_with fail
  refine (HRt.out _ HD.out).mono ?_
  rintro e w2 ⟨rfl, hb⟩
  have H2 := Lib.hid (And.intro hb (HD.out.below hb))
  clear hb
  go_wp2_with fail
  refine (HPt.out _ H2.out.2).mono ?_
  rintro e w3 ⟨pv, rfl, hrow, hb⟩
  have H3 := Lib.hid (And.intro (H2.out.1.trans (hb.mono H2.out.1.size)) (And.intro (H2.out.2.below hb) hrow))
  obtain ⟨pa, pc, rfl, -⟩ := hrow.shape
  simp only [List.length_nil] at H3 ⊢
  clear hb hrow
  go_wp2_with fail
  refine (HL.out _).mono ?_
  rintro e w4 ⟨rfl, hb⟩
  have H4 := Lib.hid (And.intro (H3.out.1.trans (hb.mono H3.out.1.size)) (And.intro (H3.out.2.1.below hb) (H3.out.2.2.below hb)))
  clear hb
  go_wp2_with fail
  refine (HL2.out _).mono ?_
  rintro e w5 ⟨rfl, hb⟩
  have H5 := Lib.hid (And.intro (H4.out.1.trans (hb.mono H4.out.1.size)) (And.intro (H4.out.2.1.below hb) (H4.out.2.2.below hb)))
  clear hb
  go_wp2_with fail
  refine (HN.out _).mono ?_
  rintro e w6 ⟨rfl, hb⟩
  have H6 := Lib.hid (And.intro (H5.out.1.trans (hb.mono H5.out.1.size)) (And.intro (H5.out.2.1.below hb) (H5.out.2.2.below hb)))
  clear hb
  go_wp2_with fail
  refine (HN2.out _).mono ?_
  rintro e w7 ⟨rfl, hb⟩
  have H7 := Lib.hid (And.intro (H6.out.1.trans (hb.mono H6.out.1.size)) (And.intro (H6.out.2.1.below hb) (H6.out.2.2.below hb)))
  clear hb
  go_wp2_with fail
  refine (HW.out _ H7.out.2.1).mono ?_
  rintro e w8 ⟨rfl, hw8⟩
  rw [hw8]
  clear hw8 w8
  go_wp2_with fail
  refine (alive_any _).mono ?_
  rintro e w9 ⟨rfl, hb⟩
  have HE := Lib.hid (H7.out.1.trans (hb.mono H7.out.1.size))
  clear hb
  go_wp2
  exact HR.out _ _ ⟨rfl, HE.out⟩
set_option maxRecDepth 100000 in
set_option maxHeartbeats 4000000 in
theorem roots_out (lv : Value) (l : List ByteArray) (i : Int) (s t : ByteArray) (w : World) (hl : Rd strE w lv l) (f1 : l.length ≤ 70) (f2 : bytesN l ≤ 5000) (f3 : s.size ≤ 1000) (f4 : t.size ≤ 1000) (hw : wholeL l = true) (ho : i < 0 ∨ (¬ i < 0 ∧ (l.length : Int) ≤ i)) :
    Calls Try.prog 3 #[lv, .int .i64 i, .string s, .string t] w fun e w' => e = .returned (.bool true) ∧ Below w.heap.size w w' := by
  refine calls_by fun R HR => ?_
  have HF := Lib.hid (few_any l lv w hl)
  obtain ⟨a, cap, rfl, -⟩ := hl.shape
  have hd : decide (l.length ≤ 70 ∧ bytesN l ≤ 5000) = true := decide_eq_true ⟨f1, f2⟩
  rw [hd] at HF
  have hs1 : ¬ (1000 : Int) < (s.size : Int) := by omega
  have ht1 : ¬ (1000 : Int) < (t.size : Int) := by omega
  have hs2 : ¬ 9223372036854775807 < 1 + s.size := by omega
  have ht2 : ¬ 9223372036854775807 < 1 + s.size + t.size := by omega
  have HRt := Lib.hid (fun w (h : Rd strE w (.slice a l.length cap) l) => root_any _ l w h (bytes_len f1))
  have HPt := Lib.hid (fun w (h : Rd strE w (.slice a l.length cap) l) => path_any _ l i w h (bytes_len f1))
  have HW := Lib.hid (fun w (h : Rd strE w (.slice a l.length cap) l) => rwhole_any _ l w h (by omega))
  have HL := Lib.hid (fun w => leaf_any s w (by omega))
  have HN := Lib.hid (fun w => node_any s t w (by omega) (by omega))
  have HL2 := Lib.hid (fun w => sum1_any (ByteArray.mk #[0] ++ s) 9 w (by rw [leaf_cat_size]; omega))
  have HN2 := Lib.hid (fun w => sum1_any (ByteArray.mk #[1] ++ s ++ t) 9 w (by rw [inside_cat, inside_size]; omega))
  simp only [leaf_cat] at HL2
  simp only [node_cat] at HN2
  have HD := Lib.hid hl
  have HB := Lib.hid f1
  have hv := root_whole hw
  have HQ := Lib.hid (fun w (h : Rd strE w (.slice a l.length cap) l) => rroot_any l.length l _ w rfl (bytes_len f1) h hw)
  simp only [hv] at HRt
  simp only [hw] at HW
  generalize rootL l = Z at *
  have hp := path_out (l := l) (i := i) (fun h => by omega)
  simp only [hp] at HPt
  clear hv hp hw
  clear f1 f2 f3 f4 hd hl
  go_enter Try.func3, Try.ntmps3
  go_wp2_with fail
  refine HF.out.mono ?_
  rintro e w1 ⟨rfl, hw⟩
  rw [hw]
  clear hw
  go_wp2_with fail
  refine (HRt.out _ HD.out).mono ?_
  rintro e w2 ⟨rfl, hb⟩
  have H2 := Lib.hid (And.intro hb (HD.out.below hb))
  clear hb
  go_wp2_with fail
  refine (HPt.out _ H2.out.2).mono ?_
  rintro e w3 ⟨pv, rfl, hrow, hb⟩
  have H3 := Lib.hid (And.intro (H2.out.1.trans (hb.mono H2.out.1.size)) (And.intro (H2.out.2.below hb) hrow))
  obtain ⟨pa, pc, rfl, -⟩ := hrow.shape
  simp only [List.length_nil] at H3 ⊢
  clear hb hrow
  go_wp2_with fail
  refine (HL.out _).mono ?_
  rintro e w4 ⟨rfl, hb⟩
  have H4 := Lib.hid (And.intro (H3.out.1.trans (hb.mono H3.out.1.size)) (And.intro (H3.out.2.1.below hb) (H3.out.2.2.below hb)))
  clear hb
  go_wp2_with fail
  refine (HL2.out _).mono ?_
  rintro e w5 ⟨rfl, hb⟩
  have H5 := Lib.hid (And.intro (H4.out.1.trans (hb.mono H4.out.1.size)) (And.intro (H4.out.2.1.below hb) (H4.out.2.2.below hb)))
  clear hb
  go_wp2_with fail
  refine (HN.out _).mono ?_
  rintro e w6 ⟨rfl, hb⟩
  have H6 := Lib.hid (And.intro (H5.out.1.trans (hb.mono H5.out.1.size)) (And.intro (H5.out.2.1.below hb) (H5.out.2.2.below hb)))
  clear hb
  go_wp2_with fail
  refine (HN2.out _).mono ?_
  rintro e w7 ⟨rfl, hb⟩
  have H7 := Lib.hid (And.intro (H6.out.1.trans (hb.mono H6.out.1.size)) (And.intro (H6.out.2.1.below hb) (H6.out.2.2.below hb)))
  clear hb
  go_wp2_with fail
  refine (HW.out _ H7.out.2.1).mono ?_
  rintro e w8 ⟨rfl, hw8⟩
  rw [hw8]
  clear hw8 w8
  go_wp2_with fail
  refine (HQ.out _ H7.out.2.1).mono ?_
  rintro e w9 ⟨rfl, hb⟩
  have H9 := Lib.hid (And.intro (H7.out.1.trans (hb.mono H7.out.1.size)) (And.intro (H7.out.2.1.below hb) (H7.out.2.2.below hb)))
  clear hb
  rcases ho with ho | ⟨ho, ho2⟩
  all_goals
    go_wp2_with fail
    refine (alive_any _).mono ?_
    rintro e w10 ⟨rfl, hb⟩
    have HE := Lib.hid (H9.out.1.trans (hb.mono H9.out.1.size))
    clear hb
    go_wp2
    exact HR.out _ _ ⟨rfl, HE.out⟩
set_option maxRecDepth 100000 in
set_option maxHeartbeats 4000000 in
theorem roots_in (lv : Value) (l : List ByteArray) (i : Int) (s t : ByteArray) (w : World) (hl : Rd strE w lv l) (f1 : l.length ≤ 70) (f2 : bytesN l ≤ 5000) (f3 : s.size ≤ 1000) (f4 : t.size ≤ 1000) (hw : wholeL l = true) (j : Nat) (hj : i = (j : Int)) (hjl : j < l.length) :
    Calls Try.prog 3 #[lv, .int .i64 i, .string s, .string t] w fun e w' => e = .returned (.bool true) ∧ Below w.heap.size w w' := by
  refine calls_by fun R HR => ?_
  subst hj
  have HF := Lib.hid (few_any l lv w hl)
  obtain ⟨a, cap, rfl, -⟩ := hl.shape
  have hd : decide (l.length ≤ 70 ∧ bytesN l ≤ 5000) = true := decide_eq_true ⟨f1, f2⟩
  rw [hd] at HF
  have hs1 : ¬ (1000 : Int) < (s.size : Int) := by omega
  have ht1 : ¬ (1000 : Int) < (t.size : Int) := by omega
  have hs2 : ¬ 9223372036854775807 < 1 + s.size := by omega
  have ht2 : ¬ 9223372036854775807 < 1 + s.size + t.size := by omega
  have HRt := Lib.hid (fun w (h : Rd strE w (.slice a l.length cap) l) => root_any _ l w h (bytes_len f1))
  have HPt := Lib.hid (fun w (h : Rd strE w (.slice a l.length cap) l) => path_any _ l (j : Int) w h (bytes_len f1))
  have HW := Lib.hid (fun w (h : Rd strE w (.slice a l.length cap) l) => rwhole_any _ l w h (by omega))
  have HL := Lib.hid (fun w => leaf_any s w (by omega))
  have HN := Lib.hid (fun w => node_any s t w (by omega) (by omega))
  have HL2 := Lib.hid (fun w => sum1_any (ByteArray.mk #[0] ++ s) 9 w (by rw [leaf_cat_size]; omega))
  have HN2 := Lib.hid (fun w => sum1_any (ByteArray.mk #[1] ++ s ++ t) 9 w (by rw [inside_cat, inside_size]; omega))
  simp only [leaf_cat] at HL2
  simp only [node_cat] at HN2
  have HD := Lib.hid hl
  have HB := Lib.hid f1
  have hv := root_whole hw
  have HQ := Lib.hid (fun w (h : Rd strE w (.slice a l.length cap) l) => rroot_any l.length l _ w rfl (bytes_len f1) h hw)
  simp only [hv] at HRt
  simp only [hw] at HW
  generalize rootL l = Z at *
  have hp := path_in hw hjl
  have HRP := Lib.hid (fun w (h : Rd strE w (.slice a l.length cap) l) => rpath_any l.length l j _ w rfl (bytes_len f1) hjl h hw)
  have hpl := path_len l.length l j rfl
  simp only [hp] at HPt
  have h0 : ¬ (j : Int) < 0 := by omega
  have h1 : ¬ (l.length : Int) ≤ (j : Int) := by omega
  have HPL := Lib.hid (show (pathL l j).length ≤ maxLen by unfold maxLen; omega)
  generalize pathL l j = P at *
  clear hv hp hw hpl hjl
  clear f1 f2 f3 f4 hd hl
  go_enter Try.func3, Try.ntmps3
  go_wp2_with fail
  refine HF.out.mono ?_
  rintro e w1 ⟨rfl, hw⟩
  rw [hw]
  clear hw
  go_wp2_with fail
  refine (HRt.out _ HD.out).mono ?_
  rintro e w2 ⟨rfl, hb⟩
  have H2 := Lib.hid (And.intro hb (HD.out.below hb))
  clear hb
  go_wp2_with fail
  refine (HPt.out _ H2.out.2).mono ?_
  rintro e w3 ⟨pv, rfl, hrow, hb⟩
  have H3 := Lib.hid (And.intro (H2.out.1.trans (hb.mono H2.out.1.size)) (And.intro (H2.out.2.below hb) hrow))
  obtain ⟨pa, pc, rfl, -⟩ := hrow.shape
  clear hb hrow
  go_wp2_with fail
  refine (HL.out _).mono ?_
  rintro e w4 ⟨rfl, hb⟩
  have H4 := Lib.hid (And.intro (H3.out.1.trans (hb.mono H3.out.1.size)) (And.intro (H3.out.2.1.below hb) (H3.out.2.2.below hb)))
  clear hb
  go_wp2_with fail
  refine (HL2.out _).mono ?_
  rintro e w5 ⟨rfl, hb⟩
  have H5 := Lib.hid (And.intro (H4.out.1.trans (hb.mono H4.out.1.size)) (And.intro (H4.out.2.1.below hb) (H4.out.2.2.below hb)))
  clear hb
  go_wp2_with fail
  refine (HN.out _).mono ?_
  rintro e w6 ⟨rfl, hb⟩
  have H6 := Lib.hid (And.intro (H5.out.1.trans (hb.mono H5.out.1.size)) (And.intro (H5.out.2.1.below hb) (H5.out.2.2.below hb)))
  clear hb
  go_wp2_with fail
  refine (HN2.out _).mono ?_
  rintro e w7 ⟨rfl, hb⟩
  have H7 := Lib.hid (And.intro (H6.out.1.trans (hb.mono H6.out.1.size)) (And.intro (H6.out.2.1.below hb) (H6.out.2.2.below hb)))
  clear hb
  go_wp2_with fail
  refine (HW.out _ H7.out.2.1).mono ?_
  rintro e w8 ⟨rfl, hw8⟩
  rw [hw8]
  clear hw8 w8
  go_wp2_with fail
  refine (HQ.out _ H7.out.2.1).mono ?_
  rintro e w9 ⟨rfl, hb⟩
  have H9 := Lib.hid (And.intro (H7.out.1.trans (hb.mono H7.out.1.size)) (And.intro (H7.out.2.1.below hb) (H7.out.2.2.below hb)))
  clear hb
  go_wp2_with fail
  refine (HRP.out _ H9.out.2.1).mono ?_
  rintro e w10 ⟨qv, rfl, hrow, hb⟩
  have H10 := Lib.hid (And.intro (H9.out.1.trans (hb.mono H9.out.1.size)) (And.intro (H9.out.2.2.below hb) hrow))
  obtain ⟨qa, qc, rfl, -⟩ := hrow.shape
  clear hb hrow
  go_wp2_with fail
  refine (texts_any _ _ P P _ H10.out.2.1.rd H10.out.2.2.rd HPL.out HPL.out).mono ?_
  rintro e w11 ⟨bb, rfl, hbb, hb⟩
  obtain rfl : bb = true := hbb.2 rfl
  have H11 := Lib.hid (H10.out.1.trans (hb.mono H10.out.1.size))
  clear hb hbb
  go_wp2_with fail
  refine (alive_any _).mono ?_
  rintro e w12 ⟨rfl, hb⟩
  have HE := Lib.hid (H11.out.trans (hb.mono H11.out.size))
  clear hb
  go_wp2
  exact HR.out _ _ ⟨rfl, HE.out⟩
theorem law_roots (lv : Value) (l : List ByteArray) (i : Int) (s t : ByteArray) (w : World) (hl : Rd strE w lv l) :
    Calls Try.prog 3 #[lv, .int .i64 i, .string s, .string t] w fun e w' => e = .returned (.bool true) ∧ Below w.heap.size w w' := by
  by_cases hf : l.length ≤ 70 ∧ bytesN l ≤ 5000 ∧ s.size ≤ 1000 ∧ t.size ≤ 1000
  · obtain ⟨f1, f2, f3, f4⟩ := hf
    cases hw : wholeL l
    · exact roots_no lv l i s t w hl f1 f2 f3 f4 hw
    · by_cases h0 : i < 0
      · exact roots_out lv l i s t w hl f1 f2 f3 f4 hw (.inl h0)
      by_cases h1 : (l.length : Int) ≤ i
      · exact roots_out lv l i s t w hl f1 f2 f3 f4 hw (.inr ⟨h0, h1⟩)
      · exact roots_in lv l i s t w hl f1 f2 f3 f4 hw i.toNat (by omega) (by omega)
  · exact roots_few lv l i s t w hl hf
end Go.Proofs.Ytophfeapmmfppaa
