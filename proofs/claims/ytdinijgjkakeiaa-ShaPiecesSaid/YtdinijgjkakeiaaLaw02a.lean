/- The chapter's example; the laws ShaSums, ShaSteps and ShaNil: what the walks give. -/
import Derived.Test.YtdinijgjkakeiaaShaStep
import Derived.Test.YtdinijgjkakeiaaShaRSum
import Derived.Test.YtdinijgjkakeiaaShaAbc
namespace Ks
open Go Go.RowKit
set_option linter.unusedVariables false
/-- a text's sum, as a string -/
def shaS (l : List UInt8) : ByteArray := ⟨(shaL l).toArray⟩
theorem shaS_eq (l : List UInt8) : (⟨(shaL l).toArray⟩ : ByteArray) = shaS l := rfl
theorem join_one (s : ByteArray) : joinL [s] = s.data.toList := by simp [joinL]
theorem Rd.one (w : World) (s : ByteArray) (T : TypeId) : Rd strE (w.alloc (.cells #[.string s] T)) (.slice (some ⟨w.heap.size, 0, none⟩) 1 1) [s] :=
  Rd.single s (alloc_new w _) rfl
theorem abc_shaS : shaS [97, 98, 99] = ⟨abcL.toArray⟩ := by rw [← shaS_eq, abc_sum]
end Ks
namespace Go.Proofs.Ytdinijgjkakeiaa
open Go.RowKit Ks
set_option linter.unusedVariables false

/-- the sum of one text, that lies in a new block -/
theorem sum1_any (s : ByteArray) (T : TypeId) (w : World) (h : s.size ≤ 50000000000) :
    Calls Try.prog 9 #[.slice (some ⟨w.heap.size, 0, none⟩) 1 1] (w.alloc (.cells #[.string s] T)) fun e w' => e = .returned (.string (shaS s.data.toList)) ∧ Below w.heap.size w w' :=
  (sumv_any [s] _ _ (Rd.one w s T) (by rw [join_one, data_length]; exact h) (by simp)).mono fun e w' ⟨h1, h2⟩ => ⟨by rw [h1, join_one, shaS_eq], (alloc_below w _).trans (h2.mono (by simp))⟩

set_option maxHeartbeats 1000000 in
theorem alive_any (w : World) : Calls Try.prog 11 #[] w fun e w' => e = .returned (.bool true) ∧ Below w.heap.size w w' := by
  refine calls_by fun R HR => ?_
  have HA := Lib.hid abc_shaS
  go_enter Try.func11, Try.ntmps11
  go_wp2_with fail
  refine (sum1_any ⟨#[97, 98, 99]⟩ _ w (by decide)).mono ?_
  rintro e w1 ⟨rfl, hb⟩
  rw [show shaS (ByteArray.mk #[97, 98, 99]).data.toList = ⟨abcL.toArray⟩ from HA.out]
  have HB := Lib.hid hb
  clear hb
  go_wp2_with fail
  refine (sumv_any [⟨#[97]⟩, ⟨#[]⟩, ⟨#[98, 99]⟩] _ _ (Rd.block (alloc_new w1 _) rfl) (by decide) (by decide)).mono ?_
  rintro e w2 ⟨rfl, hb⟩
  rw [shaS_eq, show shaS (joinL [⟨#[97]⟩, ⟨#[]⟩, ⟨#[98, 99]⟩]) = ⟨abcL.toArray⟩ from HA.out]
  have HB2 := Lib.hid (HB.out.trans (((alloc_below w1 _).trans (hb.mono (by simp))).mono HB.out.size))
  clear hb
  go_wp2
  exact HR.out _ _ ⟨rfl, HB2.out⟩

set_option maxHeartbeats 1000000 in
theorem law_sums (s : ByteArray) (w : World) : Calls Try.prog 3 #[.string s] w fun e w' => e = .returned (.bool true) ∧ Below w.heap.size w w' := by
  refine calls_by fun R HR => ?_
  by_cases h : s.size ≤ 1000
  · have hh : ¬ (1000 : Int) < s.size := by omega
    go_enter Try.func3, Try.ntmps3
    go_wp2_with fail
    refine (sum1_any s _ w (by omega)).mono ?_
    rintro e w1 ⟨rfl, hb⟩
    have HB := Lib.hid hb
    clear hb
    go_wp2_with fail
    refine (rsum_any s _ (by omega)).mono ?_
    rintro e w2 ⟨rfl, hb⟩
    rw [shaS_eq]
    have HB2 := Lib.hid (HB.out.trans (hb.mono HB.out.size))
    clear hb
    go_wp2_with fail
    refine (alive_any _).mono ?_
    rintro e w3 ⟨rfl, hb⟩
    have HB3 := Lib.hid (HB2.out.trans (hb.mono HB2.out.size))
    clear hb
    go_wp2
    exact HR.out _ _ ⟨rfl, HB3.out⟩
  · have hh : (1000 : Int) < s.size := by omega
    go_enter Try.func3, Try.ntmps3
    go_wp2_with fail
    refine (alive_any _).mono ?_
    rintro e w3 ⟨rfl, hb⟩
    go_wp2
    exact HR.out _ _ ⟨rfl, hb⟩

set_option maxHeartbeats 1000000 in
theorem law_nil (s : ByteArray) (t : Bool) (w : World) : Calls Try.prog 8 #[.string s, .bool t] w fun e w' => e = .returned (.bool true) ∧ Below w.heap.size w w' := by
  refine calls_by fun R HR => ?_
  obtain ⟨W, v, hW, hv, hb⟩ : ∃ W v, (W = if t then w.alloc (.cells #[.bool false, .int .u32 0, .int .u32 0, .int .u32 0, .int .u32 0, .int .u32 0, .int .u32 0, .int .u32 0, .int .u32 0, .string ⟨#[]⟩, .int .i64 0] 51) else w) ∧ (v = if t then Value.pointer (some ⟨w.heap.size, 0, none⟩) else .pointer none) ∧ Below w.heap.size w W := by
    cases t
    · exact ⟨_, _, rfl, rfl, Below.refl _ _⟩
    · exact ⟨_, _, rfl, rfl, alloc_below _ _⟩
  have hD : DeadHash W 51 v := by
    cases t
    · left; simpa using hv
    · right
      refine ⟨w.heap.size, by simpa using hv, ?_⟩
      simp only [if_true] at hW
      rw [hW, cell_of_row _ _ 0 _ _ _ (alloc_new _ _)]; rfl
  have HD := Lib.hid hD
  have HB := Lib.hid hb
  have HV := Lib.hid hv
  have HW := Lib.hid hW
  clear hD hb hv hW
  cases t
  all_goals
    simp only [Bool.false_eq_true, if_true, if_false] at HV HW
    go_enter Try.func8, Try.ntmps8
    go_wp2_with fail
    rw [← HW.out, ← HV.out]
    refine (hput_no _ s _ HD.out).mono ?_
    rintro e w1 ⟨rfl, rfl⟩
    go_wp2_with fail
    refine (hsum_no _ _ HD.out).mono ?_
    rintro e w1 ⟨rfl, rfl⟩
    go_wp2_with fail
    refine (hlen_no _ _ HD.out).mono ?_
    rintro e w1 ⟨rfl, rfl⟩
    go_wp2_with fail
    refine (hcopy_no _ _ HD.out).mono ?_
    rintro e w1 ⟨rfl, rfl⟩
    go_wp2_with fail
    refine (alive_any _).mono ?_
    rintro e w3 ⟨rfl, hb⟩
    go_wp2
    exact HR.out _ _ ⟨rfl, HB.out.trans (hb.mono HB.out.size)⟩

set_option maxHeartbeats 2000000 in
theorem law_steps (s bl : ByteArray) (n : Int) (w : World) (hn : -9223372036854775808 ≤ n ∧ n ≤ 9223372036854775807) : Calls Try.prog 5 #[.string s, .string bl, .int .i64 n] w fun e w' => e = .returned (.bool true) ∧ Below w.heap.size w w' := by
  refine calls_by fun R HR => ?_
  obtain ⟨hn1, hn2⟩ := hn
  obtain ⟨X, ec, HX, HY, hcase⟩ : ∃ (X : ByteArray) (ec : Int), Hid (∀ w, Calls Try.prog 12 #[.string s, .string bl] w fun e w' => e = .returned (.tuple #[.string X, .int .i64 ec]) ∧ Below w.heap.size w w') ∧
      Hid (s.size = 32 → bl.size = 64 → ∀ w, Calls Try.prog 16 #[.string s, .string bl] w fun e w' => e = .returned (.string X) ∧ Below w.heap.size w w') ∧
      (((s.size = 32 ∧ bl.size = 64) ∧ ec = 0) ∨ (¬ (s.size = 32 ∧ bl.size = 64) ∧ X = ⟨#[]⟩ ∧ ec = 2)) := by
    by_cases h : s.size = 32 ∧ bl.size = 64
    · exact ⟨_, 0, Lib.hid fun w => pstep_any s bl w h.1 h.2, Lib.hid fun h1 h2 w => rstep_any s bl w h1 h2, Or.inl ⟨h, rfl⟩⟩
    · exact ⟨⟨#[]⟩, 2, Lib.hid fun w => (pstep_err s bl w (by omega)).mono fun e w' ⟨h1, h2⟩ => ⟨h1, by rw [h2]; exact Below.refl _ _⟩, Lib.hid fun h1 h2 => absurd ⟨h1, h2⟩ h, Or.inr ⟨h, rfl, rfl⟩⟩
  obtain ⟨Y, fc, HP, HQ, pcase⟩ : ∃ (Y : ByteArray) (fc : Int), Hid (∀ w, Calls Try.prog 17 #[.int .i64 n] w fun e w' => e = .returned (.tuple #[.string Y, .int .i64 fc]) ∧ Below w.heap.size w w') ∧
      Hid (0 ≤ n → n ≤ 576460752303423488 → ∀ w, Calls Try.prog 21 #[.int .i64 n] w fun e w' => e = .returned (.string Y) ∧ Below w.heap.size w w') ∧
      ((0 ≤ n ∧ n ≤ 576460752303423488 ∧ fc = 0) ∨ (n < 0 ∧ Y = ⟨#[]⟩ ∧ fc = 2) ∨ (576460752303423488 < n ∧ Y = ⟨#[]⟩ ∧ fc = 2)) := by
    by_cases h : 0 ≤ n ∧ n ≤ 576460752303423488
    · obtain ⟨m, rfl⟩ := Int.eq_ofNat_of_zero_le h.1
      exact ⟨_, 0, Lib.hid fun w => pad_any m w (by omega), Lib.hid fun h1 h2 w => rpad_any m w (by omega), Or.inl ⟨h.1, h.2, rfl⟩⟩
    · refine ⟨⟨#[]⟩, 2, Lib.hid fun w => (pad_err n w (by omega)).mono fun e w' ⟨h1, h2⟩ => ⟨h1, by rw [h2]; exact Below.refl _ _⟩, Lib.hid fun h1 h2 => absurd ⟨h1, h2⟩ h, ?_⟩
      rcases Int.lt_or_le n 0 with h1 | h1
      · exact Or.inr (Or.inl ⟨h1, rfl, rfl⟩)
      · exact Or.inr (Or.inr ⟨by omega, rfl, rfl⟩)
  have H1 : Hid (∀ w, Calls Try.prog 18 #[] w fun e w' => e = .returned (.string ⟨(textL st0).toArray⟩) ∧ Below w.heap.size w w') := Lib.hid firstS_any
  have H2 : Hid (∀ w, Calls Try.prog 19 #[.agg (i64s st0.list)] w fun e w' => e = .returned (.string ⟨(textL st0).toArray⟩) ∧ Below w.heap.size w w') := Lib.hid fun w => rtext_any st0 w st0_ok
  obtain ⟨Z, hZ⟩ : ∃ Z, (⟨(textL st0).toArray⟩ : ByteArray) = Z := ⟨_, rfl⟩
  rw [hZ] at H1 H2
  clear hZ
  rcases hcase with ⟨⟨h1, h2⟩, rfl⟩ | ⟨h, rfl, rfl⟩
  · have g1 : ((s.size : Int) != 32) = false := by rw [h1]; rfl
    have g2 : ((bl.size : Int) != 64) = false := by rw [h2]; rfl
    have HH := Lib.hid (And.intro h1 h2)
    clear h1 h2
    rcases pcase with ⟨p1, p2, rfl⟩ | ⟨p1, rfl, rfl⟩ | ⟨p1, rfl, rfl⟩
    · skip
      go_enter Try.func5, Try.ntmps5
      go_wp2_with fail
      refine (HX.out _).mono ?_
      rintro e w1 ⟨rfl, hb⟩
      have HB1 := Lib.hid (hb)
      clear hb
      go_wp2_with fail
      refine (HY.out HH.out.1 HH.out.2 _).mono ?_
      rintro e w2 ⟨rfl, hb⟩
      have HB2 := Lib.hid (HB1.out.trans (hb.mono HB1.out.size))
      clear hb
      go_wp2_with fail
      refine (HP.out _).mono ?_
      rintro e w3 ⟨rfl, hb⟩
      have HB3 := Lib.hid (HB2.out.trans (hb.mono HB2.out.size))
      clear hb
      go_wp2_with fail
      refine (HQ.out p1 p2 _).mono ?_
      rintro e w4 ⟨rfl, hb⟩
      have HB4 := Lib.hid (HB3.out.trans (hb.mono HB3.out.size))
      clear hb
      go_wp2_with fail
      refine (H1.out _).mono ?_
      rintro e w5 ⟨rfl, hb⟩
      have HB5 := Lib.hid (HB4.out.trans (hb.mono HB4.out.size))
      clear hb
      go_wp2_with fail
      refine (begin_any _).mono ?_
      rintro e w6 ⟨rfl, hb⟩
      have HB6 := Lib.hid (HB5.out.trans (hb.mono HB5.out.size))
      clear hb
      go_wp2_with fail
      refine (H2.out _).mono ?_
      rintro e w7 ⟨rfl, hb⟩
      have HB7 := Lib.hid (HB6.out.trans (hb.mono HB6.out.size))
      clear hb
      go_wp2_with fail
      refine (alive_any _).mono ?_
      rintro e w8 ⟨rfl, hb⟩
      have HB8 := Lib.hid (HB7.out.trans (hb.mono HB7.out.size))
      clear hb
      go_wp2
      exact HR.out _ _ ⟨rfl, HB8.out⟩
    · skip
      go_enter Try.func5, Try.ntmps5
      go_wp2_with fail
      refine (HX.out _).mono ?_
      rintro e w1 ⟨rfl, hb⟩
      have HB1 := Lib.hid (hb)
      clear hb
      go_wp2_with fail
      refine (HY.out HH.out.1 HH.out.2 _).mono ?_
      rintro e w2 ⟨rfl, hb⟩
      have HB2 := Lib.hid (HB1.out.trans (hb.mono HB1.out.size))
      clear hb
      go_wp2_with fail
      refine (HP.out _).mono ?_
      rintro e w3 ⟨rfl, hb⟩
      have HB3 := Lib.hid (HB2.out.trans (hb.mono HB2.out.size))
      clear hb
      go_wp2_with fail
      refine (H1.out _).mono ?_
      rintro e w4 ⟨rfl, hb⟩
      have HB4 := Lib.hid (HB3.out.trans (hb.mono HB3.out.size))
      clear hb
      go_wp2_with fail
      refine (begin_any _).mono ?_
      rintro e w5 ⟨rfl, hb⟩
      have HB5 := Lib.hid (HB4.out.trans (hb.mono HB4.out.size))
      clear hb
      go_wp2_with fail
      refine (H2.out _).mono ?_
      rintro e w6 ⟨rfl, hb⟩
      have HB6 := Lib.hid (HB5.out.trans (hb.mono HB5.out.size))
      clear hb
      go_wp2_with fail
      refine (alive_any _).mono ?_
      rintro e w7 ⟨rfl, hb⟩
      have HB7 := Lib.hid (HB6.out.trans (hb.mono HB6.out.size))
      clear hb
      go_wp2
      exact HR.out _ _ ⟨rfl, HB7.out⟩
    · skip
      go_enter Try.func5, Try.ntmps5
      go_wp2_with fail
      refine (HX.out _).mono ?_
      rintro e w1 ⟨rfl, hb⟩
      have HB1 := Lib.hid (hb)
      clear hb
      go_wp2_with fail
      refine (HY.out HH.out.1 HH.out.2 _).mono ?_
      rintro e w2 ⟨rfl, hb⟩
      have HB2 := Lib.hid (HB1.out.trans (hb.mono HB1.out.size))
      clear hb
      go_wp2_with fail
      refine (HP.out _).mono ?_
      rintro e w3 ⟨rfl, hb⟩
      have HB3 := Lib.hid (HB2.out.trans (hb.mono HB2.out.size))
      clear hb
      go_wp2_with fail
      refine (H1.out _).mono ?_
      rintro e w4 ⟨rfl, hb⟩
      have HB4 := Lib.hid (HB3.out.trans (hb.mono HB3.out.size))
      clear hb
      go_wp2_with fail
      refine (begin_any _).mono ?_
      rintro e w5 ⟨rfl, hb⟩
      have HB5 := Lib.hid (HB4.out.trans (hb.mono HB4.out.size))
      clear hb
      go_wp2_with fail
      refine (H2.out _).mono ?_
      rintro e w6 ⟨rfl, hb⟩
      have HB6 := Lib.hid (HB5.out.trans (hb.mono HB5.out.size))
      clear hb
      go_wp2_with fail
      refine (alive_any _).mono ?_
      rintro e w7 ⟨rfl, hb⟩
      have HB7 := Lib.hid (HB6.out.trans (hb.mono HB6.out.size))
      clear hb
      go_wp2
      exact HR.out _ _ ⟨rfl, HB7.out⟩
  · rcases Classical.em (s.size = 32) with h1 | h1
    · have g1 : ((s.size : Int) != 32) = false := by rw [h1]; rfl
      have g2 : ((bl.size : Int) != 64) = true := by rw [bne_iff_ne]; omega
      clear h h1
      rcases pcase with ⟨p1, p2, rfl⟩ | ⟨p1, rfl, rfl⟩ | ⟨p1, rfl, rfl⟩
      · skip
        go_enter Try.func5, Try.ntmps5
        go_wp2_with fail
        refine (HX.out _).mono ?_
        rintro e w1 ⟨rfl, hb⟩
        have HB1 := Lib.hid (hb)
        clear hb
        go_wp2_with fail
        refine (HP.out _).mono ?_
        rintro e w2 ⟨rfl, hb⟩
        have HB2 := Lib.hid (HB1.out.trans (hb.mono HB1.out.size))
        clear hb
        go_wp2_with fail
        refine (HQ.out p1 p2 _).mono ?_
        rintro e w3 ⟨rfl, hb⟩
        have HB3 := Lib.hid (HB2.out.trans (hb.mono HB2.out.size))
        clear hb
        go_wp2_with fail
        refine (H1.out _).mono ?_
        rintro e w4 ⟨rfl, hb⟩
        have HB4 := Lib.hid (HB3.out.trans (hb.mono HB3.out.size))
        clear hb
        go_wp2_with fail
        refine (begin_any _).mono ?_
        rintro e w5 ⟨rfl, hb⟩
        have HB5 := Lib.hid (HB4.out.trans (hb.mono HB4.out.size))
        clear hb
        go_wp2_with fail
        refine (H2.out _).mono ?_
        rintro e w6 ⟨rfl, hb⟩
        have HB6 := Lib.hid (HB5.out.trans (hb.mono HB5.out.size))
        clear hb
        go_wp2_with fail
        refine (alive_any _).mono ?_
        rintro e w7 ⟨rfl, hb⟩
        have HB7 := Lib.hid (HB6.out.trans (hb.mono HB6.out.size))
        clear hb
        go_wp2
        exact HR.out _ _ ⟨rfl, HB7.out⟩
      · skip
        go_enter Try.func5, Try.ntmps5
        go_wp2_with fail
        refine (HX.out _).mono ?_
        rintro e w1 ⟨rfl, hb⟩
        have HB1 := Lib.hid (hb)
        clear hb
        go_wp2_with fail
        refine (HP.out _).mono ?_
        rintro e w2 ⟨rfl, hb⟩
        have HB2 := Lib.hid (HB1.out.trans (hb.mono HB1.out.size))
        clear hb
        go_wp2_with fail
        refine (H1.out _).mono ?_
        rintro e w3 ⟨rfl, hb⟩
        have HB3 := Lib.hid (HB2.out.trans (hb.mono HB2.out.size))
        clear hb
        go_wp2_with fail
        refine (begin_any _).mono ?_
        rintro e w4 ⟨rfl, hb⟩
        have HB4 := Lib.hid (HB3.out.trans (hb.mono HB3.out.size))
        clear hb
        go_wp2_with fail
        refine (H2.out _).mono ?_
        rintro e w5 ⟨rfl, hb⟩
        have HB5 := Lib.hid (HB4.out.trans (hb.mono HB4.out.size))
        clear hb
        go_wp2_with fail
        refine (alive_any _).mono ?_
        rintro e w6 ⟨rfl, hb⟩
        have HB6 := Lib.hid (HB5.out.trans (hb.mono HB5.out.size))
        clear hb
        go_wp2
        exact HR.out _ _ ⟨rfl, HB6.out⟩
      · skip
        go_enter Try.func5, Try.ntmps5
        go_wp2_with fail
        refine (HX.out _).mono ?_
        rintro e w1 ⟨rfl, hb⟩
        have HB1 := Lib.hid (hb)
        clear hb
        go_wp2_with fail
        refine (HP.out _).mono ?_
        rintro e w2 ⟨rfl, hb⟩
        have HB2 := Lib.hid (HB1.out.trans (hb.mono HB1.out.size))
        clear hb
        go_wp2_with fail
        refine (H1.out _).mono ?_
        rintro e w3 ⟨rfl, hb⟩
        have HB3 := Lib.hid (HB2.out.trans (hb.mono HB2.out.size))
        clear hb
        go_wp2_with fail
        refine (begin_any _).mono ?_
        rintro e w4 ⟨rfl, hb⟩
        have HB4 := Lib.hid (HB3.out.trans (hb.mono HB3.out.size))
        clear hb
        go_wp2_with fail
        refine (H2.out _).mono ?_
        rintro e w5 ⟨rfl, hb⟩
        have HB5 := Lib.hid (HB4.out.trans (hb.mono HB4.out.size))
        clear hb
        go_wp2_with fail
        refine (alive_any _).mono ?_
        rintro e w6 ⟨rfl, hb⟩
        have HB6 := Lib.hid (HB5.out.trans (hb.mono HB5.out.size))
        clear hb
        go_wp2
        exact HR.out _ _ ⟨rfl, HB6.out⟩
    · have g1 : ((s.size : Int) != 32) = true := by rw [bne_iff_ne]; omega
      clear h h1
      rcases pcase with ⟨p1, p2, rfl⟩ | ⟨p1, rfl, rfl⟩ | ⟨p1, rfl, rfl⟩
      · skip
        go_enter Try.func5, Try.ntmps5
        go_wp2_with fail
        refine (HX.out _).mono ?_
        rintro e w1 ⟨rfl, hb⟩
        have HB1 := Lib.hid (hb)
        clear hb
        go_wp2_with fail
        refine (HP.out _).mono ?_
        rintro e w2 ⟨rfl, hb⟩
        have HB2 := Lib.hid (HB1.out.trans (hb.mono HB1.out.size))
        clear hb
        go_wp2_with fail
        refine (HQ.out p1 p2 _).mono ?_
        rintro e w3 ⟨rfl, hb⟩
        have HB3 := Lib.hid (HB2.out.trans (hb.mono HB2.out.size))
        clear hb
        go_wp2_with fail
        refine (H1.out _).mono ?_
        rintro e w4 ⟨rfl, hb⟩
        have HB4 := Lib.hid (HB3.out.trans (hb.mono HB3.out.size))
        clear hb
        go_wp2_with fail
        refine (begin_any _).mono ?_
        rintro e w5 ⟨rfl, hb⟩
        have HB5 := Lib.hid (HB4.out.trans (hb.mono HB4.out.size))
        clear hb
        go_wp2_with fail
        refine (H2.out _).mono ?_
        rintro e w6 ⟨rfl, hb⟩
        have HB6 := Lib.hid (HB5.out.trans (hb.mono HB5.out.size))
        clear hb
        go_wp2_with fail
        refine (alive_any _).mono ?_
        rintro e w7 ⟨rfl, hb⟩
        have HB7 := Lib.hid (HB6.out.trans (hb.mono HB6.out.size))
        clear hb
        go_wp2
        exact HR.out _ _ ⟨rfl, HB7.out⟩
      · skip
        go_enter Try.func5, Try.ntmps5
        go_wp2_with fail
        refine (HX.out _).mono ?_
        rintro e w1 ⟨rfl, hb⟩
        have HB1 := Lib.hid (hb)
        clear hb
        go_wp2_with fail
        refine (HP.out _).mono ?_
        rintro e w2 ⟨rfl, hb⟩
        have HB2 := Lib.hid (HB1.out.trans (hb.mono HB1.out.size))
        clear hb
        go_wp2_with fail
        refine (H1.out _).mono ?_
        rintro e w3 ⟨rfl, hb⟩
        have HB3 := Lib.hid (HB2.out.trans (hb.mono HB2.out.size))
        clear hb
        go_wp2_with fail
        refine (begin_any _).mono ?_
        rintro e w4 ⟨rfl, hb⟩
        have HB4 := Lib.hid (HB3.out.trans (hb.mono HB3.out.size))
        clear hb
        go_wp2_with fail
        refine (H2.out _).mono ?_
        rintro e w5 ⟨rfl, hb⟩
        have HB5 := Lib.hid (HB4.out.trans (hb.mono HB4.out.size))
        clear hb
        go_wp2_with fail
        refine (alive_any _).mono ?_
        rintro e w6 ⟨rfl, hb⟩
        have HB6 := Lib.hid (HB5.out.trans (hb.mono HB5.out.size))
        clear hb
        go_wp2
        exact HR.out _ _ ⟨rfl, HB6.out⟩
      · skip
        go_enter Try.func5, Try.ntmps5
        go_wp2_with fail
        refine (HX.out _).mono ?_
        rintro e w1 ⟨rfl, hb⟩
        have HB1 := Lib.hid (hb)
        clear hb
        go_wp2_with fail
        refine (HP.out _).mono ?_
        rintro e w2 ⟨rfl, hb⟩
        have HB2 := Lib.hid (HB1.out.trans (hb.mono HB1.out.size))
        clear hb
        go_wp2_with fail
        refine (H1.out _).mono ?_
        rintro e w3 ⟨rfl, hb⟩
        have HB3 := Lib.hid (HB2.out.trans (hb.mono HB2.out.size))
        clear hb
        go_wp2_with fail
        refine (begin_any _).mono ?_
        rintro e w4 ⟨rfl, hb⟩
        have HB4 := Lib.hid (HB3.out.trans (hb.mono HB3.out.size))
        clear hb
        go_wp2_with fail
        refine (H2.out _).mono ?_
        rintro e w5 ⟨rfl, hb⟩
        have HB5 := Lib.hid (HB4.out.trans (hb.mono HB4.out.size))
        clear hb
        go_wp2_with fail
        refine (alive_any _).mono ?_
        rintro e w6 ⟨rfl, hb⟩
        have HB6 := Lib.hid (HB5.out.trans (hb.mono HB5.out.size))
        clear hb
        go_wp2
        exact HR.out _ _ ⟨rfl, HB6.out⟩
end Go.Proofs.Ytdinijgjkakeiaa
