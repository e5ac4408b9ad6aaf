/- The reference's Pad and Sum. -/
import Derived.Test.YtophfeapmmfppaaShaRTxt
import Derived.Test.YtophfeapmmfppaaOctetNoughts
import Derived.Test.YtophfeapmmfppaaShaFold
import Derived.Test.YtophfeapmmfppaaBlkRow
import Derived.Deep.LoopGhost
namespace Ks
open Go Go.RowKit
set_option linter.unusedVariables false
theorem pad_more (n j : Nat) (h : j < 63 - (n + 8) % 64) : (n + (1 + j)) % 64 ≠ 56 := by omega
theorem pad_end (n j : Nat) (h : j = 63 - (n + 8) % 64) : (n + (1 + j)) % 64 = 56 := by omega
theorem cut64 (s : ByteArray) (k : Nat) (h : 64 * k + 64 ≤ s.size) : (s.extract (64 * k) (64 * k + 64)).data.toList = (s.data.toList.drop (64 * k)).take 64 := by
  rw [ByteArray.data_extract, Array.toList_extract, List.extract_eq_take_drop, show 64 * k + 64 - 64 * k = 64 by omega]
theorem cutAt (A : ByteArray) (k : Nat) : (A.extract k (k + 64)).data.toList = (A.data.toList.drop k).take 64 := by
  rw [ByteArray.data_extract, Array.toList_extract, List.extract_eq_take_drop, show k + 64 - k = 64 by omega]
theorem fold_step (y : St) (l : List UInt8) (k : Nat) (h : k + 64 ≤ l.length) : foldN y (l.drop k) = foldN (turnN y ((l.drop k).take 64)) (l.drop (k + 64)) := by
  rw [foldN_ge y _ (by rw [List.length_drop]; omega), List.drop_drop]
end Ks
namespace Go.Proofs.Ytophfeapmmfppaa
open Go.RowKit Ks
set_option linter.unusedVariables false

set_option maxRecDepth 100000 in
set_option maxHeartbeats 1000000 in
theorem rpad_any (n : Nat) (w : World) (h : n ≤ 576460752303423488) : Calls Try.prog 44 #[.int .i64 n] w fun e w' => e = .returned (.string ⟨(padL n).toArray⟩) ∧ Below w.heap.size w w' := by
  refine calls_by fun R HR => ?_
  have hc := fun w cap => @conv_one Try.prog 90 9 5 Try.underlying90 Try.underlying5 Try.underlying9 128 cap 5 w
  go_enter Try.func44, Try.ntmps44
  go_wp2_with fail
  clear hc
  have HF := Lib.hid (alloc_below w (.cells #[.int .u8 128] 5))
  go_loopg [3] (63 - (n + 8) % 64) (fun g v wx => ∃ (S : ByteArray) (j : Nat), v = .string S ∧ j + g = 63 - (n + 8) % 64 ∧ Hid (S = ⟨(128 :: List.replicate j 0).toArray⟩) ∧ Hid (Below w.heap.size w wx))
  case atStart => exact ⟨_, 0, rfl, by omega, Lib.hid rfl, HF⟩
  case round =>
    obtain ⟨S, j, rfl, hj, hS, hN⟩ := hrel
    have hz : S.size = 1 + j := by rw [hS.out]; simp [ByteArray.size]; omega
    have hs1 : S.size ≤ 64 := by omega
    have Hj := Lib.hid hj
    by_cases hg : gk = 0
    · have ht : (((n : Int) + (S.size : Int)) % 64 != 56) = false := by
        have := pad_end n j (by omega)
        rw [hz, show ((n : Int) + ((1 + j : Nat) : Int)) % 64 = (((n + (1 + j)) % 64 : Nat) : Int) by omega, this]
        rfl
      have hP : Hid (padL n = S.data.toList ++ putL 8 (8 * n)) := Lib.hid (by rw [hS.out, padL, show 63 - (n + 8) % 64 = j by omega]; simp)
      clear hz hj hg
      go_wp2_with fail
      rw [show (8 * (n : Int)) = ((8 * n : Nat) : Int) by omega]
      refine (rput_ok (8 * n) 8 _ (by decide) (by decide) (by omega)).mono ?_
      rintro e w1 ⟨he, _, hb⟩
      rw [he (Nat.div_eq_of_lt (by rw [show (256 : Nat) ^ 8 = 18446744073709551616 from by decide]; omega))]
      have HM := Lib.hid (hN.out.trans (hb.mono hN.out.size))
      have hlen : S.size + (putL 8 (8 * n)).length ≤ 9223372036854775807 := by rw [putL_length]; omega
      clear he hb ht
      go_wp2
      refine HR.out _ _ ⟨?_, HM.out⟩
      rw [hP.out]
      exact congrArg (fun b => Ending.returned (Value.string b)) (by rw [← ByteArray.mk_append_mk])
    · have ht : (((n : Int) + (S.size : Int)) % 64 != 56) = true := by
        have := pad_more n j (by omega)
        rw [hz, show ((n : Int) + ((1 + j : Nat) : Int)) % 64 = (((n + (1 + j)) % 64 : Nat) : Int) by omega]
        simp; omega
      clear hz hj
      go_wp2_with fail
      refine (noughts_any 1 _ (by decide)).mono ?_
      rintro e w1 ⟨rfl, hb⟩
      have HM := Lib.hid (hN.out.trans (hb.mono hN.out.size))
      have hlen : S.size + (zerosS 1).size ≤ 9223372036854775807 := by rw [show (zerosS 1).size = 1 from zerosS_size 1]; omega
      clear hb ht
      go_wp2_with fail
      go_roundg (gk - 1)
      case rel =>
        refine ⟨_, j + 1, rfl, by have := Hj.out; omega, Lib.hid ?_, HM⟩
        rw [hS.out]
        show (ByteArray.mk _ ++ ByteArray.mk _) = _
        rw [ByteArray.mk_append_mk, List.replicate_succ']
        rfl
      case measure => omega

set_option maxRecDepth 100000 in
set_option maxHeartbeats 1000000 in
theorem rsum_any (s : ByteArray) (w : World) (h : s.size ≤ 1000000000) : Calls Try.prog 31 #[.string s] w fun e w' => e = .returned (.string ⟨(shaL s.data.toList).toArray⟩) ∧ Below w.heap.size w w' := by
  refine calls_by fun R HR => ?_
  go_enter Try.func31, Try.ntmps31
  go_wp2_with fail
  refine (rpad_any s.size _ (by omega)).mono ?_
  rintro e w1 ⟨rfl, hb⟩
  have HB1 := Lib.hid hb
  clear hb
  have hsl : s.data.toList.length = s.size := data_length s
  have hpl : (padL s.size).length ≤ 72 := by rw [padL_length]; omega
  have hcat : s.size + (padL s.size).length ≤ 9223372036854775807 := by omega
  obtain ⟨A, hA⟩ : ∃ A, s ++ ByteArray.mk (padL s.size).toArray = A := ⟨_, rfl⟩
  have hAd : A.data.toList = s.data.toList ++ padL s.data.toList.length := by rw [← hA, hsl]; simp
  have hAs : A.size = (s.data.toList ++ padL s.data.toList.length).length := by rw [← hAd]; exact (data_length A).symm
  have hAm : A.size % 64 = 0 := by rw [hAs]; exact padded _
  have hAl : A.size ≤ 1000000100 := by rw [hAs, List.length_append, hsl]; omega
  have HA := Lib.hid hA
  have HAD := Lib.hid hAd
  have HAM := Lib.hid hAm
  clear hA hAd hAs hAm hsl
  go_wp2_with fail
  rw [HA.out]
  clear hcat hpl HA
  refine (begin_any _).mono ?_
  rintro e w2 ⟨rfl, hb⟩
  have HB2 := Lib.hid (HB1.out.trans (hb.mono HB1.out.size))
  clear hb HB1
  obtain ⟨C, hC⟩ : ∃ C, i64s st0.list = C := ⟨_, rfl⟩
  rw [hC]
  have HC := Lib.hid hC
  clear hC
  go_wp2_with fail
  refine (rounds_any _).mono ?_
  rintro e w3 ⟨rfl, hb⟩
  have HB3 := Lib.hid (HB2.out.trans (hb.mono HB2.out.size))
  clear hb HB2
  obtain ⟨CK, hCK⟩ : ∃ CK, i64s kays = CK := ⟨_, rfl⟩
  rw [hCK]
  have HCK := Lib.hid hCK
  clear hCK
  have HS : Hid (C.size = 8 ∧ CK.size = 64) := Lib.hid ⟨by rw [← HC.out]; rfl, by rw [← HCK.out]; rfl⟩
  go_upto_region 3 with (first
    | refine wpList_storeA rfl 75 (.tmp 4) (.tmp 12) rfl _ 75 _ C 8 rfl rfl (blk_keep (alloc_new _ _) _) (by kernel_rfl) HS.out.1 rfl (by rw [← HC.out]; exact i64s_one _) ?_
    | refine wpList_storeA rfl 77 (.tmp 5) (.tmp 13) rfl _ 77 _ CK 64 rfl rfl ((setRow_other _ _ _ _ (by omega)).trans (alloc_new2 _ _ _)) (by kernel_rfl) HS.out.2 rfl (by rw [← HCK.out]; exact i64s_one _) ?_)
  refine code_cut (fun W => NumsI W w3.heap.size 75 st0.list ∧ NumsI W (w3.heap.size + 1) 77 kays ∧ Below w.heap.size w W) ?_ ?_
  · refine ⟨?_, ?_, ?_⟩
    · rw [← HC.out]
      exact (NumsI.row (blk_keep (alloc_new _ _) _) _).rowOther _ (by omega)
    · rw [← HCK.out]
      exact NumsI.row ((setRow_other _ _ _ _ (by omega)).trans (alloc_new2 _ _ _)) _
    · have hz := HB3.out.size
      exact below_setRow (below_setRow ((HB3.out.alloc (by omega) _).alloc (by simp; omega) _) (by omega) _) (by omega) _
  intro W hF
  have HF := Lib.hid hF
  have Hz := Lib.hid HB3.out.size
  clear hF HB3 HC HCK HS
  generalize w3.heap.size = b4 at *
  go_wp2_with fail
  go_loopg [6] (A.size / 64) (fun g i wx => ∃ (k : Nat) (y : St), i = .int .i64 k ∧ k ≤ A.size ∧ Hid (k + 64 * g = A.size ∧ y.ok) ∧ Hid (foldN y (A.data.toList.drop k) = foldN st0 A.data.toList) ∧ Hid (NumsI wx b4 75 y.list ∧ NumsI wx (b4 + 1) 77 kays ∧ Below w.heap.size w wx))
  case atStart => exact ⟨0, st0, rfl, by omega, Lib.hid ⟨by have := HAM.out; omega, st0_ok⟩, Lib.hid rfl, HF⟩
  case round =>
    obtain ⟨k, y, rfl, hk, hG, hY, hN⟩ := hrel
    by_cases hlt : k < A.size
    · have h64 : (k : Int) + 64 ≤ (A.size : Int) := by have := hG.out.1; have := HAM.out; omega
      have HST := Lib.hid (fold_step y A.data.toList k (by rw [data_length]; omega))
      obtain ⟨B, hB⟩ : ∃ B, A.extract k (k + 64) = B := ⟨_, rfl⟩
      have hBz : B.size = 64 := by rw [← hB, ByteArray.size_extract]; omega
      have HBD : Hid (B.data.toList = (A.data.toList.drop k).take 64) := Lib.hid (by rw [← hB]; exact cutAt A k)
      have HBB := Lib.hid hB
      have T := Lib.hid fun p => calls_after (p := p) (step_any y B (After wr p) hG.out.2 hBz)
      have HBZ := Lib.hid hBz
      clear hB hBz
      go_wp2_with fail
      have hB := HBB.out
      have w1 : IntKind.i64.wrap ((k : Int) + 64) = (k : Int) + 64 := by rw [IntKind.wrap_i64]; omega
      have w2 : (0 : Int) ≤ (k : Int) + 64 := by omega
      have w3 : ((k : Int) + 64).toNat = k + 64 := by omega
      have w4 : (k : Int) ≤ (k : Int) + 64 := by omega
      refine wp_region_after_tail 8 (by kernel_rfl) (by kernel_rfl) ?_
      simp only [List.take_succ_cons, List.take_zero, List.drop_succ_cons, List.drop_zero]
      refine wpQuiet_load_blk rfl 75 (.tmp 4) rfl b4 0 8 rfl (i64s y.list) (i64s y.list) 75 (0, 0) _ (after_blk hN.out.1.blk) rfl rfl Try.underlying75 rfl (by kernel_rfl) ?_
      quiet_step (fail)
      quiet_step (fail)
      quiet_step (fail)
      quiet_step (fail)
      quiet_step (fail)
      refine wpQuiet_load_blk rfl 77 (.tmp 5) rfl (b4 + 1) 0 64 rfl (i64s kays) (i64s kays) 77 (0, 0) _ (after_blk hN.out.2.1.blk) rfl rfl Try.underlying77 rfl (by kernel_rfl) ?_
      quiet_step (exact T.out _)
      refine wpQuiet_nil ?_
      rintro v1 ⟨p, rfl⟩
      have hb1 := after_below wr p
      have HN := Lib.hid (And.intro (hN.out.1.keep hb1) (And.intro (hN.out.2.1.keep hb1) (hN.out.2.2.trans (hb1.mono hN.out.2.2.size))))
      clear hb1 hN T w1 w2 w3 w4 hB HBB
      generalize After wr p = v1 at *
      have HE : Hid (i64s (turnN y B.data.toList).list = i64s (turnN y B.data.toList).list ∧ (i64s (turnN y B.data.toList).list).size = 8) := Lib.hid ⟨rfl, rfl⟩
      refine wpList_storeA rfl 75 (.tmp 4) (.tmp 27) rfl b4 75 (i64s y.list) (i64s (turnN y B.data.toList).list) 8 rfl rfl HN.out.1.blk (by kernel_rfl) rfl rfl (i64s_one _) ?_
      have HM : Hid (NumsI (v1.setRow b4 (i64s (turnN y B.data.toList).list)) b4 75 (turnN y B.data.toList).list ∧ NumsI (v1.setRow b4 (i64s (turnN y B.data.toList).list)) (b4 + 1) 77 kays ∧ Below w.heap.size w (v1.setRow b4 (i64s (turnN y B.data.toList).list))) :=
        Lib.hid ⟨NumsI.row HN.out.1.blk _, HN.out.2.1.rowOther _ (by omega), below_setRow HN.out.2.2 (by have := Hz.out; omega) _⟩
      generalize v1.setRow b4 (i64s (turnN y B.data.toList).list) = v2 at *
      generalize i64s (turnN y B.data.toList).list = D at *
      clear HE HN
      go_wp2_with fail
      go_roundg (gk - 1)
      case rel =>
        refine ⟨k + 64, turnN y B.data.toList, by go_num, by omega, Lib.hid ⟨by have := hG.out.1; omega, turnN_ok _ _⟩, Lib.hid ?_, HM⟩
        rw [HBD.out, ← HST.out, hY.out]
      case measure => have := hG.out.1; omega
    · obtain rfl : k = A.size := by omega
      have HX : Hid (y = foldN st0 (s.data.toList ++ padL s.data.toList.length)) := Lib.hid (by
        have h1 := hY.out
        rw [List.drop_eq_nil_of_le (by rw [data_length]; exact Nat.le_refl _), foldN_lt y [] (by decide), HAD.out] at h1
        exact h1)
      have HYO := Lib.hid hG.out.2
      clear hlt hk hY hG HF
      go_wp2_with (refine wpList_loadA rfl 75 (.tmp 4) rfl _ 75 _ _ 8 8 rfl hN.out.1.blk Try.underlying75 (by kernel_rfl) rfl ?_)
      refine (rtext_any y _ HYO.out).mono ?_
      rintro e v1 ⟨rfl, hb1⟩
      have HB := Lib.hid (hN.out.2.2.trans (hb1.mono hN.out.2.2.size))
      clear hb1 hN
      go_wp2
      exact HR.out _ _ ⟨by rw [shaL, ← HX.out]; rfl, HB.out⟩
end Go.Proofs.Ytophfeapmmfppaa
