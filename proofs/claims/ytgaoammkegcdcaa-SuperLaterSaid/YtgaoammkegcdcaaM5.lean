/- Texts that the claim rests on, part 5: ShaRTxt, OctetNoughts, ShaRSum, ShaSum, OctetFillP, SuperPut, SuperRPut, SuperNext, SuperBackPlain, SuperTakePlain, SuperRTake, SuperUnpack, SuperTake. -/
import Derived.Test.YtgaoammkegcdcaaProg
import Derived.Deep.LoopGhost
import Derived.Test.YtgaoammkegcdcaaShelf
import Derived.Test.YtgaoammkegcdcaaM4
/- The reference's Text. -/
namespace Go.Proofs.Ytgaoammkegcdcaa
open Go.RowKit Ks
set_option linter.unusedVariables false

theorem rput4 (n : Nat) (w : World) (h : n < 4294967296) :
    Calls Try.prog 29 #[.int .i64 n, .int .i64 4] w fun e w' => e = .returned (.tuple #[.string ⟨(putL 4 n).toArray⟩, .int .i64 0]) ∧ Below w.heap.size w w' :=
  (rput_ok n 4 w (by decide) (by decide) (by omega)).mono fun e w' ⟨h1, _, h2⟩ => ⟨h1 (Nat.div_eq_of_lt (by rw [show (256 : Nat) ^ 4 = 4294967296 from by decide]; exact h)), h2⟩

set_option maxHeartbeats 1000000 in
theorem rtext_any (s : St) (w : World) (hs : s.ok) : Calls Try.prog 48 #[.agg (i64s s.list)] w fun e w' => e = .returned (.string ⟨(textL s).toArray⟩) ∧ Below w.heap.size w w' := by
  refine calls_by fun R HR => ?_
  obtain ⟨C, hC⟩ : ∃ C, i64s s.list = C := ⟨_, rfl⟩
  rw [hC]
  have HC := Lib.hid hC
  clear hC
  go_enter Try.func48, Try.ntmps48
  go_wp2_with fail
  have HF := Lib.hid (And.intro (show NumsI (w.alloc (.cells C 86)) w.heap.size 86 s.list by rw [← HC.out]; exact NumsI.new _ _ _) (alloc_below w (.cells C 86)))
  generalize w.alloc (.cells C 86) = W at *
  go_loopw [3, 4] (fun v i wx => ∃ k, k ≤ 8 ∧ i = .int .i64 (k : Nat) ∧ v = .string ⟨(textTo s k).toArray⟩ ∧ Hid (NumsI wx w.heap.size 86 s.list ∧ Below w.heap.size w wx)) (fun _ i _ => 8 - (intOf i).toNat)
  case atStart => exact ⟨0, by omega, rfl, rfl, HF⟩
  case round =>
    obtain ⟨k, hk, rfl, rfl, hN⟩ := hrel
    by_cases hlt : k < 8
    · have hts := textTo_succ s k hlt
      obtain ⟨n, hn⟩ : ∃ n, s.list.getD k 0 = n := ⟨_, rfl⟩
      have hn1 : n < 4294967296 := by rw [← hn]; exact st_lt hs k
      have ck := hN.out.1.cell k hlt
      rw [hn] at ck hts
      have HTS := Lib.hid hts
      have HL := Lib.hid hn1
      have HS := Lib.hid hs
      clear hn hn1 hts hs
      go_wp2_with fail
      refine (rput4 n _ HL.out).mono ?_
      rintro e w1 ⟨rfl, hb⟩
      have HM := Lib.hid (And.intro (hN.out.1.keep hb) (hN.out.2.trans (hb.mono hN.out.2.size)))
      clear hb hN ck
      have hAB : (textTo s k).length + (putL 4 n).length ≤ 9223372036854775807 := by rw [textTo_length s k hk, putL_length]; omega
      generalize textTo s k = A at *
      generalize putL 4 n = B at *
      go_wp2_with fail
      go_round
      case rel => exact ⟨k + 1, by omega, by go_num, by rw [HTS.out]; simp [ByteArray.mk_append_mk], HM⟩
      case measure => simp [intOf]; omega
    · obtain rfl : k = 8 := by omega
      have HM := Lib.hid hN.out.2
      clear hN HF
      go_wp2
      exact HR.out _ _ ⟨by rw [textTo_all]; rfl, HM.out⟩

end Go.Proofs.Ytgaoammkegcdcaa
/- What the reference's Noughts answers. -/
namespace Go.Proofs.Ytgaoammkegcdcaa
open Go.RowKit Ks
set_option linter.unusedVariables false

theorem Try.infoByteN : (Try.prog.info? 5).map (fun i => (i.zero, i.size, i.bytes)) = some (some (.int .u8 0), 1, 1) := by kernel_rfl

set_option maxHeartbeats 400000 in
theorem noughts_any (n : Int) (w : World) (hn : n ≤ 281474976710656) :
    Calls Try.prog 16 #[.int .i64 n] w fun e w' => e = .returned (.string (zerosS n)) ∧ Below w.heap.size w w' := by
  refine calls_by fun R HR => ?_
  by_cases h1 : n < 1
  · go_enter Try.func16, Try.ntmps16
    go_wp2
    refine HR.out _ _ ⟨?_, Below.refl _ _⟩
    rw [zerosS, show n.toNat = 0 by omega]
    rfl
  · obtain ⟨n, rfl⟩ := Int.eq_ofNat_of_zero_le (show 0 ≤ n by omega)
    have hmk := fun w => run_make_row' (P := Try.prog) 67 5 (.int .u8 0) 1 Try.underlying67 Try.infoByteN rfl .i64 .i64 n (by omega) (by omega) w
    have hconv := conv_row (P := Try.prog) (src := 67) (dst := 9) (cap := n) (List.replicate n 0) Try.underlying67 Try.underlying5 Try.underlying9 (World.rowIs_made w (.int .u8 0) n 5) (by simp) (by simp)
    go_enter Try.func16, Try.ntmps16
    go_wp2
    refine HR.out _ _ ⟨?_, (Below.refl _ _).alloc (Nat.le_refl _) _⟩
    rw [zerosS, show ((n : Int)).toNat = n by omega]
    simp

end Go.Proofs.Ytgaoammkegcdcaa
/- The reference's Pad and Sum. -/
namespace Ks
open Go Go.RowKit
set_option linter.unusedVariables false
theorem pad_more (n j : Nat) (h : j < 63 - (n + 8) % 64) : (n + (1 + j)) % 64 ≠ 56 := by omega
theorem pad_end (n j : Nat) (h : j = 63 - (n + 8) % 64) : (n + (1 + j)) % 64 = 56 := by omega
theorem cut64 (s : ByteArray) (k : Nat) (h : 64 * k + 64 ≤ s.size) : (s.extract (64 * k) (64 * k + 64)).data.toList = (s.data.toList.drop (64 * k)).take 64 := by
  rw [ByteArray.data_extract, Array.toList_extract, List.extract_eq_take_drop, show 64 * k + 64 - 64 * k = 64 by omega]
theorem cutAt (A : ByteArray) (k : Nat) : (A.extract k (k + 64)).data.toList = (A.data.toList.drop k).take 64 := by
  rw [ByteArray.data_extract, Array.toList_extract, List.extract_eq_take_drop, show k + 64 - k = 64 by omega]
theorem fold_step (y : St) (l : List UInt8) (k : Nat) (h : k + 64 ≤ l.length) : foldN y (l.drop k) = foldN (turnN y ((l.drop k).take 64)) (l.drop (k + 64)) := by
  rw [foldN_ge y _ (by rw [List.length_drop]; omega), List.drop_drop]
end Ks
namespace Go.Proofs.Ytgaoammkegcdcaa
open Go.RowKit Ks
set_option linter.unusedVariables false

set_option maxRecDepth 100000 in
set_option maxHeartbeats 1000000 in
theorem rpad_any (n : Nat) (w : World) (h : n ≤ 576460752303423488) : Calls Try.prog 44 #[.int .i64 n] w fun e w' => e = .returned (.string ⟨(padL n).toArray⟩) ∧ Below w.heap.size w w' := by
  refine calls_by fun R HR => ?_
  have hc := fun w cap => @conv_one Try.prog 67 9 5 Try.underlying67 Try.underlying5 Try.underlying9 128 cap 5 w
  go_enter Try.func44, Try.ntmps44
  go_wp2_with fail
  clear hc
  have HF := Lib.hid (alloc_below w (.cells #[.int .u8 128] 5))
  go_loopg [3] (63 - (n + 8) % 64) (fun g v wx => ∃ (S : ByteArray) (j : Nat), v = .string S ∧ j + g = 63 - (n + 8) % 64 ∧ Hid (S = ⟨(128 :: List.replicate j 0).toArray⟩) ∧ Hid (Below w.heap.size w wx))
  case atStart => exact ⟨_, 0, rfl, by omega, Lib.hid rfl, HF⟩
  case round =>
    obtain ⟨S, j, rfl, hj, hS, hN⟩ := hrel
    have hz : S.size = 1 + j := by rw [hS.out]; simp [ByteArray.size]; omega
    have hs1 : S.size ≤ 64 := by omega
    have Hj := Lib.hid hj
    by_cases hg : gk = 0
    · have ht : (((n : Int) + (S.size : Int)) % 64 != 56) = false := by
        have := pad_end n j (by omega)
        rw [hz, show ((n : Int) + ((1 + j : Nat) : Int)) % 64 = (((n + (1 + j)) % 64 : Nat) : Int) by omega, this]
        rfl
      have hP : Hid (padL n = S.data.toList ++ putL 8 (8 * n)) := Lib.hid (by rw [hS.out, padL, show 63 - (n + 8) % 64 = j by omega]; simp)
      clear hz hj hg
      go_wp2_with fail
      rw [show (8 * (n : Int)) = ((8 * n : Nat) : Int) by omega]
      refine (rput_ok (8 * n) 8 _ (by decide) (by decide) (by omega)).mono ?_
      rintro e w1 ⟨he, _, hb⟩
      rw [he (Nat.div_eq_of_lt (by rw [show (256 : Nat) ^ 8 = 18446744073709551616 from by decide]; omega))]
      have HM := Lib.hid (hN.out.trans (hb.mono hN.out.size))
      have hlen : S.size + (putL 8 (8 * n)).length ≤ 9223372036854775807 := by rw [putL_length]; omega
      clear he hb ht
      go_wp2
      refine HR.out _ _ ⟨?_, HM.out⟩
      rw [hP.out]
      exact congrArg (fun b => Ending.returned (Value.string b)) (by rw [← ByteArray.mk_append_mk])
    · have ht : (((n : Int) + (S.size : Int)) % 64 != 56) = true := by
        have := pad_more n j (by omega)
        rw [hz, show ((n : Int) + ((1 + j : Nat) : Int)) % 64 = (((n + (1 + j)) % 64 : Nat) : Int) by omega]
        simp; omega
      clear hz hj
      go_wp2_with fail
      refine (noughts_any 1 _ (by decide)).mono ?_
      rintro e w1 ⟨rfl, hb⟩
      have HM := Lib.hid (hN.out.trans (hb.mono hN.out.size))
      have hlen : S.size + (zerosS 1).size ≤ 9223372036854775807 := by rw [show (zerosS 1).size = 1 from zerosS_size 1]; omega
      clear hb ht
      go_wp2_with fail
      go_roundg (gk - 1)
      case rel =>
        refine ⟨_, j + 1, rfl, by have := Hj.out; omega, Lib.hid ?_, HM⟩
        rw [hS.out]
        show (ByteArray.mk _ ++ ByteArray.mk _) = _
        rw [ByteArray.mk_append_mk, List.replicate_succ']
        rfl
      case measure => omega

set_option maxRecDepth 100000 in
set_option maxHeartbeats 1000000 in
theorem rsum_any (s : ByteArray) (w : World) (h : s.size ≤ 1000000000) : Calls Try.prog 31 #[.string s] w fun e w' => e = .returned (.string ⟨(shaL s.data.toList).toArray⟩) ∧ Below w.heap.size w w' := by
  refine calls_by fun R HR => ?_
  go_enter Try.func31, Try.ntmps31
  go_wp2_with fail
  refine (rpad_any s.size _ (by omega)).mono ?_
  rintro e w1 ⟨rfl, hb⟩
  have HB1 := Lib.hid hb
  clear hb
  have hsl : s.data.toList.length = s.size := data_length s
  have hpl : (padL s.size).length ≤ 72 := by rw [padL_length]; omega
  have hcat : s.size + (padL s.size).length ≤ 9223372036854775807 := by omega
  obtain ⟨A, hA⟩ : ∃ A, s ++ ByteArray.mk (padL s.size).toArray = A := ⟨_, rfl⟩
  have hAd : A.data.toList = s.data.toList ++ padL s.data.toList.length := by rw [← hA, hsl]; simp
  have hAs : A.size = (s.data.toList ++ padL s.data.toList.length).length := by rw [← hAd]; exact (data_length A).symm
  have hAm : A.size % 64 = 0 := by rw [hAs]; exact padded _
  have hAl : A.size ≤ 1000000100 := by rw [hAs, List.length_append, hsl]; omega
  have HA := Lib.hid hA
  have HAD := Lib.hid hAd
  have HAM := Lib.hid hAm
  clear hA hAd hAs hAm hsl
  go_wp2_with fail
  rw [HA.out]
  clear hcat hpl HA
  refine (begin_any _).mono ?_
  rintro e w2 ⟨rfl, hb⟩
  have HB2 := Lib.hid (HB1.out.trans (hb.mono HB1.out.size))
  clear hb HB1
  obtain ⟨C, hC⟩ : ∃ C, i64s st0.list = C := ⟨_, rfl⟩
  rw [hC]
  have HC := Lib.hid hC
  clear hC
  go_wp2_with fail
  refine (rounds_any _).mono ?_
  rintro e w3 ⟨rfl, hb⟩
  have HB3 := Lib.hid (HB2.out.trans (hb.mono HB2.out.size))
  clear hb HB2
  obtain ⟨CK, hCK⟩ : ∃ CK, i64s kays = CK := ⟨_, rfl⟩
  rw [hCK]
  have HCK := Lib.hid hCK
  clear hCK
  have HS : Hid (C.size = 8 ∧ CK.size = 64) := Lib.hid ⟨by rw [← HC.out]; rfl, by rw [← HCK.out]; rfl⟩
  go_upto_region 3 with (first
    | refine wpList_storeA rfl 86 (.tmp 4) (.tmp 12) rfl _ 86 _ C 8 rfl rfl (blk_keep (alloc_new _ _) _) (by kernel_rfl) HS.out.1 rfl (by rw [← HC.out]; exact i64s_one _) ?_
    | refine wpList_storeA rfl 88 (.tmp 5) (.tmp 13) rfl _ 88 _ CK 64 rfl rfl ((setRow_other _ _ _ _ (by omega)).trans (alloc_new2 _ _ _)) (by kernel_rfl) HS.out.2 rfl (by rw [← HCK.out]; exact i64s_one _) ?_)
  refine code_cut (fun W => NumsI W w3.heap.size 86 st0.list ∧ NumsI W (w3.heap.size + 1) 88 kays ∧ Below w.heap.size w W) ?_ ?_
  · refine ⟨?_, ?_, ?_⟩
    · rw [← HC.out]
      exact (NumsI.row (blk_keep (alloc_new _ _) _) _).rowOther _ (by omega)
    · rw [← HCK.out]
      exact NumsI.row ((setRow_other _ _ _ _ (by omega)).trans (alloc_new2 _ _ _)) _
    · have hz := HB3.out.size
      exact below_setRow (below_setRow ((HB3.out.alloc (by omega) _).alloc (by simp; omega) _) (by omega) _) (by omega) _
  intro W hF
  have HF := Lib.hid hF
  have Hz := Lib.hid HB3.out.size
  clear hF HB3 HC HCK HS
  generalize w3.heap.size = b4 at *
  go_wp2_with fail
  go_loopg [6] (A.size / 64) (fun g i wx => ∃ (k : Nat) (y : St), i = .int .i64 k ∧ k ≤ A.size ∧ Hid (k + 64 * g = A.size ∧ y.ok) ∧ Hid (foldN y (A.data.toList.drop k) = foldN st0 A.data.toList) ∧ Hid (NumsI wx b4 86 y.list ∧ NumsI wx (b4 + 1) 88 kays ∧ Below w.heap.size w wx))
  case atStart => exact ⟨0, st0, rfl, by omega, Lib.hid ⟨by have := HAM.out; omega, st0_ok⟩, Lib.hid rfl, HF⟩
  case round =>
    obtain ⟨k, y, rfl, hk, hG, hY, hN⟩ := hrel
    by_cases hlt : k < A.size
    · have h64 : (k : Int) + 64 ≤ (A.size : Int) := by have := hG.out.1; have := HAM.out; omega
      have HST := Lib.hid (fold_step y A.data.toList k (by rw [data_length]; omega))
      obtain ⟨B, hB⟩ : ∃ B, A.extract k (k + 64) = B := ⟨_, rfl⟩
      have hBz : B.size = 64 := by rw [← hB, ByteArray.size_extract]; omega
      have HBD : Hid (B.data.toList = (A.data.toList.drop k).take 64) := Lib.hid (by rw [← hB]; exact cutAt A k)
      have HBB := Lib.hid hB
      have T := Lib.hid fun p => calls_after (p := p) (step_any y B (After wr p) hG.out.2 hBz)
      have HBZ := Lib.hid hBz
      clear hB hBz
      go_wp2_with fail
      have hB := HBB.out
      have w1 : IntKind.i64.wrap ((k : Int) + 64) = (k : Int) + 64 := by rw [IntKind.wrap_i64]; omega
      have w2 : (0 : Int) ≤ (k : Int) + 64 := by omega
      have w3 : ((k : Int) + 64).toNat = k + 64 := by omega
      have w4 : (k : Int) ≤ (k : Int) + 64 := by omega
      refine wp_region_after_tail 8 (by kernel_rfl) (by kernel_rfl) ?_
      simp only [List.take_succ_cons, List.take_zero, List.drop_succ_cons, List.drop_zero]
      refine wpQuiet_load_blk rfl 86 (.tmp 4) rfl b4 0 8 rfl (i64s y.list) (i64s y.list) 86 (0, 0) _ (after_blk hN.out.1.blk) rfl rfl Try.underlying86 rfl (by kernel_rfl) ?_
      quiet_step (fail)
      quiet_step (fail)
      quiet_step (fail)
      quiet_step (fail)
      quiet_step (fail)
      refine wpQuiet_load_blk rfl 88 (.tmp 5) rfl (b4 + 1) 0 64 rfl (i64s kays) (i64s kays) 88 (0, 0) _ (after_blk hN.out.2.1.blk) rfl rfl Try.underlying88 rfl (by kernel_rfl) ?_
      quiet_step (exact T.out _)
      refine wpQuiet_nil ?_
      rintro v1 ⟨p, rfl⟩
      have hb1 := after_below wr p
      have HN := Lib.hid (And.intro (hN.out.1.keep hb1) (And.intro (hN.out.2.1.keep hb1) (hN.out.2.2.trans (hb1.mono hN.out.2.2.size))))
      clear hb1 hN T w1 w2 w3 w4 hB HBB
      generalize After wr p = v1 at *
      have HE : Hid (i64s (turnN y B.data.toList).list = i64s (turnN y B.data.toList).list ∧ (i64s (turnN y B.data.toList).list).size = 8) := Lib.hid ⟨rfl, rfl⟩
      refine wpList_storeA rfl 86 (.tmp 4) (.tmp 27) rfl b4 86 (i64s y.list) (i64s (turnN y B.data.toList).list) 8 rfl rfl HN.out.1.blk (by kernel_rfl) rfl rfl (i64s_one _) ?_
      have HM : Hid (NumsI (v1.setRow b4 (i64s (turnN y B.data.toList).list)) b4 86 (turnN y B.data.toList).list ∧ NumsI (v1.setRow b4 (i64s (turnN y B.data.toList).list)) (b4 + 1) 88 kays ∧ Below w.heap.size w (v1.setRow b4 (i64s (turnN y B.data.toList).list))) :=
        Lib.hid ⟨NumsI.row HN.out.1.blk _, HN.out.2.1.rowOther _ (by omega), below_setRow HN.out.2.2 (by have := Hz.out; omega) _⟩
      generalize v1.setRow b4 (i64s (turnN y B.data.toList).list) = v2 at *
      generalize i64s (turnN y B.data.toList).list = D at *
      clear HE HN
      go_wp2_with fail
      go_roundg (gk - 1)
      case rel =>
        refine ⟨k + 64, turnN y B.data.toList, by go_num, by omega, Lib.hid ⟨by have := hG.out.1; omega, turnN_ok _ _⟩, Lib.hid ?_, HM⟩
        rw [HBD.out, ← HST.out, hY.out]
      case measure => have := hG.out.1; omega
    · obtain rfl : k = A.size := by omega
      have HX : Hid (y = foldN st0 (s.data.toList ++ padL s.data.toList.length)) := Lib.hid (by
        have h1 := hY.out
        rw [List.drop_eq_nil_of_le (by rw [data_length]; exact Nat.le_refl _), foldN_lt y [] (by decide), HAD.out] at h1
        exact h1)
      have HYO := Lib.hid hG.out.2
      clear hlt hk hY hG HF
      go_wp2_with (refine wpList_loadA rfl 86 (.tmp 4) rfl _ 86 _ _ 8 8 rfl hN.out.1.blk Try.underlying86 (by kernel_rfl) rfl ?_)
      refine (rtext_any y _ HYO.out).mono ?_
      rintro e v1 ⟨rfl, hb1⟩
      have HB := Lib.hid (hN.out.2.2.trans (hb1.mono hN.out.2.2.size))
      clear hb1 hN
      go_wp2
      exact HR.out _ _ ⟨by rw [shaL, ← HX.out]; rfl, HB.out⟩
end Go.Proofs.Ytgaoammkegcdcaa
/- A sum as a string: of one text, of two, of none. -/
namespace Ks
open Go Go.RowKit
set_option linter.unusedVariables false
/-- a text's sum, as a string -/
def shaS (l : List UInt8) : ByteArray := ⟨(shaL l).toArray⟩
theorem shaS_eq (l : List UInt8) : (⟨(shaL l).toArray⟩ : ByteArray) = shaS l := rfl
theorem shaS_data (l : List UInt8) : (shaS l).data.toList = shaL l := rfl
theorem shaS_size (l : List UInt8) : (shaS l).size = 32 := by show (shaL l).toArray.size = 32; simp [shaL_length]
theorem join_one (s : ByteArray) : joinL [s] = s.data.toList := by simp [joinL]
theorem join_two (s t : ByteArray) : joinL [s, t] = s.data.toList ++ t.data.toList := by simp [joinL]
theorem Rd.one (w : World) (s : ByteArray) (T : TypeId) : Rd strE (w.alloc (.cells #[.string s] T)) (.slice (some ⟨w.heap.size, 0, none⟩) 1 1) [s] :=
  Rd.single s (alloc_new w _) rfl
end Ks
namespace Go.Proofs.Ytgaoammkegcdcaa
open Go.RowKit Ks
set_option linter.unusedVariables false
/-- the sum of one text, that lies in a new block -/
theorem sum1_any (s : ByteArray) (T : TypeId) (w : World) (h : s.size ≤ 50000000000) :
    Calls Try.prog 25 #[.slice (some ⟨w.heap.size, 0, none⟩) 1 1] (w.alloc (.cells #[.string s] T)) fun e w' => e = .returned (.string (shaS s.data.toList)) ∧ Below w.heap.size w w' :=
  (sumv_any [s] _ _ (Rd.one w s T) (by rw [join_one, data_length]; exact h) (by simp)).mono fun e w' ⟨h1, h2⟩ => ⟨by rw [h1, join_one, shaS_eq], (alloc_below w _).trans (h2.mono (by simp))⟩
theorem sum2_any (s t : ByteArray) (T : TypeId) (w : World) (h : s.size ≤ 10000000000) (h2 : t.size ≤ 10000000000) :
    Calls Try.prog 25 #[.slice (some ⟨w.heap.size, 0, none⟩) 2 2] (w.alloc (.cells #[.string s, .string t] T)) fun e w' => e = .returned (.string (shaS (s.data.toList ++ t.data.toList))) ∧ Below w.heap.size w w' :=
  (sumv_any [s, t] _ _ (Rd.block (alloc_new w _) rfl) (by rw [join_two, List.length_append, data_length, data_length]; omega) (by simp)).mono fun e w' ⟨h1, h2⟩ => ⟨by rw [h1, join_two, shaS_eq], (alloc_below w _).trans (h2.mono (by simp))⟩
theorem sum0_any (w : World) : Calls Try.prog 25 #[.slice none 0 0] w fun e w' => e = .returned (.string (shaS [])) ∧ Below w.heap.size w w' :=
  (sumv_any [] _ _ (Rd.nil w) (by decide) (by decide)).mono fun e w' ⟨h1, h2⟩ => ⟨by rw [h1]; rfl, h2⟩
theorem rsumS_any (s : ByteArray) (w : World) (h : s.size ≤ 1000000000) : Calls Try.prog 31 #[.string s] w fun e w' => e = .returned (.string (shaS s.data.toList)) ∧ Below w.heap.size w w' := rsum_any s w h
end Go.Proofs.Ytgaoammkegcdcaa
/- What octet.Fill answers. -/
namespace Go.Proofs.Ytgaoammkegcdcaa
open Go.RowKit Ks
set_option linter.unusedVariables false

set_option maxHeartbeats 400000 in
theorem fill_any (s : ByteArray) (n : Int) (w : World) :
    Calls Try.prog 24 #[.string s, .int .i64 n] w fun e w' => e = .returned (.tuple #[.string (fillS s n), .int .i64 (fillE s n)]) ∧ Below w.heap.size w w' := by
  refine calls_by fun R HR => ?_
  by_cases h : (s.size : Int) ≤ n ∧ n ≤ 65536
  · obtain ⟨n, rfl⟩ := Int.eq_ofNat_of_zero_le (show 0 ≤ n by omega)
    obtain ⟨h1, h2⟩ := h
    obtain ⟨m, rfl⟩ : ∃ m, n = s.size + m := ⟨n - s.size, by omega⟩
    go_enter Try.func24, Try.ntmps24
    go_wp2_with fail
    rw [show ((s.size : Int) + (m : Int) - (s.size : Int)) = (m : Int) by omega]
    refine (Try.strings_Repeat ⟨#[0]⟩ m _ (by omega) (by show 1 * m ≤ _; omega)).mono ?_
    rintro e w1 ⟨rfl, hb1⟩
    rw [repeat_zeros]
    have hz : (zerosS m).size = m := zerosS_size m
    go_wp2
    refine HR.out _ _ ⟨?_, hb1⟩
    have hf : fillOk s (s.size + m : Nat) = true := by simp only [fillOk, decide_eq_true_eq]; omega
    rw [fillS, fillE, if_pos hf, if_pos hf, show (((s.size + m : Nat) : Int) - (s.size : Int)) = (m : Int) by omega]
    rfl
  · go_enter Try.func24, Try.ntmps24
    go_wp2
    all_goals
      refine HR.out _ _ ⟨?_, Below.refl _ _⟩
      have hf : ¬ fillOk s n = true := by simpa only [fillOk, decide_eq_true_eq] using h
      rw [fillS, fillE, if_neg hf, if_neg hf]
      try rfl

end Go.Proofs.Ytgaoammkegcdcaa
/- A superblock's bytes: super.Put and the reference's. -/
namespace Ks
open Go Go.RowKit
set_option linter.unusedVariables false
theorem sup_cat2 (g t e c b l f : Int) (h : supOk g t e c b l f = true) : ∃ N G Z : ByteArray, packS [8, 4, 4, 8] [g, t, e, c] = N ∧ packE [8, 4, 4, 8] [g, t, e, c] = 0 ∧ geoS b l f = G ∧ geoE b l f = 0 ∧ geoOk b l f = true ∧ N.size = 24 ∧ G.size = 12 ∧
    shaS (ByteArray.mk #[107, 101, 101, 112, 115, 97, 107, 101, 49] ++ N ++ G).data.toList = Z ∧ Z.size = 32 ∧ (ByteArray.mk #[107, 101, 101, 112, 115, 97, 107, 101, 49] ++ N ++ G ++ Z).size = 77 ∧
    fillS (ByteArray.mk #[107, 101, 101, 112, 115, 97, 107, 101, 49] ++ N ++ G ++ Z) 4096 = supS g t e c b l f ∧ fillE (ByteArray.mk #[107, 101, 101, 112, 115, 97, 107, 101, 49] ++ N ++ G ++ Z) 4096 = 0 ∧
    ByteArray.mk #[107, 101, 101, 112, 115, 97, 107, 101, 49] ++ N ++ G ++ Z ++ zerosS 4019 = supS g t e c b l f ∧
    ByteArray.mk #[107, 101, 101, 112, 115, 97, 107, 101, 49] ++ putS g 8 ++ putS t 4 ++ putS e 4 ++ putS c 8 = ByteArray.mk #[107, 101, 101, 112, 115, 97, 107, 101, 49] ++ N := by
  obtain ⟨hg, h1, h2, h3, h4, h5, h6, h7, h8⟩ := sup_ok.1 h
  obtain ⟨b1, b2, b3, b4, b5, b6⟩ := geo_ok.1 hg
  have ht : t ≤ 4294967295 := by omega
  have he : 0 ≤ e := by omega
  obtain ⟨p1, p2⟩ := sup_pack g t e c (by omega) ⟨h3, ht⟩ ⟨he, h6⟩ h7
  obtain ⟨q1, q2, q3, q4, q5, q6, q7⟩ := sup_cat g t e c b l f h
  refine ⟨_, _, _, p2, p1, rfl, (geo_yes hg).1, hg, q1, ?_, ?_, ?_, q4, q5, q6, q7, supN_eq g t e c (by omega) ⟨h3, ht⟩ ⟨he, h6⟩ h7⟩
  · rw [geoS, if_pos hg]; exact geoL_length b l f
  · show shaS (markB ++ _ ++ _).data.toList = _
    rw [q2]; rfl
  · show (shaL _).toArray.size = 32; simp [shaL_length]
end Ks
namespace Go.Proofs.Ytgaoammkegcdcaa
open Go.RowKit Ks
set_option linter.unusedVariables false
theorem swidths_any (w : World) : Calls Try.prog 17 #[] w fun e w' => e = .returned (.slice (some ⟨w.heap.size, 0, none⟩) 4 4) ∧ w' = w.alloc (.cells #[.int .i64 8, .int .i64 4, .int .i64 4, .int .i64 8] 3) := by
  go_enter Try.func17, Try.ntmps17
  go_wp2
  go_ret
  exact ⟨rfl, rfl⟩
set_option maxHeartbeats 2000000 in
set_option maxRecDepth 100000 in
theorem sput_any (g t e c b l f : Int) (w : World) (hb : -9223372036854775808 ≤ b ∧ b ≤ 9223372036854775807) :
    Calls Try.prog 12 #[supV g t e c b l f] w fun en w' => en = .returned (.tuple #[.string (supS g t e c b l f), .int .i64 (supE g t e c b l f)]) ∧ Below w.heap.size w w' := by
  refine calls_by fun R HR => ?_
  have HC := Lib.hid (fun w => scheck_any g t e c b l f w hb)
  cases h : supOk g t e c b l f
  · have HV := Lib.hid (sup_no h)
    rw [(sup_no h).2] at HC
    clear h
    go_enter Try.func12, Try.ntmps12
    go_wp2_with fail
    refine (HC.out _).mono ?_
    rintro en w1 ⟨rfl, hb1⟩
    have H1 := Lib.hid ((alloc_below w _).trans (hb1.mono (by simp)))
    clear hb1
    go_wp2
    exact HR.out _ _ ⟨by rw [HV.out.1, HV.out.2] <;> rfl, H1.out⟩
  · obtain ⟨hgok, n1, n2, n3, n4, n5, n6, n7, n8⟩ := sup_ok.1 h
    obtain ⟨b1, b2, b3, b4, b5, b6⟩ := geo_ok.1 hgok
    have HL : Hid (-9223372036854775808 ≤ l ∧ l ≤ 9223372036854775807 ∧ -9223372036854775808 ≤ f ∧ f ≤ 9223372036854775807) := Lib.hid (by omega)
    have HI : Hid (0 ≤ g ∧ g ≤ 9223372036854775807 ∧ 0 ≤ t ∧ t ≤ 9223372036854775807 ∧ 0 ≤ e ∧ e ≤ 9223372036854775807 ∧ 0 ≤ c ∧ c ≤ 9223372036854775807) := Lib.hid (by omega)
    have HB := Lib.hid hb
    obtain ⟨N, G, Z, hP, hPE, hG, hGE, -, hNz, hGz, hZ, hZz, h77, hF, hFE, -, -⟩ := sup_cat2 g t e c b l f h
    have HV := Lib.hid (And.intro hP (And.intro hPE (And.intro hG (And.intro hGE (And.intro hZ (And.intro hF hFE))))))
    rw [sup_yes h] at HC
    have HE := Lib.hid (sup_yes h)
    clear h hP hPE hG hGE hZ hF hFE hgok n1 n2 n3 n4 n5 n6 n7 n8 b1 b2 b3 b4 b5 b6 hb
    go_enter Try.func12, Try.ntmps12
    go_wp2_with fail
    refine (HC.out _).mono ?_
    rintro en w1 ⟨rfl, hb1⟩
    have k1 : w1.heap[w.heap.size]? = some (.cells #[.int .i64 g, .int .i64 t, .int .i64 e, .int .i64 c, .int .i64 b, .int .i64 l, .int .i64 f] 26 (0, 0)) := (hb1.block _ (by simp)).trans (alloc_new w _)
    obtain ⟨c0, c1, c2, c3, c4, c5, c6⟩ := blk7 k1
    have hB1 : Below w.heap.size w w1 := ((Below.refl _ _).alloc (Nat.le_refl _) _).trans (hb1.mono (by simp))
    have hz1 : w.heap.size < w1.heap.size := by have := hb1.size; simp at this; omega
    clear hb1
    go_wp2_with fail
    go_region_held3 (fun w' => w'.cell? ⟨w.heap.size, 0, none⟩ = some (.int .i64 g) ∧ w'.cell? ⟨w.heap.size, 1, none⟩ = some (.int .i64 t) ∧ w'.cell? ⟨w.heap.size, 2, none⟩ = some (.int .i64 e) ∧ w'.cell? ⟨w.heap.size, 3, none⟩ = some (.int .i64 c))
      (first | go_keep)
      (first
        | (go_at_call 17; refine (swidths_any _).mono ?_; rintro en w2 ⟨rfl, rfl⟩)
        | (go_at_call 22; refine (pack_any _ _ [8, 4, 4, 8] [g, t, e, c] _ (RdI.block _ 3 (0, 0) 4 rfl (by decide) (by first | exact heap_alloc2_old _ _ _ | exact heap_alloc2_new _ _ _)) (RdI.block _ 3 (0, 0) 4 rfl (by intro x hx; simp at hx; have := HI.out; omega) (by first | exact heap_alloc2_old _ _ _ | exact heap_alloc2_new _ _ _)) (by simp)).mono ?_; rintro en w3 ⟨rfl, hb3⟩; have hbb := Below.trans ((((Below.refl w1.heap.size w1).alloc (Nat.le_refl _) _).alloc (by simp) _).drew) (hb3.mono (by simp; omega)); clear hb3; have k0 := (hbb.cell (p := ⟨w.heap.size, 0, none⟩) hz1).trans c0; have k1' := (hbb.cell (p := ⟨w.heap.size, 1, none⟩) hz1).trans c1; have k2 := (hbb.cell (p := ⟨w.heap.size, 2, none⟩) hz1).trans c2; have k3 := (hbb.cell (p := ⟨w.heap.size, 3, none⟩) hz1).trans c3; have k4 := (hbb.cell (p := ⟨w.heap.size, 4, none⟩) hz1).trans c4; have k5 := (hbb.cell (p := ⟨w.heap.size, 5, none⟩) hz1).trans c5; have k6 := (hbb.cell (p := ⟨w.heap.size, 6, none⟩) hz1).trans c6; have hB3 := Lib.hid (hB1.trans (hbb.mono hB1.size)); clear hbb))
    all_goals
      simp only [HV.out.1, HV.out.2.1]
      clear k1 hB1 hz1 c0 c1 c2 c3 c4 c5 c6
      go_wp2_with fail
      refine (gput_any b l f _ HB.out ⟨HL.out.1, HL.out.2.1⟩ HL.out.2.2).mono ?_
      rintro en w4 ⟨rfl, hb4⟩
      rw [HV.out.2.2.1, HV.out.2.2.2.1]
      have H4 := Lib.hid (hB3.out.trans (hb4.mono hB3.out.size))
      clear hb4
      go_wp2_with fail
      refine (sum1_any _ _ w4 (by simp [hNz, hGz]; decide)).mono ?_
      rintro en w5 ⟨rfl, hb5⟩
      rw [HV.out.2.2.2.2.1]
      have H5 := Lib.hid (H4.out.trans (hb5.mono H4.out.size))
      clear hb5
      go_wp2_with fail
      refine (fill_any _ _ _).mono ?_
      rintro en w6 ⟨rfl, hb6⟩
      rw [HV.out.2.2.2.2.2.1, HV.out.2.2.2.2.2.2]
      have H6 := Lib.hid (H5.out.trans (hb6.mono H5.out.size))
      clear hb6
      go_wp2
      exact HR.out _ _ ⟨by rw [HE.out] <;> rfl, H6.out⟩
end Go.Proofs.Ytgaoammkegcdcaa
/- A superblock's bytes: the reference's. -/
namespace Go.Proofs.Ytgaoammkegcdcaa
open Go.RowKit Ks
set_option linter.unusedVariables false
set_option maxHeartbeats 2000000 in
set_option maxRecDepth 100000 in
theorem rsput_any (g t e c b l f : Int) (w : World) (hb : -9223372036854775808 ≤ b ∧ b ≤ 9223372036854775807) :
    Calls Try.prog 14 #[supV g t e c b l f] w fun en w' => en = .returned (.tuple #[.string (supS g t e c b l f), .bool (supOk g t e c b l f)]) ∧ Below w.heap.size w w' := by
  refine calls_by fun R HR => ?_
  have HC := Lib.hid (fun w => sright_any g t e c b l f w hb)
  cases h : supOk g t e c b l f
  · have HV := Lib.hid (And.intro (sup_no h).1 h)
    simp only [h] at HC
    clear h
    go_enter Try.func14, Try.ntmps14
    go_wp2_with fail
    refine (HC.out _).mono ?_
    rintro en w1 ⟨rfl, hb1⟩
    have H1 := Lib.hid ((alloc_below w _).trans (hb1.mono (by simp)))
    clear hb1
    go_wp2
    exact HR.out _ _ ⟨by rw [HV.out.1, HV.out.2] <;> rfl, H1.out⟩
  · obtain ⟨hgok, n1, n2, n3, n4, n5, n6, n7, n8⟩ := sup_ok.1 h
    obtain ⟨b1, b2, b3, b4, b5, b6⟩ := geo_ok.1 hgok
    have HL : Hid (-9223372036854775808 ≤ l ∧ l ≤ 9223372036854775807 ∧ -9223372036854775808 ≤ f ∧ f ≤ 9223372036854775807 ∧ g ≤ 9223372036854775807 ∧ t ≤ 9223372036854775807 ∧ e ≤ 9223372036854775807 ∧ c ≤ 9223372036854775807) := Lib.hid (by omega)
    have HB := Lib.hid hb
    obtain ⟨N, G, Z, -, -, hG, hGE, hGo, hNz, hGz, hZ, hZz, h77, -, -, hY, hN4⟩ := sup_cat2 g t e c b l f h
    have hzz : (zerosS 4019).size = 4019 := zerosS_size 4019
    obtain ⟨Y, hYY⟩ : ∃ Y, zerosS 4019 = Y := ⟨_, rfl⟩
    rw [hYY] at hY hzz
    have HV := Lib.hid (And.intro hG (And.intro hGo (And.intro hZ (And.intro hY (And.intro hN4 hYY)))))
    simp only [h] at HC
    have HE := Lib.hid h
    have zA : (putS g 8).size = 8 := by rw [putS8 g (by omega)]; exact putL_length 8 _
    have zB : (putS t 4).size = 4 := by rw [putS4 t (by omega) (by omega)]; exact putL_length 4 _
    have zC : (putS e 4).size = 4 := by rw [putS4 e (by omega) (by omega)]; exact putL_length 4 _
    have zD : (putS c 8).size = 8 := by rw [putS8 c (by omega)]; exact putL_length 8 _
    clear h hG hGE hGo hZ hY hYY hN4 hgok n1 n2 n3 n4 n5 n6 n7 n8 b1 b2 b3 b4 b5 b6 hb
    go_enter Try.func14, Try.ntmps14
    go_wp2_with fail
    refine (HC.out _).mono ?_
    rintro en w1 ⟨rfl, hb1⟩
    have k1 : w1.heap[w.heap.size]? = some (.cells #[.int .i64 g, .int .i64 t, .int .i64 e, .int .i64 c, .int .i64 b, .int .i64 l, .int .i64 f] 26 (0, 0)) := (hb1.block _ (by simp)).trans (alloc_new w _)
    have H1 := Lib.hid (And.intro ((alloc_below w _).trans (hb1.mono (by simp))) k1)
    clear hb1 k1
    obtain ⟨c0, c1, c2, c3, c4, c5, c6⟩ := blk7 H1.out.2
    go_wp2_with fail
    refine (rput_any g 8 _ HL.out.2.2.2.2.1).mono ?_
    rintro en w2 ⟨rfl, hb2⟩
    have H2 := Lib.hid (And.intro (H1.out.1.trans (hb2.mono H1.out.1.size)) ((hb2.block _ (lt_of_block H1.out.2)).trans H1.out.2))
    clear hb2 c0 c1 c2 c3 c4 c5 c6
    obtain ⟨c0, c1, c2, c3, c4, c5, c6⟩ := blk7 H2.out.2
    go_wp2_with fail
    refine (rput_any t 4 _ HL.out.2.2.2.2.2.1).mono ?_
    rintro en w3 ⟨rfl, hb3⟩
    have H3 := Lib.hid (And.intro (H2.out.1.trans (hb3.mono H2.out.1.size)) ((hb3.block _ (lt_of_block H2.out.2)).trans H2.out.2))
    clear hb3 c0 c1 c2 c3 c4 c5 c6
    obtain ⟨c0, c1, c2, c3, c4, c5, c6⟩ := blk7 H3.out.2
    go_wp2_with fail
    refine (rput_any e 4 _ HL.out.2.2.2.2.2.2.1).mono ?_
    rintro en w4 ⟨rfl, hb4⟩
    have H4 := Lib.hid (And.intro (H3.out.1.trans (hb4.mono H3.out.1.size)) ((hb4.block _ (lt_of_block H3.out.2)).trans H3.out.2))
    clear hb4 c0 c1 c2 c3 c4 c5 c6
    obtain ⟨c0, c1, c2, c3, c4, c5, c6⟩ := blk7 H4.out.2
    go_wp2_with fail
    refine (rput_any c 8 _ HL.out.2.2.2.2.2.2.2).mono ?_
    rintro en w5 ⟨rfl, hb5⟩
    have H5 := Lib.hid (And.intro (H4.out.1.trans (hb5.mono H4.out.1.size)) ((hb5.block _ (lt_of_block H4.out.2)).trans H4.out.2))
    clear hb5 c0 c1 c2 c3 c4 c5 c6
    obtain ⟨c0, c1, c2, c3, c4, c5, c6⟩ := blk7 H5.out.2
    go_wp2_with fail
    refine (rgput_any b l f _ HB.out ⟨HL.out.1, HL.out.2.1⟩ ⟨HL.out.2.2.1, HL.out.2.2.2.1⟩).mono ?_
    rintro en w6 ⟨rfl, hb6⟩
    rw [HV.out.1, HV.out.2.1]
    have H6 := Lib.hid (H5.out.1.trans (hb6.mono H5.out.1.size))
    clear hb6 c0 c1 c2 c3 c4 c5 c6
    go_wp2_with fail
    rw [HV.out.2.2.2.2.1]
    refine (rsumS_any _ w6 (by simp [hNz, hGz]; decide)).mono ?_
    rintro en w7 ⟨rfl, hb7⟩
    rw [HV.out.2.2.1]
    have H7 := Lib.hid (H6.out.trans (hb7.mono H6.out.size))
    clear hb7
    go_wp2_with fail
    refine (noughts_any 4019 _ (by decide)).mono ?_
    rintro en w8 ⟨rfl, hb8⟩
    rw [HV.out.2.2.2.2.2]
    have H8 := Lib.hid (H7.out.trans (hb8.mono H7.out.size))
    clear hb8
    go_wp2
    exact HR.out _ _ ⟨by rw [← HV.out.2.2.2.1, HE.out] <;> rfl, H8.out⟩
end Go.Proofs.Ytgaoammkegcdcaa
/- The next superblock: super.Next. -/
namespace Ks
open Go Go.RowKit
set_option linter.unusedVariables false
theorem fro7 {w : World} {b : Nat} {c0 c1 c2 c3 c4 c5 c6 : Value} {T : TypeId} (h : w.heap[b]? = some (.cells #[c0, c1, c2, c3, c4, c5, c6] T (0, 0))) : w.frozen? ⟨b, 0, none⟩ = false ∧ w.frozen? ⟨b, 1, none⟩ = false ∧ w.frozen? ⟨b, 2, none⟩ = false ∧ w.frozen? ⟨b, 3, none⟩ = false ∧ w.frozen? ⟨b, 4, none⟩ = false ∧ w.frozen? ⟨b, 5, none⟩ = false ∧ w.frozen? ⟨b, 6, none⟩ = false :=
  ⟨frozen_of_row w b 0 _ _ h, frozen_of_row w b 1 _ _ h, frozen_of_row w b 2 _ _ h, frozen_of_row w b 3 _ _ h, frozen_of_row w b 4 _ _ h, frozen_of_row w b 5 _ _ h, frozen_of_row w b 6 _ _ h⟩
def nxE (g t e c b l f : Int) : Int := if supOk g t e c b l f then (if g = 1152921504606846976 then 6 else 0) else 2
end Ks
namespace Go.Proofs.Ytgaoammkegcdcaa
open Go.RowKit Ks
set_option linter.unusedVariables false
def nxV (g t e c b l f : Int) : Value := if nxE g t e c b l f = 0 then supV (g + 1) t e c b l f else supV 0 0 0 0 0 0 0
theorem nx_no {g t e c b l f : Int} (h : supOk g t e c b l f = false) : nxE g t e c b l f = 2 ∧ nxV g t e c b l f = supV 0 0 0 0 0 0 0 := by
  have h1 : nxE g t e c b l f = 2 := by unfold nxE; rw [if_neg (by rw [h]; exact Bool.false_ne_true)]
  exact ⟨h1, by unfold nxV; rw [h1, if_neg (by decide)]⟩
theorem nx_far {g t e c b l f : Int} (h : supOk g t e c b l f = true) (hg : g = 1152921504606846976) : nxE g t e c b l f = 6 ∧ nxV g t e c b l f = supV 0 0 0 0 0 0 0 := by
  have h1 : nxE g t e c b l f = 6 := by unfold nxE; rw [if_pos h, if_pos hg]
  exact ⟨h1, by unfold nxV; rw [h1, if_neg (by decide)]⟩
theorem nx_yes {g t e c b l f : Int} (h : supOk g t e c b l f = true) (hg : ¬ g = 1152921504606846976) : nxE g t e c b l f = 0 ∧ nxV g t e c b l f = supV (g + 1) t e c b l f := by
  have h1 : nxE g t e c b l f = 0 := by unfold nxE; rw [if_pos h, if_neg hg]
  exact ⟨h1, by unfold nxV; rw [h1, if_pos rfl]⟩
set_option maxHeartbeats 2000000 in
set_option maxRecDepth 100000 in
theorem snext_any (g t e c b l f : Int) (w : World) (hb : -9223372036854775808 ≤ b ∧ b ≤ 9223372036854775807) :
    Calls Try.prog 15 #[supV g t e c b l f] w fun en w' => en = .returned (.tuple #[nxV g t e c b l f, .int .i64 (nxE g t e c b l f)]) ∧ Below w.heap.size w w' := by
  refine calls_by fun R HR => ?_
  have HC := Lib.hid (fun w => scheck_any g t e c b l f w hb)
  obtain ⟨W, hW⟩ : ∃ W, (w.alloc (.cells #[.int .i64 g, .int .i64 t, .int .i64 e, .int .i64 c, .int .i64 b, .int .i64 l, .int .i64 f] 26)).alloc (.cells #[.int .i64 0, .int .i64 0, .int .i64 0, .int .i64 0, .int .i64 0, .int .i64 0, .int .i64 0] 26) = W := ⟨_, rfl⟩
  have HW : Hid (Below w.heap.size w W ∧ W.heap[w.heap.size]? = some (.cells #[.int .i64 g, .int .i64 t, .int .i64 e, .int .i64 c, .int .i64 b, .int .i64 l, .int .i64 f] 26 (0, 0)) ∧ W.heap[w.heap.size + 1]? = some (.cells #[.int .i64 0, .int .i64 0, .int .i64 0, .int .i64 0, .int .i64 0, .int .i64 0, .int .i64 0] 26 (0, 0))) := Lib.hid (by
    rw [← hW]
    exact ⟨((Below.refl _ _).alloc (Nat.le_refl _) _).alloc (by simp) _, heap_alloc2_old _ _ _, heap_alloc2_new _ _ _⟩)
  cases h : supOk g t e c b l f
  · have HV := Lib.hid (nx_no h)
    rw [(sup_no h).2] at HC
    clear h
    obtain ⟨c0, c1, c2, c3, c4, c5, c6⟩ := blk7 HW.out.2.1
    go_enter Try.func15, Try.ntmps15
    go_wp2_with fail
    refine (HC.out _).mono ?_
    rintro en w1 ⟨rfl, hb1⟩
    have H1 := Lib.hid (And.intro (HW.out.1.trans (hb1.mono HW.out.1.size)) ((hb1.block _ (lt_of_block HW.out.2.2)).trans HW.out.2.2))
    clear hb1 c0 c1 c2 c3 c4 c5 c6
    obtain ⟨z0, z1, z2, z3, z4, z5, z6⟩ := blk7 H1.out.2
    obtain ⟨f0, f1, f2, f3, f4, f5, f6⟩ := fro7 H1.out.2
    go_wp2
    refine bodyPost_ret (v := .tuple #[supV 0 0 0 0 0 0 0, .int .i64 2]) (by simp [results, Try.results15, go_sem, supV, z0, z1, z2, z3, z4, z5, z6]) rfl ?_
    exact HR.out _ _ ⟨by rw [HV.out.1, HV.out.2], by (repeat refine Below.setCell ?_ (by simp) _); exact H1.out.1⟩
  · by_cases hg : g = 1152921504606846976
    · have HV := Lib.hid (nx_far h hg)
      rw [sup_yes h] at HC
      clear h
      obtain ⟨c0, c1, c2, c3, c4, c5, c6⟩ := blk7 HW.out.2.1
      subst hg
      go_enter Try.func15, Try.ntmps15
      go_wp2_with fail
      refine (HC.out _).mono ?_
      rintro en w1 ⟨rfl, hb1⟩
      have H1 := Lib.hid (And.intro (HW.out.1.trans (hb1.mono HW.out.1.size)) (And.intro ((hb1.block _ (lt_of_block HW.out.2.2)).trans HW.out.2.2) ((hb1.block _ (lt_of_block HW.out.2.1)).trans HW.out.2.1)))
      clear hb1 c0 c1 c2 c3 c4 c5 c6
      obtain ⟨c0, c1, c2, c3, c4, c5, c6⟩ := blk7 H1.out.2.2
      obtain ⟨z0, z1, z2, z3, z4, z5, z6⟩ := blk7 H1.out.2.1
      obtain ⟨f0, f1, f2, f3, f4, f5, f6⟩ := fro7 H1.out.2.1
      go_wp2
      refine bodyPost_ret (v := .tuple #[supV 0 0 0 0 0 0 0, .int .i64 6]) (by simp [results, Try.results15, go_sem, supV, z0, z1, z2, z3, z4, z5, z6]) rfl ?_
      exact HR.out _ _ ⟨by rw [HV.out.1, HV.out.2], by (repeat refine Below.setCell ?_ (by simp) _); exact H1.out.1⟩
    · have HV := Lib.hid (nx_yes h hg)
      have hgb : (g == 1152921504606846976) = false := by rw [beq_eq_false_iff_ne]; exact hg
      obtain ⟨-, n1, n2, -⟩ := sup_ok.1 h
      rw [sup_yes h] at HC
      clear h
      obtain ⟨c0, c1, c2, c3, c4, c5, c6⟩ := blk7 HW.out.2.1
      go_enter Try.func15, Try.ntmps15
      go_wp2_with fail
      refine (HC.out _).mono ?_
      rintro en w1 ⟨rfl, hb1⟩
      have H1 := Lib.hid (And.intro (HW.out.1.trans (hb1.mono HW.out.1.size)) (And.intro ((hb1.block _ (lt_of_block HW.out.2.2)).trans HW.out.2.2) ((hb1.block _ (lt_of_block HW.out.2.1)).trans HW.out.2.1)))
      clear hb1 c0 c1 c2 c3 c4 c5 c6
      obtain ⟨c0, c1, c2, c3, c4, c5, c6⟩ := blk7 H1.out.2.2
      obtain ⟨d0, -⟩ := fro7 H1.out.2.2
      obtain ⟨z0, z1, z2, z3, z4, z5, z6⟩ := blk7 H1.out.2.1
      obtain ⟨f0, f1, f2, f3, f4, f5, f6⟩ := fro7 H1.out.2.1
      go_wp2
      refine bodyPost_ret (v := .tuple #[supV (g + 1) t e c b l f, .int .i64 0]) (by simp [results, Try.results15, go_sem, supV, z0, z1, z2, z3, z4, z5, z6]) rfl ?_
      exact HR.out _ _ ⟨by rw [HV.out.1, HV.out.2], by (repeat refine Below.setCell ?_ (by simp) _); exact H1.out.1⟩
end Go.Proofs.Ytgaoammkegcdcaa
/- The numbers in a superblock's bytes. Plain. -/
namespace Ks
open Go Go.RowKit
set_option linter.unusedVariables false
/-- which superblock any bytes are -/
def stOk (s : ByteArray) : Bool := decide (s.size = 4096 ∧ supOk (numAt s 9 8) (numAt s 17 4) (numAt s 21 4) (numAt s 25 8) (numAt s 33 4) (numAt s 37 4) (numAt s 41 4) = true ∧ supS (numAt s 9 8) (numAt s 17 4) (numAt s 21 4) (numAt s 25 8) (numAt s 33 4) (numAt s 37 4) (numAt s 41 4) = s)
def stE (s : ByteArray) : Int := if stOk s then 0 else 3
def stN (s : ByteArray) (i n : Nat) : Int := if stOk s then (numAt s i n : Int) else 0
theorem st_ok {s : ByteArray} : stOk s = true ↔ s.size = 4096 ∧ supOk (numAt s 9 8) (numAt s 17 4) (numAt s 21 4) (numAt s 25 8) (numAt s 33 4) (numAt s 37 4) (numAt s 41 4) = true ∧ supS (numAt s 9 8) (numAt s 17 4) (numAt s 21 4) (numAt s 25 8) (numAt s 33 4) (numAt s 37 4) (numAt s 41 4) = s := by simp [stOk]
theorem st_no {s : ByteArray} (h : ¬ stOk s = true) : stE s = 3 ∧ stOk s = false ∧ ∀ i n, stN s i n = 0 := ⟨by rw [stE, if_neg h], by simpa using h, fun i n => by rw [stN, if_neg h]⟩
theorem st_yes {s : ByteArray} (h : stOk s = true) : stE s = 0 ∧ ∀ i n, stN s i n = numAt s i n := ⟨by rw [stE, if_pos h], fun i n => by rw [stN, if_pos h]⟩
theorem getN_put8 (n : Nat) (h : n < 18446744073709551616) : getN (putL 8 n) = n := by
  rw [getN_putL, show (256 : Nat) ^ 8 = 18446744073709551616 by decide]
  exact Nat.mod_eq_of_lt h
theorem sup_size (g t e c b l f : Int) (h : supOk g t e c b l f = true) : (supS g t e c b l f).size = 4096 := by
  rw [supS, if_pos h]
  show (supB g t e c b l f).length = 4096
  rw [supB, List.length_append, List.length_append, supL_length, shaL_length, List.length_replicate]
theorem sup_nums (g t e c b l f : Int) (h : supOk g t e c b l f = true) : (numAt (supS g t e c b l f) 9 8 : Int) = g ∧ (numAt (supS g t e c b l f) 17 4 : Int) = t ∧ (numAt (supS g t e c b l f) 21 4 : Int) = e ∧ (numAt (supS g t e c b l f) 25 8 : Int) = c ∧
    (numAt (supS g t e c b l f) 33 4 : Int) = b ∧ (numAt (supS g t e c b l f) 37 4 : Int) = l ∧ (numAt (supS g t e c b l f) 41 4 : Int) = f := by
  obtain ⟨hg, h1, h2, h3, h4, h5, h6, h7, h8⟩ := sup_ok.1 h
  obtain ⟨b1, b2, b3, b4, b5, b6⟩ := geo_ok.1 hg
  obtain ⟨R, hR⟩ : ∃ R, shaL (supL g t e c b l f) ++ List.replicate 4019 0 = R := ⟨_, rfl⟩
  have hd : (supS g t e c b l f).data.toList = markL ++ supN g t e c ++ geoL b l f ++ R := by rw [supS, if_pos h, ← hR]; rfl
  unfold numAt
  rw [hd, supN, geoL]
  clear hd hR
  obtain ⟨A, hA⟩ : ∃ A, putL 8 g.toNat = A := ⟨_, rfl⟩
  obtain ⟨B, hB⟩ : ∃ B, putL 4 t.toNat = B := ⟨_, rfl⟩
  obtain ⟨C, hC⟩ : ∃ C, putL 4 e.toNat = C := ⟨_, rfl⟩
  obtain ⟨D, hD⟩ : ∃ D, putL 8 c.toNat = D := ⟨_, rfl⟩
  obtain ⟨E, hE⟩ : ∃ E, putL 4 b.toNat = E := ⟨_, rfl⟩
  obtain ⟨F, hF⟩ : ∃ F, putL 4 l.toNat = F := ⟨_, rfl⟩
  obtain ⟨G, hG⟩ : ∃ G, putL 4 f.toNat = G := ⟨_, rfl⟩
  have lM : markL.length = 9 := rfl
  have lA : A.length = 8 := by rw [← hA]; exact putL_length _ _
  have lB : B.length = 4 := by rw [← hB]; exact putL_length _ _
  have lC : C.length = 4 := by rw [← hC]; exact putL_length _ _
  have lD : D.length = 8 := by rw [← hD]; exact putL_length _ _
  have lE : E.length = 4 := by rw [← hE]; exact putL_length _ _
  have lF : F.length = 4 := by rw [← hF]; exact putL_length _ _
  have lG : G.length = 4 := by rw [← hG]; exact putL_length _ _
  have vA : (getN A : Int) = g := by rw [← hA, getN_put8 _ (by omega)]; omega
  have vB : (getN B : Int) = t := by rw [← hB, getN_put4 _ (by omega)]; omega
  have vC : (getN C : Int) = e := by rw [← hC, getN_put4 _ (by omega)]; omega
  have vD : (getN D : Int) = c := by rw [← hD, getN_put8 _ (by omega)]; omega
  have vE : (getN E : Int) = b := by rw [← hE, getN_put4 _ (by omega)]; omega
  have vF : (getN F : Int) = l := by rw [← hF, getN_put4 _ (by omega)]; omega
  have vG : (getN G : Int) = f := by rw [← hG, getN_put4 _ (by omega)]; omega
  rw [hA, hB, hC, hD, hE, hF, hG]
  clear hA hB hC hD hE hF hG
  obtain ⟨M, hM⟩ : ∃ M, markL = M := ⟨_, rfl⟩
  rw [hM] at lM ⊢
  clear hM
  refine ⟨?_, ?_, ?_, ?_, ?_, ?_, ?_⟩
  · rw [show M ++ (A ++ B ++ C ++ D) ++ (E ++ F ++ G) ++ R = M ++ (A ++ (B ++ C ++ D ++ E ++ F ++ G ++ R)) by simp, piece_mid _ _ _ 9 8 lM lA]; exact vA
  · rw [show M ++ (A ++ B ++ C ++ D) ++ (E ++ F ++ G) ++ R = (M ++ A) ++ (B ++ (C ++ D ++ E ++ F ++ G ++ R)) by simp, piece_mid _ _ _ 17 4 (by rw [List.length_append]; omega) lB]; exact vB
  · rw [show M ++ (A ++ B ++ C ++ D) ++ (E ++ F ++ G) ++ R = (M ++ A ++ B) ++ (C ++ (D ++ E ++ F ++ G ++ R)) by simp, piece_mid _ _ _ 21 4 (by rw [List.length_append, List.length_append]; omega) lC]; exact vC
  · rw [show M ++ (A ++ B ++ C ++ D) ++ (E ++ F ++ G) ++ R = (M ++ A ++ B ++ C) ++ (D ++ (E ++ F ++ G ++ R)) by simp, piece_mid _ _ _ 25 8 (by rw [List.length_append, List.length_append, List.length_append]; omega) lD]; exact vD
  · rw [show M ++ (A ++ B ++ C ++ D) ++ (E ++ F ++ G) ++ R = (M ++ A ++ B ++ C ++ D) ++ (E ++ (F ++ G ++ R)) by simp, piece_mid _ _ _ 33 4 (by rw [List.length_append, List.length_append, List.length_append, List.length_append]; omega) lE]; exact vE
  · rw [show M ++ (A ++ B ++ C ++ D) ++ (E ++ F ++ G) ++ R = (M ++ A ++ B ++ C ++ D ++ E) ++ (F ++ (G ++ R)) by simp, piece_mid _ _ _ 37 4 (by rw [List.length_append, List.length_append, List.length_append, List.length_append, List.length_append]; omega) lF]; exact vF
  · rw [show M ++ (A ++ B ++ C ++ D) ++ (E ++ F ++ G) ++ R = (M ++ A ++ B ++ C ++ D ++ E ++ F) ++ (G ++ R) by simp, piece_mid _ _ _ 41 4 (by rw [List.length_append, List.length_append, List.length_append, List.length_append, List.length_append, List.length_append]; omega) lG]; exact vG
/-- what was put is taken as it was -/
theorem st_sup (g t e c b l f : Int) (h : supOk g t e c b l f = true) : stOk (supS g t e c b l f) = true ∧ stN (supS g t e c b l f) 9 8 = g ∧ stN (supS g t e c b l f) 17 4 = t ∧ stN (supS g t e c b l f) 21 4 = e ∧ stN (supS g t e c b l f) 25 8 = c ∧
    stN (supS g t e c b l f) 33 4 = b ∧ stN (supS g t e c b l f) 37 4 = l ∧ stN (supS g t e c b l f) 41 4 = f := by
  obtain ⟨n1, n2, n3, n4, n5, n6, n7⟩ := sup_nums g t e c b l f h
  have hok : stOk (supS g t e c b l f) = true := by
    rw [st_ok, n1, n2, n3, n4, n5, n6, n7]
    exact ⟨sup_size g t e c b l f h, h, rfl⟩
  have hy := (st_yes hok).2
  refine ⟨hok, ?_, ?_, ?_, ?_, ?_, ?_, ?_⟩
  · rw [hy]; exact n1
  · rw [hy]; exact n2
  · rw [hy]; exact n3
  · rw [hy]; exact n4
  · rw [hy]; exact n5
  · rw [hy]; exact n6
  · rw [hy]; exact n7
end Ks
/- The numbers of a superblock's bytes, as they are read. Plain. -/
namespace Ks
open Go Go.RowKit
set_option linter.unusedVariables false
theorem numAt_ext (s : ByteArray) (a z i n : Nat) (h : i + n ≤ z - a) : numAt (s.extract a z) i n = numAt s (a + i) n := by
  unfold numAt
  rw [data_extract, List.drop_take, List.take_take, List.drop_drop, Nat.min_eq_left (by omega)]
theorem get8 (s : ByteArray) (i : Nat) (h : i + 8 ≤ s.size) : (getE (s.extract i (i + 8)) = 0 ∧ getV (s.extract i (i + 8)) = (numAt s i 8 : Int) ∧ numAt s i 8 ≤ 9223372036854775807) ∨ (getE (s.extract i (i + 8)) = 3 ∧ 9223372036854775807 < numAt s i 8) := by
  have hl := data_length s
  have he : (s.extract i (i + 8)).data.toList = (s.data.toList.drop i).take 8 := by rw [data_extract, show i + 8 - i = 8 by omega]
  have hlen : ((s.data.toList.drop i).take 8).length = 8 := by rw [List.length_take, List.length_drop]; omega
  have hn : numAt s i 8 = getN ((s.data.toList.drop i).take 8) := rfl
  by_cases hg : numAt s i 8 ≤ 9223372036854775807
  · left
    have ho : getOk ((s.data.toList.drop i).take 8) = true := by
      simp only [getOk, decide_eq_true_eq]
      rw [hlen, ← hn]
      exact ⟨by omega, by omega, hg⟩
    refine ⟨by rw [getE, he, if_pos ho], by rw [getV, he, if_pos ho, hn], hg⟩
  · right
    have ho : ¬ getOk ((s.data.toList.drop i).take 8) = true := by
      simp only [getOk, decide_eq_true_eq]
      rw [hlen, ← hn]
      exact fun h => hg h.2.2
    refine ⟨by rw [getE, he, if_neg ho], by omega⟩
theorem st_geo (s : ByteArray) (h : s.size = 4096) : (s.extract 33 45).size = 12 ∧ geoT (s.extract 33 45) = geoOk (numAt s 33 4) (numAt s 37 4) (numAt s 41 4) ∧ numAt (s.extract 33 45) 0 4 = numAt s 33 4 ∧ numAt (s.extract 33 45) 4 4 = numAt s 37 4 ∧ numAt (s.extract 33 45) 8 4 = numAt s 41 4 := by
  have hz : (s.extract 33 45).size = 12 := by rw [ByteArray.size_extract]; omega
  have n0 := numAt_ext s 33 45 0 4 (by omega)
  have n1 := numAt_ext s 33 45 4 4 (by omega)
  have n2 := numAt_ext s 33 45 8 4 (by omega)
  refine ⟨hz, ?_, n0, n1, n2⟩
  unfold geoT
  rw [n0, n1, n2, Bool.eq_iff_iff, decide_eq_true_iff]
  exact ⟨fun h => h.2, fun h => ⟨hz, h⟩⟩
/-- a superblock's bytes begin with the mark -/
theorem st_mark (s : ByteArray) (h : stOk s = true) : (s.extract 0 9).data.toList = markL := by
  obtain ⟨h1, h2, h3⟩ := st_ok.1 h
  rw [data_extract, ← h3, supS, if_pos h2]
  show ((supB _ _ _ _ _ _ _).drop 0).take 9 = _
  rw [supB, supL, List.drop_zero, List.append_assoc, List.append_assoc]
  exact List.take_left' rfl
end Ks
/- Which superblock any bytes are: the reference's Take. -/
namespace Go.Proofs.Ytgaoammkegcdcaa
open Go.RowKit Ks
set_option linter.unusedVariables false
/-- the superblock that bytes are -/
def stV (s : ByteArray) : Value := supV (stN s 9 8) (stN s 17 4) (stN s 21 4) (stN s 25 8) (stN s 33 4) (stN s 37 4) (stN s 41 4)
theorem stV_no {s : ByteArray} (h : ¬ stOk s = true) : stV s = supV 0 0 0 0 0 0 0 ∧ stOk s = false ∧ stE s = 3 := by
  have := st_no h
  exact ⟨by unfold stV; simp only [this.2.2], this.2.1, this.1⟩
theorem stV_yes {s : ByteArray} (h : stOk s = true) : stV s = supV (numAt s 9 8) (numAt s 17 4) (numAt s 21 4) (numAt s 25 8) (numAt s 33 4) (numAt s 37 4) (numAt s 41 4) ∧ stOk s = true ∧ stE s = 0 := by
  have := st_yes h
  exact ⟨by unfold stV; simp only [this.2], h, this.1⟩
set_option maxHeartbeats 4000000 in
set_option maxRecDepth 100000 in
theorem rstake_any (s : ByteArray) (w : World) :
    Calls Try.prog 9 #[.string s] w fun en w' => en = .returned (.tuple #[stV s, .bool (stOk s)]) ∧ Below w.heap.size w w' := by
  refine calls_by fun R HR => ?_
  obtain ⟨W, hW⟩ : ∃ W, w.alloc (.cells #[.int .i64 0, .int .i64 0, .int .i64 0, .int .i64 0, .int .i64 0, .int .i64 0, .int .i64 0] 26) = W := ⟨_, rfl⟩
  have HW := Lib.hid (And.intro (show Below w.heap.size w W by rw [← hW]; exact alloc_below w _) (show W.heap[w.heap.size]? = some (.cells #[.int .i64 0, .int .i64 0, .int .i64 0, .int .i64 0, .int .i64 0, .int .i64 0, .int .i64 0] 26 (0, 0)) by rw [← hW]; exact alloc_new w _))
  by_cases hz : s.size = 4096
  · have hzb : ((s.size : Int) != 4096) = false := by rw [hz]; rfl
    have hs1 : (9 : Int) ≤ (s.size : Int) ∧ (17 : Int) ≤ (s.size : Int) ∧ (21 : Int) ≤ (s.size : Int) ∧ (25 : Int) ≤ (s.size : Int) ∧ (33 : Int) ≤ (s.size : Int) ∧ (45 : Int) ≤ (s.size : Int) := by omega
    have hs2 : 9 ≤ s.size ∧ 17 ≤ s.size ∧ 21 ≤ s.size ∧ 25 ≤ s.size ∧ 33 ≤ s.size ∧ 45 ≤ s.size := by omega
    obtain ⟨hs3, hs4, hs5, hs6, hs7, hs8⟩ := hs1
    obtain ⟨ht3, ht4, ht5, ht6, ht7, ht8⟩ := hs2
    have g1 : getV (s.extract 17 21) = (numAt s 17 4 : Int) := (getV_at s 17 21 (by decide) (by decide) (by omega)).1
    have g2 : getV (s.extract 21 25) = (numAt s 21 4 : Int) := (getV_at s 21 25 (by decide) (by decide) (by omega)).1
    have HGT := Lib.hid (st_geo s hz)
    have HNO := Lib.hid (And.intro (@stV_no s) (And.intro (@stV_yes s) (@st_ok s)))
    obtain ⟨n0, hn0⟩ : ∃ n0 : Int, getV (s.extract 9 17) = n0 := ⟨_, rfl⟩
    obtain ⟨n3, hn3⟩ : ∃ n3 : Int, getV (s.extract 25 33) = n3 := ⟨_, rfl⟩
    obtain ⟨p0, hp0⟩ : ∃ p0 : Int, gN0 (s.extract 33 45) = p0 := ⟨_, rfl⟩
    obtain ⟨p1, hp1⟩ : ∃ p1 : Int, gN1 (s.extract 33 45) = p1 := ⟨_, rfl⟩
    obtain ⟨p2, hp2⟩ : ∃ p2 : Int, gN2 (s.extract 33 45) = p2 := ⟨_, rfl⟩
    have hbad : (9223372036854775807 < numAt s 9 8 ∨ 9223372036854775807 < numAt s 25 8 ∨ geoT (s.extract 33 45) = false) → ¬ stOk s = true := by
      intro hb hok
      obtain ⟨-, ho, -⟩ := st_ok.1 hok
      obtain ⟨hg, o1, o2, o3, o4, o5, o6, o7, o8⟩ := sup_ok.1 ho
      rw [← HGT.out.2.1] at hg
      rcases hb with hb | hb | hb
      · omega
      · omega
      · rw [hb] at hg; cases hg
    rcases get8 s 9 (by omega) with ⟨e0, v0, l0⟩ | ⟨e0, l0⟩
    · rcases get8 s 25 (by omega) with ⟨e3, v3, l3⟩ | ⟨e3, l3⟩
      · cases hT : geoT (s.extract 33 45)
        · have HV := Lib.hid (stV_no (hbad (.inr (.inr hT))))
          have HG := Lib.hid (And.intro hn0 (And.intro (show getE (s.extract 9 17) = 0 from e0) (And.intro g1 (And.intro g2 (And.intro hn3 (show getE (s.extract 25 33) = 0 from e3))))))
          have HN := Lib.hid (And.intro hp0 (And.intro hp1 (And.intro hp2 hT)))
          clear hbad hn0 hn3 hp0 hp1 hp2 e0 v0 l0 e3 v3 l3 g1 g2 hT HNO HGT
          go_enter Try.func9, Try.ntmps9
          go_wp2_with fail
          refine (rget_any _ _).mono ?_
          rintro en w1 ⟨rfl, rfl⟩
          rw [HG.out.1, HG.out.2.1]
          go_wp2_with fail
          refine (rget_any _ _).mono ?_
          rintro en w1 ⟨rfl, rfl⟩
          rw [HG.out.2.2.1]
          go_wp2_with fail
          refine (rget_any _ _).mono ?_
          rintro en w1 ⟨rfl, rfl⟩
          rw [HG.out.2.2.2.1]
          go_wp2_with fail
          refine (rget_any _ _).mono ?_
          rintro en w1 ⟨rfl, rfl⟩
          rw [HG.out.2.2.2.2.1, HG.out.2.2.2.2.2]
          go_wp2_with fail
          refine (rgtake_any _ _).mono ?_
          rintro en w3 ⟨rfl, hb3⟩
          rw [HN.out.1, HN.out.2.1, HN.out.2.2.1, HN.out.2.2.2]
          obtain ⟨W4, hW4⟩ : ∃ W4, w3.alloc (.cells #[.int .i64 p0, .int .i64 p1, .int .i64 p2] 24) = W4 := ⟨_, rfl⟩
          have hb4 : Below w3.heap.size w3 W4 := by rw [← hW4]; exact alloc_below w3 _
          have k4 : W4.heap[w3.heap.size]? = some (.cells #[.int .i64 p0, .int .i64 p1, .int .i64 p2] 24 (0, 0)) := by rw [← hW4]; exact alloc_new w3 _
          have hbW := hb3.trans (hb4.mono hb3.size)
          have H4 := Lib.hid (And.intro (HW.out.1.trans (hbW.mono HW.out.1.size)) (And.intro ((hbW.block _ (lt_of_block HW.out.2)).trans HW.out.2) k4))
          clear hb3 hb4 k4 hbW hW
          obtain ⟨z0, z1, z2, z3, z4, z5, z6⟩ := blk7 H4.out.2.1
          obtain ⟨f0, f1, f2, f3, f4, f5, f6⟩ := fro7 H4.out.2.1
          go_wp2
          refine bodyPost_ret (v := .tuple #[supV 0 0 0 0 0 0 0, .bool false]) (by simp [results, Try.results9, go_sem, supV, z0, z1, z2, z3, z4, z5, z6]) rfl ?_
          exact HR.out _ _ ⟨by rw [HV.out.1, HV.out.2.1], by (repeat refine Below.setCell ?_ (by simp) _); exact H4.out.1⟩
        · obtain ⟨y0, y1, y2, -⟩ := geoT_yes hT
          have HQ := And.intro (fun (h : supOk (numAt s 9 8) (numAt s 17 4) (numAt s 21 4) (numAt s 25 8) (numAt s 33 4) (numAt s 37 4) (numAt s 41 4) = true ∧ supS (numAt s 9 8) (numAt s 17 4) (numAt s 21 4) (numAt s 25 8) (numAt s 33 4) (numAt s 37 4) (numAt s 41 4) = s) => stV_yes (st_ok.2 ⟨hz, h.1, h.2⟩)) (fun (h : ¬ (supOk (numAt s 9 8) (numAt s 17 4) (numAt s 21 4) (numAt s 25 8) (numAt s 33 4) (numAt s 37 4) (numAt s 41 4) = true ∧ supS (numAt s 9 8) (numAt s 17 4) (numAt s 21 4) (numAt s 25 8) (numAt s 33 4) (numAt s 37 4) (numAt s 41 4) = s)) => stV_no (s := s) fun hk => h (st_ok.1 hk).2)
          have hB := numAt_lt s 33
          have HB : Hid (-9223372036854775808 ≤ p0 ∧ p0 ≤ 9223372036854775807) := Lib.hid (by rw [← hp0, y0, HGT.out.2.2.1]; omega)
          have hq0 : (numAt s 33 4 : Int) = p0 := by rw [← hp0, y0, HGT.out.2.2.1]
          have hq1 : (numAt s 37 4 : Int) = p1 := by rw [← hp1, y1, HGT.out.2.2.2.1]
          have hq2 : (numAt s 41 4 : Int) = p2 := by rw [← hp2, y2, HGT.out.2.2.2.2]
          rw [v0.symm.trans hn0, v3.symm.trans hn3, hq0, hq1, hq2] at HQ
          generalize (numAt s 17 4 : Int) = m1 at HQ g1
          generalize (numAt s 21 4 : Int) = m2 at HQ g2
          have HG := Lib.hid (And.intro hn0 (And.intro (show getE (s.extract 9 17) = 0 from e0) (And.intro g1 (And.intro g2 (And.intro hn3 (show getE (s.extract 25 33) = 0 from e3))))))
          have HN := Lib.hid (And.intro hp0 (And.intro hp1 (And.intro hp2 hT)))
          have HQ := Lib.hid HQ
          clear hbad hn0 hn3 hp0 hp1 hp2 e0 v0 l0 e3 v3 l3 g1 g2 hT HNO HGT hq0 hq1 hq2 hB y0 y1 y2
          go_enter Try.func9, Try.ntmps9
          go_wp2_with fail
          refine (rget_any _ _).mono ?_
          rintro en w1 ⟨rfl, rfl⟩
          rw [HG.out.1, HG.out.2.1]
          go_wp2_with fail
          refine (rget_any _ _).mono ?_
          rintro en w1 ⟨rfl, rfl⟩
          rw [HG.out.2.2.1]
          go_wp2_with fail
          refine (rget_any _ _).mono ?_
          rintro en w1 ⟨rfl, rfl⟩
          rw [HG.out.2.2.2.1]
          go_wp2_with fail
          refine (rget_any _ _).mono ?_
          rintro en w1 ⟨rfl, rfl⟩
          rw [HG.out.2.2.2.2.1, HG.out.2.2.2.2.2]
          go_wp2_with fail
          refine (rgtake_any _ _).mono ?_
          rintro en w3 ⟨rfl, hb3⟩
          rw [HN.out.1, HN.out.2.1, HN.out.2.2.1, HN.out.2.2.2]
          obtain ⟨W4, hW4⟩ : ∃ W4, w3.alloc (.cells #[.int .i64 p0, .int .i64 p1, .int .i64 p2] 24) = W4 := ⟨_, rfl⟩
          have hb4 : Below w3.heap.size w3 W4 := by rw [← hW4]; exact alloc_below w3 _
          have k4 : W4.heap[w3.heap.size]? = some (.cells #[.int .i64 p0, .int .i64 p1, .int .i64 p2] 24 (0, 0)) := by rw [← hW4]; exact alloc_new w3 _
          have hbW := hb3.trans (hb4.mono hb3.size)
          have H4 := Lib.hid (And.intro (HW.out.1.trans (hbW.mono HW.out.1.size)) (And.intro ((hbW.block _ (lt_of_block HW.out.2)).trans HW.out.2) k4))
          clear hb3 hb4 k4 hbW hW
          obtain ⟨y0, y1, y2, -, -, -⟩ := blk3 H4.out.2.2
          go_wp2_with fail
          refine (rsput_any n0 m1 m2 n3 p0 p1 p2 _ HB.out).mono ?_
          rintro en w6 ⟨rfl, hb6⟩
          have hA6 := (alloc_below W4 (.cells #[.int .i64 n0, .int .i64 m1, .int .i64 m2, .int .i64 n3, .int .i64 p0, .int .i64 p1, .int .i64 p2] 26)).trans (hb6.mono (by simp))
          have k6 := (hb6.block _ (by simp)).trans (alloc_new W4 (.cells #[.int .i64 n0, .int .i64 m1, .int .i64 m2, .int .i64 n3, .int .i64 p0, .int .i64 p1, .int .i64 p2] 26))
          have H6 := Lib.hid (And.intro (H4.out.1.trans (hA6.mono H4.out.1.size)) (And.intro ((hA6.block _ (lt_of_block H4.out.2.1)).trans H4.out.2.1) k6))
          clear hb6 hA6 k6 y0 y1 y2 hW4
          obtain ⟨z0, z1, z2, z3, z4, z5, z6⟩ := blk7 H6.out.2.1
          obtain ⟨f0, f1, f2, f3, f4, f5, f6⟩ := fro7 H6.out.2.1
          obtain ⟨d0, d1, d2, d3, d4, d5, d6⟩ := blk7 H6.out.2.2
          cases hk : supOk n0 m1 m2 n3 p0 p1 p2
          · have HV := Lib.hid (HQ.out.2 (by rw [hk]; rintro ⟨h, -⟩; cases h))
            clear hk
            go_wp2
            refine bodyPost_ret (v := .tuple #[supV 0 0 0 0 0 0 0, .bool false]) (by simp [results, Try.results9, go_sem, supV, z0, z1, z2, z3, z4, z5, z6]) rfl ?_
            exact HR.out _ _ ⟨by rw [HV.out.1, HV.out.2.1], by (repeat refine Below.setCell ?_ (by simp) _); exact H6.out.1⟩
          · by_cases hs : supS n0 m1 m2 n3 p0 p1 p2 = s
            · have HV := Lib.hid (HQ.out.1 ⟨hk, hs⟩)
              rw [hs]
              clear hk hs
              go_wp2
              refine bodyPost_ret (v := .tuple #[supV n0 m1 m2 n3 p0 p1 p2, .bool true]) (by simp [results, Try.results9, go_sem, supV, z0, z1, z2, z3, z4, z5, z6]) rfl ?_
              exact HR.out _ _ ⟨by rw [HV.out.1, HV.out.2.1], by (repeat refine Below.setCell ?_ (by simp) _); exact H6.out.1⟩
            · have HV := Lib.hid (HQ.out.2 fun h => hs h.2)
              have hsb := str_neq hs
              clear hk
              go_wp2
              refine bodyPost_ret (v := .tuple #[supV 0 0 0 0 0 0 0, .bool false]) (by simp [results, Try.results9, go_sem, supV, z0, z1, z2, z3, z4, z5, z6]) rfl ?_
              exact HR.out _ _ ⟨by rw [HV.out.1, HV.out.2.1], by (repeat refine Below.setCell ?_ (by simp) _); exact H6.out.1⟩
      · have HV := Lib.hid (stV_no (hbad (.inr (.inl l3))))
        obtain ⟨gt, hgt⟩ : ∃ gt, geoT (s.extract 33 45) = gt := ⟨_, rfl⟩
        have HG := Lib.hid (And.intro hn0 (And.intro (show getE (s.extract 9 17) = 0 from e0) (And.intro g1 (And.intro g2 (And.intro hn3 (show getE (s.extract 25 33) = 3 from e3))))))
        have HN := Lib.hid (And.intro hp0 (And.intro hp1 (And.intro hp2 hgt)))
        clear hbad hn0 hn3 hp0 hp1 hp2 e0 v0 l0 e3 l3 g1 g2 hgt HNO HGT
        go_enter Try.func9, Try.ntmps9
        go_wp2_with fail
        refine (rget_any _ _).mono ?_
        rintro en w1 ⟨rfl, rfl⟩
        rw [HG.out.1, HG.out.2.1]
        go_wp2_with fail
        refine (rget_any _ _).mono ?_
        rintro en w1 ⟨rfl, rfl⟩
        rw [HG.out.2.2.1]
        go_wp2_with fail
        refine (rget_any _ _).mono ?_
        rintro en w1 ⟨rfl, rfl⟩
        rw [HG.out.2.2.2.1]
        go_wp2_with fail
        refine (rget_any _ _).mono ?_
        rintro en w1 ⟨rfl, rfl⟩
        rw [HG.out.2.2.2.2.1, HG.out.2.2.2.2.2]
        go_wp2_with fail
        refine (rgtake_any _ _).mono ?_
        rintro en w3 ⟨rfl, hb3⟩
        rw [HN.out.1, HN.out.2.1, HN.out.2.2.1, HN.out.2.2.2]
        obtain ⟨W4, hW4⟩ : ∃ W4, w3.alloc (.cells #[.int .i64 p0, .int .i64 p1, .int .i64 p2] 24) = W4 := ⟨_, rfl⟩
        have hb4 : Below w3.heap.size w3 W4 := by rw [← hW4]; exact alloc_below w3 _
        have k4 : W4.heap[w3.heap.size]? = some (.cells #[.int .i64 p0, .int .i64 p1, .int .i64 p2] 24 (0, 0)) := by rw [← hW4]; exact alloc_new w3 _
        have hbW := hb3.trans (hb4.mono hb3.size)
        have H4 := Lib.hid (And.intro (HW.out.1.trans (hbW.mono HW.out.1.size)) (And.intro ((hbW.block _ (lt_of_block HW.out.2)).trans HW.out.2) k4))
        clear hb3 hb4 k4 hbW hW
        obtain ⟨z0, z1, z2, z3, z4, z5, z6⟩ := blk7 H4.out.2.1
        obtain ⟨f0, f1, f2, f3, f4, f5, f6⟩ := fro7 H4.out.2.1
        go_wp2
        refine bodyPost_ret (v := .tuple #[supV 0 0 0 0 0 0 0, .bool false]) (by simp [results, Try.results9, go_sem, supV, z0, z1, z2, z3, z4, z5, z6]) rfl ?_
        exact HR.out _ _ ⟨by rw [HV.out.1, HV.out.2.1], by (repeat refine Below.setCell ?_ (by simp) _); exact H4.out.1⟩
    · have HV := Lib.hid (stV_no (hbad (.inl l0)))
      obtain ⟨gt, hgt⟩ : ∃ gt, geoT (s.extract 33 45) = gt := ⟨_, rfl⟩
      obtain ⟨e3, he3⟩ : ∃ e3, getE (s.extract 25 33) = e3 := ⟨_, rfl⟩
      have HG := Lib.hid (And.intro hn0 (And.intro (show getE (s.extract 9 17) = 3 from e0) (And.intro g1 (And.intro g2 (And.intro hn3 he3)))))
      have HN := Lib.hid (And.intro hp0 (And.intro hp1 (And.intro hp2 hgt)))
      clear hbad hn0 hn3 hp0 hp1 hp2 e0 l0 he3 g1 g2 hgt HNO HGT
      go_enter Try.func9, Try.ntmps9
      go_wp2_with fail
      refine (rget_any _ _).mono ?_
      rintro en w1 ⟨rfl, rfl⟩
      rw [HG.out.1, HG.out.2.1]
      go_wp2_with fail
      refine (rget_any _ _).mono ?_
      rintro en w1 ⟨rfl, rfl⟩
      rw [HG.out.2.2.1]
      go_wp2_with fail
      refine (rget_any _ _).mono ?_
      rintro en w1 ⟨rfl, rfl⟩
      rw [HG.out.2.2.2.1]
      go_wp2_with fail
      refine (rget_any _ _).mono ?_
      rintro en w1 ⟨rfl, rfl⟩
      rw [HG.out.2.2.2.2.1, HG.out.2.2.2.2.2]
      go_wp2_with fail
      refine (rgtake_any _ _).mono ?_
      rintro en w3 ⟨rfl, hb3⟩
      rw [HN.out.1, HN.out.2.1, HN.out.2.2.1, HN.out.2.2.2]
      obtain ⟨W4, hW4⟩ : ∃ W4, w3.alloc (.cells #[.int .i64 p0, .int .i64 p1, .int .i64 p2] 24) = W4 := ⟨_, rfl⟩
      have hb4 : Below w3.heap.size w3 W4 := by rw [← hW4]; exact alloc_below w3 _
      have k4 : W4.heap[w3.heap.size]? = some (.cells #[.int .i64 p0, .int .i64 p1, .int .i64 p2] 24 (0, 0)) := by rw [← hW4]; exact alloc_new w3 _
      have hbW := hb3.trans (hb4.mono hb3.size)
      have H4 := Lib.hid (And.intro (HW.out.1.trans (hbW.mono HW.out.1.size)) (And.intro ((hbW.block _ (lt_of_block HW.out.2)).trans HW.out.2) k4))
      clear hb3 hb4 k4 hbW hW
      obtain ⟨z0, z1, z2, z3, z4, z5, z6⟩ := blk7 H4.out.2.1
      obtain ⟨f0, f1, f2, f3, f4, f5, f6⟩ := fro7 H4.out.2.1
      go_wp2
      refine bodyPost_ret (v := .tuple #[supV 0 0 0 0 0 0 0, .bool false]) (by simp [results, Try.results9, go_sem, supV, z0, z1, z2, z3, z4, z5, z6]) rfl ?_
      exact HR.out _ _ ⟨by rw [HV.out.1, HV.out.2.1], by (repeat refine Below.setCell ?_ (by simp) _); exact H4.out.1⟩
  · have hzb : ((s.size : Int) != 4096) = true := by rw [bne_iff_ne]; omega
    have HV := Lib.hid (stV_no (s := s) fun h => hz (st_ok.1 h).1)
    clear hz
    obtain ⟨z0, z1, z2, z3, z4, z5, z6⟩ := blk7 HW.out.2
    obtain ⟨f0, f1, f2, f3, f4, f5, f6⟩ := fro7 HW.out.2
    go_enter Try.func9, Try.ntmps9
    go_wp2
    refine bodyPost_ret (v := .tuple #[supV 0 0 0 0 0 0 0, .bool false]) (by simp [results, Try.results9, go_sem, supV, z0, z1, z2, z3, z4, z5, z6]) rfl ?_
    exact HR.out _ _ ⟨by rw [HV.out.1, HV.out.2.1], by (repeat refine Below.setCell ?_ (by simp) _); exact HW.out.1⟩
end Go.Proofs.Ytgaoammkegcdcaa
/- What a superblock's bytes are unpacked to. Plain. -/
namespace Ks
open Go Go.RowKit
set_option linter.unusedVariables false
theorem RdI.fourS {w : World} {v : Value} {x0 x1 x2 x3 : Int} (h : RdI w v [x0, x1, x2, x3]) : ∃ b o cap, v = .slice (some ⟨b, o, none⟩) 4 cap ∧ b < w.heap.size ∧
    w.cell? ⟨b, o, none⟩ = some (.int .i64 x0) ∧ w.cell? ⟨b, o + 1, none⟩ = some (.int .i64 x1) ∧ w.cell? ⟨b, o + 2, none⟩ = some (.int .i64 x2) ∧ w.cell? ⟨b, o + 3, none⟩ = some (.int .i64 x3) := by
  obtain ⟨a, cap, rfl, _, h⟩ := h
  obtain ⟨⟨b, o, rfl, hb, h0⟩, _⟩ := h 0 x0 rfl
  obtain ⟨⟨b1, o1, e1, _, h1⟩, _⟩ := h 1 x1 rfl
  obtain ⟨⟨b2, o2, e2, _, h2⟩, _⟩ := h 2 x2 rfl
  obtain ⟨⟨b3, o3, e3, _, h3⟩, _⟩ := h 3 x3 rfl
  cases e1; cases e2; cases e3
  exact ⟨b, o, cap, rfl, hb, h0, h1, h2, h3⟩
theorem sup_unpack (s : ByteArray) (hz : s.size = 4096) :
    (s.extract 9 s.size).size = 4087 ∧ (s.extract 9 s.size).extract 24 36 = s.extract 33 45 ∧
    ((numAt s 9 8 ≤ 9223372036854775807 ∧ numAt s 25 8 ≤ 9223372036854775807 ∧ unpackE [8, 4, 4, 8] ((s.extract 9 s.size).extract 0 24) = 0 ∧ unpackL [8, 4, 4, 8] ((s.extract 9 s.size).extract 0 24) = [(numAt s 9 8 : Int), (numAt s 17 4 : Int), (numAt s 21 4 : Int), (numAt s 25 8 : Int)]) ∨
    ((9223372036854775807 < numAt s 9 8 ∨ 9223372036854775807 < numAt s 25 8) ∧ unpackE [8, 4, 4, 8] ((s.extract 9 s.size).extract 0 24) = 3)) := by
  have hl := data_length s
  obtain ⟨L, hL⟩ : ∃ L, s.data.toList = L := ⟨_, rfl⟩
  have hLz : L.length = 4096 := by rw [← hL]; omega
  have hu : ((s.extract 9 s.size).extract 0 24).data.toList = (L.drop 9).take 24 := by
    rw [data_extract, data_extract, hL, hz, List.drop_zero, List.take_take]; rfl
  have hzu : ((s.extract 9 s.size).extract 0 24).size = 24 := by rw [ByteArray.size_extract, ByteArray.size_extract]; omega
  refine ⟨by rw [ByteArray.size_extract]; omega, ?_, ?_⟩
  · rw [ByteArray.extract_extract, show min (9 + 36) s.size = 45 by omega]
  obtain ⟨u, hU⟩ : ∃ u, (s.extract 9 s.size).extract 0 24 = u := ⟨_, rfl⟩
  rw [hU] at hu hzu ⊢
  have p0 : piece [8, 4, 4, 8] u.data.toList 0 = (L.drop 9).take 8 := by
    show (u.data.toList.drop 0).take 8 = _
    rw [hu, List.drop_zero, List.take_take]; rfl
  have p1 : piece [8, 4, 4, 8] u.data.toList 1 = (L.drop 17).take 4 := by
    show (u.data.toList.drop 8).take 4 = _
    rw [hu, List.drop_take, List.take_take, List.drop_drop]; rfl
  have p2 : piece [8, 4, 4, 8] u.data.toList 2 = (L.drop 21).take 4 := by
    show (u.data.toList.drop 12).take 4 = _
    rw [hu, List.drop_take, List.take_take, List.drop_drop]; rfl
  have p3 : piece [8, 4, 4, 8] u.data.toList 3 = (L.drop 25).take 8 := by
    show (u.data.toList.drop 16).take 8 = _
    rw [hu, List.drop_take, List.take_take, List.drop_drop]; rfl
  have n9 : numAt s 9 8 = getN ((L.drop 9).take 8) := by rw [← hL]; rfl
  have n17 : numAt s 17 4 = getN ((L.drop 17).take 4) := by rw [← hL]; rfl
  have n21 : numAt s 21 4 = getN ((L.drop 21).take 4) := by rw [← hL]; rfl
  have n25 : numAt s 25 8 = getN ((L.drop 25).take 8) := by rw [← hL]; rfl
  have l9 : ((L.drop 9).take 8).length = 8 := by rw [List.length_take, List.length_drop]; omega
  have l25 : ((L.drop 25).take 8).length = 8 := by rw [List.length_take, List.length_drop]; omega
  have ok8 : ∀ l : List UInt8, l.length = 8 → (getOk l = true ↔ getN l ≤ 9223372036854775807) := fun l h => by
    simp only [getOk, decide_eq_true_eq]
    rw [h]
    exact ⟨fun h => h.2.2, fun h => ⟨by omega, by omega, h⟩⟩
  by_cases hg : numAt s 9 8 ≤ 9223372036854775807 ∧ numAt s 25 8 ≤ 9223372036854775807
  · left
    have hE : unpackE [8, 4, 4, 8] u = 0 := by
      rw [unpackE, if_pos (by decide), if_pos (by rw [hzu]; rfl), if_pos]
      simp only [piecesOk, decide_eq_true_eq]
      intro i hi
      match i, hi with
      | 0, _ => rw [p0, ok8 _ l9, ← n9]; exact hg.1
      | 1, _ => rw [p1]; exact getOk_small _ (by simp; omega) (by simp; omega)
      | 2, _ => rw [p2]; exact getOk_small _ (by simp; omega) (by simp; omega)
      | 3, _ => rw [p3, ok8 _ l25, ← n25]; exact hg.2
      | n + 4, hi => exact absurd hi (by simp)
    refine ⟨hg.1, hg.2, hE, ?_⟩
    rw [unpackL, if_pos hE]
    show (List.range 4).map _ = _
    rw [show List.range 4 = [0, 1, 2, 3] from rfl]
    simp only [List.map_cons, List.map_nil]
    rw [p0, p1, p2, p3, n9, n17, n21, n25]
  · right
    refine ⟨by omega, ?_⟩
    rw [unpackE, if_pos (by decide), if_pos (by rw [hzu]; rfl), if_neg]
    simp only [piecesOk, decide_eq_true_eq]
    intro h
    refine hg ⟨?_, ?_⟩
    · have := h 0 (by decide); rw [p0, ok8 _ l9, ← n9] at this; exact this
    · have := h 3 (by decide); rw [p3, ok8 _ l25, ← n25] at this; exact this
end Ks
/- Which superblock any bytes are: super.Take. -/
namespace Go.Proofs.Ytgaoammkegcdcaa
open Go.RowKit Ks
set_option linter.unusedVariables false
theorem swidths_rd (w : World) : Calls Try.prog 17 #[] w fun e w' => ∃ a cap, e = .returned (.slice a 4 cap) ∧ RdI w' (.slice a 4 cap) [8, 4, 4, 8] ∧ Below w.heap.size w w' := by
  refine (swidths_any w).mono ?_
  rintro en w1 ⟨rfl, rfl⟩
  exact ⟨_, _, rfl, RdI.block _ 3 (0, 0) 4 rfl (by decide) (alloc_new w _), alloc_below w _⟩
theorem rd4_drew (w : World) : RdI ((w.alloc (.cells #[.int .i64 8, .int .i64 4, .int .i64 4, .int .i64 8] 3)).drew) (.slice (some ⟨w.heap.size, 0, none⟩) 4 4) [8, 4, 4, 8] :=
  (RdI.block (w := w.alloc (.cells #[.int .i64 8, .int .i64 4, .int .i64 4, .int .i64 8] 3)) [8, 4, 4, 8] 3 (0, 0) 4 rfl (by decide) (alloc_new w _)).below (drew_below _)
set_option maxHeartbeats 4000000 in
set_option maxRecDepth 100000 in
theorem stake_any (s : ByteArray) (w : World) :
    Calls Try.prog 8 #[.string s] w fun en w' => en = .returned (.tuple #[stV s, .int .i64 (stE s)]) ∧ Below w.heap.size w w' := by
  refine calls_by fun R HR => ?_
  obtain ⟨W, hW⟩ : ∃ W, w.alloc (.cells #[.int .i64 0, .int .i64 0, .int .i64 0, .int .i64 0, .int .i64 0, .int .i64 0, .int .i64 0] 26) = W := ⟨_, rfl⟩
  have HW := Lib.hid (And.intro (show Below w.heap.size w W by rw [← hW]; exact alloc_below w _) (show W.heap[w.heap.size]? = some (.cells #[.int .i64 0, .int .i64 0, .int .i64 0, .int .i64 0, .int .i64 0, .int .i64 0, .int .i64 0] 26 (0, 0)) by rw [← hW]; exact alloc_new w _))
  by_cases hz : s.size = 4096
  · have hzb : ((s.size : Int) != 4096) = false := by rw [hz]; rfl
    have hs1 : (9 : Int) ≤ (s.size : Int) := by omega
    have hs2 : 9 ≤ s.size := by omega
    by_cases hm : (s.extract 0 9).data.toList = markL
    · have hmb : s.extract 0 9 = ByteArray.mk #[107, 101, 101, 112, 115, 97, 107, 101, 49] := by
        cases hx : s.extract 0 9 with
        | mk d => rw [hx] at hm; congr 1; exact Array.toList_inj.1 hm
      obtain ⟨hrz, hrg, hun⟩ := sup_unpack s hz
      obtain ⟨rest, hrest⟩ : ∃ rest, s.extract 9 s.size = rest := ⟨_, rfl⟩
      rw [hrest] at hrz hrg hun
      obtain ⟨u, hu⟩ : ∃ u, rest.extract 0 24 = u := ⟨_, rfl⟩
      rw [hu] at hun
      have huz : u.size = 24 := by rw [← hu, ByteArray.size_extract]; omega
      have HUZ := Lib.hid huz
      have HUN := Lib.hid hun
      have HRG := Lib.hid hrg
      have HU := Lib.hid hu
      have HRE : Hid (s.extract 9 4096 = rest) := Lib.hid (by rw [← hrest, hz])
      have HGT := Lib.hid (st_geo s hz)
      have HNO := Lib.hid (And.intro (@stV_no s) (And.intro (@stV_yes s) (@st_ok s)))
      have hr1 : (24 : Int) ≤ (rest.size : Int) ∧ (36 : Int) ≤ (rest.size : Int) := by omega
      have hr2 : 24 ≤ rest.size ∧ 36 ≤ rest.size := by omega
      obtain ⟨hr3, hr4⟩ := hr1
      obtain ⟨ht3, ht4⟩ := hr2
      clear hun hrg hu hrest huz hm hrz
      go_enter Try.func8, Try.ntmps8
      go_wp2_with fail
      refine (swidths_rd _).mono ?_
      rintro en w1 ⟨a, cap, rfl, hrd, hb1⟩
      have H1 := Lib.hid (And.intro (HW.out.1.trans (hb1.mono HW.out.1.size)) ((hb1.block _ (lt_of_block HW.out.2)).trans HW.out.2))
      obtain ⟨bL, oL, cL, hv, hbL, l0, l1, l2, l3⟩ := hrd.fourS
      injection hv with hva hvb hvc
      subst hva
      subst hvc
      clear hrd hb1 hvb hW
      go_wp2_with fail
      go_loopg [26, 4] 4 (fun g i v wx => ∃ (k : Nat) (x y : Int), k + g = 4 ∧ i = .int .i64 x ∧ v = .int .i64 y ∧ Hid ((k = 0 ∧ x = 0 ∧ y = 0) ∨ (k = 1 ∧ x = 1 ∧ y = 8) ∨ (k = 2 ∧ x = 2 ∧ y = 12) ∨ (k = 3 ∧ x = 3 ∧ y = 16) ∨ (k = 4 ∧ x = 4 ∧ y = 24)) ∧ wx = w1)
      case atStart => exact ⟨0, 0, 0, rfl, rfl, rfl, Lib.hid (.inl ⟨rfl, rfl, rfl⟩), rfl⟩
      case round =>
        obtain ⟨k, x, y, hk, rfl, rfl, hxy, rfl⟩ := hrel
        rcases hxy.out with ⟨rfl, rfl, rfl⟩ | ⟨rfl, rfl, rfl⟩ | ⟨rfl, rfl, rfl⟩ | ⟨rfl, rfl, rfl⟩ | ⟨rfl, rfl, rfl⟩
        · go_wp2_with fail
          go_roundg (gk - 1)
          case rel => exact ⟨1, 1, 8, by omega, rfl, rfl, Lib.hid (.inr (.inl ⟨rfl, rfl, rfl⟩)), rfl⟩
          case measure => omega
        · go_wp2_with fail
          go_roundg (gk - 1)
          case rel => exact ⟨2, 2, 12, by omega, rfl, rfl, Lib.hid (.inr (.inr (.inl ⟨rfl, rfl, rfl⟩))), rfl⟩
          case measure => omega
        · go_wp2_with fail
          go_roundg (gk - 1)
          case rel => exact ⟨3, 3, 16, by omega, rfl, rfl, Lib.hid (.inr (.inr (.inr (.inl ⟨rfl, rfl, rfl⟩)))), rfl⟩
          case measure => omega
        · go_wp2_with fail
          go_roundg (gk - 1)
          case rel => exact ⟨4, 4, 24, by omega, rfl, rfl, Lib.hid (.inr (.inr (.inr (.inr ⟨rfl, rfl, rfl⟩)))), rfl⟩
          case measure => omega
        · clear l0 l1 l2 l3
          go_wp2_with fail
          rw [HRE.out]
          have HUn := fun (w1 : World) (v : Value) (h : RdI w1 v [8, 4, 4, 8]) => unpack_any v [8, 4, 4, 8] u w1 h (by decide) (by have := HUZ.out; omega)
          obtain ⟨uE, hE⟩ : ∃ uE, unpackE [8, 4, 4, 8] u = uE := ⟨_, rfl⟩
          obtain ⟨uL, hL⟩ : ∃ uL, unpackL [8, 4, 4, 8] u = uL := ⟨_, rfl⟩
          rw [hE, hL] at HUN
          simp only [hE, hL] at HUn
          have HUM := Lib.hid HUn
          clear HUn
          obtain ⟨z0, -⟩ := blk7 H1.out.2
          have hz1 : w.heap.size < wr.heap.size := lt_of_block H1.out.2
          clear hE hL hxy hk hmb hbL
          go_region_held3 (fun w' => w'.cell? ⟨w.heap.size, 0, none⟩ = some (.int .i64 0))
            (first | go_keep)
            (first
              | (go_at_call 17; refine (swidths_any _).mono ?_; rintro en w2 ⟨rfl, rfl⟩)
              | (go_at_call 18; rw [HU.out]; refine (HUM.out _ _ (rd4_drew wr)).mono ?_; rintro en w3 ⟨v, rfl, hr, hb3⟩; have hbb := Below.trans (((Below.refl wr.heap.size wr).alloc (Nat.le_refl _) _).drew) (hb3.mono (by simp)); clear hb3; have k0 := (hbb.cell (p := ⟨w.heap.size, 0, none⟩) hz1).trans z0; have H3 := Lib.hid (And.intro (H1.out.1.trans (hbb.mono H1.out.1.size)) (And.intro ((hbb.block _ (lt_of_block H1.out.2)).trans H1.out.2) hr)); clear hbb hr))
          all_goals
            rename_i hHeld
            clear hHeld k0 z0 hz1
            have HGZ := Lib.hid HGT.out.1
            obtain ⟨p0, hp0⟩ : ∃ p0 : Int, gN0 (s.extract 33 45) = p0 := ⟨_, rfl⟩
            obtain ⟨p1, hp1⟩ : ∃ p1 : Int, gN1 (s.extract 33 45) = p1 := ⟨_, rfl⟩
            obtain ⟨p2, hp2⟩ : ∃ p2 : Int, gN2 (s.extract 33 45) = p2 := ⟨_, rfl⟩
            obtain ⟨te, hte⟩ : ∃ te : Int, gTE (s.extract 33 45) = te := ⟨_, rfl⟩
            have HT := Lib.hid (And.intro hp0 (And.intro hp1 (And.intro hp2 hte)))
            have hbad : (9223372036854775807 < numAt s 9 8 ∨ 9223372036854775807 < numAt s 25 8 ∨ geoT (s.extract 33 45) = false) → ¬ stOk s = true := by
              intro hb hok
              obtain ⟨-, ho, -⟩ := st_ok.1 hok
              obtain ⟨hg, o1, o2, o3, o4, o5, o6, o7, o8⟩ := sup_ok.1 ho
              rw [← HGT.out.2.1] at hg
              rcases hb with hb | hb | hb
              · omega
              · omega
              · rw [hb] at hg; cases hg
            clear hp0 hp1 hp2 hte
            go_wp2_with fail
            rw [HRG.out]
            refine (gtake_any _ _ (by rw [HGZ.out]; decide)).mono ?_
            rintro en w4 ⟨rfl, hb4⟩
            rw [HT.out.1, HT.out.2.1, HT.out.2.2.1, HT.out.2.2.2]
            obtain ⟨W5, hW5⟩ : ∃ W5, w4.alloc (.cells #[.int .i64 p0, .int .i64 p1, .int .i64 p2] 24) = W5 := ⟨_, rfl⟩
            have hb5 : Below w4.heap.size w4 W5 := by rw [← hW5]; exact alloc_below w4 _
            have k5 : W5.heap[w4.heap.size]? = some (.cells #[.int .i64 p0, .int .i64 p1, .int .i64 p2] 24 (0, 0)) := by rw [← hW5]; exact alloc_new w4 _
            have hbW := hb4.trans (hb5.mono hb4.size)
            have H5 := Lib.hid (And.intro (H3.out.1.trans (hbW.mono H3.out.1.size)) (And.intro ((hbW.block _ (lt_of_block H3.out.2.1)).trans H3.out.2.1) (And.intro (H3.out.2.2.below hbW) k5)))
            clear hb4 hb5 k5 hbW
            rcases HUN.out with ⟨e0, e3, rfl, rfl⟩ | ⟨hb, rfl⟩
            · cases hT : geoT (s.extract 33 45)
              · have HV := Lib.hid (stV_no (hbad (.inr (.inr hT))))
                obtain ⟨y0, y1, y2, y3, -⟩ := geoT_no (s := s.extract 33 45) (by rw [hT]; exact Bool.false_ne_true)
                obtain rfl : te = 3 := by rw [← HT.out.2.2.2]; exact y3
                clear y0 y1 y2 y3 hT hbad e0 e3
                obtain ⟨z0, z1, z2, z3, z4, z5, z6⟩ := blk7 H5.out.2.1
                obtain ⟨f0, f1, f2, f3, f4, f5, f6⟩ := fro7 H5.out.2.1
                go_wp2
                refine bodyPost_ret (v := .tuple #[supV 0 0 0 0 0 0 0, .int .i64 3]) (by simp [results, Try.results8, go_sem, supV, z0, z1, z2, z3, z4, z5, z6]) rfl ?_
                exact HR.out _ _ ⟨by rw [HV.out.1, HV.out.2.2], by (repeat refine Below.setCell ?_ (by simp) _); exact H5.out.1⟩
              · obtain ⟨y0, y1, y2, y3⟩ := geoT_yes hT
                obtain rfl : te = 0 := by rw [← HT.out.2.2.2]; exact y3
                have HQ := And.intro (fun (h : supOk (numAt s 9 8) (numAt s 17 4) (numAt s 21 4) (numAt s 25 8) (numAt s 33 4) (numAt s 37 4) (numAt s 41 4) = true ∧ supS (numAt s 9 8) (numAt s 17 4) (numAt s 21 4) (numAt s 25 8) (numAt s 33 4) (numAt s 37 4) (numAt s 41 4) = s) => stV_yes (st_ok.2 ⟨hz, h.1, h.2⟩)) (fun (h : ¬ (supOk (numAt s 9 8) (numAt s 17 4) (numAt s 21 4) (numAt s 25 8) (numAt s 33 4) (numAt s 37 4) (numAt s 41 4) = true ∧ supS (numAt s 9 8) (numAt s 17 4) (numAt s 21 4) (numAt s 25 8) (numAt s 33 4) (numAt s 37 4) (numAt s 41 4) = s)) => stV_no (s := s) fun ho => h (st_ok.1 ho).2)
                have hB := numAt_lt s 33
                have HB : Hid (-9223372036854775808 ≤ p0 ∧ p0 ≤ 9223372036854775807) := Lib.hid (by rw [← HT.out.1, y0, HGT.out.2.2.1]; omega)
                have hq0 : (numAt s 33 4 : Int) = p0 := by rw [← HT.out.1, y0, HGT.out.2.2.1]
                have hq1 : (numAt s 37 4 : Int) = p1 := by rw [← HT.out.2.1, y1, HGT.out.2.2.2.1]
                have hq2 : (numAt s 41 4 : Int) = p2 := by rw [← HT.out.2.2.1, y2, HGT.out.2.2.2.2]
                have HRD := H5.out.2.2.1
                rw [hq0, hq1, hq2] at HQ
                clear HUN HUM hbad HNO HGT e0 e3 y0 y1 y2 y3
                generalize (numAt s 9 8 : Int) = m0 at HQ HRD
                generalize (numAt s 17 4 : Int) = m1 at HQ HRD
                generalize (numAt s 21 4 : Int) = m2 at HQ HRD
                generalize (numAt s 25 8 : Int) = m3 at HQ HRD
                have HP := Lib.hid HQ
                have H6 := Lib.hid (And.intro H5.out.1 (And.intro H5.out.2.1 H5.out.2.2.2))
                obtain ⟨b8, o8, c8, rfl, hb8, l0, l1, l2, l3⟩ := HRD.fourS
                obtain ⟨y0, y1, y2, -, -, -⟩ := blk3 H6.out.2.2
                clear hT hB hq0 hq1 hq2 HRD HQ H5 H3
                go_wp2_with fail
                clear hW5
                go_region_held3 (fun w' => w'.cell? ⟨b8, o8, none⟩ = some (.int .i64 m0) ∧ w'.cell? ⟨b8, o8 + 1, none⟩ = some (.int .i64 m1) ∧ w'.cell? ⟨b8, o8 + 2, none⟩ = some (.int .i64 m2) ∧ w'.cell? ⟨b8, o8 + 3, none⟩ = some (.int .i64 m3) ∧ w'.cell? ⟨w4.heap.size, 0, none⟩ = some (.int .i64 p0) ∧ w'.cell? ⟨w4.heap.size, 1, none⟩ = some (.int .i64 p1) ∧ w'.cell? ⟨w4.heap.size, 2, none⟩ = some (.int .i64 p2))
                  (first | go_keep)
                  (first | fail)
                all_goals
                  rename_i hHeld
                  clear hHeld
                  obtain ⟨W7, hW7⟩ : ∃ W7, (W5.alloc (.cells #[.int .i64 m0, .int .i64 m1, .int .i64 m2, .int .i64 m3, .int .i64 p0, .int .i64 p1, .int .i64 p2] 26)).drew = W7 := ⟨_, rfl⟩
                  have hb7 : Below W5.heap.size W5 W7 := by rw [← hW7]; exact (alloc_below W5 _).drew
                  have k7 : W7.heap[W5.heap.size]? = some (.cells #[.int .i64 m0, .int .i64 m1, .int .i64 m2, .int .i64 m3, .int .i64 p0, .int .i64 p1, .int .i64 p2] 26 (0, 0)) := by rw [← hW7]; exact alloc_new W5 _
                  rw [hW7]
                  have H7 := Lib.hid (And.intro (H6.out.1.trans (hb7.mono H6.out.1.size)) (And.intro ((hb7.block _ (lt_of_block H6.out.2.1)).trans H6.out.2.1) k7))
                  obtain ⟨d0, d1, d2, d3, d4, d5, d6⟩ := blk7 k7
                  clear hb7 k7 hW7 l0 l1 l2 l3 y0 y1 y2 hb8
                  go_wp2_with fail
                  refine (sput_any m0 m1 m2 m3 p0 p1 p2 _ HB.out).mono ?_
                  rintro en w8 ⟨rfl, hb8⟩
                  have H8 := Lib.hid (And.intro (H7.out.1.trans (hb8.mono H7.out.1.size)) (And.intro ((hb8.block _ (lt_of_block H7.out.2.1)).trans H7.out.2.1) ((hb8.block _ (lt_of_block H7.out.2.2)).trans H7.out.2.2)))
                  clear hb8 d0 d1 d2 d3 d4 d5 d6
                  obtain ⟨d0, d1, d2, d3, d4, d5, d6⟩ := blk7 H8.out.2.2
                  cases hk : supOk m0 m1 m2 m3 p0 p1 p2
                  · have HV := Lib.hid (HP.out.2 (by rw [hk]; rintro ⟨h, -⟩; cases h))
                    rw [(sup_no hk).2]
                    clear hk
                    obtain ⟨z0, z1, z2, z3, z4, z5, z6⟩ := blk7 H8.out.2.1
                    obtain ⟨f0, f1, f2, f3, f4, f5, f6⟩ := fro7 H8.out.2.1
                    go_wp2
                    refine bodyPost_ret (v := .tuple #[supV 0 0 0 0 0 0 0, .int .i64 3]) (by simp [results, Try.results8, go_sem, supV, z0, z1, z2, z3, z4, z5, z6]) rfl ?_
                    exact HR.out _ _ ⟨by rw [HV.out.1, HV.out.2.2], by (repeat refine Below.setCell ?_ (by simp) _); exact H8.out.1⟩
                  · by_cases hs : supS m0 m1 m2 m3 p0 p1 p2 = s
                    · have HV := Lib.hid (HP.out.1 ⟨hk, hs⟩)
                      rw [hs, sup_yes hk]
                      clear hk hs
                      obtain ⟨z0, z1, z2, z3, z4, z5, z6⟩ := blk7 H8.out.2.1
                      obtain ⟨f0, f1, f2, f3, f4, f5, f6⟩ := fro7 H8.out.2.1
                      go_wp2
                      refine bodyPost_ret (v := .tuple #[supV m0 m1 m2 m3 p0 p1 p2, .int .i64 0]) (by simp [results, Try.results8, go_sem, supV, z0, z1, z2, z3, z4, z5, z6]) rfl ?_
                      exact HR.out _ _ ⟨by rw [HV.out.1, HV.out.2.2], by (repeat refine Below.setCell ?_ (by simp) _); exact H8.out.1⟩
                    · have HV := Lib.hid (HP.out.2 fun h => hs h.2)
                      have hsb := str_neq hs
                      rw [sup_yes hk]
                      clear hk
                      obtain ⟨z0, z1, z2, z3, z4, z5, z6⟩ := blk7 H8.out.2.1
                      obtain ⟨f0, f1, f2, f3, f4, f5, f6⟩ := fro7 H8.out.2.1
                      go_wp2
                      refine bodyPost_ret (v := .tuple #[supV 0 0 0 0 0 0 0, .int .i64 3]) (by simp [results, Try.results8, go_sem, supV, z0, z1, z2, z3, z4, z5, z6]) rfl ?_
                      exact HR.out _ _ ⟨by rw [HV.out.1, HV.out.2.2], by (repeat refine Below.setCell ?_ (by simp) _); exact H8.out.1⟩
            · have HV := Lib.hid (stV_no (hbad (hb.elim .inl fun h => .inr (.inl h))))
              clear hb hbad
              obtain ⟨z0, z1, z2, z3, z4, z5, z6⟩ := blk7 H5.out.2.1
              obtain ⟨f0, f1, f2, f3, f4, f5, f6⟩ := fro7 H5.out.2.1
              go_wp2
              refine bodyPost_ret (v := .tuple #[supV 0 0 0 0 0 0 0, .int .i64 3]) (by simp [results, Try.results8, go_sem, supV, z0, z1, z2, z3, z4, z5, z6]) rfl ?_
              exact HR.out _ _ ⟨by rw [HV.out.1, HV.out.2.2], by (repeat refine Below.setCell ?_ (by simp) _); exact H5.out.1⟩
    · have HV := Lib.hid (stV_no (s := s) fun h => hm (st_mark s h))
      have hmb : ((s.extract 0 9).toList == [107, 101, 101, 112, 115, 97, 107, 101, 49]) = false := by
        rw [beq_eq_false_iff_ne]
        intro e
        rw [ByteArray.toList_eq] at e
        exact hm e
      clear hm
      obtain ⟨z0, z1, z2, z3, z4, z5, z6⟩ := blk7 HW.out.2
      obtain ⟨f0, f1, f2, f3, f4, f5, f6⟩ := fro7 HW.out.2
      go_enter Try.func8, Try.ntmps8
      go_wp2
      refine bodyPost_ret (v := .tuple #[supV 0 0 0 0 0 0 0, .int .i64 3]) (by simp [results, Try.results8, go_sem, supV, z0, z1, z2, z3, z4, z5, z6]) rfl ?_
      exact HR.out _ _ ⟨by rw [HV.out.1, HV.out.2.2], by (repeat refine Below.setCell ?_ (by simp) _); exact HW.out.1⟩
  · have hzb : ((s.size : Int) != 4096) = true := by rw [bne_iff_ne]; omega
    have HV := Lib.hid (stV_no (s := s) fun h => hz (st_ok.1 h).1)
    clear hz
    obtain ⟨z0, z1, z2, z3, z4, z5, z6⟩ := blk7 HW.out.2
    obtain ⟨f0, f1, f2, f3, f4, f5, f6⟩ := fro7 HW.out.2
    go_enter Try.func8, Try.ntmps8
    go_wp2
    refine bodyPost_ret (v := .tuple #[supV 0 0 0 0 0 0 0, .int .i64 3]) (by simp [results, Try.results8, go_sem, supV, z0, z1, z2, z3, z4, z5, z6]) rfl ?_
    exact HR.out _ _ ⟨by rw [HV.out.1, HV.out.2.2], by (repeat refine Below.setCell ?_ (by simp) _); exact HW.out.1⟩
end Go.Proofs.Ytgaoammkegcdcaa
