/- Texts that the claim rests on, part 5: OctetRPut, ShaRTxt, OctetNoughts, ShaRSum, ShaSum, Moved, MovedMore, MerkleLow, ProofSaid. -/
import Derived.Test.YtdbabkkmdlkjaaaProg
import Derived.Deep.LoopGhost
import Derived.BigQuiet
import Derived.Shelf.Abstract
import Derived.Test.YtdbabkkmdlkjaaaM4
/- What the reference's Put answers. -/
namespace Go.Proofs.Ytdbabkkmdlkjaaa
open Go.RowKit Ks
set_option linter.unusedVariables false

set_option maxHeartbeats 400000 in
theorem rput_err (n width : Int) (w : World) (h : width < 1 ∨ 8 < width ∨ n < 0) :
    Calls Try.prog 37 #[.int .i64 n, .int .i64 width] w fun e w' => e = .returned (.tuple #[.string ⟨#[]⟩, .int .i64 2]) ∧ w = w' := by
  rcases h with h | h | h
  all_goals
    go_enter Try.func37, Try.ntmps37
    go_wp2
    all_goals first
      | (go_ret2; exact ⟨rfl, rfl⟩)
      | (exfalso; omega)

set_option maxHeartbeats 400000 in
theorem rput_ok (n : Nat) (width : Nat) (w : World) (h1 : 1 ≤ width) (h2 : width ≤ 8) (h4 : n ≤ 9223372036854775807) :
    Calls Try.prog 37 #[.int .i64 n, .int .i64 width] w fun e w' => (n / 256 ^ width = 0 → e = .returned (.tuple #[.string ⟨(putL width n).toArray⟩, .int .i64 0])) ∧ (0 < n / 256 ^ width → e = .returned (.tuple #[.string ⟨#[]⟩, .int .i64 2])) ∧ Below w.heap.size w w' := by
  refine calls_by fun R HR => ?_
  have hc := @conv_one Try.prog 97 9 5 Try.underlying97 Try.underlying5 Try.underlying9
  go_enter Try.func37, Try.ntmps37
  go_wp2
  go_loopw [0, 6, 7] (fun nv out i wr => ∃ k m : Nat, k ≤ width ∧ i = .int .i64 k ∧ nv = .int .i64 m ∧ m ≤ n ∧ Hid (m = n / 256 ^ k) ∧ out = .string ⟨(putL k n).toArray⟩ ∧ Below w.heap.size w wr) (fun _ _ i _ => width - (intOf i).toNat)
  case atStart => exact ⟨0, n, by omega, rfl, rfl, by omega, Lib.hid (by simp), rfl, Below.refl _ _⟩
  case round =>
    obtain ⟨k, m, hk, rfl, rfl, hm, hmk, rfl, hbel⟩ := hrel
    by_cases hlt : k < width
    · go_wp2
      go_roundw
      case rel =>
        refine ⟨k + 1, m / 256, by omega, by go_num, by simp, by omega, Lib.hid ?_, ?_, hbel.alloc hbel.size _⟩
        · rw [hmk.out, Nat.div_div_eq_div_mul, Nat.pow_succ]
        · rw [putL_succ', hmk.out, ByteArray.mk_append_one, ofNat_mod]
      case measure => simp [intOf]; omega
    · obtain rfl : k = width := by omega
      by_cases h0 : 0 < (m : Int)
      · go_wp2
        exact HR.out _ _ ⟨fun h => absurd h (by rw [← hmk.out]; omega), fun _ => rfl, hbel⟩
      · go_wp2
        exact HR.out _ _ ⟨fun _ => rfl, fun h => absurd h (by rw [← hmk.out]; omega), hbel⟩

theorem rput_any (n width : Int) (w : World) (hn : n ≤ 9223372036854775807) :
    Calls Try.prog 37 #[.int .i64 n, .int .i64 width] w fun e w' => e = .returned (.tuple #[.string (putS n width), .int .i64 (putE n width)]) ∧ Below w.heap.size w w' := by
  unfold putS putE
  by_cases h : width < 1 ∨ 8 < width ∨ n < 0
  · have hf : ¬ putOk n width = true := by simp only [putOk, decide_eq_true_eq]; omega
    rw [if_neg hf, if_neg hf]
    exact (rput_err n width w h).mono fun e w' ⟨he, hw⟩ => ⟨he, hw ▸ Below.refl _ _⟩
  · obtain ⟨n, rfl⟩ := Int.eq_ofNat_of_zero_le (show 0 ≤ n by omega)
    obtain ⟨width, rfl⟩ := Int.eq_ofNat_of_zero_le (show 0 ≤ width by omega)
    refine (rput_ok n width w (by omega) (by omega) (by omega)).mono fun e w' ⟨h1, h2, h3⟩ => ?_
    have hp : putOk n width = true ↔ n / 256 ^ width = 0 := by
      simp only [putOk, decide_eq_true_eq, Int.toNat_natCast]
      rw [show (256 : Nat) ^ width = 2 ^ (8 * width) by rw [Nat.pow_mul]]
      constructor
      · rintro ⟨_, _, _, h⟩
        by_cases hw : width < 8
        · exact h (by omega)
        · obtain rfl : width = 8 := by omega
          exact Nat.div_eq_of_lt (by omega)
      · exact fun h => ⟨by omega, by omega, by omega, fun _ => h⟩
    by_cases h0 : n / 256 ^ width = 0
    · rw [if_pos (hp.2 h0), if_pos (hp.2 h0)]
      exact ⟨h1 h0, h3⟩
    · have hf : ¬ putOk n width = true := fun h => h0 (hp.1 h)
      rw [if_neg hf, if_neg hf]
      exact ⟨h2 (Nat.pos_of_ne_zero h0), h3⟩

end Go.Proofs.Ytdbabkkmdlkjaaa
/- The reference's Text. -/
namespace Go.Proofs.Ytdbabkkmdlkjaaa
open Go.RowKit Ks
set_option linter.unusedVariables false

theorem rput4 (n : Nat) (w : World) (h : n < 4294967296) :
    Calls Try.prog 37 #[.int .i64 n, .int .i64 4] w fun e w' => e = .returned (.tuple #[.string ⟨(putL 4 n).toArray⟩, .int .i64 0]) ∧ Below w.heap.size w w' :=
  (rput_ok n 4 w (by decide) (by decide) (by omega)).mono fun e w' ⟨h1, _, h2⟩ => ⟨h1 (Nat.div_eq_of_lt (by rw [show (256 : Nat) ^ 4 = 4294967296 from by decide]; exact h)), h2⟩

set_option maxHeartbeats 1000000 in
theorem rtext_any (s : St) (w : World) (hs : s.ok) : Calls Try.prog 45 #[.agg (i64s s.list)] w fun e w' => e = .returned (.string ⟨(textL s).toArray⟩) ∧ Below w.heap.size w w' := by
  refine calls_by fun R HR => ?_
  obtain ⟨C, hC⟩ : ∃ C, i64s s.list = C := ⟨_, rfl⟩
  rw [hC]
  have HC := Lib.hid hC
  clear hC
  go_enter Try.func45, Try.ntmps45
  go_wp2_with fail
  have HF := Lib.hid (And.intro (show NumsI (w.alloc (.cells C 84)) w.heap.size 84 s.list by rw [← HC.out]; exact NumsI.new _ _ _) (alloc_below w (.cells C 84)))
  generalize w.alloc (.cells C 84) = W at *
  go_loopw [3, 4] (fun v i wx => ∃ k, k ≤ 8 ∧ i = .int .i64 (k : Nat) ∧ v = .string ⟨(textTo s k).toArray⟩ ∧ Hid (NumsI wx w.heap.size 84 s.list ∧ Below w.heap.size w wx)) (fun _ i _ => 8 - (intOf i).toNat)
  case atStart => exact ⟨0, by omega, rfl, rfl, HF⟩
  case round =>
    obtain ⟨k, hk, rfl, rfl, hN⟩ := hrel
    by_cases hlt : k < 8
    · have hts := textTo_succ s k hlt
      obtain ⟨n, hn⟩ : ∃ n, s.list.getD k 0 = n := ⟨_, rfl⟩
      have hn1 : n < 4294967296 := by rw [← hn]; exact st_lt hs k
      have ck := hN.out.1.cell k hlt
      rw [hn] at ck hts
      have HTS := Lib.hid hts
      have HL := Lib.hid hn1
      have HS := Lib.hid hs
      clear hn hn1 hts hs
      go_wp2_with fail
      refine (rput4 n _ HL.out).mono ?_
      rintro e w1 ⟨rfl, hb⟩
      have HM := Lib.hid (And.intro (hN.out.1.keep hb) (hN.out.2.trans (hb.mono hN.out.2.size)))
      clear hb hN ck
      have hAB : (textTo s k).length + (putL 4 n).length ≤ 9223372036854775807 := by rw [textTo_length s k hk, putL_length]; omega
      generalize textTo s k = A at *
      generalize putL 4 n = B at *
      go_wp2_with fail
      go_round
      case rel => exact ⟨k + 1, by omega, by go_num, by rw [HTS.out]; simp [ByteArray.mk_append_mk], HM⟩
      case measure => simp [intOf]; omega
    · obtain rfl : k = 8 := by omega
      have HM := Lib.hid hN.out.2
      clear hN HF
      go_wp2
      exact HR.out _ _ ⟨by rw [textTo_all]; rfl, HM.out⟩

end Go.Proofs.Ytdbabkkmdlkjaaa
/- What the reference's Noughts answers. -/
namespace Go.Proofs.Ytdbabkkmdlkjaaa
open Go.RowKit Ks
set_option linter.unusedVariables false

theorem Try.infoByteN : (Try.prog.info? 5).map (fun i => (i.zero, i.size, i.bytes)) = some (some (.int .u8 0), 1, 1) := by kernel_rfl

set_option maxHeartbeats 400000 in
theorem noughts_any (n : Int) (w : World) (hn : n ≤ 281474976710656) :
    Calls Try.prog 63 #[.int .i64 n] w fun e w' => e = .returned (.string (zerosS n)) ∧ Below w.heap.size w w' := by
  refine calls_by fun R HR => ?_
  by_cases h1 : n < 1
  · go_enter Try.func63, Try.ntmps63
    go_wp2
    refine HR.out _ _ ⟨?_, Below.refl _ _⟩
    rw [zerosS, show n.toNat = 0 by omega]
    rfl
  · obtain ⟨n, rfl⟩ := Int.eq_ofNat_of_zero_le (show 0 ≤ n by omega)
    have hmk := fun w => run_make_row' (P := Try.prog) 97 5 (.int .u8 0) 1 Try.underlying97 Try.infoByteN rfl .i64 .i64 n (by omega) (by omega) w
    have hconv := conv_row (P := Try.prog) (src := 97) (dst := 9) (cap := n) (List.replicate n 0) Try.underlying97 Try.underlying5 Try.underlying9 (World.rowIs_made w (.int .u8 0) n 5) (by simp) (by simp)
    go_enter Try.func63, Try.ntmps63
    go_wp2
    refine HR.out _ _ ⟨?_, (Below.refl _ _).alloc (Nat.le_refl _) _⟩
    rw [zerosS, show ((n : Int)).toNat = n by omega]
    simp

end Go.Proofs.Ytdbabkkmdlkjaaa
/- The reference's Pad and Sum. -/
namespace Ks
open Go Go.RowKit
set_option linter.unusedVariables false
theorem pad_more (n j : Nat) (h : j < 63 - (n + 8) % 64) : (n + (1 + j)) % 64 ≠ 56 := by omega
theorem pad_end (n j : Nat) (h : j = 63 - (n + 8) % 64) : (n + (1 + j)) % 64 = 56 := by omega
theorem cut64 (s : ByteArray) (k : Nat) (h : 64 * k + 64 ≤ s.size) : (s.extract (64 * k) (64 * k + 64)).data.toList = (s.data.toList.drop (64 * k)).take 64 := by
  rw [ByteArray.data_extract, Array.toList_extract, List.extract_eq_take_drop, show 64 * k + 64 - 64 * k = 64 by omega]
theorem cutAt (A : ByteArray) (k : Nat) : (A.extract k (k + 64)).data.toList = (A.data.toList.drop k).take 64 := by
  rw [ByteArray.data_extract, Array.toList_extract, List.extract_eq_take_drop, show k + 64 - k = 64 by omega]
theorem fold_step (y : St) (l : List UInt8) (k : Nat) (h : k + 64 ≤ l.length) : foldN y (l.drop k) = foldN (turnN y ((l.drop k).take 64)) (l.drop (k + 64)) := by
  rw [foldN_ge y _ (by rw [List.length_drop]; omega), List.drop_drop]
end Ks
namespace Go.Proofs.Ytdbabkkmdlkjaaa
open Go.RowKit Ks
set_option linter.unusedVariables false

set_option maxRecDepth 100000 in
set_option maxHeartbeats 1000000 in
theorem rpad_any (n : Nat) (w : World) (h : n ≤ 576460752303423488) : Calls Try.prog 41 #[.int .i64 n] w fun e w' => e = .returned (.string ⟨(padL n).toArray⟩) ∧ Below w.heap.size w w' := by
  refine calls_by fun R HR => ?_
  have hc := fun w cap => @conv_one Try.prog 97 9 5 Try.underlying97 Try.underlying5 Try.underlying9 128 cap 5 w
  go_enter Try.func41, Try.ntmps41
  go_wp2_with fail
  clear hc
  have HF := Lib.hid (alloc_below w (.cells #[.int .u8 128] 5))
  go_loopg [3] (63 - (n + 8) % 64) (fun g v wx => ∃ (S : ByteArray) (j : Nat), v = .string S ∧ j + g = 63 - (n + 8) % 64 ∧ Hid (S = ⟨(128 :: List.replicate j 0).toArray⟩) ∧ Hid (Below w.heap.size w wx))
  case atStart => exact ⟨_, 0, rfl, by omega, Lib.hid rfl, HF⟩
  case round =>
    obtain ⟨S, j, rfl, hj, hS, hN⟩ := hrel
    have hz : S.size = 1 + j := by rw [hS.out]; simp [ByteArray.size]; omega
    have hs1 : S.size ≤ 64 := by omega
    have Hj := Lib.hid hj
    by_cases hg : gk = 0
    · have ht : (((n : Int) + (S.size : Int)) % 64 != 56) = false := by
        have := pad_end n j (by omega)
        rw [hz, show ((n : Int) + ((1 + j : Nat) : Int)) % 64 = (((n + (1 + j)) % 64 : Nat) : Int) by omega, this]
        rfl
      have hP : Hid (padL n = S.data.toList ++ putL 8 (8 * n)) := Lib.hid (by rw [hS.out, padL, show 63 - (n + 8) % 64 = j by omega]; simp)
      clear hz hj hg
      go_wp2_with fail
      rw [show (8 * (n : Int)) = ((8 * n : Nat) : Int) by omega]
      refine (rput_ok (8 * n) 8 _ (by decide) (by decide) (by omega)).mono ?_
      rintro e w1 ⟨he, _, hb⟩
      rw [he (Nat.div_eq_of_lt (by rw [show (256 : Nat) ^ 8 = 18446744073709551616 from by decide]; omega))]
      have HM := Lib.hid (hN.out.trans (hb.mono hN.out.size))
      have hlen : S.size + (putL 8 (8 * n)).length ≤ 9223372036854775807 := by rw [putL_length]; omega
      clear he hb ht
      go_wp2
      refine HR.out _ _ ⟨?_, HM.out⟩
      rw [hP.out]
      exact congrArg (fun b => Ending.returned (Value.string b)) (by rw [← ByteArray.mk_append_mk])
    · have ht : (((n : Int) + (S.size : Int)) % 64 != 56) = true := by
        have := pad_more n j (by omega)
        rw [hz, show ((n : Int) + ((1 + j : Nat) : Int)) % 64 = (((n + (1 + j)) % 64 : Nat) : Int) by omega]
        simp; omega
      clear hz hj
      go_wp2_with fail
      refine (noughts_any 1 _ (by decide)).mono ?_
      rintro e w1 ⟨rfl, hb⟩
      have HM := Lib.hid (hN.out.trans (hb.mono hN.out.size))
      have hlen : S.size + (zerosS 1).size ≤ 9223372036854775807 := by rw [show (zerosS 1).size = 1 from zerosS_size 1]; omega
      clear hb ht
      go_wp2_with fail
      go_roundg (gk - 1)
      case rel =>
        refine ⟨_, j + 1, rfl, by have := Hj.out; omega, Lib.hid ?_, HM⟩
        rw [hS.out]
        show (ByteArray.mk _ ++ ByteArray.mk _) = _
        rw [ByteArray.mk_append_mk, List.replicate_succ']
        rfl
      case measure => omega

set_option maxRecDepth 100000 in
set_option maxHeartbeats 1000000 in
theorem rsum_any (s : ByteArray) (w : World) (h : s.size ≤ 200000000000000) : Calls Try.prog 26 #[.string s] w fun e w' => e = .returned (.string ⟨(shaL s.data.toList).toArray⟩) ∧ Below w.heap.size w w' := by
  refine calls_by fun R HR => ?_
  go_enter Try.func26, Try.ntmps26
  go_wp2_with fail
  refine (rpad_any s.size _ (by omega)).mono ?_
  rintro e w1 ⟨rfl, hb⟩
  have HB1 := Lib.hid hb
  clear hb
  have hsl : s.data.toList.length = s.size := data_length s
  have hpl : (padL s.size).length ≤ 72 := by rw [padL_length]; omega
  have hcat : s.size + (padL s.size).length ≤ 9223372036854775807 := by omega
  obtain ⟨A, hA⟩ : ∃ A, s ++ ByteArray.mk (padL s.size).toArray = A := ⟨_, rfl⟩
  have hAd : A.data.toList = s.data.toList ++ padL s.data.toList.length := by rw [← hA, hsl]; simp
  have hAs : A.size = (s.data.toList ++ padL s.data.toList.length).length := by rw [← hAd]; exact (data_length A).symm
  have hAm : A.size % 64 = 0 := by rw [hAs]; exact padded _
  have hAl : A.size ≤ 200000000000100 := by rw [hAs, List.length_append, hsl]; omega
  have HA := Lib.hid hA
  have HAD := Lib.hid hAd
  have HAM := Lib.hid hAm
  clear hA hAd hAs hAm hsl
  go_wp2_with fail
  rw [HA.out]
  clear hcat hpl HA
  refine (begin_any _).mono ?_
  rintro e w2 ⟨rfl, hb⟩
  have HB2 := Lib.hid (HB1.out.trans (hb.mono HB1.out.size))
  clear hb HB1
  obtain ⟨C, hC⟩ : ∃ C, i64s st0.list = C := ⟨_, rfl⟩
  rw [hC]
  have HC := Lib.hid hC
  clear hC
  go_wp2_with fail
  refine (rounds_any _).mono ?_
  rintro e w3 ⟨rfl, hb⟩
  have HB3 := Lib.hid (HB2.out.trans (hb.mono HB2.out.size))
  clear hb HB2
  obtain ⟨CK, hCK⟩ : ∃ CK, i64s kays = CK := ⟨_, rfl⟩
  rw [hCK]
  have HCK := Lib.hid hCK
  clear hCK
  have HS : Hid (C.size = 8 ∧ CK.size = 64) := Lib.hid ⟨by rw [← HC.out]; rfl, by rw [← HCK.out]; rfl⟩
  go_upto_region 3 with (first
    | refine wpList_storeA rfl 84 (.tmp 4) (.tmp 12) rfl _ 84 _ C 8 rfl rfl (blk_keep (alloc_new _ _) _) (by kernel_rfl) HS.out.1 rfl (by rw [← HC.out]; exact i64s_one _) ?_
    | refine wpList_storeA rfl 86 (.tmp 5) (.tmp 13) rfl _ 86 _ CK 64 rfl rfl ((setRow_other _ _ _ _ (by omega)).trans (alloc_new2 _ _ _)) (by kernel_rfl) HS.out.2 rfl (by rw [← HCK.out]; exact i64s_one _) ?_)
  refine code_cut (fun W => NumsI W w3.heap.size 84 st0.list ∧ NumsI W (w3.heap.size + 1) 86 kays ∧ Below w.heap.size w W) ?_ ?_
  · refine ⟨?_, ?_, ?_⟩
    · rw [← HC.out]
      exact (NumsI.row (blk_keep (alloc_new _ _) _) _).rowOther _ (by omega)
    · rw [← HCK.out]
      exact NumsI.row ((setRow_other _ _ _ _ (by omega)).trans (alloc_new2 _ _ _)) _
    · have hz := HB3.out.size
      exact below_setRow (below_setRow ((HB3.out.alloc (by omega) _).alloc (by simp; omega) _) (by omega) _) (by omega) _
  intro W hF
  have HF := Lib.hid hF
  have Hz := Lib.hid HB3.out.size
  clear hF HB3 HC HCK HS
  generalize w3.heap.size = b4 at *
  go_wp2_with fail
  go_loopg [6] (A.size / 64) (fun g i wx => ∃ (k : Nat) (y : St), i = .int .i64 k ∧ k ≤ A.size ∧ Hid (k + 64 * g = A.size ∧ y.ok) ∧ Hid (foldN y (A.data.toList.drop k) = foldN st0 A.data.toList) ∧ Hid (NumsI wx b4 84 y.list ∧ NumsI wx (b4 + 1) 86 kays ∧ Below w.heap.size w wx))
  case atStart => exact ⟨0, st0, rfl, by omega, Lib.hid ⟨by have := HAM.out; omega, st0_ok⟩, Lib.hid rfl, HF⟩
  case round =>
    obtain ⟨k, y, rfl, hk, hG, hY, hN⟩ := hrel
    by_cases hlt : k < A.size
    · have h64 : (k : Int) + 64 ≤ (A.size : Int) := by have := hG.out.1; have := HAM.out; omega
      have HST := Lib.hid (fold_step y A.data.toList k (by rw [data_length]; omega))
      obtain ⟨B, hB⟩ : ∃ B, A.extract k (k + 64) = B := ⟨_, rfl⟩
      have hBz : B.size = 64 := by rw [← hB, ByteArray.size_extract]; omega
      have HBD : Hid (B.data.toList = (A.data.toList.drop k).take 64) := Lib.hid (by rw [← hB]; exact cutAt A k)
      have HBB := Lib.hid hB
      have T := Lib.hid fun p => calls_after (p := p) (step_any y B (After wr p) hG.out.2 hBz)
      have HBZ := Lib.hid hBz
      clear hB hBz
      go_wp2_with fail
      have hB := HBB.out
      have w1 : IntKind.i64.wrap ((k : Int) + 64) = (k : Int) + 64 := by rw [IntKind.wrap_i64]; omega
      have w2 : (0 : Int) ≤ (k : Int) + 64 := by omega
      have w3 : ((k : Int) + 64).toNat = k + 64 := by omega
      have w4 : (k : Int) ≤ (k : Int) + 64 := by omega
      refine wp_region_after_tail 8 (by kernel_rfl) (by kernel_rfl) ?_
      simp only [List.take_succ_cons, List.take_zero, List.drop_succ_cons, List.drop_zero]
      refine wpQuiet_load_blk rfl 84 (.tmp 4) rfl b4 0 8 rfl (i64s y.list) (i64s y.list) 84 (0, 0) _ (after_blk hN.out.1.blk) rfl rfl Try.underlying84 rfl (by kernel_rfl) ?_
      quiet_step (fail)
      quiet_step (fail)
      quiet_step (fail)
      quiet_step (fail)
      quiet_step (fail)
      refine wpQuiet_load_blk rfl 86 (.tmp 5) rfl (b4 + 1) 0 64 rfl (i64s kays) (i64s kays) 86 (0, 0) _ (after_blk hN.out.2.1.blk) rfl rfl Try.underlying86 rfl (by kernel_rfl) ?_
      quiet_step (exact T.out _)
      refine wpQuiet_nil ?_
      rintro v1 ⟨p, rfl⟩
      have hb1 := after_below wr p
      have HN := Lib.hid (And.intro (hN.out.1.keep hb1) (And.intro (hN.out.2.1.keep hb1) (hN.out.2.2.trans (hb1.mono hN.out.2.2.size))))
      clear hb1 hN T w1 w2 w3 w4 hB HBB
      generalize After wr p = v1 at *
      have HE : Hid (i64s (turnN y B.data.toList).list = i64s (turnN y B.data.toList).list ∧ (i64s (turnN y B.data.toList).list).size = 8) := Lib.hid ⟨rfl, rfl⟩
      refine wpList_storeA rfl 84 (.tmp 4) (.tmp 27) rfl b4 84 (i64s y.list) (i64s (turnN y B.data.toList).list) 8 rfl rfl HN.out.1.blk (by kernel_rfl) rfl rfl (i64s_one _) ?_
      have HM : Hid (NumsI (v1.setRow b4 (i64s (turnN y B.data.toList).list)) b4 84 (turnN y B.data.toList).list ∧ NumsI (v1.setRow b4 (i64s (turnN y B.data.toList).list)) (b4 + 1) 86 kays ∧ Below w.heap.size w (v1.setRow b4 (i64s (turnN y B.data.toList).list))) :=
        Lib.hid ⟨NumsI.row HN.out.1.blk _, HN.out.2.1.rowOther _ (by omega), below_setRow HN.out.2.2 (by have := Hz.out; omega) _⟩
      generalize v1.setRow b4 (i64s (turnN y B.data.toList).list) = v2 at *
      generalize i64s (turnN y B.data.toList).list = D at *
      clear HE HN
      go_wp2_with fail
      go_roundg (gk - 1)
      case rel =>
        refine ⟨k + 64, turnN y B.data.toList, by go_num, by omega, Lib.hid ⟨by have := hG.out.1; omega, turnN_ok _ _⟩, Lib.hid ?_, HM⟩
        rw [HBD.out, ← HST.out, hY.out]
      case measure => have := hG.out.1; omega
    · obtain rfl : k = A.size := by omega
      have HX : Hid (y = foldN st0 (s.data.toList ++ padL s.data.toList.length)) := Lib.hid (by
        have h1 := hY.out
        rw [List.drop_eq_nil_of_le (by rw [data_length]; exact Nat.le_refl _), foldN_lt y [] (by decide), HAD.out] at h1
        exact h1)
      have HYO := Lib.hid hG.out.2
      clear hlt hk hY hG HF
      go_wp2_with (refine wpList_loadA rfl 84 (.tmp 4) rfl _ 84 _ _ 8 8 rfl hN.out.1.blk Try.underlying84 (by kernel_rfl) rfl ?_)
      refine (rtext_any y _ HYO.out).mono ?_
      rintro e v1 ⟨rfl, hb1⟩
      have HB := Lib.hid (hN.out.2.2.trans (hb1.mono hN.out.2.2.size))
      clear hb1 hN
      go_wp2
      exact HR.out _ _ ⟨by rw [shaL, ← HX.out]; rfl, HB.out⟩
end Go.Proofs.Ytdbabkkmdlkjaaa
/- A sum as a string: of one text, of two, of none. -/
namespace Ks
open Go Go.RowKit
set_option linter.unusedVariables false
/-- a text's sum, as a string -/
def shaS (l : List UInt8) : ByteArray := ⟨(shaL l).toArray⟩
theorem shaS_eq (l : List UInt8) : (⟨(shaL l).toArray⟩ : ByteArray) = shaS l := rfl
theorem shaS_data (l : List UInt8) : (shaS l).data.toList = shaL l := rfl
theorem shaS_size (l : List UInt8) : (shaS l).size = 32 := by show (shaL l).toArray.size = 32; simp [shaL_length]
theorem join_one (s : ByteArray) : joinL [s] = s.data.toList := by simp [joinL]
theorem join_two (s t : ByteArray) : joinL [s, t] = s.data.toList ++ t.data.toList := by simp [joinL]
theorem Rd.one (w : World) (s : ByteArray) (T : TypeId) : Rd strE (w.alloc (.cells #[.string s] T)) (.slice (some ⟨w.heap.size, 0, none⟩) 1 1) [s] :=
  Rd.single s (alloc_new w _) rfl
end Ks
namespace Go.Proofs.Ytdbabkkmdlkjaaa
open Go.RowKit Ks
set_option linter.unusedVariables false
/-- the sum of one text, that lies in a new block -/
theorem sum1_any (s : ByteArray) (T : TypeId) (w : World) (h : s.size ≤ 50000000000) :
    Calls Try.prog 33 #[.slice (some ⟨w.heap.size, 0, none⟩) 1 1] (w.alloc (.cells #[.string s] T)) fun e w' => e = .returned (.string (shaS s.data.toList)) ∧ Below w.heap.size w w' :=
  (sumv_any [s] _ _ (Rd.one w s T) (by rw [join_one, data_length]; exact h) (by simp)).mono fun e w' ⟨h1, h2⟩ => ⟨by rw [h1, join_one, shaS_eq], (alloc_below w _).trans (h2.mono (by simp))⟩
theorem sum2_any (s t : ByteArray) (T : TypeId) (w : World) (h : s.size ≤ 10000000000) (h2 : t.size ≤ 10000000000) :
    Calls Try.prog 33 #[.slice (some ⟨w.heap.size, 0, none⟩) 2 2] (w.alloc (.cells #[.string s, .string t] T)) fun e w' => e = .returned (.string (shaS (s.data.toList ++ t.data.toList))) ∧ Below w.heap.size w w' :=
  (sumv_any [s, t] _ _ (Rd.block (alloc_new w _) rfl) (by rw [join_two, List.length_append, data_length, data_length]; omega) (by simp)).mono fun e w' ⟨h1, h2⟩ => ⟨by rw [h1, join_two, shaS_eq], (alloc_below w _).trans (h2.mono (by simp))⟩
theorem sum0_any (w : World) : Calls Try.prog 33 #[.slice none 0 0] w fun e w' => e = .returned (.string (shaS [])) ∧ Below w.heap.size w w' :=
  (sumv_any [] _ _ (Rd.nil w) (by decide) (by decide)).mono fun e w' ⟨h1, h2⟩ => ⟨by rw [h1]; rfl, h2⟩
theorem rsumS_any (s : ByteArray) (w : World) (h : s.size ≤ 200000000000000) : Calls Try.prog 26 #[.string s] w fun e w' => e = .returned (.string (shaS s.data.toList)) ∧ Below w.heap.size w w' := rsum_any s w h
end Go.Proofs.Ytdbabkkmdlkjaaa
/- A region that draws its order, some of whose calls turn what was there, each at most once: walked once. The class of worlds goes by what was done, and what it yielded. Plain. No program is in sight. -/
namespace Ks
open Go Go.RowKit
set_option linter.unusedVariables false

abbrev Told := Nat → Option Value
def upd (f : Told) (k : Nat) (v : Value) : Told := fun j => bif Nat.beq j k then some v else f j
theorem beq_ne {j k : Nat} (h : j ≠ k) : Nat.beq j k = false := by rw [← Bool.not_eq_true]; exact fun e => h (Nat.eq_of_beq_eq_true e)
theorem beq_self (k : Nat) : Nat.beq k k = true := Nat.beq_refl k
theorem upd_self (f : Told) (k : Nat) (v : Value) : upd f k v k = some v := by unfold upd; rw [beq_self]; rfl
theorem upd_ne (f : Told) {j k : Nat} (v : Value) (h : j ≠ k) : upd f k v j = f j := by unfold upd; rw [beq_ne h]; rfl
theorem upd_comm (f : Told) {i j : Nat} (u v : Value) (h : i ≠ j) : upd (upd f i u) j v = upd (upd f j v) i u := by
  funext k
  by_cases e : k = i
  · subst e; rw [upd_ne _ _ h, upd_self, upd_self]
  · by_cases e2 : k = j
    · subst e2; rw [upd_self, upd_ne _ _ e, upd_self]
    · rw [upd_ne _ _ e2, upd_ne _ _ e, upd_ne _ _ e, upd_ne _ _ e2]

section
variable {P : Program} {ops : Array Oper} {md : Region.Mode} {C : Told → World → Prop}

def movesUpon (P : Program) (D : Value → World → Prop) : Result Next → Prop
  | .ok (.value u) w' => D u w'
  | .ok .skip w' => D undef w'
  | .ok (.enter f args) w' => Calls P f args w' (fun e w'' => ∃ v, e = .returned v ∧ D v w'')
  | _ => False
/-- what it waits for yielded the same -/
def agree (md : Region.Mode) (o : Oper) (f g : Told) : Prop := ∀ e ∈ o.after, Region.binds md e = true → g e.on = f e.on

theorem agree_on {o : Oper} {f g : Told} (i : Nat) (h : agree md o f g) (hb : (o.after.any fun e => Nat.beq e.on i && Region.binds md e) = true) : g i = f i := by
  obtain ⟨e, he, h2⟩ : ∃ e, e ∈ o.after ∧ (Nat.beq e.on i && Region.binds md e) = true := by simpa using Array.any_eq_true'.1 hb
  simp only [Bool.and_eq_true] at h2
  have h3 := h e he h2.2
  rwa [Nat.eq_of_beq_eq_true h2.1] at h3

/-- wherever it is done, and whatever else was done, it yields one of these -/
def Moves (P : Program) (md : Region.Mode) (ops : Array Oper) (C : Told → World → Prop) (o : Oper) (k : Nat) (V : Value → Prop) (f : Told) (a : Act) : Prop :=
  (Region.wanted o (yielded ops a.tmps) = true ∧ ∀ g w, agree md o f g → g k = none → C g w → movesUpon P (fun v w' => V v ∧ C (upd g k v) w') ((execOp a.eval o).run P w)) ∨
  (Region.wanted o (yielded ops a.tmps) = false ∧ V undef ∧ ∀ g w, agree md o f g → g k = none → C g w → C (upd g k undef) w)

def mOp (P : Program) (md : Region.Mode) (ops : Array Oper) (C : Told → World → Prop) (i : Nat) (K : Told → Act → Prop) (f : Told) (a : Act) : Prop :=
  match ops[i]? with
  | none => False
  | some o => ∃ V, Moves P md ops C o i V f a ∧ ∀ v, V v → K (upd f i v) (a.put o.dst v)
theorem mOp_mono {i : Nat} {f : Told} {a : Act} {K K' : Told → Act → Prop} (h : ∀ f a, K f a → K' f a) (hh : mOp P md ops C i K f a) : mOp P md ops C i K' f a := by
  unfold mOp at *
  split
  · rename_i ho; simp only [ho] at hh
  · rename_i o ho
    simp only [ho] at hh
    obtain ⟨V, h1, h2⟩ := hh
    exact ⟨V, h1, fun v hv => h _ _ (h2 v hv)⟩

def wpAnyM (P : Program) (md : Region.Mode) (ops : Array Oper) (C : Told → World → Prop) (Q : Told → Act → Prop) : Nat → Array Bool → Told → Act → Prop
  | 0, listed, f, a => Region.ready md ops listed = [] ∧ Q f a
  | fuel + 1, listed, f, a => Region.ready md ops listed ≠ [] ∧ ∀ i ∈ Region.ready md ops listed, mOp P md ops C i (wpAnyM P md ops C Q fuel (listed.setIfInBounds i true)) f a

theorem wpOp_of_mOp {i : Nat} {f : Told} {a : Act} {K : Told → Act → Prop} {K' : Act → World → Prop} {Q' : Exit → Act → World → Prop} {w : World} (hf : f i = none) (hC : C f w) (h : ∀ v a w', C (upd f i v) w' → K (upd f i v) a → K' a w') (hh : mOp P md ops C i K f a) : wpOp P ops Q' i K' a w := by
  unfold mOp at hh
  unfold wpOp
  split
  · rename_i ho; simp only [ho] at hh
  · rename_i o ho
    simp only [ho] at hh
    obtain ⟨V, h1, h2⟩ := hh
    rcases h1 with ⟨hw, h1⟩ | ⟨hw, hV, h1⟩
    · rw [if_pos hw]
      refine .inl ?_
      have h3 := h1 f w (fun _ _ _ => rfl) hf hC
      unfold Oper.wp
      generalize (execOp a.eval o).run P w = r at *
      cases r with
      | ok n w' =>
        cases n <;> simp only [movesUpon] at h3 <;> simp only [Oper.upon]
        case value u => exact h _ _ _ h3.2 (h2 _ h3.1)
        case skip => exact h _ _ _ h3.2 (h2 _ h3.1)
        case enter g args => exact h3.mono fun e w'' ⟨v, he, hv, hw''⟩ => by subst he; exact h _ _ _ hw'' (h2 _ hv)
      | halt x w' => simp only [movesUpon] at h3
    · rw [if_neg (by simp [hw])]
      exact h _ _ _ (h1 f w (fun _ _ _ => rfl) hf hC) (h2 _ hV)

theorem wpAny_of_moved {Q : Told → Act → Prop} {Q' : Exit → Act → World → Prop} (hQ : ∀ f a w, C f w → Q f a → Q' .normal a w) : ∀ (fuel : Nat) (listed : Array Bool) (f : Told) (a : Act) (w : World), (∀ i, listed.getD i true = false → f i = none) → C f w →
    wpAnyM P md ops C Q fuel listed f a → wpAny P md ops Q' fuel listed a w
  | 0, _, _, _, _, _, hw, h => ⟨h.1, hQ _ _ _ hw h.2⟩
  | fuel + 1, listed, f, _, _, hi, hw, h => ⟨fun h0 => absurd h0 h.1, fun i hr => by
      have h0 := (mem_ready.1 hr).1
      refine wpOp_of_mOp (hi i h0) hw (fun v a' w' hw' => wpAny_of_moved hQ fuel _ _ a' w' (fun j hj => ?_) hw') (h.2 i hr)
      by_cases e : j = i
      · subst e
        have hlt : j < listed.size := by
          rcases Nat.lt_or_ge j listed.size with h' | h'
          · exact h'
          · simp [Array.getElem?_eq_none h'] at h0
        simp [hlt] at hj
      · rw [getD_set_ne true (Ne.symm e)] at hj
        rw [upd_ne _ _ e]; exact hi j hj⟩

theorem Moves.mOp {i : Nat} {o : Oper} {V : Value → Prop} {f : Told} {a : Act} (hi : ops[i]? = some o) (hy : Moves P md ops C o i V f a) {K : Told → Act → Prop} (h : ∀ v, V v → K (upd f i v) (a.put o.dst v)) : mOp P md ops C i K f a := by
  unfold Ks.mOp
  simp only [hi]
  exact ⟨V, hy, h⟩
theorem Moves.of_same {o : Oper} {i : Nat} {V : Value → Prop} {f f' : Told} {a a' : Act} (hy : Moves P md ops C o i V f a) (hf : ∀ e ∈ o.after, Region.binds md e = true → f' e.on = f e.on) (he : execOp a'.eval o = execOp a.eval o)
    (hw : Region.wanted o (yielded ops a'.tmps) = Region.wanted o (yielded ops a.tmps)) : Moves P md ops C o i V f' a' := by
  unfold Moves at *
  rw [he, hw]
  rcases hy with ⟨h1, h2⟩ | ⟨h1, h2, h3⟩
  · exact .inl ⟨h1, fun g w ha => h2 g w fun e hm hb => (ha e hm hb).trans (hf e hm hb)⟩
  · exact .inr ⟨h1, h2, fun g w ha => h3 g w fun e hm hb => (ha e hm hb).trans (hf e hm hb)⟩
theorem mOp_put {i j : Nat} {oi oj : Oper} {u : Value} (hij : i ≠ j) (hj : ops[j]? = some oj) (hap : oi.apart ops oj = true)
    (hsi : ∀ cs b, oi.op ≠ .select cs b) (hsj : ∀ cs b, oj.op ≠ .select cs b) {K : Told → Act → Prop} {f : Told} {a : Act}
    (hai : ∀ e ∈ oi.after, Region.binds md e = true → e.on ≠ j) (haj : ∀ e ∈ oj.after, Region.binds md e = true → e.on ≠ i)
    (hy : Moves P md ops C oi i (fun v => v = u) f a) (h : mOp P md ops C j K (upd f i u) (a.put oi.dst u)) :
    mOp P md ops C j (fun f' a' => Moves P md ops C oi i (fun v => v = u) f' a' ∧ K (upd f' i u) (a'.put oi.dst u)) f a := by
  obtain ⟨h1, h2, h3⟩ := Oper.apart_spec hap
  have keep : ∀ v, Moves P md ops C oi i (fun v => v = u) (upd f j v) (a.put oj.dst v) := fun v =>
    hy.of_same (fun e he hb => upd_ne _ _ (hai e he hb)) (execOp_put oi hsi a oj.dst v h3) (wanted_put oi a oj.dst v h3)
  unfold mOp at *
  simp only [hj] at *
  obtain ⟨V, hV, hn⟩ := h
  refine ⟨V, ?_, fun v hv => ⟨keep v, ?_⟩⟩
  · exact hV.of_same (fun e he hb => (upd_ne _ _ (haj e he hb)).symm) (execOp_put oj hsj a oi.dst u h1).symm (wanted_put oj a oi.dst u h1).symm
  · rw [← Act.put_comm a u v h2, ← upd_comm f u v hij]
    exact hn v hv

theorem wpAnyM_first {Q : Told → Act → Prop} {i : Nat} {oi : Oper} {u : Value} (hi : ops[i]? = some oi) (hsel : ∀ (j : Nat) (o : Oper) cs b, ops[j]? = some o → o.op ≠ .select cs b) :
    ∀ (fuel : Nat) (listed : Array Bool) (f : Told) (a : Act),
      (∀ j oj, ops[j]? = some oj → j ≠ i → listed.getD j true = false → (∀ e ∈ oj.after, Region.binds md e = true → e.on ≠ i) → oi.apart ops oj = true) →
      i ∈ Region.ready md ops listed → Moves P md ops C oi i (fun v => v = u) f a →
      wpAnyM P md ops C Q fuel (listed.setIfInBounds i true) (upd f i u) (a.put oi.dst u) → wpAnyM P md ops C Q (fuel + 1) listed f a := by
  intro fuel
  induction fuel with
  | zero =>
    intro listed f a _ hr hy H
    refine ⟨fun h => (by rw [h] at hr; cases hr), fun j hj => ?_⟩
    by_cases hji : j = i
    · subst hji; exact hy.mOp hi (fun v hv => by subst hv; exact H)
    · have := ready_mono hj hji
      rw [H.1] at this
      cases this
  | succ fuel ih =>
    intro listed f a hfree hr hy H
    refine ⟨fun h => (by rw [h] at hr; cases hr), fun j hj => ?_⟩
    by_cases hji : j = i
    · subst hji; exact hy.mOp hi (fun v hv => by subst hv; exact H)
    · have h1 := H.2 j (ready_mono hj hji)
      obtain ⟨hjun, oj, hoj, hall⟩ := mem_ready.1 hj
      have both : ∀ {k : Nat} {b : Bool}, listed.getD k true = false → listed.getD k false = b → b = false := fun {k b} h0 hb => by
        rcases Nat.lt_or_ge k listed.size with h' | h'
        · simp [h'] at h0 hb; rw [h0] at hb; exact hb.symm
        · simp [Array.getElem?_eq_none h'] at h0
      have hnot : ∀ e ∈ oj.after, Region.binds md e = true → e.on ≠ i := fun e he hb heq => by
        have h1 := hall e he hb
        rw [heq] at h1
        exact Bool.noConfusion (both (mem_ready.1 hr).1 h1)
      have hnoti : ∀ e ∈ oi.after, Region.binds md e = true → e.on ≠ j := fun e he hb heq => by
        obtain ⟨_, o', ho', hall'⟩ := mem_ready.1 hr
        rw [hi] at ho'
        cases ho'
        have h1 := hall' e he hb
        rw [heq] at h1
        exact Bool.noConfusion (both hjun h1)
      have h2 := mOp_put (Ne.symm hji) hoj (hfree j oj hoj hji hjun hnot) (fun cs b => hsel i oi cs b hi) (fun cs b => hsel j oj cs b hoj) hnoti hnot hy h1
      have hfree' : ∀ k ok, ops[k]? = some ok → k ≠ i → (listed.setIfInBounds j true).getD k true = false →
          (∀ e ∈ ok.after, Region.binds md e = true → e.on ≠ i) → oi.apart ops ok = true := fun k ok hk hki hun hno => by
        refine hfree k ok hk hki ?_ hno
        by_cases hjk : j = k
        · subst hjk; exact hjun
        · rw [getD_set_ne true hjk] at hun; exact hun
      refine mOp_mono (fun f' a' h3 => ih (listed.setIfInBounds j true) f' a' hfree' (ready_mono hr (Ne.symm hji)) h3.1 ?_) h2
      rw [Array.setIfInBounds_comm _ _ hji]
      exact h3.2

theorem wp_region_mv {id : Nat} {Q : Exit → Act → World → Prop} {a : Act} {w : World} {l : List Oper} (C : Told → World → Prop) (hm : P.follows .mixedOrders = true) (hC : C (fun _ => none) w.drew)
    (h : wpAnyM P .any l.toArray C (fun f a' => ∀ w', C f w' → Q .normal a' w') l.length (Array.replicate l.length false) (fun _ => none) a) : (Code.region id l.toArray true).wp P Q a w :=
  wp_region_any hm (wpAny_of_moved (C := C) (Q := fun f a => ∀ w', C f w' → Q .normal a w') (fun f a w hw h => h w hw) _ _ (fun _ => none) _ _ (fun _ _ => rfl) hC (by simpa using h))
theorem mv_end {Q : Told → Act → Prop} {listed : Array Bool} {f : Told} {a : Act} (h0 : Region.ready md ops listed = []) (h : Q f a) : wpAnyM P md ops C Q 0 listed f a := ⟨h0, h⟩

/-- all worlds of the class, by a name -/
theorem moved_class (C : Told → World → Prop) : ∃ (S : Type) (F : S → World), (∀ f w, C f w → ∃ s, w = F s) ∧ ∀ s, ∃ f, C f (F s) :=
  ⟨{ x : Told × World // C x.1 x.2 }, fun s => s.1.2, fun f w h => ⟨⟨(f, w), h⟩, rfl⟩, fun s => ⟨s.1.1, s.2⟩⟩
/-- what is read, or reckoned, in all of them: taken first -/
theorem mv_read {Q : Told → Act → Prop} {fuel : Nat} {listed : Array Bool} {f : Told} {a : Act} (i : Nat) {o : Oper} {S : Type} {F : S → World} (hF : ∀ f w, C f w → ∃ s, w = F s) (hm : ∀ f w v, C f w → C (upd f i v) w)
    (ho : ops[i]? = some o) (hs : Region.noSelect ops = true) (hfree : Region.free md ops listed i = true) (hr : (Region.ready md ops listed).contains i = true)
    (h : ∀ K : Value → Act → Prop, (∀ v a, wpAnyM P md ops C Q fuel (listed.setIfInBounds i true) (upd f i v) a → K v a) → if Region.wanted o (yielded ops a.tmps) then ∃ v, (∀ s, Oper.quietUpon P (fun w' => w' = F s) (F s) v ((execOp a.eval o).run P (F s))) ∧ K v (a.put o.dst v) else K undef (a.put o.dst undef)) :
    wpAnyM P md ops C Q (fuel + 1) listed f a := by
  have h := h (fun v a => wpAnyM P md ops C Q fuel (listed.setIfInBounds i true) (upd f i v) a) fun _ _ h => h
  have key : ∀ u, Moves P md ops C o i (fun v => v = u) f a → wpAnyM P md ops C Q fuel (listed.setIfInBounds i true) (upd f i u) (a.put o.dst u) → wpAnyM P md ops C Q (fuel + 1) listed f a := fun u h1 h2 =>
    wpAnyM_first ho (Region.noSelect_spec hs) fuel listed f a (Region.free_spec ho hfree) (by simpa using hr) h1 h2
  split at h
  · rename_i hw
    obtain ⟨v, h1, h2⟩ := h
    refine key v (.inl ⟨hw, fun g w _ hn hC => ?_⟩) h2
    obtain ⟨s, rfl⟩ := hF g w hC
    have h3 := h1 s
    generalize (execOp a.eval o).run P (F s) = r at *
    cases r with
    | ok n w' =>
      cases n <;> simp only [Oper.quietUpon] at h3 <;> simp only [movesUpon]
      case value u => obtain ⟨rfl, rfl⟩ := h3; exact ⟨rfl, hm _ _ _ hC⟩
      case skip => obtain ⟨rfl, rfl⟩ := h3; exact ⟨rfl, hm _ _ _ hC⟩
      case enter g args =>
        obtain ⟨rfl, h4⟩ := h3
        exact h4.mono fun e w'' ⟨he, hw''⟩ => by subst hw''; exact ⟨v, he, rfl, hm _ _ _ hC⟩
    | halt x w' => simp only [Oper.quietUpon] at h3
  · rename_i hw
    exact key undef (.inr ⟨by simpa using hw, rfl, fun g w _ _ hC => hm _ _ _ hC⟩) h
/-- a call that yields one value, wherever it is done: taken first -/
theorem mv_call1 {Q : Told → Act → Prop} {fuel : Nat} {listed : Array Bool} {F : Told} {a : Act} (i : Nat) {o : Oper} (f : FuncId) {xs : Array Operand} {ts : Array TypeId}
    (ho : ops[i]? = some o) (hs : Region.noSelect ops = true) (hfree : Region.free md ops listed i = true) (hr : (Region.ready md ops listed).contains i = true) (hw : Region.wanted o (yielded ops a.tmps) = true)
    (hop : o.op = Op.call { callee := Callee.value (.func f), args := xs, argTypes := ts }) (eg : ∀ args w, (callFunc f args).run P w = .ok (.enter f args) w) {args : Array Value} (hargs : xs.toList.map a.eval = args.toList)
    {u : Value} (hc : ∀ g w, agree md o F g → g i = none → C g w → Calls P f args w fun e w' => e = .returned u ∧ C (upd g i u) w')
    (hK : wpAnyM P md ops C Q fuel (listed.setIfInBounds i true) (upd F i u) (a.put o.dst u)) : wpAnyM P md ops C Q (fuel + 1) listed F a := by
  refine wpAnyM_first (u := u) ho (Region.noSelect_spec hs) fuel listed F a (Region.free_spec ho hfree) (by simpa using hr) (.inl ⟨hw, fun g w h0 h1 h2 => ?_⟩) hK
  have hrun : (execOp a.eval o).run P w = .ok (.enter f args) w := by
    have h : xs.map a.eval = args := Array.toList_inj.1 (by simpa using hargs)
    simp [execOp, hop, resolve, Deferred.ofValue, Act.eval, invoke, eg, ← h]
  rw [hrun]
  exact (hc g w h0 h1 h2).mono fun e w' ⟨h1, h2⟩ => ⟨u, h1, rfl, h2⟩
/-- a call that alone may be done now -/
theorem mv_call {Q : Told → Act → Prop} {fuel : Nat} {listed : Array Bool} {F : Told} {a : Act} (i : Nat) {o : Oper} (f : FuncId) {xs : Array Operand} {ts : Array TypeId}
    (ho : ops[i]? = some o) (hr : Region.ready md ops listed = [i]) (hw : Region.wanted o (yielded ops a.tmps) = true)
    (hop : o.op = Op.call { callee := Callee.value (.func f), args := xs, argTypes := ts }) (eg : ∀ args w, (callFunc f args).run P w = .ok (.enter f args) w) {args : Array Value} (hargs : xs.toList.map a.eval = args.toList)
    (V : Value → Prop) (hc : ∀ g w, agree md o F g → g i = none → C g w → Calls P f args w fun e w' => ∃ v, e = .returned v ∧ V v ∧ C (upd g i v) w')
    (hK : ∀ v, V v → wpAnyM P md ops C Q fuel (listed.setIfInBounds i true) (upd F i v) (a.put o.dst v)) : wpAnyM P md ops C Q (fuel + 1) listed F a := by
  refine ⟨by rw [hr]; simp, fun j hj => ?_⟩
  rw [hr] at hj
  obtain rfl : j = i := by simpa using hj
  refine Moves.mOp (V := V) ho (.inl ⟨hw, fun g w h0 h1 h2 => ?_⟩) hK
  have hrun : (execOp a.eval o).run P w = .ok (.enter f args) w := by
    have h : xs.map a.eval = args := Array.toList_inj.1 (by simpa using hargs)
    simp [execOp, hop, resolve, Deferred.ofValue, Act.eval, invoke, eg, ← h]
  rw [hrun]
  exact hc g w h0 h1 h2
end
end Ks
/- A region that draws its order, some of whose steps turn what was there: an operation that alone may be done now; an append. Plain. No program is in sight. -/
namespace Ks
open Go Go.RowKit
set_option linter.unusedVariables false
section
variable {P : Program} {ops : Array Oper} {md : Region.Mode} {C : Told → World → Prop}
/-- an operation that alone may be done now -/
theorem mv_alone {Q : Told → Act → Prop} {fuel : Nat} {listed : Array Bool} {F : Told} {a : Act} (i : Nat) {o : Oper}
    (ho : ops[i]? = some o) (hr : Region.ready md ops listed = [i]) (hw : Region.wanted o (yielded ops a.tmps) = true) (V : Value → Prop)
    (hc : ∀ g w, agree md o F g → g i = none → C g w → ∀ D : Value → World → Prop, (∀ v w', V v → C (upd g i v) w' → D v w') → movesUpon P D ((execOp a.eval o).run P w))
    (hK : ∀ v, V v → wpAnyM P md ops C Q fuel (listed.setIfInBounds i true) (upd F i v) (a.put o.dst v)) : wpAnyM P md ops C Q (fuel + 1) listed F a := by
  refine ⟨by rw [hr]; simp, fun j hj => ?_⟩
  rw [hr] at hj
  obtain rfl : j = i := by simpa using hj
  exact Moves.mOp (V := V) ho (.inl ⟨hw, fun g w h0 h1 h2 => hc g w h0 h1 h2 _ fun v w' a b => ⟨a, b⟩⟩) hK
/-- an append that alone may be done now -/
theorem mv_append {α : Type} {E : Enc α} {Q : Told → Act → Prop} {fuel : Nat} {listed : Array Bool} {F : Told} {a : Act} (i : Nat) {o : Oper}
    (ho : ops[i]? = some o) (hr : Region.ready md ops listed = [i]) (hg : o.guard = none) (s x : Operand) (t : TypeId)
    (hop : o.op = .call { callee := .builtin .append, args := #[s, x], argTypes := #[t, t] }) {e : TypeId} {bytes : Nat} (T : ElemT P t e E.k bytes) (B : Nat)
    (v lv : Value) (L l : List α) (hs : a.eval s = v) (hx : a.eval x = lv) (b1 : L.length + l.length ≤ 140000000) (b2 : bytes ≤ 1000)
    (hrow : ∀ g w, agree md o F g → g i = none → C g w → Row E w B e v L ∧ Rd E w lv l ∧ B ≤ w.heap.size)
    (V : Value → Prop) (hV : ∀ g w v' w', agree md o F g → g i = none → C g w → Grew E w w' B e v v' (L ++ l) → V v' ∧ C (upd g i v') w')
    (hK : ∀ v', V v' → wpAnyM P md ops C Q fuel (listed.setIfInBounds i true) (upd F i v') (a.put o.dst v')) : wpAnyM P md ops C Q (fuel + 1) listed F a := by
  refine mv_alone i ho hr (by simp [Region.wanted, hg]) V (fun g w h0 h1 h2 D hD => ?_) hK
  obtain ⟨r1, r2, r3⟩ := hrow g w h0 h1 h2
  obtain ⟨v', w', hrun, r⟩ := run_append_row (P := P) (t := t) (ty := o.type) T w B v lv L l r1 r2 r3 b1 b2
  simp [execOp, hop, resolve, invoke, builtin, hs, hx, hrun, Result.andThen, movesUpon]
  exact hD _ _ (hV g w v' w' h0 h1 h2 r).1 (hV g w v' w' h0 h1 h2 r).2
end
/-- what is read, or reckoned, wherever it was not yet -/
theorem mv_readN {P : Program} {ops : Array Oper} {md : Region.Mode} {C : Told → World → Prop} {Q : Told → Act → Prop} {fuel : Nat} {listed : Array Bool} {f : Told} {a : Act} (i : Nat) {o : Oper} {S : Type} {F : S → World} (hF : ∀ f w, f i = none → C f w → ∃ s, w = F s) (hm : ∀ f w v, f i = none → C f w → C (upd f i v) w)
    (ho : ops[i]? = some o) (hs : Region.noSelect ops = true) (hfree : Region.free md ops listed i = true) (hr : (Region.ready md ops listed).contains i = true)
    (h : ∀ K : Value → Act → Prop, (∀ v a, wpAnyM P md ops C Q fuel (listed.setIfInBounds i true) (upd f i v) a → K v a) → if Region.wanted o (yielded ops a.tmps) then ∃ v, (∀ s, Oper.quietUpon P (fun w' => w' = F s) (F s) v ((execOp a.eval o).run P (F s))) ∧ K v (a.put o.dst v) else K undef (a.put o.dst undef)) :
    wpAnyM P md ops C Q (fuel + 1) listed f a := by
  have h := h (fun v a => wpAnyM P md ops C Q fuel (listed.setIfInBounds i true) (upd f i v) a) fun _ _ h => h
  have key : ∀ u, Moves P md ops C o i (fun v => v = u) f a → wpAnyM P md ops C Q fuel (listed.setIfInBounds i true) (upd f i u) (a.put o.dst u) → wpAnyM P md ops C Q (fuel + 1) listed f a := fun u h1 h2 =>
    wpAnyM_first ho (Region.noSelect_spec hs) fuel listed f a (Region.free_spec ho hfree) (by simpa using hr) h1 h2
  split at h
  · rename_i hw
    obtain ⟨v, h1, h2⟩ := h
    refine key v (.inl ⟨hw, fun g w _ hn hC => ?_⟩) h2
    obtain ⟨s, rfl⟩ := hF g w hn hC
    have h3 := h1 s
    generalize (execOp a.eval o).run P (F s) = r at *
    cases r with
    | ok n w' =>
      cases n <;> simp only [Oper.quietUpon] at h3 <;> simp only [movesUpon]
      case value u => obtain ⟨rfl, rfl⟩ := h3; exact ⟨rfl, hm _ _ _ hn hC⟩
      case skip => obtain ⟨rfl, rfl⟩ := h3; exact ⟨rfl, hm _ _ _ hn hC⟩
      case enter g args =>
        obtain ⟨rfl, h4⟩ := h3
        exact h4.mono fun e w'' ⟨he, hw''⟩ => by subst hw''; exact ⟨v, he, rfl, hm _ _ _ hn hC⟩
    | halt x w' => simp only [Oper.quietUpon] at h3
  · rename_i hw
    exact key undef (.inr ⟨by simpa using hw, rfl, fun g w _ hn hC => hm _ _ _ hn hC⟩) h
theorem moved_classN (C : Told → World → Prop) (i : Nat) : ∃ (S : Type) (F : S → World), (∀ f w, f i = none → C f w → ∃ s, w = F s) ∧ ∀ s, ∃ f, f i = none ∧ C f (F s) :=
  ⟨{ x : Told × World // x.1 i = none ∧ C x.1 x.2 }, fun s => s.1.2, fun f w h1 h => ⟨⟨(f, w), h1, h⟩, rfl⟩, fun s => ⟨s.1.1, s.2⟩⟩
theorem grown_trans {w w1 w2 : World} {r : Option Nat} (h : w.grownBy w1 r) (k : Below w1.heap.size w1 w2) : w.grownBy w2 r :=
  ⟨k.os.trans h.os, k.tape.trans h.tape, k.output.trans h.output, Nat.le_trans h.size k.size, fun j hj hr => (k.block j (Nat.lt_of_lt_of_le hj h.size)).trans (h.block j hj hr)⟩
theorem below_grown {w w1 w2 : World} {r : Option Nat} (h : Below w.heap.size w w1) (k : w1.grownBy w2 r) : w.grownBy w2 r :=
  ⟨k.os.trans h.os, k.tape.trans h.tape, k.output.trans h.output, Nat.le_trans h.size k.size, fun j hj hr => (k.block j (Nat.lt_of_lt_of_le hj h.size) hr).trans (h.block j hj)⟩
theorem grown_of {w w1 : World} (h : Below w.heap.size w w1) (r : Option Nat) : w.grownBy w1 r := below_grown h (World.grownBy.refl w1 r)
/-- a class of worlds behind one, where an own row grows: s is what is appended, u the row that it becomes -/
def Appends {α : Type} (E : Enc α) (B : Nat) (w0 : World) (T : TypeId) (v : Value) (L l : List α) (s u : Option Value) (w : World) : Prop :=
  match u with
  | none => Below w0.heap.size w0 w ∧ Row E w B T v L ∧ ∀ x, s = some x → Rd E w x l
  | some u => w0.grownBy w v.ownBlock ∧ (u.ownBlock = v.ownBlock ∨ ∀ b, u.ownBlock = some b → w0.heap.size ≤ b) ∧ Row E w B T u (L ++ l)
section
variable {α : Type} {E : Enc α} {B : Nat} {w0 w w' : World} {T : TypeId} {v : Value} {L l : List α} {s u : Option Value}
theorem Appends.start (h : Row E w0 B T v L) (hb : Below w0.heap.size w0 w) : Appends E B w0 T v L l none none w := ⟨hb, h.below hb, fun x hx => by cases hx⟩
theorem Appends.on (h : Appends E B w0 T v L l s u w) (hb : Below w.heap.size w w') : Appends E B w0 T v L l s u w' := by
  cases u with
  | none => exact ⟨h.1.trans (hb.mono h.1.size), h.2.1.below hb, fun x hx => (h.2.2 x hx).below hb⟩
  | some u => exact ⟨grown_trans h.1 hb, h.2.1, h.2.2.below hb⟩
theorem Appends.size (h : Appends E B w0 T v L l s u w) : w0.heap.size ≤ w.heap.size := by
  cases u with
  | none => exact h.1.size
  | some u => exact h.1.size
theorem Appends.grown (h : Appends E B w0 T v L l s u w) : w0.grownBy w v.ownBlock := by
  cases u with
  | none => exact grown_of h.1 _
  | some u => exact h.1
theorem Appends.cell {a : Addr} {x : Value} (h : Appends E B w0 T v L l s u w) (hc : w0.cell? a = some x) (hne : v.ownBlock ≠ some a.block) : w.cell? a = some x :=
  h.grown.cell hc fun e => hne e.symm
theorem Appends.block {b : Nat} {o : Obj} (h : Appends E B w0 T v L l s u w) (hc : w0.heap[b]? = some o) (hne : v.ownBlock ≠ some b) : w.heap[b]? = some o :=
  (h.grown.block b (lt_of_block hc) fun e => hne e.symm).trans hc
/-- what is appended, in a new block -/
theorem Appends.made (h : Appends E B w0 T v L l s u w) (cs : Array Value) (e : cs.toList = E.cs l) (fr : Nat × Nat := (0, 0)) : Appends E B w0 T v L l (some (.slice (some ⟨w.heap.size, 0, none⟩) l.length l.length)) u (w.alloc (.cells cs T fr)) := by
  have hb := alloc_below w (.cells cs T fr)
  cases u with
  | none => exact ⟨h.1.trans (hb.mono h.1.size), h.2.1.below hb, fun x hx => by cases hx; exact Rd.block (alloc_new w _) e⟩
  | some u => exact ⟨grown_trans h.1 hb, h.2.1, h.2.2.below hb⟩
theorem Appends.grew {v' : Value} (h : Appends E B w0 T v L l s none w) (hG : Grew E w w' B T v v' (L ++ l)) : Appends E B w0 T v L l s (some v') w' :=
  ⟨below_grown h.1 hG.2.1, hG.2.2.1.imp id fun hh b e => Nat.le_trans h.1.size (hh b e), hG.1⟩
theorem Appends.rows {lv : Value} (h : Appends E B w0 T v L l (some lv) none w) (hB : B ≤ w0.heap.size) : Row E w B T v L ∧ Rd E w lv l ∧ B ≤ w.heap.size := ⟨h.2.1, h.2.2 lv rfl, Nat.le_trans hB h.1.size⟩
end
/-- the same, where the row lies in a box: a: what was read of it, z: that it was stored -/
def AppStore {α : Type} (E : Enc α) (B : Nat) (w0 : World) (T : TypeId) (v : Value) (L l : List α) (bo : Nat) (a s u z : Option Value) (w : World) : Prop :=
  match z with
  | none => Appends E B w0 T v L l s u w ∧ (u ≠ none → a ≠ none ∧ s ≠ none)
  | some _ => (a ≠ none ∧ s ≠ none) ∧ ∃ u' w1, u = some u' ∧ Appends E B w0 T v L l s (some u') w1 ∧ w = w1.setCell ⟨bo, 0, none⟩ u'
section
variable {α : Type} {E : Enc α} {B bo : Nat} {w0 w w' : World} {T : TypeId} {v : Value} {L l : List α} {a s u z : Option Value}
theorem AppStore.start (h : Row E w0 B T v L) (hb : Below w0.heap.size w0 w) : AppStore E B w0 T v L l bo none none none none w := ⟨Appends.start h hb, fun h => absurd rfl h⟩
theorem AppStore.read (x : Value) (h : AppStore E B w0 T v L l bo a s u z w) : AppStore E B w0 T v L l bo (some x) s u z w := by
  cases z with
  | none => exact ⟨h.1, fun hu => ⟨(fun e => by cases e), (h.2 hu).2⟩⟩
  | some z => exact ⟨⟨(fun e => by cases e), h.1.2⟩, h.2⟩
/-- what was there stands, but for the row and its box -/
theorem AppStore.cell {ad : Addr} {x : Value} (h : AppStore E B w0 T v L l bo a s u z w) (hc : w0.cell? ad = some x) (hne : v.ownBlock ≠ some ad.block) (hbo : ad.block ≠ bo) : w.cell? ad = some x := by
  cases z with
  | none => exact h.1.cell hc hne
  | some z =>
    obtain ⟨_, u', w1, _, h1, rfl⟩ := h
    have hfar : (w1.setCell ⟨bo, 0, none⟩ u').cell? ad = w1.cell? ad := World.cell?_of_block (Below.heap_setCell _ _ _ _ hbo)
    rw [hfar]
    exact h1.cell hc hne
/-- the box, ahead of its reading -/
theorem AppStore.box {x : Value} (h : AppStore E B w0 T v L l bo none s u z w) (hc : w0.cell? ⟨bo, 0, none⟩ = some x) (hne : v.ownBlock ≠ some bo) : w.cell? ⟨bo, 0, none⟩ = some x := by
  cases z with
  | none => exact h.1.cell hc hne
  | some z => exact absurd rfl h.1.1
theorem AppStore.unread (h : AppStore E B w0 T v L l bo a s u none w) : Appends E B w0 T v L l s u w := h.1
theorem AppStore.early (h : AppStore E B w0 T v L l bo a none u z w) : u = none ∧ z = none := by
  cases z with
  | none =>
    cases u with
    | none => exact ⟨rfl, rfl⟩
    | some u => exact absurd rfl (h.2 (fun e => by cases e)).2
  | some z => exact absurd rfl h.1.2
theorem AppStore.mid (h : AppStore E B w0 T v L l bo a s none z w) : z = none := by
  cases z with
  | none => rfl
  | some z => obtain ⟨_, u', w1, e, _⟩ := h; cases e
theorem AppStore.made (h : AppStore E B w0 T v L l bo a none u z w) (cs : Array Value) (e : cs.toList = E.cs l) (fr : Nat × Nat := (0, 0)) : AppStore E B w0 T v L l bo a (some (.slice (some ⟨w.heap.size, 0, none⟩) l.length l.length)) u z (w.alloc (.cells cs T fr)) := by
  obtain ⟨rfl, rfl⟩ := h.early
  exact ⟨h.1.made cs e fr, fun h => absurd rfl h⟩
theorem AppStore.rows {lv : Value} (h : AppStore E B w0 T v L l bo a (some lv) none z w) (hB : B ≤ w0.heap.size) : Row E w B T v L ∧ Rd E w lv l ∧ B ≤ w.heap.size := by
  obtain rfl := h.mid
  exact h.1.rows hB
theorem AppStore.grew {v' : Value} {x y : Value} (h : AppStore E B w0 T v L l bo (some x) (some y) none z w) (hG : Grew E w w' B T v v' (L ++ l)) : AppStore E B w0 T v L l bo (some x) (some y) (some v') z w' := by
  obtain rfl := h.mid
  exact ⟨h.1.grew hG, fun _ => ⟨(fun e => by cases e), (fun e => by cases e)⟩⟩
theorem AppStore.stored {v' y : Value} (h : AppStore E B w0 T v L l bo a s (some v') none w) : AppStore E B w0 T v L l bo a s (some v') (some y) (w.setCell ⟨bo, 0, none⟩ v') :=
  ⟨h.2 (fun e => by cases e), v', w, rfl, h.1, rfl⟩
theorem AppStore.done {u' y : Value} (h : AppStore E B w0 T v L l bo a s (some u') (some y) w) : ∃ w1, w0.grownBy w1 v.ownBlock ∧ Row E w1 B T u' (L ++ l) ∧ w = w1.setCell ⟨bo, 0, none⟩ u' := by
  obtain ⟨_, u2, w1, e, h1, rfl⟩ := h
  cases e
  exact ⟨w1, h1.1, h1.2.2, rfl⟩
theorem Appends.frozen {ad : Addr} {x : Value} (h : Appends E B w0 T v L l s u w) (hc : w0.cell? ad = some x) (hf : w0.frozen? ad = false) (hne : v.ownBlock ≠ some ad.block) : w.frozen? ad = false := by
  rw [World.frozen?_of_block (h.grown.block ad.block (World.block_lt_of_cell? _ _ hc) fun e => hne e.symm)]
  exact hf
end
end Ks
/- Trees of hashes: a leaf's and a node's hash; whether all are hashes; the level above. -/
namespace Ks
open Go Go.RowKit
set_option linter.unusedVariables false
theorem leafS_eq (s : ByteArray) : shaS (0 :: s.data.toList) = leafS s := rfl
theorem nodeS_eq (a b : ByteArray) : shaS (insideL a b) = nodeS a b := rfl
theorem inside_cat (a b : ByteArray) : (ByteArray.mk #[1] ++ a ++ b) = insideS a b := by
  cases a with | mk a => cases b with | mk b => cases a with | mk a => cases b with | mk b => simp [insideS, insideL, ByteArray.mk_append_mk]
theorem inside_size (a b : ByteArray) : (insideS a b).size = 1 + a.size + b.size := by
  rw [← data_length]
  show (insideL a b).length = _
  rw [insideL, List.length_cons, List.length_append, data_length, data_length]; omega
theorem leafS_size (a : ByteArray) : (leafS a).size = 32 := sha1_size _
/-- the first that is not so -/
def idxS (p : ByteArray → Bool) : List ByteArray → Int
  | [] => -1
  | x :: l => if p x then 0 else (if idxS p l = -1 then -1 else idxS p l + 1)
theorem idxS_low (p : ByteArray → Bool) (l : List ByteArray) : -1 ≤ idxS p l := by
  induction l with
  | nil => exact Int.le_refl _
  | cons x l ih => rw [idxS]; split <;> (try split) <;> omega
theorem idxS_none (p : ByteArray → Bool) (l : List ByteArray) (h : ∀ x ∈ l, p x = false) : idxS p l = -1 := by
  induction l with
  | nil => rfl
  | cons x l ih => rw [idxS, h x (by simp), ih fun y hy => h y (by simp [hy])]; rfl
theorem idxS_hit (p : ByteArray → Bool) (l : List ByteArray) (k : Nat) (x : ByteArray) (hx : l[k]? = some x) (hq : p x = true) (hno : ∀ i, i < k → ∀ y, l[i]? = some y → p y = false) : idxS p l = k := by
  induction l generalizing k with
  | nil => simp at hx
  | cons a l ih =>
    cases k with
    | zero => simp at hx; subst hx; rw [idxS, hq]; rfl
    | succ k =>
      have h1 := hno 0 (by omega) a rfl
      have h2 := ih k (by simpa using hx) fun i hi y hy => hno (i + 1) (by omega) y (by simpa using hy)
      rw [idxS, h1, h2]
      rw [if_neg (by simp), if_neg (by omega)]
      omega
theorem idxS_any (p : ByteArray → Bool) (l : List ByteArray) : decide (0 ≤ idxS p l) = l.any p := by
  induction l with
  | nil => rfl
  | cons x l ih =>
    have := idxS_low p l
    rw [idxS, List.any_cons, ← ih]
    cases p x with
    | true => simp
    | false =>
      rw [if_neg (by simp), Bool.false_or]
      split
      · rename_i h; rw [h]
      · rw [decide_eq_decide]; omega
theorem whole_any' (l : List ByteArray) : (l.any fun s => (s.size : Int) != 32) = !wholeL l := by
  unfold wholeL
  rw [List.not_all_eq_any_not]
  congr 1
  funext s
  rw [Bool.eq_iff_iff]; simp [bne_iff_ne]; omega
theorem above_get (l : List ByteArray) (k : Nat) (h : 2 * k + 1 < l.length) : aboveL (l.take (2 * k + 2)) = aboveL (l.take (2 * k)) ++ [nodeS (l[2 * k]'(by omega)) l[2 * k + 1]] := by
  have e : l.take (2 * k + 2) = l.take (2 * k) ++ [l[2 * k]'(by omega), l[2 * k + 1]] := by
    rw [List.take_succ_eq_append_getElem (by omega), List.take_succ_eq_append_getElem (by omega), List.append_assoc]; rfl
  rw [e, above_append k _ _ (by rw [List.length_take]; omega)]
  rfl
theorem above_last (l : List ByteArray) (k : Nat) (h : 2 * k + 1 = l.length) : aboveL l = aboveL (l.take (2 * k)) ++ [l[2 * k]'(by omega)] := by
  have e : l = l.take (2 * k) ++ [l[2 * k]'(by omega)] := by
    conv => lhs; rw [← List.take_of_length_le (show l.length ≤ 2 * k + 1 by omega)]
    rw [List.take_succ_eq_append_getElem (by omega)]
  conv => lhs; rw [e]
  rw [above_append k _ _ (by rw [List.length_take]; omega)]
  rfl
end Ks
namespace Go.Proofs.Ytdbabkkmdlkjaaa
open Go.RowKit Ks
set_option linter.unusedVariables false
theorem Try.infoS : (Try.prog.info? 9).map (fun i => (i.zero, i.size, i.bytes)) = some (some (.string ⟨#[]⟩), 1, 16) := by kernel_rfl
theorem strT : ElemT Try.prog 42 9 strE.k 16 := elemT_of Try.underlying42 Try.infoS rfl
theorem leaf_any (s : ByteArray) (w : World) (h : s.size ≤ 10000000000) : Calls Try.prog 79 #[.string s] w fun e w' => e = .returned (.string (leafS s)) ∧ Below w.heap.size w w' := by
  refine calls_by fun R HR => ?_
  have H := Lib.hid h
  clear h
  go_enter Try.func79, Try.ntmps79
  go_wp2_with fail
  refine (sum2_any ⟨#[0]⟩ s _ w (by decide) H.out).mono ?_
  rintro e w1 ⟨rfl, hb⟩
  have HB := Lib.hid hb
  clear hb
  rw [show shaS ((ByteArray.mk #[0]).data.toList ++ s.data.toList) = leafS s from rfl]
  go_wp2
  exact HR.out _ _ ⟨rfl, HB.out⟩
theorem inside_any (a b : ByteArray) (w : World) (h : a.size ≤ 10000000000) (h2 : b.size ≤ 10000000000) : Calls Try.prog 96 #[.string a, .string b] w fun e w' => e = .returned (.string (insideS a b)) ∧ w' = w := by
  refine calls_by fun R HR => ?_
  have HC := Lib.hid (inside_cat a b)
  go_enter Try.func96, Try.ntmps96
  go_wp2
  exact HR.out _ _ ⟨by rw [← HC.out]; rfl, rfl⟩
theorem node_any (a b : ByteArray) (w : World) (h : a.size ≤ 10000000000) (h2 : b.size ≤ 10000000000) : Calls Try.prog 88 #[.string a, .string b] w fun e w' => e = .returned (.string (nodeS a b)) ∧ Below w.heap.size w w' := by
  refine calls_by fun R HR => ?_
  have H := Lib.hid (show (insideS a b).size ≤ 50000000000 by rw [inside_size]; omega)
  have HA := Lib.hid h
  have HB := Lib.hid h2
  clear h h2
  go_enter Try.func88, Try.ntmps88
  go_wp2_with fail
  refine (inside_any a b w HA.out HB.out).mono ?_
  rintro e w1 ⟨rfl, hw⟩
  subst hw
  go_wp2_with fail
  refine (sum1_any (insideS a b) _ _ H.out).mono ?_
  rintro e w2 ⟨rfl, hb⟩
  have HB := Lib.hid hb
  clear hb
  rw [show shaS (insideS a b).data.toList = nodeS a b from rfl]
  go_wp2
  exact HR.out _ _ ⟨rfl, HB.out⟩
theorem notwide_any (s : ByteArray) (w : World) : Calls Try.prog 76 #[.string s] w fun e w' => e = .returned (.bool ((s.size : Int) != 32)) ∧ Below w.heap.size w w' := by
  refine calls_by fun R HR => ?_
  go_enter Try.func76, Try.ntmps76
  go_wp2
  exact HR.out _ _ ⟨rfl, Below.refl _ _⟩
set_option maxHeartbeats 1000000 in
theorem indexS_any (g : Nat) (lb : Array Value) (eg : ∀ args w, (callFunc g args).run Try.prog w = .ok (.enter g args) w) (p : ByteArray → Bool) (lv : Value) (l : List ByteArray) (w : World) (hl : Rd strE w lv l) (hlen : l.length ≤ 9223372036854775807)
    (hp : ∀ x w', Below w.heap.size w w' → Calls Try.prog g (#[.string x] ++ lb) w' fun e w'' => e = .returned (.bool (p x)) ∧ Below w'.heap.size w' w'') :
    Calls Try.prog 87 #[lv, .func (.func g) #[] lb] w fun e w' => e = .returned (.int .i64 (idxS p l)) ∧ Below w.heap.size w w' := by
  refine calls_by fun R HR => ?_
  obtain ⟨a, cap, rfl, hcap, -⟩ := hl.shape
  have HL := Lib.hid hl
  have Hp := Lib.hid hp
  clear hl hp
  go_enter Try.func87, Try.ntmps87
  go_wp2
  go_loopw [8] (fun i wr => ∃ k : Nat, k ≤ l.length ∧ i = .int .i64 k ∧ Hid (∀ (i : Nat), i < k → ∀ (y : ByteArray), l[i]? = some y → p y = false) ∧ Below w.heap.size w wr) (fun i _ => l.length - (intOf i).toNat)
  case atStart => exact ⟨0, by omega, rfl, Lib.hid (fun i hi => absurd hi (by omega)), Below.refl _ _⟩
  case round =>
    obtain ⟨k, hk, rfl, hno, hbel⟩ := hrel
    by_cases hlt : k < l.length
    · obtain ⟨b, o, rfl, hb, c1⟩ := (HL.out.below hbel).str k hlt
      have hx := Lib.hid (List.getElem?_eq_getElem hlt)
      generalize l[k] = x at c1 hx
      have hcall := Hp.out x wr hbel
      cases hq : p x with
      | true =>
        rw [hq] at hcall
        go_wp2_with (go_at_fn g; refine hcall.mono ?_; rintro e w' ⟨rfl, hb'⟩)
        refine HR.out _ _ ⟨?_, hbel.trans (hb'.mono hbel.size)⟩
        rw [idxS_hit p l k x hx.out hq hno.out]; rfl
      | false =>
        rw [hq] at hcall
        go_wp2_with (go_at_fn g; refine hcall.mono ?_; rintro e w' ⟨rfl, hb'⟩)
        go_roundw
        case rel =>
          refine ⟨k + 1, by omega, by go_num, Lib.hid fun i hi y hy => ?_, hbel.trans (hb'.mono hbel.size)⟩
          by_cases e : i = k
          · subst e; rw [hx.out] at hy; cases hy; exact hq
          · exact hno.out i (by omega) y hy
        case measure => simp [intOf]; omega
    · obtain rfl : k = l.length := by omega
      have Q := Lib.hid (idxS_none p l fun x hx => by
        obtain ⟨i, hi, rfl⟩ := List.getElem_of_mem hx
        exact hno.out i hi _ (List.getElem?_eq_getElem hi))
      go_wp2
      refine HR.out _ _ ⟨?_, hbel⟩
      rw [Q.out]; rfl
set_option maxRecDepth 100000 in
theorem containsS_any (lv : Value) (l : List ByteArray) (w : World) (hl : Rd strE w lv l) (hlen : l.length ≤ 9223372036854775807) :
    Calls Try.prog 75 #[lv, .func (.func 76) #[] #[]] w fun e w' => e = .returned (.bool (!wholeL l)) ∧ Below w.heap.size w w' := by
  refine calls_by fun R HR => ?_
  have hi := indexS_any 76 #[] (fun _ _ => rfl) (fun s => (s.size : Int) != 32) lv l w hl hlen fun x w' _ => notwide_any x w'
  have hq := idxS_any (fun s => (s.size : Int) != 32) l
  rw [whole_any'] at hq
  generalize idxS (fun s => (s.size : Int) != 32) l = q at *
  go_enter Try.func75, Try.ntmps75
  go_wp2_with fail
  refine hi.mono ?_
  rintro e w1 ⟨rfl, hb⟩
  have Q := Lib.hid hq
  clear hi hq
  go_wp2
  exact HR.out _ _ ⟨by rw [← Q.out]; rfl, hb⟩
theorem whole_any (lv : Value) (l : List ByteArray) (w : World) (hl : Rd strE w lv l) (hlen : l.length ≤ 9223372036854775807) :
    Calls Try.prog 60 #[lv] w fun e w' => e = .returned (.bool (wholeL l)) ∧ Below w.heap.size w w' := by
  refine calls_by fun R HR => ?_
  obtain ⟨a, cap, rfl, hcap, -⟩ := hl.shape
  have HC := Lib.hid (containsS_any _ l w hl hlen)
  clear hl hlen hcap
  generalize wholeL l = b at *
  go_enter Try.func60, Try.ntmps60
  go_wp2_with fail
  refine HC.out.mono ?_
  rintro e w1 ⟨rfl, hb⟩
  have HB := Lib.hid hb
  clear hb
  cases b <;>
  · go_wp2
    exact HR.out _ _ ⟨rfl, HB.out⟩
theorem whole_get {l : List ByteArray} (h : wholeL l = true) (i : Nat) (x : ByteArray) (hx : l[i]? = some x) : x.size = 32 := by
  have := List.mem_of_getElem? hx
  simp only [wholeL, List.all_eq_true, beq_iff_eq] at h
  exact h x this
theorem eg_node : ∀ args w, (callFunc 88 args).run Try.prog w = .ok (.enter 88 args) w := fun _ _ => rfl
set_option maxRecDepth 20000 in
set_option maxHeartbeats 4000000 in
theorem above_any (lv : Value) (l : List ByteArray) (w : World) (hl : Rd strE w lv l) (hw : wholeL l = true) (hlen : l.length ≤ 100000000) :
    Calls Try.prog 78 #[lv] w fun e w' => ∃ v, e = .returned v ∧ Row strE w' w.heap.size 9 v (aboveL l) ∧ Below w.heap.size w w' := by
  refine calls_by fun R HR => ?_
  obtain ⟨a, cap, rfl, hcap, -⟩ := hl.shape
  have HL := Lib.hid (And.intro hl (And.intro hw hlen))
  have hli : (l.length : Int) ≤ 100000000 := by omega
  clear hl hw hlen
  go_enter Try.func78, Try.ntmps78
  go_wp2_with fail
  go_loopw [3, 4] (fun o0 i wr => ∃ (k : Nat) (ov : Value), k ≤ l.length ∧ ov = o0 ∧ i = .int .i64 k ∧ Hid ((∃ j, k = 2 * j) ∧ Row strE wr w.heap.size 9 ov (aboveL (l.take k)) ∧ Below w.heap.size w wr)) (fun _ i _ => l.length + 1 - (intOf i).toNat)
  case atStart => exact ⟨0, _, by omega, rfl, rfl, Lib.hid ⟨⟨0, rfl⟩, Row.nil _ _ _, Below.refl _ _⟩⟩
  case round =>
    obtain ⟨k, ov, hk, rfl, rfl, hN⟩ := hrel
    by_cases hlt : k < l.length
    · have hki : (k : Int) < (l.length : Int) := by omega
      have HAL := Lib.hid (show (aboveL (l.take k)).length ≤ 100000000 by rw [above_length, List.length_take]; have := HL.out.2.2; omega)
      have hrd := HL.out.1.below hN.out.2.2
      by_cases hlast : k + 1 = l.length
      · obtain ⟨b, o, rfl, hb, c1⟩ := hrd.str k hlt
        have HA := Lib.hid (show aboveL l = aboveL (l.take k) ++ [l[k]] by
          obtain ⟨j, rfl⟩ := hN.out.1
          exact above_last l j hlast)
        have hkl : ((k : Int) + 1 == (l.length : Int)) = true := by rw [beq_iff_eq]; omega
        generalize l[k] = x at *
        have HB := Lib.hid hb
        clear hrd hb hlast
        go_wp2_with (at_builtin; refine wpList_append_row _ rfl _ _ 42 rfl strT w.heap.size _ _ (aboveL (l.take k)) [x] rfl rfl (hN.out.2.1.below (alloc_below wr _)) (Rd.single x (alloc_new wr _) rfl) (by have := hN.out.2.2.size; simp; omega) (by have := HAL.out; simp; omega) (by decide) ?_)
        intro v' w2 hG
        have HG := Lib.hid (And.intro (show Row strE w2 w.heap.size 9 v' (aboveL l) by rw [HA.out]; exact hG.1) (hG.below (hN.out.2.2.trans ((alloc_below wr _).mono hN.out.2.2.size)) (by have := hN.out.2.2.size; simp; omega) (fun b hb => (hN.out.2.1.lt hb).1)))
        clear hG
        go_wp2
        exact HR.out _ _ ⟨_, rfl, HG.out⟩
      · have hlt2 : k + 1 < l.length := by omega
        obtain ⟨b, o, rfl, hb, c1⟩ := hrd.str k hlt
        obtain ⟨b', o', e', hb', c2⟩ := hrd.str (k + 1) hlt2
        simp only [Option.some.injEq, Addr.mk.injEq, and_true] at e'
        obtain ⟨rfl, rfl⟩ := e'
        have HA := Lib.hid (show aboveL (l.take (k + 2)) = aboveL (l.take k) ++ [nodeS l[k] l[k + 1]] by
          obtain ⟨j, rfl⟩ := hN.out.1
          exact above_get l j hlt2)
        have hkl : ((k : Int) + 1 == (l.length : Int)) = false := by rw [beq_eq_false_iff_ne]; omega
        have z1 := whole_get HL.out.2.1 k _ (List.getElem?_eq_getElem hlt)
        have z2 := whole_get HL.out.2.1 (k + 1) _ (List.getElem?_eq_getElem hlt2)
        have hbw : b < w.heap.size := by
          obtain ⟨b9, o9, e9, h9, _⟩ := HL.out.1.str k hlt
          simp only [Option.some.injEq, Addr.mk.injEq, and_true] at e9
          omega
        have HB0 := Lib.hid hbw
        clear hbw
        generalize l[k] = x at *
        generalize l[k + 1] = y at *
        have dc := Lib.hid (fun w => node_any x y w (by omega) (by omega))
        have hki2 : (k : Int) + 1 < (l.length : Int) := by omega
        have hki0 : 0 ≤ (k : Int) + 1 := by omega
        have hwr : IntKind.i64.wrap ((k : Int) + 1) = (k : Int) + 1 := by rw [IntKind.wrap_i64]; omega
        have hne : ov.ownBlock ≠ some b := fun e => by have h1 := (hN.out.2.1.lt e).1; have h2 := HB0.out; omega
        generalize hz : nodeS x y = z at *
        go_wp2_with fail
        refine wp_region_mv (fun f => Appends strE w.heap.size wr 9 ov (aboveL (l.take k)) [z] (f 11) (f 12)) (by kernel_rfl) (Appends.start hN.out.2.1 (drew_below wr)) ?_
        obtain ⟨S, F, hF, hFC⟩ := moved_class (fun f => Appends strE w.heap.size wr 9 ov (aboveL (l.take k)) [z] (f 11) (f 12))
        have k0 : ∀ s, (F s).cell? ⟨b, o + k, none⟩ = some (.string x) := fun s => (hFC s).choose_spec.cell c1 hne
        have k1 : ∀ s, (F s).cell? ⟨b, o + (k + 1), none⟩ = some (.string y) := fun s => (hFC s).choose_spec.cell c2 hne
        clear hrd hb hb' c1 c2 z1 z2 hlast
        show wpAnyM _ _ _ _ _ 14 (Array.replicate 14 false) _ _
        refine mv_read 0 hF (fun _ _ _ h => h) rfl (by kernel_rfl) (by kernel_rfl) (by kernel_rfl) (fun K hK => ?_)
        go_simp
        first | refine ⟨_, fun _ => rfl, hK _ _ ?_⟩ | refine hK _ _ ?_
        clear hK K
        refine mv_read 1 hF (fun _ _ _ h => h) rfl (by kernel_rfl) (by kernel_rfl) (by kernel_rfl) (fun K hK => ?_)
        go_simp
        first | refine ⟨_, fun _ => rfl, hK _ _ ?_⟩ | refine hK _ _ ?_
        clear hK K
        refine mv_read 2 hF (fun _ _ _ h => h) rfl (by kernel_rfl) (by kernel_rfl) (by kernel_rfl) (fun K hK => ?_)
        go_simp
        first | refine ⟨_, fun _ => rfl, hK _ _ ?_⟩ | refine hK _ _ ?_
        clear hK K
        refine mv_read 3 hF (fun _ _ _ h => h) rfl (by kernel_rfl) (by kernel_rfl) (by kernel_rfl) (fun K hK => ?_)
        go_simp
        first | refine ⟨_, fun _ => rfl, hK _ _ ?_⟩ | refine hK _ _ ?_
        clear hK K
        refine mv_read 4 hF (fun _ _ _ h => h) rfl (by kernel_rfl) (by kernel_rfl) (by kernel_rfl) (fun K hK => ?_)
        go_simp
        first | refine ⟨_, fun _ => rfl, hK _ _ ?_⟩ | refine hK _ _ ?_
        clear hK K
        refine mv_read 5 hF (fun _ _ _ h => h) rfl (by kernel_rfl) (by kernel_rfl) (by kernel_rfl) (fun K hK => ?_)
        go_simp
        first | refine ⟨_, fun _ => rfl, hK _ _ ?_⟩ | refine hK _ _ ?_
        clear hK K
        refine mv_read 6 hF (fun _ _ _ h => h) rfl (by kernel_rfl) (by kernel_rfl) (by kernel_rfl) (fun K hK => ?_)
        go_simp
        first | refine ⟨_, fun _ => rfl, hK _ _ ?_⟩ | refine hK _ _ ?_
        clear hK K
        refine mv_read 7 hF (fun _ _ _ h => h) rfl (by kernel_rfl) (by kernel_rfl) (by kernel_rfl) (fun K hK => ?_)
        go_simp
        first | refine ⟨_, fun _ => rfl, hK _ _ ?_⟩ | refine hK _ _ ?_
        clear hK K
        refine mv_read 8 hF (fun _ _ _ h => h) rfl (by kernel_rfl) (by kernel_rfl) (by kernel_rfl) (fun K hK => ?_)
        go_simp
        first | refine ⟨_, fun _ => rfl, hK _ _ ?_⟩ | refine hK _ _ ?_
        clear hK K
        refine mv_read 9 hF (fun _ _ _ h => h) rfl (by kernel_rfl) (by kernel_rfl) (by kernel_rfl) (fun K hK => ?_)
        go_simp
        first | refine ⟨_, fun _ => rfl, hK _ _ ?_⟩ | refine hK _ _ ?_
        clear hK K
        refine mv_call1 10 88 rfl (by kernel_rfl) (by kernel_rfl) (by kernel_rfl) rfl rfl eg_node (args := #[.string x, .string y]) rfl (u := .string z) (fun g w _ _ h => (dc.out w).mono fun e w' ⟨h1, h2⟩ => ⟨h1, h.on h2⟩) ?_
        refine mv_alone 11 rfl (by kernel_rfl) rfl (fun v => ∃ g, v = .slice (some ⟨g, 0, none⟩) 1 1) (fun g w _ _ h D hD => ?_) ?_
        · go_simp
          exact hD _ _ ⟨_, rfl⟩ (h.made #[.string z] rfl)
        rintro _ ⟨gs, rfl⟩
        refine mv_append 12 rfl (by kernel_rfl) rfl (.tmp 23) (.tmp 34) 42 rfl strT w.heap.size _ _ (aboveL (l.take k)) [z] rfl rfl (by have := HAL.out; simp; omega) (by decide) (fun g w ha h0 h => ?_) (fun _ => True) (fun g w v' w' ha h0 h hG => ?_) ?_
        · have e1 : g 11 = some (.slice (some ⟨gs, 0, none⟩) 1 1) := (agree_on 11 ha (by kernel_rfl)).trans rfl
          simp only [e1, h0] at h
          exact h.rows hN.out.2.2.size
        · simp only [h0] at h
          exact ⟨trivial, h.grew hG⟩
        rintro vz -
        refine mv_read 13 hF (fun _ _ _ h => h) rfl (by kernel_rfl) (by kernel_rfl) (by kernel_rfl) (fun K hK => ?_)
        go_simp
        first | refine ⟨_, fun _ => rfl, hK _ _ ?_⟩ | refine hK _ _ ?_
        clear hK K
        refine mv_end (by kernel_rfl) ?_
        intro w2 hw2
        have HG : Appends strE w.heap.size wr 9 ov (aboveL (l.take k)) [z] (some (.slice (some ⟨gs, 0, none⟩) 1 1)) (some vz) w2 := hw2
        have HG := Lib.hid (And.intro (show Row strE w2 w.heap.size 9 vz (aboveL (l.take (k + 2))) by rw [HA.out]; exact HG.2.2) (hN.out.2.2.grown HG.1 hN.out.2.2.size (fun b e => (hN.out.2.1.lt e).1)))
        clear hw2 hF hFC k0 k1
        go_wp2_with fail
        go_roundw
        case rel => exact ⟨k + 2, _, by omega, rfl, by go_num, Lib.hid ⟨by obtain ⟨j, rfl⟩ := hN.out.1; exact ⟨j + 1, by omega⟩, HG.out.1, HG.out.2⟩⟩
        case measure => simp [intOf]; omega
    · obtain rfl : k = l.length := by omega
      have HX := hN.out.2
      rw [List.take_length] at HX
      have HX2 := Lib.hid HX
      clear HX
      go_wp2
      exact HR.out _ _ ⟨_, rfl, HX2.out⟩
end Go.Proofs.Ytdbabkkmdlkjaaa
/- Leaves: how one is said, its hash, may leaves be, all hashes: of the program. -/
namespace Go.Proofs.Ytdbabkkmdlkjaaa
open Go.RowKit Ks
set_option linter.unusedVariables false
theorem place_any (lba : Int) (w : World) : Calls Try.prog 34 #[.int .i64 lba] w fun e w' => e = .returned (.bool (decide (0 ≤ lba ∧ lba < 4096))) ∧ w' = w := by
  refine calls_by fun R HR => ?_
  by_cases h0 : 0 ≤ lba
  · by_cases h1 : lba < 4096
    · have HV := Lib.hid (show decide (0 ≤ lba ∧ lba < 4096) = true from decide_eq_true ⟨h0, h1⟩)
      go_enter Try.func34, Try.ntmps34
      go_wp2
      exact HR.out _ _ ⟨by rw [HV.out]; rfl, rfl⟩
    · have HV := Lib.hid (show decide (0 ≤ lba ∧ lba < 4096) = false from decide_eq_false fun h => h1 h.2)
      go_enter Try.func34, Try.ntmps34
      go_wp2
      exact HR.out _ _ ⟨by rw [HV.out], rfl⟩
  · have HV := Lib.hid (show decide (0 ≤ lba ∧ lba < 4096) = false from decide_eq_false fun h => h0 h.1)
    go_enter Try.func34, Try.ntmps34
    go_wp2
    exact HR.out _ _ ⟨by rw [HV.out], rfl⟩
set_option maxRecDepth 100000 in
set_option maxHeartbeats 2000000 in
theorem said_any (x : LeafT) (w : World) : Calls Try.prog 59 #[leafV x] w fun e w' => e = .returned (.string (saidS x)) ∧ Below w.heap.size w w' := by
  obtain ⟨n, s⟩ := x
  refine calls_by fun R HR => ?_
  obtain ⟨W1, hW1⟩ : ∃ W1, w.alloc (.cells #[.int .i64 n, .string s] 45) = W1 := ⟨_, rfl⟩
  have b1 : Below w.heap.size w W1 := by rw [← hW1]; exact alloc_below w _
  have n1 : W1.heap[w.heap.size]? = some (.cells #[.int .i64 n, .string s] 45 (0, 0)) := by rw [← hW1]; exact alloc_new w _
  have c0 : W1.cell? ⟨w.heap.size, 0, none⟩ = some (.int .i64 n) := by rw [cell_of_row W1 _ 0 _ _ _ n1]; rfl
  have c1 : W1.cell? ⟨w.heap.size, 1, none⟩ = some (.string s) := by rw [cell_of_row W1 _ 1 _ _ _ n1]; rfl
  have H1 := Lib.hid (And.intro b1 n1)
  clear b1 n1
  by_cases h1 : 0 ≤ n ∧ n < 4096
  · have hp := place_any n W1
    rw [decide_eq_true h1] at hp
    have HP := Lib.hid hp
    clear hp
    by_cases h2 : s.size = 32
    · have hm : mayLeaf (n, s) := ⟨h1.1, h1.2, h2⟩
      have HZ := Lib.hid (said_may hm)
      have hi2 : ((s.size : Int) != 32) = false := by rw [h2]; rfl
      have HU := Lib.hid (put_any n 4 W1 (by omega))
      have hz := put4_size h1.1 h1.2
      obtain ⟨A, hA⟩ : ∃ A, putS n 4 = A := ⟨_, rfl⟩
      have hz2 : ¬ 9223372036854775807 < A.size + s.size := by rw [← hA, hz, h2]; decide
      rw [show (putS (n, s).1 4 ++ (n, s).2) = A ++ s by rw [← hA]] at HZ
      rw [hA] at HU
      clear h1 h2 hm hz hA
      go_enter Try.func59, Try.ntmps59
      go_wp2_with fail
      refine HP.out.mono ?_
      rintro e w2 ⟨rfl, hw⟩
      rw [hw]
      clear hw
      go_wp2_with fail
      refine HU.out.mono ?_
      rintro e w3 ⟨rfl, hb⟩
      obtain ⟨d0, d1⟩ : w3.cell? ⟨w.heap.size, 0, none⟩ = some (.int .i64 n) ∧ w3.cell? ⟨w.heap.size, 1, none⟩ = some (.string s) := by
        have k := (hb.block _ (lt_of_block H1.out.2)).trans H1.out.2
        exact ⟨by rw [cell_of_row w3 _ 0 _ _ _ k]; rfl, by rw [cell_of_row w3 _ 1 _ _ _ k]; rfl⟩
      have H3 := Lib.hid (H1.out.1.trans (hb.mono H1.out.1.size))
      clear hb c0 c1
      go_wp2
      exact HR.out _ _ ⟨by rw [HZ.out]; rfl, H3.out⟩
    · have hm : ¬ mayLeaf (n, s) := fun h => h2 h.2.2
      have HZ := Lib.hid (said_no hm)
      have hi2 : ((s.size : Int) != 32) = true := by rw [bne_iff_ne]; omega
      clear h1 h2 hm
      go_enter Try.func59, Try.ntmps59
      go_wp2_with fail
      refine HP.out.mono ?_
      rintro e w2 ⟨rfl, hw⟩
      rw [hw]
      clear hw
      go_wp2
      exact HR.out _ _ ⟨by rw [HZ.out]; rfl, H1.out.1⟩
  · have hm : ¬ mayLeaf (n, s) := fun h => h1 ⟨h.1, h.2.1⟩
    have HZ := Lib.hid (said_no hm)
    have hp := place_any n W1
    rw [decide_eq_false h1] at hp
    have HP := Lib.hid hp
    clear hp h1 hm
    go_enter Try.func59, Try.ntmps59
    go_wp2_with fail
    refine HP.out.mono ?_
    rintro e w2 ⟨rfl, hw⟩
    rw [hw]
    clear hw
    go_wp2
    exact HR.out _ _ ⟨by rw [HZ.out]; rfl, H1.out.1⟩
set_option maxRecDepth 100000 in
theorem hash_any (x : LeafT) (w : World) : Calls Try.prog 62 #[leafV x] w fun e w' => e = .returned (.string (hashS x)) ∧ Below w.heap.size w w' := by
  refine calls_by fun R HR => ?_
  have HS := Lib.hid (fun w => said_any x w)
  have HL := Lib.hid (fun w => leaf_any (saidS x) w (by have := said_le x; omega))
  rw [show leafS (saidS x) = hashS x from rfl] at HL
  generalize saidS x = sx at *
  generalize hashS x = hx at *
  obtain ⟨n, s⟩ := x
  obtain ⟨W1, hW1⟩ : ∃ W1, w.alloc (.cells #[.int .i64 n, .string s] 45) = W1 := ⟨_, rfl⟩
  have b1 : Below w.heap.size w W1 := by rw [← hW1]; exact alloc_below w _
  have n1 : W1.heap[w.heap.size]? = some (.cells #[.int .i64 n, .string s] 45 (0, 0)) := by rw [← hW1]; exact alloc_new w _
  have c0 : W1.cell? ⟨w.heap.size, 0, none⟩ = some (.int .i64 n) := by rw [cell_of_row W1 _ 0 _ _ _ n1]; rfl
  have c1 : W1.cell? ⟨w.heap.size, 1, none⟩ = some (.string s) := by rw [cell_of_row W1 _ 1 _ _ _ n1]; rfl
  have H1 := Lib.hid b1
  clear b1 n1
  go_enter Try.func62, Try.ntmps62
  go_wp2_with fail
  refine (HS.out _).mono ?_
  rintro e w2 ⟨rfl, hb⟩
  have H2 := Lib.hid (H1.out.trans (hb.mono H1.out.size))
  clear hb c0 c1
  go_wp2_with fail
  refine (HL.out _).mono ?_
  rintro e w3 ⟨rfl, hb⟩
  have H3 := Lib.hid (H2.out.trans (hb.mono H2.out.size))
  clear hb
  go_wp2
  exact HR.out _ _ ⟨rfl, H3.out⟩
theorem not_blank {a : ByteArray} (h : a ≠ ⟨#[]⟩) : (a.toList.isEmpty) = false := by
  rw [ByteArray.toList_eq]
  rcases a with ⟨⟨l⟩⟩
  cases l with
  | nil => exact absurd rfl h
  | cons x l => rfl
set_option maxRecDepth 100000 in
set_option maxHeartbeats 4000000 in
theorem right_any (lv : Value) (l : List LeafT) (w : World) (hl : Rd leafE w lv l) (hlen : l.length ≤ 1000000) :
    Calls Try.prog 38 #[lv] w fun e w' => e = .returned (.int .i64 (if rightB l = true then 0 else 2)) ∧ Below w.heap.size w w' := by
  refine calls_by fun R HR => ?_
  have HL := Lib.hid hl
  obtain ⟨a, cap, rfl, hcap, -⟩ := hl.shape
  have hli : (l.length : Int) ≤ 1000000 := by omega
  clear hl hcap
  go_enter Try.func38, Try.ntmps38
  go_wp2_with fail
  go_loopw [3, 8] (fun v i wx => ∃ (k : Nat) (was : Int), k ≤ l.length ∧ i = .int .i64 k ∧ v = .int .i64 was ∧ Hid (rightFrom was (l.drop k) = rightB l ∧ Below w.heap.size w wx)) (fun _ i _ => l.length - (intOf i).toNat)
  case atStart => exact ⟨0, -1, Nat.zero_le _, rfl, rfl, Lib.hid ⟨rfl, Below.refl _ _⟩⟩
  case round =>
    obtain ⟨k, was, hk, rfl, rfl, hN⟩ := hrel
    by_cases hlt : k < l.length
    · have hki : (k : Int) < (l.length : Int) := by omega
      obtain ⟨x, hx⟩ : ∃ x, l[k]? = some x := ⟨_, List.getElem?_eq_getElem hlt⟩
      obtain ⟨b, o, ha, hb0, dd⟩ := (HL.out.below hN.out.2).at k x hx
      subst ha
      have hdr : l.drop k = x :: l.drop (k + 1) := by
        rw [List.drop_eq_getElem_cons hlt]
        congr 1
        exact (List.getElem?_eq_some_iff.1 hx).2
      have HX := Lib.hid (show rightB l = (decide (was < x.1 ∧ mayLeaf x) && rightFrom x.1 (l.drop (k + 1))) by rw [← hN.out.1, hdr, rightFrom])
      have HS := Lib.hid (fun w => said_any x w)
      have hmx := @said_ne x
      generalize saidS x = sx at *
      obtain ⟨n, s⟩ := x
      have d0 : wr.cell? ⟨b, o + k * 2, none⟩ = some (.int .i64 n) := dd 0 _ rfl
      have d1 : wr.cell? ⟨b, o + k * 2 + 1, none⟩ = some (.string s) := dd 1 _ rfl
      obtain ⟨W1, hW1⟩ : ∃ W1, wr.alloc (.cells #[.int .i64 n, .string s] 45) = W1 := ⟨_, rfl⟩
      have b1 : Below wr.heap.size wr W1 := by rw [← hW1]; exact alloc_below wr _
      have n1 : W1.heap[wr.heap.size]? = some (.cells #[.int .i64 n, .string s] 45 (0, 0)) := by rw [← hW1]; exact alloc_new wr _
      have c0 : W1.cell? ⟨wr.heap.size, 0, none⟩ = some (.int .i64 n) := by rw [cell_of_row W1 _ 0 _ _ _ n1]; rfl
      have c1 : W1.cell? ⟨wr.heap.size, 1, none⟩ = some (.string s) := by rw [cell_of_row W1 _ 1 _ _ _ n1]; rfl
      have H1 := Lib.hid (And.intro (hN.out.2.trans (b1.mono hN.out.2.size)) n1)
      clear b1 n1 dd hx hdr hb0
      by_cases hle : n ≤ was
      · have HZ := Lib.hid (show (if rightB l = true then (0 : Int) else 2) = 2 by rw [HX.out, decide_eq_false (fun h => by have := h.1; omega)]; rfl)
        go_wp2
        exact HR.out _ _ ⟨by rw [HZ.out], H1.out.1⟩
      · by_cases hm : mayLeaf (n, s)
        · have hsx := not_blank (hmx.2 hm)
          have HZ := Lib.hid (show rightB l = rightFrom n (l.drop (k + 1)) by rw [HX.out, decide_eq_true ⟨by show was < n; omega, hm⟩]; rfl)
          clear hmx hm
          go_wp2_with fail
          refine (HS.out _).mono ?_
          rintro e w3 ⟨rfl, hb⟩
          have k3 := (hb.block _ (lt_of_block H1.out.2)).trans H1.out.2
          have e0 : w3.cell? ⟨wr.heap.size, 0, none⟩ = some (.int .i64 n) := by rw [cell_of_row w3 _ 0 _ _ _ k3]; rfl
          have H3 := Lib.hid (H1.out.1.trans (hb.mono H1.out.1.size))
          clear hb k3 c0 c1 d0 d1 hW1
          go_wp2_with fail
          go_roundw
          case rel => exact ⟨k + 1, n, by omega, by go_num, rfl, Lib.hid ⟨HZ.out.symm, H3.out⟩⟩
          case measure => simp [intOf]; omega
        · have hsx : sx = ⟨#[]⟩ := Classical.byContradiction fun h => hm (hmx.1 h)
          have HZ := Lib.hid (show (if rightB l = true then (0 : Int) else 2) = 2 by rw [HX.out, decide_eq_false (fun h => hm h.2)]; rfl)
          subst hsx
          clear hmx hm
          go_wp2_with fail
          refine (HS.out _).mono ?_
          rintro e w3 ⟨rfl, hb⟩
          have H3 := Lib.hid (H1.out.1.trans (hb.mono H1.out.1.size))
          clear hb c0 c1 d0 d1 hW1
          go_wp2
          exact HR.out _ _ ⟨by rw [HZ.out]; rfl, H3.out⟩
    · obtain rfl : k = l.length := by omega
      have HZ := Lib.hid (show (if rightB l = true then (0 : Int) else 2) = 0 by rw [← hN.out.1, List.drop_length]; rfl)
      have hki : ¬ (l.length : Int) < (l.length : Int) := by omega
      go_wp2
      exact HR.out _ _ ⟨by rw [HZ.out], hN.out.2⟩
theorem hash_take (l : List LeafT) (k : Nat) (x : LeafT) (h : l[k]? = some x) : hashL (l.take (k + 1)) = hashL (l.take k) ++ [hashS x] := by
  rw [List.take_add_one, h]
  simp [hashL]
set_option maxRecDepth 100000 in
set_option maxHeartbeats 4000000 in
theorem hashes_any (lv : Value) (l : List LeafT) (w : World) (hl : Rd leafE w lv l) (hlen : l.length ≤ 1000000) :
    Calls Try.prog 40 #[lv] w fun e w' => ∃ v, e = .returned v ∧ Row strE w' w.heap.size 9 v (hashL l) ∧ Below w.heap.size w w' := by
  refine calls_by fun R HR => ?_
  have HL := Lib.hid hl
  obtain ⟨a, cap, rfl, hcap, -⟩ := hl.shape
  have hli : (l.length : Int) ≤ 1000000 := by omega
  clear hl hcap
  go_enter Try.func40, Try.ntmps40
  go_wp2_with fail
  go_loopw [3, 8] (fun v i wx => ∃ (k : Nat), k ≤ l.length ∧ i = .int .i64 k ∧ Hid (Row strE wx w.heap.size 9 v (hashL (l.take k)) ∧ Below w.heap.size w wx)) (fun _ i _ => l.length - (intOf i).toNat)
  case atStart => exact ⟨0, Nat.zero_le _, rfl, Lib.hid ⟨Row.nil _ _ _, Below.refl _ _⟩⟩
  case round =>
    obtain ⟨k, hk, rfl, hN⟩ := hrel
    by_cases hlt : k < l.length
    · have hki : (k : Int) < (l.length : Int) := by omega
      obtain ⟨x, hx⟩ : ∃ x, l[k]? = some x := ⟨_, List.getElem?_eq_getElem hlt⟩
      obtain ⟨b, o, ha, hb0, dd⟩ := (HL.out.below hN.out.2).at k x hx
      subst ha
      have HX := Lib.hid (hash_take l k x hx)
      have HK := Lib.hid (show (hashL (l.take k)).length ≤ 1000000 by rw [hashL_length, List.length_take]; omega)
      have HS := Lib.hid (fun w => hash_any x w)
      generalize hashS x = sx at *
      obtain ⟨n, s⟩ := x
      have d0 : wr.cell? ⟨b, o + k * 2, none⟩ = some (.int .i64 n) := dd 0 _ rfl
      have d1 : wr.cell? ⟨b, o + k * 2 + 1, none⟩ = some (.string s) := dd 1 _ rfl
      obtain ⟨W1, hW1⟩ : ∃ W1, wr.alloc (.cells #[.int .i64 n, .string s] 45) = W1 := ⟨_, rfl⟩
      have b1 : Below wr.heap.size wr W1 := by rw [← hW1]; exact alloc_below wr _
      have n1 : W1.heap[wr.heap.size]? = some (.cells #[.int .i64 n, .string s] 45 (0, 0)) := by rw [← hW1]; exact alloc_new wr _
      have c0 : W1.cell? ⟨wr.heap.size, 0, none⟩ = some (.int .i64 n) := by rw [cell_of_row W1 _ 0 _ _ _ n1]; rfl
      have c1 : W1.cell? ⟨wr.heap.size, 1, none⟩ = some (.string s) := by rw [cell_of_row W1 _ 1 _ _ _ n1]; rfl
      have H1 := Lib.hid (And.intro (hN.out.2.trans (b1.mono hN.out.2.size)) (hN.out.1.below b1))
      clear b1 n1 dd hx hb0
      go_wp2_with fail
      refine (HS.out _).mono ?_
      rintro e w3 ⟨rfl, hb⟩
      obtain ⟨W4, hW4⟩ : ∃ W4, w3.alloc (.cells #[.string sx] 9) = W4 := ⟨_, rfl⟩
      have hb4 : Below w3.heap.size w3 W4 := by rw [← hW4]; exact alloc_below _ _
      have hr4 : Rd strE W4 (.slice (some ⟨w3.heap.size, 0, none⟩) 1 1) [sx] := by rw [← hW4]; exact Rd.single (E := strE) sx (alloc_new _ _) rfl
      have H4 := Lib.hid (And.intro ((H1.out.1.trans (hb.mono H1.out.1.size)).trans (hb4.mono (Nat.le_trans H1.out.1.size hb.size))) (And.intro hr4 ((H1.out.2.below hb).below hb4)))
      clear hb c0 c1 d0 d1 hW1 hb4 hr4
      go_wp2_with (at_builtin; refine wpList_append_row _ rfl _ _ 42 rfl strT w.heap.size _ _ (hashL (l.take k)) [sx] rfl rfl H4.out.2.2 H4.out.2.1 H4.out.1.size (by have := HK.out; simp; omega) (by decide) ?_)
      intro r5 w5 hG
      have HG := Lib.hid (And.intro hG.1 (hG.below H4.out.1 H4.out.1.size (fun b e => (H4.out.2.2.lt e).1)))
      clear hG hW4
      go_wp2_with fail
      go_roundw
      case rel => exact ⟨k + 1, by omega, by go_num, Lib.hid ⟨by rw [HX.out]; exact HG.out.1, HG.out.2⟩⟩
      case measure => simp [intOf]; omega
    · obtain rfl : k = l.length := by omega
      have hki : ¬ (l.length : Int) < (l.length : Int) := by omega
      have HN := Lib.hid (show Row strE wr w.heap.size 9 u3 (hashL l) by have := hN.out.1; rwa [List.take_length] at this)
      go_wp2
      exact HR.out _ _ ⟨_, rfl, HN.out, hN.out.2⟩
end Go.Proofs.Ytdbabkkmdlkjaaa
