/- The program's step: of 32 and 64 bytes, and of others. A hash that is none. -/
import Derived.Test.YtdinijgjkakeiaaShaHash2
namespace Ks
open Go Go.RowKit
set_option linter.unusedVariables false
theorem num4_rest (s : ByteArray) (k : Nat) (h : s.size = 32) : getN ((s.extract (4 * k) 32).data.toList.take 4) = num4 s.data.toList k := by
  have hl : s.data.toList.length = 32 := by rw [data_length, h]
  rw [num4]
  congr 2
  rw [ByteArray.data_extract, Array.toList_extract, List.extract_eq_take_drop]
  rw [List.take_of_length_le]
  rw [List.length_drop]; omega
/-- a hash that is none, or that no call made -/
def DeadHash (w : World) (TN : TypeId) (v : Value) : Prop := v = .pointer none ∨ ∃ b, v = .pointer (some ⟨b, 0, none⟩) ∧ w.cell? ⟨b, 0, none⟩ = some (.bool false)
end Ks
namespace Go.Proofs.Ytdinijgjkakeiaa
open Go.RowKit Ks
set_option linter.unusedVariables false

set_option maxHeartbeats 1000000 in
theorem pstep_any (s bl : ByteArray) (w : World) (h : s.size = 32) (hb : bl.size = 64) : Calls Try.prog 12 #[.string s, .string bl] w fun e w' => e = .returned (.tuple #[.string ⟨(textL (turnN (ofL s.data.toList) bl.data.toList)).toArray⟩, .int .i64 0]) ∧ Below w.heap.size w w' := by
  refine calls_by fun R HR => ?_
  have h1 : ((s.size : Int) != 32) = false := by rw [h]; rfl
  have h2 : ((bl.size : Int) != 64) = false := by rw [hb]; rfl
  have h3 : ((s.size : Int) == 32) = true := by rw [h]; rfl
  have h4 : ((bl.size : Int) == 64) = true := by rw [hb]; rfl
  have Hs := Lib.hid h
  have hs : (s.size : Int) ≤ 32 ∧ 32 ≤ (s.size : Int) := by omega
  obtain ⟨hs1, hs2⟩ := hs
  have Hb := Lib.hid hb
  clear h hb
  go_enter Try.func12, Try.ntmps12
  go_wp2_with fail
  have HF := Lib.hid (And.intro (Nums.new w 49 (List.replicate 8 0)) (alloc_below w (.cells (u32s (List.replicate 8 0)) 49)))
  change Code.wp _ _ _ _ (w.alloc (.cells (u32s (List.replicate 8 0)) 49))
  generalize w.alloc (.cells (u32s (List.replicate 8 0)) 49) = W at *
  go_loopw [16] (fun i wx => ∃ k, k ≤ 8 ∧ i = .int .i64 (k : Nat) ∧ Hid (Nums wx w.heap.size 49 (ofTo s.data.toList k) ∧ Below w.heap.size w wx)) (fun i _ => 8 - (intOf i).toNat)
  case atStart => exact ⟨0, by omega, rfl, HF⟩
  case round =>
    obtain ⟨k, hk, rfl, hN⟩ := hrel
    by_cases hlt : k < 8
    · have hx := Lib.hid (ofTo_set s.data.toList k hlt)
      have hn4 := Lib.hid (num4_rest s k Hs.out)
      obtain ⟨B, hB⟩ : ∃ B, s.extract (4 * k) s.size = B := ⟨_, rfl⟩
      have hB2 : B = s.extract (4 * k) 32 := by rw [← hB, Hs.out]
      have hBz : 4 ≤ B.size := by rw [← hB, ByteArray.size_extract, Hs.out]; omega
      have HB := Lib.hid hB
      have HB2 := Lib.hid hB2
      clear hB hB2
      go_wp2_with fail
      rw [HB.out]
      refine (number_any B _ hBz).mono ?_
      rintro e w1 ⟨rfl, hb1⟩
      rw [HB2.out, hn4.out]
      have HM := Lib.hid (And.intro (hN.out.1.keep hb1) (hN.out.2.trans (hb1.mono hN.out.2.size)))
      have f1 := HM.out.1.frozen k
      have c1 := HM.out.1.cell k (by rw [ofTo_length]; exact hlt)
      clear hb1 hN hn4 HB HB2 hBz
      generalize num4 s.data.toList k = v at *
      go_wp2_with fail
      go_round
      case rel =>
        refine ⟨k + 1, by omega, by go_num, Lib.hid ⟨?_, HM.out.2.setCell (by simp) _⟩⟩
        rw [← hx.out]
        exact HM.out.1.set _ _
      case measure => simp [intOf]; omega
    · obtain rfl : k = 8 := by omega
      have e1 := Lib.hid hN.out.1.blk
      have e3 := Lib.hid hN.out.2
      have e4 : Hid ((u32s (ofTo s.data.toList 8)).size = 8) := Lib.hid rfl
      have e5 : Hid (u32s (ofTo s.data.toList 8) = u32s (ofL s.data.toList).list) := Lib.hid rfl
      clear hN hk hlt HF
      generalize u32s (ofTo s.data.toList 8) = CC at *
      go_wp2_with (refine wpList_loadA rfl 49 (.tmp 6) rfl _ 49 _ _ 8 8 rfl e1.out Try.underlying49 (by kernel_rfl) e4.out ?_)
      rw [e5.out]
      refine (turned_any (ofL s.data.toList) bl _ (ofL_ok _) Hb.out).mono ?_
      rintro e w1 ⟨rfl, hb1⟩
      have HM := Lib.hid (e3.out.trans (hb1.mono e3.out.size))
      clear hb1
      go_wp2_with fail
      refine (text_any (turnN (ofL s.data.toList) bl.data.toList) _ (turnN_ok _ _)).mono ?_
      rintro e w2 ⟨rfl, hb1⟩
      have HM2 := Lib.hid (HM.out.trans (hb1.mono HM.out.size))
      clear hb1
      go_wp2
      exact HR.out _ _ ⟨rfl, HM2.out⟩
theorem pstep_err (s bl : ByteArray) (w : World) (h : s.size ≠ 32 ∨ bl.size ≠ 64) : Calls Try.prog 12 #[.string s, .string bl] w fun e w' => e = .returned (.tuple #[.string ⟨#[]⟩, .int .i64 2]) ∧ w' = w := by
  rcases Classical.em (s.size = 32) with h1 | h1
  · have h2 : ((bl.size : Int) != 64) = true := by rw [bne_iff_ne]; omega
    have h3 : ((s.size : Int) != 32) = false := by rw [h1]; rfl
    clear h h1
    go_enter Try.func12, Try.ntmps12
    go_wp2
    go_ret2
    exact ⟨rfl, rfl⟩
  · have h3 : ((s.size : Int) != 32) = true := by rw [bne_iff_ne]; omega
    clear h h1
    go_enter Try.func12, Try.ntmps12
    go_wp2
    go_ret2
    exact ⟨rfl, rfl⟩

theorem there_no (v : Value) (w : World) (hv : DeadHash w 51 v) :
    Calls Try.prog 41 #[v] w fun e w' => e = .returned (.bool false) ∧ w' = w := by
  rcases hv with rfl | ⟨b, rfl, h0⟩
  all_goals
    go_enter Try.func41, Try.ntmps41
    go_wp2
    go_ret
    exact ⟨rfl, rfl⟩
theorem hput_no (v : Value) (s : ByteArray) (w : World) (hv : DeadHash w 51 v) :
    Calls Try.prog 24 #[v, .string s] w fun e w' => e = .returned (.int .i64 1) ∧ w' = w := by
  have HT := Lib.hid (there_no v w hv)
  go_enter Try.func24, Try.ntmps24
  go_wp2_with fail
  refine HT.out.mono ?_
  rintro e w1 ⟨rfl, rfl⟩
  go_wp2
  go_ret
  exact ⟨rfl, rfl⟩
theorem hsum_no (v : Value) (w : World) (hv : DeadHash w 51 v) :
    Calls Try.prog 25 #[v] w fun e w' => e = .returned (.string ⟨#[]⟩) ∧ w' = w := by
  have HT := Lib.hid (there_no v w hv)
  go_enter Try.func25, Try.ntmps25
  go_wp2_with fail
  refine HT.out.mono ?_
  rintro e w1 ⟨rfl, rfl⟩
  go_wp2
  go_ret
  exact ⟨rfl, rfl⟩
theorem hlen_no (v : Value) (w : World) (hv : DeadHash w 51 v) :
    Calls Try.prog 27 #[v] w fun e w' => e = .returned (.int .i64 0) ∧ w' = w := by
  have HT := Lib.hid (there_no v w hv)
  go_enter Try.func27, Try.ntmps27
  go_wp2_with fail
  refine HT.out.mono ?_
  rintro e w1 ⟨rfl, rfl⟩
  go_wp2
  go_ret
  exact ⟨rfl, rfl⟩
theorem hcopy_no (v : Value) (w : World) (hv : DeadHash w 51 v) :
    Calls Try.prog 26 #[v] w fun e w' => e = .returned (.pointer none) ∧ w' = w := by
  have HT := Lib.hid (there_no v w hv)
  go_enter Try.func26, Try.ntmps26
  go_wp2_with fail
  refine HT.out.mono ?_
  rintro e w1 ⟨rfl, rfl⟩
  go_wp2
  go_ret
  exact ⟨rfl, rfl⟩
end Go.Proofs.Ytdinijgjkakeiaa
