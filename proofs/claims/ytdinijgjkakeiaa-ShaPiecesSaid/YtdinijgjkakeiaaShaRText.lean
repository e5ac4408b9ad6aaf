/- The reference's Text, Of, Step. -/
import Derived.Test.YtdinijgjkakeiaaShaRStep
import Derived.Test.YtdinijgjkakeiaaOctetRPut
namespace Ks
open Go Go.RowKit
set_option linter.unusedVariables false
theorem num4_cut32 (s : ByteArray) (k : Nat) : getN (s.extract (4 * k) (4 * k + 4)).data.toList = num4 s.data.toList k := by
  rw [num4]
  congr 1
  rw [ByteArray.data_extract, Array.toList_extract, List.extract_eq_take_drop]
  rw [show 4 * k + 4 - 4 * k = 4 by omega]
/-- the state of 32 bytes -/
def ofL (t : List UInt8) : St := ⟨num4 t 0, num4 t 1, num4 t 2, num4 t 3, num4 t 4, num4 t 5, num4 t 6, num4 t 7⟩
theorem ofL_ok (t : List UInt8) : (ofL t).ok := ⟨num4_lt _ _, num4_lt _ _, num4_lt _ _, num4_lt _ _, num4_lt _ _, num4_lt _ _, num4_lt _ _, num4_lt _ _⟩
def ofTo (t : List UInt8) (k : Nat) : List Nat := (List.range 8).map fun i => if i < k then num4 t i else 0
theorem ofTo_length (t : List UInt8) (k : Nat) : (ofTo t k).length = 8 := by simp [ofTo]
theorem ofTo_all (t : List UInt8) : ofTo t 8 = (ofL t).list := rfl
theorem ofTo_set (t : List UInt8) (k : Nat) (hk : k < 8) : (ofTo t k).set k (num4 t k) = ofTo t (k + 1) := by
  refine List.ext_getElem (by simp [ofTo]) fun i h1 h2 => ?_
  rw [List.getElem_set]
  simp only [ofTo, List.getElem_map, List.getElem_range]
  by_cases e : k = i
  · subst e; simp
  · rw [if_neg e]
    by_cases h : i < k
    · rw [if_pos h, if_pos (by omega)]
    · rw [if_neg h, if_neg (by omega)]
end Ks
namespace Go.Proofs.Ytdinijgjkakeiaa
open Go.RowKit Ks
set_option linter.unusedVariables false

theorem rput4 (n : Nat) (w : World) (h : n < 4294967296) :
    Calls Try.prog 40 #[.int .i64 n, .int .i64 4] w fun e w' => e = .returned (.tuple #[.string ⟨(putL 4 n).toArray⟩, .int .i64 0]) ∧ Below w.heap.size w w' :=
  (rput_ok n 4 w (by decide) (by decide) (by omega)).mono fun e w' ⟨h1, _, h2⟩ => ⟨h1 (Nat.div_eq_of_lt (by rw [show (256 : Nat) ^ 4 = 4294967296 from by decide]; exact h)), h2⟩

set_option maxHeartbeats 1000000 in
theorem rtext_any (s : St) (w : World) (hs : s.ok) : Calls Try.prog 19 #[.agg (i64s s.list)] w fun e w' => e = .returned (.string ⟨(textL s).toArray⟩) ∧ Below w.heap.size w w' := by
  refine calls_by fun R HR => ?_
  obtain ⟨C, hC⟩ : ∃ C, i64s s.list = C := ⟨_, rfl⟩
  rw [hC]
  have HC := Lib.hid hC
  clear hC
  go_enter Try.func19, Try.ntmps19
  go_wp2_with fail
  have HF := Lib.hid (And.intro (show NumsI (w.alloc (.cells C 37)) w.heap.size 37 s.list by rw [← HC.out]; exact NumsI.new _ _ _) (alloc_below w (.cells C 37)))
  generalize w.alloc (.cells C 37) = W at *
  go_loopw [3, 4] (fun v i wx => ∃ k, k ≤ 8 ∧ i = .int .i64 (k : Nat) ∧ v = .string ⟨(textTo s k).toArray⟩ ∧ Hid (NumsI wx w.heap.size 37 s.list ∧ Below w.heap.size w wx)) (fun _ i _ => 8 - (intOf i).toNat)
  case atStart => exact ⟨0, by omega, rfl, rfl, HF⟩
  case round =>
    obtain ⟨k, hk, rfl, rfl, hN⟩ := hrel
    by_cases hlt : k < 8
    · have hts := textTo_succ s k hlt
      obtain ⟨n, hn⟩ : ∃ n, s.list.getD k 0 = n := ⟨_, rfl⟩
      have hn1 : n < 4294967296 := by rw [← hn]; exact st_lt hs k
      have ck := hN.out.1.cell k hlt
      rw [hn] at ck hts
      have HTS := Lib.hid hts
      have HL := Lib.hid hn1
      have HS := Lib.hid hs
      clear hn hn1 hts hs
      go_wp2_with fail
      refine (rput4 n _ HL.out).mono ?_
      rintro e w1 ⟨rfl, hb⟩
      have HM := Lib.hid (And.intro (hN.out.1.keep hb) (hN.out.2.trans (hb.mono hN.out.2.size)))
      clear hb hN ck
      have hAB : (textTo s k).length + (putL 4 n).length ≤ 9223372036854775807 := by rw [textTo_length s k hk, putL_length]; omega
      generalize textTo s k = A at *
      generalize putL 4 n = B at *
      go_wp2_with fail
      go_round
      case rel => exact ⟨k + 1, by omega, by go_num, by rw [HTS.out]; simp [ByteArray.mk_append_mk], HM⟩
      case measure => simp [intOf]; omega
    · obtain rfl : k = 8 := by omega
      have HM := Lib.hid hN.out.2
      clear hN HF
      go_wp2
      exact HR.out _ _ ⟨by rw [textTo_all]; rfl, HM.out⟩

set_option maxHeartbeats 1000000 in
theorem rof_any (s : ByteArray) (w : World) (h : s.size = 32) : Calls Try.prog 36 #[.string s] w fun e w' => e = .returned (.agg (i64s (ofL s.data.toList).list)) ∧ Below w.heap.size w w' := by
  refine calls_by fun R HR => ?_
  go_enter Try.func36, Try.ntmps36
  go_wp2_with fail
  obtain ⟨W, hW⟩ : ∃ W, (w.alloc (.cells (i64s (List.replicate 8 0)) 37)).alloc (.cells (i64s (List.replicate 8 0)) 37) = W := ⟨_, rfl⟩
  have k2 : NumsI W w.heap.size 37 (List.replicate 8 0) := ⟨by rw [← hW]; exact blk_keep (alloc_new _ _) _⟩
  have k3 : NumsI W (w.heap.size + 1) 37 (List.replicate 8 0) := ⟨by rw [← hW, ← World.size_alloc (w := w) (o := .cells (i64s (List.replicate 8 0)) 37)]; exact alloc_new _ _⟩
  have kb : Below w.heap.size w W := by rw [← hW]; exact (alloc_below w _).alloc (by simp) _
  change Code.wp _ _ _ _ ((w.alloc (.cells (i64s (List.replicate 8 0)) 37)).alloc (.cells (i64s (List.replicate 8 0)) 37))
  rw [hW]
  have HF := Lib.hid (And.intro k3 (And.intro k2 kb))
  clear hW k2 k3 kb
  go_loopw [4] (fun i wx => ∃ k, k ≤ 8 ∧ i = .int .i64 (k : Nat) ∧ Hid (NumsI wx (w.heap.size + 1) 37 (ofTo s.data.toList k) ∧ NumsI wx w.heap.size 37 (List.replicate 8 0) ∧ Below w.heap.size w wx)) (fun i _ => 8 - (intOf i).toNat)
  case atStart => exact ⟨0, by omega, rfl, HF⟩
  case round =>
    obtain ⟨k, hk, rfl, hN⟩ := hrel
    by_cases hlt : k < 8
    · have hx := Lib.hid (ofTo_set s.data.toList k hlt)
      have hn4 := Lib.hid (num4_cut32 s k)
      have hl4 := Lib.hid (num4_lt s.data.toList k)
      go_wp2_with fail
      refine (rget_ok (s.extract (4 * k) (4 * k + 4)) _ (by rw [ByteArray.size_extract]; omega) (Or.inl (by rw [ByteArray.size_extract]; omega)) (by rw [hn4.out]; have := hl4.out; omega)).mono ?_
      rintro e w1 ⟨rfl, rfl⟩
      rw [hn4.out]
      have f1 := hN.out.1.frozen k
      have c1 := hN.out.1.cell k (by rw [ofTo_length]; exact hlt)
      generalize num4 s.data.toList k = v at *
      go_wp2_with fail
      go_round
      case rel =>
        refine ⟨k + 1, by omega, by go_num, Lib.hid ⟨?_, hN.out.2.1.other _ _ (by omega), hN.out.2.2.setCell (by simp) _⟩⟩
        rw [← hx.out]
        exact hN.out.1.set _ _
      case measure => simp [intOf]; omega
    · obtain rfl : k = 8 := by omega
      have e1 := Lib.hid hN.out.1.blk
      have e2 := Lib.hid hN.out.2.1.blk
      have e3 := Lib.hid hN.out.2.2
      have e4 : Hid ((i64s (ofTo s.data.toList 8)).size = 8) := Lib.hid rfl
      have e5 : Hid (i64s (ofTo s.data.toList 8) = i64s (ofL s.data.toList).list) := Lib.hid rfl
      clear hN hk hlt
      generalize i64s (ofTo s.data.toList 8) = CC at *
      go_wp2_with (first
        | refine wpList_loadA rfl 37 _ rfl _ 37 _ _ 8 8 rfl e1.out Try.underlying37 (by kernel_rfl) e4.out ?_
        | refine wpList_storeA rfl 37 _ _ rfl _ 37 _ _ 8 rfl rfl e2.out (by kernel_rfl) e4.out rfl (by rw [e5.out]; exact i64s_one _) ?_)
      exact ret_arr (N := 8) (C := CC) Try.results36 rfl (setRow_heap _ _ _ _ _ _ e2.out) Try.underlying37 (by kernel_rfl) e4.out rfl (HR.out _ _ ⟨by rw [e5.out], below_setRow e3.out (Nat.le_refl _) _⟩)

set_option maxHeartbeats 1000000 in
theorem rstep_any (s b : ByteArray) (w : World) (h : s.size = 32) (hb : b.size = 64) : Calls Try.prog 16 #[.string s, .string b] w fun e w' => e = .returned (.string ⟨(textL (turnN (ofL s.data.toList) b.data.toList)).toArray⟩) ∧ Below w.heap.size w w' := by
  refine calls_by fun R HR => ?_
  go_enter Try.func16, Try.ntmps16
  go_wp2_with fail
  refine (rof_any s _ h).mono ?_
  rintro e w1 ⟨rfl, hb1⟩
  have HB1 := Lib.hid hb1
  clear hb1
  go_wp2_with fail
  refine (rounds_any _).mono ?_
  rintro e w2 ⟨rfl, hb1⟩
  have HB2 := Lib.hid (HB1.out.trans (hb1.mono HB1.out.size))
  clear hb1 HB1
  go_wp2_with fail
  refine (step_any (ofL s.data.toList) b _ (ofL_ok _) hb).mono ?_
  rintro e w3 ⟨rfl, hb1⟩
  have HB3 := Lib.hid (HB2.out.trans (hb1.mono HB2.out.size))
  clear hb1 HB2
  go_wp2_with fail
  refine (rtext_any (turnN (ofL s.data.toList) b.data.toList) _ (turnN_ok _ _)).mono ?_
  rintro e w4 ⟨rfl, hb1⟩
  have HB4 := Lib.hid (HB3.out.trans (hb1.mono HB3.out.size))
  clear hb1 HB3
  go_wp2
  exact HR.out _ _ ⟨rfl, HB4.out⟩
end Go.Proofs.Ytdinijgjkakeiaa
