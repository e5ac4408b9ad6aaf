/- The program's hash: what is put, its sum. -/
import Derived.Test.YtophfeapmmfppaaShaTurned
import Derived.Test.YtophfeapmmfppaaShaFold
import Derived.Test.YtophfeapmmfppaaBlkRow
import Derived.Test.YtophfeapmmfppaaOctetPut
import Derived.Test.YtophfeapmmfppaaTextPlain
import Derived.Test.YtophfeapmmfppaaShelf
namespace Ks
open Go Go.RowKit
set_option linter.unusedVariables false
/-- a hash's cells -/
def hashC (s : St) (r : ByteArray) (n : Nat) : Array Value :=
  #[.bool true, .int .u32 (s.a : Int), .int .u32 (s.b : Int), .int .u32 (s.c : Int), .int .u32 (s.d : Int), .int .u32 (s.e : Int), .int .u32 (s.f : Int), .int .u32 (s.g : Int), .int .u32 (s.h : Int), .string r, .int .i64 (n : Int)]
/-- a hash of what was put -/
def HashAt (w : World) (TN : TypeId) (b : Nat) (T : List UInt8) : Prop :=
  w.heap[b]? = some (.cells (hashC (foldN st0 T) ⟨(restL T).toArray⟩ T.length) TN (0, 0))
theorem HashAt.lt {w : World} {TN : TypeId} {b : Nat} {T : List UInt8} (h : HashAt w TN b T) : b < w.heap.size := lt_of_block h
theorem HashAt.keep {w w' : World} {TN : TypeId} {b : Nat} {T : List UInt8} (h : HashAt w TN b T) (hb : Below w.heap.size w w') : HashAt w' TN b T := (hb.block b h.lt).trans h
/-- only one block is turned -/
def Only (w w' : World) (b : Nat) : Prop := w'.os = w.os ∧ w'.tape = w.tape ∧ w'.output = w.output ∧ w.heap.size ≤ w'.heap.size ∧ ∀ k, k < w.heap.size → k ≠ b → w'.heap[k]? = w.heap[k]?
theorem Only.of_below {w w' : World} (b : Nat) (h : Below w.heap.size w w') : Only w w' b := ⟨h.os, h.tape, h.output, h.size, fun k hk _ => h.block k hk⟩
theorem Only.refl (w : World) (b : Nat) : Only w w b := Only.of_below b (Below.refl _ _)
theorem Only.trans {w w1 w2 : World} {b : Nat} (h : Only w w1 b) (g : Only w1 w2 b) : Only w w2 b :=
  ⟨g.1.trans h.1, g.2.1.trans h.2.1, g.2.2.1.trans h.2.2.1, Nat.le_trans h.2.2.2.1 g.2.2.2.1, fun k hk hb => (g.2.2.2.2 k (Nat.lt_of_lt_of_le hk h.2.2.2.1) hb).trans (h.2.2.2.2 k hk hb)⟩
theorem Only.below {w w' : World} {b B : Nat} (h : Only w w' b) (hb : B ≤ b) (hB : B ≤ w.heap.size) : Below B w w' := ⟨h.1, h.2.1, h.2.2.1, h.2.2.2.1, fun k hk => h.2.2.2.2 k (by omega) (by omega)⟩
theorem Only.row (w : World) (b : Nat) (C : Array Value) : Only w (w.setRow b C) b := ⟨rfl, rfl, rfl, by simp, fun k _ hb => setRow_other w b k C hb⟩
theorem Only.cell (w : World) (b o : Nat) (v : Value) : Only w (w.setCell ⟨b, o, none⟩ v) b :=
  have h : Below 0 w (w.setCell ⟨b, o, none⟩ v) := (Below.refl 0 w).setCell (Nat.zero_le _) v
  ⟨h.os, h.tape, h.output, by simp, fun k _ hb => set_ne v hb⟩
theorem Only.blk {w w' : World} {b k : Nat} {o : Obj} (h : Only w w' b) (hk : w.heap[k]? = some o) (hb : k ≠ b) : w'.heap[k]? = some o := (h.2.2.2.2 k (lt_of_block hk) hb).trans hk
theorem hashC_one (y : St) (r : ByteArray) (n : Nat) : (hashC y r n).all (·.oneCell') = true := by simp [hashC, Value.oneCell']
theorem hashC_n (y : St) (r : ByteArray) (n : Nat) (m : Int) (k : Nat) (h : m = (k : Int)) : (hashC y r n).setIfInBounds 10 (.int .i64 m) = hashC y r k := by subst h; rfl
theorem hashC_r (y : St) (r q : ByteArray) (n : Nat) : (hashC y r n).setIfInBounds 9 (.string q) = hashC y q n := rfl
theorem hashC_s (y z : St) (r : ByteArray) (n : Nat) : splice (hashC y r n) 1 (u32s z.list) = hashC z r n := rfl
theorem hashC_l (y : St) (r : ByteArray) (n : Nat) : (hashC y r n).extract 1 (1 + 8) = u32s y.list := rfl
theorem first64 (X : ByteArray) : (X.extract 0 64).data.toList = X.data.toList.take 64 := by
  rw [ByteArray.data_extract, Array.toList_extract, List.extract_eq_take_drop]; rfl
theorem behind64 (X : ByteArray) : (X.extract 64 X.size).data.toList = X.data.toList.drop 64 := by
  rw [ByteArray.data_extract, Array.toList_extract, List.extract_eq_take_drop, List.take_of_length_le]
  rw [List.length_drop, data_length]; omega
end Ks
namespace Go.Proofs.Ytophfeapmmfppaa
open Go.RowKit Ks
set_option linter.unusedVariables false

set_option maxRecDepth 100000 in
set_option maxHeartbeats 1000000 in
theorem pad_any (n : Nat) (w : World) (h : n ≤ 576460752303423488) : Calls Try.prog 42 #[.int .i64 n] w fun e w' => e = .returned (.tuple #[.string ⟨(padL n).toArray⟩, .int .i64 0]) ∧ Below w.heap.size w w' := by
  refine calls_by fun R HR => ?_
  go_enter Try.func42, Try.ntmps42
  go_wp2_with fail
  rw [show (8 * (n : Int)) = ((8 * n : Nat) : Int) by omega, show (63 - ((n : Int) + 8) % 64) = ((63 - (n + 8) % 64 : Nat) : Int) by omega]
  refine (put_ok (8 * n) 8 _ (by decide) (by decide) (by omega) (fun h => by omega)).mono ?_
  rintro e w1 ⟨rfl, hb⟩
  have HB := Lib.hid hb
  have hp : (padL n) = 128 :: (List.replicate (63 - (n + 8) % 64) 0 ++ putL 8 (8 * n)) := rfl
  have HP := Lib.hid hp
  obtain ⟨m, hm⟩ : ∃ m, 63 - (n + 8) % 64 = m := ⟨_, rfl⟩
  have hm2 : m ≤ 63 := by omega
  rw [hm] at HP ⊢
  have hl : (putL 8 (8 * n)).length ≤ 8 := by rw [putL_length]; omega
  generalize putL 8 (8 * n) = L at *
  clear hb hp hm
  go_wp2_with fail
  refine (Try.strings_Repeat ⟨#[0]⟩ m _ (by omega) (by show 1 * m ≤ _; omega)).mono ?_
  rintro e w2 ⟨rfl, hb⟩
  rw [repeat_zeros]
  have HB2 := Lib.hid (HB.out.trans (hb.mono HB.out.size))
  have hz : (zerosS m).size = m := zerosS_size m
  clear hb HB
  have hz1 : (ByteArray.mk #[128]).size + (zerosS m).size ≤ 9223372036854775807 := by rw [hz]; show 1 + m ≤ _; omega
  have hz2 : (ByteArray.mk #[128]).size + (zerosS m).size + L.length ≤ 9223372036854775807 := by rw [hz]; show 1 + m + _ ≤ _; omega
  have hz3 : 1 + (zerosS m).size ≤ 9223372036854775807 := by omega
  have hz4 : 1 + (zerosS m).size + L.length ≤ 9223372036854775807 := by omega
  clear hz
  go_wp2
  refine HR.out _ _ ⟨?_, HB2.out⟩
  rw [HP.out]
  show Ending.returned (.tuple #[.string (ByteArray.mk #[128] ++ zerosS m ++ ByteArray.mk L.toArray), .int .i64 0]) = _
  rw [show (ByteArray.mk #[128] ++ zerosS m ++ ByteArray.mk L.toArray) = ByteArray.mk (128 :: (List.replicate m 0 ++ L)).toArray by
    apply ByteArray.ext; simp [zerosS]]
theorem pad_err (n : Int) (w : World) (h : n < 0 ∨ 576460752303423488 < n) : Calls Try.prog 42 #[.int .i64 n] w fun e w' => e = .returned (.tuple #[.string ⟨#[]⟩, .int .i64 2]) ∧ w' = w := by
  rcases h with h | h
  all_goals
    go_enter Try.func42, Try.ntmps42
    go_wp2
    go_ret2
    exact ⟨rfl, rfl⟩
set_option maxRecDepth 100000 in
set_option maxHeartbeats 1000000 in
theorem new_any (w : World) : Calls Try.prog 27 #[] w fun e w' => ∃ b, e = .returned (.pointer (some ⟨b, 0, none⟩)) ∧ w.heap.size ≤ b ∧ HashAt w' 70 b [] ∧ Below w.heap.size w w' := by
  refine calls_by fun R HR => ?_
  go_enter Try.func27, Try.ntmps27
  go_wp2_with fail
  refine (first_any _).mono ?_
  rintro e w1 ⟨rfl, hb⟩
  have HB := Lib.hid hb
  clear hb
  go_wp2
  refine HR.out _ _ ⟨w1.heap.size, rfl, HB.out.size, ?_, HB.out.alloc HB.out.size _⟩
  show _ = some (Obj.cells (hashC (foldN st0 []) ⟨(restL []).toArray⟩ 0) _ _)
  rw [foldN_lt st0 [] (by decide), restL_lt [] (by decide)]
  exact alloc_new _ _

theorem there_yes (b : Nat) (w : World) (h0 : w.cell? ⟨b, 0, none⟩ = some (.bool true)) :
    Calls Try.prog 39 #[.pointer (some ⟨b, 0, none⟩)] w fun e w' => e = .returned (.bool true) ∧ w' = w := by
  go_enter Try.func39, Try.ntmps39
  go_wp2
  go_ret
  exact ⟨rfl, rfl⟩

set_option maxRecDepth 100000 in
set_option maxHeartbeats 1000000 in
theorem clone_any (s : ByteArray) (w : World) (h : s.size ≤ 281474976710656) : Calls Try.prog 41 #[.string s] w fun e w' => e = .returned (.string s) ∧ Below w.heap.size w w' := by
  refine calls_by fun R HR => ?_
  go_enter Try.func41, Try.ntmps41
  go_wp2_with fail
  refine (Try.stringslite_Clone s _ h).mono ?_
  rintro e w1 ⟨rfl, hb⟩
  go_wp2
  exact HR.out _ _ ⟨rfl, hb⟩

set_option maxRecDepth 20000 in
set_option maxHeartbeats 2000000 in
theorem hput_any (T : List UInt8) (s : ByteArray) (b : Nat) (w : World) (hw : HashAt w 70 b T) (hl : T.length + s.size ≤ 100000000000) :
    Calls Try.prog 28 #[.pointer (some ⟨b, 0, none⟩), .string s] w fun e w' => e = .returned (.int .i64 0) ∧ HashAt w' 70 b (T ++ s.data.toList) ∧ Only w w' b := by
  refine calls_by fun R HR => ?_
  have hbk : w.heap[b]? = some (.cells (hashC (foldN st0 T) ⟨(restL T).toArray⟩ T.length) 70 (0, 0)) := hw
  have HB := Lib.hid hbk
  have c10 : w.cell? ⟨b, 10, none⟩ = some (.int .i64 (T.length : Nat)) := by rw [cell_of_row w b 10 _ _ _ hbk]; rfl
  have c9 : w.cell? ⟨b, 9, none⟩ = some (.string ⟨(restL T).toArray⟩) := by rw [cell_of_row w b 9 _ _ _ hbk]; rfl
  have f10 : w.frozen? ⟨b, 10, none⟩ = false := frozen_of_row w b 10 _ _ hbk
  have HT := Lib.hid (there_yes b w (by rw [cell_of_row w b 0 _ _ _ hbk]; rfl))
  have hr : (restL T).length ≤ 63 := by rw [restL_length]; omega
  clear hw hbk
  go_enter Try.func28, Try.ntmps28
  go_wp2_with fail
  refine HT.out.mono ?_
  rintro e w1 ⟨rfl, rfl⟩
  have hr2 : (restL T).length + s.size ≤ 9223372036854775807 := by omega
  obtain ⟨X, hX⟩ : ∃ X, ByteArray.mk (restL T).toArray ++ s = X := ⟨_, rfl⟩
  have HX := Lib.hid hX
  have hXs : X.size = (restL T).length + s.size := by rw [← hX]; simp [ByteArray.size_append]; rfl
  clear hX
  go_wp2_with fail
  have hW : (w1.setCell ⟨b, 10, none⟩ (.int .i64 ((T.length : Int) + (s.size : Int)))).heap[b]? = some (.cells (hashC (foldN st0 T) ⟨(restL T).toArray⟩ (T.length + s.size)) 70 (0, 0)) := by
    rw [setCell_eq_setRow w1 b 10 _ _ _ _ HB.out, setRow_heap w1 b _ _ _ _ HB.out, hashC_n _ _ _ _ (T.length + s.size) (by omega)]
  have HW := Lib.hid (And.intro hW (Only.cell w1 b 10 (.int .i64 ((T.length : Int) + (s.size : Int)))))
  generalize w1.setCell ⟨b, 10, none⟩ (.int .i64 ((T.length : Int) + (s.size : Int))) = W at *
  clear hW c10 c9 f10 hr2
  rw [HX.out]
  have HY : Hid (foldN (foldN st0 T) X.data.toList = foldN st0 (T ++ s.data.toList) ∧ restL X.data.toList = restL (T ++ s.data.toList)) := Lib.hid (by
    have e : X.data.toList = restL T ++ s.data.toList := by rw [← HX.out]; simp
    rw [e, ← foldN_append _ _ _ _ rfl, ← restL_append _ _ _ rfl]
    exact ⟨rfl, rfl⟩)
  go_loopg [1] (X.size / 64) (fun g v wx => ∃ (X : ByteArray) (y : St), v = .string X ∧ Hid (X.size / 64 = g ∧ y.ok ∧ X.size ≤ 200000000000) ∧ Hid (foldN y X.data.toList = foldN st0 (T ++ s.data.toList) ∧ restL X.data.toList = restL (T ++ s.data.toList)) ∧ Hid (wx.heap[b]? = some (.cells (hashC y ⟨(restL T).toArray⟩ (T.length + s.size)) 70 (0, 0)) ∧ Only w1 wx b))
  case atStart => exact ⟨X, _, rfl, Lib.hid ⟨rfl, fold0_ok T, by omega⟩, HY, HW⟩
  case round =>
    clear HX hXs HY
    obtain ⟨X, y, rfl, hG, hY, hN⟩ := hrel
    by_cases hlt : 64 ≤ X.size
    · have HST := Lib.hid (And.intro (foldN_ge y X.data.toList (by rw [data_length]; exact hlt)) (restL_ge X.data.toList (by rw [data_length]; exact hlt)))
      obtain ⟨B, hB⟩ : ∃ B, X.extract 0 64 = B := ⟨_, rfl⟩
      have hBz : B.size = 64 := by rw [← hB, ByteArray.size_extract]; omega
      have HBD : Hid (B.data.toList = X.data.toList.take 64) := Lib.hid (by rw [← hB]; exact first64 X)
      have TC := Lib.hid fun p => calls_after (p := p) (turned_any y B (After wr p) hG.out.2.1 hBz)
      have HBZ := Lib.hid hBz
      clear hBz
      go_wp2_with fail
      refine wp_region_after_tail 10 (by kernel_rfl) (by kernel_rfl) ?_
      simp only [List.take_succ_cons, List.take_zero, List.drop_succ_cons, List.drop_zero]
      quiet_step (fail)
      quiet_step (fail)
      quiet_step (fail)
      quiet_step (fail)
      refine wpQuiet_load_blk rfl 67 (.tmp 29) rfl b 1 8 rfl _ (u32s y.list) 70 (0, 0) _ (after_blk hN.out.1) (hashC_l _ _ _) rfl Try.underlying67 rfl (by kernel_rfl) ?_
      quiet_step (fail)
      quiet_step (fail)
      quiet_step (exact TC.out _)
      quiet_step (fail)
      quiet_step (fail)
      refine wpQuiet_nil ?_
      rintro v1 ⟨p, rfl⟩
      have hb1 := after_below wr p
      have HN := Lib.hid (And.intro ((hb1.block b (lt_of_block hN.out.1)).trans hN.out.1) (hN.out.2.trans (Only.of_below b hb1)))
      clear hb1 hN TC hB
      generalize After wr p = v1 at *
      refine wpList_store_blk rfl 67 (.tmp 35) (.tmp 33) rfl b 1 8 rfl _ (u32s (turnN y B.data.toList).list) _ rfl 70 HN.out.1 rfl (show 9 ≤ 11 by decide) (by kernel_rfl) (u32s_one _) (hashC_s _ _ _ _) ?_
      have HM := Lib.hid (And.intro (setRow_heap v1 b _ (hashC (turnN y B.data.toList) ⟨(restL T).toArray⟩ (T.length + s.size)) _ _ HN.out.1) (HN.out.2.trans (Only.row v1 b (hashC (turnN y B.data.toList) ⟨(restL T).toArray⟩ (T.length + s.size)))))
      generalize v1.setRow b (hashC (turnN y B.data.toList) ⟨(restL T).toArray⟩ (T.length + s.size)) = v2 at *
      generalize u32s (turnN y B.data.toList).list = D at *
      clear HN
      go_wp2_with fail
      have e2 : (X.extract 64 X.size).size = X.size - 64 := by rw [ByteArray.size_extract]; omega
      go_roundg (gk - 1)
      case rel =>
        refine ⟨X.extract 64 X.size, turnN y B.data.toList, rfl, Lib.hid ⟨by rw [e2]; have := hG.out.1; omega, turnN_ok _ _, by rw [e2]; have := hG.out.2.2; omega⟩, Lib.hid ?_, HM⟩
        rw [behind64, HBD.out, ← HST.out.1, ← HST.out.2]
        exact hY.out
      case measure => have := hG.out.1; omega
    · have hXl : X.data.toList.length < 64 := by rw [data_length]; omega
      have HX : Hid (y = foldN st0 (T ++ s.data.toList) ∧ X = ⟨(restL (T ++ s.data.toList)).toArray⟩) := Lib.hid (by
        have h1 := hY.out.1
        have h2 := hY.out.2
        rw [foldN_lt y _ hXl] at h1
        rw [restL_lt _ hXl] at h2
        exact ⟨h1, by rw [← h2]⟩)
      have hXm : X.size ≤ 281474976710656 := by omega
      clear hXl hY hG HW
      go_wp2_with fail
      refine (clone_any X _ hXm).mono ?_
      rintro e v1 ⟨rfl, hb1⟩
      have HN := Lib.hid (And.intro ((hb1.block b (lt_of_block hN.out.1)).trans hN.out.1) (hN.out.2.trans (Only.of_below b hb1)))
      have f9 : v1.frozen? ⟨b, 9, none⟩ = false := frozen_of_row v1 b 9 _ _ HN.out.1
      have c9 : v1.cell? ⟨b, 9, none⟩ = some (.string ⟨(restL T).toArray⟩) := by rw [cell_of_row v1 b 9 _ _ _ HN.out.1]; rfl
      clear hb1 hN
      go_wp2_with fail
      refine HR.out _ _ ⟨rfl, ?_, HN.out.2.trans (Only.cell v1 b 9 _)⟩
      show _ = some (Obj.cells (hashC (foldN st0 (T ++ s.data.toList)) ⟨(restL (T ++ s.data.toList)).toArray⟩ (T ++ s.data.toList).length) _ _)
      rw [setCell_eq_setRow v1 b 9 _ _ _ _ HN.out.1, setRow_heap v1 b _ _ _ _ HN.out.1, hashC_r, HX.out.1, HX.out.2, List.length_append, data_length]

set_option maxRecDepth 100000 in
set_option maxHeartbeats 1000000 in
theorem hsum_any (T : List UInt8) (b : Nat) (w : World) (hw : HashAt w 70 b T) (hl : T.length ≤ 50000000000) :
    Calls Try.prog 29 #[.pointer (some ⟨b, 0, none⟩)] w fun e w' => e = .returned (.string ⟨(shaL T).toArray⟩) ∧ Below w.heap.size w w' := by
  refine calls_by fun R HR => ?_
  have hbk : w.heap[b]? = some (.cells (hashC (foldN st0 T) ⟨(restL T).toArray⟩ T.length) 70 (0, 0)) := hw
  have HB := Lib.hid hbk
  have HT := Lib.hid (there_yes b w (by rw [cell_of_row w b 0 _ _ _ hbk]; rfl))
  clear hw hbk
  go_enter Try.func29, Try.ntmps29
  go_wp2_with fail
  refine HT.out.mono ?_
  rintro e w1 ⟨rfl, rfl⟩
  obtain ⟨C, hC⟩ : ∃ C, hashC (foldN st0 T) ⟨(restL T).toArray⟩ T.length = C := ⟨_, rfl⟩
  have hCs : C.size = 11 := by rw [← hC]; rfl
  have hC1 : C.all (·.oneCell') = true := by rw [← hC]; exact hashC_one _ _ _
  have HC := Lib.hid (And.intro hC (And.intro hCs hC1))
  rw [hC] at HB
  clear hC hCs hC1
  go_upto_region 4 with (first
    | refine wpList_load_blk rfl 70 (.tmp 10) rfl b 0 11 rfl C C 70 (0, 0) _ HB.out (by rw [← HC.out.1]; rfl) HC.out.2.1 Try.underlying70 rfl (by kernel_rfl) ?_
    | refine wpList_storeN rfl 70 (.tmp 3) (.tmp 11) rfl 70 _ C 11 rfl rfl (by kernel_rfl) HC.out.2.1 rfl HC.out.2.2 ?_)
  have hA : HashAt (w1.alloc (.cells C 70)) 70 w1.heap.size T := by
    show _ = some (Obj.cells _ _ _)
    rw [HC.out.1]; exact alloc_new _ _
  have hc10 : (w1.alloc (.cells C 70)).cell? ⟨b, 10, none⟩ = some (.int .i64 (T.length : Nat)) := by
    rw [cell_of_row _ b 10 _ _ _ (blk_keep HB.out _), ← HC.out.1]; rfl
  have HA := Lib.hid (And.intro hA (alloc_below w1 (.cells C 70)))
  clear hA
  generalize w1.alloc (.cells C 70) = W at *
  go_wp2_with fail
  refine (pad_any T.length _ (by omega)).mono ?_
  rintro e w2 ⟨rfl, hb1⟩
  have HA2 := Lib.hid (And.intro (HA.out.1.keep hb1) (HA.out.2.trans (hb1.mono HA.out.2.size)))
  have hpl : (padL T.length).length ≤ 72 := by rw [padL_length]; omega
  clear hb1 HA hc10 HC
  obtain ⟨b2, hb2⟩ : ∃ b2, w1.heap.size = b2 := ⟨_, rfl⟩
  have HB2 := Lib.hid hb2
  rw [hb2] at HA2 ⊢
  clear hb2
  go_wp2_with fail
  refine (hput_any T ⟨(padL T.length).toArray⟩ b2 _ HA2.out.1 (by show T.length + (padL T.length).toArray.size ≤ _; simp; omega)).mono ?_
  rintro e w3 ⟨rfl, hat, honly⟩
  have HF := Lib.hid (And.intro hat (HA2.out.2.trans (honly.below (Nat.le_refl _) (Nat.le_of_lt HA2.out.1.lt))))
  clear hat honly HA2
  go_wp2_with (refine wpList_load_blk rfl 67 (.tmp 22) rfl b2 1 8 rfl _ (u32s (foldN st0 (T ++ padL T.length)).list) 70 (0, 0) _ HF.out.1 (hashC_l _ _ _) rfl Try.underlying67 rfl (by kernel_rfl) ?_)
  refine (text_any (foldN st0 (T ++ padL T.length)) _ (fold0_ok _)).mono ?_
  rintro e w4 ⟨rfl, hb1⟩
  have HX := Lib.hid (HF.out.2.trans (hb1.mono (Nat.le_of_lt HF.out.1.lt)))
  clear hb1
  go_wp2
  exact HR.out _ _ ⟨rfl, by rw [HB2.out]; exact HX.out⟩
end Go.Proofs.Ytophfeapmmfppaa
