/- Texts that the claim rests on, part 3: ShaHash, ShaSumV, OctetRGet, ShaRStep, OctetRPut, ShaRTxt, OctetNoughts, ShaRSum, ShaSum, MerkleNode. -/
import Derived.Test.YtpdeicgjmjoglaaShelf
import Derived.Test.YtpdeicgjmjoglaaProg
import Derived.Deep.LoopGhost
import Derived.Test.YtpdeicgjmjoglaaM2
/- The program's hash: what is put, its sum. -/
namespace Ks
open Go Go.RowKit
set_option linter.unusedVariables false
/-- a hash's cells -/
def hashC (s : St) (r : ByteArray) (n : Nat) : Array Value :=
  #[.bool true, .int .u32 (s.a : Int), .int .u32 (s.b : Int), .int .u32 (s.c : Int), .int .u32 (s.d : Int), .int .u32 (s.e : Int), .int .u32 (s.f : Int), .int .u32 (s.g : Int), .int .u32 (s.h : Int), .string r, .int .i64 (n : Int)]
/-- a hash of what was put -/
def HashAt (w : World) (TN : TypeId) (b : Nat) (T : List UInt8) : Prop :=
  w.heap[b]? = some (.cells (hashC (foldN st0 T) ⟨(restL T).toArray⟩ T.length) TN (0, 0))
theorem HashAt.lt {w : World} {TN : TypeId} {b : Nat} {T : List UInt8} (h : HashAt w TN b T) : b < w.heap.size := lt_of_block h
theorem HashAt.keep {w w' : World} {TN : TypeId} {b : Nat} {T : List UInt8} (h : HashAt w TN b T) (hb : Below w.heap.size w w') : HashAt w' TN b T := (hb.block b h.lt).trans h
/-- only one block is turned -/
def Only (w w' : World) (b : Nat) : Prop := w'.os = w.os ∧ w'.tape = w.tape ∧ w'.output = w.output ∧ w.heap.size ≤ w'.heap.size ∧ ∀ k, k < w.heap.size → k ≠ b → w'.heap[k]? = w.heap[k]?
theorem Only.of_below {w w' : World} (b : Nat) (h : Below w.heap.size w w') : Only w w' b := ⟨h.os, h.tape, h.output, h.size, fun k hk _ => h.block k hk⟩
theorem Only.refl (w : World) (b : Nat) : Only w w b := Only.of_below b (Below.refl _ _)
theorem Only.trans {w w1 w2 : World} {b : Nat} (h : Only w w1 b) (g : Only w1 w2 b) : Only w w2 b :=
  ⟨g.1.trans h.1, g.2.1.trans h.2.1, g.2.2.1.trans h.2.2.1, Nat.le_trans h.2.2.2.1 g.2.2.2.1, fun k hk hb => (g.2.2.2.2 k (Nat.lt_of_lt_of_le hk h.2.2.2.1) hb).trans (h.2.2.2.2 k hk hb)⟩
theorem Only.below {w w' : World} {b B : Nat} (h : Only w w' b) (hb : B ≤ b) (hB : B ≤ w.heap.size) : Below B w w' := ⟨h.1, h.2.1, h.2.2.1, h.2.2.2.1, fun k hk => h.2.2.2.2 k (by omega) (by omega)⟩
theorem Only.row (w : World) (b : Nat) (C : Array Value) : Only w (w.setRow b C) b := ⟨rfl, rfl, rfl, by simp, fun k _ hb => setRow_other w b k C hb⟩
theorem Only.cell (w : World) (b o : Nat) (v : Value) : Only w (w.setCell ⟨b, o, none⟩ v) b :=
  have h : Below 0 w (w.setCell ⟨b, o, none⟩ v) := (Below.refl 0 w).setCell (Nat.zero_le _) v
  ⟨h.os, h.tape, h.output, by simp, fun k _ hb => set_ne v hb⟩
theorem Only.blk {w w' : World} {b k : Nat} {o : Obj} (h : Only w w' b) (hk : w.heap[k]? = some o) (hb : k ≠ b) : w'.heap[k]? = some o := (h.2.2.2.2 k (lt_of_block hk) hb).trans hk
theorem hashC_one (y : St) (r : ByteArray) (n : Nat) : (hashC y r n).all (·.oneCell') = true := by simp [hashC, Value.oneCell']
theorem hashC_n (y : St) (r : ByteArray) (n : Nat) (m : Int) (k : Nat) (h : m = (k : Int)) : (hashC y r n).setIfInBounds 10 (.int .i64 m) = hashC y r k := by subst h; rfl
theorem hashC_r (y : St) (r q : ByteArray) (n : Nat) : (hashC y r n).setIfInBounds 9 (.string q) = hashC y q n := rfl
theorem hashC_s (y z : St) (r : ByteArray) (n : Nat) : splice (hashC y r n) 1 (u32s z.list) = hashC z r n := rfl
theorem hashC_l (y : St) (r : ByteArray) (n : Nat) : (hashC y r n).extract 1 (1 + 8) = u32s y.list := rfl
theorem first64 (X : ByteArray) : (X.extract 0 64).data.toList = X.data.toList.take 64 := by
  rw [ByteArray.data_extract, Array.toList_extract, List.extract_eq_take_drop]; rfl
theorem behind64 (X : ByteArray) : (X.extract 64 X.size).data.toList = X.data.toList.drop 64 := by
  rw [ByteArray.data_extract, Array.toList_extract, List.extract_eq_take_drop, List.take_of_length_le]
  rw [List.length_drop, data_length]; omega
end Ks
namespace Go.Proofs.Ytpdeicgjmjoglaa
open Go.RowKit Ks
set_option linter.unusedVariables false

set_option maxRecDepth 100000 in
set_option maxHeartbeats 1000000 in
theorem pad_any (n : Nat) (w : World) (h : n ≤ 576460752303423488) : Calls Try.prog 62 #[.int .i64 n] w fun e w' => e = .returned (.tuple #[.string ⟨(padL n).toArray⟩, .int .i64 0]) ∧ Below w.heap.size w w' := by
  refine calls_by fun R HR => ?_
  go_enter Try.func62, Try.ntmps62
  go_wp2_with fail
  rw [show (8 * (n : Int)) = ((8 * n : Nat) : Int) by omega, show (63 - ((n : Int) + 8) % 64) = ((63 - (n + 8) % 64 : Nat) : Int) by omega]
  refine (put_ok (8 * n) 8 _ (by decide) (by decide) (by omega) (fun h => by omega)).mono ?_
  rintro e w1 ⟨rfl, hb⟩
  have HB := Lib.hid hb
  have hp : (padL n) = 128 :: (List.replicate (63 - (n + 8) % 64) 0 ++ putL 8 (8 * n)) := rfl
  have HP := Lib.hid hp
  obtain ⟨m, hm⟩ : ∃ m, 63 - (n + 8) % 64 = m := ⟨_, rfl⟩
  have hm2 : m ≤ 63 := by omega
  rw [hm] at HP ⊢
  have hl : (putL 8 (8 * n)).length ≤ 8 := by rw [putL_length]; omega
  generalize putL 8 (8 * n) = L at *
  clear hb hp hm
  go_wp2_with fail
  refine (Try.strings_Repeat ⟨#[0]⟩ m _ (by omega) (by show 1 * m ≤ _; omega)).mono ?_
  rintro e w2 ⟨rfl, hb⟩
  rw [repeat_zeros]
  have HB2 := Lib.hid (HB.out.trans (hb.mono HB.out.size))
  have hz : (zerosS m).size = m := zerosS_size m
  clear hb HB
  have hz1 : (ByteArray.mk #[128]).size + (zerosS m).size ≤ 9223372036854775807 := by rw [hz]; show 1 + m ≤ _; omega
  have hz2 : (ByteArray.mk #[128]).size + (zerosS m).size + L.length ≤ 9223372036854775807 := by rw [hz]; show 1 + m + _ ≤ _; omega
  have hz3 : 1 + (zerosS m).size ≤ 9223372036854775807 := by omega
  have hz4 : 1 + (zerosS m).size + L.length ≤ 9223372036854775807 := by omega
  clear hz
  go_wp2
  refine HR.out _ _ ⟨?_, HB2.out⟩
  rw [HP.out]
  show Ending.returned (.tuple #[.string (ByteArray.mk #[128] ++ zerosS m ++ ByteArray.mk L.toArray), .int .i64 0]) = _
  rw [show (ByteArray.mk #[128] ++ zerosS m ++ ByteArray.mk L.toArray) = ByteArray.mk (128 :: (List.replicate m 0 ++ L)).toArray by
    apply ByteArray.ext; simp [zerosS]]
theorem pad_err (n : Int) (w : World) (h : n < 0 ∨ 576460752303423488 < n) : Calls Try.prog 62 #[.int .i64 n] w fun e w' => e = .returned (.tuple #[.string ⟨#[]⟩, .int .i64 2]) ∧ w' = w := by
  rcases h with h | h
  all_goals
    go_enter Try.func62, Try.ntmps62
    go_wp2
    go_ret2
    exact ⟨rfl, rfl⟩
set_option maxRecDepth 100000 in
set_option maxHeartbeats 1000000 in
theorem new_any (w : World) : Calls Try.prog 43 #[] w fun e w' => ∃ b, e = .returned (.pointer (some ⟨b, 0, none⟩)) ∧ w.heap.size ≤ b ∧ HashAt w' 87 b [] ∧ Below w.heap.size w w' := by
  refine calls_by fun R HR => ?_
  go_enter Try.func43, Try.ntmps43
  go_wp2_with fail
  refine (first_any _).mono ?_
  rintro e w1 ⟨rfl, hb⟩
  have HB := Lib.hid hb
  clear hb
  go_wp2
  refine HR.out _ _ ⟨w1.heap.size, rfl, HB.out.size, ?_, HB.out.alloc HB.out.size _⟩
  show _ = some (Obj.cells (hashC (foldN st0 []) ⟨(restL []).toArray⟩ 0) _ _)
  rw [foldN_lt st0 [] (by decide), restL_lt [] (by decide)]
  exact alloc_new _ _

theorem there_yes (b : Nat) (w : World) (h0 : w.cell? ⟨b, 0, none⟩ = some (.bool true)) :
    Calls Try.prog 59 #[.pointer (some ⟨b, 0, none⟩)] w fun e w' => e = .returned (.bool true) ∧ w' = w := by
  go_enter Try.func59, Try.ntmps59
  go_wp2
  go_ret
  exact ⟨rfl, rfl⟩

set_option maxRecDepth 100000 in
set_option maxHeartbeats 1000000 in
theorem clone_any (s : ByteArray) (w : World) (h : s.size ≤ 281474976710656) : Calls Try.prog 61 #[.string s] w fun e w' => e = .returned (.string s) ∧ Below w.heap.size w w' := by
  refine calls_by fun R HR => ?_
  go_enter Try.func61, Try.ntmps61
  go_wp2_with fail
  refine (Try.stringslite_Clone s _ h).mono ?_
  rintro e w1 ⟨rfl, hb⟩
  go_wp2
  exact HR.out _ _ ⟨rfl, hb⟩

set_option maxRecDepth 20000 in
set_option maxHeartbeats 2000000 in
theorem hput_any (T : List UInt8) (s : ByteArray) (b : Nat) (w : World) (hw : HashAt w 87 b T) (hl : T.length + s.size ≤ 100000000000) :
    Calls Try.prog 44 #[.pointer (some ⟨b, 0, none⟩), .string s] w fun e w' => e = .returned (.int .i64 0) ∧ HashAt w' 87 b (T ++ s.data.toList) ∧ Only w w' b := by
  refine calls_by fun R HR => ?_
  have hbk : w.heap[b]? = some (.cells (hashC (foldN st0 T) ⟨(restL T).toArray⟩ T.length) 87 (0, 0)) := hw
  have HB := Lib.hid hbk
  have c10 : w.cell? ⟨b, 10, none⟩ = some (.int .i64 (T.length : Nat)) := by rw [cell_of_row w b 10 _ _ _ hbk]; rfl
  have c9 : w.cell? ⟨b, 9, none⟩ = some (.string ⟨(restL T).toArray⟩) := by rw [cell_of_row w b 9 _ _ _ hbk]; rfl
  have f10 : w.frozen? ⟨b, 10, none⟩ = false := frozen_of_row w b 10 _ _ hbk
  have HT := Lib.hid (there_yes b w (by rw [cell_of_row w b 0 _ _ _ hbk]; rfl))
  have hr : (restL T).length ≤ 63 := by rw [restL_length]; omega
  clear hw hbk
  go_enter Try.func44, Try.ntmps44
  go_wp2_with fail
  refine HT.out.mono ?_
  rintro e w1 ⟨rfl, rfl⟩
  have hr2 : (restL T).length + s.size ≤ 9223372036854775807 := by omega
  obtain ⟨X, hX⟩ : ∃ X, ByteArray.mk (restL T).toArray ++ s = X := ⟨_, rfl⟩
  have HX := Lib.hid hX
  have hXs : X.size = (restL T).length + s.size := by rw [← hX]; simp [ByteArray.size_append]; rfl
  clear hX
  go_wp2_with fail
  have hW : (w1.setCell ⟨b, 10, none⟩ (.int .i64 ((T.length : Int) + (s.size : Int)))).heap[b]? = some (.cells (hashC (foldN st0 T) ⟨(restL T).toArray⟩ (T.length + s.size)) 87 (0, 0)) := by
    rw [setCell_eq_setRow w1 b 10 _ _ _ _ HB.out, setRow_heap w1 b _ _ _ _ HB.out, hashC_n _ _ _ _ (T.length + s.size) (by omega)]
  have HW := Lib.hid (And.intro hW (Only.cell w1 b 10 (.int .i64 ((T.length : Int) + (s.size : Int)))))
  generalize w1.setCell ⟨b, 10, none⟩ (.int .i64 ((T.length : Int) + (s.size : Int))) = W at *
  clear hW c10 c9 f10 hr2
  rw [HX.out]
  have HY : Hid (foldN (foldN st0 T) X.data.toList = foldN st0 (T ++ s.data.toList) ∧ restL X.data.toList = restL (T ++ s.data.toList)) := Lib.hid (by
    have e : X.data.toList = restL T ++ s.data.toList := by rw [← HX.out]; simp
    rw [e, ← foldN_append _ _ _ _ rfl, ← restL_append _ _ _ rfl]
    exact ⟨rfl, rfl⟩)
  go_loopg [1] (X.size / 64) (fun g v wx => ∃ (X : ByteArray) (y : St), v = .string X ∧ Hid (X.size / 64 = g ∧ y.ok ∧ X.size ≤ 200000000000) ∧ Hid (foldN y X.data.toList = foldN st0 (T ++ s.data.toList) ∧ restL X.data.toList = restL (T ++ s.data.toList)) ∧ Hid (wx.heap[b]? = some (.cells (hashC y ⟨(restL T).toArray⟩ (T.length + s.size)) 87 (0, 0)) ∧ Only w1 wx b))
  case atStart => exact ⟨X, _, rfl, Lib.hid ⟨rfl, fold0_ok T, by omega⟩, HY, HW⟩
  case round =>
    clear HX hXs HY
    obtain ⟨X, y, rfl, hG, hY, hN⟩ := hrel
    by_cases hlt : 64 ≤ X.size
    · have HST := Lib.hid (And.intro (foldN_ge y X.data.toList (by rw [data_length]; exact hlt)) (restL_ge X.data.toList (by rw [data_length]; exact hlt)))
      obtain ⟨B, hB⟩ : ∃ B, X.extract 0 64 = B := ⟨_, rfl⟩
      have hBz : B.size = 64 := by rw [← hB, ByteArray.size_extract]; omega
      have HBD : Hid (B.data.toList = X.data.toList.take 64) := Lib.hid (by rw [← hB]; exact first64 X)
      have TC := Lib.hid fun p => calls_after (p := p) (turned_any y B (After wr p) hG.out.2.1 hBz)
      have HBZ := Lib.hid hBz
      clear hBz
      go_wp2_with fail
      refine wp_region_after_tail 10 (by kernel_rfl) (by kernel_rfl) ?_
      simp only [List.take_succ_cons, List.take_zero, List.drop_succ_cons, List.drop_zero]
      quiet_step (fail)
      quiet_step (fail)
      quiet_step (fail)
      quiet_step (fail)
      refine wpQuiet_load_blk rfl 84 (.tmp 29) rfl b 1 8 rfl _ (u32s y.list) 87 (0, 0) _ (after_blk hN.out.1) (hashC_l _ _ _) rfl Try.underlying84 rfl (by kernel_rfl) ?_
      quiet_step (fail)
      quiet_step (fail)
      quiet_step (exact TC.out _)
      quiet_step (fail)
      quiet_step (fail)
      refine wpQuiet_nil ?_
      rintro v1 ⟨p, rfl⟩
      have hb1 := after_below wr p
      have HN := Lib.hid (And.intro ((hb1.block b (lt_of_block hN.out.1)).trans hN.out.1) (hN.out.2.trans (Only.of_below b hb1)))
      clear hb1 hN TC hB
      generalize After wr p = v1 at *
      refine wpList_store_blk rfl 84 (.tmp 35) (.tmp 33) rfl b 1 8 rfl _ (u32s (turnN y B.data.toList).list) _ rfl 87 HN.out.1 rfl (show 9 ≤ 11 by decide) (by kernel_rfl) (u32s_one _) (hashC_s _ _ _ _) ?_
      have HM := Lib.hid (And.intro (setRow_heap v1 b _ (hashC (turnN y B.data.toList) ⟨(restL T).toArray⟩ (T.length + s.size)) _ _ HN.out.1) (HN.out.2.trans (Only.row v1 b (hashC (turnN y B.data.toList) ⟨(restL T).toArray⟩ (T.length + s.size)))))
      generalize v1.setRow b (hashC (turnN y B.data.toList) ⟨(restL T).toArray⟩ (T.length + s.size)) = v2 at *
      generalize u32s (turnN y B.data.toList).list = D at *
      clear HN
      go_wp2_with fail
      have e2 : (X.extract 64 X.size).size = X.size - 64 := by rw [ByteArray.size_extract]; omega
      go_roundg (gk - 1)
      case rel =>
        refine ⟨X.extract 64 X.size, turnN y B.data.toList, rfl, Lib.hid ⟨by rw [e2]; have := hG.out.1; omega, turnN_ok _ _, by rw [e2]; have := hG.out.2.2; omega⟩, Lib.hid ?_, HM⟩
        rw [behind64, HBD.out, ← HST.out.1, ← HST.out.2]
        exact hY.out
      case measure => have := hG.out.1; omega
    · have hXl : X.data.toList.length < 64 := by rw [data_length]; omega
      have HX : Hid (y = foldN st0 (T ++ s.data.toList) ∧ X = ⟨(restL (T ++ s.data.toList)).toArray⟩) := Lib.hid (by
        have h1 := hY.out.1
        have h2 := hY.out.2
        rw [foldN_lt y _ hXl] at h1
        rw [restL_lt _ hXl] at h2
        exact ⟨h1, by rw [← h2]⟩)
      have hXm : X.size ≤ 281474976710656 := by omega
      clear hXl hY hG HW
      go_wp2_with fail
      refine (clone_any X _ hXm).mono ?_
      rintro e v1 ⟨rfl, hb1⟩
      have HN := Lib.hid (And.intro ((hb1.block b (lt_of_block hN.out.1)).trans hN.out.1) (hN.out.2.trans (Only.of_below b hb1)))
      have f9 : v1.frozen? ⟨b, 9, none⟩ = false := frozen_of_row v1 b 9 _ _ HN.out.1
      have c9 : v1.cell? ⟨b, 9, none⟩ = some (.string ⟨(restL T).toArray⟩) := by rw [cell_of_row v1 b 9 _ _ _ HN.out.1]; rfl
      clear hb1 hN
      go_wp2_with fail
      refine HR.out _ _ ⟨rfl, ?_, HN.out.2.trans (Only.cell v1 b 9 _)⟩
      show _ = some (Obj.cells (hashC (foldN st0 (T ++ s.data.toList)) ⟨(restL (T ++ s.data.toList)).toArray⟩ (T ++ s.data.toList).length) _ _)
      rw [setCell_eq_setRow v1 b 9 _ _ _ _ HN.out.1, setRow_heap v1 b _ _ _ _ HN.out.1, hashC_r, HX.out.1, HX.out.2, List.length_append, data_length]

set_option maxRecDepth 100000 in
set_option maxHeartbeats 1000000 in
theorem hsum_any (T : List UInt8) (b : Nat) (w : World) (hw : HashAt w 87 b T) (hl : T.length ≤ 50000000000) :
    Calls Try.prog 45 #[.pointer (some ⟨b, 0, none⟩)] w fun e w' => e = .returned (.string ⟨(shaL T).toArray⟩) ∧ Below w.heap.size w w' := by
  refine calls_by fun R HR => ?_
  have hbk : w.heap[b]? = some (.cells (hashC (foldN st0 T) ⟨(restL T).toArray⟩ T.length) 87 (0, 0)) := hw
  have HB := Lib.hid hbk
  have HT := Lib.hid (there_yes b w (by rw [cell_of_row w b 0 _ _ _ hbk]; rfl))
  clear hw hbk
  go_enter Try.func45, Try.ntmps45
  go_wp2_with fail
  refine HT.out.mono ?_
  rintro e w1 ⟨rfl, rfl⟩
  obtain ⟨C, hC⟩ : ∃ C, hashC (foldN st0 T) ⟨(restL T).toArray⟩ T.length = C := ⟨_, rfl⟩
  have hCs : C.size = 11 := by rw [← hC]; rfl
  have hC1 : C.all (·.oneCell') = true := by rw [← hC]; exact hashC_one _ _ _
  have HC := Lib.hid (And.intro hC (And.intro hCs hC1))
  rw [hC] at HB
  clear hC hCs hC1
  go_upto_region 4 with (first
    | refine wpList_load_blk rfl 87 (.tmp 10) rfl b 0 11 rfl C C 87 (0, 0) _ HB.out (by rw [← HC.out.1]; rfl) HC.out.2.1 Try.underlying87 rfl (by kernel_rfl) ?_
    | refine wpList_storeN rfl 87 (.tmp 3) (.tmp 11) rfl 87 _ C 11 rfl rfl (by kernel_rfl) HC.out.2.1 rfl HC.out.2.2 ?_)
  have hA : HashAt (w1.alloc (.cells C 87)) 87 w1.heap.size T := by
    show _ = some (Obj.cells _ _ _)
    rw [HC.out.1]; exact alloc_new _ _
  have hc10 : (w1.alloc (.cells C 87)).cell? ⟨b, 10, none⟩ = some (.int .i64 (T.length : Nat)) := by
    rw [cell_of_row _ b 10 _ _ _ (blk_keep HB.out _), ← HC.out.1]; rfl
  have HA := Lib.hid (And.intro hA (alloc_below w1 (.cells C 87)))
  clear hA
  generalize w1.alloc (.cells C 87) = W at *
  go_wp2_with fail
  refine (pad_any T.length _ (by omega)).mono ?_
  rintro e w2 ⟨rfl, hb1⟩
  have HA2 := Lib.hid (And.intro (HA.out.1.keep hb1) (HA.out.2.trans (hb1.mono HA.out.2.size)))
  have hpl : (padL T.length).length ≤ 72 := by rw [padL_length]; omega
  clear hb1 HA hc10 HC
  obtain ⟨b2, hb2⟩ : ∃ b2, w1.heap.size = b2 := ⟨_, rfl⟩
  have HB2 := Lib.hid hb2
  rw [hb2] at HA2 ⊢
  clear hb2
  go_wp2_with fail
  refine (hput_any T ⟨(padL T.length).toArray⟩ b2 _ HA2.out.1 (by show T.length + (padL T.length).toArray.size ≤ _; simp; omega)).mono ?_
  rintro e w3 ⟨rfl, hat, honly⟩
  have HF := Lib.hid (And.intro hat (HA2.out.2.trans (honly.below (Nat.le_refl _) (Nat.le_of_lt HA2.out.1.lt))))
  clear hat honly HA2
  go_wp2_with (refine wpList_load_blk rfl 84 (.tmp 22) rfl b2 1 8 rfl _ (u32s (foldN st0 (T ++ padL T.length)).list) 87 (0, 0) _ HF.out.1 (hashC_l _ _ _) rfl Try.underlying84 rfl (by kernel_rfl) ?_)
  refine (text_any (foldN st0 (T ++ padL T.length)) _ (fold0_ok _)).mono ?_
  rintro e w4 ⟨rfl, hb1⟩
  have HX := Lib.hid (HF.out.2.trans (hb1.mono (Nat.le_of_lt HF.out.1.lt)))
  clear hb1
  go_wp2
  exact HR.out _ _ ⟨rfl, by rw [HB2.out]; exact HX.out⟩
end Go.Proofs.Ytpdeicgjmjoglaa
/- The sum of texts. -/
namespace Ks
open Go Go.RowKit
set_option linter.unusedVariables false
theorem Rd.other {α : Type} {E : Enc α} {w w' : World} {v : Value} {l : List α} {b B : Nat} (h : Rd E w v l) (hB : w.heap.size ≤ b) {w1 : World} (h1 : Below w.heap.size w w1) (ho : Only w1 w' b) : Rd E w' v l :=
  h.below (h1.trans (ho.below hB h1.size))
end Ks
namespace Go.Proofs.Ytpdeicgjmjoglaa
open Go.RowKit Ks
set_option linter.unusedVariables false

set_option maxHeartbeats 1000000 in
theorem sumv_any (l : List ByteArray) (v : Value) (w : World) (hv : Rd strE w v l) (hl : (joinL l).length ≤ 50000000000) (hn : l.length ≤ 1000000000) :
    Calls Try.prog 27 #[v] w fun e w' => e = .returned (.string ⟨(shaL (joinL l)).toArray⟩) ∧ Below w.heap.size w w' := by
  refine calls_by fun R HR => ?_
  obtain ⟨a, cap, rfl, _, _⟩ := hv.shape
  have HV := Lib.hid hv
  clear hv
  go_enter Try.func27, Try.ntmps27
  go_wp2_with fail
  refine (new_any _).mono ?_
  rintro e w1 ⟨b, rfl, hb, hat, hbl⟩
  have HF := Lib.hid (And.intro hat (And.intro hbl (And.intro hb (Only.refl w1 b))))
  clear hb hat hbl
  go_wp2_with fail
  go_loopw [9] (fun i wx => ∃ k : Nat, k ≤ l.length ∧ i = .int .i64 k ∧ Hid (HashAt wx 87 b (joinL (l.take k)) ∧ Below w.heap.size w w1 ∧ w.heap.size ≤ b ∧ Only w1 wx b)) (fun i _ => l.length - (intOf i).toNat)
  case atStart => exact ⟨0, by omega, rfl, HF⟩
  case round =>
    obtain ⟨k, hk, rfl, hN⟩ := hrel
    by_cases hlt : k < l.length
    · have hrd : Rd strE wr (.slice a l.length cap) l := Rd.other (B := 0) HV.out hN.out.2.2.1 hN.out.2.1 hN.out.2.2.2
      obtain ⟨b1, o1, rfl, hb1, hc1⟩ := hrd.str k hlt
      have HJ := Lib.hid (joinL_take l k hlt)
      have hjl := joinL_le l (k + 1)
      rw [HJ.out, List.length_append, data_length] at hjl
      have HJL := Lib.hid hjl
      generalize l[k] = s at *
      clear hjl hrd hb1
      go_wp2_with fail
      refine (hput_any _ s b _ hN.out.1 (by have := HJL.out; omega)).mono ?_
      rintro e w2 ⟨rfl, hat, ho⟩
      rw [← HJ.out] at hat
      have HM := Lib.hid (And.intro hat (And.intro hN.out.2.1 (And.intro hN.out.2.2.1 (hN.out.2.2.2.trans ho))))
      clear hat ho hN hc1
      go_wp2_with fail
      go_roundw
      case rel => exact ⟨k + 1, by omega, by go_num, HM⟩
      case measure => simp [intOf]; omega
    · obtain rfl : k = l.length := by omega
      have HJ := Lib.hid (show joinL (l.take l.length) = joinL l by rw [List.take_length])
      clear HF hlt hk
      go_wp2_with fail
      refine (hsum_any _ b _ hN.out.1 (by rw [HJ.out]; exact hl)).mono ?_
      rintro e w2 ⟨rfl, hb2⟩
      have HM := Lib.hid (hN.out.2.1.trans ((hN.out.2.2.2.below hN.out.2.2.1 hN.out.2.1.size).trans (hb2.mono (Nat.le_trans hN.out.2.1.size hN.out.2.2.2.2.2.2.1))))
      clear hb2 hN
      go_wp2
      exact HR.out _ _ ⟨by rw [← HJ.out]; rfl, HM.out⟩
end Go.Proofs.Ytpdeicgjmjoglaa
/- What the reference's Get answers. -/
namespace Go.Proofs.Ytpdeicgjmjoglaa
open Go.RowKit Ks
set_option linter.unusedVariables false

set_option maxHeartbeats 400000 in
theorem rget_err (s : ByteArray) (w : World) (h : s.size = 0 ∨ 8 < s.size ∨ ∃ h : s.size = 8, 127 < (s[0]'(by omega)).toNat) :
    Calls Try.prog 67 #[.string s] w fun e w' => e = .returned (.tuple #[.int .i64 0, .int .i64 3]) ∧ w = w' := by
  refine calls_by fun R HR => ?_
  replace h : s.size = 0 ∨ 8 < s.size ∨ ∃ h : s.size = 8, (128 : Int) ≤ ((s[0]'(by omega)).toNat : Int) := by
    rcases h with h | h | ⟨h, h'⟩
    · exact .inl h
    · exact .inr (.inl h)
    · exact .inr (.inr ⟨h, by omega⟩)
  rcases h with h | h | ⟨h, h'⟩
  all_goals
    go_enter Try.func67, Try.ntmps67
    go_wp2
    exact HR.out _ _ ⟨rfl, rfl⟩

set_option maxHeartbeats 400000 in
theorem rget_ok (s : ByteArray) (w : World) (h : 0 < s.size) (hs : s.size < 8 ∨ ∃ h : s.size = 8, ¬ 127 < (s[0]'(by omega)).toNat) (hN : getN s.data.toList ≤ 9223372036854775807) :
    Calls Try.prog 67 #[.string s] w fun e w' => e = .returned (.tuple #[.int .i64 (getN s.data.toList), .int .i64 0]) ∧ w = w' := by
  refine calls_by fun R HR => ?_
  have h8 : ¬ 8 < (s.size : Int) := by rcases hs with hs | ⟨hs, _⟩ <;> omega
  have HS : Hid (∀ k, (hk : k < s.size) → getN (s.data.toList.take (k + 1)) = getN (s.data.toList.take k) * 256 + (s[k]).toNat) := by
    intro k hk; rw [take_snoc s k hk, getN_snoc]
  have HL : Hid (∀ k, getN (s.data.toList.take k) ≤ 9223372036854775807) := fun k => Nat.le_trans (getN_take_le _ _) hN
  have HE : Hid (getN (s.data.toList.take s.size) = getN s.data.toList) := Lib.hid (by rw [List.take_of_length_le (by rw [data_length]; omega)])
  clear hN
  replace hs : s.size < 8 ∨ ∃ h : s.size = 8, ¬ (128 : Int) ≤ ((s[0]'(by omega)).toNat : Int) := by
    rcases hs with hs | ⟨hs, h'⟩
    · exact .inl hs
    · exact .inr ⟨hs, by omega⟩
  rcases hs with hs | ⟨hs, hs'⟩
  all_goals
    go_enter Try.func67, Try.ntmps67
    go_wp2
    go_loop [4, 5] (fun n i => ∃ k m : Nat, k ≤ s.size ∧ i = .int .i64 k ∧ n = .int .i64 m ∧ Hid (m = getN (s.data.toList.take k))) (fun _ i => s.size - (intOf i).toNat)
    case atStart => exact ⟨0, 0, by omega, rfl, rfl, Lib.hid (by simp [getN])⟩
    case round =>
      obtain ⟨k, m, hk, rfl, rfl, hm⟩ := hrel
      try clear hs'
      by_cases hlt : k < s.size
      · have hb := (s[k]).toNat_lt
        have hm1 : m * 256 + (s[k]).toNat ≤ 9223372036854775807 := by have a := HS.out k hlt; have b := HL.out (k + 1); rw [hm.out]; omega
        have hm2 : 256 * (m : Int) + (s[k]).toNat ≤ 9223372036854775807 := by omega
        go_wp2
        go_round
        case rel => exact ⟨k + 1, m * 256 + (s[k]).toNat, by omega, by go_num, by go_num, Lib.hid (by rw [hm.out, HS.out k hlt])⟩
        case measure => simp [intOf]; omega
      · obtain rfl : k = s.size := by omega
        go_wp2
        refine HR.out _ _ ⟨?_, rfl⟩
        rw [hm.out, HE.out]

theorem rget_any (s : ByteArray) (w : World) :
    Calls Try.prog 67 #[.string s] w fun e w' => e = .returned (.tuple #[.int .i64 (getV s), .int .i64 (getE s)]) ∧ w = w' := by
  unfold getV getE
  rcases get_cases s with ⟨h, h1, h2, h3⟩ | ⟨h, h1⟩
  · rw [if_pos h, if_pos h]
    exact rget_ok s w h1 h2 h3
  · rw [if_neg (by simp [h]), if_neg (by simp [h])]
    exact rget_err s w h1

end Go.Proofs.Ytpdeicgjmjoglaa
/- What a block turns a state to: the reference's step. -/
namespace Ks
open Go Go.RowKit
set_option linter.unusedVariables false
/-- an array of numbers in a block -/
structure NumsI (w : World) (b : Nat) (t : TypeId) (L : List Nat) : Prop where
  blk : w.heap[b]? = some (.cells (i64s L) t (0, 0))
theorem NumsI.cell {w : World} {b : Nat} {t : TypeId} {L : List Nat} (h : NumsI w b t L) (j : Nat) (hj : j < L.length) : w.cell? ⟨b, j, none⟩ = some (.int .i64 ((L.getD j 0 : Nat) : Int)) := by
  rw [cell_of_row w b j _ _ _ h.blk, i64s_get L j hj]
theorem NumsI.frozen {w : World} {b : Nat} {t : TypeId} {L : List Nat} (h : NumsI w b t L) (j : Nat) : w.frozen? ⟨b, j, none⟩ = false := frozen_of_row w b j _ _ h.blk
theorem NumsI.lt {w : World} {b : Nat} {t : TypeId} {L : List Nat} (h : NumsI w b t L) : b < w.heap.size := lt_of_block h.blk
theorem NumsI.keep {w w' : World} {b : Nat} {t : TypeId} {L : List Nat} (h : NumsI w b t L) (hb : Below w.heap.size w w') : NumsI w' b t L := ⟨(hb.block b h.lt).trans h.blk⟩
theorem NumsI.set {w : World} {b : Nat} {t : TypeId} {L : List Nat} (h : NumsI w b t L) (j x : Nat) : NumsI (w.setCell ⟨b, j, none⟩ (.int .i64 (x : Int))) b t (L.set j x) :=
  ⟨by rw [setCell_eq_setRow w b j _ _ _ _ h.blk, setRow_heap w b _ _ _ _ h.blk, i64s_set]⟩
theorem NumsI.other {w : World} {b c : Nat} {t : TypeId} {L : List Nat} (h : NumsI w b t L) (j : Nat) (v : Value) (hc : b ≠ c) : NumsI (w.setCell ⟨c, j, none⟩ v) b t L := ⟨(set_ne v hc).trans h.blk⟩
theorem NumsI.row {w : World} {b : Nat} {t : TypeId} {old : Array Value} (h : w.heap[b]? = some (.cells old t (0, 0))) (L : List Nat) : NumsI (w.setRow b (i64s L)) b t L := ⟨setRow_heap _ _ _ _ _ _ h⟩
theorem NumsI.rowOther {w : World} {b c : Nat} {t : TypeId} {L : List Nat} (h : NumsI w b t L) (C : Array Value) (hc : b ≠ c) : NumsI (w.setRow c C) b t L := ⟨(setRow_other _ _ _ _ hc).trans h.blk⟩
theorem NumsI.alloc {w : World} {b : Nat} {t : TypeId} {L : List Nat} (h : NumsI w b t L) (o : Obj) : NumsI (w.alloc o) b t L := ⟨blk_keep h.blk o⟩
theorem NumsI.new (w : World) (t : TypeId) (L : List Nat) : NumsI (w.alloc (.cells (i64s L) t)) w.heap.size t L := ⟨alloc_new _ _⟩
theorem num4_cut (s : ByteArray) (k : Nat) (h : s.size = 64) : getN (s.extract (4 * k) (4 * k + 4)).data.toList = num4 s.data.toList k := by
  rw [num4]
  congr 1
  rw [ByteArray.data_extract, Array.toList_extract, List.extract_eq_take_drop]
  rw [show 4 * k + 4 - 4 * k = 4 by omega]
theorem sigS_bits (x a b c p : Nat) (hx : x < 4294967296) (hp : 2 ^ c = p) : bits .xor .i64 (bits .xor .i64 ((rotr x a : Nat) : Int) ((rotr x b : Nat) : Int)) ((x : Int) / (p : Int)) = ((sigS x a b c : Nat) : Int) := by
  have h63 : ∀ n : Nat, n < 4294967296 → n < 2 ^ 63 := fun n h => by rw [show (2 : Nat) ^ 63 = 9223372036854775808 from by decide]; omega
  rw [show (x : Int) / (p : Int) = ((x >>> c : Nat) : Int) by rw [Nat.shiftRight_eq_div_pow, hp]; exact (Int.natCast_ediv _ _).symm,
    xor_i64 _ _ (h63 _ (rotr_lt _ _)) (h63 _ (rotr_lt _ _)), xor_i64 _ _ (h63 _ (xor32 (rotr_lt _ _) (rotr_lt _ _))) (h63 _ (shr_lt hx c)), sigS]
theorem sigR_bits (x a b c : Nat) : bits .xor .i64 (bits .xor .i64 ((rotr x a : Nat) : Int) ((rotr x b : Nat) : Int)) ((rotr x c : Nat) : Int) = ((sigR x a b c : Nat) : Int) := by
  have h63 : ∀ n : Nat, n < 4294967296 → n < 2 ^ 63 := fun n h => by rw [show (2 : Nat) ^ 63 = 9223372036854775808 from by decide]; omega
  rw [xor_i64 _ _ (h63 _ (rotr_lt _ _)) (h63 _ (rotr_lt _ _)), xor_i64 _ _ (h63 _ (xor32 (rotr_lt _ _) (rotr_lt _ _))) (h63 _ (rotr_lt _ _)), sigR]
theorem chI_bits (e f g : Nat) (he : e < 4294967296) (hf : f < 4294967296) (hg : g < 4294967296) : bits .or .i64 (bits .and .i64 (e : Int) (f : Int)) (bits .and .i64 (4294967295 - (e : Int)) (g : Int)) = ((chN e f g : Nat) : Int) := by
  have h63 : ∀ n : Nat, n < 4294967296 → n < 2 ^ 63 := fun n h => by rw [show (2 : Nat) ^ 63 = 9223372036854775808 from by decide]; omega
  rw [show (4294967295 - (e : Int)) = ((4294967295 - e : Nat) : Int) by omega, and_i64 _ _ (h63 _ he) (h63 _ hf), and_i64 _ _ (h63 _ (by omega)) (h63 _ hg), or_i64 _ _ (h63 _ (and32 hf)) (h63 _ (and32 hg)), chN]
theorem majI_bits (a b c : Nat) (ha : a < 4294967296) (hb : b < 4294967296) (hc : c < 4294967296) : bits .or .i64 (bits .or .i64 (bits .and .i64 (a : Int) (b : Int)) (bits .and .i64 (a : Int) (c : Int))) (bits .and .i64 (b : Int) (c : Int)) = ((majN a b c : Nat) : Int) := by
  have h63 : ∀ n : Nat, n < 4294967296 → n < 2 ^ 63 := fun n h => by rw [show (2 : Nat) ^ 63 = 9223372036854775808 from by decide]; omega
  rw [and_i64 _ _ (h63 _ ha) (h63 _ hb), and_i64 _ _ (h63 _ ha) (h63 _ hc), and_i64 _ _ (h63 _ hb) (h63 _ hc), or_i64 _ _ (h63 _ (and32 hb)) (h63 _ (and32 hc)), or_i64 _ _ (h63 _ (or32 (and32 hb) (and32 hc))) (h63 _ (and32 hc)), majN]
theorem wrapI (a b : Nat) (h : a + b < 9223372036854775808) : IntKind.i64.wrap ((a : Int) + (b : Int)) = ((a + b : Nat) : Int) := by
  rw [IntKind.wrap_i64]; omega
theorem wrap64I (a b : Nat) (h : a + b < 9223372036854775808) : wrap64 ((a : Int) + (b : Int)) = ((a + b : Nat) : Int) := by
  rw [wrap64]; omega
theorem tmodI (a : Nat) : ((a : Nat) : Int).tmod 4294967296 = ((a % 4294967296 : Nat) : Int) := by
  rw [Int.tmod_eq_emod_of_nonneg (by omega)]; omega
theorem fourI (w : World) (t u : TypeId) (L0 L1 L2 L3 : List Nat) (W : World) (hW : (((w.alloc (.cells (i64s L0) t)).alloc (.cells (i64s L1) u)).alloc (.cells (i64s L2) t)).alloc (.cells (i64s L3) u) = W) :
    NumsI W w.heap.size t L0 ∧ NumsI W (w.heap.size + 1) u L1 ∧ NumsI W (w.heap.size + 2) t L2 ∧ NumsI W (w.heap.size + 3) u L3 ∧ Below w.heap.size w W ∧ W.heap.size = w.heap.size + 4 := by
  subst hW
  have n0 := NumsI.new w t L0
  have b0 := alloc_below w (.cells (i64s L0) t)
  have z0 := World.size_alloc (w := w) (o := .cells (i64s L0) t)
  generalize w.alloc (.cells (i64s L0) t) = W0 at *
  have n1 := NumsI.new W0 u L1
  have b1 := alloc_below W0 (.cells (i64s L1) u)
  have z1 := World.size_alloc (w := W0) (o := .cells (i64s L1) u)
  rw [z0] at n1
  generalize W0.alloc (.cells (i64s L1) u) = W1 at *
  have n2 := NumsI.new W1 t L2
  have b2 := alloc_below W1 (.cells (i64s L2) t)
  have z2 := World.size_alloc (w := W1) (o := .cells (i64s L2) t)
  rw [z1, z0] at n2
  generalize W1.alloc (.cells (i64s L2) t) = W2 at *
  have n3 := NumsI.new W2 u L3
  have b3 := alloc_below W2 (.cells (i64s L3) u)
  have z3 := World.size_alloc (w := W2) (o := .cells (i64s L3) u)
  rw [z2, z1, z0] at n3
  generalize W2.alloc (.cells (i64s L3) u) = W3 at *
  exact ⟨((n0.keep b1).keep b2).keep b3, (n1.keep b2).keep b3, n2.keep b3, n3, ((b0.trans (b1.mono (by omega))).trans (b2.mono (by omega))).trans (b3.mono (by omega)), by omega⟩
end Ks
namespace Go.Proofs.Ytpdeicgjmjoglaa
open Go.RowKit Ks
set_option linter.unusedVariables false

set_option maxRecDepth 20000 in
set_option maxHeartbeats 1000000 in
theorem step_any (x : St) (s : ByteArray) (w : World) (hx : x.ok) (h : s.size = 64) :
    Calls Try.prog 54 #[.agg (i64s x.list), .string s, .agg (i64s kays)] w fun e w' => e = .returned (.agg (i64s (turnN x s.data.toList).list)) ∧ Below w.heap.size w w' := by
  refine calls_by fun R HR => ?_
  obtain ⟨C, hC⟩ : ∃ C, i64s x.list = C := ⟨_, rfl⟩
  rw [hC]
  have HC := Lib.hid hC
  clear hC
  obtain ⟨CK, hCK⟩ : ∃ CK, i64s kays = CK := ⟨_, rfl⟩
  rw [hCK]
  have HCK := Lib.hid hCK
  clear hCK
  go_enter Try.func54, Try.ntmps54
  go_upto_region 2 with fail
  refine code_cut (fun W => NumsI W w.heap.size 74 x.list ∧ NumsI W (w.heap.size + 1) 76 kays ∧ NumsI W (w.heap.size + 2) 74 (List.replicate 8 0) ∧ NumsI W (w.heap.size + 3) 76 (List.replicate 64 0) ∧ Below w.heap.size w W ∧ W.heap.size = w.heap.size + 4)
    (by rw [← HC.out, ← HCK.out]; exact fourI w 74 76 x.list kays (List.replicate 8 0) (List.replicate 64 0) _ rfl) ?_
  intro W hF
  have HF := Lib.hid hF
  clear hF HC HCK
  go_wp2_with fail
  go_loopw [8] (fun i wx => ∃ k L, k ≤ 64 ∧ i = .int .i64 (k : Nat) ∧ Hid (L = wordsN s.data.toList k ++ List.replicate (64 - k) 0) ∧ Hid (NumsI wx w.heap.size 74 x.list ∧ NumsI wx (w.heap.size + 1) 76 kays ∧ NumsI wx (w.heap.size + 2) 74 (List.replicate 8 0) ∧ NumsI wx (w.heap.size + 3) 76 L ∧ Below w.heap.size w wx)) (fun i _ => 64 - (intOf i).toNat)
  case atStart => exact ⟨0, _, by omega, rfl, Lib.hid rfl, Lib.hid ⟨HF.out.1, HF.out.2.1, HF.out.2.2.1, HF.out.2.2.2.1, HF.out.2.2.2.2.1⟩⟩
  case round =>
    obtain ⟨k, L, hk, rfl, hL, hN⟩ := hrel
    have hlen : L.length = 64 := by rw [hL.out]; exact wpad_length _ k hk
    by_cases hlt : k < 64
    · by_cases h16 : k < 16
      · have hx := Lib.hid (wpad_set s.data.toList k (num4 s.data.toList k) hlt (if_pos h16))
        have hn4 := Lib.hid (num4_cut s k h)
        have hl4 := Lib.hid (num4_lt s.data.toList k)
        go_wp2_with fail
        refine (rget_ok (s.extract (4 * k) (4 * k + 4)) _ (by rw [ByteArray.size_extract]; omega) (Or.inl (by rw [ByteArray.size_extract]; omega)) (by rw [hn4.out]; have := hl4.out; omega)).mono ?_
        rintro e w1 ⟨rfl, rfl⟩
        rw [hn4.out]
        obtain ⟨n0, n1, n2, n3, nb⟩ := hN.out
        have f1 := n3.frozen k
        have c1 := n3.cell k (by omega)
        clear n0 n1 n2 n3 nb
        generalize num4 s.data.toList k = v at *
        go_wp2_with fail
        go_round
        case rel =>
          refine ⟨k + 1, _, by omega, by go_num, Lib.hid rfl, Lib.hid ⟨hN.out.1.other _ _ (by omega), hN.out.2.1.other _ _ (by omega), hN.out.2.2.1.other _ _ (by omega), ?_, hN.out.2.2.2.2.setCell (by simp; omega) _⟩⟩
          rw [← hx.out, ← hL.out]
          exact hN.out.2.2.2.1.set _ _
        case measure => simp [intOf]; omega
      · have hx := Lib.hid (wpad_set s.data.toList k (wNext (wordsN s.data.toList k)) hlt (if_neg h16))
        obtain ⟨n0, n1, n2, n3, nb⟩ := hN.out
        obtain ⟨y16, h16'⟩ : ∃ y, L.getD (k - 16) 0 = y := ⟨_, rfl⟩
        obtain ⟨y15, h15'⟩ : ∃ y, L.getD (k - 15) 0 = y := ⟨_, rfl⟩
        obtain ⟨y7, h7'⟩ : ∃ y, L.getD (k - 7) 0 = y := ⟨_, rfl⟩
        obtain ⟨y2, h2'⟩ : ∃ y, L.getD (k - 2) 0 = y := ⟨_, rfl⟩
        have c16 := n3.cell (k - 16) (by omega)
        have c15 := n3.cell (k - 15) (by omega)
        have c7 := n3.cell (k - 7) (by omega)
        have c2 := n3.cell (k - 2) (by omega)
        rw [h16'] at c16
        rw [h15'] at c15
        rw [h7'] at c7
        rw [h2'] at c2
        have hl : ∀ j, L.getD j 0 < 4294967296 := fun j => by rw [hL.out]; exact getD_lt (wpad_lt s.data.toList k) j
        have HLT := Lib.hid (And.intro (h16' ▸ hl (k - 16)) (And.intro (h15' ▸ hl (k - 15)) (And.intro (h7' ▸ hl (k - 7)) (h2' ▸ hl (k - 2)))))
        have hV : Hid ((y16 + sigS y15 7 18 3 + y7 + sigS y2 17 19 10) % 4294967296 = wNext (wordsN s.data.toList k)) := Lib.hid (by
          rw [wNext, wordsN_length, ← wpad_get _ k (k - 16) (by omega), ← wpad_get _ k (k - 15) (by omega), ← wpad_get _ k (k - 7) (by omega), ← wpad_get _ k (k - 2) (by omega), ← hL.out, h16', h15', h7', h2'])
        clear h16' h15' h7' h2' hl n0 n1 n2 nb
        obtain ⟨j16, r16⟩ : ∃ j, k - 16 = j := ⟨_, rfl⟩
        obtain ⟨j15, r15⟩ : ∃ j, k - 15 = j := ⟨_, rfl⟩
        obtain ⟨j7, r7⟩ : ∃ j, k - 7 = j := ⟨_, rfl⟩
        obtain ⟨j2, r2⟩ : ∃ j, k - 2 = j := ⟨_, rfl⟩
        rw [r16] at c16
        rw [r15] at c15
        rw [r7] at c7
        rw [r2] at c2
        have w16 : IntKind.i64.wrap ((k : Int) - 16) = (j16 : Int) := by rw [IntKind.wrap_i64]; omega
        have w15 : IntKind.i64.wrap ((k : Int) - 15) = (j15 : Int) := by rw [IntKind.wrap_i64]; omega
        have w7 : IntKind.i64.wrap ((k : Int) - 7) = (j7 : Int) := by rw [IntKind.wrap_i64]; omega
        have w2 : IntKind.i64.wrap ((k : Int) - 2) = (j2 : Int) := by rw [IntKind.wrap_i64]; omega
        have b16 : (j16 : Int) < 64 := by omega
        have b15 : (j15 : Int) < 64 := by omega
        have b7 : (j7 : Int) < 64 := by omega
        have b2 : (j2 : Int) < 64 := by omega
        clear r16 r15 r7 r2
        go_wp2_with fail
        go_quiet (fail)
        have hbd := below_drewN (Below.refl wr.heap.size wr) nq
        have HM : Hid (Below wr.heap.size wr (wr.drewN nq)) := Lib.hid hbd
        clear hbd c15 c2 w15 w2 b15 b2
        generalize wr.drewN nq = v0 at *
        go_wp2_with fail
        refine (turn_any y15 7 _ HLT.out.2.1 (by decide) (by decide)).mono ?_
        rintro e v1 ⟨rfl, hb1⟩
        have HM1 := Lib.hid (HM.out.trans (hb1.mono HM.out.size))
        clear hb1 HM
        go_wp2_with fail
        refine (turn_any y15 18 _ HLT.out.2.1 (by decide) (by decide)).mono ?_
        rintro e v2 ⟨rfl, hb1⟩
        have HM2 := Lib.hid (HM1.out.trans (hb1.mono HM1.out.size))
        clear hb1 HM1
        go_wp2_with fail
        have e1 : bits .xor .i64 (bits .xor .i64 ((rotr y15 7 : Nat) : Int) ((rotr y15 18 : Nat) : Int)) (wrap64 ((y15 : Int) / 8)) = ((sigS y15 7 18 3 : Nat) : Int) := by
          rw [show wrap64 ((y15 : Int) / 8) = (y15 : Int) / 8 by have := HLT.out.2.1; rw [wrap64]; omega]
          exact sigS_bits y15 7 18 3 8 HLT.out.2.1 rfl
        rw [e1]
        clear e1
        have hA1 : Hid (sigS y15 7 18 3 < 4294967296) := Lib.hid (sigS_lt HLT.out.2.1)
        generalize sigS y15 7 18 3 = A at *
        refine (turn_any y2 17 _ HLT.out.2.2.2 (by decide) (by decide)).mono ?_
        rintro e v3 ⟨rfl, hb1⟩
        have HM1 := Lib.hid (HM2.out.trans (hb1.mono HM2.out.size))
        clear hb1 HM2
        go_wp2_with fail
        refine (turn_any y2 19 _ HLT.out.2.2.2 (by decide) (by decide)).mono ?_
        rintro e v4 ⟨rfl, hb1⟩
        have HM2 := Lib.hid (HM1.out.trans (hb1.mono HM1.out.size))
        clear hb1 HM1
        have c16' := (HM2.out.cell (p := ⟨w.heap.size + 3, j16, none⟩) n3.lt).trans c16
        have c7' := (HM2.out.cell (p := ⟨w.heap.size + 3, j7, none⟩) n3.lt).trans c7
        have hb := HM2.out
        have n3' := n3.keep HM2.out
        have hM := Lib.hid (And.intro (hN.out.1.keep hb) (And.intro (hN.out.2.1.keep hb) (And.intro (hN.out.2.2.1.keep hb) (And.intro n3' (hN.out.2.2.2.2.trans (hb.mono hN.out.2.2.2.2.size))))))
        have n3f := n3'.frozen k
        have n3c := n3'.cell k (by omega)
        clear c16 c7 n3 hb n3' HM2 hN
        go_wp2_with fail
        have e1 : bits .xor .i64 (bits .xor .i64 ((rotr y2 17 : Nat) : Int) ((rotr y2 19 : Nat) : Int)) (wrap64 ((y2 : Int) / 1024)) = ((sigS y2 17 19 10 : Nat) : Int) := by
          rw [show wrap64 ((y2 : Int) / 1024) = (y2 : Int) / 1024 by have := HLT.out.2.2.2; rw [wrap64]; omega]
          exact sigS_bits y2 17 19 10 1024 HLT.out.2.2.2 rfl
        rw [e1]
        clear e1
        have hE1 : Hid (sigS y2 17 19 10 < 4294967296) := Lib.hid (sigS_lt HLT.out.2.2.2)
        generalize sigS y2 17 19 10 = E at *
        refine wp_region_still_tail 16 (by kernel_rfl) (by kernel_rfl) ?_
        simp only [List.take_succ_cons, List.take_zero, List.drop_succ_cons, List.drop_zero]
        repeat still_step
        refine wpStill_nil ?_
        change wpList _ _ _ _ _ v4.drew
        obtain ⟨V, hVV⟩ : ∃ V, wNext (wordsN s.data.toList k) = V := ⟨_, rfl⟩
        have hw : (IntKind.i64.wrap (IntKind.i64.wrap (IntKind.i64.wrap ((y16 : Int) + A) + y7) + E)).tmod 4294967296 = (V : Int) := by
          have h1 := hV.out
          obtain ⟨l1, l2, l3, l4⟩ := HLT.out
          have l5 := hA1.out
          have l6 := hE1.out
          rw [wrapI _ _ (by omega), wrapI _ _ (by omega), wrapI _ _ (by omega), tmodI, h1, hVV]
        rw [hw]
        have hbd := drew_below v4
        have hM2 := Lib.hid (And.intro (hM.out.1.keep hbd) (And.intro (hM.out.2.1.keep hbd) (And.intro (hM.out.2.2.1.keep hbd) (And.intro (hM.out.2.2.2.1.keep hbd) (hM.out.2.2.2.2.trans (hbd.mono hM.out.2.2.2.2.size))))))
        rw [hVV] at hx
        clear hVV hw hV hbd hM c16' c7' w16 w7 b16 b7 n3c n3f
        generalize v4.drew = v5 at *
        have c1 := hM2.out.2.2.2.1.cell k (by omega)
        have f1 := hM2.out.2.2.2.1.frozen k
        go_wp2
        go_round
        case rel =>
          refine ⟨k + 1, _, by omega, by go_num, Lib.hid rfl, Lib.hid ⟨hM2.out.1.other _ _ (by omega), hM2.out.2.1.other _ _ (by omega), hM2.out.2.2.1.other _ _ (by omega), ?_, hM2.out.2.2.2.2.setCell (by simp; omega) _⟩⟩
          rw [← hx.out, ← hL.out]
          exact hM2.out.2.2.2.1.set _ _
        case measure => simp [intOf]; omega
    · obtain rfl : k = 64 := by omega
      have e5 : L = wordsN s.data.toList 64 := by rw [hL.out]; simp
      have hM := hN
      rw [e5] at hM
      clear e5
      clear hL hN hlen hk hlt HF
      rw [show ((64 : Nat) : Int) = (64 : Int) from rfl]
      have HS := Lib.hid (show (i64s x.list).size = 8 from rfl)
      go_upto_region 12 with (first
        | refine wpList_loadA rfl 74 (.tmp 3) rfl _ 74 _ _ 8 8 rfl hM.out.1.blk Try.underlying74 (by kernel_rfl) HS.out ?_
        | refine wpList_storeN rfl 74 (.tmp 13) (.tmp 85) rfl 74 _ (i64s x.list) 8 rfl rfl (by kernel_rfl) HS.out rfl (i64s_one _) ?_)
      have hz := hM.out.2.2.2.2.size
      have hb9 := alloc_below wr (.cells (i64s x.list) 74)
      have HF2 := Lib.hid (And.intro (NumsI.new wr 74 x.list) (And.intro (hM.out.1.keep hb9) (And.intro (hM.out.2.1.keep hb9) (And.intro (hM.out.2.2.1.keep hb9) (And.intro (hM.out.2.2.2.1.keep hb9) (hM.out.2.2.2.2.trans (hb9.mono hz)))))))
      have Hz := Lib.hid (show w.heap.size + 4 ≤ wr.heap.size by have := hM.out.2.2.2.1.lt; omega)
      clear hz hb9 hM HS
      generalize wr.alloc (.cells (i64s x.list) 74) = W3 at *
      generalize wr.heap.size = b4 at *
      go_wp2_with fail
      go_loopw [14] (fun i wx => ∃ k : Nat, k ≤ 64 ∧ i = .int .i64 k ∧ Hid (NumsI wx b4 74 (roundsN x (wordsN s.data.toList 64) k).list ∧ NumsI wx w.heap.size 74 x.list ∧ NumsI wx (w.heap.size + 1) 76 kays ∧ NumsI wx (w.heap.size + 2) 74 (List.replicate 8 0) ∧ NumsI wx (w.heap.size + 3) 76 (wordsN s.data.toList 64) ∧ Below w.heap.size w wx)) (fun i _ => 64 - (intOf i).toNat)
      case atStart => exact ⟨0, by omega, rfl, HF2⟩
      case round =>
        obtain ⟨k, hk, rfl, hN⟩ := hrel
        by_cases hlt : k < 64
        · obtain ⟨n7, n0, n1, n2, n5, nb⟩ := hN.out
          have hY := roundsN_ok hx (wordsN s.data.toList 64) k
          have hl7 : (wordsN s.data.toList 64).length = 64 := wordsN_length _ _
          obtain ⟨kk, hkk⟩ : ∃ kk, kays.getD k 0 = kk := ⟨_, rfl⟩
          obtain ⟨ww, hww⟩ : ∃ ww, (wordsN s.data.toList 64).getD k 0 = ww := ⟨_, rfl⟩
          have hs : roundsN x (wordsN s.data.toList 64) (k + 1) = roundN (roundsN x (wordsN s.data.toList 64) k) kk ww := by rw [← hkk, ← hww]; rfl
          have ck := n1.cell k hlt
          have cw := n5.cell k (by omega)
          rw [hkk] at ck
          rw [hww] at cw
          have HKW := Lib.hid (And.intro (show kk < 4294967296 from hkk ▸ getD_lt kays_lt k) (show ww < 4294967296 from hww ▸ getD_lt (wordsN_lt s.data.toList 64) k))
          obtain ⟨Y, hYY⟩ : ∃ Y, roundsN x (wordsN s.data.toList 64) k = Y := ⟨_, rfl⟩
          rw [hYY] at hs hY n7
          have c0 := n7.cell 0 (show 0 < 8 by decide)
          have c1 := n7.cell 1 (show 1 < 8 by decide)
          have c2 := n7.cell 2 (show 2 < 8 by decide)
          have c3 := n7.cell 3 (show 3 < 8 by decide)
          have c4 := n7.cell 4 (show 4 < 8 by decide)
          have c5 := n7.cell 5 (show 5 < 8 by decide)
          have c6 := n7.cell 6 (show 6 < 8 by decide)
          have c7 := n7.cell 7 (show 7 < 8 by decide)
          have HN := Lib.hid (And.intro n7 (And.intro n0 (And.intro n1 (And.intro n2 (And.intro n5 nb)))))
          clear n7 n0 n1 n2 n5 nb hN hkk hww hYY HF2
          obtain ⟨ya, yb, yc, yd, ye, yf, yg, yh⟩ := Y
          change wr.cell? ⟨b4, 0, none⟩ = some (.int .i64 (ya : Int)) at c0
          change wr.cell? ⟨b4, 1, none⟩ = some (.int .i64 (yb : Int)) at c1
          change wr.cell? ⟨b4, 2, none⟩ = some (.int .i64 (yc : Int)) at c2
          change wr.cell? ⟨b4, 3, none⟩ = some (.int .i64 (yd : Int)) at c3
          change wr.cell? ⟨b4, 4, none⟩ = some (.int .i64 (ye : Int)) at c4
          change wr.cell? ⟨b4, 5, none⟩ = some (.int .i64 (yf : Int)) at c5
          change wr.cell? ⟨b4, 6, none⟩ = some (.int .i64 (yg : Int)) at c6
          change wr.cell? ⟨b4, 7, none⟩ = some (.int .i64 (yh : Int)) at c7
          have HL := Lib.hid hY
          have HS := Lib.hid hs
          have HX := Lib.hid hx
          clear hs hY hx hl7
          go_wp2_with fail
          go_quiet (fail)
          go_wp2_with fail
          have hbd := below_drewN (Below.refl wr.heap.size wr) nq
          have ck' := (hbd.cell (p := ⟨w.heap.size + 1, k, none⟩) HN.out.2.2.1.lt).trans ck
          have cw' := (hbd.cell (p := ⟨w.heap.size + 3, k, none⟩) HN.out.2.2.2.2.1.lt).trans cw
          have HM := Lib.hid hbd
          clear hbd c0 c1 c2 c3 c4 c5 c6 c7 ck cw
          generalize wr.drewN nq = v0 at *
          have ck := fun p => after_cell ck' p
          have cw := fun p => after_cell cw' p
          clear ck' cw'
          have T6 := Lib.hid fun p => calls_after (p := p) (turn_any ye 6 (After v0 p) HL.out.2.2.2.2.1 (by decide) (by decide))
          have T11 := Lib.hid fun p => calls_after (p := p) (turn_any ye 11 (After v0 p) HL.out.2.2.2.2.1 (by decide) (by decide))
          have T25 := Lib.hid fun p => calls_after (p := p) (turn_any ye 25 (After v0 p) HL.out.2.2.2.2.1 (by decide) (by decide))
          refine wp_region_after (by kernel_rfl) (by kernel_rfl) ?_
          repeat (quiet_step (fail))
          quiet_step (exact T6.out _)
          repeat (quiet_step (fail))
          quiet_step (exact T11.out _)
          repeat (quiet_step (fail))
          quiet_step (exact T25.out _)
          repeat (quiet_step (fail))
          refine wpQuiet_nil ?_
          rintro v1 ⟨p, rfl⟩
          have hb1 := after_below v0 p
          have HM1 := Lib.hid (HM.out.trans (hb1.mono HM.out.size))
          clear hb1 HM ck cw T6 T11 T25
          generalize After v0 p = v1 at *
          obtain ⟨t, ht⟩ : ∃ t, tN ⟨ya, yb, yc, yd, ye, yf, yg, yh⟩ kk ww = t := ⟨_, rfl⟩
          have hw : IntKind.i64.wrap (IntKind.i64.wrap (IntKind.i64.wrap (IntKind.i64.wrap ((yh : Int) + bits .xor .i64 (bits .xor .i64 ((rotr ye 6 : Nat) : Int) ((rotr ye 11 : Nat) : Int)) ((rotr ye 25 : Nat) : Int)) + bits .or .i64 (bits .and .i64 (ye : Int) (yf : Int)) (bits .and .i64 (IntKind.i64.wrap (4294967295 - (ye : Int))) (yg : Int))) + kk) + ww) = (t : Int) := by
            obtain ⟨l1, l2, l3, l4, l5, l6, l7, l8⟩ := HL.out
            obtain ⟨l9, l10⟩ := HKW.out
            have e1 : IntKind.i64.wrap (4294967295 - (ye : Int)) = 4294967295 - (ye : Int) := by
              have : ye < 4294967296 := l5
              rw [IntKind.wrap_i64]; omega
            have m1 := sigR_lt (x := ye) (a := 6) (b := 11) (c := 25)
            have m2 := chN_lt (e := ye) l6 l7
            rw [e1, sigR_bits, chI_bits ye yf yg l5 l6 l7, ← ht, tN]
            change yh < _ at l8
            change chN ye yf yg < _ at m2
            rw [wrapI _ _ (by omega), wrapI _ _ (by omega), wrapI _ _ (by omega), wrapI _ _ (by omega)]
          rw [hw]
          have HTL : Hid (t < 30000000000) := Lib.hid (by
            obtain ⟨l1, l2, l3, l4, l5, l6, l7, l8⟩ := HL.out
            obtain ⟨l9, l10⟩ := HKW.out
            have m1 := sigR_lt (x := ye) (a := 6) (b := 11) (c := 25)
            have m2 := chN_lt (e := ye) l6 l7
            change yh < _ at l8
            change chN ye yf yg < _ at m2
            rw [← ht, tN]
            change yh + sigR ye 6 11 25 + chN ye yf yg + kk + ww < _
            omega)
          have HT := Lib.hid ht
          clear hw ht
          go_wp2_with fail
          refine (turn_any ya 2 _ HL.out.1 (by decide) (by decide)).mono ?_
          rintro e v2 ⟨rfl, hb1⟩
          have HM2 := Lib.hid (HM1.out.trans (hb1.mono HM1.out.size))
          clear hb1 HM1
          go_wp2_with fail
          refine (turn_any ya 13 _ HL.out.1 (by decide) (by decide)).mono ?_
          rintro e v3 ⟨rfl, hb1⟩
          have HM1 := Lib.hid (HM2.out.trans (hb1.mono HM2.out.size))
          clear hb1 HM2
          go_wp2_with fail
          refine (turn_any ya 22 _ HL.out.1 (by decide) (by decide)).mono ?_
          rintro e v4 ⟨rfl, hb1⟩
          have HM2 := Lib.hid (HM1.out.trans (hb1.mono HM1.out.size))
          clear hb1 HM1
          go_upto_region 18 with fail
          obtain ⟨u, hu⟩ : ∃ u, uN ⟨ya, yb, yc, yd, ye, yf, yg, yh⟩ = u := ⟨_, rfl⟩
          have hw : wrap64 (bits .xor .i64 (bits .xor .i64 ((rotr ya 2 : Nat) : Int) ((rotr ya 13 : Nat) : Int)) ((rotr ya 22 : Nat) : Int) + bits .or .i64 (bits .or .i64 (bits .and .i64 (ya : Int) (yb : Int)) (bits .and .i64 (ya : Int) (yc : Int))) (bits .and .i64 (yb : Int) (yc : Int))) = (u : Int) := by
            obtain ⟨l1, l2, l3, l4, l5, l6, l7, l8⟩ := HL.out
            have m1 := sigR_lt (x := ya) (a := 2) (b := 13) (c := 22)
            have m2 := majN_lt (a := ya) l2 l3
            rw [sigR_bits, majI_bits ya yb yc l1 l2 l3, ← hu, uN]
            change majN ya yb yc < _ at m2
            rw [wrap64I _ _ (by omega)]
          rw [hw]
          have HUL : Hid (u < 10000000000 ∧ yd < 4294967296) := Lib.hid (by
            obtain ⟨l1, l2, l3, l4, l5, l6, l7, l8⟩ := HL.out
            have m1 := sigR_lt (x := ya) (a := 2) (b := 13) (c := 22)
            have m2 := majN_lt (a := ya) l2 l3
            change majN ya yb yc < _ at m2
            refine ⟨?_, l4⟩
            rw [← hu, uN]
            change sigR ya 2 13 22 + majN ya yb yc < _
            omega)
          have HU := Lib.hid hu
          clear hw hu
          have HM := Lib.hid (And.intro (HN.out.1.keep HM2.out) (And.intro (HN.out.2.1.keep HM2.out) (And.intro (HN.out.2.2.1.keep HM2.out) (And.intro (HN.out.2.2.2.1.keep HM2.out) (And.intro (HN.out.2.2.2.2.1.keep HM2.out) (HN.out.2.2.2.2.2.trans (HM2.out.mono HN.out.2.2.2.2.2.size)))))))
          clear HN HM2
          go_wp2_with (apply wpList_storeA rfl 74 (.tmp 13) (.tmp 167) rfl _ 74 _ _ 8 rfl rfl HM.out.1.blk (by kernel_rfl))
          case hn => rfl
          case hs => rfl
          case h1 => simp [Value.oneCell']
          case roundEnd =>
            rw [wrap64I t u (by have := HTL.out; have := HUL.out.1; omega), wrap64I yd t (by have := HTL.out; have := HUL.out.2; omega), tmodI, tmodI]
            refine ⟨⟨k + 1, by omega, by go_num, Lib.hid ⟨?_, HM.out.2.1.rowOther _ (by have := Hz.out; omega), HM.out.2.2.1.rowOther _ (by have := Hz.out; omega), HM.out.2.2.2.1.rowOther _ (by have := Hz.out; omega), HM.out.2.2.2.2.1.rowOther _ (by have := Hz.out; omega), below_setRow HM.out.2.2.2.2.2 (by have := Hz.out; omega) _⟩⟩, by simp [intOf]; omega⟩
            rw [HS.out]
            have hC : i64s (roundN ⟨ya, yb, yc, yd, ye, yf, yg, yh⟩ kk ww).list = #[.int .i64 (((t + u) % 4294967296 : Nat) : Int), .int .i64 (ya : Int), .int .i64 (yb : Int), .int .i64 (yc : Int), .int .i64 (((yd + t) % 4294967296 : Nat) : Int), .int .i64 (ye : Int), .int .i64 (yf : Int), .int .i64 (yg : Int)] := by
              rw [← HT.out, ← HU.out]; rfl
            rw [← hC]
            exact NumsI.row HM.out.1.blk _
        · obtain rfl : k = 64 := by omega
          obtain ⟨Y, hYY⟩ : ∃ Y, roundsN x (wordsN s.data.toList 64) 64 = Y := ⟨_, rfl⟩
          have HYX : Hid (turnN x s.data.toList = addN Y x) := Lib.hid (by rw [turnN, hYY])
          rw [hYY] at hN
          have HYO := Lib.hid (show Y.ok from hYY ▸ roundsN_ok hx (wordsN s.data.toList 64) 64)
          clear hYY
          have HX := Lib.hid hx
          clear hx HF2 hk hlt
          rw [show ((64 : Nat) : Int) = (64 : Int) from rfl]
          go_wp2_with fail
          go_loopw [25] (fun i wx => ∃ k : Nat, k ≤ 8 ∧ i = .int .i64 k ∧ Hid (NumsI wx b4 74 (sumsN Y.list x.list k) ∧ NumsI wx w.heap.size 74 x.list ∧ NumsI wx (w.heap.size + 2) 74 (List.replicate 8 0) ∧ Below w.heap.size w wx)) (fun i _ => 8 - (intOf i).toNat)
          case atStart => exact ⟨0, by omega, rfl, Lib.hid ⟨hN.out.1, hN.out.2.1, hN.out.2.2.2.1, hN.out.2.2.2.2.2⟩⟩
          case round =>
            obtain ⟨k, hk, rfl, hM⟩ := hrel
            by_cases hlt : k < 8
            · obtain ⟨y, hy⟩ : ∃ y, Y.list.getD k 0 = y := ⟨_, rfl⟩
              obtain ⟨z, hz⟩ : ∃ z, x.list.getD k 0 = z := ⟨_, rfl⟩
              have hset := Lib.hid (sumsN_set Y.list x.list k hlt)
              have hyz := Lib.hid (And.intro (show y < 4294967296 from hy ▸ st_lt HYO.out k) (show z < 4294967296 from hz ▸ st_lt HX.out k))
              have cy := hM.out.1.cell k (by rw [sumsN_length]; exact hlt)
              have cx := hM.out.2.1.cell k (show k < 8 from hlt)
              have fy := hM.out.1.frozen k
              rw [sumsN_get _ _ _ hlt, hy] at cy
              rw [hz] at cx
              rw [hy, hz] at hset
              clear hy hz hN
              go_wp2_with fail
              refine wp_region_still_tail 10 (by kernel_rfl) (by kernel_rfl) ?_
              simp only [List.take_succ_cons, List.take_zero, List.drop_succ_cons, List.drop_zero]
              repeat still_step
              refine wpStill_nil ?_
              change wpList _ _ _ _ _ wr.drew
              have hw : (IntKind.i64.wrap ((y : Int) + z)).tmod 4294967296 = (((y + z) % 4294967296 : Nat) : Int) := by
                obtain ⟨l1, l2⟩ := hyz.out
                rw [wrapI _ _ (by omega), tmodI]
              rw [hw]
              have hbd := drew_below wr
              have hM2 := Lib.hid (And.intro (hM.out.1.keep hbd) (And.intro (hM.out.2.1.keep hbd) (And.intro (hM.out.2.2.1.keep hbd) (hM.out.2.2.2.trans (hbd.mono hM.out.2.2.2.size)))))
              clear hw hM hbd cy cx fy
              generalize wr.drew = w9 at *
              have cy := hM2.out.1.cell k (by rw [sumsN_length]; exact hlt)
              have fy := hM2.out.1.frozen k
              obtain ⟨sm, hsm⟩ : ∃ sm, (y + z) % 4294967296 = sm := ⟨_, rfl⟩
              rw [hsm] at hset ⊢
              clear hsm
              go_wp2
              go_round
              case rel =>
                refine ⟨k + 1, by omega, by go_num, Lib.hid ⟨?_, hM2.out.2.1.other _ _ (by have := Hz.out; omega), hM2.out.2.2.1.other _ _ (by have := Hz.out; omega), hM2.out.2.2.2.setCell (by have := Hz.out; simp; omega) _⟩⟩
                rw [← hset.out]
                exact hM2.out.1.set _ _
              case measure => simp [intOf]; omega
            · obtain rfl : k = 8 := by omega
              have e1 := Lib.hid hM.out.1.blk
              have e2 := Lib.hid hM.out.2.2.1.blk
              have e3 := Lib.hid hM.out.2.2.2
              have e4 : Hid ((i64s (sumsN Y.list x.list 8)).size = 8) := Lib.hid rfl
              have e5 : Hid (i64s (sumsN Y.list x.list 8) = i64s (turnN x s.data.toList).list) := Lib.hid (by rw [HYX.out]; rfl)
              clear hM hN hk hlt
              generalize i64s (sumsN Y.list x.list 8) = CC at *
              go_wp2_with (first
                | refine wpList_loadA rfl 74 _ rfl _ 74 _ _ 8 8 rfl e1.out Try.underlying74 (by kernel_rfl) e4.out ?_
                | refine wpList_storeA rfl 74 _ _ rfl _ 74 _ _ 8 rfl rfl e2.out (by kernel_rfl) e4.out rfl (by rw [e5.out]; exact i64s_one _) ?_)
              exact ret_arr (N := 8) (C := CC) Try.results54 rfl (setRow_heap _ _ _ _ _ _ e2.out) Try.underlying74 (by kernel_rfl) e4.out rfl (HR.out _ _ ⟨by rw [e5.out], below_setRow e3.out (by omega) _⟩)
end Go.Proofs.Ytpdeicgjmjoglaa
/- What the reference's Put answers. -/
namespace Go.Proofs.Ytpdeicgjmjoglaa
open Go.RowKit Ks
set_option linter.unusedVariables false

set_option maxHeartbeats 400000 in
theorem rput_err (n width : Int) (w : World) (h : width < 1 ∨ 8 < width ∨ n < 0) :
    Calls Try.prog 66 #[.int .i64 n, .int .i64 width] w fun e w' => e = .returned (.tuple #[.string ⟨#[]⟩, .int .i64 2]) ∧ w = w' := by
  rcases h with h | h | h
  all_goals
    go_enter Try.func66, Try.ntmps66
    go_wp2
    all_goals first
      | (go_ret2; exact ⟨rfl, rfl⟩)
      | (exfalso; omega)

set_option maxHeartbeats 400000 in
theorem rput_ok (n : Nat) (width : Nat) (w : World) (h1 : 1 ≤ width) (h2 : width ≤ 8) (h4 : n ≤ 9223372036854775807) :
    Calls Try.prog 66 #[.int .i64 n, .int .i64 width] w fun e w' => (n / 256 ^ width = 0 → e = .returned (.tuple #[.string ⟨(putL width n).toArray⟩, .int .i64 0])) ∧ (0 < n / 256 ^ width → e = .returned (.tuple #[.string ⟨#[]⟩, .int .i64 2])) ∧ Below w.heap.size w w' := by
  refine calls_by fun R HR => ?_
  have hc := @conv_one Try.prog 91 9 5 Try.underlying91 Try.underlying5 Try.underlying9
  go_enter Try.func66, Try.ntmps66
  go_wp2
  go_loopw [0, 6, 7] (fun nv out i wr => ∃ k m : Nat, k ≤ width ∧ i = .int .i64 k ∧ nv = .int .i64 m ∧ m ≤ n ∧ Hid (m = n / 256 ^ k) ∧ out = .string ⟨(putL k n).toArray⟩ ∧ Below w.heap.size w wr) (fun _ _ i _ => width - (intOf i).toNat)
  case atStart => exact ⟨0, n, by omega, rfl, rfl, by omega, Lib.hid (by simp), rfl, Below.refl _ _⟩
  case round =>
    obtain ⟨k, m, hk, rfl, rfl, hm, hmk, rfl, hbel⟩ := hrel
    by_cases hlt : k < width
    · go_wp2
      go_roundw
      case rel =>
        refine ⟨k + 1, m / 256, by omega, by go_num, by simp, by omega, Lib.hid ?_, ?_, hbel.alloc hbel.size _⟩
        · rw [hmk.out, Nat.div_div_eq_div_mul, Nat.pow_succ]
        · rw [putL_succ', hmk.out, ByteArray.mk_append_one, ofNat_mod]
      case measure => simp [intOf]; omega
    · obtain rfl : k = width := by omega
      by_cases h0 : 0 < (m : Int)
      · go_wp2
        exact HR.out _ _ ⟨fun h => absurd h (by rw [← hmk.out]; omega), fun _ => rfl, hbel⟩
      · go_wp2
        exact HR.out _ _ ⟨fun _ => rfl, fun h => absurd h (by rw [← hmk.out]; omega), hbel⟩

theorem rput_any (n width : Int) (w : World) (hn : n ≤ 9223372036854775807) :
    Calls Try.prog 66 #[.int .i64 n, .int .i64 width] w fun e w' => e = .returned (.tuple #[.string (putS n width), .int .i64 (putE n width)]) ∧ Below w.heap.size w w' := by
  unfold putS putE
  by_cases h : width < 1 ∨ 8 < width ∨ n < 0
  · have hf : ¬ putOk n width = true := by simp only [putOk, decide_eq_true_eq]; omega
    rw [if_neg hf, if_neg hf]
    exact (rput_err n width w h).mono fun e w' ⟨he, hw⟩ => ⟨he, hw ▸ Below.refl _ _⟩
  · obtain ⟨n, rfl⟩ := Int.eq_ofNat_of_zero_le (show 0 ≤ n by omega)
    obtain ⟨width, rfl⟩ := Int.eq_ofNat_of_zero_le (show 0 ≤ width by omega)
    refine (rput_ok n width w (by omega) (by omega) (by omega)).mono fun e w' ⟨h1, h2, h3⟩ => ?_
    have hp : putOk n width = true ↔ n / 256 ^ width = 0 := by
      simp only [putOk, decide_eq_true_eq, Int.toNat_natCast]
      rw [show (256 : Nat) ^ width = 2 ^ (8 * width) by rw [Nat.pow_mul]]
      constructor
      · rintro ⟨_, _, _, h⟩
        by_cases hw : width < 8
        · exact h (by omega)
        · obtain rfl : width = 8 := by omega
          exact Nat.div_eq_of_lt (by omega)
      · exact fun h => ⟨by omega, by omega, by omega, fun _ => h⟩
    by_cases h0 : n / 256 ^ width = 0
    · rw [if_pos (hp.2 h0), if_pos (hp.2 h0)]
      exact ⟨h1 h0, h3⟩
    · have hf : ¬ putOk n width = true := fun h => h0 (hp.1 h)
      rw [if_neg hf, if_neg hf]
      exact ⟨h2 (Nat.pos_of_ne_zero h0), h3⟩

end Go.Proofs.Ytpdeicgjmjoglaa
/- The reference's Text. -/
namespace Go.Proofs.Ytpdeicgjmjoglaa
open Go.RowKit Ks
set_option linter.unusedVariables false

theorem rput4 (n : Nat) (w : World) (h : n < 4294967296) :
    Calls Try.prog 66 #[.int .i64 n, .int .i64 4] w fun e w' => e = .returned (.tuple #[.string ⟨(putL 4 n).toArray⟩, .int .i64 0]) ∧ Below w.heap.size w w' :=
  (rput_ok n 4 w (by decide) (by decide) (by omega)).mono fun e w' ⟨h1, _, h2⟩ => ⟨h1 (Nat.div_eq_of_lt (by rw [show (256 : Nat) ^ 4 = 4294967296 from by decide]; exact h)), h2⟩

set_option maxHeartbeats 1000000 in
theorem rtext_any (s : St) (w : World) (hs : s.ok) : Calls Try.prog 55 #[.agg (i64s s.list)] w fun e w' => e = .returned (.string ⟨(textL s).toArray⟩) ∧ Below w.heap.size w w' := by
  refine calls_by fun R HR => ?_
  obtain ⟨C, hC⟩ : ∃ C, i64s s.list = C := ⟨_, rfl⟩
  rw [hC]
  have HC := Lib.hid hC
  clear hC
  go_enter Try.func55, Try.ntmps55
  go_wp2_with fail
  have HF := Lib.hid (And.intro (show NumsI (w.alloc (.cells C 74)) w.heap.size 74 s.list by rw [← HC.out]; exact NumsI.new _ _ _) (alloc_below w (.cells C 74)))
  generalize w.alloc (.cells C 74) = W at *
  go_loopw [3, 4] (fun v i wx => ∃ k, k ≤ 8 ∧ i = .int .i64 (k : Nat) ∧ v = .string ⟨(textTo s k).toArray⟩ ∧ Hid (NumsI wx w.heap.size 74 s.list ∧ Below w.heap.size w wx)) (fun _ i _ => 8 - (intOf i).toNat)
  case atStart => exact ⟨0, by omega, rfl, rfl, HF⟩
  case round =>
    obtain ⟨k, hk, rfl, rfl, hN⟩ := hrel
    by_cases hlt : k < 8
    · have hts := textTo_succ s k hlt
      obtain ⟨n, hn⟩ : ∃ n, s.list.getD k 0 = n := ⟨_, rfl⟩
      have hn1 : n < 4294967296 := by rw [← hn]; exact st_lt hs k
      have ck := hN.out.1.cell k hlt
      rw [hn] at ck hts
      have HTS := Lib.hid hts
      have HL := Lib.hid hn1
      have HS := Lib.hid hs
      clear hn hn1 hts hs
      go_wp2_with fail
      refine (rput4 n _ HL.out).mono ?_
      rintro e w1 ⟨rfl, hb⟩
      have HM := Lib.hid (And.intro (hN.out.1.keep hb) (hN.out.2.trans (hb.mono hN.out.2.size)))
      clear hb hN ck
      have hAB : (textTo s k).length + (putL 4 n).length ≤ 9223372036854775807 := by rw [textTo_length s k hk, putL_length]; omega
      generalize textTo s k = A at *
      generalize putL 4 n = B at *
      go_wp2_with fail
      go_round
      case rel => exact ⟨k + 1, by omega, by go_num, by rw [HTS.out]; simp [ByteArray.mk_append_mk], HM⟩
      case measure => simp [intOf]; omega
    · obtain rfl : k = 8 := by omega
      have HM := Lib.hid hN.out.2
      clear hN HF
      go_wp2
      exact HR.out _ _ ⟨by rw [textTo_all]; rfl, HM.out⟩

end Go.Proofs.Ytpdeicgjmjoglaa
/- What the reference's Noughts answers. -/
namespace Go.Proofs.Ytpdeicgjmjoglaa
open Go.RowKit Ks
set_option linter.unusedVariables false

theorem Try.infoByteN : (Try.prog.info? 5).map (fun i => (i.zero, i.size, i.bytes)) = some (some (.int .u8 0), 1, 1) := by kernel_rfl

set_option maxHeartbeats 400000 in
theorem noughts_any (n : Int) (w : World) (hn : n ≤ 281474976710656) :
    Calls Try.prog 65 #[.int .i64 n] w fun e w' => e = .returned (.string (zerosS n)) ∧ Below w.heap.size w w' := by
  refine calls_by fun R HR => ?_
  by_cases h1 : n < 1
  · go_enter Try.func65, Try.ntmps65
    go_wp2
    refine HR.out _ _ ⟨?_, Below.refl _ _⟩
    rw [zerosS, show n.toNat = 0 by omega]
    rfl
  · obtain ⟨n, rfl⟩ := Int.eq_ofNat_of_zero_le (show 0 ≤ n by omega)
    have hmk := fun w => run_make_row' (P := Try.prog) 91 5 (.int .u8 0) 1 Try.underlying91 Try.infoByteN rfl .i64 .i64 n (by omega) (by omega) w
    have hconv := conv_row (P := Try.prog) (src := 91) (dst := 9) (cap := n) (List.replicate n 0) Try.underlying91 Try.underlying5 Try.underlying9 (World.rowIs_made w (.int .u8 0) n 5) (by simp) (by simp)
    go_enter Try.func65, Try.ntmps65
    go_wp2
    refine HR.out _ _ ⟨?_, (Below.refl _ _).alloc (Nat.le_refl _) _⟩
    rw [zerosS, show ((n : Int)).toNat = n by omega]
    simp

end Go.Proofs.Ytpdeicgjmjoglaa
/- The reference's Pad and Sum. -/
namespace Ks
open Go Go.RowKit
set_option linter.unusedVariables false
theorem pad_more (n j : Nat) (h : j < 63 - (n + 8) % 64) : (n + (1 + j)) % 64 ≠ 56 := by omega
theorem pad_end (n j : Nat) (h : j = 63 - (n + 8) % 64) : (n + (1 + j)) % 64 = 56 := by omega
theorem cut64 (s : ByteArray) (k : Nat) (h : 64 * k + 64 ≤ s.size) : (s.extract (64 * k) (64 * k + 64)).data.toList = (s.data.toList.drop (64 * k)).take 64 := by
  rw [ByteArray.data_extract, Array.toList_extract, List.extract_eq_take_drop, show 64 * k + 64 - 64 * k = 64 by omega]
theorem cutAt (A : ByteArray) (k : Nat) : (A.extract k (k + 64)).data.toList = (A.data.toList.drop k).take 64 := by
  rw [ByteArray.data_extract, Array.toList_extract, List.extract_eq_take_drop, show k + 64 - k = 64 by omega]
theorem fold_step (y : St) (l : List UInt8) (k : Nat) (h : k + 64 ≤ l.length) : foldN y (l.drop k) = foldN (turnN y ((l.drop k).take 64)) (l.drop (k + 64)) := by
  rw [foldN_ge y _ (by rw [List.length_drop]; omega), List.drop_drop]
end Ks
namespace Go.Proofs.Ytpdeicgjmjoglaa
open Go.RowKit Ks
set_option linter.unusedVariables false

set_option maxRecDepth 100000 in
set_option maxHeartbeats 1000000 in
theorem rpad_any (n : Nat) (w : World) (h : n ≤ 576460752303423488) : Calls Try.prog 51 #[.int .i64 n] w fun e w' => e = .returned (.string ⟨(padL n).toArray⟩) ∧ Below w.heap.size w w' := by
  refine calls_by fun R HR => ?_
  have hc := fun w cap => @conv_one Try.prog 91 9 5 Try.underlying91 Try.underlying5 Try.underlying9 128 cap 5 w
  go_enter Try.func51, Try.ntmps51
  go_wp2_with fail
  clear hc
  have HF := Lib.hid (alloc_below w (.cells #[.int .u8 128] 5))
  go_loopg [3] (63 - (n + 8) % 64) (fun g v wx => ∃ (S : ByteArray) (j : Nat), v = .string S ∧ j + g = 63 - (n + 8) % 64 ∧ Hid (S = ⟨(128 :: List.replicate j 0).toArray⟩) ∧ Hid (Below w.heap.size w wx))
  case atStart => exact ⟨_, 0, rfl, by omega, Lib.hid rfl, HF⟩
  case round =>
    obtain ⟨S, j, rfl, hj, hS, hN⟩ := hrel
    have hz : S.size = 1 + j := by rw [hS.out]; simp [ByteArray.size]; omega
    have hs1 : S.size ≤ 64 := by omega
    have Hj := Lib.hid hj
    by_cases hg : gk = 0
    · have ht : (((n : Int) + (S.size : Int)) % 64 != 56) = false := by
        have := pad_end n j (by omega)
        rw [hz, show ((n : Int) + ((1 + j : Nat) : Int)) % 64 = (((n + (1 + j)) % 64 : Nat) : Int) by omega, this]
        rfl
      have hP : Hid (padL n = S.data.toList ++ putL 8 (8 * n)) := Lib.hid (by rw [hS.out, padL, show 63 - (n + 8) % 64 = j by omega]; simp)
      clear hz hj hg
      go_wp2_with fail
      rw [show (8 * (n : Int)) = ((8 * n : Nat) : Int) by omega]
      refine (rput_ok (8 * n) 8 _ (by decide) (by decide) (by omega)).mono ?_
      rintro e w1 ⟨he, _, hb⟩
      rw [he (Nat.div_eq_of_lt (by rw [show (256 : Nat) ^ 8 = 18446744073709551616 from by decide]; omega))]
      have HM := Lib.hid (hN.out.trans (hb.mono hN.out.size))
      have hlen : S.size + (putL 8 (8 * n)).length ≤ 9223372036854775807 := by rw [putL_length]; omega
      clear he hb ht
      go_wp2
      refine HR.out _ _ ⟨?_, HM.out⟩
      rw [hP.out]
      exact congrArg (fun b => Ending.returned (Value.string b)) (by rw [← ByteArray.mk_append_mk])
    · have ht : (((n : Int) + (S.size : Int)) % 64 != 56) = true := by
        have := pad_more n j (by omega)
        rw [hz, show ((n : Int) + ((1 + j : Nat) : Int)) % 64 = (((n + (1 + j)) % 64 : Nat) : Int) by omega]
        simp; omega
      clear hz hj
      go_wp2_with fail
      refine (noughts_any 1 _ (by decide)).mono ?_
      rintro e w1 ⟨rfl, hb⟩
      have HM := Lib.hid (hN.out.trans (hb.mono hN.out.size))
      have hlen : S.size + (zerosS 1).size ≤ 9223372036854775807 := by rw [show (zerosS 1).size = 1 from zerosS_size 1]; omega
      clear hb ht
      go_wp2_with fail
      go_roundg (gk - 1)
      case rel =>
        refine ⟨_, j + 1, rfl, by have := Hj.out; omega, Lib.hid ?_, HM⟩
        rw [hS.out]
        show (ByteArray.mk _ ++ ByteArray.mk _) = _
        rw [ByteArray.mk_append_mk, List.replicate_succ']
        rfl
      case measure => omega

set_option maxRecDepth 100000 in
set_option maxHeartbeats 1000000 in
theorem rsum_any (s : ByteArray) (w : World) (h : s.size ≤ 1000000000) : Calls Try.prog 35 #[.string s] w fun e w' => e = .returned (.string ⟨(shaL s.data.toList).toArray⟩) ∧ Below w.heap.size w w' := by
  refine calls_by fun R HR => ?_
  go_enter Try.func35, Try.ntmps35
  go_wp2_with fail
  refine (rpad_any s.size _ (by omega)).mono ?_
  rintro e w1 ⟨rfl, hb⟩
  have HB1 := Lib.hid hb
  clear hb
  have hsl : s.data.toList.length = s.size := data_length s
  have hpl : (padL s.size).length ≤ 72 := by rw [padL_length]; omega
  have hcat : s.size + (padL s.size).length ≤ 9223372036854775807 := by omega
  obtain ⟨A, hA⟩ : ∃ A, s ++ ByteArray.mk (padL s.size).toArray = A := ⟨_, rfl⟩
  have hAd : A.data.toList = s.data.toList ++ padL s.data.toList.length := by rw [← hA, hsl]; simp
  have hAs : A.size = (s.data.toList ++ padL s.data.toList.length).length := by rw [← hAd]; exact (data_length A).symm
  have hAm : A.size % 64 = 0 := by rw [hAs]; exact padded _
  have hAl : A.size ≤ 1000000100 := by rw [hAs, List.length_append, hsl]; omega
  have HA := Lib.hid hA
  have HAD := Lib.hid hAd
  have HAM := Lib.hid hAm
  clear hA hAd hAs hAm hsl
  go_wp2_with fail
  rw [HA.out]
  clear hcat hpl HA
  refine (begin_any _).mono ?_
  rintro e w2 ⟨rfl, hb⟩
  have HB2 := Lib.hid (HB1.out.trans (hb.mono HB1.out.size))
  clear hb HB1
  obtain ⟨C, hC⟩ : ∃ C, i64s st0.list = C := ⟨_, rfl⟩
  rw [hC]
  have HC := Lib.hid hC
  clear hC
  go_wp2_with fail
  refine (rounds_any _).mono ?_
  rintro e w3 ⟨rfl, hb⟩
  have HB3 := Lib.hid (HB2.out.trans (hb.mono HB2.out.size))
  clear hb HB2
  obtain ⟨CK, hCK⟩ : ∃ CK, i64s kays = CK := ⟨_, rfl⟩
  rw [hCK]
  have HCK := Lib.hid hCK
  clear hCK
  have HS : Hid (C.size = 8 ∧ CK.size = 64) := Lib.hid ⟨by rw [← HC.out]; rfl, by rw [← HCK.out]; rfl⟩
  go_upto_region 3 with (first
    | refine wpList_storeA rfl 74 (.tmp 4) (.tmp 12) rfl _ 74 _ C 8 rfl rfl (blk_keep (alloc_new _ _) _) (by kernel_rfl) HS.out.1 rfl (by rw [← HC.out]; exact i64s_one _) ?_
    | refine wpList_storeA rfl 76 (.tmp 5) (.tmp 13) rfl _ 76 _ CK 64 rfl rfl ((setRow_other _ _ _ _ (by omega)).trans (alloc_new2 _ _ _)) (by kernel_rfl) HS.out.2 rfl (by rw [← HCK.out]; exact i64s_one _) ?_)
  refine code_cut (fun W => NumsI W w3.heap.size 74 st0.list ∧ NumsI W (w3.heap.size + 1) 76 kays ∧ Below w.heap.size w W) ?_ ?_
  · refine ⟨?_, ?_, ?_⟩
    · rw [← HC.out]
      exact (NumsI.row (blk_keep (alloc_new _ _) _) _).rowOther _ (by omega)
    · rw [← HCK.out]
      exact NumsI.row ((setRow_other _ _ _ _ (by omega)).trans (alloc_new2 _ _ _)) _
    · have hz := HB3.out.size
      exact below_setRow (below_setRow ((HB3.out.alloc (by omega) _).alloc (by simp; omega) _) (by omega) _) (by omega) _
  intro W hF
  have HF := Lib.hid hF
  have Hz := Lib.hid HB3.out.size
  clear hF HB3 HC HCK HS
  generalize w3.heap.size = b4 at *
  go_wp2_with fail
  go_loopg [6] (A.size / 64) (fun g i wx => ∃ (k : Nat) (y : St), i = .int .i64 k ∧ k ≤ A.size ∧ Hid (k + 64 * g = A.size ∧ y.ok) ∧ Hid (foldN y (A.data.toList.drop k) = foldN st0 A.data.toList) ∧ Hid (NumsI wx b4 74 y.list ∧ NumsI wx (b4 + 1) 76 kays ∧ Below w.heap.size w wx))
  case atStart => exact ⟨0, st0, rfl, by omega, Lib.hid ⟨by have := HAM.out; omega, st0_ok⟩, Lib.hid rfl, HF⟩
  case round =>
    obtain ⟨k, y, rfl, hk, hG, hY, hN⟩ := hrel
    by_cases hlt : k < A.size
    · have h64 : (k : Int) + 64 ≤ (A.size : Int) := by have := hG.out.1; have := HAM.out; omega
      have HST := Lib.hid (fold_step y A.data.toList k (by rw [data_length]; omega))
      obtain ⟨B, hB⟩ : ∃ B, A.extract k (k + 64) = B := ⟨_, rfl⟩
      have hBz : B.size = 64 := by rw [← hB, ByteArray.size_extract]; omega
      have HBD : Hid (B.data.toList = (A.data.toList.drop k).take 64) := Lib.hid (by rw [← hB]; exact cutAt A k)
      have HBB := Lib.hid hB
      have T := Lib.hid fun p => calls_after (p := p) (step_any y B (After wr p) hG.out.2 hBz)
      have HBZ := Lib.hid hBz
      clear hB hBz
      go_wp2_with fail
      have hB := HBB.out
      have w1 : IntKind.i64.wrap ((k : Int) + 64) = (k : Int) + 64 := by rw [IntKind.wrap_i64]; omega
      have w2 : (0 : Int) ≤ (k : Int) + 64 := by omega
      have w3 : ((k : Int) + 64).toNat = k + 64 := by omega
      have w4 : (k : Int) ≤ (k : Int) + 64 := by omega
      refine wp_region_after_tail 8 (by kernel_rfl) (by kernel_rfl) ?_
      simp only [List.take_succ_cons, List.take_zero, List.drop_succ_cons, List.drop_zero]
      refine wpQuiet_load_blk rfl 74 (.tmp 4) rfl b4 0 8 rfl (i64s y.list) (i64s y.list) 74 (0, 0) _ (after_blk hN.out.1.blk) rfl rfl Try.underlying74 rfl (by kernel_rfl) ?_
      quiet_step (fail)
      quiet_step (fail)
      quiet_step (fail)
      quiet_step (fail)
      quiet_step (fail)
      refine wpQuiet_load_blk rfl 76 (.tmp 5) rfl (b4 + 1) 0 64 rfl (i64s kays) (i64s kays) 76 (0, 0) _ (after_blk hN.out.2.1.blk) rfl rfl Try.underlying76 rfl (by kernel_rfl) ?_
      quiet_step (exact T.out _)
      refine wpQuiet_nil ?_
      rintro v1 ⟨p, rfl⟩
      have hb1 := after_below wr p
      have HN := Lib.hid (And.intro (hN.out.1.keep hb1) (And.intro (hN.out.2.1.keep hb1) (hN.out.2.2.trans (hb1.mono hN.out.2.2.size))))
      clear hb1 hN T w1 w2 w3 w4 hB HBB
      generalize After wr p = v1 at *
      have HE : Hid (i64s (turnN y B.data.toList).list = i64s (turnN y B.data.toList).list ∧ (i64s (turnN y B.data.toList).list).size = 8) := Lib.hid ⟨rfl, rfl⟩
      refine wpList_storeA rfl 74 (.tmp 4) (.tmp 27) rfl b4 74 (i64s y.list) (i64s (turnN y B.data.toList).list) 8 rfl rfl HN.out.1.blk (by kernel_rfl) rfl rfl (i64s_one _) ?_
      have HM : Hid (NumsI (v1.setRow b4 (i64s (turnN y B.data.toList).list)) b4 74 (turnN y B.data.toList).list ∧ NumsI (v1.setRow b4 (i64s (turnN y B.data.toList).list)) (b4 + 1) 76 kays ∧ Below w.heap.size w (v1.setRow b4 (i64s (turnN y B.data.toList).list))) :=
        Lib.hid ⟨NumsI.row HN.out.1.blk _, HN.out.2.1.rowOther _ (by omega), below_setRow HN.out.2.2 (by have := Hz.out; omega) _⟩
      generalize v1.setRow b4 (i64s (turnN y B.data.toList).list) = v2 at *
      generalize i64s (turnN y B.data.toList).list = D at *
      clear HE HN
      go_wp2_with fail
      go_roundg (gk - 1)
      case rel =>
        refine ⟨k + 64, turnN y B.data.toList, by go_num, by omega, Lib.hid ⟨by have := hG.out.1; omega, turnN_ok _ _⟩, Lib.hid ?_, HM⟩
        rw [HBD.out, ← HST.out, hY.out]
      case measure => have := hG.out.1; omega
    · obtain rfl : k = A.size := by omega
      have HX : Hid (y = foldN st0 (s.data.toList ++ padL s.data.toList.length)) := Lib.hid (by
        have h1 := hY.out
        rw [List.drop_eq_nil_of_le (by rw [data_length]; exact Nat.le_refl _), foldN_lt y [] (by decide), HAD.out] at h1
        exact h1)
      have HYO := Lib.hid hG.out.2
      clear hlt hk hY hG HF
      go_wp2_with (refine wpList_loadA rfl 74 (.tmp 4) rfl _ 74 _ _ 8 8 rfl hN.out.1.blk Try.underlying74 (by kernel_rfl) rfl ?_)
      refine (rtext_any y _ HYO.out).mono ?_
      rintro e v1 ⟨rfl, hb1⟩
      have HB := Lib.hid (hN.out.2.2.trans (hb1.mono hN.out.2.2.size))
      clear hb1 hN
      go_wp2
      exact HR.out _ _ ⟨by rw [shaL, ← HX.out]; rfl, HB.out⟩
end Go.Proofs.Ytpdeicgjmjoglaa
/- A sum as a string: of one text, of two, of none. -/
namespace Ks
open Go Go.RowKit
set_option linter.unusedVariables false
/-- a text's sum, as a string -/
def shaS (l : List UInt8) : ByteArray := ⟨(shaL l).toArray⟩
theorem shaS_eq (l : List UInt8) : (⟨(shaL l).toArray⟩ : ByteArray) = shaS l := rfl
theorem shaS_data (l : List UInt8) : (shaS l).data.toList = shaL l := rfl
theorem shaS_size (l : List UInt8) : (shaS l).size = 32 := by show (shaL l).toArray.size = 32; simp [shaL_length]
theorem join_one (s : ByteArray) : joinL [s] = s.data.toList := by simp [joinL]
theorem join_two (s t : ByteArray) : joinL [s, t] = s.data.toList ++ t.data.toList := by simp [joinL]
theorem Rd.one (w : World) (s : ByteArray) (T : TypeId) : Rd strE (w.alloc (.cells #[.string s] T)) (.slice (some ⟨w.heap.size, 0, none⟩) 1 1) [s] :=
  Rd.single s (alloc_new w _) rfl
end Ks
namespace Go.Proofs.Ytpdeicgjmjoglaa
open Go.RowKit Ks
set_option linter.unusedVariables false
/-- the sum of one text, that lies in a new block -/
theorem sum1_any (s : ByteArray) (T : TypeId) (w : World) (h : s.size ≤ 50000000000) :
    Calls Try.prog 27 #[.slice (some ⟨w.heap.size, 0, none⟩) 1 1] (w.alloc (.cells #[.string s] T)) fun e w' => e = .returned (.string (shaS s.data.toList)) ∧ Below w.heap.size w w' :=
  (sumv_any [s] _ _ (Rd.one w s T) (by rw [join_one, data_length]; exact h) (by simp)).mono fun e w' ⟨h1, h2⟩ => ⟨by rw [h1, join_one, shaS_eq], (alloc_below w _).trans (h2.mono (by simp))⟩
theorem sum2_any (s t : ByteArray) (T : TypeId) (w : World) (h : s.size ≤ 10000000000) (h2 : t.size ≤ 10000000000) :
    Calls Try.prog 27 #[.slice (some ⟨w.heap.size, 0, none⟩) 2 2] (w.alloc (.cells #[.string s, .string t] T)) fun e w' => e = .returned (.string (shaS (s.data.toList ++ t.data.toList))) ∧ Below w.heap.size w w' :=
  (sumv_any [s, t] _ _ (Rd.block (alloc_new w _) rfl) (by rw [join_two, List.length_append, data_length, data_length]; omega) (by simp)).mono fun e w' ⟨h1, h2⟩ => ⟨by rw [h1, join_two, shaS_eq], (alloc_below w _).trans (h2.mono (by simp))⟩
theorem sum0_any (w : World) : Calls Try.prog 27 #[.slice none 0 0] w fun e w' => e = .returned (.string (shaS [])) ∧ Below w.heap.size w w' :=
  (sumv_any [] _ _ (Rd.nil w) (by decide) (by decide)).mono fun e w' ⟨h1, h2⟩ => ⟨by rw [h1]; rfl, h2⟩
theorem rsumS_any (s : ByteArray) (w : World) (h : s.size ≤ 1000000000) : Calls Try.prog 35 #[.string s] w fun e w' => e = .returned (.string (shaS s.data.toList)) ∧ Below w.heap.size w w' := rsum_any s w h
end Go.Proofs.Ytpdeicgjmjoglaa
/- A node's text and its sum: plain. -/
namespace Ks
open Go
set_option linter.unusedVariables false
def insideS (a b : ByteArray) : ByteArray := ⟨(insideL a b).toArray⟩
theorem nodeS_size (a b : ByteArray) : (nodeS a b).size = 32 := sha1_size _
end Ks
