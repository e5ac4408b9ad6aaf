/- The program's hash: its other functions; the sum of texts; a step. -/
import Derived.Test.YtdinijgjkakeiaaShaHash
import Derived.Test.YtdinijgjkakeiaaSeq
import Derived.Test.YtdinijgjkakeiaaShaRText
namespace Ks
open Go Go.RowKit
set_option linter.unusedVariables false
def strE : Enc ByteArray := ⟨1, fun s => [.string s], fun _ => rfl, fun x u hu => by simp only [List.mem_singleton] at hu; subst hu; rfl, by decide⟩
theorem Rd.str {w : World} {a : Option Addr} {n c : Nat} {l : List ByteArray} (h : Rd strE w (.slice a n c) l) (i : Nat) (hi : i < l.length) : ∃ b o, a = some ⟨b, o, none⟩ ∧ b < w.heap.size ∧ w.cell? ⟨b, o + i, none⟩ = some (.string l[i]) := by
  obtain ⟨b, o, h1, h2, h3⟩ := h.at i l[i] (List.getElem?_eq_getElem hi)
  refine ⟨b, o, h1, h2, ?_⟩
  have := h3 0 (.string l[i]) rfl
  simpa [strE] using this
/-- texts, one behind the other -/
def joinL (l : List ByteArray) : List UInt8 := l.flatMap fun s => s.data.toList
theorem joinL_take (l : List ByteArray) (k : Nat) (h : k < l.length) : joinL (l.take (k + 1)) = joinL (l.take k) ++ l[k].data.toList := by
  rw [joinL, List.take_succ_eq_append_getElem h, List.flatMap_append]; simp [joinL]
theorem joinL_append (a b : List ByteArray) : joinL (a ++ b) = joinL a ++ joinL b := by simp [joinL]
theorem joinL_le (l : List ByteArray) (k : Nat) : (joinL (l.take k)).length ≤ (joinL l).length := by
  have : joinL l = joinL (l.take k) ++ joinL (l.drop k) := by rw [← joinL_append, List.take_append_drop]
  rw [this, List.length_append]; omega
theorem Rd.other {α : Type} {E : Enc α} {w w' : World} {v : Value} {l : List α} {b B : Nat} (h : Rd E w v l) (hB : w.heap.size ≤ b) {w1 : World} (h1 : Below w.heap.size w w1) (ho : Only w1 w' b) : Rd E w' v l :=
  h.below (h1.trans (ho.below hB h1.size))
end Ks
namespace Go.Proofs.Ytdinijgjkakeiaa
open Go.RowKit Ks
set_option linter.unusedVariables false

set_option maxHeartbeats 1000000 in
theorem hlen_any (T : List UInt8) (b : Nat) (w : World) (hw : HashAt w 51 b T) :
    Calls Try.prog 27 #[.pointer (some ⟨b, 0, none⟩)] w fun e w' => e = .returned (.int .i64 (T.length : Nat)) ∧ w' = w := by
  have hbk : w.heap[b]? = some (.cells (hashC (foldN st0 T) ⟨(restL T).toArray⟩ T.length) 51 (0, 0)) := hw
  have c10 : w.cell? ⟨b, 10, none⟩ = some (.int .i64 (T.length : Nat)) := by rw [cell_of_row w b 10 _ _ _ hbk]; rfl
  have HT := Lib.hid (there_yes b w (by rw [cell_of_row w b 0 _ _ _ hbk]; rfl))
  clear hw hbk
  refine calls_by fun R HR => ?_
  go_enter Try.func27, Try.ntmps27
  go_wp2_with fail
  refine HT.out.mono ?_
  rintro e w1 ⟨rfl, rfl⟩
  go_wp2
  exact HR.out _ _ ⟨rfl, rfl⟩

set_option maxHeartbeats 1000000 in
theorem hcopy_any (T : List UInt8) (b : Nat) (w : World) (hw : HashAt w 51 b T) :
    Calls Try.prog 26 #[.pointer (some ⟨b, 0, none⟩)] w fun e w' => e = .returned (.pointer (some ⟨w.heap.size, 0, none⟩)) ∧ HashAt w' 51 w.heap.size T ∧ Below w.heap.size w w' := by
  have hbk : w.heap[b]? = some (.cells (hashC (foldN st0 T) ⟨(restL T).toArray⟩ T.length) 51 (0, 0)) := hw
  have HB := Lib.hid hbk
  have HT := Lib.hid (there_yes b w (by rw [cell_of_row w b 0 _ _ _ hbk]; rfl))
  clear hw hbk
  refine calls_by fun R HR => ?_
  go_enter Try.func26, Try.ntmps26
  go_wp2_with fail
  refine HT.out.mono ?_
  rintro e w1 ⟨rfl, rfl⟩
  obtain ⟨C, hC⟩ : ∃ C, hashC (foldN st0 T) ⟨(restL T).toArray⟩ T.length = C := ⟨_, rfl⟩
  have hCs : C.size = 11 := by rw [← hC]; rfl
  have hC1 : C.all (·.oneCell') = true := by rw [← hC]; exact hashC_one _ _ _
  have HC := Lib.hid (And.intro hC (And.intro hCs hC1))
  rw [hC] at HB
  clear hC hCs hC1
  go_wp2_with (first
    | refine wpList_load_blk rfl 51 (.tmp 8) rfl b 0 11 rfl C C 51 (0, 0) _ HB.out (by rw [← HC.out.1]; rfl) HC.out.2.1 Try.underlying51 rfl (by kernel_rfl) ?_
    | refine wpList_storeN rfl 51 (.tmp 3) (.tmp 9) rfl 51 _ C 11 rfl rfl (by kernel_rfl) HC.out.2.1 rfl HC.out.2.2 ?_)
  refine HR.out _ _ ⟨rfl, ?_, alloc_below _ _⟩
  show _ = some (Obj.cells _ _ _)
  rw [HC.out.1]; exact alloc_new _ _

set_option maxHeartbeats 1000000 in
theorem sumv_any (l : List ByteArray) (v : Value) (w : World) (hv : Rd strE w v l) (hl : (joinL l).length ≤ 50000000000) (hn : l.length ≤ 1000000000) :
    Calls Try.prog 9 #[v] w fun e w' => e = .returned (.string ⟨(shaL (joinL l)).toArray⟩) ∧ Below w.heap.size w w' := by
  refine calls_by fun R HR => ?_
  obtain ⟨a, cap, rfl, _, _⟩ := hv.shape
  have HV := Lib.hid hv
  clear hv
  go_enter Try.func9, Try.ntmps9
  go_wp2_with fail
  refine (new_any _).mono ?_
  rintro e w1 ⟨b, rfl, hb, hat, hbl⟩
  have HF := Lib.hid (And.intro hat (And.intro hbl (And.intro hb (Only.refl w1 b))))
  clear hb hat hbl
  go_wp2_with fail
  go_loopw [9] (fun i wx => ∃ k : Nat, k ≤ l.length ∧ i = .int .i64 k ∧ Hid (HashAt wx 51 b (joinL (l.take k)) ∧ Below w.heap.size w w1 ∧ w.heap.size ≤ b ∧ Only w1 wx b)) (fun i _ => l.length - (intOf i).toNat)
  case atStart => exact ⟨0, by omega, rfl, HF⟩
  case round =>
    obtain ⟨k, hk, rfl, hN⟩ := hrel
    by_cases hlt : k < l.length
    · have hrd : Rd strE wr (.slice a l.length cap) l := Rd.other (B := 0) HV.out hN.out.2.2.1 hN.out.2.1 hN.out.2.2.2
      obtain ⟨b1, o1, rfl, hb1, hc1⟩ := hrd.str k hlt
      have HJ := Lib.hid (joinL_take l k hlt)
      have hjl := joinL_le l (k + 1)
      rw [HJ.out, List.length_append, data_length] at hjl
      have HJL := Lib.hid hjl
      generalize l[k] = s at *
      clear hjl hrd hb1
      go_wp2_with fail
      refine (hput_any _ s b _ hN.out.1 (by have := HJL.out; omega)).mono ?_
      rintro e w2 ⟨rfl, hat, ho⟩
      rw [← HJ.out] at hat
      have HM := Lib.hid (And.intro hat (And.intro hN.out.2.1 (And.intro hN.out.2.2.1 (hN.out.2.2.2.trans ho))))
      clear hat ho hN hc1
      go_wp2_with fail
      go_roundw
      case rel => exact ⟨k + 1, by omega, by go_num, HM⟩
      case measure => simp [intOf]; omega
    · obtain rfl : k = l.length := by omega
      have HJ := Lib.hid (show joinL (l.take l.length) = joinL l by rw [List.take_length])
      clear HF hlt hk
      go_wp2_with fail
      refine (hsum_any _ b _ hN.out.1 (by rw [HJ.out]; exact hl)).mono ?_
      rintro e w2 ⟨rfl, hb2⟩
      have HM := Lib.hid (hN.out.2.1.trans ((hN.out.2.2.2.below hN.out.2.2.1 hN.out.2.1.size).trans (hb2.mono (Nat.le_trans hN.out.2.1.size hN.out.2.2.2.2.2.2.1))))
      clear hb2 hN
      go_wp2
      exact HR.out _ _ ⟨by rw [← HJ.out]; rfl, HM.out⟩

set_option maxHeartbeats 1000000 in
theorem firstS_any (w : World) : Calls Try.prog 18 #[] w fun e w' => e = .returned (.string ⟨(textL st0).toArray⟩) ∧ Below w.heap.size w w' := by
  refine calls_by fun R HR => ?_
  go_enter Try.func18, Try.ntmps18
  go_wp2_with fail
  refine (first_any _).mono ?_
  rintro e w1 ⟨rfl, hb⟩
  have HB := Lib.hid hb
  clear hb
  go_wp2_with fail
  refine (text_any st0 _ st0_ok).mono ?_
  rintro e w2 ⟨rfl, hb⟩
  have HB2 := Lib.hid (HB.out.trans (hb.mono HB.out.size))
  clear hb
  go_wp2
  exact HR.out _ _ ⟨rfl, HB2.out⟩
end Go.Proofs.Ytdinijgjkakeiaa
