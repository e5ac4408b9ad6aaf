/- The chapter's example. -/
import Derived.Test.YtcfjfnnmfdfmaaaCellPut
import Derived.Test.YtcfjfnnmfdfmaaaOctetNoughts
namespace Go.Proofs.Ytcfjfnnmfdfmaaa
open Go.RowKit Ks
set_option linter.unusedVariables false

theorem alive12H : cellH 1 2 3 false ⟨#[97, 98]⟩ = [1, 0, 0, 0, 1, 0, 0, 0, 2, 0, 0, 0, 3, 0, 0, 0, 2, 97, 98] := by decide +kernel
theorem bytes_eq {a b : ByteArray} (h : a.data.toList = b.data.toList) : a = b := by
  obtain ⟨⟨x⟩⟩ := a
  obtain ⟨⟨y⟩⟩ := b
  have : x = y := h
  rw [this]
theorem alive12 : ∃ S, cellS 1 2 3 false ⟨#[97, 98]⟩ = S ∧ cellE 1 2 3 false ⟨#[97, 98]⟩ = 0 ∧ S.size = 4096 ∧ S.extract 0 19 = ⟨#[1, 0, 0, 0, 1, 0, 0, 0, 2, 0, 0, 0, 3, 0, 0, 0, 2, 97, 98]⟩ ∧ S.extract 19 4096 = zerosS 4077 := by
  have hok : cellOk 1 2 3 false ⟨#[97, 98]⟩ = true := by decide +kernel
  have hB : cellB 1 2 3 false ⟨#[97, 98]⟩ = [1, 0, 0, 0, 1, 0, 0, 0, 2, 0, 0, 0, 3, 0, 0, 0, 2, 97, 98] ++ List.replicate 4077 0 := by rw [cellB, alive12H]; rfl
  have hS : cellS 1 2 3 false ⟨#[97, 98]⟩ = ⟨(([1, 0, 0, 0, 1, 0, 0, 0, 2, 0, 0, 0, 3, 0, 0, 0, 2, 97, 98] : List UInt8) ++ List.replicate 4077 0).toArray⟩ := by rw [cellS, if_pos hok, hB]
  have hz : (cellS 1 2 3 false ⟨#[97, 98]⟩).size = 4096 := by
    rw [hS]
    show ([1, 0, 0, 0, 1, 0, 0, 0, 2, 0, 0, 0, 3, 0, 0, 0, 2, 97, 98] ++ List.replicate 4077 (0 : UInt8)).length = 4096
    rw [List.length_append, List.length_replicate]; rfl
  refine ⟨_, rfl, by rw [cellE, if_pos hok], hz, ?_, ?_⟩
  · apply bytes_eq
    rw [data_extract, hS]
    show List.take 19 (List.drop 0 ([1, 0, 0, 0, 1, 0, 0, 0, 2, 0, 0, 0, 3, 0, 0, 0, 2, 97, 98] ++ List.replicate 4077 (0 : UInt8))) = _
    rw [List.drop_zero, List.take_append_of_le_length (by decide)]; rfl
  · apply bytes_eq
    rw [data_extract, hS]
    show List.take 4077 (List.drop 19 ([1, 0, 0, 0, 1, 0, 0, 0, 2, 0, 0, 0, 3, 0, 0, 0, 2, 97, 98] ++ List.replicate 4077 (0 : UInt8))) = List.replicate 4077 0
    rw [List.drop_append_of_le_length (by decide), List.drop_eq_nil_of_le (by decide), List.nil_append, List.take_of_length_le (by rw [List.length_replicate]; omega)]

set_option maxHeartbeats 1000000 in
theorem alive_any (w : World) : Calls Try.prog 7 #[] w fun e w' => e = .returned (.bool true) ∧ Below w.heap.size w w' := by
  refine calls_by fun R HR => ?_
  obtain ⟨S, h1, h2, h3, h4, h5⟩ := alive12
  have H5 : Hid ((((S.extract 19 4096).toList == (zerosS 4077).toList) = true)) := Lib.hid (by rw [h5]; exact beq_self_eq_true _)
  have h3a : 19 ≤ S.size := by omega
  have h3b : (S.size : Int) = 4096 := by omega
  clear h5
  go_enter Try.func7, Try.ntmps7
  go_wp2_with fail
  refine (cput_any _ _ _ _ _ _).mono ?_
  rintro e w1 ⟨rfl, hb1⟩
  rw [h1, h2]
  go_wp2_with fail
  go_region_held3 (fun w' => True)
    (first | trivial | go_keep)
    (first | (go_at_call 20; refine (noughts_any _ _ (by omega)).mono ?_; rintro en w2 ⟨rfl, hb2⟩))
  all_goals
    go_wp2
    refine HR.out _ _ ⟨by rw [H5.out]; rfl, hb1.trans (((Below.refl w1.heap.size w1).drew.trans hb2).mono hb1.size)⟩

end Go.Proofs.Ytcfjfnnmfdfmaaa
