/- The law NetNil: what its walk gives. -/
import Derived.Test.YtpdnjhofmngfdaaNetLose
namespace Go.Proofs.Ytpdnjhofmngfdaa
open Go.RowKit Ks
set_option linter.unusedVariables false

set_option maxHeartbeats 2000000 in
theorem law_nil (t : Int) (s : ByteArray) (i : Int) (there : Bool) (w : World) :
    Calls Try.prog 5 #[.agg #[.int .i64 t, .string s], .int .i64 i, .bool there] w fun e w' => e = .returned (.bool true) ∧ Below w.heap.size w w' := by
  refine calls_by fun R HR => ?_
  have hA : Below w.heap.size w (w.alloc (.cells #[.int .i64 t, .string s] 24)) := (Below.refl _ _).alloc (Nat.le_refl _) _
  have hA2 : Below w.heap.size w ((w.alloc (.cells #[.int .i64 t, .string s] 24)).alloc (.cells #[.bool false, .slice none 0 0] 45)) := hA.alloc hA.size _
  have bx := heap_alloc_new w (.cells #[.int .i64 t, .string s] 24)
  have bx2 : ((w.alloc (.cells #[.int .i64 t, .string s] 24)).alloc (.cells #[.bool false, .slice none 0 0] 45)).heap[w.heap.size]? = some (.cells #[.int .i64 t, .string s] 24) := (((Below.refl _ _).alloc (Nat.le_refl _) _).block _ (by simp)).trans bx
  have bn := heap_alloc_new (w.alloc (.cells #[.int .i64 t, .string s] 24)) (.cells #[.bool false, .slice none 0 0] 45)
  rw [show (w.alloc (.cells #[.int .i64 t, .string s] 24)).heap.size = w.heap.size + 1 by simp] at bn
  have hdd : DeadAt ((w.alloc (.cells #[.int .i64 t, .string s] 24)).alloc (.cells #[.bool false, .slice none 0 0] 45)) 45 (.pointer (some ⟨w.heap.size + 1, 0, none⟩)) := Or.inr ⟨_, rfl, bn⟩
  have HDD := Lib.hid hdd
  clear hdd
  have HF := Lib.hid (And.intro hA (And.intro hA2 (And.intro bx (And.intro bx2 bn))))
  clear hA hA2 bx bx2 bn
  cases there
  case false =>
    go_enter Try.func5, Try.ntmps5
    go_wp2_with fail
    refine (take_dead (.pointer none) i _ (Or.inl rfl)).mono ?_
    rintro e w1 ⟨rfl, hb1⟩
    have hd1 : DeadAt w1 45 (.pointer none) := Or.inl rfl
    have hB1 := HF.out.1.trans (hb1.mono HF.out.1.size)
    have blk1 := (hb1.block w.heap.size (by simp)).trans HF.out.2.2.1
    have hz1 := lt_of_block blk1
    have x0 : w1.cell? ⟨w.heap.size, 0, none⟩ = some (.int .i64 t) := by rw [cell_of_row w1 _ 0 _ _ _ blk1]; rfl
    have x1 : w1.cell? ⟨w.heap.size, 1, none⟩ = some (.string s) := by rw [cell_of_row w1 _ 1 _ _ _ blk1]; rfl
    clear hb1
    have HD1 := Lib.hid hd1
    clear hd1
    go_wp2_with fail
    refine (send_dead _ _ _ (DeadAt.keep (DeadAt.keep HD1.out ((Below.refl _ _).alloc (Nat.le_refl _) _)) ((Below.refl _ _).alloc (Nat.le_refl _) _))).mono ?_
    rintro e w2 ⟨rfl, hb2⟩
    have hA2 := Below.trans (((Below.refl w1.heap.size w1).alloc (Nat.le_refl _) (.cells #[.int .i64 0, .string ⟨#[]⟩] 24)).alloc (by simp) _) (hb2.mono (by simp; omega))
    have HD2 := Lib.hid (HD1.out.keep hA2)
    have hB2 := hB1.trans (hA2.mono hB1.size)
    have blk2 := (hA2.block _ hz1).trans blk1
    have blky := (hb2.block w1.heap.size (by simp; omega)).trans ((((Below.refl _ _).alloc (Nat.le_refl _) _).block _ (by simp)).trans (heap_alloc_new w1 (.cells #[.int .i64 0, .string ⟨#[]⟩] 24)))
    have hz2 := lt_of_block blk2
    have y0 : w2.cell? ⟨w1.heap.size, 0, none⟩ = some (.int .i64 0) := by rw [cell_of_row w2 _ 0 _ _ _ blky]; rfl
    have y1 : w2.cell? ⟨w1.heap.size, 1, none⟩ = some (.string ⟨#[]⟩) := by rw [cell_of_row w2 _ 1 _ _ _ blky]; rfl
    clear x0 x1 hA2 hb2 hB1 blk1 HD1 blky
    go_wp2_with fail
    refine (lose_dead _ i _ HD2.out).mono ?_
    rintro e w3 ⟨rfl, hb3⟩
    have HD3 := Lib.hid (HD2.out.keep hb3)
    go_wp2_with fail
    refine (twice_dead _ i _ HD3.out).mono ?_
    rintro e w4 ⟨rfl, hb4⟩
    have HD4 := Lib.hid (HD3.out.keep hb4)
    have hb24 := hb3.trans (hb4.mono hb3.size)
    have blk4 := (hb24.block _ hz2).trans blk2
    have hB4 := hB2.trans (hb24.mono hB2.size)
    have x0 : w4.cell? ⟨w.heap.size, 0, none⟩ = some (.int .i64 t) := by rw [cell_of_row w4 _ 0 _ _ _ blk4]; rfl
    clear y0 y1 hb3 hb4 hb24 blk2 hB2 HD2 HD3 blk4
    go_wp2_with fail
    refine (first_dead _ t _ HD4.out).mono ?_
    rintro e w5 ⟨rfl, hb5⟩
    have HD5 := Lib.hid (HD4.out.keep hb5)
    have hB5 := hB4.trans (hb5.mono hB4.size)
    go_wp2_with fail
    refine (all_dead _ _ HD5.out).mono ?_
    rintro e w6 ⟨rfl, hb6⟩
    have HD6 := Lib.hid (HD5.out.keep hb6)
    have hB6 := hB5.trans (hb6.mono hB5.size)
    go_wp2_with fail
    refine (len_dead _ _ HD6.out).mono ?_
    rintro e w7 ⟨rfl, hb7⟩
    have hB7 := hB6.trans (hb7.mono hB6.size)
    go_wp2_with fail
    refine (alive_any _).mono ?_
    rintro e w8 ⟨rfl, hb8⟩
    go_wp2
    exact HR.out _ _ ⟨rfl, hB7.trans (hb8.mono hB7.size)⟩
  case true =>
    go_enter Try.func5, Try.ntmps5
    go_wp2_with fail
    refine (take_dead (.pointer (some ⟨w.heap.size + 1, 0, none⟩)) i ((w.alloc (.cells #[.int .i64 t, .string s] 24)).alloc (.cells #[.bool false, .slice none 0 0] 45)) HDD.out).mono ?_
    rintro e w1 ⟨rfl, hb1⟩
    have hd1 := DeadAt.keep HDD.out hb1
    have hB1 := HF.out.2.1.trans (hb1.mono HF.out.2.1.size)
    have blk1 := (hb1.block w.heap.size (by simp; omega)).trans HF.out.2.2.2.1
    have hz1 := lt_of_block blk1
    have x0 : w1.cell? ⟨w.heap.size, 0, none⟩ = some (.int .i64 t) := by rw [cell_of_row w1 _ 0 _ _ _ blk1]; rfl
    have x1 : w1.cell? ⟨w.heap.size, 1, none⟩ = some (.string s) := by rw [cell_of_row w1 _ 1 _ _ _ blk1]; rfl
    clear hb1
    have HD1 := Lib.hid hd1
    clear hd1
    go_wp2_with fail
    refine (send_dead _ _ _ (DeadAt.keep (DeadAt.keep HD1.out ((Below.refl _ _).alloc (Nat.le_refl _) _)) ((Below.refl _ _).alloc (Nat.le_refl _) _))).mono ?_
    rintro e w2 ⟨rfl, hb2⟩
    have hA2 := Below.trans (((Below.refl w1.heap.size w1).alloc (Nat.le_refl _) (.cells #[.int .i64 0, .string ⟨#[]⟩] 24)).alloc (by simp) _) (hb2.mono (by simp; omega))
    have HD2 := Lib.hid (HD1.out.keep hA2)
    have hB2 := hB1.trans (hA2.mono hB1.size)
    have blk2 := (hA2.block _ hz1).trans blk1
    have blky := (hb2.block w1.heap.size (by simp; omega)).trans ((((Below.refl _ _).alloc (Nat.le_refl _) _).block _ (by simp)).trans (heap_alloc_new w1 (.cells #[.int .i64 0, .string ⟨#[]⟩] 24)))
    have hz2 := lt_of_block blk2
    have y0 : w2.cell? ⟨w1.heap.size, 0, none⟩ = some (.int .i64 0) := by rw [cell_of_row w2 _ 0 _ _ _ blky]; rfl
    have y1 : w2.cell? ⟨w1.heap.size, 1, none⟩ = some (.string ⟨#[]⟩) := by rw [cell_of_row w2 _ 1 _ _ _ blky]; rfl
    clear x0 x1 hA2 hb2 hB1 blk1 HD1 blky
    go_wp2_with fail
    refine (lose_dead _ i _ HD2.out).mono ?_
    rintro e w3 ⟨rfl, hb3⟩
    have HD3 := Lib.hid (HD2.out.keep hb3)
    go_wp2_with fail
    refine (twice_dead _ i _ HD3.out).mono ?_
    rintro e w4 ⟨rfl, hb4⟩
    have HD4 := Lib.hid (HD3.out.keep hb4)
    have hb24 := hb3.trans (hb4.mono hb3.size)
    have blk4 := (hb24.block _ hz2).trans blk2
    have hB4 := hB2.trans (hb24.mono hB2.size)
    have x0 : w4.cell? ⟨w.heap.size, 0, none⟩ = some (.int .i64 t) := by rw [cell_of_row w4 _ 0 _ _ _ blk4]; rfl
    clear y0 y1 hb3 hb4 hb24 blk2 hB2 HD2 HD3 blk4
    go_wp2_with fail
    refine (first_dead _ t _ HD4.out).mono ?_
    rintro e w5 ⟨rfl, hb5⟩
    have HD5 := Lib.hid (HD4.out.keep hb5)
    have hB5 := hB4.trans (hb5.mono hB4.size)
    go_wp2_with fail
    refine (all_dead _ _ HD5.out).mono ?_
    rintro e w6 ⟨rfl, hb6⟩
    have HD6 := Lib.hid (HD5.out.keep hb6)
    have hB6 := hB5.trans (hb6.mono hB5.size)
    go_wp2_with fail
    refine (len_dead _ _ HD6.out).mono ?_
    rintro e w7 ⟨rfl, hb7⟩
    have hB7 := hB6.trans (hb7.mono hB6.size)
    go_wp2_with fail
    refine (alive_any _).mono ?_
    rintro e w8 ⟨rfl, hb8⟩
    go_wp2
    exact HR.out _ _ ⟨rfl, hB7.trans (hb8.mono hB7.size)⟩

end Go.Proofs.Ytpdnjhofmngfdaa
