/- The digest's constants: the first state, the rounds' numbers; the reference's. -/
import Derived.Test.YtedjngljblhmpaaShaLow
import Derived.Test.YtedjngljblhmpaaArrRow
namespace Go.Proofs.Ytedjngljblhmpaa
open Go.RowKit Ks
set_option linter.unusedVariables false

set_option maxHeartbeats 1000000 in
theorem first_any (w : World) : Calls Try.prog 52 #[] w fun e w' => e = .returned (.agg (u32s st0.list)) ∧ Below w.heap.size w w' := by
  refine calls_by fun R HR => ?_
  go_enter Try.func52, Try.ntmps52
  go_wp2_with fail
  exact ret_arr (N := 8) (C := u32s st0.list) Try.results52 rfl (alloc_new _ _) Try.underlying92 (by kernel_rfl) rfl rfl (HR.out _ _ ⟨rfl, alloc_below _ _⟩)
set_option maxHeartbeats 4000000 in
set_option maxRecDepth 100000 in
theorem constants_any (w : World) : Calls Try.prog 66 #[] w fun e w' => e = .returned (.agg (u32s kays)) ∧ Below w.heap.size w w' := by
  refine calls_by fun R HR => ?_
  go_enter Try.func66, Try.ntmps66
  go_wp2_with (refine wpList_storeN rfl 105 _ _ rfl 105 _ (u32s kays) 64 rfl rfl (by kernel_rfl) rfl rfl (u32s_one _) ?_)
  exact ret_arr (N := 64) (C := u32s kays) Try.results66 rfl (alloc_new _ _) Try.underlying105 (by kernel_rfl) rfl rfl (HR.out _ _ ⟨rfl, alloc_below _ _⟩)
set_option maxHeartbeats 1000000 in
theorem begin_any (w : World) : Calls Try.prog 38 #[] w fun e w' => e = .returned (.agg (i64s st0.list)) ∧ Below w.heap.size w w' := by
  refine calls_by fun R HR => ?_
  go_enter Try.func38, Try.ntmps38
  go_wp2_with fail
  exact ret_arr (N := 8) (C := i64s st0.list) Try.results38 rfl (alloc_new _ _) Try.underlying68 (by kernel_rfl) rfl rfl (HR.out _ _ ⟨rfl, alloc_below _ _⟩)
set_option maxHeartbeats 4000000 in
set_option maxRecDepth 100000 in
theorem rounds_any (w : World) : Calls Try.prog 39 #[] w fun e w' => e = .returned (.agg (i64s kays)) ∧ Below w.heap.size w w' := by
  refine calls_by fun R HR => ?_
  go_enter Try.func39, Try.ntmps39
  go_wp2_with (refine wpList_storeN rfl 70 _ _ rfl 70 _ (i64s kays) 64 rfl rfl (by kernel_rfl) rfl rfl (i64s_one _) ?_)
  exact ret_arr (N := 64) (C := i64s kays) Try.results39 rfl (alloc_new _ _) Try.underlying70 (by kernel_rfl) rfl rfl (HR.out _ _ ⟨rfl, alloc_below _ _⟩)
end Go.Proofs.Ytedjngljblhmpaa
