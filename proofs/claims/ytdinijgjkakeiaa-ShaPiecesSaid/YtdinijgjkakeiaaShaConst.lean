/- The digest's constants: the first state, the rounds' numbers; the reference's. -/
import Derived.Test.YtdinijgjkakeiaaShaLow
import Derived.Test.YtdinijgjkakeiaaArrRow
namespace Go.Proofs.Ytdinijgjkakeiaa
open Go.RowKit Ks
set_option linter.unusedVariables false

set_option maxHeartbeats 1000000 in
theorem first_any (w : World) : Calls Try.prog 39 #[] w fun e w' => e = .returned (.agg (u32s st0.list)) ∧ Below w.heap.size w w' := by
  refine calls_by fun R HR => ?_
  go_enter Try.func39, Try.ntmps39
  go_wp2_with fail
  exact ret_arr (N := 8) (C := u32s st0.list) Try.results39 rfl (alloc_new _ _) Try.underlying49 (by kernel_rfl) rfl rfl (HR.out _ _ ⟨rfl, alloc_below _ _⟩)
set_option maxHeartbeats 4000000 in
set_option maxRecDepth 100000 in
theorem constants_any (w : World) : Calls Try.prog 46 #[] w fun e w' => e = .returned (.agg (u32s kays)) ∧ Below w.heap.size w w' := by
  refine calls_by fun R HR => ?_
  go_enter Try.func46, Try.ntmps46
  go_wp2_with (refine wpList_storeN rfl 69 _ _ rfl 69 _ (u32s kays) 64 rfl rfl (by kernel_rfl) rfl rfl (u32s_one _) ?_)
  exact ret_arr (N := 64) (C := u32s kays) Try.results46 rfl (alloc_new _ _) Try.underlying69 (by kernel_rfl) rfl rfl (HR.out _ _ ⟨rfl, alloc_below _ _⟩)
set_option maxHeartbeats 1000000 in
theorem begin_any (w : World) : Calls Try.prog 20 #[] w fun e w' => e = .returned (.agg (i64s st0.list)) ∧ Below w.heap.size w w' := by
  refine calls_by fun R HR => ?_
  go_enter Try.func20, Try.ntmps20
  go_wp2_with fail
  exact ret_arr (N := 8) (C := i64s st0.list) Try.results20 rfl (alloc_new _ _) Try.underlying37 (by kernel_rfl) rfl rfl (HR.out _ _ ⟨rfl, alloc_below _ _⟩)
set_option maxHeartbeats 4000000 in
set_option maxRecDepth 100000 in
theorem rounds_any (w : World) : Calls Try.prog 28 #[] w fun e w' => e = .returned (.agg (i64s kays)) ∧ Below w.heap.size w w' := by
  refine calls_by fun R HR => ?_
  go_enter Try.func28, Try.ntmps28
  go_wp2_with (refine wpList_storeN rfl 53 _ _ rfl 53 _ (i64s kays) 64 rfl rfl (by kernel_rfl) rfl rfl (i64s_one _) ?_)
  exact ret_arr (N := 64) (C := i64s kays) Try.results28 rfl (alloc_new _ _) Try.underlying53 (by kernel_rfl) rfl rfl (HR.out _ _ ⟨rfl, alloc_below _ _⟩)
end Go.Proofs.Ytdinijgjkakeiaa
