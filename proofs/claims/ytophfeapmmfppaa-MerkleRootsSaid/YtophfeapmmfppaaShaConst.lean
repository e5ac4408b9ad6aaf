/- The digest's constants: the first state, the rounds' numbers; the reference's. -/
import Derived.Test.YtophfeapmmfppaaShaLow
import Derived.Test.YtophfeapmmfppaaArrRow
namespace Go.Proofs.Ytophfeapmmfppaa
open Go.RowKit Ks
set_option linter.unusedVariables false

set_option maxHeartbeats 1000000 in
theorem first_any (w : World) : Calls Try.prog 38 #[] w fun e w' => e = .returned (.agg (u32s st0.list)) ∧ Below w.heap.size w w' := by
  refine calls_by fun R HR => ?_
  go_enter Try.func38, Try.ntmps38
  go_wp2_with fail
  exact ret_arr (N := 8) (C := u32s st0.list) Try.results38 rfl (alloc_new _ _) Try.underlying67 (by kernel_rfl) rfl rfl (HR.out _ _ ⟨rfl, alloc_below _ _⟩)
set_option maxHeartbeats 4000000 in
set_option maxRecDepth 100000 in
theorem constants_any (w : World) : Calls Try.prog 51 #[] w fun e w' => e = .returned (.agg (u32s kays)) ∧ Below w.heap.size w w' := by
  refine calls_by fun R HR => ?_
  go_enter Try.func51, Try.ntmps51
  go_wp2_with (refine wpList_storeN rfl 82 _ _ rfl 82 _ (u32s kays) 64 rfl rfl (by kernel_rfl) rfl rfl (u32s_one _) ?_)
  exact ret_arr (N := 64) (C := u32s kays) Try.results51 rfl (alloc_new _ _) Try.underlying82 (by kernel_rfl) rfl rfl (HR.out _ _ ⟨rfl, alloc_below _ _⟩)
set_option maxHeartbeats 1000000 in
theorem begin_any (w : World) : Calls Try.prog 45 #[] w fun e w' => e = .returned (.agg (i64s st0.list)) ∧ Below w.heap.size w w' := by
  refine calls_by fun R HR => ?_
  go_enter Try.func45, Try.ntmps45
  go_wp2_with fail
  exact ret_arr (N := 8) (C := i64s st0.list) Try.results45 rfl (alloc_new _ _) Try.underlying75 (by kernel_rfl) rfl rfl (HR.out _ _ ⟨rfl, alloc_below _ _⟩)
set_option maxHeartbeats 4000000 in
set_option maxRecDepth 100000 in
theorem rounds_any (w : World) : Calls Try.prog 46 #[] w fun e w' => e = .returned (.agg (i64s kays)) ∧ Below w.heap.size w w' := by
  refine calls_by fun R HR => ?_
  go_enter Try.func46, Try.ntmps46
  go_wp2_with (refine wpList_storeN rfl 77 _ _ rfl 77 _ (i64s kays) 64 rfl rfl (by kernel_rfl) rfl rfl (i64s_one _) ?_)
  exact ret_arr (N := 64) (C := i64s kays) Try.results46 rfl (alloc_new _ _) Try.underlying77 (by kernel_rfl) rfl rfl (HR.out _ _ ⟨rfl, alloc_below _ _⟩)
end Go.Proofs.Ytophfeapmmfppaa
