/- The program's disk that is none, or that no call made: its acts. -/
import Derived.Test.YtielmlnbjliacaaDiskLoad
namespace Go.Proofs.Ytielmlnbjliacaa
open Go.RowKit Ks
set_option linter.unusedVariables false
theorem dread_no (v : Value) (i : Int) (w : World) (hv : DeadDisk w v) : Calls Try.prog 21 #[v, .int .i64 i] w fun e w' => e = .returned (.tuple #[.string ⟨#[]⟩, .int .i64 1]) ∧ w' = w := by
  refine calls_by fun R HR => ?_
  have HM := Lib.hid (dmay_no v w hv)
  clear hv
  go_enter Try.func21, Try.ntmps21
  go_wp2_with fail
  refine HM.out.mono ?_
  rintro e w1 ⟨rfl, rfl⟩
  go_wp2
  exact HR.out _ _ ⟨rfl, rfl⟩
theorem dwrite_no (v : Value) (i : Int) (t : ByteArray) (w : World) (hv : DeadDisk w v) : Calls Try.prog 16 #[v, .int .i64 i, .string t] w fun e w' => e = .returned (.int .i64 1) ∧ w' = w := by
  refine calls_by fun R HR => ?_
  have HM := Lib.hid (dmay_no v w hv)
  clear hv
  go_enter Try.func16, Try.ntmps16
  go_wp2_with fail
  refine HM.out.mono ?_
  rintro e w1 ⟨rfl, rfl⟩
  go_wp2
  exact HR.out _ _ ⟨rfl, rfl⟩
theorem dflush_no (v : Value) (w : World) (hv : DeadDisk w v) : Calls Try.prog 14 #[v] w fun e w' => e = .returned (.int .i64 1) ∧ w' = w := by
  refine calls_by fun R HR => ?_
  have HM := Lib.hid (dmay_no v w hv)
  clear hv
  go_enter Try.func14, Try.ntmps14
  go_wp2_with fail
  refine HM.out.mono ?_
  rintro e w1 ⟨rfl, rfl⟩
  go_wp2
  exact HR.out _ _ ⟨rfl, rfl⟩
theorem darm_no (v : Value) (i : Int) (w : World) (hv : DeadDisk w v) : Calls Try.prog 22 #[v, .int .i64 i] w fun e w' => e = .returned (.int .i64 1) ∧ w' = w := by
  refine calls_by fun R HR => ?_
  have HM := Lib.hid (dmay_no v w hv)
  clear hv
  go_enter Try.func22, Try.ntmps22
  go_wp2_with fail
  refine HM.out.mono ?_
  rintro e w1 ⟨rfl, rfl⟩
  go_wp2
  exact HR.out _ _ ⟨rfl, rfl⟩
theorem dcrash_no (v : Value) (kv : Value) (w : World) (hv : DeadDisk w v) : Calls Try.prog 18 #[v, kv] w fun e w' => e = .returned (.int .i64 1) ∧ w' = w := by
  refine calls_by fun R HR => ?_
  have HM := Lib.hid (dthere_no v w hv)
  clear hv
  go_enter Try.func18, Try.ntmps18
  go_wp2_with fail
  refine HM.out.mono ?_
  rintro e w1 ⟨rfl, rfl⟩
  go_wp2
  exact HR.out _ _ ⟨rfl, rfl⟩
theorem dboot_no (v : Value) (w : World) (hv : DeadDisk w v) : Calls Try.prog 13 #[v] w fun e w' => e = .returned (.int .i64 1) ∧ w' = w := by
  refine calls_by fun R HR => ?_
  have HM := Lib.hid (dthere_no v w hv)
  clear hv
  go_enter Try.func13, Try.ntmps13
  go_wp2_with fail
  refine HM.out.mono ?_
  rintro e w1 ⟨rfl, rfl⟩
  go_wp2
  exact HR.out _ _ ⟨rfl, rfl⟩
theorem dover_no (v : Value) (i : Int) (t : ByteArray) (w : World) (hv : DeadDisk w v) : Calls Try.prog 23 #[v, .int .i64 i, .string t] w fun e w' => e = .returned (.int .i64 1) ∧ w' = w := by
  refine calls_by fun R HR => ?_
  have HM := Lib.hid (dthere_no v w hv)
  clear hv
  go_enter Try.func23, Try.ntmps23
  go_wp2_with fail
  refine HM.out.mono ?_
  rintro e w1 ⟨rfl, rfl⟩
  go_wp2
  exact HR.out _ _ ⟨rfl, rfl⟩
theorem dsize_no (v : Value) (w : World) (hv : DeadDisk w v) : Calls Try.prog 24 #[v] w fun e w' => e = .returned (.int .i64 0) ∧ w' = w := by
  refine calls_by fun R HR => ?_
  have HM := Lib.hid (dthere_no v w hv)
  clear hv
  go_enter Try.func24, Try.ntmps24
  go_wp2_with fail
  refine HM.out.mono ?_
  rintro e w1 ⟨rfl, rfl⟩
  go_wp2
  exact HR.out _ _ ⟨rfl, rfl⟩
theorem ddown_no (v : Value) (w : World) (hv : DeadDisk w v) : Calls Try.prog 20 #[v] w fun e w' => e = .returned (.bool false) ∧ w' = w := by
  refine calls_by fun R HR => ?_
  have HM := Lib.hid (dthere_no v w hv)
  clear hv
  go_enter Try.func20, Try.ntmps20
  go_wp2_with fail
  refine HM.out.mono ?_
  rintro e w1 ⟨rfl, rfl⟩
  go_wp2
  exact HR.out _ _ ⟨rfl, rfl⟩
end Go.Proofs.Ytielmlnbjliacaa
