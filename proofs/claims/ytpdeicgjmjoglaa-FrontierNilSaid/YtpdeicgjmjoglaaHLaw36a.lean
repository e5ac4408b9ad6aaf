/- The law FrontierNil: what its walk gives. -/
import Derived.Test.YtpdeicgjmjoglaaM7
namespace Go.Proofs.Ytpdeicgjmjoglaa
open Go.RowKit Ks
set_option linter.unusedVariables false
theorem front_none (w : World) : FrontNo w 39 (.pointer none) := Or.inl rfl
set_option maxRecDepth 100000 in
set_option maxHeartbeats 4000000 in
theorem law_nil (s : ByteArray) (b : Bool) (w : World) :
    Calls Try.prog 5 #[.string s, .bool b] w fun e w' => e = .returned (.bool true) ∧ Below w.heap.size w w' := by
  refine calls_by fun R HR => ?_
  cases b with
  | false =>
    go_enter Try.func5, Try.ntmps5
    go_wp2_with fail
    refine (fadd_dead _ s _ (front_none _)).mono ?_
    rintro e w1 ⟨rfl, rfl⟩
    go_wp2_with fail
    refine (fcount_dead _ _ (front_none _)).mono ?_
    rintro e w2 ⟨rfl, rfl⟩
    go_wp2_with fail
    refine (froot_dead _ _ (front_none _)).mono ?_
    rintro e w3 ⟨rfl, rfl⟩
    go_wp2_with fail
    refine (fpeaks_dead _ _ (front_none _)).mono ?_
    rintro e w4 ⟨rfl, rfl⟩
    go_wp2_with fail
    refine (fcopy_dead _ _ (front_none _)).mono ?_
    rintro e w5 ⟨rfl, rfl⟩
    go_wp2_with fail
    refine (alive_any _).mono ?_
    rintro e w6 ⟨rfl, hb⟩
    have HB := Lib.hid hb
    clear hb
    go_wp2
    exact HR.out _ _ ⟨rfl, HB.out⟩
  | true =>
    obtain ⟨W, hW⟩ : ∃ W, w.alloc (.cells #[.bool false, .int .i64 0, .slice none 0 0] 39) = W := ⟨_, rfl⟩
    have hbW : Below w.heap.size w W := by rw [← hW]; exact alloc_below w _
    have kW : W.heap[w.heap.size]? = some (.cells #[.bool false, .int .i64 0, .slice none 0 0] 39 (0, 0)) := by rw [← hW]; exact alloc_new w _
    have HD := Lib.hid (show FrontNo W 39 (.pointer (some ⟨w.heap.size, 0, none⟩)) from Or.inr ⟨_, rfl, kW⟩)
    have H0 := Lib.hid hbW
    clear hbW kW
    go_enter Try.func5, Try.ntmps5
    go_wp2_with fail
    refine (fadd_dead _ s _ HD.out).mono ?_
    rintro e w1 ⟨rfl, rfl⟩
    clear hW
    go_wp2_with fail
    refine (fcount_dead _ _ HD.out).mono ?_
    rintro e w2 ⟨rfl, rfl⟩
    go_wp2_with fail
    refine (froot_dead _ _ HD.out).mono ?_
    rintro e w3 ⟨rfl, rfl⟩
    go_wp2_with fail
    refine (fpeaks_dead _ _ HD.out).mono ?_
    rintro e w4 ⟨rfl, rfl⟩
    go_wp2_with fail
    refine (fcopy_dead _ _ HD.out).mono ?_
    rintro e w5 ⟨rfl, rfl⟩
    go_wp2_with fail
    refine (alive_any _).mono ?_
    rintro e w6 ⟨rfl, hb⟩
    have HB := Lib.hid (H0.out.trans (hb.mono H0.out.size))
    clear hb
    go_wp2
    exact HR.out _ _ ⟨rfl, HB.out⟩
end Go.Proofs.Ytpdeicgjmjoglaa
