/- A held text's bytes: cell.Hold; what is left of a cell: cell.Left. -/
import Derived.Test.YtcfjfnnmfdfmaaaProg
import Derived.Test.YtcfjfnnmfdfmaaaCellPlain2
import Derived.Test.YtcfjfnnmfdfmaaaOctetTextP
import Derived.Test.YtcfjfnnmfdfmaaaOctetFillP
import Derived.Test.YtcfjfnnmfdfmaaaBlock
import Derived.Deep.RegionWith
namespace Go.Proofs.Ytcfjfnnmfdfmaaa
open Go.RowKit Ks
set_option linter.unusedVariables false

set_option maxRecDepth 100000 in
set_option maxHeartbeats 1000000 in
theorem hold_any (t : ByteArray) (w : World) :
    Calls Try.prog 10 #[.string t] w fun en w' => en = .returned (.tuple #[.string (holdS t), .int .i64 (holdE t)]) ∧ Below w.heap.size w w' := by
  refine calls_by fun R HR => ?_
  by_cases h1 : t.size = 0
  · obtain rfl := str_none t h1
    go_enter Try.func10, Try.ntmps10
    go_wp2
    exact HR.out _ _ ⟨rfl, Below.refl _ _⟩
  obtain ⟨h6, h7⟩ := str_some t (by omega)
  by_cases h2 : 4000 < t.size
  · have hf : ¬ holdOk t = true := by simp only [holdOk, decide_eq_true_eq]; omega
    have Hf := Lib.hid hf
    clear hf
    go_enter Try.func10, Try.ntmps10
    go_wp2
    refine HR.out _ _ ⟨?_, Below.refl _ _⟩
    rw [holdS, holdE, if_neg Hf.out, if_neg Hf.out]; try rfl
  have hok : holdOk t = true := by simp only [holdOk, decide_eq_true_eq]; omega
  obtain ⟨q1, q2, q3, q4⟩ := holdS_eq t hok
  have Q3 := Lib.hid q3
  have Q4 := Lib.hid q4
  have Hok := Lib.hid hok
  have hts : (textS t).size = 4 + t.size := textS_size t
  have hcd := @conv_one_drew Try.prog 51 9 5 Try.underlying51 Try.underlying5 Try.underlying9
  have hc := @conv_one Try.prog 51 9 5 Try.underlying51 Try.underlying5 Try.underlying9
  clear q2 q3 q4 hok
  go_enter Try.func10, Try.ntmps10
  go_wp2_with fail
  go_region_with (first
    | (go_at_call 24; refine (text_any _ _ (by omega)).mono ?_; rintro en w2 ⟨rfl, hb2⟩; try have hcv := conv_blk (P := Try.prog) (dst := 9) (cap := 1) Try.underlying51 Try.underlying5 Try.underlying9 3 w.heap.size 5 (0, 0) w2 (by rw [hb2.block w.heap.size (by simp)]; exact heap_alloc_new w _))
    | (go_at_call 23; refine (fill_any _ _ _).mono ?_; rintro en w3 ⟨rfl, hb3⟩))
  all_goals
    first
      | rw [Q3.out, Q4.out]
      | skip
  all_goals
    go_wp2
    go_ret2
    refine HR.out _ _ ⟨?_, ?_⟩
    · rw [holdE, if_pos Hok.out]; try rfl
    · first
        | exact Below.trans (((Below.refl _ _).alloc (Nat.le_refl _) _).drew) ((Below.trans hb2 (hb3.mono hb2.size)).mono (by simp))
        | exact Below.trans (Below.drew (Below.refl _ _)) (Below.trans (Below.mono hb2 (Nat.le_refl _)) (Below.trans ((Below.refl _ _).alloc hb2.size _) (hb3.mono (by have := hb2.size; simp at this ⊢; omega))))
        | (trace_state; fail)


set_option maxHeartbeats 400000 in
theorem left_any (e s l : Int) (g : Bool) (t : ByteArray) (w : World) :
    Calls Try.prog 13 #[.agg #[.int .i64 e, .int .i64 s, .int .i64 l, .bool g, .string t]] w fun en w' => en = .returned (.agg #[.int .i64 e, .int .i64 s, .int .i64 l, .bool true, .string ⟨#[]⟩]) ∧ Below w.heap.size w w' := by
  refine calls_by fun R HR => ?_
  go_enter Try.func13, Try.ntmps13
  go_wp2
  refine bodyPost_ret (v := .agg #[.int .i64 e, .int .i64 s, .int .i64 l, .bool true, .string ⟨#[]⟩]) (by simp [results, Try.results13, go_sem]) rfl ?_
  exact HR.out _ _ ⟨rfl, ((Below.refl _ _).alloc (Nat.le_refl _) _).alloc (by simp) _⟩

end Go.Proofs.Ytcfjfnnmfdfmaaa
