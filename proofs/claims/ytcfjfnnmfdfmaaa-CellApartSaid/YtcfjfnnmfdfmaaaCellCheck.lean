/- Whether a cell may be: cell.Check and the reference's Right. -/
import Derived.Test.YtcfjfnnmfdfmaaaProg
import Derived.Test.YtcfjfnnmfdfmaaaCellPlain
import Derived.Test.YtcfjfnnmfdfmaaaAfter
namespace Go.Proofs.Ytcfjfnnmfdfmaaa
open Go.RowKit Ks
set_option linter.unusedVariables false

set_option maxHeartbeats 1000000 in
theorem check_bad (e s l : Int) (g : Bool) (t : ByteArray) (w : World) (h : e < 0 ∨ 4294967295 < e ∨ (0 ≤ e ∧ e ≤ 4294967295 ∧ s < 0) ∨ (0 ≤ e ∧ e ≤ 4294967295 ∧ 4294967295 < s) ∨ (0 ≤ e ∧ e ≤ 4294967295 ∧ 0 ≤ s ∧ s ≤ 4294967295 ∧ l < 0) ∨
      (0 ≤ e ∧ e ≤ 4294967295 ∧ 0 ≤ s ∧ s ≤ 4294967295 ∧ 4095 < l) ∨ (0 ≤ e ∧ e ≤ 4294967295 ∧ 0 ≤ s ∧ s ≤ 4294967295 ∧ 0 ≤ l ∧ l ≤ 4095 ∧ 4000 < (t.size : Int))) :
    Calls Try.prog 12 #[.agg #[.int .i64 e, .int .i64 s, .int .i64 l, .bool g, .string t]] w fun en w' => en = .returned (.int .i64 (cellE e s l g t)) ∧ Below w.heap.size w w' := by
  refine calls_by fun R HR => ?_
  have HB : Hid (Below w.heap.size w (w.alloc (.cells #[.int .i64 e, .int .i64 s, .int .i64 l, .bool g, .string t] 23))) := Lib.hid ((Below.refl _ _).alloc (Nat.le_refl _) _)
  have hf : Hid (cellOk e s l g t = false) := Lib.hid (by rw [cellOk, decide_eq_false]; omega)
  rcases h with h | h | ⟨h1, h2, h⟩ | ⟨h1, h2, h⟩ | ⟨h1, h2, h3, h4, h⟩ | ⟨h1, h2, h3, h4, h⟩ | ⟨h1, h2, h3, h4, h5, h6, h⟩
  · have hd : decide (0 ≤ e) = false := by rw [decide_eq_false]; omega
    go_enter Try.func12, Try.ntmps12
    go_wp2
    refine HR.out _ _ ⟨?_, HB.out⟩
    rw [cellE, if_neg (by rw [hf.out]; exact Bool.false_ne_true)]; try rfl
  · have hd : decide (e ≤ 4294967295) = false := by rw [decide_eq_false]; omega
    have h0 : 0 ≤ e := by omega
    go_enter Try.func12, Try.ntmps12
    go_wp2
    refine HR.out _ _ ⟨?_, HB.out⟩
    rw [cellE, if_neg (by rw [hf.out]; exact Bool.false_ne_true)]; try rfl
  · have hd : decide (0 ≤ s) = false := by rw [decide_eq_false]; omega
    go_enter Try.func12, Try.ntmps12
    go_wp2
    refine HR.out _ _ ⟨?_, HB.out⟩
    rw [cellE, if_neg (by rw [hf.out]; exact Bool.false_ne_true)]; try rfl
  · have hd : decide (s ≤ 4294967295) = false := by rw [decide_eq_false]; omega
    have h0 : 0 ≤ s := by omega
    go_enter Try.func12, Try.ntmps12
    go_wp2
    refine HR.out _ _ ⟨?_, HB.out⟩
    rw [cellE, if_neg (by rw [hf.out]; exact Bool.false_ne_true)]; try rfl
  · have hd : decide (0 ≤ l) = false := by rw [decide_eq_false]; omega
    go_enter Try.func12, Try.ntmps12
    go_wp2
    refine HR.out _ _ ⟨?_, HB.out⟩
    rw [cellE, if_neg (by rw [hf.out]; exact Bool.false_ne_true)]; try rfl
  · have hd : decide (l ≤ 4095) = false := by rw [decide_eq_false]; omega
    have h0 : 0 ≤ l := by omega
    go_enter Try.func12, Try.ntmps12
    go_wp2
    refine HR.out _ _ ⟨?_, HB.out⟩
    rw [cellE, if_neg (by rw [hf.out]; exact Bool.false_ne_true)]; try rfl
  · have hd : decide ((t.size : Int) ≤ 4000) = false := by rw [decide_eq_false]; omega
    go_enter Try.func12, Try.ntmps12
    go_wp2
    refine HR.out _ _ ⟨?_, HB.out⟩
    rw [cellE, if_neg (by rw [hf.out]; exact Bool.false_ne_true)]; try rfl

set_option maxHeartbeats 1000000 in
theorem check_any (e s l : Int) (g : Bool) (t : ByteArray) (w : World) :
    Calls Try.prog 12 #[.agg #[.int .i64 e, .int .i64 s, .int .i64 l, .bool g, .string t]] w fun en w' => en = .returned (.int .i64 (cellE e s l g t)) ∧ Below w.heap.size w w' := by
  by_cases h : (0 ≤ e ∧ e ≤ 4294967295 ∧ 0 ≤ s ∧ s ≤ 4294967295 ∧ 0 ≤ l ∧ l ≤ 4095 ∧ (t.size : Int) ≤ 4000)
  case neg => exact check_bad e s l g t w (by omega)
  obtain ⟨h1, h1', h2, h2', h3, h3', h4⟩ := h
  refine calls_by fun R HR => ?_
  cases g with
  | false =>
    have hf : Hid (cellOk e s l false t = true) := Lib.hid (by simp only [cellOk, decide_eq_true_eq]; simp; omega)
    go_enter Try.func12, Try.ntmps12
    go_wp2
    refine HR.out _ _ ⟨?_, (Below.refl _ _).alloc (Nat.le_refl _) _⟩
    rw [cellE, if_pos hf.out]; try rfl
  | true =>
    by_cases h5 : t.size = 0
    · obtain rfl := str_none t h5
      have hf : Hid (cellOk e s l true ⟨#[]⟩ = true) := Lib.hid (by simp only [cellOk, decide_eq_true_eq]; exact ⟨h1, h1', h2, h2', h3, h3', by decide, fun _ => rfl⟩)
      go_enter Try.func12, Try.ntmps12
      go_wp2
      refine HR.out _ _ ⟨?_, (Below.refl _ _).alloc (Nat.le_refl _) _⟩
      rw [cellE, if_pos hf.out]; try rfl
    · obtain ⟨h6, h7⟩ := str_some t (by omega)
      have hf : Hid (cellOk e s l true t = false) := Lib.hid (by rw [cellOk, decide_eq_false]; exact fun hh => h5 (hh.2.2.2.2.2.2.2 rfl))
      go_enter Try.func12, Try.ntmps12
      go_wp2
      refine HR.out _ _ ⟨?_, (Below.refl _ _).alloc (Nat.le_refl _) _⟩
      rw [cellE, if_neg (by rw [hf.out]; exact Bool.false_ne_true)]; try rfl

set_option maxHeartbeats 1000000 in
theorem right_bad (e s l : Int) (g : Bool) (t : ByteArray) (w : World) (h : e < 0 ∨ 4294967295 < e ∨ (0 ≤ e ∧ e ≤ 4294967295 ∧ s < 0) ∨ (0 ≤ e ∧ e ≤ 4294967295 ∧ 4294967295 < s) ∨ (0 ≤ e ∧ e ≤ 4294967295 ∧ 0 ≤ s ∧ s ≤ 4294967295 ∧ l < 0) ∨
      (0 ≤ e ∧ e ≤ 4294967295 ∧ 0 ≤ s ∧ s ≤ 4294967295 ∧ 4095 < l) ∨ (0 ≤ e ∧ e ≤ 4294967295 ∧ 0 ≤ s ∧ s ≤ 4294967295 ∧ 0 ≤ l ∧ l ≤ 4095 ∧ 4000 < (t.size : Int))) :
    Calls Try.prog 25 #[.agg #[.int .i64 e, .int .i64 s, .int .i64 l, .bool g, .string t]] w fun en w' => en = .returned (.bool (cellOk e s l g t)) ∧ Below w.heap.size w w' := by
  refine calls_by fun R HR => ?_
  have HB : Hid (Below w.heap.size w (w.alloc (.cells #[.int .i64 e, .int .i64 s, .int .i64 l, .bool g, .string t] 23))) := Lib.hid ((Below.refl _ _).alloc (Nat.le_refl _) _)
  have hf : Hid (cellOk e s l g t = false) := Lib.hid (by rw [cellOk, decide_eq_false]; omega)
  rcases h with h | h | ⟨h1, h2, h⟩ | ⟨h1, h2, h⟩ | ⟨h1, h2, h3, h4, h⟩ | ⟨h1, h2, h3, h4, h⟩ | ⟨h1, h2, h3, h4, h5, h6, h⟩
  · have hd : decide (0 ≤ e) = false := by rw [decide_eq_false]; omega
    go_enter Try.func25, Try.ntmps25
    go_wp2
    refine HR.out _ _ ⟨?_, HB.out⟩
    rw [hf.out]; try rfl
  · have hd : decide (e ≤ 4294967295) = false := by rw [decide_eq_false]; omega
    have h0 : 0 ≤ e := by omega
    go_enter Try.func25, Try.ntmps25
    go_wp2
    refine HR.out _ _ ⟨?_, HB.out⟩
    rw [hf.out]; try rfl
  · have hd : decide (0 ≤ s) = false := by rw [decide_eq_false]; omega
    go_enter Try.func25, Try.ntmps25
    go_wp2
    refine HR.out _ _ ⟨?_, HB.out⟩
    rw [hf.out]; try rfl
  · have hd : decide (s ≤ 4294967295) = false := by rw [decide_eq_false]; omega
    have h0 : 0 ≤ s := by omega
    go_enter Try.func25, Try.ntmps25
    go_wp2
    refine HR.out _ _ ⟨?_, HB.out⟩
    rw [hf.out]; try rfl
  · have hd : decide (0 ≤ l) = false := by rw [decide_eq_false]; omega
    go_enter Try.func25, Try.ntmps25
    go_wp2
    refine HR.out _ _ ⟨?_, HB.out⟩
    rw [hf.out]; try rfl
  · have hd : decide (l ≤ 4095) = false := by rw [decide_eq_false]; omega
    have h0 : 0 ≤ l := by omega
    go_enter Try.func25, Try.ntmps25
    go_wp2
    refine HR.out _ _ ⟨?_, HB.out⟩
    rw [hf.out]; try rfl
  · have hd : decide ((t.size : Int) ≤ 4000) = false := by rw [decide_eq_false]; omega
    go_enter Try.func25, Try.ntmps25
    go_wp2
    refine HR.out _ _ ⟨?_, HB.out⟩
    rw [hf.out]; try rfl

set_option maxHeartbeats 1000000 in
theorem right_any (e s l : Int) (g : Bool) (t : ByteArray) (w : World) :
    Calls Try.prog 25 #[.agg #[.int .i64 e, .int .i64 s, .int .i64 l, .bool g, .string t]] w fun en w' => en = .returned (.bool (cellOk e s l g t)) ∧ Below w.heap.size w w' := by
  by_cases h : (0 ≤ e ∧ e ≤ 4294967295 ∧ 0 ≤ s ∧ s ≤ 4294967295 ∧ 0 ≤ l ∧ l ≤ 4095 ∧ (t.size : Int) ≤ 4000)
  case neg => exact right_bad e s l g t w (by omega)
  obtain ⟨h1, h1', h2, h2', h3, h3', h4⟩ := h
  refine calls_by fun R HR => ?_
  cases g with
  | false =>
    have hf : Hid (cellOk e s l false t = true) := Lib.hid (by simp only [cellOk, decide_eq_true_eq]; simp; omega)
    go_enter Try.func25, Try.ntmps25
    go_wp2
    refine HR.out _ _ ⟨?_, (Below.refl _ _).alloc (Nat.le_refl _) _⟩
    rw [hf.out]; try rfl
  | true =>
    by_cases h5 : t.size = 0
    · obtain rfl := str_none t h5
      have hf : Hid (cellOk e s l true ⟨#[]⟩ = true) := Lib.hid (by simp only [cellOk, decide_eq_true_eq]; exact ⟨h1, h1', h2, h2', h3, h3', by decide, fun _ => rfl⟩)
      go_enter Try.func25, Try.ntmps25
      go_wp2
      refine HR.out _ _ ⟨?_, (Below.refl _ _).alloc (Nat.le_refl _) _⟩
      rw [hf.out]; try rfl
    · obtain ⟨h6, h7⟩ := str_some t (by omega)
      have hf : Hid (cellOk e s l true t = false) := Lib.hid (by rw [cellOk, decide_eq_false]; exact fun hh => h5 (hh.2.2.2.2.2.2.2 rfl))
      go_enter Try.func25, Try.ntmps25
      go_wp2
      refine HR.out _ _ ⟨?_, (Below.refl _ _).alloc (Nat.le_refl _) _⟩
      rw [hf.out]; try rfl

set_option maxHeartbeats 400000 in
theorem widths_any (w : World) :
    Calls Try.prog 22 #[] w fun en w' => w' = w.alloc (.cells ([1, 4, 4, 4].map (Value.int .i64)).toArray 3) ∧ en = .returned (.slice (some ⟨w.heap.size, 0, none⟩) 4 4) := by
  refine calls_by fun R HR => ?_
  go_enter Try.func22, Try.ntmps22
  go_wp2
  exact HR.out _ _ ⟨rfl, rfl⟩

end Go.Proofs.Ytcfjfnnmfdfmaaa
