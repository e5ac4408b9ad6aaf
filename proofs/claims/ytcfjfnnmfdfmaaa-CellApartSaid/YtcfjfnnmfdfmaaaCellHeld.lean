/- Which held text any bytes are: cell.Held and the reference's Held. -/
import Derived.Test.YtcfjfnnmfdfmaaaCellHold
import Derived.Test.YtcfjfnnmfdfmaaaCellRPut
import Derived.Test.YtcfjfnnmfdfmaaaCellPlain3
import Derived.Test.YtcfjfnnmfdfmaaaOctetCutP
import Derived.Test.YtcfjfnnmfdfmaaaOctetCutR
namespace Go.Proofs.Ytcfjfnnmfdfmaaa
open Go.RowKit Ks
set_option linter.unusedVariables false

theorem heldE_no (b : ByteArray) (h : ¬ heldOk b = true) : heldS b = ⟨#[]⟩ ∧ heldE b = 3 ∧ heldOk b = false := by
  rw [heldS, heldE, if_neg h, if_neg h]; exact ⟨rfl, rfl, by simpa using h⟩
theorem heldE_yes (b : ByteArray) (h : heldOk b = true) : heldS b = heldT b ∧ heldE b = 0 := by
  rw [heldS, heldE, if_pos h, if_pos h]; exact ⟨rfl, rfl⟩

set_option maxHeartbeats 1000000 in
theorem held_any (b : ByteArray) (w : World) (hbz : b.size ≤ 9223372036854775807) :
    Calls Try.prog 15 #[.string b] w fun en w' => en = .returned (.tuple #[.string (heldS b), .int .i64 (heldE b)]) ∧ Below w.heap.size w w' := by
  refine calls_by fun R HR => ?_
  by_cases hb : b.size = 4096
  case neg =>
    have hf : ¬ heldOk b = true := by simp only [heldOk, decide_eq_true_eq]; exact fun h => hb h.1
    have Q := Lib.hid (heldE_no b hf)
    have hbb : ((b.size : Int) != 4096) = true := by simp; omega
    clear hf hb
    go_enter Try.func15, Try.ntmps15
    go_wp2
    refine HR.out _ _ ⟨?_, Below.refl _ _⟩
    rw [Q.out.1, Q.out.2.1]; try rfl
  have hbb : ((b.size : Int) != 4096) = false := by simp [hb]
  have hpos : 0 < b.size := by omega
  have hb2 : 4096 ≤ b.size := by omega
  have hb3 : b.size ≤ 4096 := by omega
  have Hb := Lib.hid hb
  clear hb
  by_cases h3 : numAt b 0 1 = 3
  case neg =>
    have hbyte : (((b[0]'hpos).toNat : Int) != 3) = true := by rw [byte_at b hpos]; simp; omega
    have hf : ¬ heldOk b = true := fun h => h3 (held_head b h)
    have Q := Lib.hid (heldE_no b hf)
    clear hf h3
    go_enter Try.func15, Try.ntmps15
    go_wp2
    refine HR.out _ _ ⟨?_, Below.refl _ _⟩
    rw [Q.out.1, Q.out.2.1]; try rfl
  have hbyte : (((b[0]'hpos).toNat : Int) != 3) = false := by rw [byte_at b hpos]; simp; omega
  clear h3
  go_enter Try.func15, Try.ntmps15
  go_wp2_with fail
  refine (cut_any _ _ (by simp; omega)).mono ?_
  rintro en w1 ⟨rfl, hb1⟩
  clear hbyte
  by_cases hc : cutOk (b.extract 1 b.size) = true
  case neg =>
    have he : cutE (b.extract 1 b.size) = 3 := by rw [cutE, if_neg hc]
    rw [he]
    have hf : ¬ heldOk b = true := by simp only [heldOk, decide_eq_true_eq]; exact fun h => hc h.2.1
    have Q := Lib.hid (heldE_no b hf)
    clear hf hc he
    go_wp2
    refine HR.out _ _ ⟨?_, hb1⟩
    rw [Q.out.1, Q.out.2.1]; try rfl
  have he : cutE (b.extract 1 b.size) = 0 := by rw [cutE, if_pos hc]
  rw [he, show cutA (b.extract 1 b.size) = heldT b from rfl]
  have Hc := Lib.hid hc
  clear hc he
  go_wp2_with fail
  refine (hold_any _ _).mono ?_
  rintro en w2 ⟨rfl, hb2'⟩
  have hB := hb1.trans (hb2'.mono hb1.size)
  clear hb2' hb1
  by_cases hok : holdOk (heldT b) = true
  case neg =>
    have he : holdE (heldT b) = 2 := by rw [holdE, if_neg hok]
    rw [he]
    have hf : ¬ heldOk b = true := by simp only [heldOk, decide_eq_true_eq]; exact fun h => hok h.2.2.1
    have Q := Lib.hid (heldE_no b hf)
    clear hf hok he
    go_wp2
    refine HR.out _ _ ⟨?_, hB⟩
    rw [Q.out.1, Q.out.2.1]; try rfl
  have he : holdE (heldT b) = 0 := by rw [holdE, if_pos hok]
  rw [he]
  have Hok := Lib.hid hok
  clear hok he
  by_cases heq : holdS (heldT b) = b
  · have hf : heldOk b = true := by simp only [heldOk, decide_eq_true_eq]; exact ⟨Hb.out, Hc.out, Hok.out, heq⟩
    have Q := Lib.hid (heldE_yes b hf)
    rw [heq]
    clear hf heq
    go_wp2
    refine HR.out _ _ ⟨?_, hB⟩
    rw [Q.out.1, Q.out.2]; try rfl
  · have hf : ¬ heldOk b = true := by simp only [heldOk, decide_eq_true_eq]; exact fun h => heq h.2.2.2
    have Q := Lib.hid (heldE_no b hf)
    have hne := str_neq heq
    clear hf heq
    go_wp2
    refine HR.out _ _ ⟨?_, hB⟩
    rw [Q.out.1, Q.out.2.1]; try rfl

set_option maxHeartbeats 1000000 in
theorem rheld_any (b : ByteArray) (w : World) :
    Calls Try.prog 17 #[.string b] w fun en w' => en = .returned (.tuple #[.string (heldS b), .bool (heldOk b)]) ∧ Below w.heap.size w w' := by
  refine calls_by fun R HR => ?_
  by_cases hb : b.size = 4096
  case neg =>
    have hf : ¬ heldOk b = true := by simp only [heldOk, decide_eq_true_eq]; exact fun h => hb h.1
    have Q := Lib.hid (heldE_no b hf)
    have hbb : ((b.size : Int) != 4096) = true := by simp; omega
    clear hf hb
    go_enter Try.func17, Try.ntmps17
    go_wp2
    refine HR.out _ _ ⟨?_, Below.refl _ _⟩
    rw [Q.out.1, Q.out.2.2]; try rfl
  have hbb : ((b.size : Int) != 4096) = false := by simp [hb]
  have hb2 : 4096 ≤ b.size := by omega
  have hb3 : b.size ≤ 4096 := by omega
  have Hb := Lib.hid hb
  clear hb
  go_enter Try.func17, Try.ntmps17
  go_wp2_with fail
  refine (rcut_any _ _ (by simp; omega)).mono ?_
  rintro en w1 ⟨rfl, hb1⟩
  go_wp2_with fail
  refine (rhold_any _ _).mono ?_
  rintro en w2 ⟨rfl, hb2'⟩
  have hB := hb1.trans (hb2'.mono hb1.size)
  clear hb2' hb1
  by_cases hc : cutOk (b.extract 1 b.size) = true
  case neg =>
    have he : cutE (b.extract 1 b.size) = 3 := by rw [cutE, if_neg hc]
    rw [he]
    have hf : ¬ heldOk b = true := by simp only [heldOk, decide_eq_true_eq]; exact fun h => hc h.2.1
    have Q := Lib.hid (heldE_no b hf)
    clear hf hc he
    go_wp2
    refine HR.out _ _ ⟨?_, hB⟩
    rw [Q.out.1, Q.out.2.2]; try rfl
  have he : cutE (b.extract 1 b.size) = 0 := by rw [cutE, if_pos hc]
  rw [he, show cutA (b.extract 1 b.size) = heldT b from rfl]
  have Hc := Lib.hid hc
  clear hc he
  by_cases hok : holdOk (heldT b) = true
  case neg =>
    have he : holdOk (heldT b) = false := by simpa using hok
    rw [he]
    have hf : ¬ heldOk b = true := by simp only [heldOk, decide_eq_true_eq]; exact fun h => hok h.2.2.1
    have Q := Lib.hid (heldE_no b hf)
    clear hf hok he
    go_wp2
    refine HR.out _ _ ⟨?_, hB⟩
    rw [Q.out.1, Q.out.2.2]; try rfl
  rw [hok]
  have Hok := Lib.hid hok
  clear hok
  by_cases heq : holdS (heldT b) = b
  · have hf : heldOk b = true := by simp only [heldOk, decide_eq_true_eq]; exact ⟨Hb.out, Hc.out, Hok.out, heq⟩
    have Q := Lib.hid (heldE_yes b hf)
    have Hf := Lib.hid hf
    rw [heq]
    clear hf heq
    go_wp2
    refine HR.out _ _ ⟨?_, hB⟩
    rw [Q.out.1, Hf.out]; try rfl
  · have hf : ¬ heldOk b = true := by simp only [heldOk, decide_eq_true_eq]; exact fun h => heq h.2.2.2
    have Q := Lib.hid (heldE_no b hf)
    have hne := str_neq heq
    clear hf heq
    go_wp2
    refine HR.out _ _ ⟨?_, hB⟩
    rw [Q.out.1, Q.out.2.2]; try rfl

end Go.Proofs.Ytcfjfnnmfdfmaaa
