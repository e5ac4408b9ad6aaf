/- The sum of texts. -/
import Derived.Test.YtophfeapmmfppaaShaHash
import Derived.Test.YtophfeapmmfppaaStrE
namespace Ks
open Go Go.RowKit
set_option linter.unusedVariables false
theorem Rd.other {α : Type} {E : Enc α} {w w' : World} {v : Value} {l : List α} {b B : Nat} (h : Rd E w v l) (hB : w.heap.size ≤ b) {w1 : World} (h1 : Below w.heap.size w w1) (ho : Only w1 w' b) : Rd E w' v l :=
  h.below (h1.trans (ho.below hB h1.size))
end Ks
namespace Go.Proofs.Ytophfeapmmfppaa
open Go.RowKit Ks
set_option linter.unusedVariables false

set_option maxHeartbeats 1000000 in
theorem sumv_any (l : List ByteArray) (v : Value) (w : World) (hv : Rd strE w v l) (hl : (joinL l).length ≤ 50000000000) (hn : l.length ≤ 1000000000) :
    Calls Try.prog 13 #[v] w fun e w' => e = .returned (.string ⟨(shaL (joinL l)).toArray⟩) ∧ Below w.heap.size w w' := by
  refine calls_by fun R HR => ?_
  obtain ⟨a, cap, rfl, _, _⟩ := hv.shape
  have HV := Lib.hid hv
  clear hv
  go_enter Try.func13, Try.ntmps13
  go_wp2_with fail
  refine (new_any _).mono ?_
  rintro e w1 ⟨b, rfl, hb, hat, hbl⟩
  have HF := Lib.hid (And.intro hat (And.intro hbl (And.intro hb (Only.refl w1 b))))
  clear hb hat hbl
  go_wp2_with fail
  go_loopw [9] (fun i wx => ∃ k : Nat, k ≤ l.length ∧ i = .int .i64 k ∧ Hid (HashAt wx 70 b (joinL (l.take k)) ∧ Below w.heap.size w w1 ∧ w.heap.size ≤ b ∧ Only w1 wx b)) (fun i _ => l.length - (intOf i).toNat)
  case atStart => exact ⟨0, by omega, rfl, HF⟩
  case round =>
    obtain ⟨k, hk, rfl, hN⟩ := hrel
    by_cases hlt : k < l.length
    · have hrd : Rd strE wr (.slice a l.length cap) l := Rd.other (B := 0) HV.out hN.out.2.2.1 hN.out.2.1 hN.out.2.2.2
      obtain ⟨b1, o1, rfl, hb1, hc1⟩ := hrd.str k hlt
      have HJ := Lib.hid (joinL_take l k hlt)
      have hjl := joinL_le l (k + 1)
      rw [HJ.out, List.length_append, data_length] at hjl
      have HJL := Lib.hid hjl
      generalize l[k] = s at *
      clear hjl hrd hb1
      go_wp2_with fail
      refine (hput_any _ s b _ hN.out.1 (by have := HJL.out; omega)).mono ?_
      rintro e w2 ⟨rfl, hat, ho⟩
      rw [← HJ.out] at hat
      have HM := Lib.hid (And.intro hat (And.intro hN.out.2.1 (And.intro hN.out.2.2.1 (hN.out.2.2.2.trans ho))))
      clear hat ho hN hc1
      go_wp2_with fail
      go_roundw
      case rel => exact ⟨k + 1, by omega, by go_num, HM⟩
      case measure => simp [intOf]; omega
    · obtain rfl : k = l.length := by omega
      have HJ := Lib.hid (show joinL (l.take l.length) = joinL l by rw [List.take_length])
      clear HF hlt hk
      go_wp2_with fail
      refine (hsum_any _ b _ hN.out.1 (by rw [HJ.out]; exact hl)).mono ?_
      rintro e w2 ⟨rfl, hb2⟩
      have HM := Lib.hid (hN.out.2.1.trans ((hN.out.2.2.2.below hN.out.2.2.1 hN.out.2.1.size).trans (hb2.mono (Nat.le_trans hN.out.2.1.size hN.out.2.2.2.2.2.2.1))))
      clear hb2 hN
      go_wp2
      exact HR.out _ _ ⟨by rw [← HJ.out]; rfl, HM.out⟩
end Go.Proofs.Ytophfeapmmfppaa
