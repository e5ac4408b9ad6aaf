/- Are two rows of texts the same? The reference's answer. -/
import Derived.Test.YtophfeapmmfppaaProg
import Derived.Test.YtophfeapmmfppaaAfter
import Derived.Test.YtophfeapmmfppaaStrE
import Derived.Test.YtophfeapmmfppaaSeqBoth
import Derived.Test.YtophfeapmmfppaaStepCall
import Derived.BigQuiet
namespace Ks
open Go
theorem text_ne {a b : ByteArray} (h : a ≠ b) : (a.toList == b.toList) = false := by
  rw [beq_eq_false_iff_ne]
  intro e
  rw [ByteArray.toList_eq, ByteArray.toList_eq] at e
  apply h
  obtain ⟨⟨x⟩⟩ := a
  obtain ⟨⟨y⟩⟩ := b
  have : x = y := e
  rw [this]
end Ks
namespace Go.Proofs.Ytophfeapmmfppaa
open Go.RowKit Ks
set_option linter.unusedVariables false

set_option maxHeartbeats 1000000 in
theorem texts_any (va vb : Value) (A B : List ByteArray) (w : World) (ha : Rd strE w va A) (hb : Rd strE w vb B) (hA : A.length ≤ maxLen) (hB : B.length ≤ maxLen) :
    Calls Try.prog 17 #[va, vb] w fun e w' => ∃ b, e = .returned (.bool b) ∧ (b = true ↔ A = B) ∧ Below w.heap.size w w' := by
  unfold maxLen at hA hB
  refine calls_by fun R HR => ?_
  obtain ⟨aa, ca, hva, _⟩ := ha.shape
  obtain ⟨ab, cb, hvb, _⟩ := hb.shape
  have HH := Lib.hid (And.intro ha hb)
  subst hva hvb
  clear ha hb
  by_cases hl : A.length = B.length
  · obtain ⟨ln, hln⟩ : ∃ ln, A.length = ln := ⟨_, rfl⟩
    have HL := Lib.hid (And.intro hln (hl.symm.trans hln))
    rw [← hl, hln]
    rw [hln] at hA
    clear hl hln hB
    go_enter Try.func17, Try.ntmps17
    go_wp2_with fail
    go_loopw [5] (fun i wx => ∃ k : Nat, k ≤ ln ∧ i = .int .i64 k ∧ Hid (A.take k = B.take k ∧ Below w.heap.size w wx)) (fun i _ => ln - (intOf i).toNat)
    case atStart => exact ⟨0, by omega, rfl, Lib.hid ⟨by simp, Below.refl _ _⟩⟩
    case round =>
      obtain ⟨k, hk, rfl, hN⟩ := hrel
      by_cases hlt : k < ln
      · have h1 : k < A.length := by rw [HL.out.1]; exact hlt
        have h2 : k < B.length := by rw [HL.out.2]; exact hlt
        have ra : Rd strE wr (.slice aa A.length ca) A := HH.out.1.below hN.out.2
        have rb : Rd strE wr (.slice ab B.length cb) B := HH.out.2.below hN.out.2
        obtain ⟨b1, o1, rfl, hb1, d1⟩ := ra.str k h1
        obtain ⟨b2, o2, rfl, hb2, d2⟩ := rb.str k h2
        have T1 := Lib.hid (show A.take (k + 1) = A.take k ++ [A[k]] from List.take_succ_eq_append_getElem h1)
        have T2 := Lib.hid (show B.take (k + 1) = B.take k ++ [B[k]] from List.take_succ_eq_append_getElem h2)
        have NE := Lib.hid (fun (h : A[k] ≠ B[k]) (e : A = B) => h (by subst e; rfl))
        generalize A[k] = x at *
        generalize B[k] = y at *
        have hki : (k : Int) < (ln : Int) := by omega
        have HB := Lib.hid (fun q => below_drewN hN.out.2 q)
        clear ra rb hb1 hb2 h1 h2
        by_cases hxy : x = y
        · subst hxy
          have HQ := Lib.hid (show A.take (k + 1) = B.take (k + 1) by rw [T1.out, T2.out, hN.out.1])
          go_wp2_with fail
          go_quiet (fail)
          go_wp2_with fail
          go_roundw
          case rel => exact ⟨k + 1, by omega, by go_num, Lib.hid ⟨HQ.out, HB.out _⟩⟩
          case measure => simp [intOf]; omega
        · have hne := text_ne hxy
          have hno := Lib.hid (NE.out hxy)
          clear hxy
          go_wp2
          go_quiet (fail)
          go_wp2
          exact HR.out _ _ ⟨false, rfl, by simp; exact hno.out, HB.out _⟩
      · obtain rfl : k = ln := by omega
        have HE := Lib.hid (show A = B by have := hN.out.1; rwa [List.take_of_length_le (by rw [HL.out.1]; exact Nat.le_refl _), List.take_of_length_le (by rw [HL.out.2]; exact Nat.le_refl _)] at this)
        go_wp2
        exact HR.out _ _ ⟨true, rfl, by simp; exact HE.out, hN.out.2⟩
  · have hne : ((A.length : Int) != (B.length : Int)) = true := by simp; omega
    have hno := Lib.hid (fun (e : A = B) => hl (by rw [e]))
    clear hl
    go_enter Try.func17, Try.ntmps17
    go_wp2
    exact HR.out _ _ ⟨false, rfl, by simp; exact hno.out, Below.refl _ _⟩

end Go.Proofs.Ytophfeapmmfppaa
