/- A key's block: slots.Put and the reference's. -/
import Derived.Test.YtedjngljblhmpaaSlotPlain
import Derived.Test.YtedjngljblhmpaaShaSum
import Derived.Test.YtedjngljblhmpaaOctetPut
import Derived.Test.YtedjngljblhmpaaOctetRPut
import Derived.Test.YtedjngljblhmpaaOctetFillP
import Derived.Test.YtedjngljblhmpaaOctetNoughts
import Derived.Test.YtedjngljblhmpaaBlock
namespace Ks
open Go Go.RowKit
set_option linter.unusedVariables false
theorem putE4 (n : Int) : (putE n 4 = 0 ∧ 0 ≤ n ∧ n ≤ 4294967295) ∨ (putE n 4 = 2 ∧ (n < 0 ∨ 4294967295 < n)) := by
  by_cases h : 0 ≤ n ∧ n ≤ 4294967295
  · left; exact ⟨by rw [putE, if_pos (putOk4 n h.1 h.2)], h⟩
  · right
    refine ⟨?_, by omega⟩
    rw [putE, if_neg]
    intro hp
    simp only [putOk, decide_eq_true_eq] at hp
    obtain ⟨_, _, h3, h4⟩ := hp
    have h5 := h4 (by omega)
    have e : (2 : Nat) ^ (8 * (4 : Int).toNat) = 4294967296 := by decide
    rw [e] at h5
    have : n.toNat < 4294967296 := by
      rcases Nat.lt_or_ge n.toNat 4294967296 with h | h
      · exact h
      · have := Nat.div_pos h (by decide : 0 < 4294967296); omega
    omega
theorem putS4_size (n : Int) (h0 : 0 ≤ n) (h : n ≤ 4294967295) : (putS n 4).size = 4 := by
  rw [putS4 n h0 h]; exact putL_length 4 _
theorem slot_no {n : Int} {k : ByteArray} (h : ¬ slotOk n k = true) : slotS n k = ⟨#[]⟩ ∧ slotE n k = 2 := by rw [slotS, slotE, if_neg h, if_neg h]; exact ⟨rfl, rfl⟩
end Ks
namespace Go.Proofs.Ytedjngljblhmpaa
open Go.RowKit Ks
set_option linter.unusedVariables false
set_option maxRecDepth 100000 in
set_option maxHeartbeats 1000000 in
theorem slput_any (n : Int) (k : ByteArray) (w : World) (hn : n ≤ 9223372036854775807) : Calls Try.prog 8 #[.int .i64 n, .string k] w fun e w' => e = .returned (.tuple #[.string (slotS n k), .int .i64 (slotE n k)]) ∧ Below w.heap.size w w' := by
  refine calls_by fun R HR => ?_
  rcases putE4 n with ⟨h1, h2, h3⟩ | ⟨h1, h2⟩
  · have hz := putS4_size n h2 h3
    by_cases hk : k.size = 32
    · have hok := slot_ok.2 ⟨h2, h3, hk⟩
      have HC := Lib.hid (slot_cat n k hok)
      have HV := Lib.hid (show slotE n k = 0 by rw [slotE, if_pos hok])
      have hkb : ((k.size : Int) != 32) = false := by rw [hk]; rfl
      have HN := Lib.hid hn
      clear hok hn
      go_enter Try.func8, Try.ntmps8
      go_wp2_with fail
      refine (put_any n 4 _ HN.out).mono ?_
      rintro e w1 ⟨rfl, hb1⟩
      rw [h1]
      have H1 := Lib.hid hb1
      clear hb1
      go_wp2_with fail
      refine (sum1_any _ _ w1 (by simp [hz, hk]; decide)).mono ?_
      rintro e w2 ⟨rfl, hb2⟩
      have H2 := Lib.hid (H1.out.trans (hb2.mono H1.out.size))
      clear hb2
      obtain ⟨Z, hZ⟩ : ∃ Z, shaS (ByteArray.mk #[107, 101, 121] ++ putS n 4 ++ k).data.toList = Z := ⟨_, rfl⟩
      have hZz : Z.size = 32 := by rw [← hZ]; exact shaS_size _
      rw [hZ]
      have HZ := Lib.hid hZ
      clear hZ
      go_wp2_with fail
      refine (fill_any _ _ _).mono ?_
      rintro e w3 ⟨rfl, hb3⟩
      have hc := HC.out
      rw [show (⟨(shaL (slotH n k).data.toList).toArray⟩ : ByteArray) = Z from HZ.out] at hc
      rw [show fillS (ByteArray.mk #[107, 101, 121] ++ putS n 4 ++ k ++ Z) 4096 = slotS n k from hc.2.2.1, show fillE (ByteArray.mk #[107, 101, 121] ++ putS n 4 ++ k ++ Z) 4096 = 0 from hc.2.2.2.1]
      have H3 := Lib.hid (H2.out.trans (hb3.mono H2.out.size))
      clear hb3 hc
      go_wp2
      exact HR.out _ _ ⟨by rw [HV.out] <;> rfl, H3.out⟩
    · have hkb : ((k.size : Int) != 32) = true := by rw [bne_iff_ne]; omega
      have HV := Lib.hid (slot_no (n := n) (k := k) fun h => hk (slot_ok.1 h).2.2)
      have HN := Lib.hid hn
      clear hn hk
      go_enter Try.func8, Try.ntmps8
      go_wp2_with fail
      refine (put_any n 4 _ HN.out).mono ?_
      rintro e w1 ⟨rfl, hb1⟩
      rw [h1]
      have H1 := Lib.hid hb1
      clear hb1
      go_wp2
      exact HR.out _ _ ⟨by rw [HV.out.1, HV.out.2] <;> rfl, H1.out⟩
  · have HV := Lib.hid (slot_no (n := n) (k := k) fun h => by have := slot_ok.1 h; omega)
    have HN := Lib.hid hn
    clear hn h2
    go_enter Try.func8, Try.ntmps8
    go_wp2_with fail
    refine (put_any n 4 _ HN.out).mono ?_
    rintro e w1 ⟨rfl, hb1⟩
    rw [h1]
    have H1 := Lib.hid hb1
    clear hb1
    go_wp2
    exact HR.out _ _ ⟨by rw [HV.out.1, HV.out.2] <;> rfl, H1.out⟩

theorem slright_any (n : Int) (w : World) : Calls Try.prog 24 #[.int .i64 n] w fun e w' => e = .returned (.bool (epOk n)) ∧ w' = w := by
  refine calls_by fun R HR => ?_
  by_cases h0 : 0 ≤ n
  · by_cases h1 : n ≤ 4294967295
    · have HV := Lib.hid (show epOk n = true by simp [epOk, h0, h1])
      go_enter Try.func24, Try.ntmps24
      go_wp2
      exact HR.out _ _ ⟨by rw [HV.out] <;> rfl, rfl⟩
    · have HV := Lib.hid (show epOk n = false by simp [epOk, h0, h1])
      go_enter Try.func24, Try.ntmps24
      go_wp2
      exact HR.out _ _ ⟨by rw [HV.out] <;> rfl, rfl⟩
  · have HV := Lib.hid (show epOk n = false by simp [epOk, h0])
    go_enter Try.func24, Try.ntmps24
    go_wp2
    exact HR.out _ _ ⟨by rw [HV.out] <;> rfl, rfl⟩
theorem slmay_any (n : Int) (w : World) : Calls Try.prog 32 #[.int .i64 n] w fun e w' => e = .returned (.bool (epOk n)) ∧ w' = w := by
  refine calls_by fun R HR => ?_
  by_cases h0 : 0 ≤ n
  · by_cases h1 : n ≤ 4294967295
    · have HV := Lib.hid (show epOk n = true by simp [epOk, h0, h1])
      go_enter Try.func32, Try.ntmps32
      go_wp2
      exact HR.out _ _ ⟨by rw [HV.out] <;> rfl, rfl⟩
    · have HV := Lib.hid (show epOk n = false by simp [epOk, h0, h1])
      go_enter Try.func32, Try.ntmps32
      go_wp2
      exact HR.out _ _ ⟨by rw [HV.out] <;> rfl, rfl⟩
  · have HV := Lib.hid (show epOk n = false by simp [epOk, h0])
    go_enter Try.func32, Try.ntmps32
    go_wp2
    exact HR.out _ _ ⟨by rw [HV.out] <;> rfl, rfl⟩

set_option maxRecDepth 100000 in
set_option maxHeartbeats 1000000 in
theorem rslput_any (n : Int) (k : ByteArray) (w : World) (hn : n ≤ 9223372036854775807) : Calls Try.prog 9 #[.int .i64 n, .string k] w fun e w' => e = .returned (.tuple #[.string (slotS n k), .bool (slotOk n k)]) ∧ Below w.heap.size w w' := by
  refine calls_by fun R HR => ?_
  have HRT := Lib.hid (slright_any n w)
  by_cases hep : epOk n = true
  · have hep2 := hep
    simp only [epOk, decide_eq_true_eq] at hep2
    obtain ⟨h2, h3⟩ := hep2
    rw [hep] at HRT
    have hz := putS4_size n h2 h3
    by_cases hk : k.size = 32
    · have hok := slot_ok.2 ⟨h2, h3, hk⟩
      have HC := Lib.hid (slot_cat n k hok)
      have HV := Lib.hid hok
      have hkb : ((k.size : Int) != 32) = false := by rw [hk]; rfl
      have HN := Lib.hid hn
      clear hok hn
      go_enter Try.func9, Try.ntmps9
      go_wp2_with fail
      refine HRT.out.mono ?_
      rintro e w0 ⟨rfl, rfl⟩
      go_wp2_with fail
      refine (rput_any n 4 _ HN.out).mono ?_
      rintro e w1 ⟨rfl, hb1⟩
      have H1 := Lib.hid hb1
      clear hb1
      go_wp2_with fail
      refine (rsumS_any _ w1 (by simp [hz, hk]; decide)).mono ?_
      rintro e w2 ⟨rfl, hb2⟩
      have H2 := Lib.hid (H1.out.trans (hb2.mono H1.out.size))
      clear hb2
      obtain ⟨Z, hZ⟩ : ∃ Z, shaS (ByteArray.mk #[107, 101, 121] ++ putS n 4 ++ k).data.toList = Z := ⟨_, rfl⟩
      have hZz : Z.size = 32 := by rw [← hZ]; exact shaS_size _
      rw [hZ]
      have HZ := Lib.hid hZ
      clear hZ
      go_wp2_with fail
      refine (noughts_any 4025 _ (by decide)).mono ?_
      rintro e w3 ⟨rfl, hb3⟩
      have hc := HC.out
      rw [show (⟨(shaL (slotH n k).data.toList).toArray⟩ : ByteArray) = Z from HZ.out] at hc
      have hzz : (zerosS 4025).size = 4025 := zerosS_size 4025
      obtain ⟨Y, hY⟩ : ∃ Y, zerosS 4025 = Y := ⟨_, rfl⟩
      rw [hY] at hc hzz ⊢
      have HS := Lib.hid (show ByteArray.mk #[107, 101, 121] ++ putS n 4 ++ k ++ Z ++ Y = slotS n k from hc.2.2.2.2)
      have H3 := Lib.hid (H2.out.trans (hb3.mono H2.out.size))
      clear hb3 hc hY
      go_wp2
      exact HR.out _ _ ⟨by rw [← HS.out, HV.out] <;> rfl, H3.out⟩
    · have hkb : ((k.size : Int) != 32) = true := by rw [bne_iff_ne]; omega
      have hno : ¬ slotOk n k = true := fun h => hk (slot_ok.1 h).2.2
      have HV := Lib.hid (And.intro (slot_no hno).1 (show slotOk n k = false by simpa using hno))
      clear hn hk hno
      go_enter Try.func9, Try.ntmps9
      go_wp2_with fail
      refine HRT.out.mono ?_
      rintro e w0 ⟨rfl, rfl⟩
      go_wp2
      exact HR.out _ _ ⟨by rw [HV.out.1, HV.out.2] <;> rfl, Below.refl _ _⟩
  · have hno : ¬ slotOk n k = true := fun h => hep (by simp only [epOk, decide_eq_true_eq]; have := slot_ok.1 h; omega)
    have HV := Lib.hid (And.intro (slot_no hno).1 (show slotOk n k = false by simpa using hno))
    have hf : epOk n = false := by simpa using hep
    rw [hf] at HRT
    clear hn hno hep hf
    go_enter Try.func9, Try.ntmps9
    go_wp2_with fail
    refine HRT.out.mono ?_
    rintro e w0 ⟨rfl, rfl⟩
    go_wp2
    exact HR.out _ _ ⟨by rw [HV.out.1, HV.out.2] <;> rfl, Below.refl _ _⟩
end Go.Proofs.Ytedjngljblhmpaa
