/- Which epoch and key a block has: slots.Take and the reference's; the empty block. -/
import Derived.Test.YtedjngljblhmpaaSlotPut
import Derived.Test.YtedjngljblhmpaaSame
import Derived.Test.YtedjngljblhmpaaOctetGet
import Derived.Test.YtedjngljblhmpaaOctetRGet
import Derived.Test.YtedjngljblhmpaaShelf
namespace Ks
open Go Go.RowKit
set_option linter.unusedVariables false
theorem slot_x7 (b : ByteArray) (h : b = zerosS 4096) : slotX b = 7 ∧ slotXN b = 0 ∧ slotXK b = ⟨#[]⟩ := by
  have e : slotX b = 7 := by rw [h]; exact slotX_zeros
  exact ⟨e, by rw [slotXN, if_neg (by rw [e]; decide)], by rw [slotXK, if_neg (by rw [e]; decide)]⟩
theorem slot_x3 (b : ByteArray) (h : b ≠ zerosS 4096) (h2 : ¬ (b.size = 4096 ∧ slotS (slotN b) (slotK b) = b)) : slotX b = 3 ∧ slotXN b = 0 ∧ slotXK b = ⟨#[]⟩ := by
  have e : slotX b = 3 := by
    unfold slotX
    by_cases hz : b.size = 4096
    · rw [if_pos hz, if_neg h, if_neg fun e => h2 ⟨hz, e⟩]
    · rw [if_neg hz]
  exact ⟨e, by rw [slotXN, if_neg (by rw [e]; decide)], by rw [slotXK, if_neg (by rw [e]; decide)]⟩
theorem slot_x0 (b : ByteArray) (h : b ≠ zerosS 4096) (h2 : b.size = 4096 ∧ slotS (slotN b) (slotK b) = b) : slotX b = 0 ∧ slotXN b = slotN b ∧ slotXK b = slotK b := by
  have e : slotX b = 0 := by rw [slotX, if_pos h2.1, if_neg h, if_pos h2.2]
  exact ⟨e, by rw [slotXN, if_pos e], by rw [slotXK, if_pos e]⟩
theorem slot_size_ne {b : ByteArray} (h : b.size ≠ 4096) : b ≠ zerosS 4096 := fun e => h (by rw [e]; exact zerosS_size 4096)
end Ks
namespace Go.Proofs.Ytedjngljblhmpaa
open Go.RowKit Ks
set_option linter.unusedVariables false
theorem slempty_any (w : World) : Calls Try.prog 12 #[] w fun e w' => e = .returned (.string (zerosS 4096)) ∧ Below w.heap.size w w' := by
  refine calls_by fun R HR => ?_
  have HRP : Hid (Calls Try.prog 31 #[.string ⟨#[0]⟩, .int .i64 4096] w fun e w' => e = .returned (.string (zerosS 4096)) ∧ Below w.heap.size w w') :=
    Lib.hid ((Try.strings_Repeat ⟨#[0]⟩ 4096 w (by decide) (by decide)).mono fun e w' ⟨h1, h2⟩ => ⟨by rw [h1, repeat_zeros]; rfl, h2⟩)
  obtain ⟨Z, hZ⟩ : ∃ Z, zerosS 4096 = Z := ⟨_, rfl⟩
  rw [hZ] at HRP
  have HZ := Lib.hid hZ
  clear hZ
  go_enter Try.func12, Try.ntmps12
  go_wp2_with fail
  refine HRP.out.mono ?_
  rintro e w1 ⟨rfl, hb⟩
  have HB := Lib.hid hb
  clear hb
  go_wp2
  exact HR.out _ _ ⟨by rw [HZ.out] <;> rfl, HB.out⟩
set_option maxRecDepth 100000 in
set_option maxHeartbeats 1000000 in
theorem sltake_any (b : ByteArray) (hb : b.size ≤ 9223372036854775807) (w : World) : Calls Try.prog 10 #[.string b] w fun e w' => e = .returned (.tuple #[.int .i64 (slotXN b), .string (slotXK b), .int .i64 (slotX b)]) ∧ Below w.heap.size w w' := by
  refine calls_by fun R HR => ?_
  by_cases hz : b.size = 4096
  · have hzb : ((b.size : Int) != 4096) = false := by rw [hz]; rfl
    have HA := Lib.hid (sany_any b hb w)
    by_cases h0 : b = zerosS 4096
    · have HV := Lib.hid (slot_x7 b h0)
      have hv : anyN b = 0 := by unfold anyN; rw [hz]; exact if_pos h0
      rw [hv] at HA
      clear hv h0 hz hb
      go_enter Try.func10, Try.ntmps10
      go_wp2_with fail
      refine HA.out.mono ?_
      rintro e w1 ⟨rfl, hb1⟩
      have H1 := Lib.hid hb1
      clear hb1
      go_wp2
      go_ret3
      exact HR.out _ _ ⟨by rw [HV.out.1, HV.out.2.1, HV.out.2.2] <;> rfl, H1.out⟩
    · have hv : anyN b = 1 := by unfold anyN; rw [hz]; exact if_neg h0
      rw [hv] at HA
      have HN := Lib.hid (getV_at b 3 7 (by decide) (by decide) (by omega))
      have HNL := Lib.hid (slotN_lt b)
      have HOK := Lib.hid (slotNK_ok b hz)
      have HH := Lib.hid (And.intro h0 hz)
      have h7 : (7 : Int) ≤ (b.size : Int) := by omega
      have h39 : (39 : Int) ≤ (b.size : Int) := by omega
      have hb7 : 7 ≤ b.size := by omega
      have hb39 : 39 ≤ b.size := by omega
      clear hv h0 hz hb
      go_enter Try.func10, Try.ntmps10
      go_wp2_with fail
      refine HA.out.mono ?_
      rintro e w1 ⟨rfl, hb1⟩
      have H1 := Lib.hid hb1
      clear hb1
      go_wp2_with fail
      refine (get_any _ _).mono ?_
      rintro e w2 ⟨rfl, rfl⟩
      rw [show getV (b.extract 3 7) = (slotN b : Int) from HN.out.1, HN.out.2]
      go_wp2_with fail
      rw [show b.extract 7 39 = slotK b from rfl]
      refine (slput_any (slotN b) (slotK b) _ (by have := HNL.out; omega)).mono ?_
      rintro e w3 ⟨rfl, hb3⟩
      have H3 := Lib.hid (H1.out.trans (hb3.mono H1.out.size))
      clear hb3
      rw [show slotE (slotN b) (slotK b) = 0 by rw [slotE, if_pos HOK.out]]
      have HE := Lib.hid (fun w => sequal_any (slotS (slotN b) (slotK b)) b (by rw [slot_size _ _ HOK.out]; decide) w)
      by_cases he : slotS (slotN b) (slotK b) = b
      · have HV := Lib.hid (slot_x0 b HH.out.1 ⟨HH.out.2, he⟩)
        have hd : decide (slotS (slotN b) (slotK b) = b) = true := by simp [he]
        simp only [hd] at HE
        clear hd
        obtain ⟨X, hX⟩ : ∃ X, slotS (slotN b) (slotK b) = X := ⟨_, rfl⟩
        rw [hX] at HE ⊢
        clear hX he
        go_wp2_with fail
        refine (HE.out _).mono ?_
        rintro e w4 ⟨rfl, hb4⟩
        have H4 := Lib.hid (H3.out.trans (hb4.mono H3.out.size))
        clear hb4
        go_wp2
        go_ret3
        exact HR.out _ _ ⟨by rw [HV.out.1, HV.out.2.1, HV.out.2.2] <;> rfl, H4.out⟩
      · have HV := Lib.hid (slot_x3 b HH.out.1 fun h => he h.2)
        have hd : decide (slotS (slotN b) (slotK b) = b) = false := by simp [he]
        simp only [hd] at HE
        clear hd
        obtain ⟨X, hX⟩ : ∃ X, slotS (slotN b) (slotK b) = X := ⟨_, rfl⟩
        rw [hX] at HE ⊢
        clear hX he
        go_wp2_with fail
        refine (HE.out _).mono ?_
        rintro e w4 ⟨rfl, hb4⟩
        have H4 := Lib.hid (H3.out.trans (hb4.mono H3.out.size))
        clear hb4
        go_wp2
        go_ret3
        exact HR.out _ _ ⟨by rw [HV.out.1, HV.out.2.1, HV.out.2.2] <;> rfl, H4.out⟩
  · have hzb : ((b.size : Int) != 4096) = true := by rw [bne_iff_ne]; omega
    have HV := Lib.hid (slot_x3 b (slot_size_ne hz) fun h => hz h.1)
    clear hz hb
    go_enter Try.func10, Try.ntmps10
    go_wp2
    go_ret3
    exact HR.out _ _ ⟨by rw [HV.out.1, HV.out.2.1, HV.out.2.2] <;> rfl, Below.refl _ _⟩
set_option maxRecDepth 100000 in
set_option maxHeartbeats 1000000 in
theorem rsltake_any (b : ByteArray) (w : World) : Calls Try.prog 11 #[.string b] w fun e w' => e = .returned (.tuple #[.int .i64 (slotXN b), .string (slotXK b), .int .i64 (slotX b)]) ∧ Below w.heap.size w w' := by
  refine calls_by fun R HR => ?_
  have HRN := Lib.hid (noughts_any 4096 w (by decide))
  by_cases h0 : b = zerosS 4096
  · have HV := Lib.hid (slot_x7 b h0)
    go_enter Try.func11, Try.ntmps11
    go_wp2_with fail
    refine HRN.out.mono ?_
    rintro e w1 ⟨rfl, hb1⟩
    have H1 := Lib.hid hb1
    rw [← h0]
    clear hb1 h0
    go_wp2
    go_ret3
    exact HR.out _ _ ⟨by rw [HV.out.1, HV.out.2.1, HV.out.2.2] <;> rfl, H1.out⟩
  · have hne := str_neq h0
    obtain ⟨Z, hZ⟩ : ∃ Z, zerosS 4096 = Z := ⟨_, rfl⟩
    rw [hZ] at hne HRN
    by_cases hz : b.size = 4096
    · have hzb : ((b.size : Int) != 4096) = false := by rw [hz]; rfl
      have HN := Lib.hid (getV_at b 3 7 (by decide) (by decide) (by omega))
      have HNL := Lib.hid (slotN_lt b)
      have HOK := Lib.hid (slotNK_ok b hz)
      have HH := Lib.hid (And.intro h0 hz)
      have h7 : (7 : Int) ≤ (b.size : Int) := by omega
      have h39 : (39 : Int) ≤ (b.size : Int) := by omega
      have hb7 : 7 ≤ b.size := by omega
      have hb39 : 39 ≤ b.size := by omega
      clear h0 hz hZ
      go_enter Try.func11, Try.ntmps11
      go_wp2_with fail
      refine HRN.out.mono ?_
      rintro e w1 ⟨rfl, hb1⟩
      have H1 := Lib.hid hb1
      clear hb1
      go_wp2_with fail
      refine (rget_any _ _).mono ?_
      rintro e w2 ⟨rfl, rfl⟩
      rw [show getV (b.extract 3 7) = (slotN b : Int) from HN.out.1, HN.out.2]
      go_wp2_with fail
      rw [show b.extract 7 39 = slotK b from rfl]
      refine (rslput_any (slotN b) (slotK b) _ (by have := HNL.out; omega)).mono ?_
      rintro e w3 ⟨rfl, hb3⟩
      have H3 := Lib.hid (H1.out.trans (hb3.mono H1.out.size))
      clear hb3
      rw [HOK.out]
      by_cases he : slotS (slotN b) (slotK b) = b
      · have HV := Lib.hid (slot_x0 b HH.out.1 ⟨HH.out.2, he⟩)
        rw [he]
        clear he
        go_wp2_with fail
        go_quiet (fail)
        go_wp2
        go_ret3
        exact HR.out _ _ ⟨by rw [HV.out.1, HV.out.2.1, HV.out.2.2] <;> rfl, H3.out.trans ((drewN_below _ _).mono H3.out.size)⟩
      · have HV := Lib.hid (slot_x3 b HH.out.1 fun h => he h.2)
        have hne2 := str_neq he
        obtain ⟨X, hX⟩ : ∃ X, slotS (slotN b) (slotK b) = X := ⟨_, rfl⟩
        rw [hX] at hne2 ⊢
        clear hX he
        go_wp2
        go_ret3
        exact HR.out _ _ ⟨by rw [HV.out.1, HV.out.2.1, HV.out.2.2] <;> rfl, H3.out⟩
    · have hzb : ((b.size : Int) != 4096) = true := by rw [bne_iff_ne]; omega
      have HV := Lib.hid (slot_x3 b h0 fun h => hz h.1)
      clear hz h0 hZ
      go_enter Try.func11, Try.ntmps11
      go_wp2_with fail
      refine HRN.out.mono ?_
      rintro e w1 ⟨rfl, hb1⟩
      have H1 := Lib.hid hb1
      clear hb1
      go_wp2
      go_ret3
      exact HR.out _ _ ⟨by rw [HV.out.1, HV.out.2.1, HV.out.2.2] <;> rfl, H1.out⟩
end Go.Proofs.Ytedjngljblhmpaa
