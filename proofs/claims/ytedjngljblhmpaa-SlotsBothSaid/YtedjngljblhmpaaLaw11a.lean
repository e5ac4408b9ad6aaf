/- The chapter's example; the laws SlotsPuts, SlotsPicks, SlotsEvolves: what their walks give. -/
import Derived.Test.YtedjngljblhmpaaSlotEvolve
import Derived.Test.YtedjngljblhmpaaSlotStale
import Derived.Test.YtedjngljblhmpaaOctetInts
namespace Ks
open Go Go.RowKit
set_option linter.unusedVariables false
/-- of two blocks, one that has the key -/
theorem pick_slot (a b : ByteArray) (n : Int) (k : ByteArray) (hok : slotOk n k = true) (ep : Int) (he : ep = n) (h : pickB a b ep = slotS n k) : pickE a b ep = 0 ∧ pickK a b ep = k := by
  subst he
  obtain ⟨h1, h2, h3⟩ := slot_back ep k hok
  obtain ⟨q0, q1, q2⟩ := slot_ok.1 hok
  have hx : slotX (pickB a b ep) = 0 := by rw [h]; exact h1
  have hn : slotXN (pickB a b ep) = ep := by rw [h, slotXN, if_pos h1]; exact h2
  obtain ⟨p1, p2⟩ := pick_yes (ep_ok.2 ⟨q0, q1⟩) hx hn
  exact ⟨p1, by rw [p2, h, slotXK, if_pos h1]; exact h3⟩
theorem pick_zeros (a b : ByteArray) (ep : Int) (h0 : epOk ep = true) (h : pickB a b ep = zerosS 4096) : pickE a b ep = 7 ∧ pickK a b ep = ⟨#[]⟩ := by
  have hx : slotX (pickB a b ep) = 7 := by rw [h]; exact slotX_zeros
  obtain ⟨p1, p2⟩ := pick_err h0 (by rw [hx]; decide)
  exact ⟨by rw [p1, hx], p2⟩
def keyA : ByteArray := ⟨#[48, 49, 50, 51, 52, 53, 54, 55, 56, 57, 97, 98, 99, 100, 101, 102, 48, 49, 50, 51, 52, 53, 54, 55, 56, 57, 97, 98, 99, 100, 101, 102]⟩
theorem slotE_of (n : Int) (k : ByteArray) : slotE n k = 0 ∧ slotOk n k = true ∨ slotE n k = 2 ∧ slotOk n k = false := by
  cases h : slotOk n k with
  | true => left; exact ⟨by rw [slotE, if_pos h], rfl⟩
  | false => right; exact ⟨by rw [slotE, if_neg (by rw [h]; simp)], rfl⟩
end Ks
namespace Go.Proofs.Ytedjngljblhmpaa
open Go.RowKit Ks
set_option linter.unusedVariables false
set_option maxRecDepth 100000 in
set_option maxHeartbeats 1000000 in
theorem alive_any (w : World) : Calls Try.prog 7 #[] w fun e w' => e = .returned (.bool true) ∧ Below w.heap.size w w' := by
  refine calls_by fun R HR => ?_
  have hok : slotOk 1 keyA = true := by decide
  obtain ⟨Z, hZ⟩ : ∃ Z, zerosS 4096 = Z := ⟨_, rfl⟩
  obtain ⟨X, hX⟩ : ∃ X, slotS 1 keyA = X := ⟨_, rfl⟩
  have HE := Lib.hid (fun w => slempty_any w)
  have HP := Lib.hid (slput_any 1 keyA w (by decide))
  have hZs : Z.size ≤ 9223372036854775807 := by rw [← hZ]; show (zerosS ((4096 : Nat) : Int)).size ≤ _; rw [zerosS_size]; decide
  have hXs : X.size ≤ 9223372036854775807 := by rw [← hX, slot_size _ _ hok]; decide
  have p1 := pick_slot Z X 1 keyA hok 1 rfl (by rw [hX]; rfl)
  have p2 := pick_zeros Z X 0 (by decide) (by rw [hZ]; rfl)
  have HK1 := Lib.hid (fun w => slpick_any Z X 1 hZs hXs w)
  have HK2 := Lib.hid (fun w => slpick_any Z X 0 hZs hXs w)
  rw [p1.1, p1.2] at HK1
  rw [p2.1, p2.2] at HK2
  rw [hZ] at HE
  rw [hX, show slotE 1 keyA = 0 by rw [slotE, if_pos hok]] at HP
  clear hok hZ hX hZs hXs p1 p2
  go_enter Try.func7, Try.ntmps7
  go_wp2_with fail
  refine HP.out.mono ?_
  rintro e w1 ⟨rfl, hb1⟩
  have H1 := Lib.hid hb1
  clear hb1
  go_wp2_with fail
  refine (HE.out _).mono ?_
  rintro e w2 ⟨rfl, hb2⟩
  have H2 := Lib.hid (H1.out.trans (hb2.mono H1.out.size))
  clear hb2
  go_wp2_with fail
  refine (HK1.out _).mono ?_
  rintro e w3 ⟨rfl, hb3⟩
  have H3 := Lib.hid (H2.out.trans (hb3.mono H2.out.size))
  clear hb3
  go_wp2_with fail
  refine (HE.out _).mono ?_
  rintro e w4 ⟨rfl, hb4⟩
  have H4 := Lib.hid (H3.out.trans (hb4.mono H3.out.size))
  clear hb4
  go_wp2_with fail
  refine (HK2.out _).mono ?_
  rintro e w5 ⟨rfl, hb5⟩
  have H5 := Lib.hid (H4.out.trans (hb5.mono H4.out.size))
  clear hb5
  rw [show keyA = ⟨#[48, 49, 50, 51, 52, 53, 54, 55, 56, 57, 97, 98, 99, 100, 101, 102, 48, 49, 50, 51, 52, 53, 54, 55, 56, 57, 97, 98, 99, 100, 101, 102]⟩ from rfl]
  go_wp2
  exact HR.out _ _ ⟨rfl, H5.out⟩

set_option maxRecDepth 100000 in
set_option maxHeartbeats 2000000 in
theorem law_slputs (n : Int) (k b : ByteArray) (w : World) (hn : -9223372036854775808 ≤ n ∧ n ≤ 9223372036854775807) (hbz : b.size ≤ 9223372036854775807) : Calls Try.prog 3 #[.int .i64 n, .string k, .string b] w fun e w' => e = .returned (.bool true) ∧ Below w.heap.size w w' := by
  refine calls_by fun R HR => ?_
  have HA := Lib.hid (fun w => alive_any w)
  by_cases h1 : (10000 : Int) < k.size
  · go_enter Try.func3, Try.ntmps3
    go_wp2_with fail
    refine (HA.out _).mono ?_
    rintro e w1 ⟨rfl, hb1⟩
    go_wp2
    exact HR.out _ _ ⟨rfl, hb1⟩
  by_cases h2 : (10000 : Int) < b.size
  · go_enter Try.func3, Try.ntmps3
    go_wp2_with fail
    refine (HA.out _).mono ?_
    rintro e w1 ⟨rfl, hb1⟩
    go_wp2
    exact HR.out _ _ ⟨rfl, hb1⟩
  have HP := Lib.hid (fun w => slput_any n k w hn.2)
  have HP2 := Lib.hid (fun w => rslput_any n k w hn.2)
  have HT := Lib.hid (fun w => sltake_any b hbz w)
  have HT2 := Lib.hid (fun w => rsltake_any b w)
  have HE := Lib.hid (fun w => slempty_any w)
  have HN := Lib.hid (fun w => noughts_any 4096 w (by decide))
  obtain ⟨Z, hZ⟩ : ∃ Z, zerosS 4096 = Z := ⟨_, rfl⟩
  rw [hZ] at HE HN
  rcases slotE_of n k with ⟨g1, g2⟩ | ⟨g1, g2⟩
  · obtain ⟨q1, q2, q3⟩ := slot_back n k g2
    have HTB := Lib.hid (fun w => sltake_any (slotS n k) (by rw [slot_size _ _ g2]; decide) w)
    rw [show slotXN (slotS n k) = n by rw [slotXN, if_pos q1]; exact q2, show slotXK (slotS n k) = k by rw [slotXK, if_pos q1]; exact q3, q1] at HTB
    rw [g1] at HP
    rw [g2] at HP2
    obtain ⟨X, hX⟩ : ∃ X, slotS n k = X := ⟨_, rfl⟩
    rw [hX] at HP HP2 HTB
    clear hX hZ q1 q2 q3 g1 g2 hn
    generalize slotXN b = x1 at *
    generalize slotXK b = x2 at *
    generalize slotX b = x3 at *
    go_enter Try.func3, Try.ntmps3
    go_wp2_with fail
    refine (HP.out _).mono ?_
    rintro e w1 ⟨rfl, hb1⟩
    have H1 := Lib.hid hb1
    clear hb1
    go_wp2_with fail
    refine (HP2.out _).mono ?_
    rintro e w2 ⟨rfl, hb2⟩
    have H2 := Lib.hid (H1.out.trans (hb2.mono H1.out.size))
    clear hb2
    go_wp2_with fail
    refine (HT.out _).mono ?_
    rintro e w3 ⟨rfl, hb3⟩
    have H3 := Lib.hid (H2.out.trans (hb3.mono H2.out.size))
    clear hb3
    go_wp2_with fail
    refine (HT2.out _).mono ?_
    rintro e w4 ⟨rfl, hb4⟩
    have H4 := Lib.hid (H3.out.trans (hb4.mono H3.out.size))
    clear hb4
    go_wp2_with fail
    refine (HE.out _).mono ?_
    rintro e w5 ⟨rfl, hb5⟩
    have H5 := Lib.hid (H4.out.trans (hb5.mono H4.out.size))
    clear hb5
    go_wp2_with fail
    refine (HN.out _).mono ?_
    rintro e w6 ⟨rfl, hb6⟩
    have H6 := Lib.hid (H5.out.trans (hb6.mono H5.out.size))
    clear hb6
    go_wp2_with fail
    refine (HTB.out _).mono ?_
    rintro e w7 ⟨rfl, hb7⟩
    have H7 := Lib.hid (H6.out.trans (hb7.mono H6.out.size))
    clear hb7
    go_wp2_with fail
    refine (HA.out _).mono ?_
    rintro e w8 ⟨rfl, hb8⟩
    have H8 := Lib.hid (H7.out.trans (hb8.mono H7.out.size))
    clear hb8
    go_wp2
    exact HR.out _ _ ⟨rfl, H8.out⟩
  · rw [g1] at HP
    rw [g2] at HP2
    obtain ⟨X, hX⟩ : ∃ X, slotS n k = X := ⟨_, rfl⟩
    rw [hX] at HP HP2
    clear hX hZ g1 g2 hn
    generalize slotXN b = x1 at *
    generalize slotXK b = x2 at *
    generalize slotX b = x3 at *
    go_enter Try.func3, Try.ntmps3
    go_wp2_with fail
    refine (HP.out _).mono ?_
    rintro e w1 ⟨rfl, hb1⟩
    have H1 := Lib.hid hb1
    clear hb1
    go_wp2_with fail
    refine (HP2.out _).mono ?_
    rintro e w2 ⟨rfl, hb2⟩
    have H2 := Lib.hid (H1.out.trans (hb2.mono H1.out.size))
    clear hb2
    go_wp2_with fail
    refine (HT.out _).mono ?_
    rintro e w3 ⟨rfl, hb3⟩
    have H3 := Lib.hid (H2.out.trans (hb3.mono H2.out.size))
    clear hb3
    go_wp2_with fail
    refine (HT2.out _).mono ?_
    rintro e w4 ⟨rfl, hb4⟩
    have H4 := Lib.hid (H3.out.trans (hb4.mono H3.out.size))
    clear hb4
    go_wp2_with fail
    refine (HE.out _).mono ?_
    rintro e w5 ⟨rfl, hb5⟩
    have H5 := Lib.hid (H4.out.trans (hb5.mono H4.out.size))
    clear hb5
    go_wp2_with fail
    refine (HN.out _).mono ?_
    rintro e w6 ⟨rfl, hb6⟩
    have H6 := Lib.hid (H5.out.trans (hb6.mono H5.out.size))
    clear hb6
    go_wp2_with fail
    refine (HA.out _).mono ?_
    rintro e w8 ⟨rfl, hb8⟩
    have H8 := Lib.hid (H6.out.trans (hb8.mono H6.out.size))
    clear hb8
    go_wp2
    exact HR.out _ _ ⟨rfl, H8.out⟩

set_option maxRecDepth 100000 in
set_option maxHeartbeats 2000000 in
theorem law_slpicks (a b : ByteArray) (ep : Int) (w : World) (ha : a.size ≤ 9223372036854775807) (hb : b.size ≤ 9223372036854775807) : Calls Try.prog 4 #[.string a, .string b, .int .i64 ep] w fun e w' => e = .returned (.bool true) ∧ Below w.heap.size w w' := by
  refine calls_by fun R HR => ?_
  have HA := Lib.hid (fun w => alive_any w)
  have HP := Lib.hid (fun w => slpick_any a b ep ha hb w)
  have HP2 := Lib.hid (fun w => rslpick_any a b ep w)
  have HS := Lib.hid (fun w => slstale_any a b ep w)
  have HS2 := Lib.hid (fun w => rslstale_any a b ep w)
  have HLEN := Lib.hid (show (staleL a b ep).length ≤ 4611686018427387904 by rcases stale_cases a b ep with ⟨_, h⟩ | ⟨_, _, _, h⟩ | ⟨_, _, _, h⟩ | ⟨_, _, _, h⟩ | ⟨_, _, _, h⟩ <;> rw [h] <;> decide)
  by_cases h1 : (10000 : Int) < a.size
  · go_enter Try.func4, Try.ntmps4
    go_wp2_with fail
    refine (HA.out _).mono ?_
    rintro e w1 ⟨rfl, hb1⟩
    go_wp2
    exact HR.out _ _ ⟨rfl, hb1⟩
  by_cases h2 : (10000 : Int) < b.size
  · go_enter Try.func4, Try.ntmps4
    go_wp2_with fail
    refine (HA.out _).mono ?_
    rintro e w1 ⟨rfl, hb1⟩
    go_wp2
    exact HR.out _ _ ⟨rfl, hb1⟩
  generalize pickK a b ep = x1 at *
  generalize pickE a b ep = x2 at *
  generalize staleL a b ep = L at *
  go_enter Try.func4, Try.ntmps4
  go_wp2_with fail
  refine (HP.out _).mono ?_
  rintro e w1 ⟨rfl, hb1⟩
  have H1 := Lib.hid hb1
  clear hb1
  go_wp2_with fail
  refine (HP2.out _).mono ?_
  rintro e w2 ⟨rfl, hb2⟩
  have H2 := Lib.hid (H1.out.trans (hb2.mono H1.out.size))
  clear hb2
  go_wp2_with fail
  refine (HS.out _).mono ?_
  rintro e w3 ⟨v3, rfl, hr3, hb3⟩
  have H3 := Lib.hid (And.intro (H2.out.trans (hb3.mono H2.out.size)) hr3)
  clear hb3 hr3
  go_wp2_with fail
  refine (HS2.out _).mono ?_
  rintro e w4 ⟨v4, rfl, hr4, hb4⟩
  have H4 := Lib.hid (And.intro (H3.out.1.trans (hb4.mono H3.out.1.size)) (And.intro (H3.out.2.below hb4) hr4))
  clear hb4 hr4
  go_wp2_with fail
  refine (ints_any _ _ _ _ _ H4.out.2.1 H4.out.2.2 HLEN.out).mono ?_
  rintro e w5 ⟨rfl, hb5⟩
  rw [show decide (L = L) = true by simp]
  have H5 := Lib.hid (H4.out.1.trans (hb5.mono H4.out.1.size))
  clear hb5
  go_wp2_with fail
  refine (HA.out _).mono ?_
  rintro e w6 ⟨rfl, hb6⟩
  have H6 := Lib.hid (H5.out.trans (hb6.mono H5.out.size))
  clear hb6
  go_wp2
  exact HR.out _ _ ⟨rfl, H6.out⟩

set_option maxRecDepth 100000 in
set_option maxHeartbeats 2000000 in
theorem law_slevolves (a b : ByteArray) (ep : Int) (k : ByteArray) (w : World) (ha : a.size ≤ 9223372036854775807) (hb : b.size ≤ 9223372036854775807) : Calls Try.prog 5 #[.string a, .string b, .int .i64 ep, .string k] w fun e w' => e = .returned (.bool true) ∧ Below w.heap.size w w' := by
  refine calls_by fun R HR => ?_
  have HA := Lib.hid (fun w => alive_any w)
  have HP := Lib.hid (fun w => slevolve_any a b ep k ha hb w)
  have HP2 := Lib.hid (fun w => rslevolve_any a b ep k w)
  by_cases h1 : (10000 : Int) < a.size
  · go_enter Try.func5, Try.ntmps5
    go_wp2_with fail
    refine (HA.out _).mono ?_
    rintro e w1 ⟨rfl, hb1⟩
    go_wp2
    exact HR.out _ _ ⟨rfl, hb1⟩
  by_cases h2 : (10000 : Int) < b.size
  · go_enter Try.func5, Try.ntmps5
    go_wp2_with fail
    refine (HA.out _).mono ?_
    rintro e w1 ⟨rfl, hb1⟩
    go_wp2
    exact HR.out _ _ ⟨rfl, hb1⟩
  by_cases h3 : (10000 : Int) < k.size
  · go_enter Try.func5, Try.ntmps5
    go_wp2_with fail
    refine (HA.out _).mono ?_
    rintro e w1 ⟨rfl, hb1⟩
    go_wp2
    exact HR.out _ _ ⟨rfl, hb1⟩
  generalize evA a b ep k = x1 at *
  generalize evB a b ep k = x2 at *
  generalize evE a b ep k = x3 at *
  go_enter Try.func5, Try.ntmps5
  go_wp2_with fail
  refine (HP.out _).mono ?_
  rintro e w1 ⟨rfl, hb1⟩
  have H1 := Lib.hid hb1
  clear hb1
  go_wp2_with fail
  refine (HP2.out _).mono ?_
  rintro e w2 ⟨rfl, hb2⟩
  have H2 := Lib.hid (H1.out.trans (hb2.mono H1.out.size))
  clear hb2
  go_wp2_with fail
  refine (HA.out _).mono ?_
  rintro e w3 ⟨rfl, hb3⟩
  have H3 := Lib.hid (H2.out.trans (hb3.mono H2.out.size))
  clear hb3
  go_wp2
  exact HR.out _ _ ⟨rfl, H3.out⟩
end Go.Proofs.Ytedjngljblhmpaa
