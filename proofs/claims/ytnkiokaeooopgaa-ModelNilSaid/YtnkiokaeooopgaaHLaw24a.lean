/- The law ModelNil: what its walk gives. -/
import Derived.Test.YtnkiokaeooopgaaM7
set_option maxRecDepth 100000
namespace Go.Proofs.Ytnkiokaeooopgaa
open Go.RowKit Ks Go.Maps
set_option linter.unusedVariables false
set_option linter.unusedSimpArgs false
set_option maxRecDepth 100000 in
set_option maxHeartbeats 8000000 in
theorem mnil_any (x : CallT) (ka : Option Addr) (kn kc : Nat) (there : Bool) (w : World) :
    Calls Try.prog 6 #[callV x ka kn kc, .bool there] w fun e w' => e = .returned (.bool true) ∧ Below w.heap.size w w' := by
  refine calls_by fun R HR => ?_
  obtain ⟨ki, lb, ce, ti, da, na⟩ := x
  have H1 := Lib.hid (Below.refl w.heap.size w)
  obtain ⟨W1, hW1⟩ : ∃ W1, w.alloc (.cells #[.int .i64 ki, .int .i64 lb, .int .i64 ce, .int .i64 ti, .string da, .string na, .slice ka kn kc] 32) = W1 := ⟨_, rfl⟩
  have hbW1 : Below w.heap.size w W1 := by rw [← hW1]; exact alloc_below w _
  have kW1 : W1.heap[w.heap.size]? = some (.cells #[.int .i64 ki, .int .i64 lb, .int .i64 ce, .int .i64 ti, .string da, .string na, .slice ka kn kc] 32 (0, 0)) := by rw [← hW1]; exact alloc_new w _
  have H2 := Lib.hid (And.intro (H1.out.trans (hbW1.mono H1.out.size)) (kW1))
  clear hbW1 kW1
  obtain ⟨W2, hW2⟩ : ∃ W2, W1.alloc (.cells #[.int .i64 ki, .int .i64 lb, .int .i64 ce, .int .i64 ti, .string da, .string na, .slice ka kn kc] 32) = W2 := ⟨_, rfl⟩
  have hbW2 : Below W1.heap.size W1 W2 := by rw [← hW2]; exact alloc_below W1 _
  have hr2 : Rd callE W2 (.slice (some ⟨W1.heap.size, 0, none⟩) 1 1) [⟨⟨ki, lb, ce, ti, da, na⟩, ka, kn, kc⟩] := by rw [← hW2]; exact Rd.single (E := callE) ⟨⟨ki, lb, ce, ti, da, na⟩, ka, kn, kc⟩ (alloc_new _ _) rfl
  obtain ⟨r0, r1, r2, r3, r4, r5, r6⟩ := blk7c H2.out.2
  have H3 := Lib.hid (And.intro (H2.out.1.trans (hbW2.mono H2.out.1.size)) (And.intro (blk_on hbW2 H2.out.2) (hr2)))
  clear hbW2 hr2
  go_enter Try.func6, Try.ntmps6
  go_wp2_with fail
  refine (few24_any _ _ _ H3.out.2.2).mono ?_
  rintro en v1 ⟨q9, rfl, hq9, hb⟩
  have H4 := Lib.hid (And.intro (H3.out.1.trans (hb.mono H3.out.1.size)) (blk_on hb H3.out.2.1))
  clear hb
  clear hq9 r0 r1 r2 r3 r4 r5 r6 hW1 hW2
  cases q9 with
  | false =>
    go_wp2_with fail
    refine (alive24_any _).mono ?_
    rintro en v3 ⟨rfl, hb⟩
    have H5 := Lib.hid (And.intro (H4.out.1.trans (hb.mono H4.out.1.size)) (blk_on hb H4.out.2))
    clear hb
    go_wp2
    exact HR.out _ _ ⟨rfl, H5.out.1⟩
  | true =>
    cases there with
    | false =>
      have H5 := Lib.hid (And.intro H4.out.1 (And.intro H4.out.2 (show ModNo v1 (.pointer none) from Or.inl rfl)))
      go_upto_region 6 with fail
      obtain ⟨r0, r1, r2, r3, r4, r5, r6⟩ := blk7c H5.out.2.1
      go_wp2_with fail
      refine (mblock_no (v := (.pointer none)) ce lb _ H5.out.2.2).mono ?_
      rintro en y9 ⟨rfl, hw⟩
      rw [hw]
      clear hw y9
      go_wp2_with fail
      refine (mdo_no (v := (.pointer none)) ⟨ki, lb, ce, ti, da, na⟩ ka kn kc _ H5.out.2.2).mono ?_
      rintro en v3 ⟨rfl, hb⟩
      have H6 := Lib.hid (And.intro (H5.out.1.trans (hb.mono H5.out.1.size)) (And.intro (blk_on hb H5.out.2.1) (H5.out.2.2.below hb)))
      clear hb
      clear r0 r1 r2 r3 r4 r5 r6
      obtain ⟨r0, r1, r2, r3, r4, r5, r6⟩ := blk7c H6.out.2.1
      go_wp2_with fail
      refine (mgone_no (v := (.pointer none)) ce _ H6.out.2.2).mono ?_
      rintro en y9 ⟨rfl, hw⟩
      rw [hw]
      clear hw y9
      go_wp2_with fail
      refine (mrecords_no (v := (.pointer none)) _ H6.out.2.2).mono ?_
      rintro en y9 ⟨rfl, hw⟩
      rw [hw]
      clear hw y9
      go_wp2_with fail
      refine (mepoch_no (v := (.pointer none)) _ H6.out.2.2).mono ?_
      rintro en y9 ⟨rfl, hw⟩
      rw [hw]
      clear hw y9
      go_wp2_with fail
      refine (mcopy_no (v := (.pointer none)) _ H6.out.2.2).mono ?_
      rintro en y9 ⟨rfl, hw⟩
      rw [hw]
      clear hw y9
      go_wp2_with fail
      refine (msame_no (v := (.pointer none)) (u := (.pointer none)) _ H6.out.2.2).mono ?_
      rintro en y9 ⟨rfl, hw⟩
      rw [hw]
      clear hw y9
      go_wp2_with fail
      refine (alive24_any _).mono ?_
      rintro en v4 ⟨rfl, hb⟩
      have H7 := Lib.hid (And.intro (H6.out.1.trans (hb.mono H6.out.1.size)) (And.intro (blk_on hb H6.out.2.1) (H6.out.2.2.below hb)))
      clear hb
      clear r0 r1 r2 r3 r4 r5 r6
      go_wp2
      exact HR.out _ _ ⟨rfl, H7.out.1⟩
    | true =>
      obtain ⟨WS, hWS⟩ : ∃ WS, v1.alloc (.cells #[.int .i64 0, .int .i64 0, .int .i64 0, .int .i64 0, .pointer none, .pointer none, .slice none 0 0, .slice none 0 0] 49) = WS := ⟨_, rfl⟩
      have hbWS : Below v1.heap.size v1 WS := by rw [← hWS]; exact alloc_below v1 _
      have kWS : WS.heap[v1.heap.size]? = some (.cells #[.int .i64 0, .int .i64 0, .int .i64 0, .int .i64 0, .pointer none, .pointer none, .slice none 0 0, .slice none 0 0] 49 (0, 0)) := by rw [← hWS]; exact alloc_new v1 _
      have EWS := Lib.hid hWS
      have H5 := Lib.hid (And.intro (H4.out.1.trans (hbWS.mono H4.out.1.size)) (And.intro (blk_on hbWS H4.out.2) (kWS)))
      clear hbWS kWS hWS
      have H6 := Lib.hid (And.intro H5.out.1 (And.intro H5.out.2.1 (And.intro H5.out.2.2 (show ModNo WS (.pointer (some ⟨v1.heap.size, 0, none⟩)) from Or.inr ⟨_, rfl, H5.out.2.2⟩))))
      have H7 := Lib.hid (And.intro H6.out.1 (And.intro H6.out.2.1 H6.out.2.2.2))
      go_upto_region 6 with fail
      try rw [EWS.out]
      clear EWS
      obtain ⟨r0, r1, r2, r3, r4, r5, r6⟩ := blk7c H7.out.2.1
      go_wp2_with fail
      refine (mblock_no (v := (.pointer (some ⟨v1.heap.size, 0, none⟩))) ce lb _ H7.out.2.2).mono ?_
      rintro en y9 ⟨rfl, hw⟩
      rw [hw]
      clear hw y9
      go_wp2_with fail
      refine (mdo_no (v := (.pointer (some ⟨v1.heap.size, 0, none⟩))) ⟨ki, lb, ce, ti, da, na⟩ ka kn kc _ H7.out.2.2).mono ?_
      rintro en v3 ⟨rfl, hb⟩
      have H8 := Lib.hid (And.intro (H7.out.1.trans (hb.mono H7.out.1.size)) (And.intro (blk_on hb H7.out.2.1) (H7.out.2.2.below hb)))
      clear hb
      clear r0 r1 r2 r3 r4 r5 r6
      obtain ⟨r0, r1, r2, r3, r4, r5, r6⟩ := blk7c H8.out.2.1
      go_wp2_with fail
      refine (mgone_no (v := (.pointer (some ⟨v1.heap.size, 0, none⟩))) ce _ H8.out.2.2).mono ?_
      rintro en y9 ⟨rfl, hw⟩
      rw [hw]
      clear hw y9
      go_wp2_with fail
      refine (mrecords_no (v := (.pointer (some ⟨v1.heap.size, 0, none⟩))) _ H8.out.2.2).mono ?_
      rintro en y9 ⟨rfl, hw⟩
      rw [hw]
      clear hw y9
      go_wp2_with fail
      refine (mepoch_no (v := (.pointer (some ⟨v1.heap.size, 0, none⟩))) _ H8.out.2.2).mono ?_
      rintro en y9 ⟨rfl, hw⟩
      rw [hw]
      clear hw y9
      go_wp2_with fail
      refine (mcopy_no (v := (.pointer (some ⟨v1.heap.size, 0, none⟩))) _ H8.out.2.2).mono ?_
      rintro en y9 ⟨rfl, hw⟩
      rw [hw]
      clear hw y9
      go_wp2_with fail
      refine (msame_no (v := (.pointer (some ⟨v1.heap.size, 0, none⟩))) (u := (.pointer (some ⟨v1.heap.size, 0, none⟩))) _ H8.out.2.2).mono ?_
      rintro en y9 ⟨rfl, hw⟩
      rw [hw]
      clear hw y9
      go_wp2_with fail
      refine (alive24_any _).mono ?_
      rintro en v4 ⟨rfl, hb⟩
      have H9 := Lib.hid (And.intro (H8.out.1.trans (hb.mono H8.out.1.size)) (And.intro (blk_on hb H8.out.2.1) (H8.out.2.2.below hb)))
      clear hb
      clear r0 r1 r2 r3 r4 r5 r6
      go_wp2
      exact HR.out _ _ ⟨rfl, H9.out.1⟩
end Go.Proofs.Ytnkiokaeooopgaa
