/- The law SegmentNil: what its walk gives. -/
import Derived.Test.YtdbabkkmdlkjaaaM10
set_option maxRecDepth 100000
namespace Go.Proofs.Ytdbabkkmdlkjaaa
open Go.RowKit Ks
set_option linter.unusedVariables false
theorem same_none17 (w : World) : Calls Try.prog 19 #[prfV noPrf (.slice none 0 0) (.slice none 0 0), prfV noPrf (.slice none 0 0) (.slice none 0 0)] w fun e w' => e = .returned (.bool true) ∧ Below w.heap.size w w' :=
  rsame_any noPrf _ _ _ _ w (Rd.nil w) (Rd.nil w) (Rd.nil w) (Rd.nil w) (by decide) (by decide)
set_option maxHeartbeats 4000000 in
theorem snil_any (x : ActT) (there : Bool) (w : World) :
    Calls Try.prog 4 #[actV17 x, .bool there] w fun e w' => e = .returned (.bool true) ∧ Below w.heap.size w w' := by
  refine calls_by fun R HR => ?_
  obtain ⟨lba, slot, s⟩ := x
  have H1 := Lib.hid (Below.refl w.heap.size w)
  obtain ⟨W1, hW1⟩ : ∃ W1, w.alloc (.cells #[.int .i64 lba, .int .i64 slot, .string s] 34) = W1 := ⟨_, rfl⟩
  have hbW1 : Below w.heap.size w W1 := by rw [← hW1]; exact alloc_below w _
  have kW1 : W1.heap[w.heap.size]? = some (.cells #[.int .i64 lba, .int .i64 slot, .string s] 34 (0, 0)) := by rw [← hW1]; exact alloc_new w _
  have H2 := Lib.hid (And.intro (H1.out.trans (hbW1.mono H1.out.size)) (kW1))
  clear hbW1 kW1
  obtain ⟨W2, hW2⟩ : ∃ W2, W1.alloc (.cells #[.int .i64 lba, .int .i64 slot, .string s] 34) = W2 := ⟨_, rfl⟩
  have hbW2 : Below W1.heap.size W1 W2 := by rw [← hW2]; exact alloc_below W1 _
  have hr2 : Rd actE17 W2 (.slice (some ⟨W1.heap.size, 0, none⟩) 1 1) [(lba, slot, s)] := by rw [← hW2]; exact Rd.single (E := actE17) (lba, slot, s) (alloc_new _ _) rfl
  obtain ⟨z0, z1, z2, fza0, fza1, fza2⟩ := blk3 H2.out.2
  have H3 := Lib.hid (And.intro (H2.out.1.trans (hbW2.mono H2.out.1.size)) (And.intro (blk_on hbW2 H2.out.2) (hr2)))
  clear hbW2 hr2
  go_enter Try.func4, Try.ntmps4
  go_wp2_with fail
  refine (few17_any _ _ _ H3.out.2.2).mono ?_
  rintro en v1 ⟨q9, rfl, hq9, hw⟩
  rw [hw]
  clear hw hq9 z0 z1 z2 fza0 fza1 fza2 hW1 hW2
  cases q9 with
  | false =>
    go_wp2_with fail
    refine (alive17_any _).mono ?_
    rintro en v2 ⟨rfl, hb⟩
    have H4 := Lib.hid (And.intro (H3.out.1.trans (hb.mono H3.out.1.size)) (And.intro (blk_on hb H3.out.2.1) (H3.out.2.2.below hb)))
    clear hb
    go_wp2
    exact HR.out _ _ ⟨rfl, H4.out.1⟩
  | true =>
    cases there with
    | false =>
      have H4 := Lib.hid (And.intro H3.out.1 (And.intro H3.out.2.1 (And.intro H3.out.2.2 (show SegNo W2 56 (.pointer none) from Or.inl rfl))))
      obtain ⟨z0, z1, z2, fza0, fza1, fza2⟩ := blk3 H4.out.2.1
      go_wp2_with fail
      refine (sprove_no _ _ H4.out.2.2.2).mono ?_
      rintro en v2 ⟨rfl, hb⟩
      clear z0 z1 z2 fza0 fza1 fza2
      have H5 := Lib.hid (And.intro (H4.out.1.trans (hb.mono H4.out.1.size)) (And.intro (blk_on hb H4.out.2.1) (And.intro (H4.out.2.2.1.below hb) (H4.out.2.2.2.below hb))))
      clear hb
      obtain ⟨WP, hWP⟩ : ∃ WP, v2.alloc (.cells #[.bool false, .int .i64 0, .int .i64 0, .string ⟨#[]⟩, .int .i64 0, .string ⟨#[]⟩, .slice none 0 0, .slice none 0 0] 48) = WP := ⟨_, rfl⟩
      have hbWP : Below v2.heap.size v2 WP := by rw [← hWP]; exact alloc_below v2 _
      have kWP : WP.heap[v2.heap.size]? = some (.cells #[.bool false, .int .i64 0, .int .i64 0, .string ⟨#[]⟩, .int .i64 0, .string ⟨#[]⟩, .slice none 0 0, .slice none 0 0] 48 (0, 0)) := by rw [← hWP]; exact alloc_new v2 _
      have EWP := Lib.hid hWP
      have H6 := Lib.hid (And.intro (H5.out.1.trans (hbWP.mono H5.out.1.size)) (And.intro (blk_on hbWP H5.out.2.1) (And.intro (H5.out.2.2.1.below hbWP) (And.intro (H5.out.2.2.2.below hbWP) (kWP)))))
      clear hbWP kWP hWP
      go_upto_region 7 with fail
      try rw [EWP.out]
      clear EWP
      obtain ⟨z0, z1, z2, fza0, fza1, fza2⟩ := blk3 H6.out.2.1
      obtain ⟨y0, y1, y2, y3, y4, y5, y6, y7⟩ := blk8 H6.out.2.2.2.2
      go_wp2_with fail
      refine (sput_no _ _ _ _ H6.out.2.2.2.1).mono ?_
      rintro en ua ⟨rfl, hw⟩
      rw [hw]
      clear hw
      go_wp2_with fail
      refine (same_none17 _).mono ?_
      rintro en v3 ⟨rfl, hb⟩
      clear z0 z1 z2 fza0 fza1 fza2 y0 y1 y2 y3 y4 y5 y6 y7
      have H7 := Lib.hid (And.intro (H6.out.1.trans (hb.mono H6.out.1.size)) (And.intro (blk_on hb H6.out.2.1) (And.intro (H6.out.2.2.1.below hb) (And.intro (H6.out.2.2.2.1.below hb) (blk_on hb H6.out.2.2.2.2)))))
      clear hb
      go_wp2_with fail
      refine (sleaves_no _ H7.out.2.2.2.1).mono ?_
      rintro en ub ⟨rfl, hw⟩
      rw [hw]
      clear hw
      go_wp2_with fail
      refine (scount_no _ H7.out.2.2.2.1).mono ?_
      rintro en uc ⟨rfl, hw⟩
      rw [hw]
      clear hw
      go_wp2_with fail
      refine (sepoch_no _ H7.out.2.2.2.1).mono ?_
      rintro en ud ⟨rfl, hw⟩
      rw [hw]
      clear hw
      go_wp2_with fail
      refine (sroot_no _ H7.out.2.2.2.1).mono ?_
      rintro en ue ⟨rfl, hw⟩
      rw [hw]
      clear hw
      go_wp2_with fail
      refine (alive17_any _).mono ?_
      rintro en v4 ⟨rfl, hb⟩
      have H8 := Lib.hid (And.intro (H7.out.1.trans (hb.mono H7.out.1.size)) (And.intro (blk_on hb H7.out.2.1) (And.intro (H7.out.2.2.1.below hb) (And.intro (H7.out.2.2.2.1.below hb) (blk_on hb H7.out.2.2.2.2)))))
      clear hb
      go_wp2
      exact HR.out _ _ ⟨rfl, H8.out.1⟩
    | true =>
      obtain ⟨WS, hWS⟩ : ∃ WS, W2.alloc (.cells #[.int .i64 0, .map none] 56) = WS := ⟨_, rfl⟩
      have hbWS : Below W2.heap.size W2 WS := by rw [← hWS]; exact alloc_below W2 _
      have kWS : WS.heap[W2.heap.size]? = some (.cells #[.int .i64 0, .map none] 56 (0, 0)) := by rw [← hWS]; exact alloc_new W2 _
      have EWS := Lib.hid hWS
      have H4 := Lib.hid (And.intro (H3.out.1.trans (hbWS.mono H3.out.1.size)) (And.intro (blk_on hbWS H3.out.2.1) (And.intro (H3.out.2.2.below hbWS) (kWS))))
      clear hbWS kWS hWS
      have H5 := Lib.hid (And.intro H4.out.1 (And.intro H4.out.2.1 (And.intro H4.out.2.2.1 (And.intro H4.out.2.2.2 (show SegNo WS 56 (.pointer (some ⟨W2.heap.size, 0, none⟩)) from Or.inr ⟨_, rfl, H4.out.2.2.2⟩)))))
      have H6 := Lib.hid (And.intro H5.out.1 (And.intro H5.out.2.1 (And.intro H5.out.2.2.1 H5.out.2.2.2.2)))
      go_upto_region 6 with fail
      try rw [EWS.out]
      clear EWS
      obtain ⟨z0, z1, z2, fza0, fza1, fza2⟩ := blk3 H6.out.2.1
      go_wp2_with fail
      refine (sprove_no _ _ H6.out.2.2.2).mono ?_
      rintro en v2 ⟨rfl, hb⟩
      clear z0 z1 z2 fza0 fza1 fza2
      have H7 := Lib.hid (And.intro (H6.out.1.trans (hb.mono H6.out.1.size)) (And.intro (blk_on hb H6.out.2.1) (And.intro (H6.out.2.2.1.below hb) (H6.out.2.2.2.below hb))))
      clear hb
      obtain ⟨WP, hWP⟩ : ∃ WP, v2.alloc (.cells #[.bool false, .int .i64 0, .int .i64 0, .string ⟨#[]⟩, .int .i64 0, .string ⟨#[]⟩, .slice none 0 0, .slice none 0 0] 48) = WP := ⟨_, rfl⟩
      have hbWP : Below v2.heap.size v2 WP := by rw [← hWP]; exact alloc_below v2 _
      have kWP : WP.heap[v2.heap.size]? = some (.cells #[.bool false, .int .i64 0, .int .i64 0, .string ⟨#[]⟩, .int .i64 0, .string ⟨#[]⟩, .slice none 0 0, .slice none 0 0] 48 (0, 0)) := by rw [← hWP]; exact alloc_new v2 _
      have EWP := Lib.hid hWP
      have H8 := Lib.hid (And.intro (H7.out.1.trans (hbWP.mono H7.out.1.size)) (And.intro (blk_on hbWP H7.out.2.1) (And.intro (H7.out.2.2.1.below hbWP) (And.intro (H7.out.2.2.2.below hbWP) (kWP)))))
      clear hbWP kWP hWP
      go_upto_region 7 with fail
      try rw [EWP.out]
      clear EWP
      obtain ⟨z0, z1, z2, fza0, fza1, fza2⟩ := blk3 H8.out.2.1
      obtain ⟨y0, y1, y2, y3, y4, y5, y6, y7⟩ := blk8 H8.out.2.2.2.2
      go_wp2_with fail
      refine (sput_no _ _ _ _ H8.out.2.2.2.1).mono ?_
      rintro en ua ⟨rfl, hw⟩
      rw [hw]
      clear hw
      go_wp2_with fail
      refine (same_none17 _).mono ?_
      rintro en v3 ⟨rfl, hb⟩
      clear z0 z1 z2 fza0 fza1 fza2 y0 y1 y2 y3 y4 y5 y6 y7
      have H9 := Lib.hid (And.intro (H8.out.1.trans (hb.mono H8.out.1.size)) (And.intro (blk_on hb H8.out.2.1) (And.intro (H8.out.2.2.1.below hb) (And.intro (H8.out.2.2.2.1.below hb) (blk_on hb H8.out.2.2.2.2)))))
      clear hb
      go_wp2_with fail
      refine (sleaves_no _ H9.out.2.2.2.1).mono ?_
      rintro en ub ⟨rfl, hw⟩
      rw [hw]
      clear hw
      go_wp2_with fail
      refine (scount_no _ H9.out.2.2.2.1).mono ?_
      rintro en uc ⟨rfl, hw⟩
      rw [hw]
      clear hw
      go_wp2_with fail
      refine (sepoch_no _ H9.out.2.2.2.1).mono ?_
      rintro en ud ⟨rfl, hw⟩
      rw [hw]
      clear hw
      go_wp2_with fail
      refine (sroot_no _ H9.out.2.2.2.1).mono ?_
      rintro en ue ⟨rfl, hw⟩
      rw [hw]
      clear hw
      go_wp2_with fail
      refine (alive17_any _).mono ?_
      rintro en v4 ⟨rfl, hb⟩
      have H10 := Lib.hid (And.intro (H9.out.1.trans (hb.mono H9.out.1.size)) (And.intro (blk_on hb H9.out.2.1) (And.intro (H9.out.2.2.1.below hb) (And.intro (H9.out.2.2.2.1.below hb) (blk_on hb H9.out.2.2.2.2)))))
      clear hb
      go_wp2
      exact HR.out _ _ ⟨rfl, H10.out.1⟩
end Go.Proofs.Ytdbabkkmdlkjaaa
