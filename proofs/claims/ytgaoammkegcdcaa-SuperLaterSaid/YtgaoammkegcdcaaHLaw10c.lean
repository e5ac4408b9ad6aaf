/- The law SuperBack: what its walk gives. -/
import Derived.Test.YtgaoammkegcdcaaM6
namespace Go.Proofs.Ytgaoammkegcdcaa
open Go.RowKit Ks
set_option linter.unusedVariables false
theorem put_back (g t e c b l f : Int) (h : supOk g t e c b l f = true) : stV (supS g t e c b l f) = supV g t e c b l f ∧ stE (supS g t e c b l f) = 0 := by
  obtain ⟨h1, n0, n1, n2, n3, n4, n5, n6⟩ := st_sup g t e c b l f h
  exact ⟨by rw [stV, n0, n1, n2, n3, n4, n5, n6], (stV_yes h1).2.2⟩
theorem take_back (s : ByteArray) : (stE s = 3 ∧ stV s = supV 0 0 0 0 0 0 0) ∨ (stE s = 0 ∧ ∃ g t e c b l f, stV s = supV g t e c b l f ∧ (-9223372036854775808 ≤ b ∧ b ≤ 9223372036854775807) ∧ supS g t e c b l f = s ∧ supE g t e c b l f = 0) := by
  by_cases h : stOk s = true
  · obtain ⟨-, h2, h3⟩ := st_ok.1 h
    have hb := numAt_lt s 33
    exact .inr ⟨(stV_yes h).2.2, _, _, _, _, _, _, _, (stV_yes h).1, by omega, h3, sup_yes h2⟩
  · exact .inl ⟨(stV_no h).2.2, (stV_no h).1⟩
set_option maxHeartbeats 4000000 in
set_option maxRecDepth 100000 in
theorem law_back (g t e c b l f : Int) (s : ByteArray) (w : World) (hb : -9223372036854775808 ≤ b ∧ b ≤ 9223372036854775807) :
    Calls Try.prog 4 #[supV g t e c b l f, .string s] w fun en w' => en = .returned (.bool true) ∧ Below w.heap.size w w' := by
  refine calls_by fun R HR => ?_
  by_cases h1 : (10000 : Int) < s.size
  · go_enter Try.func4, Try.ntmps4
    go_wp2_with fail
    refine (alive_any _).mono ?_
    rintro en w1 ⟨rfl, hb1⟩
    go_wp2
    exact HR.out _ _ ⟨rfl, (alloc_below w _).trans (hb1.mono (by simp))⟩
  have HP := Lib.hid (fun w => sput_any g t e c b l f w hb)
  have HT := Lib.hid (fun w => stake_any s w)
  clear hb
  cases hk : supOk g t e c b l f
  · have hz := sup_no hk
    simp only [hz] at HP
    clear hz hk
    rcases take_back s with ⟨e1, e2⟩ | ⟨e1, y0, y1, y2, y3, y4, y5, y6, e2, e3, e4, e5⟩
    · simp only [e1, e2] at HT
      clear e1 e2
      obtain ⟨W1, hW1⟩ : ∃ W1, w.alloc (.cells #[.int .i64 g, .int .i64 t, .int .i64 e, .int .i64 c, .int .i64 b, .int .i64 l, .int .i64 f] 26) = W1 := ⟨_, rfl⟩
      have hb1 : Below w.heap.size w W1 := by rw [← hW1]; exact alloc_below w _
      have k1 : W1.heap[w.heap.size]? = some (.cells #[.int .i64 g, .int .i64 t, .int .i64 e, .int .i64 c, .int .i64 b, .int .i64 l, .int .i64 f] 26 (0, 0)) := by rw [← hW1]; exact alloc_new w _
      have H1 := Lib.hid (And.intro hb1 k1)
      clear k1 hb1
      obtain ⟨c0_0, c0_1, c0_2, c0_3, c0_4, c0_5, c0_6⟩ := blk7 H1.out.2
      go_enter Try.func4, Try.ntmps4
      go_wp2_with fail
      with_reducible refine (HP.out _).mono ?_
      rintro en w2 ⟨rfl, hb2⟩
      clear hW1
      clear c0_0 c0_1 c0_2 c0_3 c0_4 c0_5 c0_6
      have H2 := Lib.hid (And.intro (H1.out.1.trans (hb2.mono H1.out.1.size)) ((hb2.block _ (lt_of_block H1.out.2)).trans H1.out.2))
      clear hb2
      obtain ⟨c0_0, c0_1, c0_2, c0_3, c0_4, c0_5, c0_6⟩ := blk7 H2.out.2
      go_wp2_with fail
      with_reducible refine (HT.out _).mono ?_
      rintro en w3 ⟨rfl, hb3⟩
      clear c0_0 c0_1 c0_2 c0_3 c0_4 c0_5 c0_6
      have H3 := Lib.hid (And.intro (H2.out.1.trans (hb3.mono H2.out.1.size)) ((hb3.block _ (lt_of_block H2.out.2)).trans H2.out.2))
      clear hb3
      have hb4 := alloc_below w3 (.cells #[.int .i64 0, .int .i64 0, .int .i64 0, .int .i64 0, .int .i64 0, .int .i64 0, .int .i64 0] 26)
      have k4 := alloc_new w3 (.cells #[.int .i64 0, .int .i64 0, .int .i64 0, .int .i64 0, .int .i64 0, .int .i64 0, .int .i64 0] 26)
      have H4 := Lib.hid (And.intro (H3.out.1.trans (hb4.mono H3.out.1.size)) (And.intro ((hb4.block _ (lt_of_block H3.out.2)).trans H3.out.2) k4))
      clear k4 hb4
      obtain ⟨c0_0, c0_1, c0_2, c0_3, c0_4, c0_5, c0_6⟩ := blk7 H4.out.2.1
      obtain ⟨c1_0, c1_1, c1_2, c1_3, c1_4, c1_5, c1_6⟩ := blk7 H4.out.2.2
      go_wp2_with fail
      with_reducible refine (alive_any _).mono ?_
      rintro en w5 ⟨rfl, hb5⟩
      clear c0_0 c0_1 c0_2 c0_3 c0_4 c0_5 c0_6 c1_0 c1_1 c1_2 c1_3 c1_4 c1_5 c1_6
      have H5 := Lib.hid (And.intro (H4.out.1.trans (hb5.mono H4.out.1.size)) (And.intro ((hb5.block _ (lt_of_block H4.out.2.1)).trans H4.out.2.1) ((hb5.block _ (lt_of_block H4.out.2.2)).trans H4.out.2.2)))
      clear hb5
      go_wp2
      exact HR.out _ _ ⟨rfl, H5.out.1⟩
    · simp only [e1, e2] at HT
      have HR2 := Lib.hid (fun w => sput_any y0 y1 y2 y3 y4 y5 y6 w e3)
      have HR3 := Lib.hid (fun w => scheck_any y0 y1 y2 y3 y4 y5 y6 w e3)
      simp only [e4, e5] at HR2 HR3
      clear e1 e2 e3 e4 e5
      obtain ⟨W1, hW1⟩ : ∃ W1, w.alloc (.cells #[.int .i64 g, .int .i64 t, .int .i64 e, .int .i64 c, .int .i64 b, .int .i64 l, .int .i64 f] 26) = W1 := ⟨_, rfl⟩
      have hb1 : Below w.heap.size w W1 := by rw [← hW1]; exact alloc_below w _
      have k1 : W1.heap[w.heap.size]? = some (.cells #[.int .i64 g, .int .i64 t, .int .i64 e, .int .i64 c, .int .i64 b, .int .i64 l, .int .i64 f] 26 (0, 0)) := by rw [← hW1]; exact alloc_new w _
      have H1 := Lib.hid (And.intro hb1 k1)
      clear k1 hb1
      obtain ⟨c0_0, c0_1, c0_2, c0_3, c0_4, c0_5, c0_6⟩ := blk7 H1.out.2
      go_enter Try.func4, Try.ntmps4
      go_wp2_with fail
      with_reducible refine (HP.out _).mono ?_
      rintro en w2 ⟨rfl, hb2⟩
      clear hW1
      clear c0_0 c0_1 c0_2 c0_3 c0_4 c0_5 c0_6
      have H2 := Lib.hid (And.intro (H1.out.1.trans (hb2.mono H1.out.1.size)) ((hb2.block _ (lt_of_block H1.out.2)).trans H1.out.2))
      clear hb2
      obtain ⟨c0_0, c0_1, c0_2, c0_3, c0_4, c0_5, c0_6⟩ := blk7 H2.out.2
      go_wp2_with fail
      with_reducible refine (HT.out _).mono ?_
      rintro en w3 ⟨rfl, hb3⟩
      have hb3s := hb3.size
      clear c0_0 c0_1 c0_2 c0_3 c0_4 c0_5 c0_6
      obtain ⟨W4, hW4⟩ : ∃ W4, w3.alloc (.cells #[.int .i64 y0, .int .i64 y1, .int .i64 y2, .int .i64 y3, .int .i64 y4, .int .i64 y5, .int .i64 y6] 26) = W4 := ⟨_, rfl⟩
      have hb4 : Below w3.heap.size w3 W4 := by rw [← hW4]; exact alloc_below w3 _
      have k4 : W4.heap[w3.heap.size]? = some (.cells #[.int .i64 y0, .int .i64 y1, .int .i64 y2, .int .i64 y3, .int .i64 y4, .int .i64 y5, .int .i64 y6] 26 (0, 0)) := by rw [← hW4]; exact alloc_new w3 _
      have hc4 := hb3.trans (hb4.mono hb3.size)
      have H4 := Lib.hid (And.intro (H2.out.1.trans (hc4.mono H2.out.1.size)) (And.intro ((hc4.block _ (lt_of_block H2.out.2)).trans H2.out.2) k4))
      clear k4 hb4 hc4 hb3
      obtain ⟨c0_0, c0_1, c0_2, c0_3, c0_4, c0_5, c0_6⟩ := blk7 H4.out.2.1
      obtain ⟨c1_0, c1_1, c1_2, c1_3, c1_4, c1_5, c1_6⟩ := blk7 H4.out.2.2
      go_wp2_with fail
      with_reducible refine (HR2.out _).mono ?_
      rintro en w5 ⟨rfl, hb5⟩
      clear hW4
      clear c0_0 c0_1 c0_2 c0_3 c0_4 c0_5 c0_6 c1_0 c1_1 c1_2 c1_3 c1_4 c1_5 c1_6
      have H5 := Lib.hid (And.intro (H4.out.1.trans (hb5.mono H4.out.1.size)) (And.intro ((hb5.block _ (lt_of_block H4.out.2.1)).trans H4.out.2.1) ((hb5.block _ (lt_of_block H4.out.2.2)).trans H4.out.2.2)))
      clear hb5
      obtain ⟨c1_0, c1_1, c1_2, c1_3, c1_4, c1_5, c1_6⟩ := blk7 H5.out.2.2
      go_wp2_with fail
      with_reducible refine (HR3.out _).mono ?_
      rintro en w6 ⟨rfl, hb6⟩
      clear c1_0 c1_1 c1_2 c1_3 c1_4 c1_5 c1_6
      have H6 := Lib.hid (And.intro (H5.out.1.trans (hb6.mono H5.out.1.size)) (And.intro ((hb6.block _ (lt_of_block H5.out.2.1)).trans H5.out.2.1) ((hb6.block _ (lt_of_block H5.out.2.2)).trans H5.out.2.2)))
      clear hb6
      obtain ⟨c1_0, c1_1, c1_2, c1_3, c1_4, c1_5, c1_6⟩ := blk7 H6.out.2.2
      go_wp2_with fail
      with_reducible refine (alive_any _).mono ?_
      rintro en w7 ⟨rfl, hb7⟩
      clear c1_0 c1_1 c1_2 c1_3 c1_4 c1_5 c1_6
      have H7 := Lib.hid (And.intro (H6.out.1.trans (hb7.mono H6.out.1.size)) (And.intro ((hb7.block _ (lt_of_block H6.out.2.1)).trans H6.out.2.1) ((hb7.block _ (lt_of_block H6.out.2.2)).trans H6.out.2.2)))
      clear hb7
      go_wp2
      exact HR.out _ _ ⟨rfl, H7.out.1⟩
  · have hp := put_back g t e c b l f hk
    have hz := sup_size g t e c b l f hk
    have hy := sup_yes hk
    obtain ⟨S, hS⟩ : ∃ S, supS g t e c b l f = S := ⟨_, rfl⟩
    have HQ := Lib.hid (fun w => stake_any S w)
    rw [hS] at hp hz
    simp only [hS, hy] at HP
    simp only [hp] at HQ
    have hzi : (S.size : Int) = 4096 := by omega
    clear hp hz hy hS hk
    rcases take_back s with ⟨e1, e2⟩ | ⟨e1, y0, y1, y2, y3, y4, y5, y6, e2, e3, e4, e5⟩
    · simp only [e1, e2] at HT
      clear e1 e2
      obtain ⟨W1, hW1⟩ : ∃ W1, w.alloc (.cells #[.int .i64 g, .int .i64 t, .int .i64 e, .int .i64 c, .int .i64 b, .int .i64 l, .int .i64 f] 26) = W1 := ⟨_, rfl⟩
      have hb1 : Below w.heap.size w W1 := by rw [← hW1]; exact alloc_below w _
      have k1 : W1.heap[w.heap.size]? = some (.cells #[.int .i64 g, .int .i64 t, .int .i64 e, .int .i64 c, .int .i64 b, .int .i64 l, .int .i64 f] 26 (0, 0)) := by rw [← hW1]; exact alloc_new w _
      have H1 := Lib.hid (And.intro hb1 k1)
      clear k1 hb1
      obtain ⟨c0_0, c0_1, c0_2, c0_3, c0_4, c0_5, c0_6⟩ := blk7 H1.out.2
      go_enter Try.func4, Try.ntmps4
      go_wp2_with fail
      with_reducible refine (HP.out _).mono ?_
      rintro en w2 ⟨rfl, hb2⟩
      clear hW1
      clear c0_0 c0_1 c0_2 c0_3 c0_4 c0_5 c0_6
      have H2 := Lib.hid (And.intro (H1.out.1.trans (hb2.mono H1.out.1.size)) ((hb2.block _ (lt_of_block H1.out.2)).trans H1.out.2))
      clear hb2
      obtain ⟨c0_0, c0_1, c0_2, c0_3, c0_4, c0_5, c0_6⟩ := blk7 H2.out.2
      go_wp2_with fail
      with_reducible refine (HQ.out _).mono ?_
      rintro en w3 ⟨rfl, hb3⟩
      have hb3s := hb3.size
      clear c0_0 c0_1 c0_2 c0_3 c0_4 c0_5 c0_6
      obtain ⟨W4, hW4⟩ : ∃ W4, w3.alloc (.cells #[.int .i64 g, .int .i64 t, .int .i64 e, .int .i64 c, .int .i64 b, .int .i64 l, .int .i64 f] 26) = W4 := ⟨_, rfl⟩
      have hb4 : Below w3.heap.size w3 W4 := by rw [← hW4]; exact alloc_below w3 _
      have k4 : W4.heap[w3.heap.size]? = some (.cells #[.int .i64 g, .int .i64 t, .int .i64 e, .int .i64 c, .int .i64 b, .int .i64 l, .int .i64 f] 26 (0, 0)) := by rw [← hW4]; exact alloc_new w3 _
      have hc4 := hb3.trans (hb4.mono hb3.size)
      have H4 := Lib.hid (And.intro (H2.out.1.trans (hc4.mono H2.out.1.size)) (And.intro ((hc4.block _ (lt_of_block H2.out.2)).trans H2.out.2) k4))
      clear k4 hb4 hc4 hb3
      obtain ⟨c0_0, c0_1, c0_2, c0_3, c0_4, c0_5, c0_6⟩ := blk7 H4.out.2.1
      obtain ⟨c1_0, c1_1, c1_2, c1_3, c1_4, c1_5, c1_6⟩ := blk7 H4.out.2.2
      go_wp2_with fail
      with_reducible refine (HT.out _).mono ?_
      rintro en w5 ⟨rfl, hb5⟩
      clear hW4
      clear c0_0 c0_1 c0_2 c0_3 c0_4 c0_5 c0_6 c1_0 c1_1 c1_2 c1_3 c1_4 c1_5 c1_6
      have H5 := Lib.hid (And.intro (H4.out.1.trans (hb5.mono H4.out.1.size)) (And.intro ((hb5.block _ (lt_of_block H4.out.2.1)).trans H4.out.2.1) ((hb5.block _ (lt_of_block H4.out.2.2)).trans H4.out.2.2)))
      clear hb5
      have hb6 := alloc_below w5 (.cells #[.int .i64 0, .int .i64 0, .int .i64 0, .int .i64 0, .int .i64 0, .int .i64 0, .int .i64 0] 26)
      have k6 := alloc_new w5 (.cells #[.int .i64 0, .int .i64 0, .int .i64 0, .int .i64 0, .int .i64 0, .int .i64 0, .int .i64 0] 26)
      have H6 := Lib.hid (And.intro (H5.out.1.trans (hb6.mono H5.out.1.size)) (And.intro ((hb6.block _ (lt_of_block H5.out.2.1)).trans H5.out.2.1) (And.intro ((hb6.block _ (lt_of_block H5.out.2.2)).trans H5.out.2.2) k6)))
      clear k6 hb6
      obtain ⟨c0_0, c0_1, c0_2, c0_3, c0_4, c0_5, c0_6⟩ := blk7 H6.out.2.1
      obtain ⟨c1_0, c1_1, c1_2, c1_3, c1_4, c1_5, c1_6⟩ := blk7 H6.out.2.2.1
      obtain ⟨c2_0, c2_1, c2_2, c2_3, c2_4, c2_5, c2_6⟩ := blk7 H6.out.2.2.2
      go_wp2_with fail
      with_reducible refine (alive_any _).mono ?_
      rintro en w7 ⟨rfl, hb7⟩
      clear c0_0 c0_1 c0_2 c0_3 c0_4 c0_5 c0_6 c1_0 c1_1 c1_2 c1_3 c1_4 c1_5 c1_6 c2_0 c2_1 c2_2 c2_3 c2_4 c2_5 c2_6
      have H7 := Lib.hid (And.intro (H6.out.1.trans (hb7.mono H6.out.1.size)) (And.intro ((hb7.block _ (lt_of_block H6.out.2.1)).trans H6.out.2.1) (And.intro ((hb7.block _ (lt_of_block H6.out.2.2.1)).trans H6.out.2.2.1) ((hb7.block _ (lt_of_block H6.out.2.2.2)).trans H6.out.2.2.2))))
      clear hb7
      go_wp2
      exact HR.out _ _ ⟨rfl, H7.out.1⟩
    · simp only [e1, e2] at HT
      have HR2 := Lib.hid (fun w => sput_any y0 y1 y2 y3 y4 y5 y6 w e3)
      have HR3 := Lib.hid (fun w => scheck_any y0 y1 y2 y3 y4 y5 y6 w e3)
      simp only [e4, e5] at HR2 HR3
      clear e1 e2 e3 e4 e5
      obtain ⟨W1, hW1⟩ : ∃ W1, w.alloc (.cells #[.int .i64 g, .int .i64 t, .int .i64 e, .int .i64 c, .int .i64 b, .int .i64 l, .int .i64 f] 26) = W1 := ⟨_, rfl⟩
      have hb1 : Below w.heap.size w W1 := by rw [← hW1]; exact alloc_below w _
      have k1 : W1.heap[w.heap.size]? = some (.cells #[.int .i64 g, .int .i64 t, .int .i64 e, .int .i64 c, .int .i64 b, .int .i64 l, .int .i64 f] 26 (0, 0)) := by rw [← hW1]; exact alloc_new w _
      have H1 := Lib.hid (And.intro hb1 k1)
      clear k1 hb1
      obtain ⟨c0_0, c0_1, c0_2, c0_3, c0_4, c0_5, c0_6⟩ := blk7 H1.out.2
      go_enter Try.func4, Try.ntmps4
      go_wp2_with fail
      with_reducible refine (HP.out _).mono ?_
      rintro en w2 ⟨rfl, hb2⟩
      clear hW1
      clear c0_0 c0_1 c0_2 c0_3 c0_4 c0_5 c0_6
      have H2 := Lib.hid (And.intro (H1.out.1.trans (hb2.mono H1.out.1.size)) ((hb2.block _ (lt_of_block H1.out.2)).trans H1.out.2))
      clear hb2
      obtain ⟨c0_0, c0_1, c0_2, c0_3, c0_4, c0_5, c0_6⟩ := blk7 H2.out.2
      go_wp2_with fail
      with_reducible refine (HQ.out _).mono ?_
      rintro en w3 ⟨rfl, hb3⟩
      have hb3s := hb3.size
      clear c0_0 c0_1 c0_2 c0_3 c0_4 c0_5 c0_6
      obtain ⟨W4, hW4⟩ : ∃ W4, w3.alloc (.cells #[.int .i64 g, .int .i64 t, .int .i64 e, .int .i64 c, .int .i64 b, .int .i64 l, .int .i64 f] 26) = W4 := ⟨_, rfl⟩
      have hb4 : Below w3.heap.size w3 W4 := by rw [← hW4]; exact alloc_below w3 _
      have k4 : W4.heap[w3.heap.size]? = some (.cells #[.int .i64 g, .int .i64 t, .int .i64 e, .int .i64 c, .int .i64 b, .int .i64 l, .int .i64 f] 26 (0, 0)) := by rw [← hW4]; exact alloc_new w3 _
      have hc4 := hb3.trans (hb4.mono hb3.size)
      have H4 := Lib.hid (And.intro (H2.out.1.trans (hc4.mono H2.out.1.size)) (And.intro ((hc4.block _ (lt_of_block H2.out.2)).trans H2.out.2) k4))
      clear k4 hb4 hc4 hb3
      obtain ⟨c0_0, c0_1, c0_2, c0_3, c0_4, c0_5, c0_6⟩ := blk7 H4.out.2.1
      obtain ⟨c1_0, c1_1, c1_2, c1_3, c1_4, c1_5, c1_6⟩ := blk7 H4.out.2.2
      go_wp2_with fail
      with_reducible refine (HT.out _).mono ?_
      rintro en w5 ⟨rfl, hb5⟩
      clear hW4
      have hb5s := hb5.size
      clear c0_0 c0_1 c0_2 c0_3 c0_4 c0_5 c0_6 c1_0 c1_1 c1_2 c1_3 c1_4 c1_5 c1_6
      obtain ⟨W6, hW6⟩ : ∃ W6, w5.alloc (.cells #[.int .i64 y0, .int .i64 y1, .int .i64 y2, .int .i64 y3, .int .i64 y4, .int .i64 y5, .int .i64 y6] 26) = W6 := ⟨_, rfl⟩
      have hb6 : Below w5.heap.size w5 W6 := by rw [← hW6]; exact alloc_below w5 _
      have k6 : W6.heap[w5.heap.size]? = some (.cells #[.int .i64 y0, .int .i64 y1, .int .i64 y2, .int .i64 y3, .int .i64 y4, .int .i64 y5, .int .i64 y6] 26 (0, 0)) := by rw [← hW6]; exact alloc_new w5 _
      have hc6 := hb5.trans (hb6.mono hb5.size)
      have H6 := Lib.hid (And.intro (H4.out.1.trans (hc6.mono H4.out.1.size)) (And.intro ((hc6.block _ (lt_of_block H4.out.2.1)).trans H4.out.2.1) (And.intro ((hc6.block _ (lt_of_block H4.out.2.2)).trans H4.out.2.2) k6)))
      clear k6 hb6 hc6 hb5
      obtain ⟨c0_0, c0_1, c0_2, c0_3, c0_4, c0_5, c0_6⟩ := blk7 H6.out.2.1
      obtain ⟨c1_0, c1_1, c1_2, c1_3, c1_4, c1_5, c1_6⟩ := blk7 H6.out.2.2.1
      obtain ⟨c2_0, c2_1, c2_2, c2_3, c2_4, c2_5, c2_6⟩ := blk7 H6.out.2.2.2
      go_wp2_with fail
      with_reducible refine (HR2.out _).mono ?_
      rintro en w7 ⟨rfl, hb7⟩
      clear hW6
      clear c0_0 c0_1 c0_2 c0_3 c0_4 c0_5 c0_6 c1_0 c1_1 c1_2 c1_3 c1_4 c1_5 c1_6 c2_0 c2_1 c2_2 c2_3 c2_4 c2_5 c2_6
      have H7 := Lib.hid (And.intro (H6.out.1.trans (hb7.mono H6.out.1.size)) (And.intro ((hb7.block _ (lt_of_block H6.out.2.1)).trans H6.out.2.1) (And.intro ((hb7.block _ (lt_of_block H6.out.2.2.1)).trans H6.out.2.2.1) ((hb7.block _ (lt_of_block H6.out.2.2.2)).trans H6.out.2.2.2))))
      clear hb7
      obtain ⟨c2_0, c2_1, c2_2, c2_3, c2_4, c2_5, c2_6⟩ := blk7 H7.out.2.2.2
      go_wp2_with fail
      with_reducible refine (HR3.out _).mono ?_
      rintro en w8 ⟨rfl, hb8⟩
      clear c2_0 c2_1 c2_2 c2_3 c2_4 c2_5 c2_6
      have H8 := Lib.hid (And.intro (H7.out.1.trans (hb8.mono H7.out.1.size)) (And.intro ((hb8.block _ (lt_of_block H7.out.2.1)).trans H7.out.2.1) (And.intro ((hb8.block _ (lt_of_block H7.out.2.2.1)).trans H7.out.2.2.1) ((hb8.block _ (lt_of_block H7.out.2.2.2)).trans H7.out.2.2.2))))
      clear hb8
      obtain ⟨c2_0, c2_1, c2_2, c2_3, c2_4, c2_5, c2_6⟩ := blk7 H8.out.2.2.2
      go_wp2_with fail
      with_reducible refine (alive_any _).mono ?_
      rintro en w9 ⟨rfl, hb9⟩
      clear c2_0 c2_1 c2_2 c2_3 c2_4 c2_5 c2_6
      have H9 := Lib.hid (And.intro (H8.out.1.trans (hb9.mono H8.out.1.size)) (And.intro ((hb9.block _ (lt_of_block H8.out.2.1)).trans H8.out.2.1) (And.intro ((hb9.block _ (lt_of_block H8.out.2.2.1)).trans H8.out.2.2.1) ((hb9.block _ (lt_of_block H8.out.2.2.2)).trans H8.out.2.2.2))))
      clear hb9
      go_wp2
      exact HR.out _ _ ⟨rfl, H9.out.1⟩
end Go.Proofs.Ytgaoammkegcdcaa
