/- The law SuperPuts: what its walk gives. -/
import Derived.Test.YtgaoammkegcdcaaM6
namespace Go.Proofs.Ytgaoammkegcdcaa
open Go.RowKit Ks
set_option linter.unusedVariables false
set_option maxHeartbeats 4000000 in
set_option maxRecDepth 100000 in
theorem law_puts (g t e c b l f : Int) (w : World) (hb : -9223372036854775808 ≤ b ∧ b ≤ 9223372036854775807) :
    Calls Try.prog 5 #[supV g t e c b l f] w fun en w' => en = .returned (.bool true) ∧ Below w.heap.size w w' := by
  refine calls_by fun R HR => ?_
  have HP := Lib.hid (fun w => sput_any g t e c b l f w hb)
  have HQ := Lib.hid (fun w => rsput_any g t e c b l f w hb)
  have HN := Lib.hid (fun w => snext_any g t e c b l f w hb)
  have HC := Lib.hid (fun w => scheck_any g t e c b l f w hb)
  clear hb
  obtain ⟨S, hS⟩ : ∃ S, supS g t e c b l f = S := ⟨_, rfl⟩
  cases h : supOk g t e c b l f
  · have hn := nx_no h
    have hp := sup_no h
    simp only [hp] at HP HC
    simp only [hp, h] at HQ
    simp only [hn] at HN
    clear hn hp hS h
    obtain ⟨W1, hW1⟩ : ∃ W1, w.alloc (.cells #[.int .i64 g, .int .i64 t, .int .i64 e, .int .i64 c, .int .i64 b, .int .i64 l, .int .i64 f] 26) = W1 := ⟨_, rfl⟩
    have hb1 : Below w.heap.size w W1 := by rw [← hW1]; exact alloc_below w _
    have k1 : W1.heap[w.heap.size]? = some (.cells #[.int .i64 g, .int .i64 t, .int .i64 e, .int .i64 c, .int .i64 b, .int .i64 l, .int .i64 f] 26 (0, 0)) := by rw [← hW1]; exact alloc_new w _
    have H1 := Lib.hid (And.intro hb1 k1)
    clear k1 hb1
    obtain ⟨c0_0, c0_1, c0_2, c0_3, c0_4, c0_5, c0_6⟩ := blk7 H1.out.2
    obtain ⟨f0_0, f0_1, f0_2, f0_3, f0_4, f0_5, f0_6⟩ := fro7 H1.out.2
    go_enter Try.func5, Try.ntmps5
    go_wp2_with fail
    with_reducible refine (HP.out _).mono ?_
    rintro en w2 ⟨rfl, hb2⟩
    clear hW1
    clear c0_0 c0_1 c0_2 c0_3 c0_4 c0_5 c0_6 f0_0 f0_1 f0_2 f0_3 f0_4 f0_5 f0_6
    have H2 := Lib.hid (And.intro (H1.out.1.trans (hb2.mono H1.out.1.size)) ((hb2.block _ (lt_of_block H1.out.2)).trans H1.out.2))
    clear hb2
    obtain ⟨c0_0, c0_1, c0_2, c0_3, c0_4, c0_5, c0_6⟩ := blk7 H2.out.2
    go_wp2_with fail
    with_reducible refine (HQ.out _).mono ?_
    rintro en w3 ⟨rfl, hb3⟩
    clear c0_0 c0_1 c0_2 c0_3 c0_4 c0_5 c0_6
    have H3 := Lib.hid (And.intro (H2.out.1.trans (hb3.mono H2.out.1.size)) ((hb3.block _ (lt_of_block H2.out.2)).trans H2.out.2))
    clear hb3
    obtain ⟨c0_0, c0_1, c0_2, c0_3, c0_4, c0_5, c0_6⟩ := blk7 H3.out.2
    go_wp2_with fail
    with_reducible refine (HN.out _).mono ?_
    rintro en w4 ⟨rfl, hb4⟩
    clear c0_0 c0_1 c0_2 c0_3 c0_4 c0_5 c0_6
    have H4 := Lib.hid (And.intro (H3.out.1.trans (hb4.mono H3.out.1.size)) ((hb4.block _ (lt_of_block H3.out.2)).trans H3.out.2))
    clear hb4
    have hb5 := alloc_below w4 (.cells #[.int .i64 0, .int .i64 0, .int .i64 0, .int .i64 0, .int .i64 0, .int .i64 0, .int .i64 0] 26)
    have k5 := alloc_new w4 (.cells #[.int .i64 0, .int .i64 0, .int .i64 0, .int .i64 0, .int .i64 0, .int .i64 0, .int .i64 0] 26)
    have H5 := Lib.hid (And.intro (H4.out.1.trans (hb5.mono H4.out.1.size)) (And.intro ((hb5.block _ (lt_of_block H4.out.2)).trans H4.out.2) k5))
    clear k5 hb5
    obtain ⟨c0_0, c0_1, c0_2, c0_3, c0_4, c0_5, c0_6⟩ := blk7 H5.out.2.1
    obtain ⟨c1_0, c1_1, c1_2, c1_3, c1_4, c1_5, c1_6⟩ := blk7 H5.out.2.2
    obtain ⟨f0_0, f0_1, f0_2, f0_3, f0_4, f0_5, f0_6⟩ := fro7 H5.out.2.1
    go_wp2_with fail
    with_reducible refine (HC.out _).mono ?_
    rintro en w6 ⟨rfl, hb6⟩
    clear c0_0 c0_1 c0_2 c0_3 c0_4 c0_5 c0_6 c1_0 c1_1 c1_2 c1_3 c1_4 c1_5 c1_6 f0_0 f0_1 f0_2 f0_3 f0_4 f0_5 f0_6
    have H6 := Lib.hid (And.intro (H5.out.1.trans (hb6.mono H5.out.1.size)) (And.intro ((hb6.block _ (lt_of_block H5.out.2.1)).trans H5.out.2.1) ((hb6.block _ (lt_of_block H5.out.2.2)).trans H5.out.2.2)))
    clear hb6
    obtain ⟨c0_0, c0_1, c0_2, c0_3, c0_4, c0_5, c0_6⟩ := blk7 H6.out.2.1
    obtain ⟨c1_0, c1_1, c1_2, c1_3, c1_4, c1_5, c1_6⟩ := blk7 H6.out.2.2
    obtain ⟨f0_0, f0_1, f0_2, f0_3, f0_4, f0_5, f0_6⟩ := fro7 H6.out.2.1
    go_wp2_with fail
    with_reducible refine (alive_any _).mono ?_
    rintro en w7 ⟨rfl, hb7⟩
    clear c0_0 c0_1 c0_2 c0_3 c0_4 c0_5 c0_6 c1_0 c1_1 c1_2 c1_3 c1_4 c1_5 c1_6 f0_0 f0_1 f0_2 f0_3 f0_4 f0_5 f0_6
    have H7 := Lib.hid (And.intro (H6.out.1.trans (hb7.mono H6.out.1.size)) (And.intro ((hb7.block _ (lt_of_block H6.out.2.1)).trans H6.out.2.1) ((hb7.block _ (lt_of_block H6.out.2.2)).trans H6.out.2.2)))
    clear hb7
    go_wp2
    exact HR.out _ _ ⟨rfl, H7.out.1⟩
  · by_cases hg : g = 1152921504606846976
    · have hn := nx_far h hg
      simp only [hS, sup_yes h] at HP HC
      simp only [hS, h] at HQ
      simp only [hn] at HN
      have hgn : (g == 1152921504606846976) = true := by rw [beq_iff_eq]; exact hg
      clear hn hS h hg
      obtain ⟨W1, hW1⟩ : ∃ W1, w.alloc (.cells #[.int .i64 g, .int .i64 t, .int .i64 e, .int .i64 c, .int .i64 b, .int .i64 l, .int .i64 f] 26) = W1 := ⟨_, rfl⟩
      have hb1 : Below w.heap.size w W1 := by rw [← hW1]; exact alloc_below w _
      have k1 : W1.heap[w.heap.size]? = some (.cells #[.int .i64 g, .int .i64 t, .int .i64 e, .int .i64 c, .int .i64 b, .int .i64 l, .int .i64 f] 26 (0, 0)) := by rw [← hW1]; exact alloc_new w _
      have H1 := Lib.hid (And.intro hb1 k1)
      clear k1 hb1
      obtain ⟨c0_0, c0_1, c0_2, c0_3, c0_4, c0_5, c0_6⟩ := blk7 H1.out.2
      obtain ⟨f0_0, f0_1, f0_2, f0_3, f0_4, f0_5, f0_6⟩ := fro7 H1.out.2
      go_enter Try.func5, Try.ntmps5
      go_wp2_with fail
      with_reducible refine (HP.out _).mono ?_
      rintro en w2 ⟨rfl, hb2⟩
      clear hW1
      clear c0_0 c0_1 c0_2 c0_3 c0_4 c0_5 c0_6 f0_0 f0_1 f0_2 f0_3 f0_4 f0_5 f0_6
      have H2 := Lib.hid (And.intro (H1.out.1.trans (hb2.mono H1.out.1.size)) ((hb2.block _ (lt_of_block H1.out.2)).trans H1.out.2))
      clear hb2
      obtain ⟨c0_0, c0_1, c0_2, c0_3, c0_4, c0_5, c0_6⟩ := blk7 H2.out.2
      go_wp2_with fail
      with_reducible refine (HQ.out _).mono ?_
      rintro en w3 ⟨rfl, hb3⟩
      clear c0_0 c0_1 c0_2 c0_3 c0_4 c0_5 c0_6
      have H3 := Lib.hid (And.intro (H2.out.1.trans (hb3.mono H2.out.1.size)) ((hb3.block _ (lt_of_block H2.out.2)).trans H2.out.2))
      clear hb3
      obtain ⟨c0_0, c0_1, c0_2, c0_3, c0_4, c0_5, c0_6⟩ := blk7 H3.out.2
      go_wp2_with fail
      with_reducible refine (HN.out _).mono ?_
      rintro en w4 ⟨rfl, hb4⟩
      clear c0_0 c0_1 c0_2 c0_3 c0_4 c0_5 c0_6
      have H4 := Lib.hid (And.intro (H3.out.1.trans (hb4.mono H3.out.1.size)) ((hb4.block _ (lt_of_block H3.out.2)).trans H3.out.2))
      clear hb4
      have hb5 := alloc_below w4 (.cells #[.int .i64 0, .int .i64 0, .int .i64 0, .int .i64 0, .int .i64 0, .int .i64 0, .int .i64 0] 26)
      have k5 := alloc_new w4 (.cells #[.int .i64 0, .int .i64 0, .int .i64 0, .int .i64 0, .int .i64 0, .int .i64 0, .int .i64 0] 26)
      have H5 := Lib.hid (And.intro (H4.out.1.trans (hb5.mono H4.out.1.size)) (And.intro ((hb5.block _ (lt_of_block H4.out.2)).trans H4.out.2) k5))
      clear k5 hb5
      obtain ⟨c0_0, c0_1, c0_2, c0_3, c0_4, c0_5, c0_6⟩ := blk7 H5.out.2.1
      obtain ⟨c1_0, c1_1, c1_2, c1_3, c1_4, c1_5, c1_6⟩ := blk7 H5.out.2.2
      obtain ⟨f0_0, f0_1, f0_2, f0_3, f0_4, f0_5, f0_6⟩ := fro7 H5.out.2.1
      go_wp2_with fail
      with_reducible refine (HC.out _).mono ?_
      rintro en w6 ⟨rfl, hb6⟩
      clear c0_0 c0_1 c0_2 c0_3 c0_4 c0_5 c0_6 c1_0 c1_1 c1_2 c1_3 c1_4 c1_5 c1_6 f0_0 f0_1 f0_2 f0_3 f0_4 f0_5 f0_6
      have H6 := Lib.hid (And.intro (H5.out.1.trans (hb6.mono H5.out.1.size)) (And.intro ((hb6.block _ (lt_of_block H5.out.2.1)).trans H5.out.2.1) ((hb6.block _ (lt_of_block H5.out.2.2)).trans H5.out.2.2)))
      clear hb6
      obtain ⟨c0_0, c0_1, c0_2, c0_3, c0_4, c0_5, c0_6⟩ := blk7 H6.out.2.1
      obtain ⟨c1_0, c1_1, c1_2, c1_3, c1_4, c1_5, c1_6⟩ := blk7 H6.out.2.2
      obtain ⟨f0_0, f0_1, f0_2, f0_3, f0_4, f0_5, f0_6⟩ := fro7 H6.out.2.1
      go_wp2_with fail
      with_reducible refine (alive_any _).mono ?_
      rintro en w7 ⟨rfl, hb7⟩
      clear c0_0 c0_1 c0_2 c0_3 c0_4 c0_5 c0_6 c1_0 c1_1 c1_2 c1_3 c1_4 c1_5 c1_6 f0_0 f0_1 f0_2 f0_3 f0_4 f0_5 f0_6
      have H7 := Lib.hid (And.intro (H6.out.1.trans (hb7.mono H6.out.1.size)) (And.intro ((hb7.block _ (lt_of_block H6.out.2.1)).trans H6.out.2.1) ((hb7.block _ (lt_of_block H6.out.2.2)).trans H6.out.2.2)))
      clear hb7
      go_wp2
      exact HR.out _ _ ⟨rfl, H7.out.1⟩
    · have hn := nx_yes h hg
      have hgb := (sup_ok.1 h).2.1
      have hgc := (sup_ok.1 h).2.2.1
      simp only [hS, sup_yes h] at HP HC
      simp only [hS, h] at HQ
      simp only [hn] at HN
      have hgn : (g == 1152921504606846976) = false := by rw [beq_eq_false_iff_ne]; exact hg
      clear hn hS h hg
      obtain ⟨W1, hW1⟩ : ∃ W1, w.alloc (.cells #[.int .i64 g, .int .i64 t, .int .i64 e, .int .i64 c, .int .i64 b, .int .i64 l, .int .i64 f] 26) = W1 := ⟨_, rfl⟩
      have hb1 : Below w.heap.size w W1 := by rw [← hW1]; exact alloc_below w _
      have k1 : W1.heap[w.heap.size]? = some (.cells #[.int .i64 g, .int .i64 t, .int .i64 e, .int .i64 c, .int .i64 b, .int .i64 l, .int .i64 f] 26 (0, 0)) := by rw [← hW1]; exact alloc_new w _
      have H1 := Lib.hid (And.intro hb1 k1)
      clear k1 hb1
      obtain ⟨c0_0, c0_1, c0_2, c0_3, c0_4, c0_5, c0_6⟩ := blk7 H1.out.2
      obtain ⟨f0_0, f0_1, f0_2, f0_3, f0_4, f0_5, f0_6⟩ := fro7 H1.out.2
      go_enter Try.func5, Try.ntmps5
      go_wp2_with fail
      with_reducible refine (HP.out _).mono ?_
      rintro en w2 ⟨rfl, hb2⟩
      clear hW1
      clear c0_0 c0_1 c0_2 c0_3 c0_4 c0_5 c0_6 f0_0 f0_1 f0_2 f0_3 f0_4 f0_5 f0_6
      have H2 := Lib.hid (And.intro (H1.out.1.trans (hb2.mono H1.out.1.size)) ((hb2.block _ (lt_of_block H1.out.2)).trans H1.out.2))
      clear hb2
      obtain ⟨c0_0, c0_1, c0_2, c0_3, c0_4, c0_5, c0_6⟩ := blk7 H2.out.2
      go_wp2_with fail
      with_reducible refine (HQ.out _).mono ?_
      rintro en w3 ⟨rfl, hb3⟩
      clear c0_0 c0_1 c0_2 c0_3 c0_4 c0_5 c0_6
      have H3 := Lib.hid (And.intro (H2.out.1.trans (hb3.mono H2.out.1.size)) ((hb3.block _ (lt_of_block H2.out.2)).trans H2.out.2))
      clear hb3
      obtain ⟨c0_0, c0_1, c0_2, c0_3, c0_4, c0_5, c0_6⟩ := blk7 H3.out.2
      go_wp2_with fail
      with_reducible refine (HN.out _).mono ?_
      rintro en w4 ⟨rfl, hb4⟩
      have hb4s := hb4.size
      clear c0_0 c0_1 c0_2 c0_3 c0_4 c0_5 c0_6
      obtain ⟨W5, hW5⟩ : ∃ W5, w4.alloc (.cells #[.int .i64 (g + 1), .int .i64 t, .int .i64 e, .int .i64 c, .int .i64 b, .int .i64 l, .int .i64 f] 26) = W5 := ⟨_, rfl⟩
      have hb5 : Below w4.heap.size w4 W5 := by rw [← hW5]; exact alloc_below w4 _
      have k5 : W5.heap[w4.heap.size]? = some (.cells #[.int .i64 (g + 1), .int .i64 t, .int .i64 e, .int .i64 c, .int .i64 b, .int .i64 l, .int .i64 f] 26 (0, 0)) := by rw [← hW5]; exact alloc_new w4 _
      have hc5 := hb4.trans (hb5.mono hb4.size)
      have H5 := Lib.hid (And.intro (H3.out.1.trans (hc5.mono H3.out.1.size)) (And.intro ((hc5.block _ (lt_of_block H3.out.2)).trans H3.out.2) k5))
      clear k5 hb5 hc5 hb4
      obtain ⟨c0_0, c0_1, c0_2, c0_3, c0_4, c0_5, c0_6⟩ := blk7 H5.out.2.1
      obtain ⟨c1_0, c1_1, c1_2, c1_3, c1_4, c1_5, c1_6⟩ := blk7 H5.out.2.2
      obtain ⟨f0_0, f0_1, f0_2, f0_3, f0_4, f0_5, f0_6⟩ := fro7 H5.out.2.1
      have hlt := lt_of_block H3.out.2
      have hlt := Nat.lt_of_lt_of_le hlt hb4s
      have hne1 : ¬ w.heap.size = w4.heap.size := by omega
      have hne2 : ¬ w4.heap.size = w.heap.size := by omega
      clear hlt hb4s
      go_wp2_with fail
      with_reducible refine (HC.out _).mono ?_
      rintro en w6 ⟨rfl, hb6⟩
      clear hW5
      clear c0_0 c0_1 c0_2 c0_3 c0_4 c0_5 c0_6 c1_0 c1_1 c1_2 c1_3 c1_4 c1_5 c1_6 f0_0 f0_1 f0_2 f0_3 f0_4 f0_5 f0_6
      have H6 := Lib.hid (And.intro (H5.out.1.trans (hb6.mono H5.out.1.size)) (And.intro ((hb6.block _ (lt_of_block H5.out.2.1)).trans H5.out.2.1) ((hb6.block _ (lt_of_block H5.out.2.2)).trans H5.out.2.2)))
      clear hb6
      obtain ⟨c0_0, c0_1, c0_2, c0_3, c0_4, c0_5, c0_6⟩ := blk7 H6.out.2.1
      obtain ⟨c1_0, c1_1, c1_2, c1_3, c1_4, c1_5, c1_6⟩ := blk7 H6.out.2.2
      obtain ⟨f0_0, f0_1, f0_2, f0_3, f0_4, f0_5, f0_6⟩ := fro7 H6.out.2.1
      go_wp2_with fail
      refine (alive_any _).mono ?_
      rintro en w9 ⟨rfl, hb9⟩
      go_wp2
      have hs := H6.out.1.setCell (p := ⟨w.heap.size, 0, none⟩) (Nat.le_refl _) (.int .i64 (g + 1))
      exact HR.out _ _ ⟨rfl, hs.trans (hb9.mono hs.size)⟩
end Go.Proofs.Ytgaoammkegcdcaa
