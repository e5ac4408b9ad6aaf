/- The law SuperTakes: what its walk gives. -/
import Derived.Test.YtgaoammkegcdcaaM6
namespace Go.Proofs.Ytgaoammkegcdcaa
open Go.RowKit Ks
set_option linter.unusedVariables false
theorem stV_agg (a : ByteArray) : ∃ x0 x1 x2 x3 x4 x5 x6, stV a = supV x0 x1 x2 x3 x4 x5 x6 := ⟨_, _, _, _, _, _, _, rfl⟩
theorem chV_agg (a b : ByteArray) : ∃ x0 x1 x2 x3 x4 x5 x6, chV a b = supV x0 x1 x2 x3 x4 x5 x6 := by
  unfold chV
  split
  · exact stV_agg b
  · exact stV_agg a
theorem st_both (a : ByteArray) : (stE a = 0 ∧ stOk a = true) ∨ (stE a = 3 ∧ stOk a = false) := by
  rcases st_flags a with ⟨h1, h2⟩ | ⟨h1, h2, -⟩
  · exact .inl ⟨h2, h1⟩
  · exact .inr ⟨h2, h1⟩
theorem ch_both (a b : ByteArray) : (rchI a b = -1 ∧ chI a b = 0 ∧ chE a b = 7) ∨ (rchI a b = 0 ∧ chI a b = 0 ∧ chE a b = 0) ∨ (rchI a b = 1 ∧ chI a b = 1 ∧ chE a b = 0) := by
  unfold rchI chI chE chW
  cases ha : stOk a <;> cases hb : stOk b <;> simp <;> omega
set_option maxHeartbeats 4000000 in
set_option maxRecDepth 100000 in
theorem law_takes (a b : ByteArray) (w : World) :
    Calls Try.prog 3 #[.string a, .string b] w fun en w' => en = .returned (.bool true) ∧ Below w.heap.size w w' := by
  refine calls_by fun R HR => ?_
  by_cases h1 : (10000 : Int) < a.size
  · go_enter Try.func3, Try.ntmps3
    go_wp2_with fail
    refine (alive_any _).mono ?_
    rintro en w1 ⟨rfl, hb1⟩
    go_wp2
    exact HR.out _ _ ⟨rfl, hb1⟩
  by_cases h2 : (10000 : Int) < b.size
  · go_enter Try.func3, Try.ntmps3
    go_wp2_with fail
    refine (alive_any _).mono ?_
    rintro en w1 ⟨rfl, hb1⟩
    go_wp2
    exact HR.out _ _ ⟨rfl, hb1⟩
  obtain ⟨x0, x1, x2, x3, x4, x5, x6, hx⟩ := stV_agg a
  obtain ⟨y0, y1, y2, y3, y4, y5, y6, hy⟩ := chV_agg a b
  have HA := Lib.hid (fun w => stake_any a w)
  have HB := Lib.hid (fun w => rstake_any a w)
  have HC := Lib.hid (fun w => schoose_any a b w)
  have HD := Lib.hid (fun w => rschoose_any a b w)
  simp only [hx] at HA HB
  simp only [hy] at HC HD
  have hs := st_both a
  have hc := ch_both a b
  obtain ⟨ea, he⟩ : ∃ ea, stE a = ea := ⟨_, rfl⟩
  obtain ⟨oa, ho⟩ : ∃ oa, stOk a = oa := ⟨_, rfl⟩
  obtain ⟨ri, hr⟩ : ∃ ri, rchI a b = ri := ⟨_, rfl⟩
  obtain ⟨ci, hci⟩ : ∃ ci, chI a b = ci := ⟨_, rfl⟩
  obtain ⟨ce, hce⟩ : ∃ ce, chE a b = ce := ⟨_, rfl⟩
  simp only [he, ho, hr, hci, hce] at HA HB HC HD hs hc
  clear hx hy he ho hr hci hce
  rcases hs with ⟨rfl, rfl⟩ | ⟨rfl, rfl⟩ <;> rcases hc with ⟨rfl, rfl, rfl⟩ | ⟨rfl, rfl, rfl⟩ | ⟨rfl, rfl, rfl⟩
  all_goals
    go_enter Try.func3, Try.ntmps3
    go_wp2_with fail
    with_reducible refine (HA.out _).mono ?_
    rintro en w1 ⟨rfl, hb1⟩
    have hb1s := hb1.size
    obtain ⟨W2, hW2⟩ : ∃ W2, w1.alloc (.cells #[.int .i64 x0, .int .i64 x1, .int .i64 x2, .int .i64 x3, .int .i64 x4, .int .i64 x5, .int .i64 x6] 26) = W2 := ⟨_, rfl⟩
    have hb2 : Below w1.heap.size w1 W2 := by rw [← hW2]; exact alloc_below w1 _
    have k2 : W2.heap[w1.heap.size]? = some (.cells #[.int .i64 x0, .int .i64 x1, .int .i64 x2, .int .i64 x3, .int .i64 x4, .int .i64 x5, .int .i64 x6] 26 (0, 0)) := by rw [← hW2]; exact alloc_new w1 _
    have hc2 := hb1.trans (hb2.mono hb1.size)
    have H2 := Lib.hid (And.intro hc2 k2)
    clear k2 hb2 hc2 hb1
    go_wp2_with fail
    with_reducible refine (HB.out _).mono ?_
    rintro en w3 ⟨rfl, hb3⟩
    clear hW2
    have hb3s := hb3.size
    obtain ⟨W4, hW4⟩ : ∃ W4, w3.alloc (.cells #[.int .i64 x0, .int .i64 x1, .int .i64 x2, .int .i64 x3, .int .i64 x4, .int .i64 x5, .int .i64 x6] 26) = W4 := ⟨_, rfl⟩
    have hb4 : Below w3.heap.size w3 W4 := by rw [← hW4]; exact alloc_below w3 _
    have k4 : W4.heap[w3.heap.size]? = some (.cells #[.int .i64 x0, .int .i64 x1, .int .i64 x2, .int .i64 x3, .int .i64 x4, .int .i64 x5, .int .i64 x6] 26 (0, 0)) := by rw [← hW4]; exact alloc_new w3 _
    have hc4 := hb3.trans (hb4.mono hb3.size)
    have H4 := Lib.hid (And.intro (H2.out.1.trans (hc4.mono H2.out.1.size)) (And.intro ((hc4.block _ (lt_of_block H2.out.2)).trans H2.out.2) k4))
    clear k4 hb4 hc4 hb3
    go_wp2_with fail
    with_reducible refine (HC.out _).mono ?_
    rintro en w5 ⟨rfl, hb5⟩
    clear hW4
    have hb5s := hb5.size
    obtain ⟨W6, hW6⟩ : ∃ W6, w5.alloc (.cells #[.int .i64 y0, .int .i64 y1, .int .i64 y2, .int .i64 y3, .int .i64 y4, .int .i64 y5, .int .i64 y6] 26) = W6 := ⟨_, rfl⟩
    have hb6 : Below w5.heap.size w5 W6 := by rw [← hW6]; exact alloc_below w5 _
    have k6 : W6.heap[w5.heap.size]? = some (.cells #[.int .i64 y0, .int .i64 y1, .int .i64 y2, .int .i64 y3, .int .i64 y4, .int .i64 y5, .int .i64 y6] 26 (0, 0)) := by rw [← hW6]; exact alloc_new w5 _
    have hc6 := hb5.trans (hb6.mono hb5.size)
    have H6 := Lib.hid (And.intro (H4.out.1.trans (hc6.mono H4.out.1.size)) (And.intro ((hc6.block _ (lt_of_block H4.out.2.1)).trans H4.out.2.1) (And.intro ((hc6.block _ (lt_of_block H4.out.2.2)).trans H4.out.2.2) k6)))
    clear k6 hb6 hc6 hb5
    go_wp2_with fail
    with_reducible refine (HD.out _).mono ?_
    rintro en w7 ⟨rfl, hb7⟩
    clear hW6
    have hb7s := hb7.size
    obtain ⟨W8, hW8⟩ : ∃ W8, w7.alloc (.cells #[.int .i64 y0, .int .i64 y1, .int .i64 y2, .int .i64 y3, .int .i64 y4, .int .i64 y5, .int .i64 y6] 26) = W8 := ⟨_, rfl⟩
    have hb8 : Below w7.heap.size w7 W8 := by rw [← hW8]; exact alloc_below w7 _
    have k8 : W8.heap[w7.heap.size]? = some (.cells #[.int .i64 y0, .int .i64 y1, .int .i64 y2, .int .i64 y3, .int .i64 y4, .int .i64 y5, .int .i64 y6] 26 (0, 0)) := by rw [← hW8]; exact alloc_new w7 _
    have hc8 := hb7.trans (hb8.mono hb7.size)
    have H8 := Lib.hid (And.intro (H6.out.1.trans (hc8.mono H6.out.1.size)) (And.intro ((hc8.block _ (lt_of_block H6.out.2.1)).trans H6.out.2.1) (And.intro ((hc8.block _ (lt_of_block H6.out.2.2.1)).trans H6.out.2.2.1) (And.intro ((hc8.block _ (lt_of_block H6.out.2.2.2)).trans H6.out.2.2.2) k8))))
    clear k8 hb8 hc8 hb7
    obtain ⟨c0_0, c0_1, c0_2, c0_3, c0_4, c0_5, c0_6⟩ := blk7 H8.out.2.1
    obtain ⟨c1_0, c1_1, c1_2, c1_3, c1_4, c1_5, c1_6⟩ := blk7 H8.out.2.2.1
    obtain ⟨c2_0, c2_1, c2_2, c2_3, c2_4, c2_5, c2_6⟩ := blk7 H8.out.2.2.2.1
    obtain ⟨c3_0, c3_1, c3_2, c3_3, c3_4, c3_5, c3_6⟩ := blk7 H8.out.2.2.2.2
    go_wp2_with fail
    with_reducible refine (alive_any _).mono ?_
    rintro en w9 ⟨rfl, hb9⟩
    clear hW8
    clear c0_0 c0_1 c0_2 c0_3 c0_4 c0_5 c0_6 c1_0 c1_1 c1_2 c1_3 c1_4 c1_5 c1_6 c2_0 c2_1 c2_2 c2_3 c2_4 c2_5 c2_6 c3_0 c3_1 c3_2 c3_3 c3_4 c3_5 c3_6
    have H9 := Lib.hid (And.intro (H8.out.1.trans (hb9.mono H8.out.1.size)) (And.intro ((hb9.block _ (lt_of_block H8.out.2.1)).trans H8.out.2.1) (And.intro ((hb9.block _ (lt_of_block H8.out.2.2.1)).trans H8.out.2.2.1) (And.intro ((hb9.block _ (lt_of_block H8.out.2.2.2.1)).trans H8.out.2.2.2.1) ((hb9.block _ (lt_of_block H8.out.2.2.2.2)).trans H8.out.2.2.2.2)))))
    clear hb9
    go_wp2
    exact HR.out _ _ ⟨rfl, H9.out.1⟩
end Go.Proofs.Ytgaoammkegcdcaa
