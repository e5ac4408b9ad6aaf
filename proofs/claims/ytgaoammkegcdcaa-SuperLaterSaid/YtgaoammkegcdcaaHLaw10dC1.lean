/- The law SuperLater: one way of its walk. -/
import Derived.Test.YtgaoammkegcdcaaHLaw10dP
namespace Go.Proofs.Ytgaoammkegcdcaa
open Go.RowKit Ks
set_option linter.unusedVariables false
set_option maxHeartbeats 4000000 in
set_option maxRecDepth 100000 in
theorem later_c1 (g t e c b l f : Int) (s : ByteArray) (w : World) (hb : -9223372036854775808 ≤ b ∧ b ≤ 9223372036854775807) (hk : supOk g t e c b l f = true) (hg : ¬ g = 1152921504606846976) (hs : ¬ (10000 : Int) < s.size) :
    Calls Try.prog 6 #[supV g t e c b l f, .bool false, .string s, .bool true] w fun en w' => en = .returned (.bool true) ∧ Below w.heap.size w w' := by
  refine calls_by fun R HR => ?_
  have HN := Lib.hid (fun w => snext_any g t e c b l f w hb)
  have hn := nx_yes hk hg
  have hk2 := nx_ok hk hg
  have HP := Lib.hid (fun w => sput_any g t e c b l f w hb)
  have HP2 := Lib.hid (fun w => sput_any (g + 1) t e c b l f w hb)
  obtain ⟨i1, i2, i3, i4⟩ := st_parts g t e c b l f hk
  obtain ⟨j1, j2, j3, j4⟩ := st_parts (g + 1) t e c b l f hk2
  have hgb := (sup_ok.1 hk).2.1
  have hgc := (sup_ok.1 hk).2.2.1
  obtain ⟨S, hS⟩ : ∃ S, supS g t e c b l f = S := ⟨_, rfl⟩
  obtain ⟨S2, hS2⟩ : ∃ S2, supS (g + 1) t e c b l f = S2 := ⟨_, rfl⟩
  rw [hS] at i1 i2 i3 i4
  rw [hS2] at j1 j2 j3 j4
  simp only [hn] at HN
  simp only [hS, sup_yes hk] at HP
  simp only [hS2, sup_yes hk2] at HP2
  have HT := Lib.hid (fun w => stake_any S2 w)
  simp only [j3, j4] at HT
  have HC0 := ch_second (a := S) (b := S2) j1 (.inr (by rw [i2, j2]; omega))
  have HC := Lib.hid (fun w => schoose_any S S2 w)
  simp only [HC0.1, HC0.2.1, HC0.2.2, j3] at HC
  clear HC0
  clear hn hk hk2 i1 i2 i3 i4 j1 j2 j3 j4 hS hS2 hg hb
  obtain ⟨W1, hW1⟩ : ∃ W1, w.alloc (.cells #[.int .i64 g, .int .i64 t, .int .i64 e, .int .i64 c, .int .i64 b, .int .i64 l, .int .i64 f] 26) = W1 := ⟨_, rfl⟩
  have hb1 : Below w.heap.size w W1 := by rw [← hW1]; exact alloc_below w _
  have k1 : W1.heap[w.heap.size]? = some (.cells #[.int .i64 g, .int .i64 t, .int .i64 e, .int .i64 c, .int .i64 b, .int .i64 l, .int .i64 f] 26 (0, 0)) := by rw [← hW1]; exact alloc_new w _
  have H1 := Lib.hid (And.intro hb1 k1)
  clear k1 hb1
  obtain ⟨c0_0, c0_1, c0_2, c0_3, c0_4, c0_5, c0_6⟩ := blk7 H1.out.2
  go_enter Try.func6, Try.ntmps6
  go_wp2_with fail
  with_reducible refine (HN.out _).mono ?_
  rintro en w2 ⟨rfl, hb2⟩
  clear hW1
  have le2 : w.heap.size ≤ w2.heap.size := Nat.le_trans H1.out.1.size hb2.size
  have nea0_2 : ¬ w.heap.size = w2.heap.size := by have h1 := lt_of_block H1.out.2; have h2 := hb2.size; omega
  have neb0_2 : ¬ w2.heap.size = w.heap.size := by have h1 := lt_of_block H1.out.2; have h2 := hb2.size; omega
  clear c0_0 c0_1 c0_2 c0_3 c0_4 c0_5 c0_6
  obtain ⟨W3, hW3⟩ : ∃ W3, w2.alloc (.cells #[.int .i64 (g + 1), .int .i64 t, .int .i64 e, .int .i64 c, .int .i64 b, .int .i64 l, .int .i64 f] 26) = W3 := ⟨_, rfl⟩
  have hb3 : Below w2.heap.size w2 W3 := by rw [← hW3]; exact alloc_below w2 _
  have k3 : W3.heap[w2.heap.size]? = some (.cells #[.int .i64 (g + 1), .int .i64 t, .int .i64 e, .int .i64 c, .int .i64 b, .int .i64 l, .int .i64 f] 26 (0, 0)) := by rw [← hW3]; exact alloc_new w2 _
  have hc3 := hb2.trans (hb3.mono hb2.size)
  have H3 := Lib.hid (And.intro (H1.out.1.trans (hc3.mono H1.out.1.size)) (And.intro ((hc3.block _ (lt_of_block H1.out.2)).trans H1.out.2) k3))
  clear k3 hb3 hc3 hb2
  obtain ⟨c0_0, c0_1, c0_2, c0_3, c0_4, c0_5, c0_6⟩ := blk7 H3.out.2.1
  obtain ⟨c1_0, c1_1, c1_2, c1_3, c1_4, c1_5, c1_6⟩ := blk7 H3.out.2.2
  go_wp2_with fail
  with_reducible refine (HP.out _).mono ?_
  rintro en w4 ⟨rfl, hb4⟩
  clear hW3
  have le4 : w.heap.size ≤ w4.heap.size := Nat.le_trans H3.out.1.size hb4.size
  have nea0_4 : ¬ w.heap.size = w4.heap.size := by have h1 := lt_of_block H3.out.2.1; have h2 := hb4.size; omega
  have neb0_4 : ¬ w4.heap.size = w.heap.size := by have h1 := lt_of_block H3.out.2.1; have h2 := hb4.size; omega
  have nea1_4 : ¬ w2.heap.size = w4.heap.size := by have h1 := lt_of_block H3.out.2.2; have h2 := hb4.size; omega
  have neb1_4 : ¬ w4.heap.size = w2.heap.size := by have h1 := lt_of_block H3.out.2.2; have h2 := hb4.size; omega
  clear c0_0 c0_1 c0_2 c0_3 c0_4 c0_5 c0_6 c1_0 c1_1 c1_2 c1_3 c1_4 c1_5 c1_6
  have H4 := Lib.hid (And.intro (H3.out.1.trans (hb4.mono H3.out.1.size)) (And.intro ((hb4.block _ (lt_of_block H3.out.2.1)).trans H3.out.2.1) ((hb4.block _ (lt_of_block H3.out.2.2)).trans H3.out.2.2)))
  clear hb4
  obtain ⟨c0_0, c0_1, c0_2, c0_3, c0_4, c0_5, c0_6⟩ := blk7 H4.out.2.1
  obtain ⟨c1_0, c1_1, c1_2, c1_3, c1_4, c1_5, c1_6⟩ := blk7 H4.out.2.2
  go_wp2_with fail
  with_reducible refine (HP2.out _).mono ?_
  rintro en w5 ⟨rfl, hb5⟩
  have le5 : w.heap.size ≤ w5.heap.size := Nat.le_trans H4.out.1.size hb5.size
  have nea0_5 : ¬ w.heap.size = w5.heap.size := by have h1 := lt_of_block H4.out.2.1; have h2 := hb5.size; omega
  have neb0_5 : ¬ w5.heap.size = w.heap.size := by have h1 := lt_of_block H4.out.2.1; have h2 := hb5.size; omega
  have nea1_5 : ¬ w2.heap.size = w5.heap.size := by have h1 := lt_of_block H4.out.2.2; have h2 := hb5.size; omega
  have neb1_5 : ¬ w5.heap.size = w2.heap.size := by have h1 := lt_of_block H4.out.2.2; have h2 := hb5.size; omega
  clear c0_0 c0_1 c0_2 c0_3 c0_4 c0_5 c0_6 c1_0 c1_1 c1_2 c1_3 c1_4 c1_5 c1_6
  have H5 := Lib.hid (And.intro (H4.out.1.trans (hb5.mono H4.out.1.size)) (And.intro ((hb5.block _ (lt_of_block H4.out.2.1)).trans H4.out.2.1) ((hb5.block _ (lt_of_block H4.out.2.2)).trans H4.out.2.2)))
  clear hb5
  obtain ⟨c0_0, c0_1, c0_2, c0_3, c0_4, c0_5, c0_6⟩ := blk7 H5.out.2.1
  obtain ⟨c1_0, c1_1, c1_2, c1_3, c1_4, c1_5, c1_6⟩ := blk7 H5.out.2.2
  go_wp2_with fail
  with_reducible refine (HT.out _).mono ?_
  rintro en w6 ⟨rfl, hb6⟩
  have le6 : w.heap.size ≤ w6.heap.size := Nat.le_trans H5.out.1.size hb6.size
  have nea0_6 : ¬ w.heap.size = w6.heap.size := by have h1 := lt_of_block H5.out.2.1; have h2 := hb6.size; omega
  have neb0_6 : ¬ w6.heap.size = w.heap.size := by have h1 := lt_of_block H5.out.2.1; have h2 := hb6.size; omega
  have nea1_6 : ¬ w2.heap.size = w6.heap.size := by have h1 := lt_of_block H5.out.2.2; have h2 := hb6.size; omega
  have neb1_6 : ¬ w6.heap.size = w2.heap.size := by have h1 := lt_of_block H5.out.2.2; have h2 := hb6.size; omega
  clear c0_0 c0_1 c0_2 c0_3 c0_4 c0_5 c0_6 c1_0 c1_1 c1_2 c1_3 c1_4 c1_5 c1_6
  obtain ⟨W7, hW7⟩ : ∃ W7, w6.alloc (.cells #[.int .i64 (g + 1), .int .i64 t, .int .i64 e, .int .i64 c, .int .i64 b, .int .i64 l, .int .i64 f] 26) = W7 := ⟨_, rfl⟩
  have hb7 : Below w6.heap.size w6 W7 := by rw [← hW7]; exact alloc_below w6 _
  have k7 : W7.heap[w6.heap.size]? = some (.cells #[.int .i64 (g + 1), .int .i64 t, .int .i64 e, .int .i64 c, .int .i64 b, .int .i64 l, .int .i64 f] 26 (0, 0)) := by rw [← hW7]; exact alloc_new w6 _
  have hc7 := hb6.trans (hb7.mono hb6.size)
  have H7 := Lib.hid (And.intro (H5.out.1.trans (hc7.mono H5.out.1.size)) (And.intro ((hc7.block _ (lt_of_block H5.out.2.1)).trans H5.out.2.1) (And.intro ((hc7.block _ (lt_of_block H5.out.2.2)).trans H5.out.2.2) k7)))
  clear k7 hb7 hc7 hb6
  obtain ⟨c0_0, c0_1, c0_2, c0_3, c0_4, c0_5, c0_6⟩ := blk7 H7.out.2.1
  obtain ⟨c1_0, c1_1, c1_2, c1_3, c1_4, c1_5, c1_6⟩ := blk7 H7.out.2.2.1
  obtain ⟨c2_0, c2_1, c2_2, c2_3, c2_4, c2_5, c2_6⟩ := blk7 H7.out.2.2.2
  go_wp2_with fail
  with_reducible refine (HC.out _).mono ?_
  rintro en w8 ⟨rfl, hb8⟩
  clear hW7
  have le8 : w.heap.size ≤ w8.heap.size := Nat.le_trans H7.out.1.size hb8.size
  have nea0_8 : ¬ w.heap.size = w8.heap.size := by have h1 := lt_of_block H7.out.2.1; have h2 := hb8.size; omega
  have neb0_8 : ¬ w8.heap.size = w.heap.size := by have h1 := lt_of_block H7.out.2.1; have h2 := hb8.size; omega
  have nea1_8 : ¬ w2.heap.size = w8.heap.size := by have h1 := lt_of_block H7.out.2.2.1; have h2 := hb8.size; omega
  have neb1_8 : ¬ w8.heap.size = w2.heap.size := by have h1 := lt_of_block H7.out.2.2.1; have h2 := hb8.size; omega
  have nea2_8 : ¬ w6.heap.size = w8.heap.size := by have h1 := lt_of_block H7.out.2.2.2; have h2 := hb8.size; omega
  have neb2_8 : ¬ w8.heap.size = w6.heap.size := by have h1 := lt_of_block H7.out.2.2.2; have h2 := hb8.size; omega
  clear c0_0 c0_1 c0_2 c0_3 c0_4 c0_5 c0_6 c1_0 c1_1 c1_2 c1_3 c1_4 c1_5 c1_6 c2_0 c2_1 c2_2 c2_3 c2_4 c2_5 c2_6
  obtain ⟨W9, hW9⟩ : ∃ W9, w8.alloc (.cells #[.int .i64 (g + 1), .int .i64 t, .int .i64 e, .int .i64 c, .int .i64 b, .int .i64 l, .int .i64 f] 26) = W9 := ⟨_, rfl⟩
  have hb9 : Below w8.heap.size w8 W9 := by rw [← hW9]; exact alloc_below w8 _
  have k9 : W9.heap[w8.heap.size]? = some (.cells #[.int .i64 (g + 1), .int .i64 t, .int .i64 e, .int .i64 c, .int .i64 b, .int .i64 l, .int .i64 f] 26 (0, 0)) := by rw [← hW9]; exact alloc_new w8 _
  have hc9 := hb8.trans (hb9.mono hb8.size)
  have H9 := Lib.hid (And.intro (H7.out.1.trans (hc9.mono H7.out.1.size)) (And.intro ((hc9.block _ (lt_of_block H7.out.2.1)).trans H7.out.2.1) (And.intro ((hc9.block _ (lt_of_block H7.out.2.2.1)).trans H7.out.2.2.1) (And.intro ((hc9.block _ (lt_of_block H7.out.2.2.2)).trans H7.out.2.2.2) k9))))
  clear k9 hb9 hc9 hb8
  obtain ⟨c0_0, c0_1, c0_2, c0_3, c0_4, c0_5, c0_6⟩ := blk7 H9.out.2.1
  obtain ⟨c1_0, c1_1, c1_2, c1_3, c1_4, c1_5, c1_6⟩ := blk7 H9.out.2.2.1
  obtain ⟨c2_0, c2_1, c2_2, c2_3, c2_4, c2_5, c2_6⟩ := blk7 H9.out.2.2.2.1
  obtain ⟨c3_0, c3_1, c3_2, c3_3, c3_4, c3_5, c3_6⟩ := blk7 H9.out.2.2.2.2
  obtain ⟨WZ, hWZ⟩ : ∃ WZ, W9.alloc (.cells #[.int .i64 g, .int .i64 t, .int .i64 e, .int .i64 c, .int .i64 b, .int .i64 l, .int .i64 f] 26) = WZ := ⟨_, rfl⟩
  have hbz : Below W9.heap.size W9 WZ := by rw [← hWZ]; exact alloc_below W9 _
  have kz : WZ.heap[W9.heap.size]? = some (.cells #[.int .i64 g, .int .i64 t, .int .i64 e, .int .i64 c, .int .i64 b, .int .i64 l, .int .i64 f] 26 (0, 0)) := by rw [← hWZ]; exact alloc_new W9 _
  obtain ⟨WY, hWY⟩ : ∃ WY, WZ.setRow W9.heap.size #[.int .i64 (g + 1), .int .i64 t, .int .i64 e, .int .i64 c, .int .i64 b, .int .i64 l, .int .i64 f] = WY := ⟨_, rfl⟩
  have ky : WY.heap[W9.heap.size]? = some (.cells #[.int .i64 (g + 1), .int .i64 t, .int .i64 e, .int .i64 c, .int .i64 b, .int .i64 l, .int .i64 f] 26 (0, 0)) := by rw [← hWY]; exact setRow_heap _ _ _ _ _ _ kz
  have k3y : WY.heap[w8.heap.size]? = some (.cells #[.int .i64 (g + 1), .int .i64 t, .int .i64 e, .int .i64 c, .int .i64 b, .int .i64 l, .int .i64 f] 26 (0, 0)) := by rw [← hWY, setRow_other _ _ _ _ (Nat.ne_of_lt (lt_of_block H9.out.2.2.2.2))]; exact ((hbz.block _ (lt_of_block H9.out.2.2.2.2)).trans H9.out.2.2.2.2)
  have hby : Below W9.heap.size W9 WY := by rw [← hWY]; exact hbz.trans ⟨rfl, rfl, rfl, by simp, fun k hk => setRow_other _ _ _ _ (Nat.ne_of_lt hk)⟩
  obtain ⟨g1_0, g1_1, g1_2, g1_3, g1_4, g1_5, g1_6⟩ := blk7 ((hbz.block _ (lt_of_block H9.out.2.2.1)).trans H9.out.2.2.1)
  have HZ := Lib.hid (And.intro (H9.out.1.trans (hby.mono H9.out.1.size)) (And.intro kz (And.intro ky k3y)))
  clear kz ky k3y hby hbz
  obtain ⟨y3_0, y3_1, y3_2, y3_3, y3_4, y3_5, y3_6⟩ := blk7 HZ.out.2.2.2
  obtain ⟨z_0, z_1, z_2, z_3, z_4, z_5, z_6⟩ := blk7 HZ.out.2.2.1
  go_wp2_with (refine wpList_store_blk rfl 26 (.tmp 20) (.tmp 99) rfl W9.heap.size 0 7 rfl #[.int .i64 g, .int .i64 t, .int .i64 e, .int .i64 c, .int .i64 b, .int .i64 l, .int .i64 f] #[.int .i64 (g + 1), .int .i64 t, .int .i64 e, .int .i64 c, .int .i64 b, .int .i64 l, .int .i64 f] #[.int .i64 (g + 1), .int .i64 t, .int .i64 e, .int .i64 c, .int .i64 b, .int .i64 l, .int .i64 f] rfl 26 HZ.out.2.1 rfl (Nat.le_refl 7) (by kernel_rfl) (sup_one _ _ _ _ _ _ _) (splice_all _ _ rfl) ?_; rw [hWY])
  refine (alive_any _).mono ?_
  rintro en wz ⟨rfl, hbe⟩
  go_wp2
  exact HR.out _ _ ⟨rfl, HZ.out.1.trans (hbe.mono HZ.out.1.size)⟩
end Go.Proofs.Ytgaoammkegcdcaa
