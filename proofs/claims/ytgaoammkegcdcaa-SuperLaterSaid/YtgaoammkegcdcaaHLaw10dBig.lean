/- The law SuperLater: one way of its walk. -/
import Derived.Test.YtgaoammkegcdcaaHLaw10dP
namespace Go.Proofs.Ytgaoammkegcdcaa
open Go.RowKit Ks
set_option linter.unusedVariables false
set_option maxHeartbeats 4000000 in
set_option maxRecDepth 100000 in
theorem later_big (g t e c b l f : Int) (second : Bool) (s : ByteArray) (came : Bool) (w : World) (hb : -9223372036854775808 ≤ b ∧ b ≤ 9223372036854775807) (hn : nxE g t e c b l f = 0 ∧ nxV g t e c b l f = supV (g + 1) t e c b l f) (hs : (10000 : Int) < s.size) :
    Calls Try.prog 6 #[supV g t e c b l f, .bool second, .string s, .bool came] w fun en w' => en = .returned (.bool true) ∧ Below w.heap.size w w' := by
  refine calls_by fun R HR => ?_
  have HN := Lib.hid (fun w => snext_any g t e c b l f w hb)
  simp only [hn] at HN
  clear hn
  obtain ⟨W1, hW1⟩ : ∃ W1, w.alloc (.cells #[.int .i64 g, .int .i64 t, .int .i64 e, .int .i64 c, .int .i64 b, .int .i64 l, .int .i64 f] 26) = W1 := ⟨_, rfl⟩
  have hb1 : Below w.heap.size w W1 := by rw [← hW1]; exact alloc_below w _
  have k1 : W1.heap[w.heap.size]? = some (.cells #[.int .i64 g, .int .i64 t, .int .i64 e, .int .i64 c, .int .i64 b, .int .i64 l, .int .i64 f] 26 (0, 0)) := by rw [← hW1]; exact alloc_new w _
  have H1 := Lib.hid (And.intro hb1 k1)
  clear k1 hb1
  obtain ⟨c0_0, c0_1, c0_2, c0_3, c0_4, c0_5, c0_6⟩ := blk7 H1.out.2
  go_enter Try.func6, Try.ntmps6
  go_wp2_with fail
  with_reducible refine (HN.out _).mono ?_
  rintro en w2 ⟨rfl, hb2⟩
  clear hW1
  have hb2s := hb2.size
  clear c0_0 c0_1 c0_2 c0_3 c0_4 c0_5 c0_6
  obtain ⟨W3, hW3⟩ : ∃ W3, w2.alloc (.cells #[.int .i64 (g + 1), .int .i64 t, .int .i64 e, .int .i64 c, .int .i64 b, .int .i64 l, .int .i64 f] 26) = W3 := ⟨_, rfl⟩
  have hb3 : Below w2.heap.size w2 W3 := by rw [← hW3]; exact alloc_below w2 _
  have k3 : W3.heap[w2.heap.size]? = some (.cells #[.int .i64 (g + 1), .int .i64 t, .int .i64 e, .int .i64 c, .int .i64 b, .int .i64 l, .int .i64 f] 26 (0, 0)) := by rw [← hW3]; exact alloc_new w2 _
  have hc3 := hb2.trans (hb3.mono hb2.size)
  have H3 := Lib.hid (And.intro (H1.out.1.trans (hc3.mono H1.out.1.size)) (And.intro ((hc3.block _ (lt_of_block H1.out.2)).trans H1.out.2) k3))
  clear k3 hb3 hc3 hb2
  obtain ⟨c0_0, c0_1, c0_2, c0_3, c0_4, c0_5, c0_6⟩ := blk7 H3.out.2.1
  obtain ⟨c1_0, c1_1, c1_2, c1_3, c1_4, c1_5, c1_6⟩ := blk7 H3.out.2.2
  go_wp2_with fail
  with_reducible refine (alive_any _).mono ?_
  rintro en w4 ⟨rfl, hb4⟩
  clear hW3
  clear c0_0 c0_1 c0_2 c0_3 c0_4 c0_5 c0_6 c1_0 c1_1 c1_2 c1_3 c1_4 c1_5 c1_6
  have H4 := Lib.hid (And.intro (H3.out.1.trans (hb4.mono H3.out.1.size)) (And.intro ((hb4.block _ (lt_of_block H3.out.2.1)).trans H3.out.2.1) ((hb4.block _ (lt_of_block H3.out.2.2)).trans H3.out.2.2)))
  clear hb4
  go_wp2
  exact HR.out _ _ ⟨rfl, H4.out.1⟩
end Go.Proofs.Ytgaoammkegcdcaa
