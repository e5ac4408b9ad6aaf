/- Texts that the claim rests on, part 8: ProofProve3, Alive16, StrBytes, ProofFew, ProofLeads, ProofFound, ProofNone. -/
import Derived.Test.YtelmcoedmkhkjaaProg
import Derived.WalkLawsBesides
import Derived.BigQuiet
import Derived.Laws.EntriesVeiled
import Derived.Test.YtelmcoedmkhkjaaM7
/- The proof of a place: proof.Prove, where there is one: all ways. -/
namespace Go.Proofs.Ytelmcoedmkhkjaa
open Go.RowKit Ks
set_option linter.unusedVariables false
set_option maxRecDepth 100000 in
set_option maxHeartbeats 16000000 in
theorem prove_mid (lv : Value) (l : List LeafT) (lba : Int) (w : World) (hl : Rd leafE w lv l) (hlen : l.length ≤ 1000000) (hr : rightB l = true) (hlb : 0 ≤ lba ∧ lba < 4096) (n : Nat) (hn : aheadN lba l = n) (hm : metP l lba = false) (hnn : n < l.length) (x : LeafT) (hx : l[n]? = some x) (h0 : 0 < n) (hnm : n - 1 < l.length) (y : LeafT) (hy : l[n - 1]? = some y) :
    Calls Try.prog 11 #[lv, .int .i64 lba] w fun e w' => ∃ u v, e = .returned (.tuple #[prfV (proveP l lba) u v, .int .i64 0]) ∧ Rd strE w' u (proveP l lba).up ∧ Rd strE w' v (proveP l lba).left ∧ Below w.heap.size w w' := by
  refine calls_by fun R HR => ?_
  have hsr := ((rightB_spec l).1 hr).2
  have HL := Lib.hid (And.intro hl (And.intro hlen hsr))
  have HCk := Lib.hid (fun w h => right_yes (lv := lv) hr w h hlen)
  have HPl := Lib.hid (place_yes hlb)
  have HFi := Lib.hid (fun w h => find_is hn hm lv w h hlen hsr)
  have HHs := Lib.hid (fun w h => hashes_any lv l w h hlen)
  have HP1 := Lib.hid (fun v w h => path_at (l := l) (n := n) hnn v w h hlen)
  have HP2 := Lib.hid (fun v w h => path_at (l := l) (n := n - 1) hnm v w h hlen)
  obtain ⟨xl, xs⟩ := x
  obtain ⟨yl, ys⟩ := y
  have HV := Lib.hid (show proveP l lba = ⟨false, n, (xl, xs), (yl, ys), pathL (hashL l) n, pathL (hashL l) (n - 1)⟩ by
    simp [proveP, hn, hm, hnn, here_some hx, here_some hy, h0])
  obtain ⟨a, cap, rfl, hcap, -⟩ := hl.shape
  have hnl : n ≤ l.length := by rw [← hn]; exact ahead_le lba l
  clear hr hl hlb hm hn
  have hli : (l.length : Int) ≤ 1000000 := by omega
  have H1 := Lib.hid (And.intro (Below.refl w.heap.size w) (HL.out.1))
  obtain ⟨W1, hW1⟩ : ∃ W1, w.alloc (.cells #[.bool false, .int .i64 0, .int .i64 0, .string ⟨#[]⟩, .int .i64 0, .string ⟨#[]⟩, .slice none 0 0, .slice none 0 0] 29) = W1 := ⟨_, rfl⟩
  have hbW1 : Below w.heap.size w W1 := by rw [← hW1]; exact alloc_below w _
  have kW1 : W1.heap[w.heap.size]? = some (.cells #[.bool false, .int .i64 0, .int .i64 0, .string ⟨#[]⟩, .int .i64 0, .string ⟨#[]⟩, .slice none 0 0, .slice none 0 0] 29 (0, 0)) := by rw [← hW1]; exact alloc_new w _
  have H2 := Lib.hid (And.intro (H1.out.1.trans (hbW1.mono H1.out.1.size)) (And.intro (H1.out.2.below hbW1) (kW1)))
  clear hbW1 kW1
  go_enter Try.func11, Try.ntmps11
  go_wp2_with fail
  refine (HCk.out _ H2.out.2.1).mono ?_
  rintro en v1 ⟨rfl, hb⟩
  clear hW1
  have H3 := Lib.hid (And.intro (H2.out.1.trans (hb.mono H2.out.1.size)) (And.intro (H2.out.2.1.below hb) (blk_on hb H2.out.2.2)))
  clear hb
  go_wp2_with fail
  refine (HPl.out _).mono ?_
  rintro en v2 ⟨rfl, hw⟩
  rw [hw]
  clear hw
  go_wp2_with fail
  refine (HHs.out _ H3.out.2.1).mono ?_
  rintro en v3 ⟨tv, rfl, hrow, hb⟩
  obtain ⟨ta, tc, rfl, -⟩ := hrow.shape
  have H4 := Lib.hid (And.intro (H3.out.1.trans (hb.mono H3.out.1.size)) (And.intro (H3.out.2.1.below hb) (And.intro (blk_on hb H3.out.2.2) (hrow.rd))))
  clear hb
  clear hrow
  go_wp2_with fail
  refine (HFi.out _ H4.out.2.1).mono ?_
  rintro en v4 ⟨rfl, hb⟩
  have H5 := Lib.hid (And.intro (H4.out.1.trans (hb.mono H4.out.1.size)) (And.intro (H4.out.2.1.below hb) (And.intro (blk_on hb H4.out.2.2.1) (H4.out.2.2.2.below hb))))
  clear hb
  obtain ⟨pb, hpb⟩ : ∃ pb, v4.heap.size = pb := ⟨_, rfl⟩
  obtain ⟨P0, hP0⟩ : ∃ P0, v4.alloc (.cells #[.bool false, .int .i64 (n : Nat), .int .i64 0, .string ⟨#[]⟩, .int .i64 0, .string ⟨#[]⟩, .slice none 0 0, .slice none 0 0] 29) = P0 := ⟨_, rfl⟩
  have K0 := Lib.hid (show P0.heap[pb]? = some (.cells #[.bool false, .int .i64 (n : Nat), .int .i64 0, .string ⟨#[]⟩, .int .i64 0, .string ⟨#[]⟩, .slice none 0 0, .slice none 0 0] 29 (0, 0)) by rw [← hP0, ← hpb]; exact alloc_new v4 _)
  have B0 := Lib.hid (show Below pb v4 P0 by rw [← hP0, ← hpb]; exact alloc_below v4 _)
  have Z0 := Lib.hid (show pb < P0.heap.size from lt_of_block K0.out)
  have E0 := Lib.hid hP0
  clear hP0
  go_upto_region 7 with fail
  rw [E0.out]
  clear E0
  have hni : (n : Int) < (l.length : Int) := by omega
  obtain ⟨b, o, ha, hb0, dd⟩ := (H5.out.2.1.below (hpb ▸ B0.out)).at (n) _ hx
  subst ha
  have d0 : P0.cell? ⟨b, o + (n) * 2, none⟩ = some (.int .i64 xl) := dd 0 _ rfl
  have d1 : P0.cell? ⟨b, o + (n) * 2 + 1, none⟩ = some (.string xs) := dd 1 _ rfl
  clear dd hb0
  obtain ⟨P1, hP1⟩ : ∃ W, P0.setRow pb #[.bool false, .int .i64 (n : Nat), .int .i64 xl, .string xs, .int .i64 0, .string ⟨#[]⟩, .slice none 0 0, .slice none 0 0] = W := ⟨_, rfl⟩
  have K1 := Lib.hid (show P1.heap[pb]? = some (.cells #[.bool false, .int .i64 (n : Nat), .int .i64 xl, .string xs, .int .i64 0, .string ⟨#[]⟩, .slice none 0 0, .slice none 0 0] 29 (0, 0)) by rw [← hP1]; exact setRow_heap P0 pb _ _ _ _ K0.out)
  have B1 := Lib.hid (show Below pb v4 P1 by rw [← hP1]; exact B0.out.trans (row_under P0 pb _))
  go_wp2_with (refine wpList_store_blk rfl 25 (.tmp 40) (.tmp 39) rfl pb 2 2 rfl #[.bool false, .int .i64 (n : Nat), .int .i64 0, .string ⟨#[]⟩, .int .i64 0, .string ⟨#[]⟩, .slice none 0 0, .slice none 0 0] #[.int .i64 xl, .string xs] #[.bool false, .int .i64 (n : Nat), .int .i64 xl, .string xs, .int .i64 0, .string ⟨#[]⟩, .slice none 0 0, .slice none 0 0] rfl 29 K0.out rfl (show 2 + 2 ≤ 8 by decide) (by kernel_rfl) (leaf_one _ _) rfl ?_; rw [hP1])
  clear hP1 d0 d1
  refine (HP1.out _ _ (H5.out.2.2.2.below (hpb ▸ B1.out))).mono ?_
  rintro en q1 ⟨uv, rfl, hrow, hb⟩
  obtain ⟨ua, uc, rfl, -⟩ := hrow.shape
  have K2 := Lib.hid (blk_on hb K1.out)
  have B2 := Lib.hid (B1.out.trans (hb.mono (Nat.le_of_lt (lt_of_block K1.out))))
  have Ru2 := Lib.hid hrow
  have Zu := Lib.hid (show pb < P1.heap.size from lt_of_block K1.out)
  clear hb hrow
  have c6 : q1.cell? ⟨pb, 6, none⟩ = some (.slice none 0 0) := (blk8 K2.out).2.2.2.2.2.2.1
  have f6 : q1.frozen? ⟨pb, 6, none⟩ = false := frozen_of_row q1 pb _ _ _ K2.out
  obtain ⟨P3, hP3⟩ : ∃ W, q1.setCell ⟨pb, 6, none⟩ (.slice ua (pathL (hashL l) n).length uc) = W := ⟨_, rfl⟩
  have K3 := Lib.hid (show P3.heap[pb]? = some (.cells #[.bool false, .int .i64 (n : Nat), .int .i64 xl, .string xs, .int .i64 0, .string ⟨#[]⟩, .slice ua (pathL (hashL l) n).length uc, .slice none 0 0] 29 (0, 0)) by rw [← hP3]; exact set8_6 _ K2.out)
  have B3 := Lib.hid (show Below pb v4 P3 by rw [← hP3]; exact B2.out.trans (cell_under q1 pb _ _))
  have Ru3 := Lib.hid (show Row strE P3 P1.heap.size 9 (.slice ua (pathL (hashL l) n).length uc) (pathL (hashL l) n) from by rw [← hP3]; exact Ru2.out.past Zu.out (fun k h => set_ne _ h))
  go_upto_region 10 with fail
  try rw [hP3]
  clear hP3 c6 f6
  have hn0 : (0 : Int) < (n : Int) := by omega
  have hn1 : (n : Int) - 1 = ((n - 1 : Nat) : Int) := by omega
  have hn2 : wrap64 ((n : Int) - 1) = ((n - 1 : Nat) : Int) := by rw [hn1]; unfold wrap64; omega
  have hn3 : ((n - 1 : Nat) : Int) < (l.length : Int) := by omega
  obtain ⟨b, o, ha, hb0, dd⟩ := (H5.out.2.1.below (hpb ▸ B3.out)).at (n - 1) _ hy
  cases ha
  have d0 : P3.cell? ⟨b, o + (n - 1) * 2, none⟩ = some (.int .i64 yl) := dd 0 _ rfl
  have d1 : P3.cell? ⟨b, o + (n - 1) * 2 + 1, none⟩ = some (.string ys) := dd 1 _ rfl
  clear dd hb0
  obtain ⟨P4, hP4⟩ : ∃ W, P3.setRow pb #[.bool false, .int .i64 (n : Nat), .int .i64 xl, .string xs, .int .i64 yl, .string ys, .slice ua (pathL (hashL l) n).length uc, .slice none 0 0] = W := ⟨_, rfl⟩
  have K4 := Lib.hid (show P4.heap[pb]? = some (.cells #[.bool false, .int .i64 (n : Nat), .int .i64 xl, .string xs, .int .i64 yl, .string ys, .slice ua (pathL (hashL l) n).length uc, .slice none 0 0] 29 (0, 0)) by rw [← hP4]; exact setRow_heap P3 pb _ _ _ _ K3.out)
  have B4 := Lib.hid (show Below pb v4 P4 by rw [← hP4]; exact B3.out.trans (row_under P3 pb _))
  have Ru4 := Lib.hid (show Row strE P4 P1.heap.size 9 (.slice ua (pathL (hashL l) n).length uc) (pathL (hashL l) n) from by rw [← hP4]; exact Ru3.out.past Zu.out (fun k h => setRow_other _ _ k _ h))
  go_wp2_with (refine wpList_store_blk rfl 25 (.tmp 59) (.tmp 58) rfl pb 4 2 rfl #[.bool false, .int .i64 (n : Nat), .int .i64 xl, .string xs, .int .i64 0, .string ⟨#[]⟩, .slice ua (pathL (hashL l) n).length uc, .slice none 0 0] #[.int .i64 yl, .string ys] #[.bool false, .int .i64 (n : Nat), .int .i64 xl, .string xs, .int .i64 yl, .string ys, .slice ua (pathL (hashL l) n).length uc, .slice none 0 0] rfl 29 K3.out rfl (show 4 + 2 ≤ 8 by decide) (by kernel_rfl) (leaf_one _ _) rfl ?_; rw [hP4])
  clear hP4 d0 d1
  refine (HP2.out _ _ (H5.out.2.2.2.below (hpb ▸ B4.out))).mono ?_
  rintro en q2 ⟨vv, rfl, hrow, hb⟩
  obtain ⟨va, vc, rfl, -⟩ := hrow.shape
  have K5 := Lib.hid (blk_on hb K4.out)
  have B5 := Lib.hid (B4.out.trans (hb.mono (Nat.le_of_lt (lt_of_block K4.out))))
  have Ru5 := Lib.hid (Ru4.out.below hb)
  have Rv5 := Lib.hid hrow
  have Zv := Lib.hid (show pb < P4.heap.size from lt_of_block K4.out)
  clear hb hrow
  have c7 : q2.cell? ⟨pb, 7, none⟩ = some (.slice none 0 0) := (blk8 K5.out).2.2.2.2.2.2.2
  have f7 : q2.frozen? ⟨pb, 7, none⟩ = false := frozen_of_row q2 pb _ _ _ K5.out
  obtain ⟨P6, hP6⟩ : ∃ W, q2.setCell ⟨pb, 7, none⟩ (.slice va (pathL (hashL l) (n - 1)).length vc) = W := ⟨_, rfl⟩
  have K6 := Lib.hid (show P6.heap[pb]? = some (.cells #[.bool false, .int .i64 (n : Nat), .int .i64 xl, .string xs, .int .i64 yl, .string ys, .slice ua (pathL (hashL l) n).length uc, .slice va (pathL (hashL l) (n - 1)).length vc] 29 (0, 0)) by rw [← hP6]; exact set8_7 _ K5.out)
  have B6 := Lib.hid (show Below pb v4 P6 by rw [← hP6]; exact B5.out.trans (cell_under q2 pb _ _))
  have Ru6 := Lib.hid (show Row strE P6 P1.heap.size 9 (.slice ua (pathL (hashL l) n).length uc) (pathL (hashL l) n) from by rw [← hP6]; exact Ru5.out.past Zu.out (fun k h => set_ne _ h))
  have Rv6 := Lib.hid (show Row strE P6 P4.heap.size 9 (.slice va (pathL (hashL l) (n - 1)).length vc) (pathL (hashL l) (n - 1)) from by rw [← hP6]; exact Rv5.out.past Zv.out (fun k h => set_ne _ h))
  go_upto_region 13 with fail
  try rw [hP6]
  clear hP6 c7 f7
  obtain ⟨z0, z1, z2, z3, z4, z5, z6, z7⟩ := blk8 K6.out
  have KR := Lib.hid (blk_on (hpb ▸ B6.out) H5.out.2.2.1)
  obtain ⟨WR, hWR⟩ : ∃ W, P6.setRow w.heap.size #[.bool false, .int .i64 (n : Nat), .int .i64 xl, .string xs, .int .i64 yl, .string ys, .slice ua (pathL (hashL l) n).length uc, .slice va (pathL (hashL l) (n - 1)).length vc] = W := ⟨_, rfl⟩
  have KE := Lib.hid (show WR.heap[w.heap.size]? = some (.cells #[.bool false, .int .i64 (n : Nat), .int .i64 xl, .string xs, .int .i64 yl, .string ys, .slice ua (pathL (hashL l) n).length uc, .slice va (pathL (hashL l) (n - 1)).length vc] 29 (0, 0)) by rw [← hWR]; exact setRow_heap P6 _ _ _ _ _ KR.out)
  have BE := Lib.hid (show Below w.heap.size w WR by rw [← hWR]; exact (H5.out.1.trans ((hpb ▸ B6.out : Below v4.heap.size v4 P6).mono H5.out.1.size)).trans (row_under P6 _ _))
  have hlw := H5.out.1.size
  have REu := Lib.hid (show Rd strE WR (.slice ua (pathL (hashL l) n).length uc) (pathL (hashL l) n) by rw [← hWR]; exact (Ru6.out.past (b := w.heap.size) (by have := Zu.out; omega) (fun k h => setRow_other _ _ k _ h)).rd)
  have REv := Lib.hid (show Rd strE WR (.slice va (pathL (hashL l) (n - 1)).length vc) (pathL (hashL l) (n - 1)) by rw [← hWR]; exact (Rv6.out.past (b := w.heap.size) (by have := Zv.out; omega) (fun k h => setRow_other _ _ k _ h)).rd)
  clear hlw
  go_wp2_with (refine wpList_store_blk rfl 29 (.tmp 4) (.tmp 68) rfl w.heap.size 0 8 rfl #[.bool false, .int .i64 0, .int .i64 0, .string ⟨#[]⟩, .int .i64 0, .string ⟨#[]⟩, .slice none 0 0, .slice none 0 0] #[.bool false, .int .i64 (n : Nat), .int .i64 xl, .string xs, .int .i64 yl, .string ys, .slice ua (pathL (hashL l) n).length uc, .slice va (pathL (hashL l) (n - 1)).length vc] #[.bool false, .int .i64 (n : Nat), .int .i64 xl, .string xs, .int .i64 yl, .string ys, .slice ua (pathL (hashL l) n).length uc, .slice va (pathL (hashL l) (n - 1)).length vc] rfl 29 KR.out rfl (Nat.le_refl 8) (by kernel_rfl) (prf_one _ _ _ _ _ _ _ _ _ _ _ _) (splice_all _ _ rfl) ?_; rw [hWR])
  clear hWR z0 z1 z2 z3 z4 z5 z6 z7
  obtain ⟨z0, z1, z2, z3, z4, z5, z6, z7⟩ := blk8 KE.out
  refine bodyPost_ret (v := .tuple #[.agg #[.bool false, .int .i64 (n : Nat), .int .i64 xl, .string xs, .int .i64 yl, .string ys, .slice ua (pathL (hashL l) n).length uc, .slice va (pathL (hashL l) (n - 1)).length vc], .int .i64 0]) (by simp [results, Try.results11, go_sem, z0, z1, z2, z3, z4, z5, z6, z7]) rfl ?_
  exact HR.out _ _ ⟨.slice ua (pathL (hashL l) n).length uc, .slice va (pathL (hashL l) (n - 1)).length vc, by rw [HV.out]; try rfl, by rw [HV.out]; exact REu.out, by rw [HV.out]; exact REv.out, BE.out⟩
set_option maxRecDepth 100000 in
set_option maxHeartbeats 16000000 in
theorem prove_low (lv : Value) (l : List LeafT) (lba : Int) (w : World) (hl : Rd leafE w lv l) (hlen : l.length ≤ 1000000) (hr : rightB l = true) (hlb : 0 ≤ lba ∧ lba < 4096) (n : Nat) (hn : aheadN lba l = n) (hm : metP l lba = false) (hnn : n < l.length) (x : LeafT) (hx : l[n]? = some x) (h0 : ¬ 0 < n) :
    Calls Try.prog 11 #[lv, .int .i64 lba] w fun e w' => ∃ u v, e = .returned (.tuple #[prfV (proveP l lba) u v, .int .i64 0]) ∧ Rd strE w' u (proveP l lba).up ∧ Rd strE w' v (proveP l lba).left ∧ Below w.heap.size w w' := by
  refine calls_by fun R HR => ?_
  have hsr := ((rightB_spec l).1 hr).2
  have HL := Lib.hid (And.intro hl (And.intro hlen hsr))
  have HCk := Lib.hid (fun w h => right_yes (lv := lv) hr w h hlen)
  have HPl := Lib.hid (place_yes hlb)
  have HFi := Lib.hid (fun w h => find_is hn hm lv w h hlen hsr)
  have HHs := Lib.hid (fun w h => hashes_any lv l w h hlen)
  have HP1 := Lib.hid (fun v w h => path_at (l := l) (n := n) hnn v w h hlen)
  obtain ⟨xl, xs⟩ := x
  have HV := Lib.hid (show proveP l lba = ⟨false, n, (xl, xs), noLeaf, pathL (hashL l) n, []⟩ by
    simp [proveP, hn, hm, hnn, here_some hx, (show ¬ 0 < n by omega)])
  obtain ⟨a, cap, rfl, hcap, -⟩ := hl.shape
  have hnl : n ≤ l.length := by rw [← hn]; exact ahead_le lba l
  clear hr hl hlb hm hn
  have hli : (l.length : Int) ≤ 1000000 := by omega
  have H1 := Lib.hid (And.intro (Below.refl w.heap.size w) (HL.out.1))
  obtain ⟨W1, hW1⟩ : ∃ W1, w.alloc (.cells #[.bool false, .int .i64 0, .int .i64 0, .string ⟨#[]⟩, .int .i64 0, .string ⟨#[]⟩, .slice none 0 0, .slice none 0 0] 29) = W1 := ⟨_, rfl⟩
  have hbW1 : Below w.heap.size w W1 := by rw [← hW1]; exact alloc_below w _
  have kW1 : W1.heap[w.heap.size]? = some (.cells #[.bool false, .int .i64 0, .int .i64 0, .string ⟨#[]⟩, .int .i64 0, .string ⟨#[]⟩, .slice none 0 0, .slice none 0 0] 29 (0, 0)) := by rw [← hW1]; exact alloc_new w _
  have H2 := Lib.hid (And.intro (H1.out.1.trans (hbW1.mono H1.out.1.size)) (And.intro (H1.out.2.below hbW1) (kW1)))
  clear hbW1 kW1
  go_enter Try.func11, Try.ntmps11
  go_wp2_with fail
  refine (HCk.out _ H2.out.2.1).mono ?_
  rintro en v1 ⟨rfl, hb⟩
  clear hW1
  have H3 := Lib.hid (And.intro (H2.out.1.trans (hb.mono H2.out.1.size)) (And.intro (H2.out.2.1.below hb) (blk_on hb H2.out.2.2)))
  clear hb
  go_wp2_with fail
  refine (HPl.out _).mono ?_
  rintro en v2 ⟨rfl, hw⟩
  rw [hw]
  clear hw
  go_wp2_with fail
  refine (HHs.out _ H3.out.2.1).mono ?_
  rintro en v3 ⟨tv, rfl, hrow, hb⟩
  obtain ⟨ta, tc, rfl, -⟩ := hrow.shape
  have H4 := Lib.hid (And.intro (H3.out.1.trans (hb.mono H3.out.1.size)) (And.intro (H3.out.2.1.below hb) (And.intro (blk_on hb H3.out.2.2) (hrow.rd))))
  clear hb
  clear hrow
  go_wp2_with fail
  refine (HFi.out _ H4.out.2.1).mono ?_
  rintro en v4 ⟨rfl, hb⟩
  have H5 := Lib.hid (And.intro (H4.out.1.trans (hb.mono H4.out.1.size)) (And.intro (H4.out.2.1.below hb) (And.intro (blk_on hb H4.out.2.2.1) (H4.out.2.2.2.below hb))))
  clear hb
  obtain ⟨pb, hpb⟩ : ∃ pb, v4.heap.size = pb := ⟨_, rfl⟩
  obtain ⟨P0, hP0⟩ : ∃ P0, v4.alloc (.cells #[.bool false, .int .i64 (n : Nat), .int .i64 0, .string ⟨#[]⟩, .int .i64 0, .string ⟨#[]⟩, .slice none 0 0, .slice none 0 0] 29) = P0 := ⟨_, rfl⟩
  have K0 := Lib.hid (show P0.heap[pb]? = some (.cells #[.bool false, .int .i64 (n : Nat), .int .i64 0, .string ⟨#[]⟩, .int .i64 0, .string ⟨#[]⟩, .slice none 0 0, .slice none 0 0] 29 (0, 0)) by rw [← hP0, ← hpb]; exact alloc_new v4 _)
  have B0 := Lib.hid (show Below pb v4 P0 by rw [← hP0, ← hpb]; exact alloc_below v4 _)
  have Z0 := Lib.hid (show pb < P0.heap.size from lt_of_block K0.out)
  have E0 := Lib.hid hP0
  clear hP0
  go_upto_region 7 with fail
  rw [E0.out]
  clear E0
  have hni : (n : Int) < (l.length : Int) := by omega
  obtain ⟨b, o, ha, hb0, dd⟩ := (H5.out.2.1.below (hpb ▸ B0.out)).at (n) _ hx
  subst ha
  have d0 : P0.cell? ⟨b, o + (n) * 2, none⟩ = some (.int .i64 xl) := dd 0 _ rfl
  have d1 : P0.cell? ⟨b, o + (n) * 2 + 1, none⟩ = some (.string xs) := dd 1 _ rfl
  clear dd hb0
  obtain ⟨P1, hP1⟩ : ∃ W, P0.setRow pb #[.bool false, .int .i64 (n : Nat), .int .i64 xl, .string xs, .int .i64 0, .string ⟨#[]⟩, .slice none 0 0, .slice none 0 0] = W := ⟨_, rfl⟩
  have K1 := Lib.hid (show P1.heap[pb]? = some (.cells #[.bool false, .int .i64 (n : Nat), .int .i64 xl, .string xs, .int .i64 0, .string ⟨#[]⟩, .slice none 0 0, .slice none 0 0] 29 (0, 0)) by rw [← hP1]; exact setRow_heap P0 pb _ _ _ _ K0.out)
  have B1 := Lib.hid (show Below pb v4 P1 by rw [← hP1]; exact B0.out.trans (row_under P0 pb _))
  go_wp2_with (refine wpList_store_blk rfl 25 (.tmp 40) (.tmp 39) rfl pb 2 2 rfl #[.bool false, .int .i64 (n : Nat), .int .i64 0, .string ⟨#[]⟩, .int .i64 0, .string ⟨#[]⟩, .slice none 0 0, .slice none 0 0] #[.int .i64 xl, .string xs] #[.bool false, .int .i64 (n : Nat), .int .i64 xl, .string xs, .int .i64 0, .string ⟨#[]⟩, .slice none 0 0, .slice none 0 0] rfl 29 K0.out rfl (show 2 + 2 ≤ 8 by decide) (by kernel_rfl) (leaf_one _ _) rfl ?_; rw [hP1])
  clear hP1 d0 d1
  refine (HP1.out _ _ (H5.out.2.2.2.below (hpb ▸ B1.out))).mono ?_
  rintro en q1 ⟨uv, rfl, hrow, hb⟩
  obtain ⟨ua, uc, rfl, -⟩ := hrow.shape
  have K2 := Lib.hid (blk_on hb K1.out)
  have B2 := Lib.hid (B1.out.trans (hb.mono (Nat.le_of_lt (lt_of_block K1.out))))
  have Ru2 := Lib.hid hrow
  have Zu := Lib.hid (show pb < P1.heap.size from lt_of_block K1.out)
  clear hb hrow
  have c6 : q1.cell? ⟨pb, 6, none⟩ = some (.slice none 0 0) := (blk8 K2.out).2.2.2.2.2.2.1
  have f6 : q1.frozen? ⟨pb, 6, none⟩ = false := frozen_of_row q1 pb _ _ _ K2.out
  obtain ⟨P3, hP3⟩ : ∃ W, q1.setCell ⟨pb, 6, none⟩ (.slice ua (pathL (hashL l) n).length uc) = W := ⟨_, rfl⟩
  have K3 := Lib.hid (show P3.heap[pb]? = some (.cells #[.bool false, .int .i64 (n : Nat), .int .i64 xl, .string xs, .int .i64 0, .string ⟨#[]⟩, .slice ua (pathL (hashL l) n).length uc, .slice none 0 0] 29 (0, 0)) by rw [← hP3]; exact set8_6 _ K2.out)
  have B3 := Lib.hid (show Below pb v4 P3 by rw [← hP3]; exact B2.out.trans (cell_under q1 pb _ _))
  have Ru3 := Lib.hid (show Row strE P3 P1.heap.size 9 (.slice ua (pathL (hashL l) n).length uc) (pathL (hashL l) n) from by rw [← hP3]; exact Ru2.out.past Zu.out (fun k h => set_ne _ h))
  go_upto_region 10 with fail
  try rw [hP3]
  clear hP3 c6 f6
  have hn0 : ¬ (0 : Int) < (n : Int) := by omega
  go_upto_region 13 with fail
  obtain ⟨z0, z1, z2, z3, z4, z5, z6, z7⟩ := blk8 K3.out
  have KR := Lib.hid (blk_on (hpb ▸ B3.out) H5.out.2.2.1)
  obtain ⟨WR, hWR⟩ : ∃ W, P3.setRow w.heap.size #[.bool false, .int .i64 (n : Nat), .int .i64 xl, .string xs, .int .i64 0, .string ⟨#[]⟩, .slice ua (pathL (hashL l) n).length uc, .slice none 0 0] = W := ⟨_, rfl⟩
  have KE := Lib.hid (show WR.heap[w.heap.size]? = some (.cells #[.bool false, .int .i64 (n : Nat), .int .i64 xl, .string xs, .int .i64 0, .string ⟨#[]⟩, .slice ua (pathL (hashL l) n).length uc, .slice none 0 0] 29 (0, 0)) by rw [← hWR]; exact setRow_heap P3 _ _ _ _ _ KR.out)
  have BE := Lib.hid (show Below w.heap.size w WR by rw [← hWR]; exact (H5.out.1.trans ((hpb ▸ B3.out : Below v4.heap.size v4 P3).mono H5.out.1.size)).trans (row_under P3 _ _))
  have hlw := H5.out.1.size
  have REu := Lib.hid (show Rd strE WR (.slice ua (pathL (hashL l) n).length uc) (pathL (hashL l) n) by rw [← hWR]; exact (Ru3.out.past (b := w.heap.size) (by have := Zu.out; omega) (fun k h => setRow_other _ _ k _ h)).rd)
  clear hlw
  go_wp2_with (refine wpList_store_blk rfl 29 (.tmp 4) (.tmp 68) rfl w.heap.size 0 8 rfl #[.bool false, .int .i64 0, .int .i64 0, .string ⟨#[]⟩, .int .i64 0, .string ⟨#[]⟩, .slice none 0 0, .slice none 0 0] #[.bool false, .int .i64 (n : Nat), .int .i64 xl, .string xs, .int .i64 0, .string ⟨#[]⟩, .slice ua (pathL (hashL l) n).length uc, .slice none 0 0] #[.bool false, .int .i64 (n : Nat), .int .i64 xl, .string xs, .int .i64 0, .string ⟨#[]⟩, .slice ua (pathL (hashL l) n).length uc, .slice none 0 0] rfl 29 KR.out rfl (Nat.le_refl 8) (by kernel_rfl) (prf_one _ _ _ _ _ _ _ _ _ _ _ _) (splice_all _ _ rfl) ?_; rw [hWR])
  clear hWR z0 z1 z2 z3 z4 z5 z6 z7
  obtain ⟨z0, z1, z2, z3, z4, z5, z6, z7⟩ := blk8 KE.out
  refine bodyPost_ret (v := .tuple #[.agg #[.bool false, .int .i64 (n : Nat), .int .i64 xl, .string xs, .int .i64 0, .string ⟨#[]⟩, .slice ua (pathL (hashL l) n).length uc, .slice none 0 0], .int .i64 0]) (by simp [results, Try.results11, go_sem, z0, z1, z2, z3, z4, z5, z6, z7]) rfl ?_
  exact HR.out _ _ ⟨.slice ua (pathL (hashL l) n).length uc, .slice none 0 0, by rw [HV.out]; try rfl, by rw [HV.out]; exact REu.out, by rw [HV.out]; exact Rd.nil _, BE.out⟩
set_option maxRecDepth 100000 in
set_option maxHeartbeats 16000000 in
theorem prove_top (lv : Value) (l : List LeafT) (lba : Int) (w : World) (hl : Rd leafE w lv l) (hlen : l.length ≤ 1000000) (hr : rightB l = true) (hlb : 0 ≤ lba ∧ lba < 4096) (n : Nat) (hn : aheadN lba l = n) (hm : metP l lba = false) (hnn : ¬ n < l.length) (h0 : 0 < n) (hnm : n - 1 < l.length) (y : LeafT) (hy : l[n - 1]? = some y) :
    Calls Try.prog 11 #[lv, .int .i64 lba] w fun e w' => ∃ u v, e = .returned (.tuple #[prfV (proveP l lba) u v, .int .i64 0]) ∧ Rd strE w' u (proveP l lba).up ∧ Rd strE w' v (proveP l lba).left ∧ Below w.heap.size w w' := by
  refine calls_by fun R HR => ?_
  have hsr := ((rightB_spec l).1 hr).2
  have HL := Lib.hid (And.intro hl (And.intro hlen hsr))
  have HCk := Lib.hid (fun w h => right_yes (lv := lv) hr w h hlen)
  have HPl := Lib.hid (place_yes hlb)
  have HFi := Lib.hid (fun w h => find_is hn hm lv w h hlen hsr)
  have HHs := Lib.hid (fun w h => hashes_any lv l w h hlen)
  have HP2 := Lib.hid (fun v w h => path_at (l := l) (n := n - 1) hnm v w h hlen)
  obtain ⟨yl, ys⟩ := y
  have HV := Lib.hid (show proveP l lba = ⟨false, n, noLeaf, (yl, ys), [], pathL (hashL l) (n - 1)⟩ by
    simp [proveP, hn, hm, here_none (show l.length ≤ n by omega), (show ¬ n < l.length by omega), here_some hy, h0])
  obtain ⟨a, cap, rfl, hcap, -⟩ := hl.shape
  have hnl : n ≤ l.length := by rw [← hn]; exact ahead_le lba l
  clear hr hl hlb hm hn
  have hli : (l.length : Int) ≤ 1000000 := by omega
  have H1 := Lib.hid (And.intro (Below.refl w.heap.size w) (HL.out.1))
  obtain ⟨W1, hW1⟩ : ∃ W1, w.alloc (.cells #[.bool false, .int .i64 0, .int .i64 0, .string ⟨#[]⟩, .int .i64 0, .string ⟨#[]⟩, .slice none 0 0, .slice none 0 0] 29) = W1 := ⟨_, rfl⟩
  have hbW1 : Below w.heap.size w W1 := by rw [← hW1]; exact alloc_below w _
  have kW1 : W1.heap[w.heap.size]? = some (.cells #[.bool false, .int .i64 0, .int .i64 0, .string ⟨#[]⟩, .int .i64 0, .string ⟨#[]⟩, .slice none 0 0, .slice none 0 0] 29 (0, 0)) := by rw [← hW1]; exact alloc_new w _
  have H2 := Lib.hid (And.intro (H1.out.1.trans (hbW1.mono H1.out.1.size)) (And.intro (H1.out.2.below hbW1) (kW1)))
  clear hbW1 kW1
  go_enter Try.func11, Try.ntmps11
  go_wp2_with fail
  refine (HCk.out _ H2.out.2.1).mono ?_
  rintro en v1 ⟨rfl, hb⟩
  clear hW1
  have H3 := Lib.hid (And.intro (H2.out.1.trans (hb.mono H2.out.1.size)) (And.intro (H2.out.2.1.below hb) (blk_on hb H2.out.2.2)))
  clear hb
  go_wp2_with fail
  refine (HPl.out _).mono ?_
  rintro en v2 ⟨rfl, hw⟩
  rw [hw]
  clear hw
  go_wp2_with fail
  refine (HHs.out _ H3.out.2.1).mono ?_
  rintro en v3 ⟨tv, rfl, hrow, hb⟩
  obtain ⟨ta, tc, rfl, -⟩ := hrow.shape
  have H4 := Lib.hid (And.intro (H3.out.1.trans (hb.mono H3.out.1.size)) (And.intro (H3.out.2.1.below hb) (And.intro (blk_on hb H3.out.2.2) (hrow.rd))))
  clear hb
  clear hrow
  go_wp2_with fail
  refine (HFi.out _ H4.out.2.1).mono ?_
  rintro en v4 ⟨rfl, hb⟩
  have H5 := Lib.hid (And.intro (H4.out.1.trans (hb.mono H4.out.1.size)) (And.intro (H4.out.2.1.below hb) (And.intro (blk_on hb H4.out.2.2.1) (H4.out.2.2.2.below hb))))
  clear hb
  obtain ⟨pb, hpb⟩ : ∃ pb, v4.heap.size = pb := ⟨_, rfl⟩
  obtain ⟨P0, hP0⟩ : ∃ P0, v4.alloc (.cells #[.bool false, .int .i64 (n : Nat), .int .i64 0, .string ⟨#[]⟩, .int .i64 0, .string ⟨#[]⟩, .slice none 0 0, .slice none 0 0] 29) = P0 := ⟨_, rfl⟩
  have K0 := Lib.hid (show P0.heap[pb]? = some (.cells #[.bool false, .int .i64 (n : Nat), .int .i64 0, .string ⟨#[]⟩, .int .i64 0, .string ⟨#[]⟩, .slice none 0 0, .slice none 0 0] 29 (0, 0)) by rw [← hP0, ← hpb]; exact alloc_new v4 _)
  have B0 := Lib.hid (show Below pb v4 P0 by rw [← hP0, ← hpb]; exact alloc_below v4 _)
  have Z0 := Lib.hid (show pb < P0.heap.size from lt_of_block K0.out)
  have E0 := Lib.hid hP0
  clear hP0
  go_upto_region 7 with fail
  rw [E0.out]
  clear E0
  have hni : ¬ (n : Int) < (l.length : Int) := by omega
  go_upto_region 10 with fail
  have hn0 : (0 : Int) < (n : Int) := by omega
  have hn1 : (n : Int) - 1 = ((n - 1 : Nat) : Int) := by omega
  have hn2 : wrap64 ((n : Int) - 1) = ((n - 1 : Nat) : Int) := by rw [hn1]; unfold wrap64; omega
  have hn3 : ((n - 1 : Nat) : Int) < (l.length : Int) := by omega
  obtain ⟨b, o, ha, hb0, dd⟩ := (H5.out.2.1.below (hpb ▸ B0.out)).at (n - 1) _ hy
  subst ha
  have d0 : P0.cell? ⟨b, o + (n - 1) * 2, none⟩ = some (.int .i64 yl) := dd 0 _ rfl
  have d1 : P0.cell? ⟨b, o + (n - 1) * 2 + 1, none⟩ = some (.string ys) := dd 1 _ rfl
  clear dd hb0
  obtain ⟨P1, hP1⟩ : ∃ W, P0.setRow pb #[.bool false, .int .i64 (n : Nat), .int .i64 0, .string ⟨#[]⟩, .int .i64 yl, .string ys, .slice none 0 0, .slice none 0 0] = W := ⟨_, rfl⟩
  have K1 := Lib.hid (show P1.heap[pb]? = some (.cells #[.bool false, .int .i64 (n : Nat), .int .i64 0, .string ⟨#[]⟩, .int .i64 yl, .string ys, .slice none 0 0, .slice none 0 0] 29 (0, 0)) by rw [← hP1]; exact setRow_heap P0 pb _ _ _ _ K0.out)
  have B1 := Lib.hid (show Below pb v4 P1 by rw [← hP1]; exact B0.out.trans (row_under P0 pb _))
  go_wp2_with (refine wpList_store_blk rfl 25 (.tmp 59) (.tmp 58) rfl pb 4 2 rfl #[.bool false, .int .i64 (n : Nat), .int .i64 0, .string ⟨#[]⟩, .int .i64 0, .string ⟨#[]⟩, .slice none 0 0, .slice none 0 0] #[.int .i64 yl, .string ys] #[.bool false, .int .i64 (n : Nat), .int .i64 0, .string ⟨#[]⟩, .int .i64 yl, .string ys, .slice none 0 0, .slice none 0 0] rfl 29 K0.out rfl (show 4 + 2 ≤ 8 by decide) (by kernel_rfl) (leaf_one _ _) rfl ?_; rw [hP1])
  clear hP1 d0 d1
  refine (HP2.out _ _ (H5.out.2.2.2.below (hpb ▸ B1.out))).mono ?_
  rintro en q2 ⟨vv, rfl, hrow, hb⟩
  obtain ⟨va, vc, rfl, -⟩ := hrow.shape
  have K2 := Lib.hid (blk_on hb K1.out)
  have B2 := Lib.hid (B1.out.trans (hb.mono (Nat.le_of_lt (lt_of_block K1.out))))
  have Rv2 := Lib.hid hrow
  have Zv := Lib.hid (show pb < P1.heap.size from lt_of_block K1.out)
  clear hb hrow
  have c7 : q2.cell? ⟨pb, 7, none⟩ = some (.slice none 0 0) := (blk8 K2.out).2.2.2.2.2.2.2
  have f7 : q2.frozen? ⟨pb, 7, none⟩ = false := frozen_of_row q2 pb _ _ _ K2.out
  obtain ⟨P3, hP3⟩ : ∃ W, q2.setCell ⟨pb, 7, none⟩ (.slice va (pathL (hashL l) (n - 1)).length vc) = W := ⟨_, rfl⟩
  have K3 := Lib.hid (show P3.heap[pb]? = some (.cells #[.bool false, .int .i64 (n : Nat), .int .i64 0, .string ⟨#[]⟩, .int .i64 yl, .string ys, .slice none 0 0, .slice va (pathL (hashL l) (n - 1)).length vc] 29 (0, 0)) by rw [← hP3]; exact set8_7 _ K2.out)
  have B3 := Lib.hid (show Below pb v4 P3 by rw [← hP3]; exact B2.out.trans (cell_under q2 pb _ _))
  have Rv3 := Lib.hid (show Row strE P3 P1.heap.size 9 (.slice va (pathL (hashL l) (n - 1)).length vc) (pathL (hashL l) (n - 1)) from by rw [← hP3]; exact Rv2.out.past Zv.out (fun k h => set_ne _ h))
  go_upto_region 13 with fail
  try rw [hP3]
  clear hP3 c7 f7
  obtain ⟨z0, z1, z2, z3, z4, z5, z6, z7⟩ := blk8 K3.out
  have KR := Lib.hid (blk_on (hpb ▸ B3.out) H5.out.2.2.1)
  obtain ⟨WR, hWR⟩ : ∃ W, P3.setRow w.heap.size #[.bool false, .int .i64 (n : Nat), .int .i64 0, .string ⟨#[]⟩, .int .i64 yl, .string ys, .slice none 0 0, .slice va (pathL (hashL l) (n - 1)).length vc] = W := ⟨_, rfl⟩
  have KE := Lib.hid (show WR.heap[w.heap.size]? = some (.cells #[.bool false, .int .i64 (n : Nat), .int .i64 0, .string ⟨#[]⟩, .int .i64 yl, .string ys, .slice none 0 0, .slice va (pathL (hashL l) (n - 1)).length vc] 29 (0, 0)) by rw [← hWR]; exact setRow_heap P3 _ _ _ _ _ KR.out)
  have BE := Lib.hid (show Below w.heap.size w WR by rw [← hWR]; exact (H5.out.1.trans ((hpb ▸ B3.out : Below v4.heap.size v4 P3).mono H5.out.1.size)).trans (row_under P3 _ _))
  have hlw := H5.out.1.size
  have REv := Lib.hid (show Rd strE WR (.slice va (pathL (hashL l) (n - 1)).length vc) (pathL (hashL l) (n - 1)) by rw [← hWR]; exact (Rv3.out.past (b := w.heap.size) (by have := Zv.out; omega) (fun k h => setRow_other _ _ k _ h)).rd)
  clear hlw
  go_wp2_with (refine wpList_store_blk rfl 29 (.tmp 4) (.tmp 68) rfl w.heap.size 0 8 rfl #[.bool false, .int .i64 0, .int .i64 0, .string ⟨#[]⟩, .int .i64 0, .string ⟨#[]⟩, .slice none 0 0, .slice none 0 0] #[.bool false, .int .i64 (n : Nat), .int .i64 0, .string ⟨#[]⟩, .int .i64 yl, .string ys, .slice none 0 0, .slice va (pathL (hashL l) (n - 1)).length vc] #[.bool false, .int .i64 (n : Nat), .int .i64 0, .string ⟨#[]⟩, .int .i64 yl, .string ys, .slice none 0 0, .slice va (pathL (hashL l) (n - 1)).length vc] rfl 29 KR.out rfl (Nat.le_refl 8) (by kernel_rfl) (prf_one _ _ _ _ _ _ _ _ _ _ _ _) (splice_all _ _ rfl) ?_; rw [hWR])
  clear hWR z0 z1 z2 z3 z4 z5 z6 z7
  obtain ⟨z0, z1, z2, z3, z4, z5, z6, z7⟩ := blk8 KE.out
  refine bodyPost_ret (v := .tuple #[.agg #[.bool false, .int .i64 (n : Nat), .int .i64 0, .string ⟨#[]⟩, .int .i64 yl, .string ys, .slice none 0 0, .slice va (pathL (hashL l) (n - 1)).length vc], .int .i64 0]) (by simp [results, Try.results11, go_sem, z0, z1, z2, z3, z4, z5, z6, z7]) rfl ?_
  exact HR.out _ _ ⟨.slice none 0 0, .slice va (pathL (hashL l) (n - 1)).length vc, by rw [HV.out]; try rfl, by rw [HV.out]; exact Rd.nil _, by rw [HV.out]; exact REv.out, BE.out⟩
theorem prove_yes (lv : Value) (l : List LeafT) (lba : Int) (w : World) (hl : Rd leafE w lv l) (hlen : l.length ≤ 1000000) (hr : rightB l = true) (hlb : 0 ≤ lba ∧ lba < 4096) :
    Calls Try.prog 11 #[lv, .int .i64 lba] w fun e w' => ∃ u v, e = .returned (.tuple #[prfV (proveP l lba) u v, .int .i64 0]) ∧ Rd strE w' u (proveP l lba).up ∧ Rd strE w' v (proveP l lba).left ∧ Below w.heap.size w w' := by
  obtain ⟨n, hn⟩ : ∃ n, aheadN lba l = n := ⟨_, rfl⟩
  have hle : n ≤ l.length := by rw [← hn]; exact ahead_le lba l
  by_cases h1 : n < l.length
  · have hx : l[n]? = some l[n] := List.getElem?_eq_getElem h1
    cases hm : metP l lba
    · by_cases h0 : 0 < n
      · exact prove_mid lv l lba w hl hlen hr hlb n hn hm h1 _ hx h0 (by omega) _ (List.getElem?_eq_getElem (show n - 1 < l.length by omega))
      · exact prove_low lv l lba w hl hlen hr hlb n hn hm h1 _ hx (by omega)
    · exact prove_met lv l lba w hl hlen hr hlb n hn hm h1 _ hx
  · have hm : metP l lba = false := by unfold metP; rw [hn, List.getElem?_eq_none (by omega)]
    by_cases h0 : 0 < n
    · exact prove_top lv l lba w hl hlen hr hlb n hn hm (by omega) h0 (by omega) _ (List.getElem?_eq_getElem (show n - 1 < l.length by omega))
    · exact prove_nil lv l lba w hl hlen hr hlb n hn hm (by omega) (by omega)
end Go.Proofs.Ytelmcoedmkhkjaa
/- The chapter's example: between two leaves. -/
namespace Ks
open Go
theorem alive16 (h : ByteArray) (hz : h.size = 32) : rightB [(3, h), (7, h)] = true ∧ ∃ U L, proveP [(3, h), (7, h)] 5 = ⟨false, 1, (7, h), (3, h), U, L⟩ := by
  refine ⟨(rightB_spec _).2 ⟨?_, ?_⟩, _, _, rfl⟩
  · intro x hx
    simp only [List.mem_cons, List.not_mem_nil, or_false] at hx
    rcases hx with rfl | rfl
    · exact ⟨(by show (0 : Int) ≤ 3; decide), (by show (3 : Int) < 4096; decide), hz⟩
    · exact ⟨(by show (0 : Int) ≤ 7; decide), (by show (7 : Int) < 4096; decide), hz⟩
  · simp
end Ks
namespace Go.Proofs.Ytelmcoedmkhkjaa
open Go.RowKit Ks
set_option linter.unusedVariables false
set_option maxRecDepth 100000 in
set_option maxHeartbeats 4000000 in
theorem alive_any (w : World) : Calls Try.prog 7 #[] w fun e w' => e = .returned (.bool true) ∧ Below w.heap.size w w' := by
  refine calls_by fun R HR => ?_
  have HS := Lib.hid (fun T w => sum1_any ⟨#[104]⟩ T w (by decide))
  have hz := shaS_size (⟨#[104]⟩ : ByteArray).data.toList
  generalize shaS (⟨#[104]⟩ : ByteArray).data.toList = h at *
  obtain ⟨hr, U, L, hp⟩ := alive16 h hz
  have HP := Lib.hid (fun v w q => prove_yes v [(3, h), (7, h)] 5 w q (by show 2 ≤ 1000000; decide) hr ⟨by decide, by decide⟩)
  rw [hp] at HP
  clear hr hp hz
  have H1 := Lib.hid (Below.refl w.heap.size w)
  go_enter Try.func7, Try.ntmps7
  go_wp2_with fail
  refine (HS.out _ _).mono ?_
  rintro en v1 ⟨rfl, hb⟩
  have H2 := Lib.hid (H1.out.trans (hb.mono H1.out.size))
  clear hb
  obtain ⟨W1, hW1⟩ : ∃ W1, v1.alloc (.cells #[.int .i64 3, .string h, .int .i64 7, .string h] 25) = W1 := ⟨_, rfl⟩
  have hbW1 : Below v1.heap.size v1 W1 := by rw [← hW1]; exact alloc_below v1 _
  have kW1 : W1.heap[v1.heap.size]? = some (.cells #[.int .i64 3, .string h, .int .i64 7, .string h] 25 (0, 0)) := by rw [← hW1]; exact alloc_new v1 _
  have H3 := Lib.hid (And.intro (H2.out.trans (hbW1.mono H2.out.size)) (kW1))
  clear hbW1 kW1
  have H4 := Lib.hid (And.intro H3.out.1 (And.intro H3.out.2 (Rd.block (E := leafE) (l := [((3 : Int), h), (7, h)]) H3.out.2 rfl)))
  go_wp2_with fail
  refine (HP.out _ _ H4.out.2.2).mono ?_
  rintro en v2 ⟨ov, oz, rfl, hou, hol, hb⟩
  obtain ⟨oa, oc, rfl, -⟩ := hou.shape
  obtain ⟨za, zc, rfl, -⟩ := hol.shape
  have H5 := Lib.hid (H4.out.1.trans (hb.mono H4.out.1.size))
  clear hb
  clear hou hol hW1
  obtain ⟨WO, hWO⟩ : ∃ WO, v2.alloc (.cells #[.bool false, .int .i64 1, .int .i64 7, .string h, .int .i64 3, .string h, .slice oa U.length oc, .slice za L.length zc] 29) = WO := ⟨_, rfl⟩
  have hbWO : Below v2.heap.size v2 WO := by rw [← hWO]; exact alloc_below v2 _
  have kWO : WO.heap[v2.heap.size]? = some (.cells #[.bool false, .int .i64 1, .int .i64 7, .string h, .int .i64 3, .string h, .slice oa U.length oc, .slice za L.length zc] 29 (0, 0)) := by rw [← hWO]; exact alloc_new v2 _
  have EWO := Lib.hid hWO
  have H6 := Lib.hid (And.intro (H5.out.trans (hbWO.mono H5.out.size)) (kWO))
  clear hbWO kWO hWO
  go_upto_region 3 with fail
  try rw [EWO.out]
  clear EWO
  obtain ⟨o0, o1, o2, o3, o4, o5, o6, o7⟩ := blk8 H6.out.2
  go_wp2
  exact HR.out _ _ ⟨by try rfl, H6.out.1⟩
end Go.Proofs.Ytelmcoedmkhkjaa
/- The reference's Bytes: of how many bytes texts are (of the first 2000, at most 100000 each). -/
namespace Ks
open Go Go.RowKit
set_option linter.unusedVariables false
def bytesN (l : List ByteArray) : Nat := ((l.take 2000).map fun s => min s.size 100000).sum
theorem bytesN_join (l : List ByteArray) (h : l.length ≤ 2000) (hb : bytesN l < 100000) : (joinL l).length = bytesN l := by
  rw [bytesN, List.take_of_length_le h] at hb ⊢
  clear h
  induction l with
  | nil => rfl
  | cons s l ih =>
    simp only [List.map_cons, List.sum_cons] at hb ⊢
    have := ih (by omega)
    rw [← this, joinL, List.flatMap_cons, List.length_append, data_length]
    have : min s.size 100000 = s.size := by omega
    rw [this]; rfl
theorem bytesN_take (l : List ByteArray) (k : Nat) (h : k < l.length) (h2 : k < 2000) : ((l.take (k + 1)).map fun s => min s.size 100000).sum = ((l.take k).map fun s => min s.size 100000).sum + min l[k].size 100000 := by
  rw [List.take_succ_eq_append_getElem h, List.map_append, List.sum_append]; simp
end Ks
namespace Go.Proofs.Ytelmcoedmkhkjaa
open Go.RowKit Ks
set_option linter.unusedVariables false
set_option maxHeartbeats 1000000 in
theorem bytes_any (l : List ByteArray) (v : Value) (w : World) (hv : Rd strE w v l) : Calls Try.prog 23 #[v] w fun e w' => e = .returned (.int .i64 (bytesN l : Nat)) ∧ w' = w := by
  refine calls_by fun R HR => ?_
  obtain ⟨a, cap, rfl, _, _⟩ := hv.shape
  have HV := Lib.hid hv
  clear hv
  go_enter Try.func23, Try.ntmps23
  go_wp2
  go_loop [4, 3] (fun i x => ∃ (k n : Nat), k ≤ l.length ∧ k ≤ 2000 ∧ n ≤ 100000 * k ∧ i = .int .i64 k ∧ x = .int .i64 n ∧ Hid (n = ((l.take k).map fun s => min s.size 100000).sum)) (fun i _ => 2000 - (intOf i).toNat)
  case atStart => exact ⟨0, 0, by omega, by omega, by omega, rfl, rfl, Lib.hid rfl⟩
  case round =>
    obtain ⟨k, n, hk, hk2, hnb, rfl, rfl, hn⟩ := hrel
    have hend : Hid (k = l.length ∨ k = 2000 → n = bytesN l) := Lib.hid fun h => by
      rw [hn.out, bytesN]
      rcases h with h | h
      · rw [h, List.take_of_length_le (Nat.le_refl _), List.take_of_length_le (by omega)]
      · rw [h]
    have hni : (n : Int) ≤ 200000000 := by omega
    have HNB := Lib.hid (And.intro hk2 hnb)
    by_cases hlt : k < l.length
    · by_cases h2 : k < 2000
      · obtain ⟨b, o, rfl, _, hc⟩ := HV.out.str k hlt
        have HS := Lib.hid (bytesN_take l k hlt h2)
        generalize l[k] = s at *
        have h2i : (k : Int) < 2000 := by omega
        have H2 := Lib.hid h2
        clear hk2 hnb h2 hend
        by_cases hs : s.size < 100000
        · have hsi : (s.size : Int) < 100000 := by omega
          have HM := Lib.hid (show min s.size 100000 = s.size by omega)
          clear hs
          go_wp2
          all_goals
            go_round
            case rel => exact ⟨k + 1, n + s.size, by omega, by have := H2.out; omega, by have := HNB.out.2; omega, by go_num, by go_num, Lib.hid (by rw [HS.out, ← hn.out, HM.out])⟩
            case measure => simp [intOf]; have := H2.out; omega
        · have hsi : ¬ (s.size : Int) < 100000 := by omega
          have HM := Lib.hid (show min s.size 100000 = 100000 by omega)
          clear hs
          go_wp2
          all_goals
            go_round
            case rel => exact ⟨k + 1, n + 100000, by omega, by have := H2.out; omega, by have := HNB.out.2; omega, by go_num, by go_num, Lib.hid (by rw [HS.out, ← hn.out, HM.out])⟩
            case measure => simp [intOf]; have := H2.out; omega
      · have hv := Lib.hid (hend.out (Or.inr (by omega)))
        have h2i : ¬ (k : Int) < 2000 := by omega
        clear hend hk2 hnb h2
        go_wp2
        exact HR.out _ _ ⟨by rw [hv.out], rfl⟩
    · have hv := Lib.hid (hend.out (Or.inl (by omega)))
      clear hend hk2 hnb
      go_wp2
      exact HR.out _ _ ⟨by rw [hv.out], rfl⟩
end Go.Proofs.Ytelmcoedmkhkjaa
/- So few leaves, so short a proof. -/
namespace Go.Proofs.Ytelmcoedmkhkjaa
open Go.RowKit Ks
set_option linter.unusedVariables false
theorem drewn_low (w : World) (n : Nat) : Below w.heap.size w (w.drewN n) := ⟨rfl, rfl, rfl, Nat.le_refl _, fun _ _ => rfl⟩
theorem drewn_on16 {w w1 : World} {n : Nat} (h : Below w.heap.size w w1) : Below w.heap.size w (w1.drewN n) := h.trans ((drewn_low w1 n).mono h.size)
def fewQ (l : List LeafT) (p : PrfD) : Prop := l.length ≤ 60 ∧ p.up.length ≤ 30 ∧ p.left.length ≤ 30
set_option maxRecDepth 100000 in
set_option maxHeartbeats 4000000 in
theorem pfew_any (lv : Value) (l : List LeafT) (p : PrfD) (u v : Value) (w : World) (hl : Rd leafE w lv l) (hu : Rd strE w u p.up) (hv : Rd strE w v p.left) :
    Calls Try.prog 6 #[lv, prfV p u v] w fun e w' => ∃ b : Bool, e = .returned (.bool b) ∧ (b = true → fewQ l p) ∧ Below w.heap.size w w' := by
  refine calls_by fun R HR => ?_
  have HD := Lib.hid (And.intro hl (And.intro hu hv))
  obtain ⟨fd, at9, ⟨hn, hs⟩, ⟨an, as9⟩, up, left⟩ := p
  obtain ⟨ua, uc, rfl, -⟩ := hu.shape
  obtain ⟨la, lc, rfl, -⟩ := hv.shape
  dsimp only [prfV, prfC]
  obtain ⟨a, cap, rfl, -⟩ := hl.shape
  clear hl hu hv
  have H1 := Lib.hid (And.intro (Below.refl w.heap.size w) (And.intro (HD.out.1) (And.intro (HD.out.2.1) (HD.out.2.2))))
  obtain ⟨W1, hW1⟩ : ∃ W1, w.alloc (.cells #[.bool fd, .int .i64 at9, .int .i64 hn, .string hs, .int .i64 an, .string as9, .slice ua up.length uc, .slice la left.length lc] 29) = W1 := ⟨_, rfl⟩
  have hbW1 : Below w.heap.size w W1 := by rw [← hW1]; exact alloc_below w _
  have kW1 : W1.heap[w.heap.size]? = some (.cells #[.bool fd, .int .i64 at9, .int .i64 hn, .string hs, .int .i64 an, .string as9, .slice ua up.length uc, .slice la left.length lc] 29 (0, 0)) := by rw [← hW1]; exact alloc_new w _
  have H2 := Lib.hid (And.intro (H1.out.1.trans (hbW1.mono H1.out.1.size)) (And.intro (H1.out.2.1.below hbW1) (And.intro (H1.out.2.2.1.below hbW1) (And.intro (H1.out.2.2.2.below hbW1) (kW1)))))
  clear hbW1 kW1
  obtain ⟨z0, z1, z2, z3, z4, z5, z6, z7⟩ := blk8 H2.out.2.2.2.2
  have HU := Lib.hid (fun p => calls_after_same (p := p) ((bytes_any up (.slice ua up.length uc) (After W1 p) (H2.out.2.2.1.below (after_below W1 p))).mono fun _ _ h => ⟨h.1, h.2.symm⟩))
  have HV := Lib.hid (fun p => calls_after_same (p := p) ((bytes_any left (.slice la left.length lc) (After W1 p) (H2.out.2.2.2.1.below (after_below W1 p))).mono fun _ _ h => ⟨h.1, h.2.symm⟩))
  go_enter Try.func6, Try.ntmps6
  go_wp2_with fail
  clear hW1
  go_loopw [5, 6] (fun n i wx => ∃ (k : Nat) (m : Int), k ≤ l.length ∧ n = .int .i64 m ∧ i = .int .i64 k ∧ wx = W1) (fun _ i _ => l.length - (intOf i).toNat)
  case atStart => exact ⟨0, 0, Nat.zero_le _, rfl, rfl, rfl⟩
  case round =>
    obtain ⟨k, m, hk, rfl, rfl, hwr⟩ := hrel
    subst hwr
    by_cases hlt : k < l.length
    · have hki : (k : Int) < (l.length : Int) := by omega
      by_cases h2 : k < 100
      · have h2i : (k : Int) < 100 := by omega
        obtain ⟨x, hx⟩ : ∃ x, l[k]? = some x := ⟨_, List.getElem?_eq_getElem hlt⟩
        obtain ⟨b, o, ha, hb0, dd⟩ := (H2.out.2.1).at k x hx
        subst ha
        obtain ⟨n, s⟩ := x
        have d1 : wr.cell? ⟨b, o + k * 2 + 1, none⟩ = some (.string s) := dd 1 _ rfl
        clear dd hx hb0
        by_cases hs9 : s.size < 10000
        · have hsi : (s.size : Int) < 10000 := by omega
          go_wp2
          all_goals
            go_roundw
            case rel => exact ⟨k + 1, _, by omega, rfl, by go_num, trivial⟩
            case measure => simp [intOf]; omega
        · have hsi : ¬ (s.size : Int) < 10000 := by omega
          go_wp2
          all_goals
            go_roundw
            case rel => exact ⟨k + 1, _, by omega, rfl, by go_num, trivial⟩
            case measure => simp [intOf]; omega
      · have h2i : ¬ (k : Int) < 100 := by omega
        have h60i : ¬ (l.length : Int) ≤ 60 := by omega
        have h60d : decide ((l.length : Int) ≤ 60) = false := decide_eq_false h60i
        have h60e : decide (l.length ≤ 60) = false := decide_eq_false (by omega)
        go_wp2_with fail
        go_quiet (fail)
        go_wp2
        exact HR.out _ _ ⟨false, rfl, (fun h => by cases h), drewn_on16 H2.out.1⟩
    · obtain rfl : k = l.length := by omega
      have hki : ¬ (l.length : Int) < (l.length : Int) := by omega
      by_cases h60 : l.length ≤ 60
      · have h60i : (l.length : Int) ≤ 60 := by omega
        by_cases h30 : up.length ≤ 30
        · have h30i : (up.length : Int) ≤ 30 := by omega
          by_cases h31 : left.length ≤ 30
          · have h31i : (left.length : Int) ≤ 30 := by omega
            have r3 := fun p => after_cell z3 p
            have r5 := fun p => after_cell z5 p
            have r6 := fun p => after_cell z6 p
            have r7 := fun p => after_cell z7 p
            by_cases hm1 : hs.size < 10000
            all_goals by_cases hm2 : as9.size < 10000
            · have hm1i : (hs.size : Int) < 10000 := by omega
              have hm2i : (as9.size : Int) < 10000 := by omega
              go_wp2_with fail
              refine wp_region_after (by kernel_rfl) (by kernel_rfl) ?_
              repeat (go_big_quiet_step (fail))
              go_big_quiet_step (exact HU.out _)
              repeat (go_big_quiet_step (fail))
              go_big_quiet_step (exact HV.out _)
              repeat (go_big_quiet_step (fail))
              refine wpQuiet_nil ?_
              rintro w5 ⟨q, rfl⟩
              have hb5 := after_below wr q
              have H5 := Lib.hid (H2.out.1.trans (hb5.mono H2.out.1.size))
              generalize After wr q = w5 at *
              clear hb5
              go_wp2
              exact HR.out _ _ ⟨_, rfl, fun _ => ⟨h60, h30, h31⟩, H5.out⟩
            · have hm1i : (hs.size : Int) < 10000 := by omega
              have hm2i : ¬ (as9.size : Int) < 10000 := by omega
              go_wp2_with fail
              refine wp_region_after (by kernel_rfl) (by kernel_rfl) ?_
              repeat (go_big_quiet_step (fail))
              go_big_quiet_step (exact HU.out _)
              repeat (go_big_quiet_step (fail))
              go_big_quiet_step (exact HV.out _)
              repeat (go_big_quiet_step (fail))
              refine wpQuiet_nil ?_
              rintro w5 ⟨q, rfl⟩
              have hb5 := after_below wr q
              have H5 := Lib.hid (H2.out.1.trans (hb5.mono H2.out.1.size))
              generalize After wr q = w5 at *
              clear hb5
              go_wp2
              exact HR.out _ _ ⟨_, rfl, fun _ => ⟨h60, h30, h31⟩, H5.out⟩
            · have hm1i : ¬ (hs.size : Int) < 10000 := by omega
              have hm2i : (as9.size : Int) < 10000 := by omega
              go_wp2_with fail
              refine wp_region_after (by kernel_rfl) (by kernel_rfl) ?_
              repeat (go_big_quiet_step (fail))
              go_big_quiet_step (exact HU.out _)
              repeat (go_big_quiet_step (fail))
              go_big_quiet_step (exact HV.out _)
              repeat (go_big_quiet_step (fail))
              refine wpQuiet_nil ?_
              rintro w5 ⟨q, rfl⟩
              have hb5 := after_below wr q
              have H5 := Lib.hid (H2.out.1.trans (hb5.mono H2.out.1.size))
              generalize After wr q = w5 at *
              clear hb5
              go_wp2
              exact HR.out _ _ ⟨_, rfl, fun _ => ⟨h60, h30, h31⟩, H5.out⟩
            · have hm1i : ¬ (hs.size : Int) < 10000 := by omega
              have hm2i : ¬ (as9.size : Int) < 10000 := by omega
              go_wp2_with fail
              refine wp_region_after (by kernel_rfl) (by kernel_rfl) ?_
              repeat (go_big_quiet_step (fail))
              go_big_quiet_step (exact HU.out _)
              repeat (go_big_quiet_step (fail))
              go_big_quiet_step (exact HV.out _)
              repeat (go_big_quiet_step (fail))
              refine wpQuiet_nil ?_
              rintro w5 ⟨q, rfl⟩
              have hb5 := after_below wr q
              have H5 := Lib.hid (H2.out.1.trans (hb5.mono H2.out.1.size))
              generalize After wr q = w5 at *
              clear hb5
              go_wp2
              exact HR.out _ _ ⟨_, rfl, fun _ => ⟨h60, h30, h31⟩, H5.out⟩
          · have h31i : ¬ (left.length : Int) ≤ 30 := by omega
            have h31d : decide ((left.length : Int) ≤ 30) = false := decide_eq_false h31i
            have h31e : decide (left.length ≤ 30) = false := decide_eq_false h31
            go_wp2_with fail
            go_quiet (fail)
            go_wp2
            exact HR.out _ _ ⟨false, rfl, (fun h => by cases h), drewn_on16 H2.out.1⟩
        · have h30i : ¬ (up.length : Int) ≤ 30 := by omega
          have h30d : decide ((up.length : Int) ≤ 30) = false := decide_eq_false h30i
          have h30e : decide (up.length ≤ 30) = false := decide_eq_false h30
          go_wp2_with fail
          go_quiet (fail)
          go_wp2
          exact HR.out _ _ ⟨false, rfl, (fun h => by cases h), drewn_on16 H2.out.1⟩
      · have h60i : ¬ (l.length : Int) ≤ 60 := by omega
        have h60d : decide ((l.length : Int) ≤ 60) = false := decide_eq_false h60i
        have h60e : decide (l.length ≤ 60) = false := decide_eq_false h60
        go_wp2_with fail
        go_quiet (fail)
        go_wp2
        exact HR.out _ _ ⟨false, rfl, (fun h => by cases h), drewn_on16 H2.out.1⟩
end Go.Proofs.Ytelmcoedmkhkjaa
/- What a proof tells: of the program. -/
namespace Ks
open Go Go.RowKit
theorem nil_text {s : ByteArray} (h : s ≠ ⟨#[]⟩) : (s.toList == []) = false := by
  have := text_ne h
  rwa [show (ByteArray.mk #[]).toList = [] by rw [ByteArray.toList_eq]] at this
end Ks
namespace Go.Proofs.Ytelmcoedmkhkjaa
open Go.RowKit Ks
set_option linter.unusedVariables false
theorem eg_said : ∀ args w, (callFunc 12 args).run Try.prog w = .ok (.enter 12 args) w := fun _ _ => rfl
theorem eg_hash : ∀ args w, (callFunc 53 args).run Try.prog w = .ok (.enter 53 args) w := fun _ _ => rfl
set_option maxRecDepth 100000 in
set_option maxHeartbeats 4000000 in
theorem empty_any (x : LeafT) (lv : Value) (l : List ByteArray) (w : World) (hl : Rd strE w lv l) :
    Calls Try.prog 55 #[leafV x, lv] w fun e w' => e = .returned (.bool (emptyB x l)) ∧ Below w.heap.size w w' := by
  refine calls_by fun R HR => ?_
  obtain ⟨a, cap, rfl, -⟩ := hl.shape
  obtain ⟨n, s⟩ := x
  clear hl
  have H1 := Lib.hid (Below.refl w.heap.size w)
  obtain ⟨W1, hW1⟩ : ∃ W1, w.alloc (.cells #[.int .i64 n, .string s] 25) = W1 := ⟨_, rfl⟩
  have hbW1 : Below w.heap.size w W1 := by rw [← hW1]; exact alloc_below w _
  have kW1 : W1.heap[w.heap.size]? = some (.cells #[.int .i64 n, .string s] 25 (0, 0)) := by rw [← hW1]; exact alloc_new w _
  have H2 := Lib.hid (And.intro (H1.out.trans (hbW1.mono H1.out.size)) (kW1))
  clear hbW1 kW1
  obtain ⟨z0, z1, fzx0, fzx1⟩ := blk2 H2.out.2
  by_cases h1 : n = 0
  · by_cases h2 : s = ⟨#[]⟩
    · by_cases h3 : l.length = 0
      · subst h1 h2
        have h4 : ((l.length : Int) == 0) = true := by rw [h3]; rfl
        have HZ := Lib.hid (show emptyB (0, ⟨#[]⟩) l = true from decide_eq_true ⟨rfl, h3⟩)
        go_enter Try.func55, Try.ntmps55
        go_wp2
        exact HR.out _ _ ⟨by rw [HZ.out]; try rfl, H2.out.1⟩
      · subst h1 h2
        have h4 : ((l.length : Int) == 0) = false := by simpa using h3
        have HZ := Lib.hid (show emptyB (0, ⟨#[]⟩) l = false from decide_eq_false fun h => h3 h.2)
        go_enter Try.func55, Try.ntmps55
        go_wp2
        exact HR.out _ _ ⟨by rw [HZ.out]; try rfl, H2.out.1⟩
    · have h4 := nil_text h2
      subst h1
      have HZ := Lib.hid (show emptyB (0, s) l = false from decide_eq_false fun h => h2 (congrArg Prod.snd h.1))
      go_enter Try.func55, Try.ntmps55
      go_wp2
      exact HR.out _ _ ⟨by rw [HZ.out]; try rfl, H2.out.1⟩
  · have h4 : (n == 0) = false := by simpa using h1
    have HZ := Lib.hid (show emptyB (n, s) l = false from decide_eq_false fun h => h1 (congrArg Prod.fst h.1))
    go_enter Try.func55, Try.ntmps55
    go_wp2
    exact HR.out _ _ ⟨by rw [HZ.out]; try rfl, H2.out.1⟩
set_option maxRecDepth 100000 in
set_option maxHeartbeats 4000000 in
theorem leads_any (root : ByteArray) (count i : Int) (x : LeafT) (pv : Value) (ps : List ByteArray) (w : World) (hp : Rd strE w pv ps) (hpn : ps.length ≤ 100000000) :
    Calls Try.prog 56 #[.agg #[.string root, .int .i64 count], .int .i64 i, leafV x, pv] w fun e w' => e = .returned (.bool (leadsB root count i x ps)) ∧ Below w.heap.size w w' := by
  refine calls_by fun R HR => ?_
  obtain ⟨a, cap, rfl, -⟩ := hp.shape
  have HP := Lib.hid hp
  have HS := Lib.hid (fun w => said_any x w)
  have HH := Lib.hid (fun w => hash_any x w)
  have HC := Lib.hid (fun w (h : Rd strE w (.slice a ps.length cap) ps) => check_any root count i (hashS x) ps _ w hpn h)
  have HM := Lib.hid (@said_ne x)
  have HL := Lib.hid (show leadsB root count i x ps = (decide (mayLeaf x) && isV root count i (hashS x) ps) from rfl)
  generalize hashS x = hx at *
  generalize saidS x = sx at *
  generalize isV root count i hx ps = V at *
  obtain ⟨n, s⟩ := x
  clear hp
  have H1 := Lib.hid (And.intro (Below.refl w.heap.size w) (HP.out))
  obtain ⟨W1, hW1⟩ : ∃ W1, w.alloc (.cells #[.string root, .int .i64 count] 73) = W1 := ⟨_, rfl⟩
  have hbW1 : Below w.heap.size w W1 := by rw [← hW1]; exact alloc_below w _
  have kW1 : W1.heap[w.heap.size]? = some (.cells #[.string root, .int .i64 count] 73 (0, 0)) := by rw [← hW1]; exact alloc_new w _
  have H2 := Lib.hid (And.intro (H1.out.1.trans (hbW1.mono H1.out.1.size)) (And.intro (H1.out.2.below hbW1) (kW1)))
  clear hbW1 kW1
  obtain ⟨W2, hW2⟩ : ∃ W2, W1.alloc (.cells #[.int .i64 n, .string s] 25) = W2 := ⟨_, rfl⟩
  have hbW2 : Below W1.heap.size W1 W2 := by rw [← hW2]; exact alloc_below W1 _
  have kW2 : W2.heap[W1.heap.size]? = some (.cells #[.int .i64 n, .string s] 25 (0, 0)) := by rw [← hW2]; exact alloc_new W1 _
  have H3 := Lib.hid (And.intro (H2.out.1.trans (hbW2.mono H2.out.1.size)) (And.intro (H2.out.2.1.below hbW2) (And.intro (blk_on hbW2 H2.out.2.2) (kW2))))
  clear hbW2 kW2
  obtain ⟨y0, y1, fzc0, fzc1⟩ := blk2 H3.out.2.2.1
  obtain ⟨z0, z1, fzx0, fzx1⟩ := blk2 H3.out.2.2.2
  have r0 := fun p => after_cell y0 p
  have r1 := fun p => after_cell y1 p
  have s0 := fun p => after_cell z0 p
  have s1 := fun p => after_cell z1 p
  have cS := Lib.hid (fun p => calls_after (p := p) (HS.out (After W2 p)))
  have cH := Lib.hid (fun p => calls_after (p := p) (HH.out (After W2 p)))
  have cC := Lib.hid (fun p => calls_after (p := p) (HC.out (After W2 p) (H3.out.2.1.below (after_below W2 p))))
  by_cases hm : mayLeaf (n, s)
  · have hn := not_blank (HM.out.2 hm)
    have HD := Lib.hid (show decide (mayLeaf (n, s)) = true from decide_eq_true hm)
    clear hm
    go_enter Try.func56, Try.ntmps56
    go_wp2_with fail
    refine wp_region_after (by kernel_rfl) (by kernel_rfl) ?_
    repeat (go_big_quiet_step (fail))
    go_big_quiet_step (exact cS.out _)
    repeat (go_big_quiet_step (fail))
    go_big_quiet_step (exact cH.out _)
    repeat (go_big_quiet_step (fail))
    go_big_quiet_step (exact cC.out _)
    repeat (go_big_quiet_step (fail))
    refine wpQuiet_nil ?_
    rintro w5 ⟨q, rfl⟩
    have hb5 := after_below W2 q
    have H9 := Lib.hid (H3.out.1.trans (hb5.mono H3.out.1.size))
    generalize After W2 q = w5 at *
    clear hb5 cS cH cC r0 r1 s0 s1 y0 y1 z0 z1 hW1 hW2
    go_wp2
    exact HR.out _ _ ⟨by rw [HL.out, HD.out, Bool.true_and]; try rfl, H9.out⟩
  · have hsx : sx = ⟨#[]⟩ := Classical.byContradiction fun h => hm (HM.out.1 h)
    have HD := Lib.hid (show decide (mayLeaf (n, s)) = false from decide_eq_false hm)
    subst hsx
    clear hm
    go_enter Try.func56, Try.ntmps56
    go_wp2_with fail
    refine wp_region_after (by kernel_rfl) (by kernel_rfl) ?_
    repeat (go_big_quiet_step (fail))
    go_big_quiet_step (exact cS.out _)
    repeat (go_big_quiet_step (fail))
    refine wpQuiet_nil ?_
    rintro w5 ⟨q, rfl⟩
    have hb5 := after_below W2 q
    have H9 := Lib.hid (H3.out.1.trans (hb5.mono H3.out.1.size))
    generalize After W2 q = w5 at *
    clear hb5 cS cH cC r0 r1 s0 s1 y0 y1 z0 z1 hW1 hW2
    go_wp2
    exact HR.out _ _ ⟨by rw [HL.out, HD.out, Bool.false_and]; try rfl, H9.out⟩
end Go.Proofs.Ytelmcoedmkhkjaa
/- What a proof tells of a leaf: of the program. -/
namespace Go.Proofs.Ytelmcoedmkhkjaa
open Go.RowKit Ks
set_option linter.unusedVariables false
set_option maxRecDepth 100000 in
set_option maxHeartbeats 4000000 in
theorem found_any (root : ByteArray) (count lba : Int) (p : PrfD) (u v : Value) (w : World) (hu : Rd strE w u p.up) (hv : Rd strE w v p.left) (hun : p.up.length ≤ 100000000) (hvn : p.left.length ≤ 100000000) :
    Calls Try.prog 38 #[.agg #[.string root, .int .i64 count], .int .i64 lba, prfV p u v] w fun e w' => e = .returned (.bool (foundB root count lba p)) ∧ Below w.heap.size w w' := by
  refine calls_by fun R HR => ?_
  obtain ⟨fd, at9, ⟨hn, hs⟩, ⟨an, as9⟩, up, left⟩ := p
  obtain ⟨ua, uc, rfl, -⟩ := hu.shape
  obtain ⟨la, lc, rfl, -⟩ := hv.shape
  dsimp only [prfV, prfC]
  have HU := Lib.hid hu
  have HV := Lib.hid hv
  have HE := Lib.hid (fun w (h : Rd strE w (.slice la left.length lc) left) => empty_any (an, as9) _ left w h)
  have HL := Lib.hid (fun w (h : Rd strE w (.slice ua up.length uc) up) => leads_any root count at9 (hn, hs) _ up w h hun)
  have HF := Lib.hid (show foundB root count lba ⟨fd, at9, (hn, hs), (an, as9), up, left⟩ = (decide (at9 < count ∧ hn = lba) && emptyB (an, as9) left && leadsB root count at9 (hn, hs) up) from rfl)
  generalize emptyB (an, as9) left = EB at *
  generalize leadsB root count at9 (hn, hs) up = LB at *
  clear hu hv hun hvn
  have H1 := Lib.hid (And.intro (Below.refl w.heap.size w) (And.intro (HU.out) (HV.out)))
  obtain ⟨W1, hW1⟩ : ∃ W1, w.alloc (.cells #[.string root, .int .i64 count] 73) = W1 := ⟨_, rfl⟩
  have hbW1 : Below w.heap.size w W1 := by rw [← hW1]; exact alloc_below w _
  have kW1 : W1.heap[w.heap.size]? = some (.cells #[.string root, .int .i64 count] 73 (0, 0)) := by rw [← hW1]; exact alloc_new w _
  have H2 := Lib.hid (And.intro (H1.out.1.trans (hbW1.mono H1.out.1.size)) (And.intro (H1.out.2.1.below hbW1) (And.intro (H1.out.2.2.below hbW1) (kW1))))
  clear hbW1 kW1
  obtain ⟨W2, hW2⟩ : ∃ W2, W1.alloc (.cells #[.bool fd, .int .i64 at9, .int .i64 hn, .string hs, .int .i64 an, .string as9, .slice ua up.length uc, .slice la left.length lc] 29) = W2 := ⟨_, rfl⟩
  have hbW2 : Below W1.heap.size W1 W2 := by rw [← hW2]; exact alloc_below W1 _
  have kW2 : W2.heap[W1.heap.size]? = some (.cells #[.bool fd, .int .i64 at9, .int .i64 hn, .string hs, .int .i64 an, .string as9, .slice ua up.length uc, .slice la left.length lc] 29 (0, 0)) := by rw [← hW2]; exact alloc_new W1 _
  have H3 := Lib.hid (And.intro (H2.out.1.trans (hbW2.mono H2.out.1.size)) (And.intro (H2.out.2.1.below hbW2) (And.intro (H2.out.2.2.1.below hbW2) (And.intro (blk_on hbW2 H2.out.2.2.2) (kW2)))))
  clear hbW2 kW2
  obtain ⟨y0, y1, fzc0, fzc1⟩ := blk2 H3.out.2.2.2.1
  obtain ⟨z0, z1, z2, z3, z4, z5, z6, z7⟩ := blk8 H3.out.2.2.2.2
  by_cases h1 : at9 < count
  · by_cases h2 : hn = lba
    · have HD := Lib.hid (show decide (at9 < count ∧ hn = lba) = true from decide_eq_true ⟨h1, h2⟩)
      subst h2
      cases EB with
      | false =>
        go_enter Try.func38, Try.ntmps38
        go_wp2_with fail
        refine (HE.out _ H3.out.2.2.1).mono ?_
        rintro en v1 ⟨rfl, hb⟩
        clear hW1 hW2
        have H4 := Lib.hid (And.intro (H3.out.1.trans (hb.mono H3.out.1.size)) (And.intro (H3.out.2.1.below hb) (And.intro (H3.out.2.2.1.below hb) (And.intro (blk_on hb H3.out.2.2.2.1) (blk_on hb H3.out.2.2.2.2)))))
        clear hb
        go_wp2
        exact HR.out _ _ ⟨by rw [HF.out, HD.out]; try rfl, H4.out.1⟩
      | true =>
        go_enter Try.func38, Try.ntmps38
        go_wp2_with fail
        refine (HE.out _ H3.out.2.2.1).mono ?_
        rintro en v1 ⟨rfl, hb⟩
        clear hW1 hW2
        have H4 := Lib.hid (And.intro (H3.out.1.trans (hb.mono H3.out.1.size)) (And.intro (H3.out.2.1.below hb) (And.intro (H3.out.2.2.1.below hb) (And.intro (blk_on hb H3.out.2.2.2.1) (blk_on hb H3.out.2.2.2.2)))))
        clear hb
        obtain ⟨y0, y1, fzc0, fzc1⟩ := blk2 H4.out.2.2.2.1
        obtain ⟨z0, z1, z2, z3, z4, z5, z6, z7⟩ := blk8 H4.out.2.2.2.2
        go_wp2_with fail
        refine (HL.out _ H4.out.2.1).mono ?_
        rintro en v2 ⟨rfl, hb⟩
        have H5 := Lib.hid (And.intro (H4.out.1.trans (hb.mono H4.out.1.size)) (And.intro (H4.out.2.1.below hb) (And.intro (H4.out.2.2.1.below hb) (And.intro (blk_on hb H4.out.2.2.2.1) (blk_on hb H4.out.2.2.2.2)))))
        clear hb
        go_wp2
        exact HR.out _ _ ⟨by rw [HF.out, HD.out]; try rfl, H5.out.1⟩
    · have HD := Lib.hid (show decide (at9 < count ∧ hn = lba) = false from decide_eq_false fun h => h2 h.2)
      have h4 : (hn == lba) = false := by simpa using h2
      go_enter Try.func38, Try.ntmps38
      go_wp2
      exact HR.out _ _ ⟨by rw [HF.out, HD.out]; try rfl, H3.out.1⟩
  · have HD := Lib.hid (show decide (at9 < count ∧ hn = lba) = false from decide_eq_false fun h => h1 h.1)
    go_enter Try.func38, Try.ntmps38
    go_wp2
    exact HR.out _ _ ⟨by rw [HF.out, HD.out]; try rfl, H3.out.1⟩
set_option maxRecDepth 100000 in
set_option maxHeartbeats 4000000 in
theorem beside_any (root : ByteArray) (count i : Int) (is may : Bool) (x : LeafT) (pv : Value) (ps : List ByteArray) (fb : Nat) (w : World) (hp : Rd strE w pv ps) (hpn : ps.length ≤ 100000000)
    (hf : w.heap[fb]? = some (.cells #[.func (.func 56) #[.agg #[.string root, .int .i64 count]] #[]] 101 (0, 0))) :
    Calls Try.prog 57 #[.bool is, .int .i64 i, leafV x, pv, .bool may, .pointer (some ⟨fb, 0, none⟩)] w fun e w' => e = .returned (.bool (besideB root count is i x ps may)) ∧ Below w.heap.size w w' := by
  refine calls_by fun R HR => ?_
  obtain ⟨a, cap, rfl, -⟩ := hp.shape
  have HP := Lib.hid hp
  have HE := Lib.hid (fun w (h : Rd strE w (.slice a ps.length cap) ps) => empty_any x _ ps w h)
  have HL := Lib.hid (fun w (h : Rd strE w (.slice a ps.length cap) ps) => leads_any root count i x _ ps w h hpn)
  have HB := Lib.hid (show besideB root count is i x ps may = if is then may && leadsB root count i x ps else emptyB x ps from rfl)
  generalize emptyB x ps = EB at *
  generalize leadsB root count i x ps = LB at *
  obtain ⟨n, s⟩ := x
  clear hp
  have H1 := Lib.hid (And.intro (Below.refl w.heap.size w) (And.intro (HP.out) (hf)))
  obtain ⟨W1, hW1⟩ : ∃ W1, w.alloc (.cells #[.int .i64 n, .string s] 25) = W1 := ⟨_, rfl⟩
  have hbW1 : Below w.heap.size w W1 := by rw [← hW1]; exact alloc_below w _
  have kW1 : W1.heap[w.heap.size]? = some (.cells #[.int .i64 n, .string s] 25 (0, 0)) := by rw [← hW1]; exact alloc_new w _
  have H2 := Lib.hid (And.intro (H1.out.1.trans (hbW1.mono H1.out.1.size)) (And.intro (H1.out.2.1.below hbW1) (And.intro (blk_on hbW1 H1.out.2.2) (kW1))))
  clear hbW1 kW1
  obtain ⟨z0, z1, fzx0, fzx1⟩ := blk2 H2.out.2.2.2
  obtain ⟨f0, ff0⟩ := blk1 H2.out.2.2.1
  clear hf
  cases is with
  | false =>
    go_enter Try.func57, Try.ntmps57
    go_wp2_with fail
    refine (HE.out _ H2.out.2.1).mono ?_
    rintro en v1 ⟨rfl, hb⟩
    clear hW1
    have H3 := Lib.hid (And.intro (H2.out.1.trans (hb.mono H2.out.1.size)) (And.intro (H2.out.2.1.below hb) (And.intro (blk_on hb H2.out.2.2.1) (blk_on hb H2.out.2.2.2))))
    clear hb
    go_wp2
    exact HR.out _ _ ⟨by rw [HB.out]; try rfl, H3.out.1⟩
  | true =>
    cases may with
    | false =>
      go_enter Try.func57, Try.ntmps57
      go_wp2
      exact HR.out _ _ ⟨by rw [HB.out]; try rfl, H2.out.1⟩
    | true =>
      go_enter Try.func57, Try.ntmps57
      go_wp2_with fail
      refine (HL.out _ H2.out.2.1).mono ?_
      rintro en v1 ⟨rfl, hb⟩
      clear hW1
      have H3 := Lib.hid (And.intro (H2.out.1.trans (hb.mono H2.out.1.size)) (And.intro (H2.out.2.1.below hb) (And.intro (blk_on hb H2.out.2.2.1) (blk_on hb H2.out.2.2.2))))
      clear hb
      go_wp2
      exact HR.out _ _ ⟨by rw [HB.out]; try rfl, H3.out.1⟩
end Go.Proofs.Ytelmcoedmkhkjaa
/- What a proof tells where there is no leaf: of the program. -/
namespace Go.Proofs.Ytelmcoedmkhkjaa
open Go.RowKit Ks
set_option linter.unusedVariables false
set_option maxRecDepth 100000 in
set_option maxHeartbeats 4000000 in
theorem none_any (root : ByteArray) (count lba : Int) (p : PrfD) (u v : Value) (w : World) (hu : Rd strE w u p.up) (hv : Rd strE w v p.left) (hun : p.up.length ≤ 100000000) (hvn : p.left.length ≤ 100000000) (h0 : 0 ≤ p.at_) (h1 : p.at_ ≤ count) (h2 : count ≤ 4096) :
    Calls Try.prog 39 #[.agg #[.string root, .int .i64 count], .int .i64 lba, prfV p u v] w fun e w' => e = .returned (.bool (noneB root count lba p)) ∧ Below w.heap.size w w' := by
  refine calls_by fun R HR => ?_
  obtain ⟨fd, at9, ⟨hn, hs⟩, ⟨an, as9⟩, up, left⟩ := p
  obtain ⟨ua, uc, rfl, -⟩ := hu.shape
  obtain ⟨la, lc, rfl, -⟩ := hv.shape
  dsimp only [prfV, prfC]
  have HU := Lib.hid hu
  have HV := Lib.hid hv
  simp only at h0 h1
  have hw1 : wrap64 (at9 - 1) = at9 - 1 := by unfold wrap64; omega
  have HS := Lib.hid (fun w => sum0_any w)
  rw [← show sha1 [] = shaS [] from rfl] at HS
  obtain ⟨S, hS⟩ : ∃ S, sha1 [] = S := ⟨_, rfl⟩
  rw [hS] at HS
  obtain ⟨B1, hB1⟩ : ∃ B, decide (at9 < count) = B := ⟨_, rfl⟩
  obtain ⟨M1, hM1⟩ : ∃ B, decide (lba < hn) = B := ⟨_, rfl⟩
  obtain ⟨B2, hB2⟩ : ∃ B, decide (0 < at9) = B := ⟨_, rfl⟩
  obtain ⟨M2, hM2⟩ : ∃ B, decide (an < lba) = B := ⟨_, rfl⟩
  have HF := Lib.hid (show noneB root count lba ⟨fd, at9, (hn, hs), (an, as9), up, left⟩ = (!(decide (count = 0 ∧ root ≠ S)) && besideB root count B1 at9 (hn, hs) up M1 && besideB root count B2 (at9 - 1) (an, as9) left M2) by rw [noneB, hS, ← hB1, ← hM1, ← hB2, ← hM2])
  have HX := Lib.hid (fun fb w (h : Rd strE w (.slice ua up.length uc) up) hf => beside_any root count at9 B1 M1 (hn, hs) _ up fb w h hun hf)
  have HY := Lib.hid (fun fb w (h : Rd strE w (.slice la left.length lc) left) hf => beside_any root count (at9 - 1) B2 M2 (an, as9) _ left fb w h hvn hf)
  generalize besideB root count B1 at9 (hn, hs) up M1 = X at *
  generalize besideB root count B2 (at9 - 1) (an, as9) left M2 = Y at *
  clear hu hv hun hvn h0 h1 h2 hS
  have H1 := Lib.hid (And.intro (Below.refl w.heap.size w) (And.intro (HU.out) (HV.out)))
  obtain ⟨W1, hW1⟩ : ∃ W1, w.alloc (.cells #[.string root, .int .i64 count] 73) = W1 := ⟨_, rfl⟩
  have hbW1 : Below w.heap.size w W1 := by rw [← hW1]; exact alloc_below w _
  have kW1 : W1.heap[w.heap.size]? = some (.cells #[.string root, .int .i64 count] 73 (0, 0)) := by rw [← hW1]; exact alloc_new w _
  have H2 := Lib.hid (And.intro (H1.out.1.trans (hbW1.mono H1.out.1.size)) (And.intro (H1.out.2.1.below hbW1) (And.intro (H1.out.2.2.below hbW1) (kW1))))
  clear hbW1 kW1
  obtain ⟨W2, hW2⟩ : ∃ W2, W1.alloc (.cells #[.bool fd, .int .i64 at9, .int .i64 hn, .string hs, .int .i64 an, .string as9, .slice ua up.length uc, .slice la left.length lc] 29) = W2 := ⟨_, rfl⟩
  have hbW2 : Below W1.heap.size W1 W2 := by rw [← hW2]; exact alloc_below W1 _
  have kW2 : W2.heap[W1.heap.size]? = some (.cells #[.bool fd, .int .i64 at9, .int .i64 hn, .string hs, .int .i64 an, .string as9, .slice ua up.length uc, .slice la left.length lc] 29 (0, 0)) := by rw [← hW2]; exact alloc_new W1 _
  have H3 := Lib.hid (And.intro (H2.out.1.trans (hbW2.mono H2.out.1.size)) (And.intro (H2.out.2.1.below hbW2) (And.intro (H2.out.2.2.1.below hbW2) (And.intro (blk_on hbW2 H2.out.2.2.2) (kW2)))))
  clear hbW2 kW2
  obtain ⟨y0, y1, fzc0, fzc1⟩ := blk2 H3.out.2.2.2.1
  obtain ⟨z0, z1, z2, z3, z4, z5, z6, z7⟩ := blk8 H3.out.2.2.2.2
  obtain ⟨W3, hW3⟩ : ∃ W3, W2.alloc (.cells #[.func (.func 56) #[.agg #[.string root, .int .i64 count]] #[]] 101) = W3 := ⟨_, rfl⟩
  have hbW3 : Below W2.heap.size W2 W3 := by rw [← hW3]; exact alloc_below W2 _
  have kW3 : W3.heap[W2.heap.size]? = some (.cells #[.func (.func 56) #[.agg #[.string root, .int .i64 count]] #[]] 101 (0, 0)) := by rw [← hW3]; exact alloc_new W2 _
  have H4 := Lib.hid (And.intro (H3.out.1.trans (hbW3.mono H3.out.1.size)) (And.intro (H3.out.2.1.below hbW3) (And.intro (H3.out.2.2.1.below hbW3) (And.intro (blk_on hbW3 H3.out.2.2.2.1) (And.intro (blk_on hbW3 H3.out.2.2.2.2) (kW3))))))
  clear hbW3 kW3
  by_cases hc : count = 0
  · subst hc
    by_cases hr : root = S
    · subst hr
      have HD := Lib.hid (show (!(decide ((0 : Int) = 0 ∧ root ≠ root))) = true by simp)
      obtain ⟨y0, y1, fzc0, fzc1⟩ := blk2 H4.out.2.2.2.1
      obtain ⟨z0, z1, z2, z3, z4, z5, z6, z7⟩ := blk8 H4.out.2.2.2.2.1
      have r0 := fun p => after_cell y0 p
      have r1 := fun p => after_cell y1 p
      have cS := Lib.hid (fun p => calls_after (p := p) (HS.out (After W3 p)))
      go_enter Try.func39, Try.ntmps39
      go_wp2_with fail
      refine wp_region_after (by kernel_rfl) (by kernel_rfl) ?_
      repeat (go_big_quiet_step (fail))
      go_big_quiet_step (exact cS.out _)
      repeat (go_big_quiet_step (fail))
      refine wpQuiet_nil ?_
      rintro w5 ⟨q, rfl⟩
      have hb5 := after_below W3 q
      have H5 := Lib.hid (And.intro (H4.out.1.trans (hb5.mono H4.out.1.size)) (And.intro (H4.out.2.1.below hb5) (And.intro (H4.out.2.2.1.below hb5) (And.intro (blk_on hb5 H4.out.2.2.2.1) (And.intro (blk_on hb5 H4.out.2.2.2.2.1) (blk_on hb5 H4.out.2.2.2.2.2))))))
      generalize After W3 q = w5 at *
      clear hb5 cS r0 r1 y0 y1 z0 z1 z2 z3 z4 z5 z6 z7 hW1 hW2 hW3
      obtain ⟨y0, y1, fzc0, fzc1⟩ := blk2 H5.out.2.2.2.1
      obtain ⟨z0, z1, z2, z3, z4, z5, z6, z7⟩ := blk8 H5.out.2.2.2.2.1
      cases X with
      | false =>
          go_wp2_with fail
          refine (HX.out _ _ H5.out.2.1 H5.out.2.2.2.2.2).mono ?_
          rintro en v1 ⟨rfl, hb⟩
          have H6 := Lib.hid (And.intro (H5.out.1.trans (hb.mono H5.out.1.size)) (And.intro (H5.out.2.1.below hb) (And.intro (H5.out.2.2.1.below hb) (And.intro (blk_on hb H5.out.2.2.2.1) (And.intro (blk_on hb H5.out.2.2.2.2.1) (blk_on hb H5.out.2.2.2.2.2))))))
          clear hb
          go_wp2
          exact HR.out _ _ ⟨by rw [HF.out, HD.out]; try rfl, H6.out.1⟩
      | true =>
          go_wp2_with fail
          refine (HX.out _ _ H5.out.2.1 H5.out.2.2.2.2.2).mono ?_
          rintro en v1 ⟨rfl, hb⟩
          have H6 := Lib.hid (And.intro (H5.out.1.trans (hb.mono H5.out.1.size)) (And.intro (H5.out.2.1.below hb) (And.intro (H5.out.2.2.1.below hb) (And.intro (blk_on hb H5.out.2.2.2.1) (And.intro (blk_on hb H5.out.2.2.2.2.1) (blk_on hb H5.out.2.2.2.2.2))))))
          clear hb
          obtain ⟨y0, y1, fzc0, fzc1⟩ := blk2 H6.out.2.2.2.1
          obtain ⟨z0, z1, z2, z3, z4, z5, z6, z7⟩ := blk8 H6.out.2.2.2.2.1
          go_wp2_with fail
          refine (HY.out _ _ H6.out.2.2.1 H6.out.2.2.2.2.2).mono ?_
          rintro en v2 ⟨rfl, hb⟩
          have H7 := Lib.hid (And.intro (H6.out.1.trans (hb.mono H6.out.1.size)) (And.intro (H6.out.2.1.below hb) (And.intro (H6.out.2.2.1.below hb) (And.intro (blk_on hb H6.out.2.2.2.1) (And.intro (blk_on hb H6.out.2.2.2.2.1) (blk_on hb H6.out.2.2.2.2.2))))))
          clear hb
          go_wp2
          exact HR.out _ _ ⟨by rw [HF.out, HD.out]; try rfl, H7.out.1⟩
    · have hne := text_ne hr
      have HD := Lib.hid (show (!(decide ((0 : Int) = 0 ∧ root ≠ S))) = false by simp [hr])
      obtain ⟨y0, y1, fzc0, fzc1⟩ := blk2 H4.out.2.2.2.1
      obtain ⟨z0, z1, z2, z3, z4, z5, z6, z7⟩ := blk8 H4.out.2.2.2.2.1
      have r0 := fun p => after_cell y0 p
      have r1 := fun p => after_cell y1 p
      have cS := Lib.hid (fun p => calls_after (p := p) (HS.out (After W3 p)))
      go_enter Try.func39, Try.ntmps39
      go_wp2_with fail
      refine wp_region_after (by kernel_rfl) (by kernel_rfl) ?_
      repeat (go_big_quiet_step (fail))
      go_big_quiet_step (exact cS.out _)
      repeat (go_big_quiet_step (fail))
      refine wpQuiet_nil ?_
      rintro w5 ⟨q, rfl⟩
      have hb5 := after_below W3 q
      have H5 := Lib.hid (And.intro (H4.out.1.trans (hb5.mono H4.out.1.size)) (And.intro (H4.out.2.1.below hb5) (And.intro (H4.out.2.2.1.below hb5) (And.intro (blk_on hb5 H4.out.2.2.2.1) (And.intro (blk_on hb5 H4.out.2.2.2.2.1) (blk_on hb5 H4.out.2.2.2.2.2))))))
      generalize After W3 q = w5 at *
      clear hb5 cS r0 r1 y0 y1 z0 z1 z2 z3 z4 z5 z6 z7 hW1 hW2 hW3
      obtain ⟨y0, y1, fzc0, fzc1⟩ := blk2 H5.out.2.2.2.1
      obtain ⟨z0, z1, z2, z3, z4, z5, z6, z7⟩ := blk8 H5.out.2.2.2.2.1
      go_wp2
      exact HR.out _ _ ⟨by rw [HF.out, HD.out]; try rfl, H5.out.1⟩
  · have hce : (count == 0) = false := by simpa using hc
    have HD := Lib.hid (show (!(decide (count = 0 ∧ root ≠ S))) = true by simp [hc])
    clear hc
    obtain ⟨y0, y1, fzc0, fzc1⟩ := blk2 H4.out.2.2.2.1
    obtain ⟨z0, z1, z2, z3, z4, z5, z6, z7⟩ := blk8 H4.out.2.2.2.2.1
    have r0 := fun p => after_cell y0 p
    have r1 := fun p => after_cell y1 p
    go_enter Try.func39, Try.ntmps39
    go_wp2_with fail
    refine wp_region_after (by kernel_rfl) (by kernel_rfl) ?_
    repeat (go_big_quiet_step (fail))
    refine wpQuiet_nil ?_
    rintro w5 ⟨q, rfl⟩
    have hb5 := after_below W3 q
    have H5 := Lib.hid (And.intro (H4.out.1.trans (hb5.mono H4.out.1.size)) (And.intro (H4.out.2.1.below hb5) (And.intro (H4.out.2.2.1.below hb5) (And.intro (blk_on hb5 H4.out.2.2.2.1) (And.intro (blk_on hb5 H4.out.2.2.2.2.1) (blk_on hb5 H4.out.2.2.2.2.2))))))
    generalize After W3 q = w5 at *
    clear hb5 r0 r1 y0 y1 z0 z1 z2 z3 z4 z5 z6 z7 hW1 hW2 hW3
    obtain ⟨y0, y1, fzc0, fzc1⟩ := blk2 H5.out.2.2.2.1
    obtain ⟨z0, z1, z2, z3, z4, z5, z6, z7⟩ := blk8 H5.out.2.2.2.2.1
    cases X with
    | false =>
        go_wp2_with fail
        refine (HX.out _ _ H5.out.2.1 H5.out.2.2.2.2.2).mono ?_
        rintro en v1 ⟨rfl, hb⟩
        have H6 := Lib.hid (And.intro (H5.out.1.trans (hb.mono H5.out.1.size)) (And.intro (H5.out.2.1.below hb) (And.intro (H5.out.2.2.1.below hb) (And.intro (blk_on hb H5.out.2.2.2.1) (And.intro (blk_on hb H5.out.2.2.2.2.1) (blk_on hb H5.out.2.2.2.2.2))))))
        clear hb
        go_wp2
        exact HR.out _ _ ⟨by rw [HF.out, HD.out]; try rfl, H6.out.1⟩
    | true =>
        go_wp2_with fail
        refine (HX.out _ _ H5.out.2.1 H5.out.2.2.2.2.2).mono ?_
        rintro en v1 ⟨rfl, hb⟩
        have H6 := Lib.hid (And.intro (H5.out.1.trans (hb.mono H5.out.1.size)) (And.intro (H5.out.2.1.below hb) (And.intro (H5.out.2.2.1.below hb) (And.intro (blk_on hb H5.out.2.2.2.1) (And.intro (blk_on hb H5.out.2.2.2.2.1) (blk_on hb H5.out.2.2.2.2.2))))))
        clear hb
        obtain ⟨y0, y1, fzc0, fzc1⟩ := blk2 H6.out.2.2.2.1
        obtain ⟨z0, z1, z2, z3, z4, z5, z6, z7⟩ := blk8 H6.out.2.2.2.2.1
        go_wp2_with fail
        refine (HY.out _ _ H6.out.2.2.1 H6.out.2.2.2.2.2).mono ?_
        rintro en v2 ⟨rfl, hb⟩
        have H7 := Lib.hid (And.intro (H6.out.1.trans (hb.mono H6.out.1.size)) (And.intro (H6.out.2.1.below hb) (And.intro (H6.out.2.2.1.below hb) (And.intro (blk_on hb H6.out.2.2.2.1) (And.intro (blk_on hb H6.out.2.2.2.2.1) (blk_on hb H6.out.2.2.2.2.2))))))
        clear hb
        go_wp2
        exact HR.out _ _ ⟨by rw [HF.out, HD.out]; try rfl, H7.out.1⟩
end Go.Proofs.Ytelmcoedmkhkjaa
