/- Texts that the claim rests on, part 12: ProofRProve, Open, FrameStr, FrameProof. -/
import Derived.Deep.Slices
import Derived.Test.YtelmcoedmkhkjaaProg
import Derived.Test.YtelmcoedmkhkjaaM11
/- The reference's proof of a place; equal proofs are the same. -/
namespace Ks
open Go Go.RowKit
set_option linter.unusedVariables false
theorem set8_0 {w : World} {n : Nat} {c0 c1 c2 c3 c4 c5 c6 c7 : Value} {T : TypeId} (u : Value) (h : w.heap[n]? = some (.cells #[c0, c1, c2, c3, c4, c5, c6, c7] T (0, 0))) : (w.setCell ⟨n, 0, none⟩ u).heap[n]? = some (.cells #[u, c1, c2, c3, c4, c5, c6, c7] T (0, 0)) := by
  simp [World.setCell, Array.getElem?_modify, h]
end Ks
namespace Go.Proofs.Ytelmcoedmkhkjaa
open Go.RowKit Ks
set_option linter.unusedVariables false
theorem rpath_at {l : List LeafT} {n : Nat} (h : n < l.length) (v : Value) (w : World) (hr : Rd strE w v (hashL l)) (hl : l.length ≤ 1000000) :
    Calls Try.prog 37 #[v, .int .i64 (n : Nat)] w fun e w' => ∃ v, e = .returned v ∧ Row strE w' w.heap.size 9 v (pathL (hashL l) n) ∧ Below w.heap.size w w' :=
  rpath_any _ (hashL l) n v w rfl (by rw [hashL_length]; omega) (by rw [hashL_length]; exact h) hr (hashL_whole l)
set_option maxRecDepth 100000 in
set_option maxHeartbeats 16000000 in
theorem rprove_met (lv : Value) (l : List LeafT) (lba : Int) (w : World) (hl : Rd leafE w lv l) (hlen : l.length ≤ 1000000) (n : Nat) (hn : aheadN lba l = n) (hm : metP l lba = true) (hnn : n < l.length) (x : LeafT) (hx : l[n]? = some x) :
    Calls Try.prog 19 #[lv, .int .i64 lba] w fun e w' => ∃ u v, e = .returned (prfV (proveP l lba) u v) ∧ Rd strE w' u (proveP l lba).up ∧ Rd strE w' v (proveP l lba).left ∧ Below w.heap.size w w' := by
  refine calls_by fun R HR => ?_
  have HL := Lib.hid (And.intro hl hlen)
  have HHs := Lib.hid (fun w h => rhashes_any lv l w h hlen)
  have HP1 := Lib.hid (fun v w h => rpath_at (l := l) (n := n) hnn v w h hlen)
  obtain ⟨xl, xs⟩ := x
  have HV := Lib.hid (show proveP l lba = ⟨true, n, (xl, xs), noLeaf, pathL (hashL l) n, []⟩ by
    simp [proveP, hn, hm, hnn, here_some hx])
  have hge : ¬ xl < lba := ahead_at lba l (xl, xs) (by rw [hn]; exact hx)
  have heq : (xl == lba) = true := by
    have h := hm
    unfold metP at h
    rw [hn, hx] at h
    simpa using h
  have HLow := Lib.hid (fun k (h : k < n) x hx => ahead_lt lba l k x (by rw [hn]; exact h) hx)
  obtain ⟨a, cap, rfl, hcap, -⟩ := hl.shape
  have hnl : n ≤ l.length := by rw [← hn]; exact ahead_le lba l
  clear hl hm hn
  have hli : (l.length : Int) ≤ 1000000 := by omega
  have H1 := Lib.hid (And.intro (Below.refl w.heap.size w) (HL.out.1))
  obtain ⟨W1, hW1⟩ : ∃ W1, w.alloc (.cells #[.bool false, .int .i64 0, .int .i64 0, .string ⟨#[]⟩, .int .i64 0, .string ⟨#[]⟩, .slice none 0 0, .slice none 0 0] 29) = W1 := ⟨_, rfl⟩
  have hbW1 : Below w.heap.size w W1 := by rw [← hW1]; exact alloc_below w _
  have kW1 : W1.heap[w.heap.size]? = some (.cells #[.bool false, .int .i64 0, .int .i64 0, .string ⟨#[]⟩, .int .i64 0, .string ⟨#[]⟩, .slice none 0 0, .slice none 0 0] 29 (0, 0)) := by rw [← hW1]; exact alloc_new w _
  have H2 := Lib.hid (And.intro (H1.out.1.trans (hbW1.mono H1.out.1.size)) (And.intro (H1.out.2.below hbW1) (kW1)))
  clear hbW1 kW1
  go_enter Try.func19, Try.ntmps19
  go_wp2_with fail
  clear hW1
  go_loopw [5] (fun i wx => ∃ (k : Nat), k ≤ n ∧ i = .int .i64 k ∧ W1 = wx) (fun i _ => n - (intOf i).toNat)
  case atStart => exact ⟨0, Nat.zero_le _, rfl, rfl⟩
  case round =>
    obtain ⟨k, hk, rfl, hwr⟩ := hrel
    subst hwr
    by_cases hlt : k < n
    · have hki : (k : Int) < (l.length : Int) := by omega
      obtain ⟨x9, hx9⟩ : ∃ x, l[k]? = some x := ⟨_, List.getElem?_eq_getElem (by omega)⟩
      have hlo := HLow.out k hlt x9 hx9
      obtain ⟨b, o, ha, hb0, dd⟩ := (H2.out.2.1).at k x9 hx9
      cases ha
      obtain ⟨xk, sk⟩ := x9
      simp only at hlo
      have d0 : W1.cell? ⟨b, o + k * 2, none⟩ = some (.int .i64 xk) := dd 0 _ rfl
      clear dd hb0 hx9
      go_wp2_with fail
      go_roundw
      case rel => exact ⟨k + 1, by omega, by go_num, trivial⟩
      case measure => simp [intOf]; omega
    obtain rfl : n = k := by omega
    clear hlt hk
    obtain ⟨pb, hpb⟩ : ∃ pb, W1.heap.size = pb := ⟨_, rfl⟩
    obtain ⟨P0, hP0⟩ : ∃ P0, W1.alloc (.cells #[.bool false, .int .i64 (n : Nat), .int .i64 0, .string ⟨#[]⟩, .int .i64 0, .string ⟨#[]⟩, .slice none 0 0, .slice none 0 0] 29) = P0 := ⟨_, rfl⟩
    have K0 := Lib.hid (show P0.heap[pb]? = some (.cells #[.bool false, .int .i64 (n : Nat), .int .i64 0, .string ⟨#[]⟩, .int .i64 0, .string ⟨#[]⟩, .slice none 0 0, .slice none 0 0] 29 (0, 0)) by rw [← hP0, ← hpb]; exact alloc_new W1 _)
    have B0 := Lib.hid (show Below pb W1 P0 by rw [← hP0, ← hpb]; exact alloc_below W1 _)
    have Z0 := Lib.hid (show pb < P0.heap.size from lt_of_block K0.out)
    have E0 := Lib.hid hP0
    clear hP0
    have hni : (n : Int) < (l.length : Int) := by omega
    obtain ⟨b, o, ha, hb0, dd⟩ := (H2.out.2.1).at n _ hx
    cases ha
    have d0 : W1.cell? ⟨b, o + n * 2, none⟩ = some (.int .i64 xl) := dd 0 _ rfl
    clear dd hb0
    go_upto_region 5 with fail
    rw [E0.out]
    clear E0 d0
    obtain ⟨b9, o9, ha, hb0, dd⟩ := (H2.out.2.1.below (hpb ▸ B0.out)).at n _ hx
    cases ha
    have d0 : P0.cell? ⟨b, o + n * 2, none⟩ = some (.int .i64 xl) := dd 0 _ rfl
    have d1 : P0.cell? ⟨b, o + n * 2 + 1, none⟩ = some (.string xs) := dd 1 _ rfl
    clear dd hb0
    obtain ⟨P1, hP1⟩ : ∃ W, P0.setRow pb #[.bool false, .int .i64 (n : Nat), .int .i64 xl, .string xs, .int .i64 0, .string ⟨#[]⟩, .slice none 0 0, .slice none 0 0] = W := ⟨_, rfl⟩
    have K1 := Lib.hid (show P1.heap[pb]? = some (.cells #[.bool false, .int .i64 (n : Nat), .int .i64 xl, .string xs, .int .i64 0, .string ⟨#[]⟩, .slice none 0 0, .slice none 0 0] 29 (0, 0)) by rw [← hP1]; exact setRow_heap P0 pb _ _ _ _ K0.out)
    have B1 := Lib.hid (show Below pb W1 P1 by rw [← hP1]; exact B0.out.trans (row_under P0 pb _))
    go_wp2_with (refine wpList_store_blk rfl 25 (.tmp 32) (.tmp 31) rfl pb 2 2 rfl #[.bool false, .int .i64 (n : Nat), .int .i64 0, .string ⟨#[]⟩, .int .i64 0, .string ⟨#[]⟩, .slice none 0 0, .slice none 0 0] #[.int .i64 xl, .string xs] #[.bool false, .int .i64 (n : Nat), .int .i64 xl, .string xs, .int .i64 0, .string ⟨#[]⟩, .slice none 0 0, .slice none 0 0] rfl 29 K0.out rfl (show 2 + 2 ≤ 8 by decide) (by kernel_rfl) (leaf_one _ _) rfl ?_; rw [hP1])
    clear hP1 d0 d1
    refine (HHs.out _ (H2.out.2.1.below (hpb ▸ B1.out))).mono ?_
    rintro en h1 ⟨hv1, rfl, hrow1, hb⟩
    obtain ⟨ha1, hc1, rfl, -⟩ := hrow1.shape
    have K2 := Lib.hid (blk_on hb K1.out)
    have B2 := Lib.hid (B1.out.trans (hb.mono (Nat.le_of_lt (lt_of_block K1.out))))
    have HT1 := Lib.hid hrow1.rd
    clear hb hrow1
    go_wp2_with fail
    refine (HP1.out _ _ HT1.out).mono ?_
    rintro en q1 ⟨uv, rfl, hrow, hb⟩
    obtain ⟨ua, uc, rfl, -⟩ := hrow.shape
    have K3 := Lib.hid (blk_on hb K2.out)
    have B3 := Lib.hid (B2.out.trans (hb.mono (Nat.le_of_lt (lt_of_block K2.out))))
    have Ru3 := Lib.hid hrow
    have Zu := Lib.hid (show pb < h1.heap.size from lt_of_block K2.out)
    clear hb hrow
    have c6 : q1.cell? ⟨pb, 6, none⟩ = some (.slice none 0 0) := (blk8 K3.out).2.2.2.2.2.2.1
    have f6 : q1.frozen? ⟨pb, 6, none⟩ = false := frozen_of_row q1 pb _ _ _ K3.out
    obtain ⟨P4, hP4⟩ : ∃ W, q1.setCell ⟨pb, 6, none⟩ (.slice ua (pathL (hashL l) n).length uc) = W := ⟨_, rfl⟩
    have K4 := Lib.hid (show P4.heap[pb]? = some (.cells #[.bool false, .int .i64 (n : Nat), .int .i64 xl, .string xs, .int .i64 0, .string ⟨#[]⟩, .slice ua (pathL (hashL l) n).length uc, .slice none 0 0] 29 (0, 0)) by rw [← hP4]; exact set8_6 _ K3.out)
    have B4 := Lib.hid (show Below pb W1 P4 by rw [← hP4]; exact B3.out.trans (cell_under q1 pb _ _))
    have Ru4 := Lib.hid (show Row strE P4 h1.heap.size 9 (.slice ua (pathL (hashL l) n).length uc) (pathL (hashL l) n) from by rw [← hP4]; exact Ru3.out.past Zu.out (fun k h => set_ne _ h))
    go_upto_region 8 with fail
    try rw [hP4]
    clear hP4 c6 f6
    obtain ⟨b9, o9, ha, hb0, dd⟩ := (H2.out.2.1.below (hpb ▸ B4.out)).at n _ hx
    cases ha
    have d0 : P4.cell? ⟨b, o + n * 2, none⟩ = some (.int .i64 xl) := dd 0 _ rfl
    clear dd hb0
    have c0 : P4.cell? ⟨pb, 0, none⟩ = some (.bool false) := (blk8 K4.out).1
    have f0 : P4.frozen? ⟨pb, 0, none⟩ = false := frozen_of_row P4 pb _ _ _ K4.out
    obtain ⟨P5, hP5⟩ : ∃ W, P4.setCell ⟨pb, 0, none⟩ (.bool true) = W := ⟨_, rfl⟩
    have K5 := Lib.hid (show P5.heap[pb]? = some (.cells #[.bool true, .int .i64 (n : Nat), .int .i64 xl, .string xs, .int .i64 0, .string ⟨#[]⟩, .slice ua (pathL (hashL l) n).length uc, .slice none 0 0] 29 (0, 0)) by rw [← hP5]; exact set8_0 _ K4.out)
    have B5 := Lib.hid (show Below pb W1 P5 by rw [← hP5]; exact B4.out.trans (cell_under P4 pb _ _))
    have Ru5 := Lib.hid (show Row strE P5 h1.heap.size 9 (.slice ua (pathL (hashL l) n).length uc) (pathL (hashL l) n) from by rw [← hP5]; exact Ru4.out.past Zu.out (fun k h => set_ne _ h))
    go_upto_region 9 with fail
    try rw [hP5]
    clear hP5 c0 f0 d0
    have c0 : P5.cell? ⟨pb, 0, none⟩ = some (.bool true) := (blk8 K5.out).1
    go_upto_region 12 with fail
    clear c0
    obtain ⟨z0, z1, z2, z3, z4, z5, z6, z7⟩ := blk8 K5.out
    have KR := Lib.hid (blk_on (hpb ▸ B5.out) H2.out.2.2)
    obtain ⟨WR, hWR⟩ : ∃ W, P5.setRow w.heap.size #[.bool true, .int .i64 (n : Nat), .int .i64 xl, .string xs, .int .i64 0, .string ⟨#[]⟩, .slice ua (pathL (hashL l) n).length uc, .slice none 0 0] = W := ⟨_, rfl⟩
    have KE := Lib.hid (show WR.heap[w.heap.size]? = some (.cells #[.bool true, .int .i64 (n : Nat), .int .i64 xl, .string xs, .int .i64 0, .string ⟨#[]⟩, .slice ua (pathL (hashL l) n).length uc, .slice none 0 0] 29 (0, 0)) by rw [← hWR]; exact setRow_heap P5 _ _ _ _ _ KR.out)
    have BE := Lib.hid (show Below w.heap.size w WR by rw [← hWR]; exact (H2.out.1.trans ((hpb ▸ B5.out : Below W1.heap.size W1 P5).mono H2.out.1.size)).trans (row_under P5 _ _))
    have hlw := H2.out.1.size
    have REu := Lib.hid (show Rd strE WR (.slice ua (pathL (hashL l) n).length uc) (pathL (hashL l) n) by rw [← hWR]; exact (Ru5.out.past (b := w.heap.size) (by have := Zu.out; omega) (fun k h => setRow_other _ _ k _ h)).rd)
    clear hlw
    go_wp2_with (refine wpList_store_blk rfl 29 (.tmp 4) (.tmp 65) rfl w.heap.size 0 8 rfl #[.bool false, .int .i64 0, .int .i64 0, .string ⟨#[]⟩, .int .i64 0, .string ⟨#[]⟩, .slice none 0 0, .slice none 0 0] #[.bool true, .int .i64 (n : Nat), .int .i64 xl, .string xs, .int .i64 0, .string ⟨#[]⟩, .slice ua (pathL (hashL l) n).length uc, .slice none 0 0] #[.bool true, .int .i64 (n : Nat), .int .i64 xl, .string xs, .int .i64 0, .string ⟨#[]⟩, .slice ua (pathL (hashL l) n).length uc, .slice none 0 0] rfl 29 KR.out rfl (Nat.le_refl 8) (by kernel_rfl) (prf_one _ _ _ _ _ _ _ _ _ _ _ _) (splice_all _ _ rfl) ?_; rw [hWR])
    clear hWR z0 z1 z2 z3 z4 z5 z6 z7
    obtain ⟨z0, z1, z2, z3, z4, z5, z6, z7⟩ := blk8 KE.out
    refine bodyPost_ret (v := .agg #[.bool true, .int .i64 (n : Nat), .int .i64 xl, .string xs, .int .i64 0, .string ⟨#[]⟩, .slice ua (pathL (hashL l) n).length uc, .slice none 0 0]) (by simp [results, Try.results19, go_sem, z0, z1, z2, z3, z4, z5, z6, z7]) rfl ?_
    exact HR.out _ _ ⟨.slice ua (pathL (hashL l) n).length uc, .slice none 0 0, by rw [HV.out]; try rfl, by rw [HV.out]; exact REu.out, by rw [HV.out]; exact Rd.nil _, BE.out⟩
set_option maxRecDepth 100000 in
set_option maxHeartbeats 16000000 in
theorem rprove_mid (lv : Value) (l : List LeafT) (lba : Int) (w : World) (hl : Rd leafE w lv l) (hlen : l.length ≤ 1000000) (n : Nat) (hn : aheadN lba l = n) (hm : metP l lba = false) (hnn : n < l.length) (x : LeafT) (hx : l[n]? = some x) (h0 : 0 < n) (hnm : n - 1 < l.length) (y : LeafT) (hy : l[n - 1]? = some y) :
    Calls Try.prog 19 #[lv, .int .i64 lba] w fun e w' => ∃ u v, e = .returned (prfV (proveP l lba) u v) ∧ Rd strE w' u (proveP l lba).up ∧ Rd strE w' v (proveP l lba).left ∧ Below w.heap.size w w' := by
  refine calls_by fun R HR => ?_
  have HL := Lib.hid (And.intro hl hlen)
  have HHs := Lib.hid (fun w h => rhashes_any lv l w h hlen)
  have HP1 := Lib.hid (fun v w h => rpath_at (l := l) (n := n) hnn v w h hlen)
  have HP2 := Lib.hid (fun v w h => rpath_at (l := l) (n := n - 1) hnm v w h hlen)
  obtain ⟨xl, xs⟩ := x
  obtain ⟨yl, ys⟩ := y
  have HV := Lib.hid (show proveP l lba = ⟨false, n, (xl, xs), (yl, ys), pathL (hashL l) n, pathL (hashL l) (n - 1)⟩ by
    simp [proveP, hn, hm, hnn, here_some hx, here_some hy, h0])
  have hge : ¬ xl < lba := ahead_at lba l (xl, xs) (by rw [hn]; exact hx)
  have heq : (xl == lba) = false := by
    have h := hm
    unfold metP at h
    rw [hn, hx] at h
    simpa using h
  have HLow := Lib.hid (fun k (h : k < n) x hx => ahead_lt lba l k x (by rw [hn]; exact h) hx)
  obtain ⟨a, cap, rfl, hcap, -⟩ := hl.shape
  have hnl : n ≤ l.length := by rw [← hn]; exact ahead_le lba l
  clear hl hm hn
  have hli : (l.length : Int) ≤ 1000000 := by omega
  have H1 := Lib.hid (And.intro (Below.refl w.heap.size w) (HL.out.1))
  obtain ⟨W1, hW1⟩ : ∃ W1, w.alloc (.cells #[.bool false, .int .i64 0, .int .i64 0, .string ⟨#[]⟩, .int .i64 0, .string ⟨#[]⟩, .slice none 0 0, .slice none 0 0] 29) = W1 := ⟨_, rfl⟩
  have hbW1 : Below w.heap.size w W1 := by rw [← hW1]; exact alloc_below w _
  have kW1 : W1.heap[w.heap.size]? = some (.cells #[.bool false, .int .i64 0, .int .i64 0, .string ⟨#[]⟩, .int .i64 0, .string ⟨#[]⟩, .slice none 0 0, .slice none 0 0] 29 (0, 0)) := by rw [← hW1]; exact alloc_new w _
  have H2 := Lib.hid (And.intro (H1.out.1.trans (hbW1.mono H1.out.1.size)) (And.intro (H1.out.2.below hbW1) (kW1)))
  clear hbW1 kW1
  go_enter Try.func19, Try.ntmps19
  go_wp2_with fail
  clear hW1
  go_loopw [5] (fun i wx => ∃ (k : Nat), k ≤ n ∧ i = .int .i64 k ∧ W1 = wx) (fun i _ => n - (intOf i).toNat)
  case atStart => exact ⟨0, Nat.zero_le _, rfl, rfl⟩
  case round =>
    obtain ⟨k, hk, rfl, hwr⟩ := hrel
    subst hwr
    by_cases hlt : k < n
    · have hki : (k : Int) < (l.length : Int) := by omega
      obtain ⟨x9, hx9⟩ : ∃ x, l[k]? = some x := ⟨_, List.getElem?_eq_getElem (by omega)⟩
      have hlo := HLow.out k hlt x9 hx9
      obtain ⟨b, o, ha, hb0, dd⟩ := (H2.out.2.1).at k x9 hx9
      cases ha
      obtain ⟨xk, sk⟩ := x9
      simp only at hlo
      have d0 : W1.cell? ⟨b, o + k * 2, none⟩ = some (.int .i64 xk) := dd 0 _ rfl
      clear dd hb0 hx9
      go_wp2_with fail
      go_roundw
      case rel => exact ⟨k + 1, by omega, by go_num, trivial⟩
      case measure => simp [intOf]; omega
    obtain rfl : n = k := by omega
    clear hlt hk
    obtain ⟨pb, hpb⟩ : ∃ pb, W1.heap.size = pb := ⟨_, rfl⟩
    obtain ⟨P0, hP0⟩ : ∃ P0, W1.alloc (.cells #[.bool false, .int .i64 (n : Nat), .int .i64 0, .string ⟨#[]⟩, .int .i64 0, .string ⟨#[]⟩, .slice none 0 0, .slice none 0 0] 29) = P0 := ⟨_, rfl⟩
    have K0 := Lib.hid (show P0.heap[pb]? = some (.cells #[.bool false, .int .i64 (n : Nat), .int .i64 0, .string ⟨#[]⟩, .int .i64 0, .string ⟨#[]⟩, .slice none 0 0, .slice none 0 0] 29 (0, 0)) by rw [← hP0, ← hpb]; exact alloc_new W1 _)
    have B0 := Lib.hid (show Below pb W1 P0 by rw [← hP0, ← hpb]; exact alloc_below W1 _)
    have Z0 := Lib.hid (show pb < P0.heap.size from lt_of_block K0.out)
    have E0 := Lib.hid hP0
    clear hP0
    have hni : (n : Int) < (l.length : Int) := by omega
    obtain ⟨b, o, ha, hb0, dd⟩ := (H2.out.2.1).at n _ hx
    cases ha
    have d0 : W1.cell? ⟨b, o + n * 2, none⟩ = some (.int .i64 xl) := dd 0 _ rfl
    clear dd hb0
    go_upto_region 5 with fail
    rw [E0.out]
    clear E0 d0
    obtain ⟨b9, o9, ha, hb0, dd⟩ := (H2.out.2.1.below (hpb ▸ B0.out)).at n _ hx
    cases ha
    have d0 : P0.cell? ⟨b, o + n * 2, none⟩ = some (.int .i64 xl) := dd 0 _ rfl
    have d1 : P0.cell? ⟨b, o + n * 2 + 1, none⟩ = some (.string xs) := dd 1 _ rfl
    clear dd hb0
    obtain ⟨P1, hP1⟩ : ∃ W, P0.setRow pb #[.bool false, .int .i64 (n : Nat), .int .i64 xl, .string xs, .int .i64 0, .string ⟨#[]⟩, .slice none 0 0, .slice none 0 0] = W := ⟨_, rfl⟩
    have K1 := Lib.hid (show P1.heap[pb]? = some (.cells #[.bool false, .int .i64 (n : Nat), .int .i64 xl, .string xs, .int .i64 0, .string ⟨#[]⟩, .slice none 0 0, .slice none 0 0] 29 (0, 0)) by rw [← hP1]; exact setRow_heap P0 pb _ _ _ _ K0.out)
    have B1 := Lib.hid (show Below pb W1 P1 by rw [← hP1]; exact B0.out.trans (row_under P0 pb _))
    go_wp2_with (refine wpList_store_blk rfl 25 (.tmp 32) (.tmp 31) rfl pb 2 2 rfl #[.bool false, .int .i64 (n : Nat), .int .i64 0, .string ⟨#[]⟩, .int .i64 0, .string ⟨#[]⟩, .slice none 0 0, .slice none 0 0] #[.int .i64 xl, .string xs] #[.bool false, .int .i64 (n : Nat), .int .i64 xl, .string xs, .int .i64 0, .string ⟨#[]⟩, .slice none 0 0, .slice none 0 0] rfl 29 K0.out rfl (show 2 + 2 ≤ 8 by decide) (by kernel_rfl) (leaf_one _ _) rfl ?_; rw [hP1])
    clear hP1 d0 d1
    refine (HHs.out _ (H2.out.2.1.below (hpb ▸ B1.out))).mono ?_
    rintro en h1 ⟨hv1, rfl, hrow1, hb⟩
    obtain ⟨ha1, hc1, rfl, -⟩ := hrow1.shape
    have K2 := Lib.hid (blk_on hb K1.out)
    have B2 := Lib.hid (B1.out.trans (hb.mono (Nat.le_of_lt (lt_of_block K1.out))))
    have HT1 := Lib.hid hrow1.rd
    clear hb hrow1
    go_wp2_with fail
    refine (HP1.out _ _ HT1.out).mono ?_
    rintro en q1 ⟨uv, rfl, hrow, hb⟩
    obtain ⟨ua, uc, rfl, -⟩ := hrow.shape
    have K3 := Lib.hid (blk_on hb K2.out)
    have B3 := Lib.hid (B2.out.trans (hb.mono (Nat.le_of_lt (lt_of_block K2.out))))
    have Ru3 := Lib.hid hrow
    have Zu := Lib.hid (show pb < h1.heap.size from lt_of_block K2.out)
    clear hb hrow
    have c6 : q1.cell? ⟨pb, 6, none⟩ = some (.slice none 0 0) := (blk8 K3.out).2.2.2.2.2.2.1
    have f6 : q1.frozen? ⟨pb, 6, none⟩ = false := frozen_of_row q1 pb _ _ _ K3.out
    obtain ⟨P4, hP4⟩ : ∃ W, q1.setCell ⟨pb, 6, none⟩ (.slice ua (pathL (hashL l) n).length uc) = W := ⟨_, rfl⟩
    have K4 := Lib.hid (show P4.heap[pb]? = some (.cells #[.bool false, .int .i64 (n : Nat), .int .i64 xl, .string xs, .int .i64 0, .string ⟨#[]⟩, .slice ua (pathL (hashL l) n).length uc, .slice none 0 0] 29 (0, 0)) by rw [← hP4]; exact set8_6 _ K3.out)
    have B4 := Lib.hid (show Below pb W1 P4 by rw [← hP4]; exact B3.out.trans (cell_under q1 pb _ _))
    have Ru4 := Lib.hid (show Row strE P4 h1.heap.size 9 (.slice ua (pathL (hashL l) n).length uc) (pathL (hashL l) n) from by rw [← hP4]; exact Ru3.out.past Zu.out (fun k h => set_ne _ h))
    go_upto_region 8 with fail
    try rw [hP4]
    clear hP4 c6 f6
    obtain ⟨b9, o9, ha, hb0, dd⟩ := (H2.out.2.1.below (hpb ▸ B4.out)).at n _ hx
    cases ha
    have d0 : P4.cell? ⟨b, o + n * 2, none⟩ = some (.int .i64 xl) := dd 0 _ rfl
    clear dd hb0
    have c0 : P4.cell? ⟨pb, 0, none⟩ = some (.bool false) := (blk8 K4.out).1
    have f0 : P4.frozen? ⟨pb, 0, none⟩ = false := frozen_of_row P4 pb _ _ _ K4.out
    obtain ⟨P5, hP5⟩ : ∃ W, P4.setCell ⟨pb, 0, none⟩ (.bool false) = W := ⟨_, rfl⟩
    have K5 := Lib.hid (show P5.heap[pb]? = some (.cells #[.bool false, .int .i64 (n : Nat), .int .i64 xl, .string xs, .int .i64 0, .string ⟨#[]⟩, .slice ua (pathL (hashL l) n).length uc, .slice none 0 0] 29 (0, 0)) by rw [← hP5]; exact set8_0 _ K4.out)
    have B5 := Lib.hid (show Below pb W1 P5 by rw [← hP5]; exact B4.out.trans (cell_under P4 pb _ _))
    have Ru5 := Lib.hid (show Row strE P5 h1.heap.size 9 (.slice ua (pathL (hashL l) n).length uc) (pathL (hashL l) n) from by rw [← hP5]; exact Ru4.out.past Zu.out (fun k h => set_ne _ h))
    go_upto_region 9 with fail
    try rw [hP5]
    clear hP5 c0 f0 d0
    have c0 : P5.cell? ⟨pb, 0, none⟩ = some (.bool false) := (blk8 K5.out).1
    have hn0 : (0 : Int) < (n : Int) := by omega
    have hn1 : (n : Int) - 1 = ((n - 1 : Nat) : Int) := by omega
    have hn2 : wrap64 ((n : Int) - 1) = ((n - 1 : Nat) : Int) := by rw [hn1]; unfold wrap64; omega
    have hn3 : ((n - 1 : Nat) : Int) < (l.length : Int) := by omega
    obtain ⟨b9, o9, ha, hb0, dd⟩ := (H2.out.2.1.below (hpb ▸ B5.out)).at (n - 1) _ hy
    cases ha
    have d0 : P5.cell? ⟨b, o + (n - 1) * 2, none⟩ = some (.int .i64 yl) := dd 0 _ rfl
    have d1 : P5.cell? ⟨b, o + (n - 1) * 2 + 1, none⟩ = some (.string ys) := dd 1 _ rfl
    clear dd hb0
    obtain ⟨P6, hP6⟩ : ∃ W, P5.setRow pb #[.bool false, .int .i64 (n : Nat), .int .i64 xl, .string xs, .int .i64 yl, .string ys, .slice ua (pathL (hashL l) n).length uc, .slice none 0 0] = W := ⟨_, rfl⟩
    have K6 := Lib.hid (show P6.heap[pb]? = some (.cells #[.bool false, .int .i64 (n : Nat), .int .i64 xl, .string xs, .int .i64 yl, .string ys, .slice ua (pathL (hashL l) n).length uc, .slice none 0 0] 29 (0, 0)) by rw [← hP6]; exact setRow_heap P5 pb _ _ _ _ K5.out)
    have B6 := Lib.hid (show Below pb W1 P6 by rw [← hP6]; exact B5.out.trans (row_under P5 pb _))
    have Ru6 := Lib.hid (show Row strE P6 h1.heap.size 9 (.slice ua (pathL (hashL l) n).length uc) (pathL (hashL l) n) from by rw [← hP6]; exact Ru5.out.past Zu.out (fun k h => setRow_other _ _ k _ h))
    go_wp2_with (refine wpList_store_blk rfl 25 (.tmp 58) (.tmp 57) rfl pb 4 2 rfl #[.bool false, .int .i64 (n : Nat), .int .i64 xl, .string xs, .int .i64 0, .string ⟨#[]⟩, .slice ua (pathL (hashL l) n).length uc, .slice none 0 0] #[.int .i64 yl, .string ys] #[.bool false, .int .i64 (n : Nat), .int .i64 xl, .string xs, .int .i64 yl, .string ys, .slice ua (pathL (hashL l) n).length uc, .slice none 0 0] rfl 29 K5.out rfl (show 4 + 2 ≤ 8 by decide) (by kernel_rfl) (leaf_one _ _) rfl ?_; rw [hP6])
    clear hP6 d0 d1 c0
    refine (HHs.out _ (H2.out.2.1.below (hpb ▸ B6.out))).mono ?_
    rintro en h2 ⟨hv2, rfl, hrow2, hb⟩
    obtain ⟨ha2, hc2, rfl, -⟩ := hrow2.shape
    have K7 := Lib.hid (blk_on hb K6.out)
    have B7 := Lib.hid (B6.out.trans (hb.mono (Nat.le_of_lt (lt_of_block K6.out))))
    have Ru7 := Lib.hid (Ru6.out.below hb)
    have HT2 := Lib.hid hrow2.rd
    clear hb hrow2
    go_wp2_with fail
    refine (HP2.out _ _ HT2.out).mono ?_
    rintro en q2 ⟨vv, rfl, hrow, hb⟩
    obtain ⟨va, vc, rfl, -⟩ := hrow.shape
    have K8 := Lib.hid (blk_on hb K7.out)
    have B8 := Lib.hid (B7.out.trans (hb.mono (Nat.le_of_lt (lt_of_block K7.out))))
    have Ru8 := Lib.hid (Ru7.out.below hb)
    have Rv8 := Lib.hid hrow
    have Zv := Lib.hid (show pb < h2.heap.size from lt_of_block K7.out)
    clear hb hrow
    have c7 : q2.cell? ⟨pb, 7, none⟩ = some (.slice none 0 0) := (blk8 K8.out).2.2.2.2.2.2.2
    have f7 : q2.frozen? ⟨pb, 7, none⟩ = false := frozen_of_row q2 pb _ _ _ K8.out
    obtain ⟨P9, hP9⟩ : ∃ W, q2.setCell ⟨pb, 7, none⟩ (.slice va (pathL (hashL l) (n - 1)).length vc) = W := ⟨_, rfl⟩
    have K9 := Lib.hid (show P9.heap[pb]? = some (.cells #[.bool false, .int .i64 (n : Nat), .int .i64 xl, .string xs, .int .i64 yl, .string ys, .slice ua (pathL (hashL l) n).length uc, .slice va (pathL (hashL l) (n - 1)).length vc] 29 (0, 0)) by rw [← hP9]; exact set8_7 _ K8.out)
    have B9 := Lib.hid (show Below pb W1 P9 by rw [← hP9]; exact B8.out.trans (cell_under q2 pb _ _))
    have Ru9 := Lib.hid (show Row strE P9 h1.heap.size 9 (.slice ua (pathL (hashL l) n).length uc) (pathL (hashL l) n) from by rw [← hP9]; exact Ru8.out.past Zu.out (fun k h => set_ne _ h))
    have Rv9 := Lib.hid (show Row strE P9 h2.heap.size 9 (.slice va (pathL (hashL l) (n - 1)).length vc) (pathL (hashL l) (n - 1)) from by rw [← hP9]; exact Rv8.out.past Zv.out (fun k h => set_ne _ h))
    go_upto_region 12 with fail
    try rw [hP9]
    clear hP9 c7 f7
    obtain ⟨z0, z1, z2, z3, z4, z5, z6, z7⟩ := blk8 K9.out
    have KR := Lib.hid (blk_on (hpb ▸ B9.out) H2.out.2.2)
    obtain ⟨WR, hWR⟩ : ∃ W, P9.setRow w.heap.size #[.bool false, .int .i64 (n : Nat), .int .i64 xl, .string xs, .int .i64 yl, .string ys, .slice ua (pathL (hashL l) n).length uc, .slice va (pathL (hashL l) (n - 1)).length vc] = W := ⟨_, rfl⟩
    have KE := Lib.hid (show WR.heap[w.heap.size]? = some (.cells #[.bool false, .int .i64 (n : Nat), .int .i64 xl, .string xs, .int .i64 yl, .string ys, .slice ua (pathL (hashL l) n).length uc, .slice va (pathL (hashL l) (n - 1)).length vc] 29 (0, 0)) by rw [← hWR]; exact setRow_heap P9 _ _ _ _ _ KR.out)
    have BE := Lib.hid (show Below w.heap.size w WR by rw [← hWR]; exact (H2.out.1.trans ((hpb ▸ B9.out : Below W1.heap.size W1 P9).mono H2.out.1.size)).trans (row_under P9 _ _))
    have hlw := H2.out.1.size
    have REu := Lib.hid (show Rd strE WR (.slice ua (pathL (hashL l) n).length uc) (pathL (hashL l) n) by rw [← hWR]; exact (Ru9.out.past (b := w.heap.size) (by have := Zu.out; omega) (fun k h => setRow_other _ _ k _ h)).rd)
    have REv := Lib.hid (show Rd strE WR (.slice va (pathL (hashL l) (n - 1)).length vc) (pathL (hashL l) (n - 1)) by rw [← hWR]; exact (Rv9.out.past (b := w.heap.size) (by have := Zv.out; omega) (fun k h => setRow_other _ _ k _ h)).rd)
    clear hlw
    go_wp2_with (refine wpList_store_blk rfl 29 (.tmp 4) (.tmp 65) rfl w.heap.size 0 8 rfl #[.bool false, .int .i64 0, .int .i64 0, .string ⟨#[]⟩, .int .i64 0, .string ⟨#[]⟩, .slice none 0 0, .slice none 0 0] #[.bool false, .int .i64 (n : Nat), .int .i64 xl, .string xs, .int .i64 yl, .string ys, .slice ua (pathL (hashL l) n).length uc, .slice va (pathL (hashL l) (n - 1)).length vc] #[.bool false, .int .i64 (n : Nat), .int .i64 xl, .string xs, .int .i64 yl, .string ys, .slice ua (pathL (hashL l) n).length uc, .slice va (pathL (hashL l) (n - 1)).length vc] rfl 29 KR.out rfl (Nat.le_refl 8) (by kernel_rfl) (prf_one _ _ _ _ _ _ _ _ _ _ _ _) (splice_all _ _ rfl) ?_; rw [hWR])
    clear hWR z0 z1 z2 z3 z4 z5 z6 z7
    obtain ⟨z0, z1, z2, z3, z4, z5, z6, z7⟩ := blk8 KE.out
    refine bodyPost_ret (v := .agg #[.bool false, .int .i64 (n : Nat), .int .i64 xl, .string xs, .int .i64 yl, .string ys, .slice ua (pathL (hashL l) n).length uc, .slice va (pathL (hashL l) (n - 1)).length vc]) (by simp [results, Try.results19, go_sem, z0, z1, z2, z3, z4, z5, z6, z7]) rfl ?_
    exact HR.out _ _ ⟨.slice ua (pathL (hashL l) n).length uc, .slice va (pathL (hashL l) (n - 1)).length vc, by rw [HV.out]; try rfl, by rw [HV.out]; exact REu.out, by rw [HV.out]; exact REv.out, BE.out⟩
set_option maxRecDepth 100000 in
set_option maxHeartbeats 16000000 in
theorem rprove_low (lv : Value) (l : List LeafT) (lba : Int) (w : World) (hl : Rd leafE w lv l) (hlen : l.length ≤ 1000000) (n : Nat) (hn : aheadN lba l = n) (hm : metP l lba = false) (hnn : n < l.length) (x : LeafT) (hx : l[n]? = some x) (h0 : ¬ 0 < n) :
    Calls Try.prog 19 #[lv, .int .i64 lba] w fun e w' => ∃ u v, e = .returned (prfV (proveP l lba) u v) ∧ Rd strE w' u (proveP l lba).up ∧ Rd strE w' v (proveP l lba).left ∧ Below w.heap.size w w' := by
  refine calls_by fun R HR => ?_
  have HL := Lib.hid (And.intro hl hlen)
  have HHs := Lib.hid (fun w h => rhashes_any lv l w h hlen)
  have HP1 := Lib.hid (fun v w h => rpath_at (l := l) (n := n) hnn v w h hlen)
  obtain ⟨xl, xs⟩ := x
  have HV := Lib.hid (show proveP l lba = ⟨false, n, (xl, xs), noLeaf, pathL (hashL l) n, []⟩ by
    simp [proveP, hn, hm, hnn, here_some hx, (show ¬ 0 < n by omega)])
  have hge : ¬ xl < lba := ahead_at lba l (xl, xs) (by rw [hn]; exact hx)
  have heq : (xl == lba) = false := by
    have h := hm
    unfold metP at h
    rw [hn, hx] at h
    simpa using h
  have HLow := Lib.hid (fun k (h : k < n) x hx => ahead_lt lba l k x (by rw [hn]; exact h) hx)
  obtain ⟨a, cap, rfl, hcap, -⟩ := hl.shape
  have hnl : n ≤ l.length := by rw [← hn]; exact ahead_le lba l
  clear hl hm hn
  have hli : (l.length : Int) ≤ 1000000 := by omega
  have H1 := Lib.hid (And.intro (Below.refl w.heap.size w) (HL.out.1))
  obtain ⟨W1, hW1⟩ : ∃ W1, w.alloc (.cells #[.bool false, .int .i64 0, .int .i64 0, .string ⟨#[]⟩, .int .i64 0, .string ⟨#[]⟩, .slice none 0 0, .slice none 0 0] 29) = W1 := ⟨_, rfl⟩
  have hbW1 : Below w.heap.size w W1 := by rw [← hW1]; exact alloc_below w _
  have kW1 : W1.heap[w.heap.size]? = some (.cells #[.bool false, .int .i64 0, .int .i64 0, .string ⟨#[]⟩, .int .i64 0, .string ⟨#[]⟩, .slice none 0 0, .slice none 0 0] 29 (0, 0)) := by rw [← hW1]; exact alloc_new w _
  have H2 := Lib.hid (And.intro (H1.out.1.trans (hbW1.mono H1.out.1.size)) (And.intro (H1.out.2.below hbW1) (kW1)))
  clear hbW1 kW1
  go_enter Try.func19, Try.ntmps19
  go_wp2_with fail
  clear hW1
  go_loopw [5] (fun i wx => ∃ (k : Nat), k ≤ n ∧ i = .int .i64 k ∧ W1 = wx) (fun i _ => n - (intOf i).toNat)
  case atStart => exact ⟨0, Nat.zero_le _, rfl, rfl⟩
  case round =>
    obtain ⟨k, hk, rfl, hwr⟩ := hrel
    subst hwr
    by_cases hlt : k < n
    · exact absurd hlt (by omega)
    obtain rfl : n = k := by omega
    clear hlt hk
    obtain ⟨pb, hpb⟩ : ∃ pb, W1.heap.size = pb := ⟨_, rfl⟩
    obtain ⟨P0, hP0⟩ : ∃ P0, W1.alloc (.cells #[.bool false, .int .i64 (n : Nat), .int .i64 0, .string ⟨#[]⟩, .int .i64 0, .string ⟨#[]⟩, .slice none 0 0, .slice none 0 0] 29) = P0 := ⟨_, rfl⟩
    have K0 := Lib.hid (show P0.heap[pb]? = some (.cells #[.bool false, .int .i64 (n : Nat), .int .i64 0, .string ⟨#[]⟩, .int .i64 0, .string ⟨#[]⟩, .slice none 0 0, .slice none 0 0] 29 (0, 0)) by rw [← hP0, ← hpb]; exact alloc_new W1 _)
    have B0 := Lib.hid (show Below pb W1 P0 by rw [← hP0, ← hpb]; exact alloc_below W1 _)
    have Z0 := Lib.hid (show pb < P0.heap.size from lt_of_block K0.out)
    have E0 := Lib.hid hP0
    clear hP0
    have hni : (n : Int) < (l.length : Int) := by omega
    obtain ⟨b, o, ha, hb0, dd⟩ := (H2.out.2.1).at n _ hx
    cases ha
    have d0 : W1.cell? ⟨b, o + n * 2, none⟩ = some (.int .i64 xl) := dd 0 _ rfl
    clear dd hb0
    go_upto_region 5 with fail
    rw [E0.out]
    clear E0 d0
    obtain ⟨b9, o9, ha, hb0, dd⟩ := (H2.out.2.1.below (hpb ▸ B0.out)).at n _ hx
    cases ha
    have d0 : P0.cell? ⟨b, o + n * 2, none⟩ = some (.int .i64 xl) := dd 0 _ rfl
    have d1 : P0.cell? ⟨b, o + n * 2 + 1, none⟩ = some (.string xs) := dd 1 _ rfl
    clear dd hb0
    obtain ⟨P1, hP1⟩ : ∃ W, P0.setRow pb #[.bool false, .int .i64 (n : Nat), .int .i64 xl, .string xs, .int .i64 0, .string ⟨#[]⟩, .slice none 0 0, .slice none 0 0] = W := ⟨_, rfl⟩
    have K1 := Lib.hid (show P1.heap[pb]? = some (.cells #[.bool false, .int .i64 (n : Nat), .int .i64 xl, .string xs, .int .i64 0, .string ⟨#[]⟩, .slice none 0 0, .slice none 0 0] 29 (0, 0)) by rw [← hP1]; exact setRow_heap P0 pb _ _ _ _ K0.out)
    have B1 := Lib.hid (show Below pb W1 P1 by rw [← hP1]; exact B0.out.trans (row_under P0 pb _))
    go_wp2_with (refine wpList_store_blk rfl 25 (.tmp 32) (.tmp 31) rfl pb 2 2 rfl #[.bool false, .int .i64 (n : Nat), .int .i64 0, .string ⟨#[]⟩, .int .i64 0, .string ⟨#[]⟩, .slice none 0 0, .slice none 0 0] #[.int .i64 xl, .string xs] #[.bool false, .int .i64 (n : Nat), .int .i64 xl, .string xs, .int .i64 0, .string ⟨#[]⟩, .slice none 0 0, .slice none 0 0] rfl 29 K0.out rfl (show 2 + 2 ≤ 8 by decide) (by kernel_rfl) (leaf_one _ _) rfl ?_; rw [hP1])
    clear hP1 d0 d1
    refine (HHs.out _ (H2.out.2.1.below (hpb ▸ B1.out))).mono ?_
    rintro en h1 ⟨hv1, rfl, hrow1, hb⟩
    obtain ⟨ha1, hc1, rfl, -⟩ := hrow1.shape
    have K2 := Lib.hid (blk_on hb K1.out)
    have B2 := Lib.hid (B1.out.trans (hb.mono (Nat.le_of_lt (lt_of_block K1.out))))
    have HT1 := Lib.hid hrow1.rd
    clear hb hrow1
    go_wp2_with fail
    refine (HP1.out _ _ HT1.out).mono ?_
    rintro en q1 ⟨uv, rfl, hrow, hb⟩
    obtain ⟨ua, uc, rfl, -⟩ := hrow.shape
    have K3 := Lib.hid (blk_on hb K2.out)
    have B3 := Lib.hid (B2.out.trans (hb.mono (Nat.le_of_lt (lt_of_block K2.out))))
    have Ru3 := Lib.hid hrow
    have Zu := Lib.hid (show pb < h1.heap.size from lt_of_block K2.out)
    clear hb hrow
    have c6 : q1.cell? ⟨pb, 6, none⟩ = some (.slice none 0 0) := (blk8 K3.out).2.2.2.2.2.2.1
    have f6 : q1.frozen? ⟨pb, 6, none⟩ = false := frozen_of_row q1 pb _ _ _ K3.out
    obtain ⟨P4, hP4⟩ : ∃ W, q1.setCell ⟨pb, 6, none⟩ (.slice ua (pathL (hashL l) n).length uc) = W := ⟨_, rfl⟩
    have K4 := Lib.hid (show P4.heap[pb]? = some (.cells #[.bool false, .int .i64 (n : Nat), .int .i64 xl, .string xs, .int .i64 0, .string ⟨#[]⟩, .slice ua (pathL (hashL l) n).length uc, .slice none 0 0] 29 (0, 0)) by rw [← hP4]; exact set8_6 _ K3.out)
    have B4 := Lib.hid (show Below pb W1 P4 by rw [← hP4]; exact B3.out.trans (cell_under q1 pb _ _))
    have Ru4 := Lib.hid (show Row strE P4 h1.heap.size 9 (.slice ua (pathL (hashL l) n).length uc) (pathL (hashL l) n) from by rw [← hP4]; exact Ru3.out.past Zu.out (fun k h => set_ne _ h))
    go_upto_region 8 with fail
    try rw [hP4]
    clear hP4 c6 f6
    obtain ⟨b9, o9, ha, hb0, dd⟩ := (H2.out.2.1.below (hpb ▸ B4.out)).at n _ hx
    cases ha
    have d0 : P4.cell? ⟨b, o + n * 2, none⟩ = some (.int .i64 xl) := dd 0 _ rfl
    clear dd hb0
    have c0 : P4.cell? ⟨pb, 0, none⟩ = some (.bool false) := (blk8 K4.out).1
    have f0 : P4.frozen? ⟨pb, 0, none⟩ = false := frozen_of_row P4 pb _ _ _ K4.out
    obtain ⟨P5, hP5⟩ : ∃ W, P4.setCell ⟨pb, 0, none⟩ (.bool false) = W := ⟨_, rfl⟩
    have K5 := Lib.hid (show P5.heap[pb]? = some (.cells #[.bool false, .int .i64 (n : Nat), .int .i64 xl, .string xs, .int .i64 0, .string ⟨#[]⟩, .slice ua (pathL (hashL l) n).length uc, .slice none 0 0] 29 (0, 0)) by rw [← hP5]; exact set8_0 _ K4.out)
    have B5 := Lib.hid (show Below pb W1 P5 by rw [← hP5]; exact B4.out.trans (cell_under P4 pb _ _))
    have Ru5 := Lib.hid (show Row strE P5 h1.heap.size 9 (.slice ua (pathL (hashL l) n).length uc) (pathL (hashL l) n) from by rw [← hP5]; exact Ru4.out.past Zu.out (fun k h => set_ne _ h))
    go_upto_region 9 with fail
    try rw [hP5]
    clear hP5 c0 f0 d0
    have c0 : P5.cell? ⟨pb, 0, none⟩ = some (.bool false) := (blk8 K5.out).1
    have hn0 : ¬ (0 : Int) < (n : Int) := by omega
    go_upto_region 12 with fail
    clear c0
    obtain ⟨z0, z1, z2, z3, z4, z5, z6, z7⟩ := blk8 K5.out
    have KR := Lib.hid (blk_on (hpb ▸ B5.out) H2.out.2.2)
    obtain ⟨WR, hWR⟩ : ∃ W, P5.setRow w.heap.size #[.bool false, .int .i64 (n : Nat), .int .i64 xl, .string xs, .int .i64 0, .string ⟨#[]⟩, .slice ua (pathL (hashL l) n).length uc, .slice none 0 0] = W := ⟨_, rfl⟩
    have KE := Lib.hid (show WR.heap[w.heap.size]? = some (.cells #[.bool false, .int .i64 (n : Nat), .int .i64 xl, .string xs, .int .i64 0, .string ⟨#[]⟩, .slice ua (pathL (hashL l) n).length uc, .slice none 0 0] 29 (0, 0)) by rw [← hWR]; exact setRow_heap P5 _ _ _ _ _ KR.out)
    have BE := Lib.hid (show Below w.heap.size w WR by rw [← hWR]; exact (H2.out.1.trans ((hpb ▸ B5.out : Below W1.heap.size W1 P5).mono H2.out.1.size)).trans (row_under P5 _ _))
    have hlw := H2.out.1.size
    have REu := Lib.hid (show Rd strE WR (.slice ua (pathL (hashL l) n).length uc) (pathL (hashL l) n) by rw [← hWR]; exact (Ru5.out.past (b := w.heap.size) (by have := Zu.out; omega) (fun k h => setRow_other _ _ k _ h)).rd)
    clear hlw
    go_wp2_with (refine wpList_store_blk rfl 29 (.tmp 4) (.tmp 65) rfl w.heap.size 0 8 rfl #[.bool false, .int .i64 0, .int .i64 0, .string ⟨#[]⟩, .int .i64 0, .string ⟨#[]⟩, .slice none 0 0, .slice none 0 0] #[.bool false, .int .i64 (n : Nat), .int .i64 xl, .string xs, .int .i64 0, .string ⟨#[]⟩, .slice ua (pathL (hashL l) n).length uc, .slice none 0 0] #[.bool false, .int .i64 (n : Nat), .int .i64 xl, .string xs, .int .i64 0, .string ⟨#[]⟩, .slice ua (pathL (hashL l) n).length uc, .slice none 0 0] rfl 29 KR.out rfl (Nat.le_refl 8) (by kernel_rfl) (prf_one _ _ _ _ _ _ _ _ _ _ _ _) (splice_all _ _ rfl) ?_; rw [hWR])
    clear hWR z0 z1 z2 z3 z4 z5 z6 z7
    obtain ⟨z0, z1, z2, z3, z4, z5, z6, z7⟩ := blk8 KE.out
    refine bodyPost_ret (v := .agg #[.bool false, .int .i64 (n : Nat), .int .i64 xl, .string xs, .int .i64 0, .string ⟨#[]⟩, .slice ua (pathL (hashL l) n).length uc, .slice none 0 0]) (by simp [results, Try.results19, go_sem, z0, z1, z2, z3, z4, z5, z6, z7]) rfl ?_
    exact HR.out _ _ ⟨.slice ua (pathL (hashL l) n).length uc, .slice none 0 0, by rw [HV.out]; try rfl, by rw [HV.out]; exact REu.out, by rw [HV.out]; exact Rd.nil _, BE.out⟩
set_option maxRecDepth 100000 in
set_option maxHeartbeats 16000000 in
theorem rprove_top (lv : Value) (l : List LeafT) (lba : Int) (w : World) (hl : Rd leafE w lv l) (hlen : l.length ≤ 1000000) (n : Nat) (hn : aheadN lba l = n) (hm : metP l lba = false) (hnn : ¬ n < l.length) (h0 : 0 < n) (hnm : n - 1 < l.length) (y : LeafT) (hy : l[n - 1]? = some y) :
    Calls Try.prog 19 #[lv, .int .i64 lba] w fun e w' => ∃ u v, e = .returned (prfV (proveP l lba) u v) ∧ Rd strE w' u (proveP l lba).up ∧ Rd strE w' v (proveP l lba).left ∧ Below w.heap.size w w' := by
  refine calls_by fun R HR => ?_
  have HL := Lib.hid (And.intro hl hlen)
  have HHs := Lib.hid (fun w h => rhashes_any lv l w h hlen)
  have HP2 := Lib.hid (fun v w h => rpath_at (l := l) (n := n - 1) hnm v w h hlen)
  obtain ⟨yl, ys⟩ := y
  have HV := Lib.hid (show proveP l lba = ⟨false, n, noLeaf, (yl, ys), [], pathL (hashL l) (n - 1)⟩ by
    simp [proveP, hn, hm, here_none (show l.length ≤ n by omega), (show ¬ n < l.length by omega), here_some hy, h0])
  have HLow := Lib.hid (fun k (h : k < n) x hx => ahead_lt lba l k x (by rw [hn]; exact h) hx)
  obtain ⟨a, cap, rfl, hcap, -⟩ := hl.shape
  have hnl : n ≤ l.length := by rw [← hn]; exact ahead_le lba l
  clear hl hm hn
  have hli : (l.length : Int) ≤ 1000000 := by omega
  have H1 := Lib.hid (And.intro (Below.refl w.heap.size w) (HL.out.1))
  obtain ⟨W1, hW1⟩ : ∃ W1, w.alloc (.cells #[.bool false, .int .i64 0, .int .i64 0, .string ⟨#[]⟩, .int .i64 0, .string ⟨#[]⟩, .slice none 0 0, .slice none 0 0] 29) = W1 := ⟨_, rfl⟩
  have hbW1 : Below w.heap.size w W1 := by rw [← hW1]; exact alloc_below w _
  have kW1 : W1.heap[w.heap.size]? = some (.cells #[.bool false, .int .i64 0, .int .i64 0, .string ⟨#[]⟩, .int .i64 0, .string ⟨#[]⟩, .slice none 0 0, .slice none 0 0] 29 (0, 0)) := by rw [← hW1]; exact alloc_new w _
  have H2 := Lib.hid (And.intro (H1.out.1.trans (hbW1.mono H1.out.1.size)) (And.intro (H1.out.2.below hbW1) (kW1)))
  clear hbW1 kW1
  go_enter Try.func19, Try.ntmps19
  go_wp2_with fail
  clear hW1
  go_loopw [5] (fun i wx => ∃ (k : Nat), k ≤ n ∧ i = .int .i64 k ∧ W1 = wx) (fun i _ => n - (intOf i).toNat)
  case atStart => exact ⟨0, Nat.zero_le _, rfl, rfl⟩
  case round =>
    obtain ⟨k, hk, rfl, hwr⟩ := hrel
    subst hwr
    by_cases hlt : k < n
    · have hki : (k : Int) < (l.length : Int) := by omega
      obtain ⟨x9, hx9⟩ : ∃ x, l[k]? = some x := ⟨_, List.getElem?_eq_getElem (by omega)⟩
      have hlo := HLow.out k hlt x9 hx9
      obtain ⟨b, o, ha, hb0, dd⟩ := (H2.out.2.1).at k x9 hx9
      cases ha
      obtain ⟨xk, sk⟩ := x9
      simp only at hlo
      have d0 : W1.cell? ⟨b, o + k * 2, none⟩ = some (.int .i64 xk) := dd 0 _ rfl
      clear dd hb0 hx9
      go_wp2_with fail
      go_roundw
      case rel => exact ⟨k + 1, by omega, by go_num, trivial⟩
      case measure => simp [intOf]; omega
    obtain rfl : n = k := by omega
    clear hlt hk
    obtain ⟨pb, hpb⟩ : ∃ pb, W1.heap.size = pb := ⟨_, rfl⟩
    obtain ⟨P0, hP0⟩ : ∃ P0, W1.alloc (.cells #[.bool false, .int .i64 (n : Nat), .int .i64 0, .string ⟨#[]⟩, .int .i64 0, .string ⟨#[]⟩, .slice none 0 0, .slice none 0 0] 29) = P0 := ⟨_, rfl⟩
    have K0 := Lib.hid (show P0.heap[pb]? = some (.cells #[.bool false, .int .i64 (n : Nat), .int .i64 0, .string ⟨#[]⟩, .int .i64 0, .string ⟨#[]⟩, .slice none 0 0, .slice none 0 0] 29 (0, 0)) by rw [← hP0, ← hpb]; exact alloc_new W1 _)
    have B0 := Lib.hid (show Below pb W1 P0 by rw [← hP0, ← hpb]; exact alloc_below W1 _)
    have Z0 := Lib.hid (show pb < P0.heap.size from lt_of_block K0.out)
    have E0 := Lib.hid hP0
    clear hP0
    have hni : ¬ (n : Int) < (l.length : Int) := by omega
    go_upto_region 5 with fail
    rw [E0.out]
    clear E0
    have c0 : P0.cell? ⟨pb, 0, none⟩ = some (.bool false) := (blk8 K0.out).1
    have hn0 : (0 : Int) < (n : Int) := by omega
    have hn1 : (n : Int) - 1 = ((n - 1 : Nat) : Int) := by omega
    have hn2 : wrap64 ((n : Int) - 1) = ((n - 1 : Nat) : Int) := by rw [hn1]; unfold wrap64; omega
    have hn3 : ((n - 1 : Nat) : Int) < (l.length : Int) := by omega
    obtain ⟨b, o, ha, hb0, dd⟩ := (H2.out.2.1.below (hpb ▸ B0.out)).at (n - 1) _ hy
    cases ha
    have d0 : P0.cell? ⟨b, o + (n - 1) * 2, none⟩ = some (.int .i64 yl) := dd 0 _ rfl
    have d1 : P0.cell? ⟨b, o + (n - 1) * 2 + 1, none⟩ = some (.string ys) := dd 1 _ rfl
    clear dd hb0
    obtain ⟨P1, hP1⟩ : ∃ W, P0.setRow pb #[.bool false, .int .i64 (n : Nat), .int .i64 0, .string ⟨#[]⟩, .int .i64 yl, .string ys, .slice none 0 0, .slice none 0 0] = W := ⟨_, rfl⟩
    have K1 := Lib.hid (show P1.heap[pb]? = some (.cells #[.bool false, .int .i64 (n : Nat), .int .i64 0, .string ⟨#[]⟩, .int .i64 yl, .string ys, .slice none 0 0, .slice none 0 0] 29 (0, 0)) by rw [← hP1]; exact setRow_heap P0 pb _ _ _ _ K0.out)
    have B1 := Lib.hid (show Below pb W1 P1 by rw [← hP1]; exact B0.out.trans (row_under P0 pb _))
    go_wp2_with (refine wpList_store_blk rfl 25 (.tmp 58) (.tmp 57) rfl pb 4 2 rfl #[.bool false, .int .i64 (n : Nat), .int .i64 0, .string ⟨#[]⟩, .int .i64 0, .string ⟨#[]⟩, .slice none 0 0, .slice none 0 0] #[.int .i64 yl, .string ys] #[.bool false, .int .i64 (n : Nat), .int .i64 0, .string ⟨#[]⟩, .int .i64 yl, .string ys, .slice none 0 0, .slice none 0 0] rfl 29 K0.out rfl (show 4 + 2 ≤ 8 by decide) (by kernel_rfl) (leaf_one _ _) rfl ?_; rw [hP1])
    clear hP1 d0 d1 c0
    refine (HHs.out _ (H2.out.2.1.below (hpb ▸ B1.out))).mono ?_
    rintro en h2 ⟨hv2, rfl, hrow2, hb⟩
    obtain ⟨ha2, hc2, rfl, -⟩ := hrow2.shape
    have K2 := Lib.hid (blk_on hb K1.out)
    have B2 := Lib.hid (B1.out.trans (hb.mono (Nat.le_of_lt (lt_of_block K1.out))))
    have HT2 := Lib.hid hrow2.rd
    clear hb hrow2
    go_wp2_with fail
    refine (HP2.out _ _ HT2.out).mono ?_
    rintro en q2 ⟨vv, rfl, hrow, hb⟩
    obtain ⟨va, vc, rfl, -⟩ := hrow.shape
    have K3 := Lib.hid (blk_on hb K2.out)
    have B3 := Lib.hid (B2.out.trans (hb.mono (Nat.le_of_lt (lt_of_block K2.out))))
    have Rv3 := Lib.hid hrow
    have Zv := Lib.hid (show pb < h2.heap.size from lt_of_block K2.out)
    clear hb hrow
    have c7 : q2.cell? ⟨pb, 7, none⟩ = some (.slice none 0 0) := (blk8 K3.out).2.2.2.2.2.2.2
    have f7 : q2.frozen? ⟨pb, 7, none⟩ = false := frozen_of_row q2 pb _ _ _ K3.out
    obtain ⟨P4, hP4⟩ : ∃ W, q2.setCell ⟨pb, 7, none⟩ (.slice va (pathL (hashL l) (n - 1)).length vc) = W := ⟨_, rfl⟩
    have K4 := Lib.hid (show P4.heap[pb]? = some (.cells #[.bool false, .int .i64 (n : Nat), .int .i64 0, .string ⟨#[]⟩, .int .i64 yl, .string ys, .slice none 0 0, .slice va (pathL (hashL l) (n - 1)).length vc] 29 (0, 0)) by rw [← hP4]; exact set8_7 _ K3.out)
    have B4 := Lib.hid (show Below pb W1 P4 by rw [← hP4]; exact B3.out.trans (cell_under q2 pb _ _))
    have Rv4 := Lib.hid (show Row strE P4 h2.heap.size 9 (.slice va (pathL (hashL l) (n - 1)).length vc) (pathL (hashL l) (n - 1)) from by rw [← hP4]; exact Rv3.out.past Zv.out (fun k h => set_ne _ h))
    go_upto_region 12 with fail
    try rw [hP4]
    clear hP4 c7 f7
    obtain ⟨z0, z1, z2, z3, z4, z5, z6, z7⟩ := blk8 K4.out
    have KR := Lib.hid (blk_on (hpb ▸ B4.out) H2.out.2.2)
    obtain ⟨WR, hWR⟩ : ∃ W, P4.setRow w.heap.size #[.bool false, .int .i64 (n : Nat), .int .i64 0, .string ⟨#[]⟩, .int .i64 yl, .string ys, .slice none 0 0, .slice va (pathL (hashL l) (n - 1)).length vc] = W := ⟨_, rfl⟩
    have KE := Lib.hid (show WR.heap[w.heap.size]? = some (.cells #[.bool false, .int .i64 (n : Nat), .int .i64 0, .string ⟨#[]⟩, .int .i64 yl, .string ys, .slice none 0 0, .slice va (pathL (hashL l) (n - 1)).length vc] 29 (0, 0)) by rw [← hWR]; exact setRow_heap P4 _ _ _ _ _ KR.out)
    have BE := Lib.hid (show Below w.heap.size w WR by rw [← hWR]; exact (H2.out.1.trans ((hpb ▸ B4.out : Below W1.heap.size W1 P4).mono H2.out.1.size)).trans (row_under P4 _ _))
    have hlw := H2.out.1.size
    have REv := Lib.hid (show Rd strE WR (.slice va (pathL (hashL l) (n - 1)).length vc) (pathL (hashL l) (n - 1)) by rw [← hWR]; exact (Rv4.out.past (b := w.heap.size) (by have := Zv.out; omega) (fun k h => setRow_other _ _ k _ h)).rd)
    clear hlw
    go_wp2_with (refine wpList_store_blk rfl 29 (.tmp 4) (.tmp 65) rfl w.heap.size 0 8 rfl #[.bool false, .int .i64 0, .int .i64 0, .string ⟨#[]⟩, .int .i64 0, .string ⟨#[]⟩, .slice none 0 0, .slice none 0 0] #[.bool false, .int .i64 (n : Nat), .int .i64 0, .string ⟨#[]⟩, .int .i64 yl, .string ys, .slice none 0 0, .slice va (pathL (hashL l) (n - 1)).length vc] #[.bool false, .int .i64 (n : Nat), .int .i64 0, .string ⟨#[]⟩, .int .i64 yl, .string ys, .slice none 0 0, .slice va (pathL (hashL l) (n - 1)).length vc] rfl 29 KR.out rfl (Nat.le_refl 8) (by kernel_rfl) (prf_one _ _ _ _ _ _ _ _ _ _ _ _) (splice_all _ _ rfl) ?_; rw [hWR])
    clear hWR z0 z1 z2 z3 z4 z5 z6 z7
    obtain ⟨z0, z1, z2, z3, z4, z5, z6, z7⟩ := blk8 KE.out
    refine bodyPost_ret (v := .agg #[.bool false, .int .i64 (n : Nat), .int .i64 0, .string ⟨#[]⟩, .int .i64 yl, .string ys, .slice none 0 0, .slice va (pathL (hashL l) (n - 1)).length vc]) (by simp [results, Try.results19, go_sem, z0, z1, z2, z3, z4, z5, z6, z7]) rfl ?_
    exact HR.out _ _ ⟨.slice none 0 0, .slice va (pathL (hashL l) (n - 1)).length vc, by rw [HV.out]; try rfl, by rw [HV.out]; exact Rd.nil _, by rw [HV.out]; exact REv.out, BE.out⟩
set_option maxRecDepth 100000 in
set_option maxHeartbeats 16000000 in
theorem rprove_nil (lv : Value) (l : List LeafT) (lba : Int) (w : World) (hl : Rd leafE w lv l) (hlen : l.length ≤ 1000000) (n : Nat) (hn : aheadN lba l = n) (hm : metP l lba = false) (hnn : ¬ n < l.length) (h0 : ¬ 0 < n) :
    Calls Try.prog 19 #[lv, .int .i64 lba] w fun e w' => ∃ u v, e = .returned (prfV (proveP l lba) u v) ∧ Rd strE w' u (proveP l lba).up ∧ Rd strE w' v (proveP l lba).left ∧ Below w.heap.size w w' := by
  refine calls_by fun R HR => ?_
  have HL := Lib.hid (And.intro hl hlen)
  have HHs := Lib.hid (fun w h => rhashes_any lv l w h hlen)
  have HV := Lib.hid (show proveP l lba = ⟨false, n, noLeaf, noLeaf, [], []⟩ by
    simp [proveP, hn, hm, here_none (show l.length ≤ n by omega), (show ¬ n < l.length by omega), (show ¬ 0 < n by omega)])
  have HLow := Lib.hid (fun k (h : k < n) x hx => ahead_lt lba l k x (by rw [hn]; exact h) hx)
  obtain ⟨a, cap, rfl, hcap, -⟩ := hl.shape
  have hnl : n ≤ l.length := by rw [← hn]; exact ahead_le lba l
  clear hl hm hn
  have hli : (l.length : Int) ≤ 1000000 := by omega
  have H1 := Lib.hid (And.intro (Below.refl w.heap.size w) (HL.out.1))
  obtain ⟨W1, hW1⟩ : ∃ W1, w.alloc (.cells #[.bool false, .int .i64 0, .int .i64 0, .string ⟨#[]⟩, .int .i64 0, .string ⟨#[]⟩, .slice none 0 0, .slice none 0 0] 29) = W1 := ⟨_, rfl⟩
  have hbW1 : Below w.heap.size w W1 := by rw [← hW1]; exact alloc_below w _
  have kW1 : W1.heap[w.heap.size]? = some (.cells #[.bool false, .int .i64 0, .int .i64 0, .string ⟨#[]⟩, .int .i64 0, .string ⟨#[]⟩, .slice none 0 0, .slice none 0 0] 29 (0, 0)) := by rw [← hW1]; exact alloc_new w _
  have H2 := Lib.hid (And.intro (H1.out.1.trans (hbW1.mono H1.out.1.size)) (And.intro (H1.out.2.below hbW1) (kW1)))
  clear hbW1 kW1
  go_enter Try.func19, Try.ntmps19
  go_wp2_with fail
  clear hW1
  go_loopw [5] (fun i wx => ∃ (k : Nat), k ≤ n ∧ i = .int .i64 k ∧ W1 = wx) (fun i _ => n - (intOf i).toNat)
  case atStart => exact ⟨0, Nat.zero_le _, rfl, rfl⟩
  case round =>
    obtain ⟨k, hk, rfl, hwr⟩ := hrel
    subst hwr
    by_cases hlt : k < n
    · exact absurd hlt (by omega)
    obtain rfl : n = k := by omega
    clear hlt hk
    obtain ⟨pb, hpb⟩ : ∃ pb, W1.heap.size = pb := ⟨_, rfl⟩
    obtain ⟨P0, hP0⟩ : ∃ P0, W1.alloc (.cells #[.bool false, .int .i64 (n : Nat), .int .i64 0, .string ⟨#[]⟩, .int .i64 0, .string ⟨#[]⟩, .slice none 0 0, .slice none 0 0] 29) = P0 := ⟨_, rfl⟩
    have K0 := Lib.hid (show P0.heap[pb]? = some (.cells #[.bool false, .int .i64 (n : Nat), .int .i64 0, .string ⟨#[]⟩, .int .i64 0, .string ⟨#[]⟩, .slice none 0 0, .slice none 0 0] 29 (0, 0)) by rw [← hP0, ← hpb]; exact alloc_new W1 _)
    have B0 := Lib.hid (show Below pb W1 P0 by rw [← hP0, ← hpb]; exact alloc_below W1 _)
    have Z0 := Lib.hid (show pb < P0.heap.size from lt_of_block K0.out)
    have E0 := Lib.hid hP0
    clear hP0
    have hni : ¬ (n : Int) < (l.length : Int) := by omega
    go_upto_region 5 with fail
    rw [E0.out]
    clear E0
    have c0 : P0.cell? ⟨pb, 0, none⟩ = some (.bool false) := (blk8 K0.out).1
    have hn0 : ¬ (0 : Int) < (n : Int) := by omega
    go_upto_region 12 with fail
    clear c0
    obtain ⟨z0, z1, z2, z3, z4, z5, z6, z7⟩ := blk8 K0.out
    have KR := Lib.hid (blk_on (hpb ▸ B0.out) H2.out.2.2)
    obtain ⟨WR, hWR⟩ : ∃ W, P0.setRow w.heap.size #[.bool false, .int .i64 (n : Nat), .int .i64 0, .string ⟨#[]⟩, .int .i64 0, .string ⟨#[]⟩, .slice none 0 0, .slice none 0 0] = W := ⟨_, rfl⟩
    have KE := Lib.hid (show WR.heap[w.heap.size]? = some (.cells #[.bool false, .int .i64 (n : Nat), .int .i64 0, .string ⟨#[]⟩, .int .i64 0, .string ⟨#[]⟩, .slice none 0 0, .slice none 0 0] 29 (0, 0)) by rw [← hWR]; exact setRow_heap P0 _ _ _ _ _ KR.out)
    have BE := Lib.hid (show Below w.heap.size w WR by rw [← hWR]; exact (H2.out.1.trans ((hpb ▸ B0.out : Below W1.heap.size W1 P0).mono H2.out.1.size)).trans (row_under P0 _ _))
    have hlw := H2.out.1.size
    clear hlw
    go_wp2_with (refine wpList_store_blk rfl 29 (.tmp 4) (.tmp 65) rfl w.heap.size 0 8 rfl #[.bool false, .int .i64 0, .int .i64 0, .string ⟨#[]⟩, .int .i64 0, .string ⟨#[]⟩, .slice none 0 0, .slice none 0 0] #[.bool false, .int .i64 (n : Nat), .int .i64 0, .string ⟨#[]⟩, .int .i64 0, .string ⟨#[]⟩, .slice none 0 0, .slice none 0 0] #[.bool false, .int .i64 (n : Nat), .int .i64 0, .string ⟨#[]⟩, .int .i64 0, .string ⟨#[]⟩, .slice none 0 0, .slice none 0 0] rfl 29 KR.out rfl (Nat.le_refl 8) (by kernel_rfl) (prf_one _ _ _ _ _ _ _ _ _ _ _ _) (splice_all _ _ rfl) ?_; rw [hWR])
    clear hWR z0 z1 z2 z3 z4 z5 z6 z7
    obtain ⟨z0, z1, z2, z3, z4, z5, z6, z7⟩ := blk8 KE.out
    refine bodyPost_ret (v := .agg #[.bool false, .int .i64 (n : Nat), .int .i64 0, .string ⟨#[]⟩, .int .i64 0, .string ⟨#[]⟩, .slice none 0 0, .slice none 0 0]) (by simp [results, Try.results19, go_sem, z0, z1, z2, z3, z4, z5, z6, z7]) rfl ?_
    exact HR.out _ _ ⟨.slice none 0 0, .slice none 0 0, by rw [HV.out]; try rfl, by rw [HV.out]; exact Rd.nil _, by rw [HV.out]; exact Rd.nil _, BE.out⟩
theorem rprove_yes (lv : Value) (l : List LeafT) (lba : Int) (w : World) (hl : Rd leafE w lv l) (hlen : l.length ≤ 1000000) :
    Calls Try.prog 19 #[lv, .int .i64 lba] w fun e w' => ∃ u v, e = .returned (prfV (proveP l lba) u v) ∧ Rd strE w' u (proveP l lba).up ∧ Rd strE w' v (proveP l lba).left ∧ Below w.heap.size w w' := by
  obtain ⟨n, hn⟩ : ∃ n, aheadN lba l = n := ⟨_, rfl⟩
  have hle : n ≤ l.length := by rw [← hn]; exact ahead_le lba l
  by_cases h1 : n < l.length
  · have hx : l[n]? = some l[n] := List.getElem?_eq_getElem h1
    cases hm : metP l lba
    · by_cases h0 : 0 < n
      · exact rprove_mid lv l lba w hl hlen n hn hm h1 _ hx h0 (by omega) _ (List.getElem?_eq_getElem (show n - 1 < l.length by omega))
      · exact rprove_low lv l lba w hl hlen n hn hm h1 _ hx (by omega)
    · exact rprove_met lv l lba w hl hlen n hn hm h1 _ hx
  · have hm : metP l lba = false := by unfold metP; rw [hn, List.getElem?_eq_none (by omega)]
    by_cases h0 : 0 < n
    · exact rprove_top lv l lba w hl hlen n hn hm (by omega) h0 (by omega) _ (List.getElem?_eq_getElem (show n - 1 < l.length by omega))
    · exact rprove_nil lv l lba w hl hlen n hn hm (by omega) (by omega)
end Go.Proofs.Ytelmcoedmkhkjaa
/- Slices among a law's arguments, of whatever elements: what they read as. No program is in sight. -/
namespace Ks
open Go Go.RowKit Go.ChangeShapes Go.WideShapes Go.ChangeAt
set_option linter.unusedVariables false

section
variable {α : Type} {E : Enc α} {H : Type} {enc : TypeId × Value → H} {P : Program} {W : World}

theorem cells_at {w : World} {base : Nat} {a : Addr} {k : Nat} {cs : List Value} (h : w.cells? base a k = some cs) : cs.length = k ∧ ∀ j u, cs[j]? = some u → w.cell? (a.add j) = some u := by
  obtain ⟨_, h2, h3⟩ := World.cells?_some h
  refine ⟨h2, fun j u hj => ?_⟩
  have hlt : j < k := by have := (List.getElem?_eq_some_iff.1 hj).1; omega
  have := h3 j hlt
  rw [hj] at this
  exact this

theorem rd_opens {T e : TypeId} {fuel : Nat} {cs : List Value} {d : DataW H × List MemPlace} (hT : P.underlying T = some (.slice e)) (hc : P.cellsOf e = E.k) (G : α → Prop)
    (hE : ∀ n cs d, DataW.trod enc P W 0 (fun _ => true) true n e cs = some d → cs.length = E.k → ∃ x, cs = E.enc x ∧ G x)
    (h : DataW.trod enc P W 0 (fun _ => true) true fuel T cs = some d) : ∃ v l, cs = [v] ∧ v.oneCell' = true ∧ Rd E W v l ∧ l.length ≤ maxLen ∧ ∀ x ∈ l, G x := by
  rcases Go.Deep.open_slice hT h with ⟨rfl, _⟩ | ⟨a, len, cap, m, n, D, Pl, rfl, _, hl, hm, hmm, _, hxx⟩
  · exact ⟨_, [], rfl, rfl, Rd.nil W, by simp, fun x hx => by simp at hx⟩
  · simp only [if_true] at hmm
    have hall : ∀ i, i < len → ∃ x : α, G x ∧ ∀ j u, (E.enc x)[j]? = some u → W.cell? ((a.add (i * E.k)).add j) = some u := by
      intro i hi
      obtain ⟨cs', h1, h2⟩ := hxx i (by omega)
      rw [hc] at h1
      obtain ⟨h3, h4⟩ := cells_at h1
      obtain ⟨x, rfl, hG⟩ := hE _ _ _ h2 h3
      exact ⟨x, hG, h4⟩
    have key : ∀ k, k ≤ len → ∃ l : List α, l.length = k ∧ (∀ x ∈ l, G x) ∧ ∀ i x, l[i]? = some x → ∀ j u, (E.enc x)[j]? = some u → W.cell? ((a.add (i * E.k)).add j) = some u := by
      intro k
      induction k with
      | zero => exact fun _ => ⟨[], rfl, fun x hx => by simp at hx, fun i x hx => by simp at hx⟩
      | succ k ih =>
        intro hk
        obtain ⟨l, h1, h2, h3⟩ := ih (by omega)
        obtain ⟨x, hG, hc⟩ := hall k (by omega)
        refine ⟨l ++ [x], by simp [h1], fun y hy => ?_, fun i y hy => ?_⟩
        · rcases List.mem_append.1 hy with h | h
          · exact h2 y h
          · simp at h; subst h; exact hG
        · by_cases hi : i < l.length
          · rw [List.getElem?_append_left hi] at hy
            exact h3 i y hy
          · have hik : i = k := by have := (List.getElem?_eq_some_iff.1 hy).1; simp at this; omega
            subst hik
            rw [List.getElem?_append_right (by omega), h1, Nat.sub_self] at hy
            simp at hy
            subst hy
            exact hc
    obtain ⟨l, hlen, hG, hcell⟩ := key len (Nat.le_refl _)
    subst hlen
    refine ⟨_, l, rfl, rfl, ⟨some a, cap, rfl, hl, fun e => by simp at e, fun i x hx => ?_⟩, by omega, hG⟩
    have h0 : 0 < (E.enc x).length := by rw [E.len]; exact E.pos
    have hlt : 0 < l.length := by have := (List.getElem?_eq_some_iff.1 hx).1; omega
    have h00 : 0 < (E.enc l[0]).length := by rw [E.len]; exact E.pos
    have hc0 := hcell 0 l[0] (List.getElem?_eq_getElem hlt) 0 _ (List.getElem?_eq_getElem h00)
    obtain ⟨b, o, s⟩ := a
    have ha : ((⟨b, o, s⟩ : Addr).add (0 * E.k)).add 0 = ⟨b, o, s⟩ := by simp [Addr.add]
    rw [ha] at hc0
    have hs : s = none := spot_none hc0
    subst hs
    refine ⟨b, o, rfl, ?_, fun j u hu => ?_⟩
    · exact World.block_lt_of_cell? _ _ hc0
    · have := hcell i x hx j u hu
      rwa [add_place, add_place] at this

theorem rd_open {T e : TypeId} {base : Nat} {v : Value} {d : DataW H} {ps : List MemPlace} (hT : P.underlying T = some (.slice e)) (hc : P.cellsOf e = E.k) (G : α → Prop)
    (hE : ∀ n cs d, DataW.trod enc P W 0 (fun _ => true) true n e cs = some d → cs.length = E.k → ∃ x, cs = E.enc x ∧ G x)
    (hok : Value.okWide P W .any base T v) (h : DataW.Trod enc P W 0 (fun _ => true) true T v d ps) : ∃ l, Rd E W v l ∧ l.length ≤ maxLen ∧ ∀ x ∈ l, G x := by
  obtain ⟨a0, len, cap, rfl⟩ := okWide_slice hT hok
  obtain ⟨fuel, hf⟩ := h
  obtain ⟨v', l, e, _, h1, h2, h3⟩ := rd_opens (E := E) hT hc G hE hf
  simp only [Value.cells, List.cons.injEq, and_true] at e
  subst e
  exact ⟨l, h1, h2, h3⟩
end

theorem choose_list {α β : Type} {p : α → β → Prop} : ∀ (l : List α), (∀ x ∈ l, ∃ y, p x y) → ∃ l' : List β, l'.length = l.length ∧ ∀ (i : Nat) (x : α) (y : β), l[i]? = some x → l'[i]? = some y → p x y
  | [], _ => ⟨[], rfl, fun i x y hx => by simp at hx⟩
  | x :: l, h => by
    obtain ⟨y, hy⟩ := h x (by simp)
    obtain ⟨l', h1, h2⟩ := choose_list l fun z hz => h z (by simp [hz])
    refine ⟨y :: l', by simp [h1], fun i a b ha hb => ?_⟩
    match i, ha, hb with
    | 0, ha, hb => simp at ha hb; subst ha hb; exact hy
    | i + 1, ha, hb => exact h2 i a b (by simpa using ha) (by simpa using hb)

/-- a slice's head, as data -/
abbrev Hdr := Option Addr × Nat × Nat
abbrev hdrV (h : Hdr) : Value := .slice h.1 h.2.1 h.2.2
end Ks
/- Texts among a law's arguments. -/
namespace Go.Proofs.Ytelmcoedmkhkjaa
open Go Go.RowKit Go.ChangeShapes Go.WideShapes Go.ChangeAt Ks
set_option linter.unusedVariables false
theorem cellsStrS : Try.prog.cellsOf 9 = 1 := by kernel_rfl
theorem str_of {H : Type} {enc : TypeId × Value → H} {W : World} (n : Nat) (cs : List Value) (d : DataW H × List MemPlace) (h : DataW.trod enc Try.prog W 0 (fun _ => true) true n 9 cs = some d) (hl : cs.length = strE.k) :
    ∃ x : ByteArray, cs = strE.enc x ∧ x.size ≤ maxLen := by
  obtain ⟨t, h1, _, s1⟩ := DataW.trod_string Try.underlying9 h
  exact ⟨t, h1, s1⟩
set_option maxRecDepth 100000 in
theorem open_strs {H : Type} {enc : TypeId × Value → H} {W : World} {base : Nat} {v : Value} {d : DataW H} {ps : List MemPlace}
    (hok : Value.okWide Try.prog W .any base 26 v) (h : DataW.Trod enc Try.prog W 0 (fun _ => true) true 26 v d ps) : ∃ l, Rd strE W v l ∧ l.length ≤ maxLen ∧ ∀ x ∈ l, x.size ≤ maxLen :=
  rd_open (E := strE) Try.underlying26 cellsStrS _ str_of hok h
end Go.Proofs.Ytelmcoedmkhkjaa
/- Leaves and a proof among a law's arguments. -/
namespace Go.Proofs.Ytelmcoedmkhkjaa
open Go Go.RowKit Go.ChangeShapes Go.WideShapes Go.ChangeAt Ks
set_option linter.unusedVariables false
theorem cellsLeafP : Try.prog.cellsOf 25 = 2 := by kernel_rfl
theorem cellsIntP : Try.prog.cellsOf 3 = 1 := by kernel_rfl
theorem cellsBoolP : Try.prog.cellsOf 4 = 1 := by kernel_rfl
theorem cellsStringP : Try.prog.cellsOf 9 = 1 := by kernel_rfl
theorem cellsPathP : Try.prog.cellsOf 27 = 1 := by kernel_rfl
theorem cellsProofP : Try.prog.cellsOf 29 = 8 := by kernel_rfl
set_option maxRecDepth 100000 in
theorem leaf_of {H : Type} {enc : TypeId × Value → H} {W : World} (n : Nat) (cs : List Value) (d : DataW H × List MemPlace) (h : DataW.trod enc Try.prog W 0 (fun _ => true) true n 25 cs = some d) (hl : cs.length = leafE.k) :
    ∃ x : LeafT, cs = leafE.enc x ∧ x.2.size ≤ maxLen := by
  obtain ⟨xs, n, _, _, hl, hlen, hF⟩ := DataW.trod_struct Try.underlying25 h
  rw [cellsLeafP] at hl
  match cs, hl, xs, hlen with
  | [c0, c1], _, [x0, x1], _ =>
    have t0 := hF 0 _ rfl
    have t1 := hF 1 _ rfl
    simp [cellsIntP, cellsStringP] at t0 t1
    obtain ⟨e, h0, _, s0⟩ := DataW.trod_int Try.underlying3 t0
    obtain ⟨t, h1, _, s1⟩ := DataW.trod_string Try.underlying9 t1
    simp at h0 h1
    subst h0 h1
    exact ⟨(e, t), rfl, s1⟩
set_option maxRecDepth 100000 in
theorem open_leaves {H : Type} {enc : TypeId × Value → H} {W : World} {base : Nat} {v : Value} {d : DataW H} {ps : List MemPlace}
    (hok : Value.okWide Try.prog W .any base 22 v) (h : DataW.Trod enc Try.prog W 0 (fun _ => true) true 22 v d ps) : ∃ l, Rd leafE W v l ∧ l.length ≤ maxLen ∧ ∀ x ∈ l, x.2.size ≤ maxLen :=
  rd_open (E := leafE) Try.underlying22 cellsLeafP _ leaf_of hok h
set_option maxRecDepth 100000 in
theorem open_proof {H : Type} {enc : TypeId × Value → H} {W : World} {base : Nat} {v : Value} {d : DataW H} {ps : List MemPlace}
    (hok : Value.okWide Try.prog W .any base 29 v) (h : DataW.Trod enc Try.prog W 0 (fun _ => true) true 29 v d ps) :
    ∃ p u t, v = prfV p u t ∧ Rd strE W u p.up ∧ Rd strE W t p.left ∧ p.up.length ≤ maxLen ∧ p.left.length ≤ maxLen := by
  obtain ⟨fuel, hf⟩ := h
  have hv : ∃ cs, v = .agg cs := by
    have h0 := hok
    unfold Value.okWide at h0
    rw [Try.underlying29] at h0
    obtain ⟨cs, h1, _⟩ := h0
    exact ⟨cs, h1⟩
  obtain ⟨⟨cs⟩, rfl⟩ := hv
  obtain ⟨xs, n, _, _, hl, hlen, hF⟩ := DataW.trod_struct Try.underlying29 hf
  rw [cellsProofP] at hl
  simp only [Value.cells] at hl hF
  match cs, hl, xs, hlen with
  | [c0, c1, c2, c3, c4, c5, c6, c7], _, [x0, x1, x2, x3, x4, x5], _ =>
    have t0 := hF 0 _ rfl
    have t1 := hF 1 _ rfl
    have t2 := hF 2 _ rfl
    have t3 := hF 3 _ rfl
    have t4 := hF 4 _ rfl
    have t5 := hF 5 _ rfl
    simp [cellsLeafP, cellsIntP, cellsBoolP, cellsPathP] at t0 t1 t2 t3 t4 t5
    obtain ⟨f, h0, _⟩ := DataW.trod_bool Try.underlying4 t0
    obtain ⟨a, h1, _, s1⟩ := DataW.trod_int Try.underlying3 t1
    obtain ⟨⟨m, hs⟩, h2, s2⟩ := leaf_of _ _ _ t2 rfl
    obtain ⟨⟨k, as9⟩, h3, s3⟩ := leaf_of _ _ _ t3 rfl
    obtain ⟨u, U, h4, _, r4, m4, _⟩ := rd_opens (E := strE) Try.underlying27 cellsStringP _ str_of t4
    obtain ⟨v, V, h5, _, r5, m5, _⟩ := rd_opens (E := strE) Try.underlying27 cellsStringP _ str_of t5
    simp [leafE] at h0 h1 h2 h3 h4 h5
    obtain ⟨g2, g3⟩ := h2
    obtain ⟨g4, g5⟩ := h3
    subst h0 h1 g2 g3 g4 g5 h4 h5
    exact ⟨⟨f, a, (m, hs), (k, as9), U, V⟩, _, _, rfl, r4, r5, m4, m5⟩
end Go.Proofs.Ytelmcoedmkhkjaa
