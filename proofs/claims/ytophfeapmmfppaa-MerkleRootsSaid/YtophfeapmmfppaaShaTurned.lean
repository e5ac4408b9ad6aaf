/- What a block turns a state to: the program's turned. -/
import Derived.Test.YtophfeapmmfppaaShaWords
import Derived.Test.YtophfeapmmfppaaShaConst
import Derived.Deep.DeepCutAuto
namespace Ks
open Go Go.RowKit
theorem Nums.row {w : World} {b : Nat} {t : TypeId} {old : Array Value} (h : w.heap[b]? = some (.cells old t (0, 0))) (L : List Nat) : Nums (w.setRow b (u32s L)) b t L := ⟨setRow_heap _ _ _ _ _ _ h⟩
theorem Nums.rowOther {w : World} {b c : Nat} {t : TypeId} {L : List Nat} (h : Nums w b t L) (C : Array Value) (hc : b ≠ c) : Nums (w.setRow c C) b t L := ⟨(setRow_other _ _ _ _ hc).trans h.blk⟩
theorem Nums.alloc {w : World} {b : Nat} {t : TypeId} {L : List Nat} (h : Nums w b t L) (o : Obj) : Nums (w.alloc o) b t L := ⟨blk_keep h.blk o⟩
theorem Nums.new (w : World) (t : TypeId) (L : List Nat) : Nums (w.alloc (.cells (u32s L) t)) w.heap.size t L := ⟨alloc_new _ _⟩
theorem ch_bits (e f g : Nat) (he : e < 4294967296) (hf : f < 4294967296) (hg : g < 4294967296) : bits .xor .u32 (g : Int) (bits .and .u32 (e : Int) (bits .xor .u32 (f : Int) (g : Int))) = ((chN e f g : Nat) : Int) := by
  rw [xor_u32 f g hf hg, and_u32 e _ he (xor32 hf hg), xor_u32 g _ hg (and32 (xor32 hf hg)), ch_parts e f g he hg]
theorem maj_bits (a b c : Nat) (ha : a < 4294967296) (hb : b < 4294967296) (hc : c < 4294967296) : bits .or .u32 (bits .and .u32 (a : Int) (b : Int)) (bits .and .u32 (c : Int) (bits .or .u32 (a : Int) (b : Int))) = ((majN a b c : Nat) : Int) := by
  rw [and_u32 a b ha hb, or_u32 a b ha hb, and_u32 c _ hc (or32 ha hb), or_u32 _ _ (and32 hb) (and32 (or32 ha hb)), maj_parts]
/-- the first so many sums -/
def sumsN (Y X : List Nat) (k : Nat) : List Nat := (List.range 8).map fun i => if i < k then (Y.getD i 0 + X.getD i 0) % 4294967296 else Y.getD i 0
theorem sumsN_length (Y X : List Nat) (k : Nat) : (sumsN Y X k).length = 8 := by simp [sumsN]
set_option linter.unusedVariables false in
theorem sumsN_get (Y X : List Nat) (k : Nat) (hk : k < 8) : (sumsN Y X k).getD k 0 = Y.getD k 0 := by
  simp [sumsN, hk]
set_option linter.unusedVariables false in
theorem sumsN_set (Y X : List Nat) (k : Nat) (hk : k < 8) : (sumsN Y X k).set k ((Y.getD k 0 + X.getD k 0) % 4294967296) = sumsN Y X (k + 1) := by
  refine List.ext_getElem (by simp [sumsN]) fun i h1 h2 => ?_
  rw [List.getElem_set]
  simp only [sumsN, List.getElem_map, List.getElem_range]
  by_cases e : k = i
  · subst e; simp
  · rw [if_neg e]
    by_cases h : i < k
    · rw [if_pos h, if_pos (by omega)]
    · rw [if_neg h, if_neg (by omega)]
theorem sumsN_zero (s : St) (X : List Nat) : sumsN s.list X 0 = s.list := rfl
theorem sumsN_all (s x : St) : sumsN s.list x.list 8 = (addN s x).list := rfl
end Ks
namespace Go.Proofs.Ytophfeapmmfppaa
open Go.RowKit Ks
set_option linter.unusedVariables false

set_option maxRecDepth 20000 in
set_option maxHeartbeats 1000000 in
theorem turned_any (x : St) (s : ByteArray) (w : World) (hx : x.ok) (h : s.size = 64) :
    Calls Try.prog 40 #[.agg (u32s x.list), .string s] w fun e w' => e = .returned (.agg (u32s (turnN x s.data.toList).list)) ∧ Below w.heap.size w w' := by
  refine calls_by fun R HR => ?_
  obtain ⟨C, hC⟩ : ∃ C, u32s x.list = C := ⟨_, rfl⟩
  rw [hC]
  have HC := Lib.hid hC
  clear hC
  go_enter Try.func40, Try.ntmps40
  go_wp2_with fail
  refine (words_any s _ h).mono ?_
  rintro e w1 ⟨rfl, hb1⟩
  obtain ⟨CW, hCW⟩ : ∃ CW, u32s (wordsN s.data.toList 64) = CW := ⟨_, rfl⟩
  rw [hCW]
  have HCW := Lib.hid hCW
  clear hCW
  have HB1 := Lib.hid hb1
  clear hb1
  go_wp2_with fail
  refine (constants_any _).mono ?_
  rintro e w2 ⟨rfl, hb2⟩
  obtain ⟨CK, hCK⟩ : ∃ CK, u32s kays = CK := ⟨_, rfl⟩
  rw [hCK]
  have HCK := Lib.hid hCK
  clear hCK
  have HB2 := Lib.hid hb2
  clear hb2
  have sW : CW.size = 64 := by rw [← HCW.out, u32s_size, wordsN_length]
  have sK : CK.size = 64 := by rw [← HCK.out]; rfl
  have SW := Lib.hid sW
  have SK := Lib.hid sK
  clear sW sK
  go_upto_region 2 with (first
    | refine wpList_storeA rfl 82 (.tmp 5) (.tmp 19) rfl _ 82 _ CW 64 rfl rfl (blk_keep (alloc_new _ _) _) (by kernel_rfl) SW.out rfl (by rw [← HCW.out]; exact u32s_one _) ?_
    | refine wpList_storeA rfl 82 (.tmp 6) (.tmp 20) rfl _ 82 _ CK 64 rfl rfl ((setRow_other _ _ _ _ (by omega)).trans (alloc_new2 _ _ _)) (by kernel_rfl) SK.out rfl (by rw [← HCK.out]; exact u32s_one _) ?_)
  obtain ⟨W0, hW0⟩ : ∃ W0, w.alloc (.cells C 67) = W0 := ⟨_, rfl⟩
  have k0 : Nums W0 w.heap.size 67 x.list := by rw [← hW0, ← HC.out]; exact Nums.new _ _ _
  have z0 : W0.heap.size = w.heap.size + 1 := by rw [← hW0]; exact World.size_alloc _ _
  have kb0 : Below w.heap.size w W0 := by rw [← hW0]; exact alloc_below w _
  have B1 := HB1.out
  rw [hW0] at B1
  obtain ⟨W1, hW1⟩ : ∃ W1, W0.alloc (.cells (u32s (List.replicate 8 0)) 67) = W1 := ⟨_, rfl⟩
  change Below (W0.alloc (.cells (u32s (List.replicate 8 0)) 67)).heap.size (W0.alloc (.cells (u32s (List.replicate 8 0)) 67)) w1 at B1
  have k1 : Nums W1 (w.heap.size + 1) 67 (List.replicate 8 0) := by rw [← hW1, ← z0]; exact Nums.new _ _ _
  have k0' : Nums W1 w.heap.size 67 x.list := by rw [← hW1]; exact k0.alloc _
  have z1 : W1.heap.size = w.heap.size + 2 := by rw [← hW1, World.size_alloc, z0]
  have kb1 : Below w.heap.size w W1 := by rw [← hW1]; exact kb0.trans ((alloc_below W0 _).mono (by omega))
  rw [hW1] at B1
  have z2 := B1.size
  have B2 := HB2.out
  have z3 := B2.size
  have BW := kb1.trans ((B1.mono (by omega)).trans (B2.mono (by omega)))
  refine code_cut (fun W => Nums W w.heap.size 67 x.list ∧ Nums W (w.heap.size + 1) 67 (List.replicate 8 0) ∧ Nums W w2.heap.size 82 (wordsN s.data.toList 64) ∧ Nums W (w2.heap.size + 1) 82 kays ∧ Below w.heap.size w W ∧ W.heap.size = w2.heap.size + 2) ?_ ?_
  · refine ⟨(((((k0'.keep B1).keep B2).alloc _).alloc _).rowOther _ (by omega)).rowOther _ (by omega), (((((k1.keep B1).keep B2).alloc _).alloc _).rowOther _ (by omega)).rowOther _ (by omega), ?_, ?_, ?_, ?_⟩
    · rw [← HCW.out]
      exact (Nums.row (blk_keep (alloc_new _ _) _) _).rowOther _ (by omega)
    · rw [← HCK.out]
      exact Nums.row ((setRow_other _ _ _ _ (by omega)).trans (alloc_new2 _ _ _)) _
    · exact below_setRow (below_setRow ((BW.alloc (by omega) _).alloc (by simp; omega) _) (by omega) _) (by omega) _
    · simp
  intro W hF
  have HF := Lib.hid hF
  have Hz := Lib.hid (show w.heap.size + 2 ≤ w2.heap.size by omega)
  clear hF hW0 hW1 k0 k0' z0 kb0 B1 k1 z1 kb1 z2 B2 z3 BW HB1 HB2
  generalize w2.heap.size = b5 at *
  have HS := Lib.hid (show (u32s x.list).size = 8 from rfl)
  clear SW SK HCW HCK
  go_wp2_with (first
    | refine wpList_loadA rfl 67 (.tmp 2) rfl _ 67 _ _ 8 8 rfl HF.out.1.blk Try.underlying67 (by kernel_rfl) HS.out ?_
    | refine wpList_storeN rfl 67 (.tmp 7) (.tmp 21) rfl 67 _ (u32s x.list) 8 rfl rfl (by kernel_rfl) HS.out rfl (u32s_one _) ?_)
  have HF2 := Lib.hid (show Nums (W.alloc (.cells (u32s x.list) 67)) (b5 + 2) 67 x.list ∧ Nums (W.alloc (.cells (u32s x.list) 67)) w.heap.size 67 x.list ∧ Nums (W.alloc (.cells (u32s x.list) 67)) (w.heap.size + 1) 67 (List.replicate 8 0) ∧ Nums (W.alloc (.cells (u32s x.list) 67)) b5 82 (wordsN s.data.toList 64) ∧ Nums (W.alloc (.cells (u32s x.list) 67)) (b5 + 1) 82 kays ∧ Below w.heap.size w (W.alloc (.cells (u32s x.list) 67)) from by
    obtain ⟨f1, f2, f3, f4, f5, f6⟩ := HF.out
    refine ⟨?_, f1.alloc _, f2.alloc _, f3.alloc _, f4.alloc _, f5.trans ((alloc_below W _).mono f5.size)⟩
    rw [← f6]; exact Nums.new _ _ _)
  have hz := HF.out.2.2.2.2.2
  rw [hz]
  generalize W.alloc (.cells (u32s x.list) 67) = W3 at *
  clear hz HF HS HC
  generalize u32s x.list = CX at *
  go_loopw [22] (fun i wx => ∃ k : Nat, k ≤ 64 ∧ i = .int .i64 k ∧ Hid (Nums wx (b5 + 2) 67 (roundsN x (wordsN s.data.toList 64) k).list ∧ Nums wx w.heap.size 67 x.list ∧ Nums wx (w.heap.size + 1) 67 (List.replicate 8 0) ∧ Nums wx b5 82 (wordsN s.data.toList 64) ∧ Nums wx (b5 + 1) 82 kays ∧ Below w.heap.size w wx)) (fun i _ => 64 - (intOf i).toNat)
  case atStart => exact ⟨0, by omega, rfl, HF2⟩
  case round =>
    obtain ⟨k, hk, rfl, hN⟩ := hrel
    by_cases hlt : k < 64
    · obtain ⟨n7, n0, n1, n5, n6, nb⟩ := hN.out
      have hY := roundsN_ok hx (wordsN s.data.toList 64) k
      have hl7 : (wordsN s.data.toList 64).length = 64 := wordsN_length _ _
      obtain ⟨kk, hkk⟩ : ∃ kk, kays.getD k 0 = kk := ⟨_, rfl⟩
      obtain ⟨ww, hww⟩ : ∃ ww, (wordsN s.data.toList 64).getD k 0 = ww := ⟨_, rfl⟩
      have hs : roundsN x (wordsN s.data.toList 64) (k + 1) = roundN (roundsN x (wordsN s.data.toList 64) k) kk ww := by rw [← hkk, ← hww]; rfl
      have ck := n6.cell k hlt
      have cw := n5.cell k (by omega)
      rw [hkk] at ck
      rw [hww] at cw
      obtain ⟨Y, hYY⟩ : ∃ Y, roundsN x (wordsN s.data.toList 64) k = Y := ⟨_, rfl⟩
      rw [hYY] at hs hY n7
      have c0 := n7.cell 0 (show 0 < 8 by decide)
      have c1 := n7.cell 1 (show 1 < 8 by decide)
      have c2 := n7.cell 2 (show 2 < 8 by decide)
      have c3 := n7.cell 3 (show 3 < 8 by decide)
      have c4 := n7.cell 4 (show 4 < 8 by decide)
      have c5 := n7.cell 5 (show 5 < 8 by decide)
      have c6 := n7.cell 6 (show 6 < 8 by decide)
      have c7 := n7.cell 7 (show 7 < 8 by decide)
      have HN := Lib.hid (And.intro n7 (And.intro n0 (And.intro n1 (And.intro n5 (And.intro n6 nb)))))
      clear n7 n0 n1 n5 n6 nb hN hkk hww hYY HF2
      obtain ⟨ya, yb, yc, yd, ye, yf, yg, yh⟩ := Y
      change wr.cell? ⟨b5 + 2, 0, none⟩ = some (.int .u32 (ya : Int)) at c0
      change wr.cell? ⟨b5 + 2, 1, none⟩ = some (.int .u32 (yb : Int)) at c1
      change wr.cell? ⟨b5 + 2, 2, none⟩ = some (.int .u32 (yc : Int)) at c2
      change wr.cell? ⟨b5 + 2, 3, none⟩ = some (.int .u32 (yd : Int)) at c3
      change wr.cell? ⟨b5 + 2, 4, none⟩ = some (.int .u32 (ye : Int)) at c4
      change wr.cell? ⟨b5 + 2, 5, none⟩ = some (.int .u32 (yf : Int)) at c5
      change wr.cell? ⟨b5 + 2, 6, none⟩ = some (.int .u32 (yg : Int)) at c6
      change wr.cell? ⟨b5 + 2, 7, none⟩ = some (.int .u32 (yh : Int)) at c7
      obtain ⟨ya1, yb1, yc1, yd1, ye1, yf1, yg1, yh1⟩ := hY
      have T1 := Lib.hid (fun w : World => three_turn ye 6 11 25 w ye1 (by decide) (by decide) (by decide))
      have T2 := Lib.hid (fun w : World => three_turn ya 2 13 22 w ya1 (by decide) (by decide) (by decide))
      have HS := Lib.hid hs
      have HL := Lib.hid (And.intro ya1 (And.intro yb1 (And.intro yc1 (And.intro yd1 (And.intro ye1 (And.intro yf1 (And.intro yg1 yh1)))))))
      have HX := Lib.hid hx
      clear hs ya1 yb1 yc1 yd1 ye1 yf1 yg1 yh1 hx hl7
      go_wp2_with fail
      go_quiet (fail)
      go_wp2_with fail
      have hbd := below_drewN (Below.refl wr.heap.size wr) nq
      have HM := Lib.hid (And.intro (HN.out.1.keep hbd) (And.intro (HN.out.2.1.keep hbd) (And.intro (HN.out.2.2.1.keep hbd) (And.intro (HN.out.2.2.2.1.keep hbd) (And.intro (HN.out.2.2.2.2.1.keep hbd) (HN.out.2.2.2.2.2.trans (hbd.mono HN.out.2.2.2.2.2.size)))))))
      have d7 := HM.out.1.cell 7 (show 7 < 8 by decide)
      have d3 := HM.out.1.cell 3 (show 3 < 8 by decide)
      change World.cell? _ ⟨b5 + 2, 7, none⟩ = some (.int .u32 (yh : Int)) at d7
      change World.cell? _ ⟨b5 + 2, 3, none⟩ = some (.int .u32 (yd : Int)) at d3
      have dk := (hbd.cell (p := ⟨b5 + 1, k, none⟩) HN.out.2.2.2.2.1.lt).trans ck
      have dw := (hbd.cell (p := ⟨b5, k, none⟩) HN.out.2.2.2.1.lt).trans cw
      clear c0 c1 c2 c3 c4 c5 c6 c7 ck cw HN hbd
      generalize wr.drewN nq = w3 at *
      obtain ⟨A, hA⟩ : ∃ A, sigR ye 6 11 25 = A := ⟨_, rfl⟩
      obtain ⟨E, hE⟩ : ∃ E, sigR ya 2 13 22 = E := ⟨_, rfl⟩
      have T1' : Hid (∀ w : World, Calls Try.prog 52 #[.int .u32 ye, .int .i64 6, .int .i64 11, .int .i64 25, .bool false] w fun e w' => e = .returned (.int .u32 (A : Nat)) ∧ w' = w) := Lib.hid fun w => by rw [← hA]; exact T1.out w
      have T2' : Hid (∀ w : World, Calls Try.prog 52 #[.int .u32 ya, .int .i64 2, .int .i64 13, .int .i64 22, .bool false] w fun e w' => e = .returned (.int .u32 (E : Nat)) ∧ w' = w) := Lib.hid fun w => by rw [← hE]; exact T2.out w
      have HA := Lib.hid hA
      have HE := Lib.hid hE
      clear hA hE T1 T2
      refine wp_region_still_tail 21 (by kernel_rfl) (by kernel_rfl) ?_
      simp only [List.take_succ_cons, List.take_zero, List.drop_succ_cons, List.drop_zero]
      repeat still_step
      still_call (T1'.out _)
      repeat still_step
      refine wpStill_nil ?_
      change wpList _ _ _ _ _ w3.drew
      rw [ch_bits ye yf yg HL.out.2.2.2.2.1 HL.out.2.2.2.2.2.1 HL.out.2.2.2.2.2.2.1]
      obtain ⟨t, ht⟩ : ∃ t, (((yh + A) % 4294967296 + chN ye yf yg) % 4294967296 + kk) % 4294967296 + ww = t := ⟨_, rfl⟩
      have hw : IntKind.u32.wrap (IntKind.u32.wrap (IntKind.u32.wrap (IntKind.u32.wrap ((yh : Int) + A) + ((chN ye yf yg : Nat) : Int)) + kk) + ww) = ((t % 4294967296 : Nat) : Int) := by
        simp only [wrap_u32_mod]
        omega
      rw [hw]
      have HT := Lib.hid ht
      clear ht hw d7 dk dw
      obtain ⟨tt, htt⟩ : ∃ tt, t % 4294967296 = tt := ⟨_, rfl⟩
      rw [htt]
      have HTT := Lib.hid htt
      clear htt
      have hbd := drew_below w3
      have HM2 := Lib.hid (And.intro (HM.out.1.keep hbd) (And.intro (HM.out.2.1.keep hbd) (And.intro (HM.out.2.2.1.keep hbd) (And.intro (HM.out.2.2.2.1.keep hbd) (And.intro (HM.out.2.2.2.2.1.keep hbd) (HM.out.2.2.2.2.2.trans (hbd.mono HM.out.2.2.2.2.2.size)))))))
      have d3' := (hbd.cell (p := ⟨b5 + 2, 3, none⟩) HM.out.1.lt).trans d3
      clear d3 hbd HM
      generalize w3.drew = w4 at *
      go_wp2_with fail
      refine (T2'.out _).mono ?_
      rintro e w5 ⟨rfl, rfl⟩
      go_wp2_with (apply wpList_storeA rfl 67 (.tmp 7) (.tmp 83) rfl _ 67 _ _ 8 rfl rfl HM2.out.1.blk (by kernel_rfl))
      case hn => rfl
      case hs => rfl
      case h1 => simp [Value.oneCell']
      case roundEnd =>
        rw [maj_bits ya yb yc HL.out.1 HL.out.2.1 HL.out.2.2.1]
        refine ⟨⟨k + 1, by omega, by go_num, Lib.hid ⟨?_, HM2.out.2.1.rowOther _ (by have := Hz.out; omega), HM2.out.2.2.1.rowOther _ (by have := Hz.out; omega), HM2.out.2.2.2.1.rowOther _ (by omega), HM2.out.2.2.2.2.1.rowOther _ (by omega), below_setRow HM2.out.2.2.2.2.2 (by have := Hz.out; omega) _⟩⟩, by simp [intOf]; omega⟩
        rw [HS.out]
        have hC : u32s (roundN ⟨ya, yb, yc, yd, ye, yf, yg, yh⟩ kk ww).list = #[.int .u32 (((tt : Int) + ((E : Int) + ((majN ya yb yc : Nat) : Int))) % 4294967296), .int .u32 (ya : Int), .int .u32 (yb : Int), .int .u32 (yc : Int), .int .u32 (((yd : Int) + (tt : Int)) % 4294967296), .int .u32 (ye : Int), .int .u32 (yf : Int), .int .u32 (yg : Int)] := by
          have e1 : ((((tN ⟨ya, yb, yc, yd, ye, yf, yg, yh⟩ kk ww + uN ⟨ya, yb, yc, yd, ye, yf, yg, yh⟩) % 4294967296 : Nat)) : Int) = ((tt : Int) + ((E : Int) + ((majN ya yb yc : Nat) : Int))) % 4294967296 := by
            simp only [tN, uN, HA.out, HE.out]; rw [← HTT.out, ← HT.out]; omega
          have e2 : ((((yd + tN ⟨ya, yb, yc, yd, ye, yf, yg, yh⟩ kk ww) % 4294967296 : Nat)) : Int) = ((yd : Int) + (tt : Int)) % 4294967296 := by
            simp only [tN, HA.out]; rw [← HTT.out, ← HT.out]; omega
          rw [← e1, ← e2]
          rfl
        rw [← hC]
        exact Nums.row HM2.out.1.blk _
    · obtain rfl : k = 64 := by omega
      obtain ⟨Y, hYY⟩ : ∃ Y, roundsN x (wordsN s.data.toList 64) 64 = Y := ⟨_, rfl⟩
      have HYX : Hid (turnN x s.data.toList = addN Y x) := Lib.hid (by rw [turnN, hYY])
      rw [hYY] at hN
      clear hYY
      have HX := Lib.hid hx
      clear hx HF2 hk hlt
      rw [show ((64 : Nat) : Int) = (64 : Int) from rfl]
      go_wp2_with fail
      go_loopw [85] (fun i wx => ∃ k : Nat, k ≤ 8 ∧ i = .int .i64 k ∧ Hid (Nums wx (b5 + 2) 67 (sumsN Y.list x.list k) ∧ Nums wx w.heap.size 67 x.list ∧ Nums wx (w.heap.size + 1) 67 (List.replicate 8 0) ∧ Below w.heap.size w wx)) (fun i _ => 8 - (intOf i).toNat)
      case atStart => exact ⟨0, by omega, rfl, Lib.hid ⟨hN.out.1, hN.out.2.1, hN.out.2.2.1, hN.out.2.2.2.2.2⟩⟩
      case round =>
        obtain ⟨k, hk, rfl, hM⟩ := hrel
        by_cases hlt : k < 8
        · obtain ⟨y, hy⟩ : ∃ y, Y.list.getD k 0 = y := ⟨_, rfl⟩
          obtain ⟨z, hz⟩ : ∃ z, x.list.getD k 0 = z := ⟨_, rfl⟩
          have hset := Lib.hid (sumsN_set Y.list x.list k hlt)
          have cy := hM.out.1.cell k (by rw [sumsN_length]; exact hlt)
          have cx := hM.out.2.1.cell k (show k < 8 from hlt)
          have fy := hM.out.1.frozen k
          rw [sumsN_get _ _ _ hlt, hy] at cy
          rw [hz] at cx
          rw [hy, hz] at hset
          clear hy hz hN
          go_wp2_with fail
          refine wp_region_still_tail 8 (by kernel_rfl) (by kernel_rfl) ?_
          simp only [List.take_succ_cons, List.take_zero, List.drop_succ_cons, List.drop_zero]
          repeat still_step
          refine wpStill_nil ?_
          change wpList _ _ _ _ _ wr.drew
          have hw : IntKind.u32.wrap ((y : Int) + z) = (((y + z) % 4294967296 : Nat) : Int) := by simp only [wrap_u32_mod]; omega
          rw [hw]
          have hbd := drew_below wr
          have hM2 := Lib.hid (And.intro (hM.out.1.keep hbd) (And.intro (hM.out.2.1.keep hbd) (And.intro (hM.out.2.2.1.keep hbd) (hM.out.2.2.2.trans (hbd.mono hM.out.2.2.2.size)))))
          clear hw hM hbd cy cx fy
          generalize wr.drew = w9 at *
          have cy := hM2.out.1.cell k (by rw [sumsN_length]; exact hlt)
          have fy := hM2.out.1.frozen k
          obtain ⟨sm, hsm⟩ : ∃ sm, (y + z) % 4294967296 = sm := ⟨_, rfl⟩
          rw [hsm] at hset ⊢
          clear hsm
          go_wp2
          go_round
          case rel =>
            refine ⟨k + 1, by omega, by go_num, Lib.hid ⟨?_, hM2.out.2.1.other _ _ (by have := Hz.out; omega), hM2.out.2.2.1.other _ _ (by have := Hz.out; omega), hM2.out.2.2.2.setCell (by have := Hz.out; simp; omega) _⟩⟩
            rw [← hset.out]
            exact hM2.out.1.set _ _
          case measure => simp [intOf]; omega
        · obtain rfl : k = 8 := by omega
          have e1 := Lib.hid hM.out.1.blk
          have e2 := Lib.hid hM.out.2.2.1.blk
          have e3 := Lib.hid hM.out.2.2.2
          have e4 : Hid ((u32s (sumsN Y.list x.list 8)).size = 8) := Lib.hid rfl
          have e5 : Hid (u32s (sumsN Y.list x.list 8) = u32s (turnN x s.data.toList).list) := Lib.hid (by rw [HYX.out]; rfl)
          clear hM hN hk hlt
          generalize u32s (sumsN Y.list x.list 8) = CC at *
          go_wp2_with (first
            | refine wpList_loadA rfl 67 _ rfl _ 67 _ _ 8 8 rfl e1.out Try.underlying67 (by kernel_rfl) e4.out ?_
            | refine wpList_storeA rfl 67 _ _ rfl _ 67 _ _ 8 rfl rfl e2.out (by kernel_rfl) e4.out rfl (by rw [e5.out]; exact u32s_one _) ?_)
          exact ret_arr (N := 8) (C := CC) Try.results40 rfl (setRow_heap _ _ _ _ _ _ e2.out) Try.underlying67 (by kernel_rfl) e4.out rfl (HR.out _ _ ⟨by rw [e5.out], below_setRow e3.out (by omega) _⟩)
end Go.Proofs.Ytophfeapmmfppaa
