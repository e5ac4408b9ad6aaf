/- Texts that the claim rests on, part 6: ShaTurned, ShaHash, ShaSumV, ShaRStep, ShaRTxt, OctetNoughts, ShaRSum. -/
import Derived.Deep.DeepCutAuto
import Derived.Test.YteppfjgglelpbaaGreatShelf
import Derived.Test.YteppfjgglelpbaaGreatProg
import Derived.Deep.LoopGhost
import Derived.Test.YteppfjgglelpbaaGreatM5
/- What a block turns a state to: the program's turned. -/
namespace Ks
open Go Go.RowKit
theorem Nums.row {w : World} {b : Nat} {t : TypeId} {old : Array Value} (h : w.heap[b]? = some (.cells old t (0, 0))) (L : List Nat) : Nums (w.setRow b (u32s L)) b t L := ⟨setRow_heap _ _ _ _ _ _ h⟩
theorem Nums.rowOther {w : World} {b c : Nat} {t : TypeId} {L : List Nat} (h : Nums w b t L) (C : Array Value) (hc : b ≠ c) : Nums (w.setRow c C) b t L := ⟨(setRow_other _ _ _ _ hc).trans h.blk⟩
theorem Nums.alloc {w : World} {b : Nat} {t : TypeId} {L : List Nat} (h : Nums w b t L) (o : Obj) : Nums (w.alloc o) b t L := ⟨blk_keep h.blk o⟩
theorem Nums.new (w : World) (t : TypeId) (L : List Nat) : Nums (w.alloc (.cells (u32s L) t)) w.heap.size t L := ⟨alloc_new _ _⟩
theorem ch_bits (e f g : Nat) (he : e < 4294967296) (hf : f < 4294967296) (hg : g < 4294967296) : bits .xor .u32 (g : Int) (bits .and .u32 (e : Int) (bits .xor .u32 (f : Int) (g : Int))) = ((chN e f g : Nat) : Int) := by
  rw [xor_u32 f g hf hg, and_u32 e _ he (xor32 hf hg), xor_u32 g _ hg (and32 (xor32 hf hg)), ch_parts e f g he hg]
theorem maj_bits (a b c : Nat) (ha : a < 4294967296) (hb : b < 4294967296) (hc : c < 4294967296) : bits .or .u32 (bits .and .u32 (a : Int) (b : Int)) (bits .and .u32 (c : Int) (bits .or .u32 (a : Int) (b : Int))) = ((majN a b c : Nat) : Int) := by
  rw [and_u32 a b ha hb, or_u32 a b ha hb, and_u32 c _ hc (or32 ha hb), or_u32 _ _ (and32 hb) (and32 (or32 ha hb)), maj_parts]
/-- the first so many sums -/
def sumsN (Y X : List Nat) (k : Nat) : List Nat := (List.range 8).map fun i => if i < k then (Y.getD i 0 + X.getD i 0) % 4294967296 else Y.getD i 0
theorem sumsN_length (Y X : List Nat) (k : Nat) : (sumsN Y X k).length = 8 := by simp [sumsN]
set_option linter.unusedVariables false in
theorem sumsN_get (Y X : List Nat) (k : Nat) (hk : k < 8) : (sumsN Y X k).getD k 0 = Y.getD k 0 := by
  simp [sumsN, hk]
set_option linter.unusedVariables false in
theorem sumsN_set (Y X : List Nat) (k : Nat) (hk : k < 8) : (sumsN Y X k).set k ((Y.getD k 0 + X.getD k 0) % 4294967296) = sumsN Y X (k + 1) := by
  refine List.ext_getElem (by simp [sumsN]) fun i h1 h2 => ?_
  rw [List.getElem_set]
  simp only [sumsN, List.getElem_map, List.getElem_range]
  by_cases e : k = i
  · subst e; simp
  · rw [if_neg e]
    by_cases h : i < k
    · rw [if_pos h, if_pos (by omega)]
    · rw [if_neg h, if_neg (by omega)]
theorem sumsN_zero (s : St) (X : List Nat) : sumsN s.list X 0 = s.list := rfl
theorem sumsN_all (s x : St) : sumsN s.list x.list 8 = (addN s x).list := rfl
end Ks
namespace Go.Proofs.YteppfjgglelpbaaGreat
open Go.RowKit Ks
set_option linter.unusedVariables false

set_option maxRecDepth 20000 in
set_option maxHeartbeats 1000000 in
theorem turned_any (x : St) (s : ByteArray) (w : World) (hx : x.ok) (h : s.size = 64) :
    Calls Tryz.prog 108 #[.agg (u32s x.list), .string s] w fun e w' => e = .returned (.agg (u32s (turnN x s.data.toList).list)) ∧ Below w.heap.size w w' := by
  refine calls_by fun R HR => ?_
  obtain ⟨C, hC⟩ : ∃ C, u32s x.list = C := ⟨_, rfl⟩
  rw [hC]
  have HC := Lib.hid hC
  clear hC
  go_enter Tryz.func108, Tryz.ntmps108
  go_wp2_with fail
  refine (words_any s _ h).mono ?_
  rintro e w1 ⟨rfl, hb1⟩
  obtain ⟨CW, hCW⟩ : ∃ CW, u32s (wordsN s.data.toList 64) = CW := ⟨_, rfl⟩
  rw [hCW]
  have HCW := Lib.hid hCW
  clear hCW
  have HB1 := Lib.hid hb1
  clear hb1
  go_wp2_with fail
  refine (constants_any _).mono ?_
  rintro e w2 ⟨rfl, hb2⟩
  obtain ⟨CK, hCK⟩ : ∃ CK, u32s kays = CK := ⟨_, rfl⟩
  rw [hCK]
  have HCK := Lib.hid hCK
  clear hCK
  have HB2 := Lib.hid hb2
  clear hb2
  have sW : CW.size = 64 := by rw [← HCW.out, u32s_size, wordsN_length]
  have sK : CK.size = 64 := by rw [← HCK.out]; rfl
  have SW := Lib.hid sW
  have SK := Lib.hid sK
  clear sW sK
  go_upto_region 2 with (first
    | refine wpList_storeA rfl 158 (.tmp 5) (.tmp 19) rfl _ 158 _ CW 64 rfl rfl (blk_keep (alloc_new _ _) _) (by kernel_rfl) SW.out rfl (by rw [← HCW.out]; exact u32s_one _) ?_
    | refine wpList_storeA rfl 158 (.tmp 6) (.tmp 20) rfl _ 158 _ CK 64 rfl rfl ((setRow_other _ _ _ _ (by omega)).trans (alloc_new2 _ _ _)) (by kernel_rfl) SK.out rfl (by rw [← HCK.out]; exact u32s_one _) ?_)
  obtain ⟨W0, hW0⟩ : ∃ W0, w.alloc (.cells C 145) = W0 := ⟨_, rfl⟩
  have k0 : Nums W0 w.heap.size 145 x.list := by rw [← hW0, ← HC.out]; exact Nums.new _ _ _
  have z0 : W0.heap.size = w.heap.size + 1 := by rw [← hW0]; exact World.size_alloc _ _
  have kb0 : Below w.heap.size w W0 := by rw [← hW0]; exact alloc_below w _
  have B1 := HB1.out
  rw [hW0] at B1
  obtain ⟨W1, hW1⟩ : ∃ W1, W0.alloc (.cells (u32s (List.replicate 8 0)) 145) = W1 := ⟨_, rfl⟩
  change Below (W0.alloc (.cells (u32s (List.replicate 8 0)) 145)).heap.size (W0.alloc (.cells (u32s (List.replicate 8 0)) 145)) w1 at B1
  have k1 : Nums W1 (w.heap.size + 1) 145 (List.replicate 8 0) := by rw [← hW1, ← z0]; exact Nums.new _ _ _
  have k0' : Nums W1 w.heap.size 145 x.list := by rw [← hW1]; exact k0.alloc _
  have z1 : W1.heap.size = w.heap.size + 2 := by rw [← hW1, World.size_alloc, z0]
  have kb1 : Below w.heap.size w W1 := by rw [← hW1]; exact kb0.trans ((alloc_below W0 _).mono (by omega))
  rw [hW1] at B1
  have z2 := B1.size
  have B2 := HB2.out
  have z3 := B2.size
  have BW := kb1.trans ((B1.mono (by omega)).trans (B2.mono (by omega)))
  refine code_cut (fun W => Nums W w.heap.size 145 x.list ∧ Nums W (w.heap.size + 1) 145 (List.replicate 8 0) ∧ Nums W w2.heap.size 158 (wordsN s.data.toList 64) ∧ Nums W (w2.heap.size + 1) 158 kays ∧ Below w.heap.size w W ∧ W.heap.size = w2.heap.size + 2) ?_ ?_
  · refine ⟨(((((k0'.keep B1).keep B2).alloc _).alloc _).rowOther _ (by omega)).rowOther _ (by omega), (((((k1.keep B1).keep B2).alloc _).alloc _).rowOther _ (by omega)).rowOther _ (by omega), ?_, ?_, ?_, ?_⟩
    · rw [← HCW.out]
      exact (Nums.row (blk_keep (alloc_new _ _) _) _).rowOther _ (by omega)
    · rw [← HCK.out]
      exact Nums.row ((setRow_other _ _ _ _ (by omega)).trans (alloc_new2 _ _ _)) _
    · exact below_setRow (below_setRow ((BW.alloc (by omega) _).alloc (by simp; omega) _) (by omega) _) (by omega) _
    · simp
  intro W hF
  have HF := Lib.hid hF
  have Hz := Lib.hid (show w.heap.size + 2 ≤ w2.heap.size by omega)
  clear hF hW0 hW1 k0 k0' z0 kb0 B1 k1 z1 kb1 z2 B2 z3 BW HB1 HB2
  generalize w2.heap.size = b5 at *
  have HS := Lib.hid (show (u32s x.list).size = 8 from rfl)
  clear SW SK HCW HCK
  go_wp2_with (first
    | refine wpList_loadA rfl 145 (.tmp 2) rfl _ 145 _ _ 8 8 rfl HF.out.1.blk Tryz.underlying145 (by kernel_rfl) HS.out ?_
    | refine wpList_storeN rfl 145 (.tmp 7) (.tmp 21) rfl 145 _ (u32s x.list) 8 rfl rfl (by kernel_rfl) HS.out rfl (u32s_one _) ?_)
  have HF2 := Lib.hid (show Nums (W.alloc (.cells (u32s x.list) 145)) (b5 + 2) 145 x.list ∧ Nums (W.alloc (.cells (u32s x.list) 145)) w.heap.size 145 x.list ∧ Nums (W.alloc (.cells (u32s x.list) 145)) (w.heap.size + 1) 145 (List.replicate 8 0) ∧ Nums (W.alloc (.cells (u32s x.list) 145)) b5 158 (wordsN s.data.toList 64) ∧ Nums (W.alloc (.cells (u32s x.list) 145)) (b5 + 1) 158 kays ∧ Below w.heap.size w (W.alloc (.cells (u32s x.list) 145)) from by
    obtain ⟨f1, f2, f3, f4, f5, f6⟩ := HF.out
    refine ⟨?_, f1.alloc _, f2.alloc _, f3.alloc _, f4.alloc _, f5.trans ((alloc_below W _).mono f5.size)⟩
    rw [← f6]; exact Nums.new _ _ _)
  have hz := HF.out.2.2.2.2.2
  rw [hz]
  generalize W.alloc (.cells (u32s x.list) 145) = W3 at *
  clear hz HF HS HC
  generalize u32s x.list = CX at *
  go_loopw [22] (fun i wx => ∃ k : Nat, k ≤ 64 ∧ i = .int .i64 k ∧ Hid (Nums wx (b5 + 2) 145 (roundsN x (wordsN s.data.toList 64) k).list ∧ Nums wx w.heap.size 145 x.list ∧ Nums wx (w.heap.size + 1) 145 (List.replicate 8 0) ∧ Nums wx b5 158 (wordsN s.data.toList 64) ∧ Nums wx (b5 + 1) 158 kays ∧ Below w.heap.size w wx)) (fun i _ => 64 - (intOf i).toNat)
  case atStart => exact ⟨0, by omega, rfl, HF2⟩
  case round =>
    obtain ⟨k, hk, rfl, hN⟩ := hrel
    by_cases hlt : k < 64
    · obtain ⟨n7, n0, n1, n5, n6, nb⟩ := hN.out
      have hY := roundsN_ok hx (wordsN s.data.toList 64) k
      have hl7 : (wordsN s.data.toList 64).length = 64 := wordsN_length _ _
      obtain ⟨kk, hkk⟩ : ∃ kk, kays.getD k 0 = kk := ⟨_, rfl⟩
      obtain ⟨ww, hww⟩ : ∃ ww, (wordsN s.data.toList 64).getD k 0 = ww := ⟨_, rfl⟩
      have hs : roundsN x (wordsN s.data.toList 64) (k + 1) = roundN (roundsN x (wordsN s.data.toList 64) k) kk ww := by rw [← hkk, ← hww]; rfl
      have ck := n6.cell k hlt
      have cw := n5.cell k (by omega)
      rw [hkk] at ck
      rw [hww] at cw
      obtain ⟨Y, hYY⟩ : ∃ Y, roundsN x (wordsN s.data.toList 64) k = Y := ⟨_, rfl⟩
      rw [hYY] at hs hY n7
      have c0 := n7.cell 0 (show 0 < 8 by decide)
      have c1 := n7.cell 1 (show 1 < 8 by decide)
      have c2 := n7.cell 2 (show 2 < 8 by decide)
      have c3 := n7.cell 3 (show 3 < 8 by decide)
      have c4 := n7.cell 4 (show 4 < 8 by decide)
      have c5 := n7.cell 5 (show 5 < 8 by decide)
      have c6 := n7.cell 6 (show 6 < 8 by decide)
      have c7 := n7.cell 7 (show 7 < 8 by decide)
      have HN := Lib.hid (And.intro n7 (And.intro n0 (And.intro n1 (And.intro n5 (And.intro n6 nb)))))
      clear n7 n0 n1 n5 n6 nb hN hkk hww hYY HF2
      obtain ⟨ya, yb, yc, yd, ye, yf, yg, yh⟩ := Y
      change wr.cell? ⟨b5 + 2, 0, none⟩ = some (.int .u32 (ya : Int)) at c0
      change wr.cell? ⟨b5 + 2, 1, none⟩ = some (.int .u32 (yb : Int)) at c1
      change wr.cell? ⟨b5 + 2, 2, none⟩ = some (.int .u32 (yc : Int)) at c2
      change wr.cell? ⟨b5 + 2, 3, none⟩ = some (.int .u32 (yd : Int)) at c3
      change wr.cell? ⟨b5 + 2, 4, none⟩ = some (.int .u32 (ye : Int)) at c4
      change wr.cell? ⟨b5 + 2, 5, none⟩ = some (.int .u32 (yf : Int)) at c5
      change wr.cell? ⟨b5 + 2, 6, none⟩ = some (.int .u32 (yg : Int)) at c6
      change wr.cell? ⟨b5 + 2, 7, none⟩ = some (.int .u32 (yh : Int)) at c7
      obtain ⟨ya1, yb1, yc1, yd1, ye1, yf1, yg1, yh1⟩ := hY
      have T1 := Lib.hid (fun w : World => three_turn ye 6 11 25 w ye1 (by decide) (by decide) (by decide))
      have T2 := Lib.hid (fun w : World => three_turn ya 2 13 22 w ya1 (by decide) (by decide) (by decide))
      have HS := Lib.hid hs
      have HL := Lib.hid (And.intro ya1 (And.intro yb1 (And.intro yc1 (And.intro yd1 (And.intro ye1 (And.intro yf1 (And.intro yg1 yh1)))))))
      have HX := Lib.hid hx
      clear hs ya1 yb1 yc1 yd1 ye1 yf1 yg1 yh1 hx hl7
      go_wp2_with fail
      go_quiet (fail)
      go_wp2_with fail
      have hbd := below_drewN (Below.refl wr.heap.size wr) nq
      have HM := Lib.hid (And.intro (HN.out.1.keep hbd) (And.intro (HN.out.2.1.keep hbd) (And.intro (HN.out.2.2.1.keep hbd) (And.intro (HN.out.2.2.2.1.keep hbd) (And.intro (HN.out.2.2.2.2.1.keep hbd) (HN.out.2.2.2.2.2.trans (hbd.mono HN.out.2.2.2.2.2.size)))))))
      have d7 := HM.out.1.cell 7 (show 7 < 8 by decide)
      have d3 := HM.out.1.cell 3 (show 3 < 8 by decide)
      change World.cell? _ ⟨b5 + 2, 7, none⟩ = some (.int .u32 (yh : Int)) at d7
      change World.cell? _ ⟨b5 + 2, 3, none⟩ = some (.int .u32 (yd : Int)) at d3
      have dk := (hbd.cell (p := ⟨b5 + 1, k, none⟩) HN.out.2.2.2.2.1.lt).trans ck
      have dw := (hbd.cell (p := ⟨b5, k, none⟩) HN.out.2.2.2.1.lt).trans cw
      clear c0 c1 c2 c3 c4 c5 c6 c7 ck cw HN hbd
      generalize wr.drewN nq = w3 at *
      obtain ⟨A, hA⟩ : ∃ A, sigR ye 6 11 25 = A := ⟨_, rfl⟩
      obtain ⟨E, hE⟩ : ∃ E, sigR ya 2 13 22 = E := ⟨_, rfl⟩
      have T1' : Hid (∀ w : World, Calls Tryz.prog 122 #[.int .u32 ye, .int .i64 6, .int .i64 11, .int .i64 25, .bool false] w fun e w' => e = .returned (.int .u32 (A : Nat)) ∧ w' = w) := Lib.hid fun w => by rw [← hA]; exact T1.out w
      have T2' : Hid (∀ w : World, Calls Tryz.prog 122 #[.int .u32 ya, .int .i64 2, .int .i64 13, .int .i64 22, .bool false] w fun e w' => e = .returned (.int .u32 (E : Nat)) ∧ w' = w) := Lib.hid fun w => by rw [← hE]; exact T2.out w
      have HA := Lib.hid hA
      have HE := Lib.hid hE
      clear hA hE T1 T2
      refine wp_region_still_tail 21 (by kernel_rfl) (by kernel_rfl) ?_
      simp only [List.take_succ_cons, List.take_zero, List.drop_succ_cons, List.drop_zero]
      repeat still_step
      still_call (T1'.out _)
      repeat still_step
      refine wpStill_nil ?_
      change wpList _ _ _ _ _ w3.drew
      rw [ch_bits ye yf yg HL.out.2.2.2.2.1 HL.out.2.2.2.2.2.1 HL.out.2.2.2.2.2.2.1]
      obtain ⟨t, ht⟩ : ∃ t, (((yh + A) % 4294967296 + chN ye yf yg) % 4294967296 + kk) % 4294967296 + ww = t := ⟨_, rfl⟩
      have hw : IntKind.u32.wrap (IntKind.u32.wrap (IntKind.u32.wrap (IntKind.u32.wrap ((yh : Int) + A) + ((chN ye yf yg : Nat) : Int)) + kk) + ww) = ((t % 4294967296 : Nat) : Int) := by
        simp only [wrap_u32_mod]
        omega
      rw [hw]
      have HT := Lib.hid ht
      clear ht hw d7 dk dw
      obtain ⟨tt, htt⟩ : ∃ tt, t % 4294967296 = tt := ⟨_, rfl⟩
      rw [htt]
      have HTT := Lib.hid htt
      clear htt
      have hbd := drew_below w3
      have HM2 := Lib.hid (And.intro (HM.out.1.keep hbd) (And.intro (HM.out.2.1.keep hbd) (And.intro (HM.out.2.2.1.keep hbd) (And.intro (HM.out.2.2.2.1.keep hbd) (And.intro (HM.out.2.2.2.2.1.keep hbd) (HM.out.2.2.2.2.2.trans (hbd.mono HM.out.2.2.2.2.2.size)))))))
      have d3' := (hbd.cell (p := ⟨b5 + 2, 3, none⟩) HM.out.1.lt).trans d3
      clear d3 hbd HM
      generalize w3.drew = w4 at *
      go_wp2_with fail
      refine (T2'.out _).mono ?_
      rintro e w5 ⟨rfl, rfl⟩
      go_wp2_with (apply wpList_storeA rfl 145 (.tmp 7) (.tmp 83) rfl _ 145 _ _ 8 rfl rfl HM2.out.1.blk (by kernel_rfl))
      case hn => rfl
      case hs => rfl
      case h1 => simp [Value.oneCell']
      case roundEnd =>
        rw [maj_bits ya yb yc HL.out.1 HL.out.2.1 HL.out.2.2.1]
        refine ⟨⟨k + 1, by omega, by go_num, Lib.hid ⟨?_, HM2.out.2.1.rowOther _ (by have := Hz.out; omega), HM2.out.2.2.1.rowOther _ (by have := Hz.out; omega), HM2.out.2.2.2.1.rowOther _ (by omega), HM2.out.2.2.2.2.1.rowOther _ (by omega), below_setRow HM2.out.2.2.2.2.2 (by have := Hz.out; omega) _⟩⟩, by simp [intOf]; omega⟩
        rw [HS.out]
        have hC : u32s (roundN ⟨ya, yb, yc, yd, ye, yf, yg, yh⟩ kk ww).list = #[.int .u32 (((tt : Int) + ((E : Int) + ((majN ya yb yc : Nat) : Int))) % 4294967296), .int .u32 (ya : Int), .int .u32 (yb : Int), .int .u32 (yc : Int), .int .u32 (((yd : Int) + (tt : Int)) % 4294967296), .int .u32 (ye : Int), .int .u32 (yf : Int), .int .u32 (yg : Int)] := by
          have e1 : ((((tN ⟨ya, yb, yc, yd, ye, yf, yg, yh⟩ kk ww + uN ⟨ya, yb, yc, yd, ye, yf, yg, yh⟩) % 4294967296 : Nat)) : Int) = ((tt : Int) + ((E : Int) + ((majN ya yb yc : Nat) : Int))) % 4294967296 := by
            simp only [tN, uN, HA.out, HE.out]; rw [← HTT.out, ← HT.out]; omega
          have e2 : ((((yd + tN ⟨ya, yb, yc, yd, ye, yf, yg, yh⟩ kk ww) % 4294967296 : Nat)) : Int) = ((yd : Int) + (tt : Int)) % 4294967296 := by
            simp only [tN, HA.out]; rw [← HTT.out, ← HT.out]; omega
          rw [← e1, ← e2]
          rfl
        rw [← hC]
        exact Nums.row HM2.out.1.blk _
    · obtain rfl : k = 64 := by omega
      obtain ⟨Y, hYY⟩ : ∃ Y, roundsN x (wordsN s.data.toList 64) 64 = Y := ⟨_, rfl⟩
      have HYX : Hid (turnN x s.data.toList = addN Y x) := Lib.hid (by rw [turnN, hYY])
      rw [hYY] at hN
      clear hYY
      have HX := Lib.hid hx
      clear hx HF2 hk hlt
      rw [show ((64 : Nat) : Int) = (64 : Int) from rfl]
      go_wp2_with fail
      go_loopw [85] (fun i wx => ∃ k : Nat, k ≤ 8 ∧ i = .int .i64 k ∧ Hid (Nums wx (b5 + 2) 145 (sumsN Y.list x.list k) ∧ Nums wx w.heap.size 145 x.list ∧ Nums wx (w.heap.size + 1) 145 (List.replicate 8 0) ∧ Below w.heap.size w wx)) (fun i _ => 8 - (intOf i).toNat)
      case atStart => exact ⟨0, by omega, rfl, Lib.hid ⟨hN.out.1, hN.out.2.1, hN.out.2.2.1, hN.out.2.2.2.2.2⟩⟩
      case round =>
        obtain ⟨k, hk, rfl, hM⟩ := hrel
        by_cases hlt : k < 8
        · obtain ⟨y, hy⟩ : ∃ y, Y.list.getD k 0 = y := ⟨_, rfl⟩
          obtain ⟨z, hz⟩ : ∃ z, x.list.getD k 0 = z := ⟨_, rfl⟩
          have hset := Lib.hid (sumsN_set Y.list x.list k hlt)
          have cy := hM.out.1.cell k (by rw [sumsN_length]; exact hlt)
          have cx := hM.out.2.1.cell k (show k < 8 from hlt)
          have fy := hM.out.1.frozen k
          rw [sumsN_get _ _ _ hlt, hy] at cy
          rw [hz] at cx
          rw [hy, hz] at hset
          clear hy hz hN
          go_wp2_with fail
          refine wp_region_still_tail 8 (by kernel_rfl) (by kernel_rfl) ?_
          simp only [List.take_succ_cons, List.take_zero, List.drop_succ_cons, List.drop_zero]
          repeat still_step
          refine wpStill_nil ?_
          change wpList _ _ _ _ _ wr.drew
          have hw : IntKind.u32.wrap ((y : Int) + z) = (((y + z) % 4294967296 : Nat) : Int) := by simp only [wrap_u32_mod]; omega
          rw [hw]
          have hbd := drew_below wr
          have hM2 := Lib.hid (And.intro (hM.out.1.keep hbd) (And.intro (hM.out.2.1.keep hbd) (And.intro (hM.out.2.2.1.keep hbd) (hM.out.2.2.2.trans (hbd.mono hM.out.2.2.2.size)))))
          clear hw hM hbd cy cx fy
          generalize wr.drew = w9 at *
          have cy := hM2.out.1.cell k (by rw [sumsN_length]; exact hlt)
          have fy := hM2.out.1.frozen k
          obtain ⟨sm, hsm⟩ : ∃ sm, (y + z) % 4294967296 = sm := ⟨_, rfl⟩
          rw [hsm] at hset ⊢
          clear hsm
          go_wp2
          go_round
          case rel =>
            refine ⟨k + 1, by omega, by go_num, Lib.hid ⟨?_, hM2.out.2.1.other _ _ (by have := Hz.out; omega), hM2.out.2.2.1.other _ _ (by have := Hz.out; omega), hM2.out.2.2.2.setCell (by have := Hz.out; simp; omega) _⟩⟩
            rw [← hset.out]
            exact hM2.out.1.set _ _
          case measure => simp [intOf]; omega
        · obtain rfl : k = 8 := by omega
          have e1 := Lib.hid hM.out.1.blk
          have e2 := Lib.hid hM.out.2.2.1.blk
          have e3 := Lib.hid hM.out.2.2.2
          have e4 : Hid ((u32s (sumsN Y.list x.list 8)).size = 8) := Lib.hid rfl
          have e5 : Hid (u32s (sumsN Y.list x.list 8) = u32s (turnN x s.data.toList).list) := Lib.hid (by rw [HYX.out]; rfl)
          clear hM hN hk hlt
          generalize u32s (sumsN Y.list x.list 8) = CC at *
          go_wp2_with (first
            | refine wpList_loadA rfl 145 _ rfl _ 145 _ _ 8 8 rfl e1.out Tryz.underlying145 (by kernel_rfl) e4.out ?_
            | refine wpList_storeA rfl 145 _ _ rfl _ 145 _ _ 8 rfl rfl e2.out (by kernel_rfl) e4.out rfl (by rw [e5.out]; exact u32s_one _) ?_)
          exact ret_arr (N := 8) (C := CC) Tryz.results108 rfl (setRow_heap _ _ _ _ _ _ e2.out) Tryz.underlying145 (by kernel_rfl) e4.out rfl (HR.out _ _ ⟨by rw [e5.out], below_setRow e3.out (by omega) _⟩)
end Go.Proofs.YteppfjgglelpbaaGreat
/- The program's hash: what is put, its sum. -/
namespace Ks
open Go Go.RowKit
set_option linter.unusedVariables false
/-- a hash's cells -/
def hashC (s : St) (r : ByteArray) (n : Nat) : Array Value :=
  #[.bool true, .int .u32 (s.a : Int), .int .u32 (s.b : Int), .int .u32 (s.c : Int), .int .u32 (s.d : Int), .int .u32 (s.e : Int), .int .u32 (s.f : Int), .int .u32 (s.g : Int), .int .u32 (s.h : Int), .string r, .int .i64 (n : Int)]
/-- a hash of what was put -/
def HashAt (w : World) (TN : TypeId) (b : Nat) (T : List UInt8) : Prop :=
  w.heap[b]? = some (.cells (hashC (foldN st0 T) ⟨(restL T).toArray⟩ T.length) TN (0, 0))
theorem HashAt.lt {w : World} {TN : TypeId} {b : Nat} {T : List UInt8} (h : HashAt w TN b T) : b < w.heap.size := lt_of_block h
theorem HashAt.keep {w w' : World} {TN : TypeId} {b : Nat} {T : List UInt8} (h : HashAt w TN b T) (hb : Below w.heap.size w w') : HashAt w' TN b T := (hb.block b h.lt).trans h
/-- only one block is turned -/
def Only (w w' : World) (b : Nat) : Prop := w'.os = w.os ∧ w'.tape = w.tape ∧ w'.output = w.output ∧ w.heap.size ≤ w'.heap.size ∧ ∀ k, k < w.heap.size → k ≠ b → w'.heap[k]? = w.heap[k]?
theorem Only.of_below {w w' : World} (b : Nat) (h : Below w.heap.size w w') : Only w w' b := ⟨h.os, h.tape, h.output, h.size, fun k hk _ => h.block k hk⟩
theorem Only.refl (w : World) (b : Nat) : Only w w b := Only.of_below b (Below.refl _ _)
theorem Only.trans {w w1 w2 : World} {b : Nat} (h : Only w w1 b) (g : Only w1 w2 b) : Only w w2 b :=
  ⟨g.1.trans h.1, g.2.1.trans h.2.1, g.2.2.1.trans h.2.2.1, Nat.le_trans h.2.2.2.1 g.2.2.2.1, fun k hk hb => (g.2.2.2.2 k (Nat.lt_of_lt_of_le hk h.2.2.2.1) hb).trans (h.2.2.2.2 k hk hb)⟩
theorem Only.below {w w' : World} {b B : Nat} (h : Only w w' b) (hb : B ≤ b) (hB : B ≤ w.heap.size) : Below B w w' := ⟨h.1, h.2.1, h.2.2.1, h.2.2.2.1, fun k hk => h.2.2.2.2 k (by omega) (by omega)⟩
theorem Only.row (w : World) (b : Nat) (C : Array Value) : Only w (w.setRow b C) b := ⟨rfl, rfl, rfl, by simp, fun k _ hb => setRow_other w b k C hb⟩
theorem Only.cell (w : World) (b o : Nat) (v : Value) : Only w (w.setCell ⟨b, o, none⟩ v) b :=
  have h : Below 0 w (w.setCell ⟨b, o, none⟩ v) := (Below.refl 0 w).setCell (Nat.zero_le _) v
  ⟨h.os, h.tape, h.output, by simp, fun k _ hb => set_ne v hb⟩
theorem Only.blk {w w' : World} {b k : Nat} {o : Obj} (h : Only w w' b) (hk : w.heap[k]? = some o) (hb : k ≠ b) : w'.heap[k]? = some o := (h.2.2.2.2 k (lt_of_block hk) hb).trans hk
theorem hashC_one (y : St) (r : ByteArray) (n : Nat) : (hashC y r n).all (·.oneCell') = true := by simp [hashC, Value.oneCell']
theorem hashC_n (y : St) (r : ByteArray) (n : Nat) (m : Int) (k : Nat) (h : m = (k : Int)) : (hashC y r n).setIfInBounds 10 (.int .i64 m) = hashC y r k := by subst h; rfl
theorem hashC_r (y : St) (r q : ByteArray) (n : Nat) : (hashC y r n).setIfInBounds 9 (.string q) = hashC y q n := rfl
theorem hashC_s (y z : St) (r : ByteArray) (n : Nat) : splice (hashC y r n) 1 (u32s z.list) = hashC z r n := rfl
theorem hashC_l (y : St) (r : ByteArray) (n : Nat) : (hashC y r n).extract 1 (1 + 8) = u32s y.list := rfl
theorem first64 (X : ByteArray) : (X.extract 0 64).data.toList = X.data.toList.take 64 := by
  rw [ByteArray.data_extract, Array.toList_extract, List.extract_eq_take_drop]; rfl
theorem behind64 (X : ByteArray) : (X.extract 64 X.size).data.toList = X.data.toList.drop 64 := by
  rw [ByteArray.data_extract, Array.toList_extract, List.extract_eq_take_drop, List.take_of_length_le]
  rw [List.length_drop, data_length]; omega
end Ks
namespace Go.Proofs.YteppfjgglelpbaaGreat
open Go.RowKit Ks
set_option linter.unusedVariables false

set_option maxRecDepth 100000 in
set_option maxHeartbeats 1000000 in
theorem pad_any (n : Nat) (w : World) (h : n ≤ 576460752303423488) : Calls Tryz.prog 110 #[.int .i64 n] w fun e w' => e = .returned (.tuple #[.string ⟨(padL n).toArray⟩, .int .i64 0]) ∧ Below w.heap.size w w' := by
  refine calls_by fun R HR => ?_
  go_enter Tryz.func110, Tryz.ntmps110
  go_wp2_with fail
  rw [show (8 * (n : Int)) = ((8 * n : Nat) : Int) by omega, show (63 - ((n : Int) + 8) % 64) = ((63 - (n + 8) % 64 : Nat) : Int) by omega]
  refine (put_ok (8 * n) 8 _ (by decide) (by decide) (by omega) (fun h => by omega)).mono ?_
  rintro e w1 ⟨rfl, hb⟩
  have HB := Lib.hid hb
  have hp : (padL n) = 128 :: (List.replicate (63 - (n + 8) % 64) 0 ++ putL 8 (8 * n)) := rfl
  have HP := Lib.hid hp
  obtain ⟨m, hm⟩ : ∃ m, 63 - (n + 8) % 64 = m := ⟨_, rfl⟩
  have hm2 : m ≤ 63 := by omega
  rw [hm] at HP ⊢
  have hl : (putL 8 (8 * n)).length ≤ 8 := by rw [putL_length]; omega
  generalize putL 8 (8 * n) = L at *
  clear hb hp hm
  go_wp2_with fail
  refine (Tryz.strings_Repeat ⟨#[0]⟩ m _ (by omega) (by show 1 * m ≤ _; omega)).mono ?_
  rintro e w2 ⟨rfl, hb⟩
  rw [repeat_zeros]
  have HB2 := Lib.hid (HB.out.trans (hb.mono HB.out.size))
  have hz : (zerosS m).size = m := zerosS_size m
  clear hb HB
  have hz1 : (ByteArray.mk #[128]).size + (zerosS m).size ≤ 9223372036854775807 := by rw [hz]; show 1 + m ≤ _; omega
  have hz2 : (ByteArray.mk #[128]).size + (zerosS m).size + L.length ≤ 9223372036854775807 := by rw [hz]; show 1 + m + _ ≤ _; omega
  have hz3 : 1 + (zerosS m).size ≤ 9223372036854775807 := by omega
  have hz4 : 1 + (zerosS m).size + L.length ≤ 9223372036854775807 := by omega
  clear hz
  go_wp2
  refine HR.out _ _ ⟨?_, HB2.out⟩
  rw [HP.out]
  show Ending.returned (.tuple #[.string (ByteArray.mk #[128] ++ zerosS m ++ ByteArray.mk L.toArray), .int .i64 0]) = _
  rw [show (ByteArray.mk #[128] ++ zerosS m ++ ByteArray.mk L.toArray) = ByteArray.mk (128 :: (List.replicate m 0 ++ L)).toArray by
    apply ByteArray.ext; simp [zerosS]]
theorem pad_err (n : Int) (w : World) (h : n < 0 ∨ 576460752303423488 < n) : Calls Tryz.prog 110 #[.int .i64 n] w fun e w' => e = .returned (.tuple #[.string ⟨#[]⟩, .int .i64 2]) ∧ w' = w := by
  rcases h with h | h
  all_goals
    go_enter Tryz.func110, Tryz.ntmps110
    go_wp2
    go_ret2
    exact ⟨rfl, rfl⟩
set_option maxRecDepth 100000 in
set_option maxHeartbeats 1000000 in
theorem new_any (w : World) : Calls Tryz.prog 91 #[] w fun e w' => ∃ b, e = .returned (.pointer (some ⟨b, 0, none⟩)) ∧ w.heap.size ≤ b ∧ HashAt w' 148 b [] ∧ Below w.heap.size w w' := by
  refine calls_by fun R HR => ?_
  go_enter Tryz.func91, Tryz.ntmps91
  go_wp2_with fail
  refine (first_any _).mono ?_
  rintro e w1 ⟨rfl, hb⟩
  have HB := Lib.hid hb
  clear hb
  go_wp2
  refine HR.out _ _ ⟨w1.heap.size, rfl, HB.out.size, ?_, HB.out.alloc HB.out.size _⟩
  show _ = some (Obj.cells (hashC (foldN st0 []) ⟨(restL []).toArray⟩ 0) _ _)
  rw [foldN_lt st0 [] (by decide), restL_lt [] (by decide)]
  exact alloc_new _ _

theorem there_yes (b : Nat) (w : World) (h0 : w.cell? ⟨b, 0, none⟩ = some (.bool true)) :
    Calls Tryz.prog 107 #[.pointer (some ⟨b, 0, none⟩)] w fun e w' => e = .returned (.bool true) ∧ w' = w := by
  go_enter Tryz.func107, Tryz.ntmps107
  go_wp2
  go_ret
  exact ⟨rfl, rfl⟩

set_option maxRecDepth 100000 in
set_option maxHeartbeats 1000000 in
theorem clone_any (s : ByteArray) (w : World) (h : s.size ≤ 281474976710656) : Calls Tryz.prog 109 #[.string s] w fun e w' => e = .returned (.string s) ∧ Below w.heap.size w w' := by
  refine calls_by fun R HR => ?_
  go_enter Tryz.func109, Tryz.ntmps109
  go_wp2_with fail
  refine (Tryz.stringslite_Clone s _ h).mono ?_
  rintro e w1 ⟨rfl, hb⟩
  go_wp2
  exact HR.out _ _ ⟨rfl, hb⟩

set_option maxRecDepth 20000 in
set_option maxHeartbeats 2000000 in
theorem hput_any (T : List UInt8) (s : ByteArray) (b : Nat) (w : World) (hw : HashAt w 148 b T) (hl : T.length + s.size ≤ 100000000000) :
    Calls Tryz.prog 92 #[.pointer (some ⟨b, 0, none⟩), .string s] w fun e w' => e = .returned (.int .i64 0) ∧ HashAt w' 148 b (T ++ s.data.toList) ∧ Only w w' b := by
  refine calls_by fun R HR => ?_
  have hbk : w.heap[b]? = some (.cells (hashC (foldN st0 T) ⟨(restL T).toArray⟩ T.length) 148 (0, 0)) := hw
  have HB := Lib.hid hbk
  have c10 : w.cell? ⟨b, 10, none⟩ = some (.int .i64 (T.length : Nat)) := by rw [cell_of_row w b 10 _ _ _ hbk]; rfl
  have c9 : w.cell? ⟨b, 9, none⟩ = some (.string ⟨(restL T).toArray⟩) := by rw [cell_of_row w b 9 _ _ _ hbk]; rfl
  have f10 : w.frozen? ⟨b, 10, none⟩ = false := frozen_of_row w b 10 _ _ hbk
  have HT := Lib.hid (there_yes b w (by rw [cell_of_row w b 0 _ _ _ hbk]; rfl))
  have hr : (restL T).length ≤ 63 := by rw [restL_length]; omega
  clear hw hbk
  go_enter Tryz.func92, Tryz.ntmps92
  go_wp2_with fail
  refine HT.out.mono ?_
  rintro e w1 ⟨rfl, rfl⟩
  have hr2 : (restL T).length + s.size ≤ 9223372036854775807 := by omega
  obtain ⟨X, hX⟩ : ∃ X, ByteArray.mk (restL T).toArray ++ s = X := ⟨_, rfl⟩
  have HX := Lib.hid hX
  have hXs : X.size = (restL T).length + s.size := by rw [← hX]; simp [ByteArray.size_append]; rfl
  clear hX
  go_wp2_with fail
  have hW : (w1.setCell ⟨b, 10, none⟩ (.int .i64 ((T.length : Int) + (s.size : Int)))).heap[b]? = some (.cells (hashC (foldN st0 T) ⟨(restL T).toArray⟩ (T.length + s.size)) 148 (0, 0)) := by
    rw [setCell_eq_setRow w1 b 10 _ _ _ _ HB.out, setRow_heap w1 b _ _ _ _ HB.out, hashC_n _ _ _ _ (T.length + s.size) (by omega)]
  have HW := Lib.hid (And.intro hW (Only.cell w1 b 10 (.int .i64 ((T.length : Int) + (s.size : Int)))))
  generalize w1.setCell ⟨b, 10, none⟩ (.int .i64 ((T.length : Int) + (s.size : Int))) = W at *
  clear hW c10 c9 f10 hr2
  rw [HX.out]
  have HY : Hid (foldN (foldN st0 T) X.data.toList = foldN st0 (T ++ s.data.toList) ∧ restL X.data.toList = restL (T ++ s.data.toList)) := Lib.hid (by
    have e : X.data.toList = restL T ++ s.data.toList := by rw [← HX.out]; simp
    rw [e, ← foldN_append _ _ _ _ rfl, ← restL_append _ _ _ rfl]
    exact ⟨rfl, rfl⟩)
  go_loopg [1] (X.size / 64) (fun g v wx => ∃ (X : ByteArray) (y : St), v = .string X ∧ Hid (X.size / 64 = g ∧ y.ok ∧ X.size ≤ 200000000000) ∧ Hid (foldN y X.data.toList = foldN st0 (T ++ s.data.toList) ∧ restL X.data.toList = restL (T ++ s.data.toList)) ∧ Hid (wx.heap[b]? = some (.cells (hashC y ⟨(restL T).toArray⟩ (T.length + s.size)) 148 (0, 0)) ∧ Only w1 wx b))
  case atStart => exact ⟨X, _, rfl, Lib.hid ⟨rfl, fold0_ok T, by omega⟩, HY, HW⟩
  case round =>
    clear HX hXs HY
    obtain ⟨X, y, rfl, hG, hY, hN⟩ := hrel
    by_cases hlt : 64 ≤ X.size
    · have HST := Lib.hid (And.intro (foldN_ge y X.data.toList (by rw [data_length]; exact hlt)) (restL_ge X.data.toList (by rw [data_length]; exact hlt)))
      obtain ⟨B, hB⟩ : ∃ B, X.extract 0 64 = B := ⟨_, rfl⟩
      have hBz : B.size = 64 := by rw [← hB, ByteArray.size_extract]; omega
      have HBD : Hid (B.data.toList = X.data.toList.take 64) := Lib.hid (by rw [← hB]; exact first64 X)
      have TC := Lib.hid fun p => calls_after (p := p) (turned_any y B (After wr p) hG.out.2.1 hBz)
      have HBZ := Lib.hid hBz
      clear hBz
      go_wp2_with fail
      refine wp_region_after_tail 10 (by kernel_rfl) (by kernel_rfl) ?_
      simp only [List.take_succ_cons, List.take_zero, List.drop_succ_cons, List.drop_zero]
      quiet_step (fail)
      quiet_step (fail)
      quiet_step (fail)
      quiet_step (fail)
      refine wpQuiet_load_blk rfl 145 (.tmp 29) rfl b 1 8 rfl _ (u32s y.list) 148 (0, 0) _ (after_blk hN.out.1) (hashC_l _ _ _) rfl Tryz.underlying145 rfl (by kernel_rfl) ?_
      quiet_step (fail)
      quiet_step (fail)
      quiet_step (exact TC.out _)
      quiet_step (fail)
      quiet_step (fail)
      refine wpQuiet_nil ?_
      rintro v1 ⟨p, rfl⟩
      have hb1 := after_below wr p
      have HN := Lib.hid (And.intro ((hb1.block b (lt_of_block hN.out.1)).trans hN.out.1) (hN.out.2.trans (Only.of_below b hb1)))
      clear hb1 hN TC hB
      generalize After wr p = v1 at *
      refine wpList_store_blk rfl 145 (.tmp 35) (.tmp 33) rfl b 1 8 rfl _ (u32s (turnN y B.data.toList).list) _ rfl 148 HN.out.1 rfl (show 9 ≤ 11 by decide) (by kernel_rfl) (u32s_one _) (hashC_s _ _ _ _) ?_
      have HM := Lib.hid (And.intro (setRow_heap v1 b _ (hashC (turnN y B.data.toList) ⟨(restL T).toArray⟩ (T.length + s.size)) _ _ HN.out.1) (HN.out.2.trans (Only.row v1 b (hashC (turnN y B.data.toList) ⟨(restL T).toArray⟩ (T.length + s.size)))))
      generalize v1.setRow b (hashC (turnN y B.data.toList) ⟨(restL T).toArray⟩ (T.length + s.size)) = v2 at *
      generalize u32s (turnN y B.data.toList).list = D at *
      clear HN
      go_wp2_with fail
      have e2 : (X.extract 64 X.size).size = X.size - 64 := by rw [ByteArray.size_extract]; omega
      go_roundg (gk - 1)
      case rel =>
        refine ⟨X.extract 64 X.size, turnN y B.data.toList, rfl, Lib.hid ⟨by rw [e2]; have := hG.out.1; omega, turnN_ok _ _, by rw [e2]; have := hG.out.2.2; omega⟩, Lib.hid ?_, HM⟩
        rw [behind64, HBD.out, ← HST.out.1, ← HST.out.2]
        exact hY.out
      case measure => have := hG.out.1; omega
    · have hXl : X.data.toList.length < 64 := by rw [data_length]; omega
      have HX : Hid (y = foldN st0 (T ++ s.data.toList) ∧ X = ⟨(restL (T ++ s.data.toList)).toArray⟩) := Lib.hid (by
        have h1 := hY.out.1
        have h2 := hY.out.2
        rw [foldN_lt y _ hXl] at h1
        rw [restL_lt _ hXl] at h2
        exact ⟨h1, by rw [← h2]⟩)
      have hXm : X.size ≤ 281474976710656 := by omega
      clear hXl hY hG HW
      go_wp2_with fail
      refine (clone_any X _ hXm).mono ?_
      rintro e v1 ⟨rfl, hb1⟩
      have HN := Lib.hid (And.intro ((hb1.block b (lt_of_block hN.out.1)).trans hN.out.1) (hN.out.2.trans (Only.of_below b hb1)))
      have f9 : v1.frozen? ⟨b, 9, none⟩ = false := frozen_of_row v1 b 9 _ _ HN.out.1
      have c9 : v1.cell? ⟨b, 9, none⟩ = some (.string ⟨(restL T).toArray⟩) := by rw [cell_of_row v1 b 9 _ _ _ HN.out.1]; rfl
      clear hb1 hN
      go_wp2_with fail
      refine HR.out _ _ ⟨rfl, ?_, HN.out.2.trans (Only.cell v1 b 9 _)⟩
      show _ = some (Obj.cells (hashC (foldN st0 (T ++ s.data.toList)) ⟨(restL (T ++ s.data.toList)).toArray⟩ (T ++ s.data.toList).length) _ _)
      rw [setCell_eq_setRow v1 b 9 _ _ _ _ HN.out.1, setRow_heap v1 b _ _ _ _ HN.out.1, hashC_r, HX.out.1, HX.out.2, List.length_append, data_length]

set_option maxRecDepth 100000 in
set_option maxHeartbeats 1000000 in
theorem hsum_any (T : List UInt8) (b : Nat) (w : World) (hw : HashAt w 148 b T) (hl : T.length ≤ 50000000000) :
    Calls Tryz.prog 93 #[.pointer (some ⟨b, 0, none⟩)] w fun e w' => e = .returned (.string ⟨(shaL T).toArray⟩) ∧ Below w.heap.size w w' := by
  refine calls_by fun R HR => ?_
  have hbk : w.heap[b]? = some (.cells (hashC (foldN st0 T) ⟨(restL T).toArray⟩ T.length) 148 (0, 0)) := hw
  have HB := Lib.hid hbk
  have HT := Lib.hid (there_yes b w (by rw [cell_of_row w b 0 _ _ _ hbk]; rfl))
  clear hw hbk
  go_enter Tryz.func93, Tryz.ntmps93
  go_wp2_with fail
  refine HT.out.mono ?_
  rintro e w1 ⟨rfl, rfl⟩
  obtain ⟨C, hC⟩ : ∃ C, hashC (foldN st0 T) ⟨(restL T).toArray⟩ T.length = C := ⟨_, rfl⟩
  have hCs : C.size = 11 := by rw [← hC]; rfl
  have hC1 : C.all (·.oneCell') = true := by rw [← hC]; exact hashC_one _ _ _
  have HC := Lib.hid (And.intro hC (And.intro hCs hC1))
  rw [hC] at HB
  clear hC hCs hC1
  go_upto_region 4 with (first
    | refine wpList_load_blk rfl 148 (.tmp 10) rfl b 0 11 rfl C C 148 (0, 0) _ HB.out (by rw [← HC.out.1]; rfl) HC.out.2.1 Tryz.underlying148 rfl (by kernel_rfl) ?_
    | refine wpList_storeN rfl 148 (.tmp 3) (.tmp 11) rfl 148 _ C 11 rfl rfl (by kernel_rfl) HC.out.2.1 rfl HC.out.2.2 ?_)
  have hA : HashAt (w1.alloc (.cells C 148)) 148 w1.heap.size T := by
    show _ = some (Obj.cells _ _ _)
    rw [HC.out.1]; exact alloc_new _ _
  have hc10 : (w1.alloc (.cells C 148)).cell? ⟨b, 10, none⟩ = some (.int .i64 (T.length : Nat)) := by
    rw [cell_of_row _ b 10 _ _ _ (blk_keep HB.out _), ← HC.out.1]; rfl
  have HA := Lib.hid (And.intro hA (alloc_below w1 (.cells C 148)))
  clear hA
  generalize w1.alloc (.cells C 148) = W at *
  go_wp2_with fail
  refine (pad_any T.length _ (by omega)).mono ?_
  rintro e w2 ⟨rfl, hb1⟩
  have HA2 := Lib.hid (And.intro (HA.out.1.keep hb1) (HA.out.2.trans (hb1.mono HA.out.2.size)))
  have hpl : (padL T.length).length ≤ 72 := by rw [padL_length]; omega
  clear hb1 HA hc10 HC
  obtain ⟨b2, hb2⟩ : ∃ b2, w1.heap.size = b2 := ⟨_, rfl⟩
  have HB2 := Lib.hid hb2
  rw [hb2] at HA2 ⊢
  clear hb2
  go_wp2_with fail
  refine (hput_any T ⟨(padL T.length).toArray⟩ b2 _ HA2.out.1 (by show T.length + (padL T.length).toArray.size ≤ _; simp; omega)).mono ?_
  rintro e w3 ⟨rfl, hat, honly⟩
  have HF := Lib.hid (And.intro hat (HA2.out.2.trans (honly.below (Nat.le_refl _) (Nat.le_of_lt HA2.out.1.lt))))
  clear hat honly HA2
  go_wp2_with (refine wpList_load_blk rfl 145 (.tmp 22) rfl b2 1 8 rfl _ (u32s (foldN st0 (T ++ padL T.length)).list) 148 (0, 0) _ HF.out.1 (hashC_l _ _ _) rfl Tryz.underlying145 rfl (by kernel_rfl) ?_)
  refine (text_any (foldN st0 (T ++ padL T.length)) _ (fold0_ok _)).mono ?_
  rintro e w4 ⟨rfl, hb1⟩
  have HX := Lib.hid (HF.out.2.trans (hb1.mono (Nat.le_of_lt HF.out.1.lt)))
  clear hb1
  go_wp2
  exact HR.out _ _ ⟨rfl, by rw [HB2.out]; exact HX.out⟩
end Go.Proofs.YteppfjgglelpbaaGreat
/- The sum of texts. -/
namespace Ks
open Go Go.RowKit
set_option linter.unusedVariables false
theorem Rd.other {α : Type} {E : Enc α} {w w' : World} {v : Value} {l : List α} {b B : Nat} (h : Rd E w v l) (hB : w.heap.size ≤ b) {w1 : World} (h1 : Below w.heap.size w w1) (ho : Only w1 w' b) : Rd E w' v l :=
  h.below (h1.trans (ho.below hB h1.size))
end Ks
namespace Go.Proofs.YteppfjgglelpbaaGreat
open Go.RowKit Ks
set_option linter.unusedVariables false

set_option maxHeartbeats 1000000 in
theorem sumv_any (l : List ByteArray) (v : Value) (w : World) (hv : Rd strE w v l) (hl : (joinL l).length ≤ 50000000000) (hn : l.length ≤ 1000000000) :
    Calls Tryz.prog 71 #[v] w fun e w' => e = .returned (.string ⟨(shaL (joinL l)).toArray⟩) ∧ Below w.heap.size w w' := by
  refine calls_by fun R HR => ?_
  obtain ⟨a, cap, rfl, _, _⟩ := hv.shape
  have HV := Lib.hid hv
  clear hv
  go_enter Tryz.func71, Tryz.ntmps71
  go_wp2_with fail
  refine (new_any _).mono ?_
  rintro e w1 ⟨b, rfl, hb, hat, hbl⟩
  have HF := Lib.hid (And.intro hat (And.intro hbl (And.intro hb (Only.refl w1 b))))
  clear hb hat hbl
  go_wp2_with fail
  go_loopw [9] (fun i wx => ∃ k : Nat, k ≤ l.length ∧ i = .int .i64 k ∧ Hid (HashAt wx 148 b (joinL (l.take k)) ∧ Below w.heap.size w w1 ∧ w.heap.size ≤ b ∧ Only w1 wx b)) (fun i _ => l.length - (intOf i).toNat)
  case atStart => exact ⟨0, by omega, rfl, HF⟩
  case round =>
    obtain ⟨k, hk, rfl, hN⟩ := hrel
    by_cases hlt : k < l.length
    · have hrd : Rd strE wr (.slice a l.length cap) l := Rd.other (B := 0) HV.out hN.out.2.2.1 hN.out.2.1 hN.out.2.2.2
      obtain ⟨b1, o1, rfl, hb1, hc1⟩ := hrd.str k hlt
      have HJ := Lib.hid (joinL_take l k hlt)
      have hjl := joinL_le l (k + 1)
      rw [HJ.out, List.length_append, data_length] at hjl
      have HJL := Lib.hid hjl
      generalize l[k] = s at *
      clear hjl hrd hb1
      go_wp2_with fail
      refine (hput_any _ s b _ hN.out.1 (by have := HJL.out; omega)).mono ?_
      rintro e w2 ⟨rfl, hat, ho⟩
      rw [← HJ.out] at hat
      have HM := Lib.hid (And.intro hat (And.intro hN.out.2.1 (And.intro hN.out.2.2.1 (hN.out.2.2.2.trans ho))))
      clear hat ho hN hc1
      go_wp2_with fail
      go_roundw
      case rel => exact ⟨k + 1, by omega, by go_num, HM⟩
      case measure => simp [intOf]; omega
    · obtain rfl : k = l.length := by omega
      have HJ := Lib.hid (show joinL (l.take l.length) = joinL l by rw [List.take_length])
      clear HF hlt hk
      go_wp2_with fail
      refine (hsum_any _ b _ hN.out.1 (by rw [HJ.out]; exact hl)).mono ?_
      rintro e w2 ⟨rfl, hb2⟩
      have HM := Lib.hid (hN.out.2.1.trans ((hN.out.2.2.2.below hN.out.2.2.1 hN.out.2.1.size).trans (hb2.mono (Nat.le_trans hN.out.2.1.size hN.out.2.2.2.2.2.2.1))))
      clear hb2 hN
      go_wp2
      exact HR.out _ _ ⟨by rw [← HJ.out]; rfl, HM.out⟩
end Go.Proofs.YteppfjgglelpbaaGreat
/- What a block turns a state to: the reference's step. -/
namespace Ks
open Go Go.RowKit
set_option linter.unusedVariables false
/-- an array of numbers in a block -/
structure NumsI (w : World) (b : Nat) (t : TypeId) (L : List Nat) : Prop where
  blk : w.heap[b]? = some (.cells (i64s L) t (0, 0))
theorem NumsI.cell {w : World} {b : Nat} {t : TypeId} {L : List Nat} (h : NumsI w b t L) (j : Nat) (hj : j < L.length) : w.cell? ⟨b, j, none⟩ = some (.int .i64 ((L.getD j 0 : Nat) : Int)) := by
  rw [cell_of_row w b j _ _ _ h.blk, i64s_get L j hj]
theorem NumsI.frozen {w : World} {b : Nat} {t : TypeId} {L : List Nat} (h : NumsI w b t L) (j : Nat) : w.frozen? ⟨b, j, none⟩ = false := frozen_of_row w b j _ _ h.blk
theorem NumsI.lt {w : World} {b : Nat} {t : TypeId} {L : List Nat} (h : NumsI w b t L) : b < w.heap.size := lt_of_block h.blk
theorem NumsI.keep {w w' : World} {b : Nat} {t : TypeId} {L : List Nat} (h : NumsI w b t L) (hb : Below w.heap.size w w') : NumsI w' b t L := ⟨(hb.block b h.lt).trans h.blk⟩
theorem NumsI.set {w : World} {b : Nat} {t : TypeId} {L : List Nat} (h : NumsI w b t L) (j x : Nat) : NumsI (w.setCell ⟨b, j, none⟩ (.int .i64 (x : Int))) b t (L.set j x) :=
  ⟨by rw [setCell_eq_setRow w b j _ _ _ _ h.blk, setRow_heap w b _ _ _ _ h.blk, i64s_set]⟩
theorem NumsI.other {w : World} {b c : Nat} {t : TypeId} {L : List Nat} (h : NumsI w b t L) (j : Nat) (v : Value) (hc : b ≠ c) : NumsI (w.setCell ⟨c, j, none⟩ v) b t L := ⟨(set_ne v hc).trans h.blk⟩
theorem NumsI.row {w : World} {b : Nat} {t : TypeId} {old : Array Value} (h : w.heap[b]? = some (.cells old t (0, 0))) (L : List Nat) : NumsI (w.setRow b (i64s L)) b t L := ⟨setRow_heap _ _ _ _ _ _ h⟩
theorem NumsI.rowOther {w : World} {b c : Nat} {t : TypeId} {L : List Nat} (h : NumsI w b t L) (C : Array Value) (hc : b ≠ c) : NumsI (w.setRow c C) b t L := ⟨(setRow_other _ _ _ _ hc).trans h.blk⟩
theorem NumsI.alloc {w : World} {b : Nat} {t : TypeId} {L : List Nat} (h : NumsI w b t L) (o : Obj) : NumsI (w.alloc o) b t L := ⟨blk_keep h.blk o⟩
theorem NumsI.new (w : World) (t : TypeId) (L : List Nat) : NumsI (w.alloc (.cells (i64s L) t)) w.heap.size t L := ⟨alloc_new _ _⟩
theorem num4_cut (s : ByteArray) (k : Nat) (h : s.size = 64) : getN (s.extract (4 * k) (4 * k + 4)).data.toList = num4 s.data.toList k := by
  rw [num4]
  congr 1
  rw [ByteArray.data_extract, Array.toList_extract, List.extract_eq_take_drop]
  rw [show 4 * k + 4 - 4 * k = 4 by omega]
theorem sigS_bits (x a b c p : Nat) (hx : x < 4294967296) (hp : 2 ^ c = p) : bits .xor .i64 (bits .xor .i64 ((rotr x a : Nat) : Int) ((rotr x b : Nat) : Int)) ((x : Int) / (p : Int)) = ((sigS x a b c : Nat) : Int) := by
  have h63 : ∀ n : Nat, n < 4294967296 → n < 2 ^ 63 := fun n h => by rw [show (2 : Nat) ^ 63 = 9223372036854775808 from by decide]; omega
  rw [show (x : Int) / (p : Int) = ((x >>> c : Nat) : Int) by rw [Nat.shiftRight_eq_div_pow, hp]; exact (Int.natCast_ediv _ _).symm,
    xor_i64 _ _ (h63 _ (rotr_lt _ _)) (h63 _ (rotr_lt _ _)), xor_i64 _ _ (h63 _ (xor32 (rotr_lt _ _) (rotr_lt _ _))) (h63 _ (shr_lt hx c)), sigS]
theorem sigR_bits (x a b c : Nat) : bits .xor .i64 (bits .xor .i64 ((rotr x a : Nat) : Int) ((rotr x b : Nat) : Int)) ((rotr x c : Nat) : Int) = ((sigR x a b c : Nat) : Int) := by
  have h63 : ∀ n : Nat, n < 4294967296 → n < 2 ^ 63 := fun n h => by rw [show (2 : Nat) ^ 63 = 9223372036854775808 from by decide]; omega
  rw [xor_i64 _ _ (h63 _ (rotr_lt _ _)) (h63 _ (rotr_lt _ _)), xor_i64 _ _ (h63 _ (xor32 (rotr_lt _ _) (rotr_lt _ _))) (h63 _ (rotr_lt _ _)), sigR]
theorem chI_bits (e f g : Nat) (he : e < 4294967296) (hf : f < 4294967296) (hg : g < 4294967296) : bits .or .i64 (bits .and .i64 (e : Int) (f : Int)) (bits .and .i64 (4294967295 - (e : Int)) (g : Int)) = ((chN e f g : Nat) : Int) := by
  have h63 : ∀ n : Nat, n < 4294967296 → n < 2 ^ 63 := fun n h => by rw [show (2 : Nat) ^ 63 = 9223372036854775808 from by decide]; omega
  rw [show (4294967295 - (e : Int)) = ((4294967295 - e : Nat) : Int) by omega, and_i64 _ _ (h63 _ he) (h63 _ hf), and_i64 _ _ (h63 _ (by omega)) (h63 _ hg), or_i64 _ _ (h63 _ (and32 hf)) (h63 _ (and32 hg)), chN]
theorem majI_bits (a b c : Nat) (ha : a < 4294967296) (hb : b < 4294967296) (hc : c < 4294967296) : bits .or .i64 (bits .or .i64 (bits .and .i64 (a : Int) (b : Int)) (bits .and .i64 (a : Int) (c : Int))) (bits .and .i64 (b : Int) (c : Int)) = ((majN a b c : Nat) : Int) := by
  have h63 : ∀ n : Nat, n < 4294967296 → n < 2 ^ 63 := fun n h => by rw [show (2 : Nat) ^ 63 = 9223372036854775808 from by decide]; omega
  rw [and_i64 _ _ (h63 _ ha) (h63 _ hb), and_i64 _ _ (h63 _ ha) (h63 _ hc), and_i64 _ _ (h63 _ hb) (h63 _ hc), or_i64 _ _ (h63 _ (and32 hb)) (h63 _ (and32 hc)), or_i64 _ _ (h63 _ (or32 (and32 hb) (and32 hc))) (h63 _ (and32 hc)), majN]
theorem wrapI (a b : Nat) (h : a + b < 9223372036854775808) : IntKind.i64.wrap ((a : Int) + (b : Int)) = ((a + b : Nat) : Int) := by
  rw [IntKind.wrap_i64]; omega
theorem wrap64I (a b : Nat) (h : a + b < 9223372036854775808) : wrap64 ((a : Int) + (b : Int)) = ((a + b : Nat) : Int) := by
  rw [wrap64]; omega
theorem tmodI (a : Nat) : ((a : Nat) : Int).tmod 4294967296 = ((a % 4294967296 : Nat) : Int) := by
  rw [Int.tmod_eq_emod_of_nonneg (by omega)]; omega
theorem fourI (w : World) (t u : TypeId) (L0 L1 L2 L3 : List Nat) (W : World) (hW : (((w.alloc (.cells (i64s L0) t)).alloc (.cells (i64s L1) u)).alloc (.cells (i64s L2) t)).alloc (.cells (i64s L3) u) = W) :
    NumsI W w.heap.size t L0 ∧ NumsI W (w.heap.size + 1) u L1 ∧ NumsI W (w.heap.size + 2) t L2 ∧ NumsI W (w.heap.size + 3) u L3 ∧ Below w.heap.size w W ∧ W.heap.size = w.heap.size + 4 := by
  subst hW
  have n0 := NumsI.new w t L0
  have b0 := alloc_below w (.cells (i64s L0) t)
  have z0 := World.size_alloc (w := w) (o := .cells (i64s L0) t)
  generalize w.alloc (.cells (i64s L0) t) = W0 at *
  have n1 := NumsI.new W0 u L1
  have b1 := alloc_below W0 (.cells (i64s L1) u)
  have z1 := World.size_alloc (w := W0) (o := .cells (i64s L1) u)
  rw [z0] at n1
  generalize W0.alloc (.cells (i64s L1) u) = W1 at *
  have n2 := NumsI.new W1 t L2
  have b2 := alloc_below W1 (.cells (i64s L2) t)
  have z2 := World.size_alloc (w := W1) (o := .cells (i64s L2) t)
  rw [z1, z0] at n2
  generalize W1.alloc (.cells (i64s L2) t) = W2 at *
  have n3 := NumsI.new W2 u L3
  have b3 := alloc_below W2 (.cells (i64s L3) u)
  have z3 := World.size_alloc (w := W2) (o := .cells (i64s L3) u)
  rw [z2, z1, z0] at n3
  generalize W2.alloc (.cells (i64s L3) u) = W3 at *
  exact ⟨((n0.keep b1).keep b2).keep b3, (n1.keep b2).keep b3, n2.keep b3, n3, ((b0.trans (b1.mono (by omega))).trans (b2.mono (by omega))).trans (b3.mono (by omega)), by omega⟩
end Ks
namespace Go.Proofs.YteppfjgglelpbaaGreat
open Go.RowKit Ks
set_option linter.unusedVariables false

end Go.Proofs.YteppfjgglelpbaaGreat
/- The reference's Text. -/
namespace Go.Proofs.YteppfjgglelpbaaGreat
open Go.RowKit Ks
set_option linter.unusedVariables false

end Go.Proofs.YteppfjgglelpbaaGreat
/- What the reference's Noughts answers. -/
namespace Go.Proofs.YteppfjgglelpbaaGreat
open Go.RowKit Ks
set_option linter.unusedVariables false

theorem Tryz.infoByteN : (Tryz.prog.info? 5).map (fun i => (i.zero, i.size, i.bytes)) = some (some (.int .u8 0), 1, 1) := by kernel_rfl

set_option maxHeartbeats 400000 in
theorem noughts_any (n : Int) (w : World) (hn : n ≤ 281474976710656) :
    Calls Tryz.prog 56 #[.int .i64 n] w fun e w' => e = .returned (.string (zerosS n)) ∧ Below w.heap.size w w' := by
  refine calls_by fun R HR => ?_
  by_cases h1 : n < 1
  · go_enter Tryz.func56, Tryz.ntmps56
    go_wp2
    refine HR.out _ _ ⟨?_, Below.refl _ _⟩
    rw [zerosS, show n.toNat = 0 by omega]
    rfl
  · obtain ⟨n, rfl⟩ := Int.eq_ofNat_of_zero_le (show 0 ≤ n by omega)
    have hmk := fun w => run_make_row' (P := Tryz.prog) 118 5 (.int .u8 0) 1 Tryz.underlying118 Tryz.infoByteN rfl .i64 .i64 n (by omega) (by omega) w
    have hconv := conv_row (P := Tryz.prog) (src := 118) (dst := 9) (cap := n) (List.replicate n 0) Tryz.underlying118 Tryz.underlying5 Tryz.underlying9 (World.rowIs_made w (.int .u8 0) n 5) (by simp) (by simp)
    go_enter Tryz.func56, Tryz.ntmps56
    go_wp2
    refine HR.out _ _ ⟨?_, (Below.refl _ _).alloc (Nat.le_refl _) _⟩
    rw [zerosS, show ((n : Int)).toNat = n by omega]
    simp

end Go.Proofs.YteppfjgglelpbaaGreat
/- The reference's Pad and Sum. -/
namespace Ks
open Go Go.RowKit
set_option linter.unusedVariables false
theorem pad_more (n j : Nat) (h : j < 63 - (n + 8) % 64) : (n + (1 + j)) % 64 ≠ 56 := by omega
theorem pad_end (n j : Nat) (h : j = 63 - (n + 8) % 64) : (n + (1 + j)) % 64 = 56 := by omega
theorem cut64 (s : ByteArray) (k : Nat) (h : 64 * k + 64 ≤ s.size) : (s.extract (64 * k) (64 * k + 64)).data.toList = (s.data.toList.drop (64 * k)).take 64 := by
  rw [ByteArray.data_extract, Array.toList_extract, List.extract_eq_take_drop, show 64 * k + 64 - 64 * k = 64 by omega]
theorem cutAt (A : ByteArray) (k : Nat) : (A.extract k (k + 64)).data.toList = (A.data.toList.drop k).take 64 := by
  rw [ByteArray.data_extract, Array.toList_extract, List.extract_eq_take_drop, show k + 64 - k = 64 by omega]
theorem fold_step (y : St) (l : List UInt8) (k : Nat) (h : k + 64 ≤ l.length) : foldN y (l.drop k) = foldN (turnN y ((l.drop k).take 64)) (l.drop (k + 64)) := by
  rw [foldN_ge y _ (by rw [List.length_drop]; omega), List.drop_drop]
end Ks
namespace Go.Proofs.YteppfjgglelpbaaGreat
open Go.RowKit Ks
set_option linter.unusedVariables false

end Go.Proofs.YteppfjgglelpbaaGreat
