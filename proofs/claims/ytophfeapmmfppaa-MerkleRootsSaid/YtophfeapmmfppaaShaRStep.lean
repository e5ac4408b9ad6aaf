/- What a block turns a state to: the reference's step. -/
import Derived.Test.YtophfeapmmfppaaShaTurned
import Derived.Test.YtophfeapmmfppaaOctetRGet
namespace Ks
open Go Go.RowKit
set_option linter.unusedVariables false
/-- an array of numbers in a block -/
structure NumsI (w : World) (b : Nat) (t : TypeId) (L : List Nat) : Prop where
  blk : w.heap[b]? = some (.cells (i64s L) t (0, 0))
theorem NumsI.cell {w : World} {b : Nat} {t : TypeId} {L : List Nat} (h : NumsI w b t L) (j : Nat) (hj : j < L.length) : w.cell? ⟨b, j, none⟩ = some (.int .i64 ((L.getD j 0 : Nat) : Int)) := by
  rw [cell_of_row w b j _ _ _ h.blk, i64s_get L j hj]
theorem NumsI.frozen {w : World} {b : Nat} {t : TypeId} {L : List Nat} (h : NumsI w b t L) (j : Nat) : w.frozen? ⟨b, j, none⟩ = false := frozen_of_row w b j _ _ h.blk
theorem NumsI.lt {w : World} {b : Nat} {t : TypeId} {L : List Nat} (h : NumsI w b t L) : b < w.heap.size := lt_of_block h.blk
theorem NumsI.keep {w w' : World} {b : Nat} {t : TypeId} {L : List Nat} (h : NumsI w b t L) (hb : Below w.heap.size w w') : NumsI w' b t L := ⟨(hb.block b h.lt).trans h.blk⟩
theorem NumsI.set {w : World} {b : Nat} {t : TypeId} {L : List Nat} (h : NumsI w b t L) (j x : Nat) : NumsI (w.setCell ⟨b, j, none⟩ (.int .i64 (x : Int))) b t (L.set j x) :=
  ⟨by rw [setCell_eq_setRow w b j _ _ _ _ h.blk, setRow_heap w b _ _ _ _ h.blk, i64s_set]⟩
theorem NumsI.other {w : World} {b c : Nat} {t : TypeId} {L : List Nat} (h : NumsI w b t L) (j : Nat) (v : Value) (hc : b ≠ c) : NumsI (w.setCell ⟨c, j, none⟩ v) b t L := ⟨(set_ne v hc).trans h.blk⟩
theorem NumsI.row {w : World} {b : Nat} {t : TypeId} {old : Array Value} (h : w.heap[b]? = some (.cells old t (0, 0))) (L : List Nat) : NumsI (w.setRow b (i64s L)) b t L := ⟨setRow_heap _ _ _ _ _ _ h⟩
theorem NumsI.rowOther {w : World} {b c : Nat} {t : TypeId} {L : List Nat} (h : NumsI w b t L) (C : Array Value) (hc : b ≠ c) : NumsI (w.setRow c C) b t L := ⟨(setRow_other _ _ _ _ hc).trans h.blk⟩
theorem NumsI.alloc {w : World} {b : Nat} {t : TypeId} {L : List Nat} (h : NumsI w b t L) (o : Obj) : NumsI (w.alloc o) b t L := ⟨blk_keep h.blk o⟩
theorem NumsI.new (w : World) (t : TypeId) (L : List Nat) : NumsI (w.alloc (.cells (i64s L) t)) w.heap.size t L := ⟨alloc_new _ _⟩
theorem num4_cut (s : ByteArray) (k : Nat) (h : s.size = 64) : getN (s.extract (4 * k) (4 * k + 4)).data.toList = num4 s.data.toList k := by
  rw [num4]
  congr 1
  rw [ByteArray.data_extract, Array.toList_extract, List.extract_eq_take_drop]
  rw [show 4 * k + 4 - 4 * k = 4 by omega]
theorem sigS_bits (x a b c p : Nat) (hx : x < 4294967296) (hp : 2 ^ c = p) : bits .xor .i64 (bits .xor .i64 ((rotr x a : Nat) : Int) ((rotr x b : Nat) : Int)) ((x : Int) / (p : Int)) = ((sigS x a b c : Nat) : Int) := by
  have h63 : ∀ n : Nat, n < 4294967296 → n < 2 ^ 63 := fun n h => by rw [show (2 : Nat) ^ 63 = 9223372036854775808 from by decide]; omega
  rw [show (x : Int) / (p : Int) = ((x >>> c : Nat) : Int) by rw [Nat.shiftRight_eq_div_pow, hp]; exact (Int.natCast_ediv _ _).symm,
    xor_i64 _ _ (h63 _ (rotr_lt _ _)) (h63 _ (rotr_lt _ _)), xor_i64 _ _ (h63 _ (xor32 (rotr_lt _ _) (rotr_lt _ _))) (h63 _ (shr_lt hx c)), sigS]
theorem sigR_bits (x a b c : Nat) : bits .xor .i64 (bits .xor .i64 ((rotr x a : Nat) : Int) ((rotr x b : Nat) : Int)) ((rotr x c : Nat) : Int) = ((sigR x a b c : Nat) : Int) := by
  have h63 : ∀ n : Nat, n < 4294967296 → n < 2 ^ 63 := fun n h => by rw [show (2 : Nat) ^ 63 = 9223372036854775808 from by decide]; omega
  rw [xor_i64 _ _ (h63 _ (rotr_lt _ _)) (h63 _ (rotr_lt _ _)), xor_i64 _ _ (h63 _ (xor32 (rotr_lt _ _) (rotr_lt _ _))) (h63 _ (rotr_lt _ _)), sigR]
theorem chI_bits (e f g : Nat) (he : e < 4294967296) (hf : f < 4294967296) (hg : g < 4294967296) : bits .or .i64 (bits .and .i64 (e : Int) (f : Int)) (bits .and .i64 (4294967295 - (e : Int)) (g : Int)) = ((chN e f g : Nat) : Int) := by
  have h63 : ∀ n : Nat, n < 4294967296 → n < 2 ^ 63 := fun n h => by rw [show (2 : Nat) ^ 63 = 9223372036854775808 from by decide]; omega
  rw [show (4294967295 - (e : Int)) = ((4294967295 - e : Nat) : Int) by omega, and_i64 _ _ (h63 _ he) (h63 _ hf), and_i64 _ _ (h63 _ (by omega)) (h63 _ hg), or_i64 _ _ (h63 _ (and32 hf)) (h63 _ (and32 hg)), chN]
theorem majI_bits (a b c : Nat) (ha : a < 4294967296) (hb : b < 4294967296) (hc : c < 4294967296) : bits .or .i64 (bits .or .i64 (bits .and .i64 (a : Int) (b : Int)) (bits .and .i64 (a : Int) (c : Int))) (bits .and .i64 (b : Int) (c : Int)) = ((majN a b c : Nat) : Int) := by
  have h63 : ∀ n : Nat, n < 4294967296 → n < 2 ^ 63 := fun n h => by rw [show (2 : Nat) ^ 63 = 9223372036854775808 from by decide]; omega
  rw [and_i64 _ _ (h63 _ ha) (h63 _ hb), and_i64 _ _ (h63 _ ha) (h63 _ hc), and_i64 _ _ (h63 _ hb) (h63 _ hc), or_i64 _ _ (h63 _ (and32 hb)) (h63 _ (and32 hc)), or_i64 _ _ (h63 _ (or32 (and32 hb) (and32 hc))) (h63 _ (and32 hc)), majN]
theorem wrapI (a b : Nat) (h : a + b < 9223372036854775808) : IntKind.i64.wrap ((a : Int) + (b : Int)) = ((a + b : Nat) : Int) := by
  rw [IntKind.wrap_i64]; omega
theorem wrap64I (a b : Nat) (h : a + b < 9223372036854775808) : wrap64 ((a : Int) + (b : Int)) = ((a + b : Nat) : Int) := by
  rw [wrap64]; omega
theorem tmodI (a : Nat) : ((a : Nat) : Int).tmod 4294967296 = ((a % 4294967296 : Nat) : Int) := by
  rw [Int.tmod_eq_emod_of_nonneg (by omega)]; omega
theorem fourI (w : World) (t u : TypeId) (L0 L1 L2 L3 : List Nat) (W : World) (hW : (((w.alloc (.cells (i64s L0) t)).alloc (.cells (i64s L1) u)).alloc (.cells (i64s L2) t)).alloc (.cells (i64s L3) u) = W) :
    NumsI W w.heap.size t L0 ∧ NumsI W (w.heap.size + 1) u L1 ∧ NumsI W (w.heap.size + 2) t L2 ∧ NumsI W (w.heap.size + 3) u L3 ∧ Below w.heap.size w W ∧ W.heap.size = w.heap.size + 4 := by
  subst hW
  have n0 := NumsI.new w t L0
  have b0 := alloc_below w (.cells (i64s L0) t)
  have z0 := World.size_alloc (w := w) (o := .cells (i64s L0) t)
  generalize w.alloc (.cells (i64s L0) t) = W0 at *
  have n1 := NumsI.new W0 u L1
  have b1 := alloc_below W0 (.cells (i64s L1) u)
  have z1 := World.size_alloc (w := W0) (o := .cells (i64s L1) u)
  rw [z0] at n1
  generalize W0.alloc (.cells (i64s L1) u) = W1 at *
  have n2 := NumsI.new W1 t L2
  have b2 := alloc_below W1 (.cells (i64s L2) t)
  have z2 := World.size_alloc (w := W1) (o := .cells (i64s L2) t)
  rw [z1, z0] at n2
  generalize W1.alloc (.cells (i64s L2) t) = W2 at *
  have n3 := NumsI.new W2 u L3
  have b3 := alloc_below W2 (.cells (i64s L3) u)
  have z3 := World.size_alloc (w := W2) (o := .cells (i64s L3) u)
  rw [z2, z1, z0] at n3
  generalize W2.alloc (.cells (i64s L3) u) = W3 at *
  exact ⟨((n0.keep b1).keep b2).keep b3, (n1.keep b2).keep b3, n2.keep b3, n3, ((b0.trans (b1.mono (by omega))).trans (b2.mono (by omega))).trans (b3.mono (by omega)), by omega⟩
end Ks
namespace Go.Proofs.Ytophfeapmmfppaa
open Go.RowKit Ks
set_option linter.unusedVariables false

set_option maxRecDepth 20000 in
set_option maxHeartbeats 1000000 in
theorem step_any (x : St) (s : ByteArray) (w : World) (hx : x.ok) (h : s.size = 64) :
    Calls Try.prog 47 #[.agg (i64s x.list), .string s, .agg (i64s kays)] w fun e w' => e = .returned (.agg (i64s (turnN x s.data.toList).list)) ∧ Below w.heap.size w w' := by
  refine calls_by fun R HR => ?_
  obtain ⟨C, hC⟩ : ∃ C, i64s x.list = C := ⟨_, rfl⟩
  rw [hC]
  have HC := Lib.hid hC
  clear hC
  obtain ⟨CK, hCK⟩ : ∃ CK, i64s kays = CK := ⟨_, rfl⟩
  rw [hCK]
  have HCK := Lib.hid hCK
  clear hCK
  go_enter Try.func47, Try.ntmps47
  go_upto_region 2 with fail
  refine code_cut (fun W => NumsI W w.heap.size 75 x.list ∧ NumsI W (w.heap.size + 1) 77 kays ∧ NumsI W (w.heap.size + 2) 75 (List.replicate 8 0) ∧ NumsI W (w.heap.size + 3) 77 (List.replicate 64 0) ∧ Below w.heap.size w W ∧ W.heap.size = w.heap.size + 4)
    (by rw [← HC.out, ← HCK.out]; exact fourI w 75 77 x.list kays (List.replicate 8 0) (List.replicate 64 0) _ rfl) ?_
  intro W hF
  have HF := Lib.hid hF
  clear hF HC HCK
  go_wp2_with fail
  go_loopw [8] (fun i wx => ∃ k L, k ≤ 64 ∧ i = .int .i64 (k : Nat) ∧ Hid (L = wordsN s.data.toList k ++ List.replicate (64 - k) 0) ∧ Hid (NumsI wx w.heap.size 75 x.list ∧ NumsI wx (w.heap.size + 1) 77 kays ∧ NumsI wx (w.heap.size + 2) 75 (List.replicate 8 0) ∧ NumsI wx (w.heap.size + 3) 77 L ∧ Below w.heap.size w wx)) (fun i _ => 64 - (intOf i).toNat)
  case atStart => exact ⟨0, _, by omega, rfl, Lib.hid rfl, Lib.hid ⟨HF.out.1, HF.out.2.1, HF.out.2.2.1, HF.out.2.2.2.1, HF.out.2.2.2.2.1⟩⟩
  case round =>
    obtain ⟨k, L, hk, rfl, hL, hN⟩ := hrel
    have hlen : L.length = 64 := by rw [hL.out]; exact wpad_length _ k hk
    by_cases hlt : k < 64
    · by_cases h16 : k < 16
      · have hx := Lib.hid (wpad_set s.data.toList k (num4 s.data.toList k) hlt (if_pos h16))
        have hn4 := Lib.hid (num4_cut s k h)
        have hl4 := Lib.hid (num4_lt s.data.toList k)
        go_wp2_with fail
        refine (rget_ok (s.extract (4 * k) (4 * k + 4)) _ (by rw [ByteArray.size_extract]; omega) (Or.inl (by rw [ByteArray.size_extract]; omega)) (by rw [hn4.out]; have := hl4.out; omega)).mono ?_
        rintro e w1 ⟨rfl, rfl⟩
        rw [hn4.out]
        obtain ⟨n0, n1, n2, n3, nb⟩ := hN.out
        have f1 := n3.frozen k
        have c1 := n3.cell k (by omega)
        clear n0 n1 n2 n3 nb
        generalize num4 s.data.toList k = v at *
        go_wp2_with fail
        go_round
        case rel =>
          refine ⟨k + 1, _, by omega, by go_num, Lib.hid rfl, Lib.hid ⟨hN.out.1.other _ _ (by omega), hN.out.2.1.other _ _ (by omega), hN.out.2.2.1.other _ _ (by omega), ?_, hN.out.2.2.2.2.setCell (by simp; omega) _⟩⟩
          rw [← hx.out, ← hL.out]
          exact hN.out.2.2.2.1.set _ _
        case measure => simp [intOf]; omega
      · have hx := Lib.hid (wpad_set s.data.toList k (wNext (wordsN s.data.toList k)) hlt (if_neg h16))
        obtain ⟨n0, n1, n2, n3, nb⟩ := hN.out
        obtain ⟨y16, h16'⟩ : ∃ y, L.getD (k - 16) 0 = y := ⟨_, rfl⟩
        obtain ⟨y15, h15'⟩ : ∃ y, L.getD (k - 15) 0 = y := ⟨_, rfl⟩
        obtain ⟨y7, h7'⟩ : ∃ y, L.getD (k - 7) 0 = y := ⟨_, rfl⟩
        obtain ⟨y2, h2'⟩ : ∃ y, L.getD (k - 2) 0 = y := ⟨_, rfl⟩
        have c16 := n3.cell (k - 16) (by omega)
        have c15 := n3.cell (k - 15) (by omega)
        have c7 := n3.cell (k - 7) (by omega)
        have c2 := n3.cell (k - 2) (by omega)
        rw [h16'] at c16
        rw [h15'] at c15
        rw [h7'] at c7
        rw [h2'] at c2
        have hl : ∀ j, L.getD j 0 < 4294967296 := fun j => by rw [hL.out]; exact getD_lt (wpad_lt s.data.toList k) j
        have HLT := Lib.hid (And.intro (h16' ▸ hl (k - 16)) (And.intro (h15' ▸ hl (k - 15)) (And.intro (h7' ▸ hl (k - 7)) (h2' ▸ hl (k - 2)))))
        have hV : Hid ((y16 + sigS y15 7 18 3 + y7 + sigS y2 17 19 10) % 4294967296 = wNext (wordsN s.data.toList k)) := Lib.hid (by
          rw [wNext, wordsN_length, ← wpad_get _ k (k - 16) (by omega), ← wpad_get _ k (k - 15) (by omega), ← wpad_get _ k (k - 7) (by omega), ← wpad_get _ k (k - 2) (by omega), ← hL.out, h16', h15', h7', h2'])
        clear h16' h15' h7' h2' hl n0 n1 n2 nb
        obtain ⟨j16, r16⟩ : ∃ j, k - 16 = j := ⟨_, rfl⟩
        obtain ⟨j15, r15⟩ : ∃ j, k - 15 = j := ⟨_, rfl⟩
        obtain ⟨j7, r7⟩ : ∃ j, k - 7 = j := ⟨_, rfl⟩
        obtain ⟨j2, r2⟩ : ∃ j, k - 2 = j := ⟨_, rfl⟩
        rw [r16] at c16
        rw [r15] at c15
        rw [r7] at c7
        rw [r2] at c2
        have w16 : IntKind.i64.wrap ((k : Int) - 16) = (j16 : Int) := by rw [IntKind.wrap_i64]; omega
        have w15 : IntKind.i64.wrap ((k : Int) - 15) = (j15 : Int) := by rw [IntKind.wrap_i64]; omega
        have w7 : IntKind.i64.wrap ((k : Int) - 7) = (j7 : Int) := by rw [IntKind.wrap_i64]; omega
        have w2 : IntKind.i64.wrap ((k : Int) - 2) = (j2 : Int) := by rw [IntKind.wrap_i64]; omega
        have b16 : (j16 : Int) < 64 := by omega
        have b15 : (j15 : Int) < 64 := by omega
        have b7 : (j7 : Int) < 64 := by omega
        have b2 : (j2 : Int) < 64 := by omega
        clear r16 r15 r7 r2
        go_wp2_with fail
        go_quiet (fail)
        have hbd := below_drewN (Below.refl wr.heap.size wr) nq
        have HM : Hid (Below wr.heap.size wr (wr.drewN nq)) := Lib.hid hbd
        clear hbd c15 c2 w15 w2 b15 b2
        generalize wr.drewN nq = v0 at *
        go_wp2_with fail
        refine (turn_any y15 7 _ HLT.out.2.1 (by decide) (by decide)).mono ?_
        rintro e v1 ⟨rfl, hb1⟩
        have HM1 := Lib.hid (HM.out.trans (hb1.mono HM.out.size))
        clear hb1 HM
        go_wp2_with fail
        refine (turn_any y15 18 _ HLT.out.2.1 (by decide) (by decide)).mono ?_
        rintro e v2 ⟨rfl, hb1⟩
        have HM2 := Lib.hid (HM1.out.trans (hb1.mono HM1.out.size))
        clear hb1 HM1
        go_wp2_with fail
        have e1 : bits .xor .i64 (bits .xor .i64 ((rotr y15 7 : Nat) : Int) ((rotr y15 18 : Nat) : Int)) (wrap64 ((y15 : Int) / 8)) = ((sigS y15 7 18 3 : Nat) : Int) := by
          rw [show wrap64 ((y15 : Int) / 8) = (y15 : Int) / 8 by have := HLT.out.2.1; rw [wrap64]; omega]
          exact sigS_bits y15 7 18 3 8 HLT.out.2.1 rfl
        rw [e1]
        clear e1
        have hA1 : Hid (sigS y15 7 18 3 < 4294967296) := Lib.hid (sigS_lt HLT.out.2.1)
        generalize sigS y15 7 18 3 = A at *
        refine (turn_any y2 17 _ HLT.out.2.2.2 (by decide) (by decide)).mono ?_
        rintro e v3 ⟨rfl, hb1⟩
        have HM1 := Lib.hid (HM2.out.trans (hb1.mono HM2.out.size))
        clear hb1 HM2
        go_wp2_with fail
        refine (turn_any y2 19 _ HLT.out.2.2.2 (by decide) (by decide)).mono ?_
        rintro e v4 ⟨rfl, hb1⟩
        have HM2 := Lib.hid (HM1.out.trans (hb1.mono HM1.out.size))
        clear hb1 HM1
        have c16' := (HM2.out.cell (p := ⟨w.heap.size + 3, j16, none⟩) n3.lt).trans c16
        have c7' := (HM2.out.cell (p := ⟨w.heap.size + 3, j7, none⟩) n3.lt).trans c7
        have hb := HM2.out
        have n3' := n3.keep HM2.out
        have hM := Lib.hid (And.intro (hN.out.1.keep hb) (And.intro (hN.out.2.1.keep hb) (And.intro (hN.out.2.2.1.keep hb) (And.intro n3' (hN.out.2.2.2.2.trans (hb.mono hN.out.2.2.2.2.size))))))
        have n3f := n3'.frozen k
        have n3c := n3'.cell k (by omega)
        clear c16 c7 n3 hb n3' HM2 hN
        go_wp2_with fail
        have e1 : bits .xor .i64 (bits .xor .i64 ((rotr y2 17 : Nat) : Int) ((rotr y2 19 : Nat) : Int)) (wrap64 ((y2 : Int) / 1024)) = ((sigS y2 17 19 10 : Nat) : Int) := by
          rw [show wrap64 ((y2 : Int) / 1024) = (y2 : Int) / 1024 by have := HLT.out.2.2.2; rw [wrap64]; omega]
          exact sigS_bits y2 17 19 10 1024 HLT.out.2.2.2 rfl
        rw [e1]
        clear e1
        have hE1 : Hid (sigS y2 17 19 10 < 4294967296) := Lib.hid (sigS_lt HLT.out.2.2.2)
        generalize sigS y2 17 19 10 = E at *
        refine wp_region_still_tail 16 (by kernel_rfl) (by kernel_rfl) ?_
        simp only [List.take_succ_cons, List.take_zero, List.drop_succ_cons, List.drop_zero]
        repeat still_step
        refine wpStill_nil ?_
        change wpList _ _ _ _ _ v4.drew
        obtain ⟨V, hVV⟩ : ∃ V, wNext (wordsN s.data.toList k) = V := ⟨_, rfl⟩
        have hw : (IntKind.i64.wrap (IntKind.i64.wrap (IntKind.i64.wrap ((y16 : Int) + A) + y7) + E)).tmod 4294967296 = (V : Int) := by
          have h1 := hV.out
          obtain ⟨l1, l2, l3, l4⟩ := HLT.out
          have l5 := hA1.out
          have l6 := hE1.out
          rw [wrapI _ _ (by omega), wrapI _ _ (by omega), wrapI _ _ (by omega), tmodI, h1, hVV]
        rw [hw]
        have hbd := drew_below v4
        have hM2 := Lib.hid (And.intro (hM.out.1.keep hbd) (And.intro (hM.out.2.1.keep hbd) (And.intro (hM.out.2.2.1.keep hbd) (And.intro (hM.out.2.2.2.1.keep hbd) (hM.out.2.2.2.2.trans (hbd.mono hM.out.2.2.2.2.size))))))
        rw [hVV] at hx
        clear hVV hw hV hbd hM c16' c7' w16 w7 b16 b7 n3c n3f
        generalize v4.drew = v5 at *
        have c1 := hM2.out.2.2.2.1.cell k (by omega)
        have f1 := hM2.out.2.2.2.1.frozen k
        go_wp2
        go_round
        case rel =>
          refine ⟨k + 1, _, by omega, by go_num, Lib.hid rfl, Lib.hid ⟨hM2.out.1.other _ _ (by omega), hM2.out.2.1.other _ _ (by omega), hM2.out.2.2.1.other _ _ (by omega), ?_, hM2.out.2.2.2.2.setCell (by simp; omega) _⟩⟩
          rw [← hx.out, ← hL.out]
          exact hM2.out.2.2.2.1.set _ _
        case measure => simp [intOf]; omega
    · obtain rfl : k = 64 := by omega
      have e5 : L = wordsN s.data.toList 64 := by rw [hL.out]; simp
      have hM := hN
      rw [e5] at hM
      clear e5
      clear hL hN hlen hk hlt HF
      rw [show ((64 : Nat) : Int) = (64 : Int) from rfl]
      have HS := Lib.hid (show (i64s x.list).size = 8 from rfl)
      go_upto_region 12 with (first
        | refine wpList_loadA rfl 75 (.tmp 3) rfl _ 75 _ _ 8 8 rfl hM.out.1.blk Try.underlying75 (by kernel_rfl) HS.out ?_
        | refine wpList_storeN rfl 75 (.tmp 13) (.tmp 85) rfl 75 _ (i64s x.list) 8 rfl rfl (by kernel_rfl) HS.out rfl (i64s_one _) ?_)
      have hz := hM.out.2.2.2.2.size
      have hb9 := alloc_below wr (.cells (i64s x.list) 75)
      have HF2 := Lib.hid (And.intro (NumsI.new wr 75 x.list) (And.intro (hM.out.1.keep hb9) (And.intro (hM.out.2.1.keep hb9) (And.intro (hM.out.2.2.1.keep hb9) (And.intro (hM.out.2.2.2.1.keep hb9) (hM.out.2.2.2.2.trans (hb9.mono hz)))))))
      have Hz := Lib.hid (show w.heap.size + 4 ≤ wr.heap.size by have := hM.out.2.2.2.1.lt; omega)
      clear hz hb9 hM HS
      generalize wr.alloc (.cells (i64s x.list) 75) = W3 at *
      generalize wr.heap.size = b4 at *
      go_wp2_with fail
      go_loopw [14] (fun i wx => ∃ k : Nat, k ≤ 64 ∧ i = .int .i64 k ∧ Hid (NumsI wx b4 75 (roundsN x (wordsN s.data.toList 64) k).list ∧ NumsI wx w.heap.size 75 x.list ∧ NumsI wx (w.heap.size + 1) 77 kays ∧ NumsI wx (w.heap.size + 2) 75 (List.replicate 8 0) ∧ NumsI wx (w.heap.size + 3) 77 (wordsN s.data.toList 64) ∧ Below w.heap.size w wx)) (fun i _ => 64 - (intOf i).toNat)
      case atStart => exact ⟨0, by omega, rfl, HF2⟩
      case round =>
        obtain ⟨k, hk, rfl, hN⟩ := hrel
        by_cases hlt : k < 64
        · obtain ⟨n7, n0, n1, n2, n5, nb⟩ := hN.out
          have hY := roundsN_ok hx (wordsN s.data.toList 64) k
          have hl7 : (wordsN s.data.toList 64).length = 64 := wordsN_length _ _
          obtain ⟨kk, hkk⟩ : ∃ kk, kays.getD k 0 = kk := ⟨_, rfl⟩
          obtain ⟨ww, hww⟩ : ∃ ww, (wordsN s.data.toList 64).getD k 0 = ww := ⟨_, rfl⟩
          have hs : roundsN x (wordsN s.data.toList 64) (k + 1) = roundN (roundsN x (wordsN s.data.toList 64) k) kk ww := by rw [← hkk, ← hww]; rfl
          have ck := n1.cell k hlt
          have cw := n5.cell k (by omega)
          rw [hkk] at ck
          rw [hww] at cw
          have HKW := Lib.hid (And.intro (show kk < 4294967296 from hkk ▸ getD_lt kays_lt k) (show ww < 4294967296 from hww ▸ getD_lt (wordsN_lt s.data.toList 64) k))
          obtain ⟨Y, hYY⟩ : ∃ Y, roundsN x (wordsN s.data.toList 64) k = Y := ⟨_, rfl⟩
          rw [hYY] at hs hY n7
          have c0 := n7.cell 0 (show 0 < 8 by decide)
          have c1 := n7.cell 1 (show 1 < 8 by decide)
          have c2 := n7.cell 2 (show 2 < 8 by decide)
          have c3 := n7.cell 3 (show 3 < 8 by decide)
          have c4 := n7.cell 4 (show 4 < 8 by decide)
          have c5 := n7.cell 5 (show 5 < 8 by decide)
          have c6 := n7.cell 6 (show 6 < 8 by decide)
          have c7 := n7.cell 7 (show 7 < 8 by decide)
          have HN := Lib.hid (And.intro n7 (And.intro n0 (And.intro n1 (And.intro n2 (And.intro n5 nb)))))
          clear n7 n0 n1 n2 n5 nb hN hkk hww hYY HF2
          obtain ⟨ya, yb, yc, yd, ye, yf, yg, yh⟩ := Y
          change wr.cell? ⟨b4, 0, none⟩ = some (.int .i64 (ya : Int)) at c0
          change wr.cell? ⟨b4, 1, none⟩ = some (.int .i64 (yb : Int)) at c1
          change wr.cell? ⟨b4, 2, none⟩ = some (.int .i64 (yc : Int)) at c2
          change wr.cell? ⟨b4, 3, none⟩ = some (.int .i64 (yd : Int)) at c3
          change wr.cell? ⟨b4, 4, none⟩ = some (.int .i64 (ye : Int)) at c4
          change wr.cell? ⟨b4, 5, none⟩ = some (.int .i64 (yf : Int)) at c5
          change wr.cell? ⟨b4, 6, none⟩ = some (.int .i64 (yg : Int)) at c6
          change wr.cell? ⟨b4, 7, none⟩ = some (.int .i64 (yh : Int)) at c7
          have HL := Lib.hid hY
          have HS := Lib.hid hs
          have HX := Lib.hid hx
          clear hs hY hx hl7
          go_wp2_with fail
          go_quiet (fail)
          go_wp2_with fail
          have hbd := below_drewN (Below.refl wr.heap.size wr) nq
          have ck' := (hbd.cell (p := ⟨w.heap.size + 1, k, none⟩) HN.out.2.2.1.lt).trans ck
          have cw' := (hbd.cell (p := ⟨w.heap.size + 3, k, none⟩) HN.out.2.2.2.2.1.lt).trans cw
          have HM := Lib.hid hbd
          clear hbd c0 c1 c2 c3 c4 c5 c6 c7 ck cw
          generalize wr.drewN nq = v0 at *
          have ck := fun p => after_cell ck' p
          have cw := fun p => after_cell cw' p
          clear ck' cw'
          have T6 := Lib.hid fun p => calls_after (p := p) (turn_any ye 6 (After v0 p) HL.out.2.2.2.2.1 (by decide) (by decide))
          have T11 := Lib.hid fun p => calls_after (p := p) (turn_any ye 11 (After v0 p) HL.out.2.2.2.2.1 (by decide) (by decide))
          have T25 := Lib.hid fun p => calls_after (p := p) (turn_any ye 25 (After v0 p) HL.out.2.2.2.2.1 (by decide) (by decide))
          refine wp_region_after (by kernel_rfl) (by kernel_rfl) ?_
          repeat (quiet_step (fail))
          quiet_step (exact T6.out _)
          repeat (quiet_step (fail))
          quiet_step (exact T11.out _)
          repeat (quiet_step (fail))
          quiet_step (exact T25.out _)
          repeat (quiet_step (fail))
          refine wpQuiet_nil ?_
          rintro v1 ⟨p, rfl⟩
          have hb1 := after_below v0 p
          have HM1 := Lib.hid (HM.out.trans (hb1.mono HM.out.size))
          clear hb1 HM ck cw T6 T11 T25
          generalize After v0 p = v1 at *
          obtain ⟨t, ht⟩ : ∃ t, tN ⟨ya, yb, yc, yd, ye, yf, yg, yh⟩ kk ww = t := ⟨_, rfl⟩
          have hw : IntKind.i64.wrap (IntKind.i64.wrap (IntKind.i64.wrap (IntKind.i64.wrap ((yh : Int) + bits .xor .i64 (bits .xor .i64 ((rotr ye 6 : Nat) : Int) ((rotr ye 11 : Nat) : Int)) ((rotr ye 25 : Nat) : Int)) + bits .or .i64 (bits .and .i64 (ye : Int) (yf : Int)) (bits .and .i64 (IntKind.i64.wrap (4294967295 - (ye : Int))) (yg : Int))) + kk) + ww) = (t : Int) := by
            obtain ⟨l1, l2, l3, l4, l5, l6, l7, l8⟩ := HL.out
            obtain ⟨l9, l10⟩ := HKW.out
            have e1 : IntKind.i64.wrap (4294967295 - (ye : Int)) = 4294967295 - (ye : Int) := by
              have : ye < 4294967296 := l5
              rw [IntKind.wrap_i64]; omega
            have m1 := sigR_lt (x := ye) (a := 6) (b := 11) (c := 25)
            have m2 := chN_lt (e := ye) l6 l7
            rw [e1, sigR_bits, chI_bits ye yf yg l5 l6 l7, ← ht, tN]
            change yh < _ at l8
            change chN ye yf yg < _ at m2
            rw [wrapI _ _ (by omega), wrapI _ _ (by omega), wrapI _ _ (by omega), wrapI _ _ (by omega)]
          rw [hw]
          have HTL : Hid (t < 30000000000) := Lib.hid (by
            obtain ⟨l1, l2, l3, l4, l5, l6, l7, l8⟩ := HL.out
            obtain ⟨l9, l10⟩ := HKW.out
            have m1 := sigR_lt (x := ye) (a := 6) (b := 11) (c := 25)
            have m2 := chN_lt (e := ye) l6 l7
            change yh < _ at l8
            change chN ye yf yg < _ at m2
            rw [← ht, tN]
            change yh + sigR ye 6 11 25 + chN ye yf yg + kk + ww < _
            omega)
          have HT := Lib.hid ht
          clear hw ht
          go_wp2_with fail
          refine (turn_any ya 2 _ HL.out.1 (by decide) (by decide)).mono ?_
          rintro e v2 ⟨rfl, hb1⟩
          have HM2 := Lib.hid (HM1.out.trans (hb1.mono HM1.out.size))
          clear hb1 HM1
          go_wp2_with fail
          refine (turn_any ya 13 _ HL.out.1 (by decide) (by decide)).mono ?_
          rintro e v3 ⟨rfl, hb1⟩
          have HM1 := Lib.hid (HM2.out.trans (hb1.mono HM2.out.size))
          clear hb1 HM2
          go_wp2_with fail
          refine (turn_any ya 22 _ HL.out.1 (by decide) (by decide)).mono ?_
          rintro e v4 ⟨rfl, hb1⟩
          have HM2 := Lib.hid (HM1.out.trans (hb1.mono HM1.out.size))
          clear hb1 HM1
          go_upto_region 18 with fail
          obtain ⟨u, hu⟩ : ∃ u, uN ⟨ya, yb, yc, yd, ye, yf, yg, yh⟩ = u := ⟨_, rfl⟩
          have hw : wrap64 (bits .xor .i64 (bits .xor .i64 ((rotr ya 2 : Nat) : Int) ((rotr ya 13 : Nat) : Int)) ((rotr ya 22 : Nat) : Int) + bits .or .i64 (bits .or .i64 (bits .and .i64 (ya : Int) (yb : Int)) (bits .and .i64 (ya : Int) (yc : Int))) (bits .and .i64 (yb : Int) (yc : Int))) = (u : Int) := by
            obtain ⟨l1, l2, l3, l4, l5, l6, l7, l8⟩ := HL.out
            have m1 := sigR_lt (x := ya) (a := 2) (b := 13) (c := 22)
            have m2 := majN_lt (a := ya) l2 l3
            rw [sigR_bits, majI_bits ya yb yc l1 l2 l3, ← hu, uN]
            change majN ya yb yc < _ at m2
            rw [wrap64I _ _ (by omega)]
          rw [hw]
          have HUL : Hid (u < 10000000000 ∧ yd < 4294967296) := Lib.hid (by
            obtain ⟨l1, l2, l3, l4, l5, l6, l7, l8⟩ := HL.out
            have m1 := sigR_lt (x := ya) (a := 2) (b := 13) (c := 22)
            have m2 := majN_lt (a := ya) l2 l3
            change majN ya yb yc < _ at m2
            refine ⟨?_, l4⟩
            rw [← hu, uN]
            change sigR ya 2 13 22 + majN ya yb yc < _
            omega)
          have HU := Lib.hid hu
          clear hw hu
          have HM := Lib.hid (And.intro (HN.out.1.keep HM2.out) (And.intro (HN.out.2.1.keep HM2.out) (And.intro (HN.out.2.2.1.keep HM2.out) (And.intro (HN.out.2.2.2.1.keep HM2.out) (And.intro (HN.out.2.2.2.2.1.keep HM2.out) (HN.out.2.2.2.2.2.trans (HM2.out.mono HN.out.2.2.2.2.2.size)))))))
          clear HN HM2
          go_wp2_with (apply wpList_storeA rfl 75 (.tmp 13) (.tmp 167) rfl _ 75 _ _ 8 rfl rfl HM.out.1.blk (by kernel_rfl))
          case hn => rfl
          case hs => rfl
          case h1 => simp [Value.oneCell']
          case roundEnd =>
            rw [wrap64I t u (by have := HTL.out; have := HUL.out.1; omega), wrap64I yd t (by have := HTL.out; have := HUL.out.2; omega), tmodI, tmodI]
            refine ⟨⟨k + 1, by omega, by go_num, Lib.hid ⟨?_, HM.out.2.1.rowOther _ (by have := Hz.out; omega), HM.out.2.2.1.rowOther _ (by have := Hz.out; omega), HM.out.2.2.2.1.rowOther _ (by have := Hz.out; omega), HM.out.2.2.2.2.1.rowOther _ (by have := Hz.out; omega), below_setRow HM.out.2.2.2.2.2 (by have := Hz.out; omega) _⟩⟩, by simp [intOf]; omega⟩
            rw [HS.out]
            have hC : i64s (roundN ⟨ya, yb, yc, yd, ye, yf, yg, yh⟩ kk ww).list = #[.int .i64 (((t + u) % 4294967296 : Nat) : Int), .int .i64 (ya : Int), .int .i64 (yb : Int), .int .i64 (yc : Int), .int .i64 (((yd + t) % 4294967296 : Nat) : Int), .int .i64 (ye : Int), .int .i64 (yf : Int), .int .i64 (yg : Int)] := by
              rw [← HT.out, ← HU.out]; rfl
            rw [← hC]
            exact NumsI.row HM.out.1.blk _
        · obtain rfl : k = 64 := by omega
          obtain ⟨Y, hYY⟩ : ∃ Y, roundsN x (wordsN s.data.toList 64) 64 = Y := ⟨_, rfl⟩
          have HYX : Hid (turnN x s.data.toList = addN Y x) := Lib.hid (by rw [turnN, hYY])
          rw [hYY] at hN
          have HYO := Lib.hid (show Y.ok from hYY ▸ roundsN_ok hx (wordsN s.data.toList 64) 64)
          clear hYY
          have HX := Lib.hid hx
          clear hx HF2 hk hlt
          rw [show ((64 : Nat) : Int) = (64 : Int) from rfl]
          go_wp2_with fail
          go_loopw [25] (fun i wx => ∃ k : Nat, k ≤ 8 ∧ i = .int .i64 k ∧ Hid (NumsI wx b4 75 (sumsN Y.list x.list k) ∧ NumsI wx w.heap.size 75 x.list ∧ NumsI wx (w.heap.size + 2) 75 (List.replicate 8 0) ∧ Below w.heap.size w wx)) (fun i _ => 8 - (intOf i).toNat)
          case atStart => exact ⟨0, by omega, rfl, Lib.hid ⟨hN.out.1, hN.out.2.1, hN.out.2.2.2.1, hN.out.2.2.2.2.2⟩⟩
          case round =>
            obtain ⟨k, hk, rfl, hM⟩ := hrel
            by_cases hlt : k < 8
            · obtain ⟨y, hy⟩ : ∃ y, Y.list.getD k 0 = y := ⟨_, rfl⟩
              obtain ⟨z, hz⟩ : ∃ z, x.list.getD k 0 = z := ⟨_, rfl⟩
              have hset := Lib.hid (sumsN_set Y.list x.list k hlt)
              have hyz := Lib.hid (And.intro (show y < 4294967296 from hy ▸ st_lt HYO.out k) (show z < 4294967296 from hz ▸ st_lt HX.out k))
              have cy := hM.out.1.cell k (by rw [sumsN_length]; exact hlt)
              have cx := hM.out.2.1.cell k (show k < 8 from hlt)
              have fy := hM.out.1.frozen k
              rw [sumsN_get _ _ _ hlt, hy] at cy
              rw [hz] at cx
              rw [hy, hz] at hset
              clear hy hz hN
              go_wp2_with fail
              refine wp_region_still_tail 10 (by kernel_rfl) (by kernel_rfl) ?_
              simp only [List.take_succ_cons, List.take_zero, List.drop_succ_cons, List.drop_zero]
              repeat still_step
              refine wpStill_nil ?_
              change wpList _ _ _ _ _ wr.drew
              have hw : (IntKind.i64.wrap ((y : Int) + z)).tmod 4294967296 = (((y + z) % 4294967296 : Nat) : Int) := by
                obtain ⟨l1, l2⟩ := hyz.out
                rw [wrapI _ _ (by omega), tmodI]
              rw [hw]
              have hbd := drew_below wr
              have hM2 := Lib.hid (And.intro (hM.out.1.keep hbd) (And.intro (hM.out.2.1.keep hbd) (And.intro (hM.out.2.2.1.keep hbd) (hM.out.2.2.2.trans (hbd.mono hM.out.2.2.2.size)))))
              clear hw hM hbd cy cx fy
              generalize wr.drew = w9 at *
              have cy := hM2.out.1.cell k (by rw [sumsN_length]; exact hlt)
              have fy := hM2.out.1.frozen k
              obtain ⟨sm, hsm⟩ : ∃ sm, (y + z) % 4294967296 = sm := ⟨_, rfl⟩
              rw [hsm] at hset ⊢
              clear hsm
              go_wp2
              go_round
              case rel =>
                refine ⟨k + 1, by omega, by go_num, Lib.hid ⟨?_, hM2.out.2.1.other _ _ (by have := Hz.out; omega), hM2.out.2.2.1.other _ _ (by have := Hz.out; omega), hM2.out.2.2.2.setCell (by have := Hz.out; simp; omega) _⟩⟩
                rw [← hset.out]
                exact hM2.out.1.set _ _
              case measure => simp [intOf]; omega
            · obtain rfl : k = 8 := by omega
              have e1 := Lib.hid hM.out.1.blk
              have e2 := Lib.hid hM.out.2.2.1.blk
              have e3 := Lib.hid hM.out.2.2.2
              have e4 : Hid ((i64s (sumsN Y.list x.list 8)).size = 8) := Lib.hid rfl
              have e5 : Hid (i64s (sumsN Y.list x.list 8) = i64s (turnN x s.data.toList).list) := Lib.hid (by rw [HYX.out]; rfl)
              clear hM hN hk hlt
              generalize i64s (sumsN Y.list x.list 8) = CC at *
              go_wp2_with (first
                | refine wpList_loadA rfl 75 _ rfl _ 75 _ _ 8 8 rfl e1.out Try.underlying75 (by kernel_rfl) e4.out ?_
                | refine wpList_storeA rfl 75 _ _ rfl _ 75 _ _ 8 rfl rfl e2.out (by kernel_rfl) e4.out rfl (by rw [e5.out]; exact i64s_one _) ?_)
              exact ret_arr (N := 8) (C := CC) Try.results47 rfl (setRow_heap _ _ _ _ _ _ e2.out) Try.underlying75 (by kernel_rfl) e4.out rfl (HR.out _ _ ⟨by rw [e5.out], below_setRow e3.out (by omega) _⟩)
end Go.Proofs.Ytophfeapmmfppaa
