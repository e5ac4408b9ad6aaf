/- Texts that the claim rests on, part 4: ShaRStep, OctetRPut, ShaRTxt, OctetNoughts, ShaRSum, ShaSum, Moved, MovedMore. -/
import Derived.Test.YtelmcoedmkhkjaaProg
import Derived.Deep.LoopGhost
import Derived.BigQuiet
import Derived.Test.YtelmcoedmkhkjaaM3
/- What a block turns a state to: the reference's step. -/
namespace Ks
open Go Go.RowKit
set_option linter.unusedVariables false
/-- an array of numbers in a block -/
structure NumsI (w : World) (b : Nat) (t : TypeId) (L : List Nat) : Prop where
  blk : w.heap[b]? = some (.cells (i64s L) t (0, 0))
theorem NumsI.cell {w : World} {b : Nat} {t : TypeId} {L : List Nat} (h : NumsI w b t L) (j : Nat) (hj : j < L.length) : w.cell? ⟨b, j, none⟩ = some (.int .i64 ((L.getD j 0 : Nat) : Int)) := by
  rw [cell_of_row w b j _ _ _ h.blk, i64s_get L j hj]
theorem NumsI.frozen {w : World} {b : Nat} {t : TypeId} {L : List Nat} (h : NumsI w b t L) (j : Nat) : w.frozen? ⟨b, j, none⟩ = false := frozen_of_row w b j _ _ h.blk
theorem NumsI.lt {w : World} {b : Nat} {t : TypeId} {L : List Nat} (h : NumsI w b t L) : b < w.heap.size := lt_of_block h.blk
theorem NumsI.keep {w w' : World} {b : Nat} {t : TypeId} {L : List Nat} (h : NumsI w b t L) (hb : Below w.heap.size w w') : NumsI w' b t L := ⟨(hb.block b h.lt).trans h.blk⟩
theorem NumsI.set {w : World} {b : Nat} {t : TypeId} {L : List Nat} (h : NumsI w b t L) (j x : Nat) : NumsI (w.setCell ⟨b, j, none⟩ (.int .i64 (x : Int))) b t (L.set j x) :=
  ⟨by rw [setCell_eq_setRow w b j _ _ _ _ h.blk, setRow_heap w b _ _ _ _ h.blk, i64s_set]⟩
theorem NumsI.other {w : World} {b c : Nat} {t : TypeId} {L : List Nat} (h : NumsI w b t L) (j : Nat) (v : Value) (hc : b ≠ c) : NumsI (w.setCell ⟨c, j, none⟩ v) b t L := ⟨(set_ne v hc).trans h.blk⟩
theorem NumsI.row {w : World} {b : Nat} {t : TypeId} {old : Array Value} (h : w.heap[b]? = some (.cells old t (0, 0))) (L : List Nat) : NumsI (w.setRow b (i64s L)) b t L := ⟨setRow_heap _ _ _ _ _ _ h⟩
theorem NumsI.rowOther {w : World} {b c : Nat} {t : TypeId} {L : List Nat} (h : NumsI w b t L) (C : Array Value) (hc : b ≠ c) : NumsI (w.setRow c C) b t L := ⟨(setRow_other _ _ _ _ hc).trans h.blk⟩
theorem NumsI.alloc {w : World} {b : Nat} {t : TypeId} {L : List Nat} (h : NumsI w b t L) (o : Obj) : NumsI (w.alloc o) b t L := ⟨blk_keep h.blk o⟩
theorem NumsI.new (w : World) (t : TypeId) (L : List Nat) : NumsI (w.alloc (.cells (i64s L) t)) w.heap.size t L := ⟨alloc_new _ _⟩
theorem num4_cut (s : ByteArray) (k : Nat) (h : s.size = 64) : getN (s.extract (4 * k) (4 * k + 4)).data.toList = num4 s.data.toList k := by
  rw [num4]
  congr 1
  rw [ByteArray.data_extract, Array.toList_extract, List.extract_eq_take_drop]
  rw [show 4 * k + 4 - 4 * k = 4 by omega]
theorem sigS_bits (x a b c p : Nat) (hx : x < 4294967296) (hp : 2 ^ c = p) : bits .xor .i64 (bits .xor .i64 ((rotr x a : Nat) : Int) ((rotr x b : Nat) : Int)) ((x : Int) / (p : Int)) = ((sigS x a b c : Nat) : Int) := by
  have h63 : ∀ n : Nat, n < 4294967296 → n < 2 ^ 63 := fun n h => by rw [show (2 : Nat) ^ 63 = 9223372036854775808 from by decide]; omega
  rw [show (x : Int) / (p : Int) = ((x >>> c : Nat) : Int) by rw [Nat.shiftRight_eq_div_pow, hp]; exact (Int.natCast_ediv _ _).symm,
    xor_i64 _ _ (h63 _ (rotr_lt _ _)) (h63 _ (rotr_lt _ _)), xor_i64 _ _ (h63 _ (xor32 (rotr_lt _ _) (rotr_lt _ _))) (h63 _ (shr_lt hx c)), sigS]
theorem sigR_bits (x a b c : Nat) : bits .xor .i64 (bits .xor .i64 ((rotr x a : Nat) : Int) ((rotr x b : Nat) : Int)) ((rotr x c : Nat) : Int) = ((sigR x a b c : Nat) : Int) := by
  have h63 : ∀ n : Nat, n < 4294967296 → n < 2 ^ 63 := fun n h => by rw [show (2 : Nat) ^ 63 = 9223372036854775808 from by decide]; omega
  rw [xor_i64 _ _ (h63 _ (rotr_lt _ _)) (h63 _ (rotr_lt _ _)), xor_i64 _ _ (h63 _ (xor32 (rotr_lt _ _) (rotr_lt _ _))) (h63 _ (rotr_lt _ _)), sigR]
theorem chI_bits (e f g : Nat) (he : e < 4294967296) (hf : f < 4294967296) (hg : g < 4294967296) : bits .or .i64 (bits .and .i64 (e : Int) (f : Int)) (bits .and .i64 (4294967295 - (e : Int)) (g : Int)) = ((chN e f g : Nat) : Int) := by
  have h63 : ∀ n : Nat, n < 4294967296 → n < 2 ^ 63 := fun n h => by rw [show (2 : Nat) ^ 63 = 9223372036854775808 from by decide]; omega
  rw [show (4294967295 - (e : Int)) = ((4294967295 - e : Nat) : Int) by omega, and_i64 _ _ (h63 _ he) (h63 _ hf), and_i64 _ _ (h63 _ (by omega)) (h63 _ hg), or_i64 _ _ (h63 _ (and32 hf)) (h63 _ (and32 hg)), chN]
theorem majI_bits (a b c : Nat) (ha : a < 4294967296) (hb : b < 4294967296) (hc : c < 4294967296) : bits .or .i64 (bits .or .i64 (bits .and .i64 (a : Int) (b : Int)) (bits .and .i64 (a : Int) (c : Int))) (bits .and .i64 (b : Int) (c : Int)) = ((majN a b c : Nat) : Int) := by
  have h63 : ∀ n : Nat, n < 4294967296 → n < 2 ^ 63 := fun n h => by rw [show (2 : Nat) ^ 63 = 9223372036854775808 from by decide]; omega
  rw [and_i64 _ _ (h63 _ ha) (h63 _ hb), and_i64 _ _ (h63 _ ha) (h63 _ hc), and_i64 _ _ (h63 _ hb) (h63 _ hc), or_i64 _ _ (h63 _ (and32 hb)) (h63 _ (and32 hc)), or_i64 _ _ (h63 _ (or32 (and32 hb) (and32 hc))) (h63 _ (and32 hc)), majN]
theorem wrapI (a b : Nat) (h : a + b < 9223372036854775808) : IntKind.i64.wrap ((a : Int) + (b : Int)) = ((a + b : Nat) : Int) := by
  rw [IntKind.wrap_i64]; omega
theorem wrap64I (a b : Nat) (h : a + b < 9223372036854775808) : wrap64 ((a : Int) + (b : Int)) = ((a + b : Nat) : Int) := by
  rw [wrap64]; omega
theorem tmodI (a : Nat) : ((a : Nat) : Int).tmod 4294967296 = ((a % 4294967296 : Nat) : Int) := by
  rw [Int.tmod_eq_emod_of_nonneg (by omega)]; omega
theorem fourI (w : World) (t u : TypeId) (L0 L1 L2 L3 : List Nat) (W : World) (hW : (((w.alloc (.cells (i64s L0) t)).alloc (.cells (i64s L1) u)).alloc (.cells (i64s L2) t)).alloc (.cells (i64s L3) u) = W) :
    NumsI W w.heap.size t L0 ∧ NumsI W (w.heap.size + 1) u L1 ∧ NumsI W (w.heap.size + 2) t L2 ∧ NumsI W (w.heap.size + 3) u L3 ∧ Below w.heap.size w W ∧ W.heap.size = w.heap.size + 4 := by
  subst hW
  have n0 := NumsI.new w t L0
  have b0 := alloc_below w (.cells (i64s L0) t)
  have z0 := World.size_alloc (w := w) (o := .cells (i64s L0) t)
  generalize w.alloc (.cells (i64s L0) t) = W0 at *
  have n1 := NumsI.new W0 u L1
  have b1 := alloc_below W0 (.cells (i64s L1) u)
  have z1 := World.size_alloc (w := W0) (o := .cells (i64s L1) u)
  rw [z0] at n1
  generalize W0.alloc (.cells (i64s L1) u) = W1 at *
  have n2 := NumsI.new W1 t L2
  have b2 := alloc_below W1 (.cells (i64s L2) t)
  have z2 := World.size_alloc (w := W1) (o := .cells (i64s L2) t)
  rw [z1, z0] at n2
  generalize W1.alloc (.cells (i64s L2) t) = W2 at *
  have n3 := NumsI.new W2 u L3
  have b3 := alloc_below W2 (.cells (i64s L3) u)
  have z3 := World.size_alloc (w := W2) (o := .cells (i64s L3) u)
  rw [z2, z1, z0] at n3
  generalize W2.alloc (.cells (i64s L3) u) = W3 at *
  exact ⟨((n0.keep b1).keep b2).keep b3, (n1.keep b2).keep b3, n2.keep b3, n3, ((b0.trans (b1.mono (by omega))).trans (b2.mono (by omega))).trans (b3.mono (by omega)), by omega⟩
end Ks
namespace Go.Proofs.Ytelmcoedmkhkjaa
open Go.RowKit Ks
set_option linter.unusedVariables false

set_option maxRecDepth 20000 in
set_option maxHeartbeats 1000000 in
theorem step_any (x : St) (s : ByteArray) (w : World) (hx : x.ok) (h : s.size = 64) :
    Calls Try.prog 49 #[.agg (i64s x.list), .string s, .agg (i64s kays)] w fun e w' => e = .returned (.agg (i64s (turnN x s.data.toList).list)) ∧ Below w.heap.size w w' := by
  refine calls_by fun R HR => ?_
  obtain ⟨C, hC⟩ : ∃ C, i64s x.list = C := ⟨_, rfl⟩
  rw [hC]
  have HC := Lib.hid hC
  clear hC
  obtain ⟨CK, hCK⟩ : ∃ CK, i64s kays = CK := ⟨_, rfl⟩
  rw [hCK]
  have HCK := Lib.hid hCK
  clear hCK
  go_enter Try.func49, Try.ntmps49
  go_upto_region 2 with fail
  refine code_cut (fun W => NumsI W w.heap.size 90 x.list ∧ NumsI W (w.heap.size + 1) 92 kays ∧ NumsI W (w.heap.size + 2) 90 (List.replicate 8 0) ∧ NumsI W (w.heap.size + 3) 92 (List.replicate 64 0) ∧ Below w.heap.size w W ∧ W.heap.size = w.heap.size + 4)
    (by rw [← HC.out, ← HCK.out]; exact fourI w 90 92 x.list kays (List.replicate 8 0) (List.replicate 64 0) _ rfl) ?_
  intro W hF
  have HF := Lib.hid hF
  clear hF HC HCK
  go_wp2_with fail
  go_loopw [8] (fun i wx => ∃ k L, k ≤ 64 ∧ i = .int .i64 (k : Nat) ∧ Hid (L = wordsN s.data.toList k ++ List.replicate (64 - k) 0) ∧ Hid (NumsI wx w.heap.size 90 x.list ∧ NumsI wx (w.heap.size + 1) 92 kays ∧ NumsI wx (w.heap.size + 2) 90 (List.replicate 8 0) ∧ NumsI wx (w.heap.size + 3) 92 L ∧ Below w.heap.size w wx)) (fun i _ => 64 - (intOf i).toNat)
  case atStart => exact ⟨0, _, by omega, rfl, Lib.hid rfl, Lib.hid ⟨HF.out.1, HF.out.2.1, HF.out.2.2.1, HF.out.2.2.2.1, HF.out.2.2.2.2.1⟩⟩
  case round =>
    obtain ⟨k, L, hk, rfl, hL, hN⟩ := hrel
    have hlen : L.length = 64 := by rw [hL.out]; exact wpad_length _ k hk
    by_cases hlt : k < 64
    · by_cases h16 : k < 16
      · have hx := Lib.hid (wpad_set s.data.toList k (num4 s.data.toList k) hlt (if_pos h16))
        have hn4 := Lib.hid (num4_cut s k h)
        have hl4 := Lib.hid (num4_lt s.data.toList k)
        go_wp2_with fail
        refine (rget_ok (s.extract (4 * k) (4 * k + 4)) _ (by rw [ByteArray.size_extract]; omega) (Or.inl (by rw [ByteArray.size_extract]; omega)) (by rw [hn4.out]; have := hl4.out; omega)).mono ?_
        rintro e w1 ⟨rfl, rfl⟩
        rw [hn4.out]
        obtain ⟨n0, n1, n2, n3, nb⟩ := hN.out
        have f1 := n3.frozen k
        have c1 := n3.cell k (by omega)
        clear n0 n1 n2 n3 nb
        generalize num4 s.data.toList k = v at *
        go_wp2_with fail
        go_round
        case rel =>
          refine ⟨k + 1, _, by omega, by go_num, Lib.hid rfl, Lib.hid ⟨hN.out.1.other _ _ (by omega), hN.out.2.1.other _ _ (by omega), hN.out.2.2.1.other _ _ (by omega), ?_, hN.out.2.2.2.2.setCell (by simp; omega) _⟩⟩
          rw [← hx.out, ← hL.out]
          exact hN.out.2.2.2.1.set _ _
        case measure => simp [intOf]; omega
      · have hx := Lib.hid (wpad_set s.data.toList k (wNext (wordsN s.data.toList k)) hlt (if_neg h16))
        obtain ⟨n0, n1, n2, n3, nb⟩ := hN.out
        obtain ⟨y16, h16'⟩ : ∃ y, L.getD (k - 16) 0 = y := ⟨_, rfl⟩
        obtain ⟨y15, h15'⟩ : ∃ y, L.getD (k - 15) 0 = y := ⟨_, rfl⟩
        obtain ⟨y7, h7'⟩ : ∃ y, L.getD (k - 7) 0 = y := ⟨_, rfl⟩
        obtain ⟨y2, h2'⟩ : ∃ y, L.getD (k - 2) 0 = y := ⟨_, rfl⟩
        have c16 := n3.cell (k - 16) (by omega)
        have c15 := n3.cell (k - 15) (by omega)
        have c7 := n3.cell (k - 7) (by omega)
        have c2 := n3.cell (k - 2) (by omega)
        rw [h16'] at c16
        rw [h15'] at c15
        rw [h7'] at c7
        rw [h2'] at c2
        have hl : ∀ j, L.getD j 0 < 4294967296 := fun j => by rw [hL.out]; exact getD_lt (wpad_lt s.data.toList k) j
        have HLT := Lib.hid (And.intro (h16' ▸ hl (k - 16)) (And.intro (h15' ▸ hl (k - 15)) (And.intro (h7' ▸ hl (k - 7)) (h2' ▸ hl (k - 2)))))
        have hV : Hid ((y16 + sigS y15 7 18 3 + y7 + sigS y2 17 19 10) % 4294967296 = wNext (wordsN s.data.toList k)) := Lib.hid (by
          rw [wNext, wordsN_length, ← wpad_get _ k (k - 16) (by omega), ← wpad_get _ k (k - 15) (by omega), ← wpad_get _ k (k - 7) (by omega), ← wpad_get _ k (k - 2) (by omega), ← hL.out, h16', h15', h7', h2'])
        clear h16' h15' h7' h2' hl n0 n1 n2 nb
        obtain ⟨j16, r16⟩ : ∃ j, k - 16 = j := ⟨_, rfl⟩
        obtain ⟨j15, r15⟩ : ∃ j, k - 15 = j := ⟨_, rfl⟩
        obtain ⟨j7, r7⟩ : ∃ j, k - 7 = j := ⟨_, rfl⟩
        obtain ⟨j2, r2⟩ : ∃ j, k - 2 = j := ⟨_, rfl⟩
        rw [r16] at c16
        rw [r15] at c15
        rw [r7] at c7
        rw [r2] at c2
        have w16 : IntKind.i64.wrap ((k : Int) - 16) = (j16 : Int) := by rw [IntKind.wrap_i64]; omega
        have w15 : IntKind.i64.wrap ((k : Int) - 15) = (j15 : Int) := by rw [IntKind.wrap_i64]; omega
        have w7 : IntKind.i64.wrap ((k : Int) - 7) = (j7 : Int) := by rw [IntKind.wrap_i64]; omega
        have w2 : IntKind.i64.wrap ((k : Int) - 2) = (j2 : Int) := by rw [IntKind.wrap_i64]; omega
        have b16 : (j16 : Int) < 64 := by omega
        have b15 : (j15 : Int) < 64 := by omega
        have b7 : (j7 : Int) < 64 := by omega
        have b2 : (j2 : Int) < 64 := by omega
        clear r16 r15 r7 r2
        go_wp2_with fail
        go_quiet (fail)
        have hbd := below_drewN (Below.refl wr.heap.size wr) nq
        have HM : Hid (Below wr.heap.size wr (wr.drewN nq)) := Lib.hid hbd
        clear hbd c15 c2 w15 w2 b15 b2
        generalize wr.drewN nq = v0 at *
        go_wp2_with fail
        refine (turn_any y15 7 _ HLT.out.2.1 (by decide) (by decide)).mono ?_
        rintro e v1 ⟨rfl, hb1⟩
        have HM1 := Lib.hid (HM.out.trans (hb1.mono HM.out.size))
        clear hb1 HM
        go_wp2_with fail
        refine (turn_any y15 18 _ HLT.out.2.1 (by decide) (by decide)).mono ?_
        rintro e v2 ⟨rfl, hb1⟩
        have HM2 := Lib.hid (HM1.out.trans (hb1.mono HM1.out.size))
        clear hb1 HM1
        go_wp2_with fail
        have e1 : bits .xor .i64 (bits .xor .i64 ((rotr y15 7 : Nat) : Int) ((rotr y15 18 : Nat) : Int)) (wrap64 ((y15 : Int) / 8)) = ((sigS y15 7 18 3 : Nat) : Int) := by
          rw [show wrap64 ((y15 : Int) / 8) = (y15 : Int) / 8 by have := HLT.out.2.1; rw [wrap64]; omega]
          exact sigS_bits y15 7 18 3 8 HLT.out.2.1 rfl
        rw [e1]
        clear e1
        have hA1 : Hid (sigS y15 7 18 3 < 4294967296) := Lib.hid (sigS_lt HLT.out.2.1)
        generalize sigS y15 7 18 3 = A at *
        refine (turn_any y2 17 _ HLT.out.2.2.2 (by decide) (by decide)).mono ?_
        rintro e v3 ⟨rfl, hb1⟩
        have HM1 := Lib.hid (HM2.out.trans (hb1.mono HM2.out.size))
        clear hb1 HM2
        go_wp2_with fail
        refine (turn_any y2 19 _ HLT.out.2.2.2 (by decide) (by decide)).mono ?_
        rintro e v4 ⟨rfl, hb1⟩
        have HM2 := Lib.hid (HM1.out.trans (hb1.mono HM1.out.size))
        clear hb1 HM1
        have c16' := (HM2.out.cell (p := ⟨w.heap.size + 3, j16, none⟩) n3.lt).trans c16
        have c7' := (HM2.out.cell (p := ⟨w.heap.size + 3, j7, none⟩) n3.lt).trans c7
        have hb := HM2.out
        have n3' := n3.keep HM2.out
        have hM := Lib.hid (And.intro (hN.out.1.keep hb) (And.intro (hN.out.2.1.keep hb) (And.intro (hN.out.2.2.1.keep hb) (And.intro n3' (hN.out.2.2.2.2.trans (hb.mono hN.out.2.2.2.2.size))))))
        have n3f := n3'.frozen k
        have n3c := n3'.cell k (by omega)
        clear c16 c7 n3 hb n3' HM2 hN
        go_wp2_with fail
        have e1 : bits .xor .i64 (bits .xor .i64 ((rotr y2 17 : Nat) : Int) ((rotr y2 19 : Nat) : Int)) (wrap64 ((y2 : Int) / 1024)) = ((sigS y2 17 19 10 : Nat) : Int) := by
          rw [show wrap64 ((y2 : Int) / 1024) = (y2 : Int) / 1024 by have := HLT.out.2.2.2; rw [wrap64]; omega]
          exact sigS_bits y2 17 19 10 1024 HLT.out.2.2.2 rfl
        rw [e1]
        clear e1
        have hE1 : Hid (sigS y2 17 19 10 < 4294967296) := Lib.hid (sigS_lt HLT.out.2.2.2)
        generalize sigS y2 17 19 10 = E at *
        refine wp_region_still_tail 16 (by kernel_rfl) (by kernel_rfl) ?_
        simp only [List.take_succ_cons, List.take_zero, List.drop_succ_cons, List.drop_zero]
        repeat still_step
        refine wpStill_nil ?_
        change wpList _ _ _ _ _ v4.drew
        obtain ⟨V, hVV⟩ : ∃ V, wNext (wordsN s.data.toList k) = V := ⟨_, rfl⟩
        have hw : (IntKind.i64.wrap (IntKind.i64.wrap (IntKind.i64.wrap ((y16 : Int) + A) + y7) + E)).tmod 4294967296 = (V : Int) := by
          have h1 := hV.out
          obtain ⟨l1, l2, l3, l4⟩ := HLT.out
          have l5 := hA1.out
          have l6 := hE1.out
          rw [wrapI _ _ (by omega), wrapI _ _ (by omega), wrapI _ _ (by omega), tmodI, h1, hVV]
        rw [hw]
        have hbd := drew_below v4
        have hM2 := Lib.hid (And.intro (hM.out.1.keep hbd) (And.intro (hM.out.2.1.keep hbd) (And.intro (hM.out.2.2.1.keep hbd) (And.intro (hM.out.2.2.2.1.keep hbd) (hM.out.2.2.2.2.trans (hbd.mono hM.out.2.2.2.2.size))))))
        rw [hVV] at hx
        clear hVV hw hV hbd hM c16' c7' w16 w7 b16 b7 n3c n3f
        generalize v4.drew = v5 at *
        have c1 := hM2.out.2.2.2.1.cell k (by omega)
        have f1 := hM2.out.2.2.2.1.frozen k
        go_wp2
        go_round
        case rel =>
          refine ⟨k + 1, _, by omega, by go_num, Lib.hid rfl, Lib.hid ⟨hM2.out.1.other _ _ (by omega), hM2.out.2.1.other _ _ (by omega), hM2.out.2.2.1.other _ _ (by omega), ?_, hM2.out.2.2.2.2.setCell (by simp; omega) _⟩⟩
          rw [← hx.out, ← hL.out]
          exact hM2.out.2.2.2.1.set _ _
        case measure => simp [intOf]; omega
    · obtain rfl : k = 64 := by omega
      have e5 : L = wordsN s.data.toList 64 := by rw [hL.out]; simp
      have hM := hN
      rw [e5] at hM
      clear e5
      clear hL hN hlen hk hlt HF
      rw [show ((64 : Nat) : Int) = (64 : Int) from rfl]
      have HS := Lib.hid (show (i64s x.list).size = 8 from rfl)
      go_upto_region 12 with (first
        | refine wpList_loadA rfl 90 (.tmp 3) rfl _ 90 _ _ 8 8 rfl hM.out.1.blk Try.underlying90 (by kernel_rfl) HS.out ?_
        | refine wpList_storeN rfl 90 (.tmp 13) (.tmp 85) rfl 90 _ (i64s x.list) 8 rfl rfl (by kernel_rfl) HS.out rfl (i64s_one _) ?_)
      have hz := hM.out.2.2.2.2.size
      have hb9 := alloc_below wr (.cells (i64s x.list) 90)
      have HF2 := Lib.hid (And.intro (NumsI.new wr 90 x.list) (And.intro (hM.out.1.keep hb9) (And.intro (hM.out.2.1.keep hb9) (And.intro (hM.out.2.2.1.keep hb9) (And.intro (hM.out.2.2.2.1.keep hb9) (hM.out.2.2.2.2.trans (hb9.mono hz)))))))
      have Hz := Lib.hid (show w.heap.size + 4 ≤ wr.heap.size by have := hM.out.2.2.2.1.lt; omega)
      clear hz hb9 hM HS
      generalize wr.alloc (.cells (i64s x.list) 90) = W3 at *
      generalize wr.heap.size = b4 at *
      go_wp2_with fail
      go_loopw [14] (fun i wx => ∃ k : Nat, k ≤ 64 ∧ i = .int .i64 k ∧ Hid (NumsI wx b4 90 (roundsN x (wordsN s.data.toList 64) k).list ∧ NumsI wx w.heap.size 90 x.list ∧ NumsI wx (w.heap.size + 1) 92 kays ∧ NumsI wx (w.heap.size + 2) 90 (List.replicate 8 0) ∧ NumsI wx (w.heap.size + 3) 92 (wordsN s.data.toList 64) ∧ Below w.heap.size w wx)) (fun i _ => 64 - (intOf i).toNat)
      case atStart => exact ⟨0, by omega, rfl, HF2⟩
      case round =>
        obtain ⟨k, hk, rfl, hN⟩ := hrel
        by_cases hlt : k < 64
        · obtain ⟨n7, n0, n1, n2, n5, nb⟩ := hN.out
          have hY := roundsN_ok hx (wordsN s.data.toList 64) k
          have hl7 : (wordsN s.data.toList 64).length = 64 := wordsN_length _ _
          obtain ⟨kk, hkk⟩ : ∃ kk, kays.getD k 0 = kk := ⟨_, rfl⟩
          obtain ⟨ww, hww⟩ : ∃ ww, (wordsN s.data.toList 64).getD k 0 = ww := ⟨_, rfl⟩
          have hs : roundsN x (wordsN s.data.toList 64) (k + 1) = roundN (roundsN x (wordsN s.data.toList 64) k) kk ww := by rw [← hkk, ← hww]; rfl
          have ck := n1.cell k hlt
          have cw := n5.cell k (by omega)
          rw [hkk] at ck
          rw [hww] at cw
          have HKW := Lib.hid (And.intro (show kk < 4294967296 from hkk ▸ getD_lt kays_lt k) (show ww < 4294967296 from hww ▸ getD_lt (wordsN_lt s.data.toList 64) k))
          obtain ⟨Y, hYY⟩ : ∃ Y, roundsN x (wordsN s.data.toList 64) k = Y := ⟨_, rfl⟩
          rw [hYY] at hs hY n7
          have c0 := n7.cell 0 (show 0 < 8 by decide)
          have c1 := n7.cell 1 (show 1 < 8 by decide)
          have c2 := n7.cell 2 (show 2 < 8 by decide)
          have c3 := n7.cell 3 (show 3 < 8 by decide)
          have c4 := n7.cell 4 (show 4 < 8 by decide)
          have c5 := n7.cell 5 (show 5 < 8 by decide)
          have c6 := n7.cell 6 (show 6 < 8 by decide)
          have c7 := n7.cell 7 (show 7 < 8 by decide)
          have HN := Lib.hid (And.intro n7 (And.intro n0 (And.intro n1 (And.intro n2 (And.intro n5 nb)))))
          clear n7 n0 n1 n2 n5 nb hN hkk hww hYY HF2
          obtain ⟨ya, yb, yc, yd, ye, yf, yg, yh⟩ := Y
          change wr.cell? ⟨b4, 0, none⟩ = some (.int .i64 (ya : Int)) at c0
          change wr.cell? ⟨b4, 1, none⟩ = some (.int .i64 (yb : Int)) at c1
          change wr.cell? ⟨b4, 2, none⟩ = some (.int .i64 (yc : Int)) at c2
          change wr.cell? ⟨b4, 3, none⟩ = some (.int .i64 (yd : Int)) at c3
          change wr.cell? ⟨b4, 4, none⟩ = some (.int .i64 (ye : Int)) at c4
          change wr.cell? ⟨b4, 5, none⟩ = some (.int .i64 (yf : Int)) at c5
          change wr.cell? ⟨b4, 6, none⟩ = some (.int .i64 (yg : Int)) at c6
          change wr.cell? ⟨b4, 7, none⟩ = some (.int .i64 (yh : Int)) at c7
          have HL := Lib.hid hY
          have HS := Lib.hid hs
          have HX := Lib.hid hx
          clear hs hY hx hl7
          go_wp2_with fail
          go_quiet (fail)
          go_wp2_with fail
          have hbd := below_drewN (Below.refl wr.heap.size wr) nq
          have ck' := (hbd.cell (p := ⟨w.heap.size + 1, k, none⟩) HN.out.2.2.1.lt).trans ck
          have cw' := (hbd.cell (p := ⟨w.heap.size + 3, k, none⟩) HN.out.2.2.2.2.1.lt).trans cw
          have HM := Lib.hid hbd
          clear hbd c0 c1 c2 c3 c4 c5 c6 c7 ck cw
          generalize wr.drewN nq = v0 at *
          have ck := fun p => after_cell ck' p
          have cw := fun p => after_cell cw' p
          clear ck' cw'
          have T6 := Lib.hid fun p => calls_after (p := p) (turn_any ye 6 (After v0 p) HL.out.2.2.2.2.1 (by decide) (by decide))
          have T11 := Lib.hid fun p => calls_after (p := p) (turn_any ye 11 (After v0 p) HL.out.2.2.2.2.1 (by decide) (by decide))
          have T25 := Lib.hid fun p => calls_after (p := p) (turn_any ye 25 (After v0 p) HL.out.2.2.2.2.1 (by decide) (by decide))
          refine wp_region_after (by kernel_rfl) (by kernel_rfl) ?_
          repeat (quiet_step (fail))
          quiet_step (exact T6.out _)
          repeat (quiet_step (fail))
          quiet_step (exact T11.out _)
          repeat (quiet_step (fail))
          quiet_step (exact T25.out _)
          repeat (quiet_step (fail))
          refine wpQuiet_nil ?_
          rintro v1 ⟨p, rfl⟩
          have hb1 := after_below v0 p
          have HM1 := Lib.hid (HM.out.trans (hb1.mono HM.out.size))
          clear hb1 HM ck cw T6 T11 T25
          generalize After v0 p = v1 at *
          obtain ⟨t, ht⟩ : ∃ t, tN ⟨ya, yb, yc, yd, ye, yf, yg, yh⟩ kk ww = t := ⟨_, rfl⟩
          have hw : IntKind.i64.wrap (IntKind.i64.wrap (IntKind.i64.wrap (IntKind.i64.wrap ((yh : Int) + bits .xor .i64 (bits .xor .i64 ((rotr ye 6 : Nat) : Int) ((rotr ye 11 : Nat) : Int)) ((rotr ye 25 : Nat) : Int)) + bits .or .i64 (bits .and .i64 (ye : Int) (yf : Int)) (bits .and .i64 (IntKind.i64.wrap (4294967295 - (ye : Int))) (yg : Int))) + kk) + ww) = (t : Int) := by
            obtain ⟨l1, l2, l3, l4, l5, l6, l7, l8⟩ := HL.out
            obtain ⟨l9, l10⟩ := HKW.out
            have e1 : IntKind.i64.wrap (4294967295 - (ye : Int)) = 4294967295 - (ye : Int) := by
              have : ye < 4294967296 := l5
              rw [IntKind.wrap_i64]; omega
            have m1 := sigR_lt (x := ye) (a := 6) (b := 11) (c := 25)
            have m2 := chN_lt (e := ye) l6 l7
            rw [e1, sigR_bits, chI_bits ye yf yg l5 l6 l7, ← ht, tN]
            change yh < _ at l8
            change chN ye yf yg < _ at m2
            rw [wrapI _ _ (by omega), wrapI _ _ (by omega), wrapI _ _ (by omega), wrapI _ _ (by omega)]
          rw [hw]
          have HTL : Hid (t < 30000000000) := Lib.hid (by
            obtain ⟨l1, l2, l3, l4, l5, l6, l7, l8⟩ := HL.out
            obtain ⟨l9, l10⟩ := HKW.out
            have m1 := sigR_lt (x := ye) (a := 6) (b := 11) (c := 25)
            have m2 := chN_lt (e := ye) l6 l7
            change yh < _ at l8
            change chN ye yf yg < _ at m2
            rw [← ht, tN]
            change yh + sigR ye 6 11 25 + chN ye yf yg + kk + ww < _
            omega)
          have HT := Lib.hid ht
          clear hw ht
          go_wp2_with fail
          refine (turn_any ya 2 _ HL.out.1 (by decide) (by decide)).mono ?_
          rintro e v2 ⟨rfl, hb1⟩
          have HM2 := Lib.hid (HM1.out.trans (hb1.mono HM1.out.size))
          clear hb1 HM1
          go_wp2_with fail
          refine (turn_any ya 13 _ HL.out.1 (by decide) (by decide)).mono ?_
          rintro e v3 ⟨rfl, hb1⟩
          have HM1 := Lib.hid (HM2.out.trans (hb1.mono HM2.out.size))
          clear hb1 HM2
          go_wp2_with fail
          refine (turn_any ya 22 _ HL.out.1 (by decide) (by decide)).mono ?_
          rintro e v4 ⟨rfl, hb1⟩
          have HM2 := Lib.hid (HM1.out.trans (hb1.mono HM1.out.size))
          clear hb1 HM1
          go_upto_region 18 with fail
          obtain ⟨u, hu⟩ : ∃ u, uN ⟨ya, yb, yc, yd, ye, yf, yg, yh⟩ = u := ⟨_, rfl⟩
          have hw : wrap64 (bits .xor .i64 (bits .xor .i64 ((rotr ya 2 : Nat) : Int) ((rotr ya 13 : Nat) : Int)) ((rotr ya 22 : Nat) : Int) + bits .or .i64 (bits .or .i64 (bits .and .i64 (ya : Int) (yb : Int)) (bits .and .i64 (ya : Int) (yc : Int))) (bits .and .i64 (yb : Int) (yc : Int))) = (u : Int) := by
            obtain ⟨l1, l2, l3, l4, l5, l6, l7, l8⟩ := HL.out
            have m1 := sigR_lt (x := ya) (a := 2) (b := 13) (c := 22)
            have m2 := majN_lt (a := ya) l2 l3
            rw [sigR_bits, majI_bits ya yb yc l1 l2 l3, ← hu, uN]
            change majN ya yb yc < _ at m2
            rw [wrap64I _ _ (by omega)]
          rw [hw]
          have HUL : Hid (u < 10000000000 ∧ yd < 4294967296) := Lib.hid (by
            obtain ⟨l1, l2, l3, l4, l5, l6, l7, l8⟩ := HL.out
            have m1 := sigR_lt (x := ya) (a := 2) (b := 13) (c := 22)
            have m2 := majN_lt (a := ya) l2 l3
            change majN ya yb yc < _ at m2
            refine ⟨?_, l4⟩
            rw [← hu, uN]
            change sigR ya 2 13 22 + majN ya yb yc < _
            omega)
          have HU := Lib.hid hu
          clear hw hu
          have HM := Lib.hid (And.intro (HN.out.1.keep HM2.out) (And.intro (HN.out.2.1.keep HM2.out) (And.intro (HN.out.2.2.1.keep HM2.out) (And.intro (HN.out.2.2.2.1.keep HM2.out) (And.intro (HN.out.2.2.2.2.1.keep HM2.out) (HN.out.2.2.2.2.2.trans (HM2.out.mono HN.out.2.2.2.2.2.size)))))))
          clear HN HM2
          go_wp2_with (apply wpList_storeA rfl 90 (.tmp 13) (.tmp 167) rfl _ 90 _ _ 8 rfl rfl HM.out.1.blk (by kernel_rfl))
          case hn => rfl
          case hs => rfl
          case h1 => simp [Value.oneCell']
          case roundEnd =>
            rw [wrap64I t u (by have := HTL.out; have := HUL.out.1; omega), wrap64I yd t (by have := HTL.out; have := HUL.out.2; omega), tmodI, tmodI]
            refine ⟨⟨k + 1, by omega, by go_num, Lib.hid ⟨?_, HM.out.2.1.rowOther _ (by have := Hz.out; omega), HM.out.2.2.1.rowOther _ (by have := Hz.out; omega), HM.out.2.2.2.1.rowOther _ (by have := Hz.out; omega), HM.out.2.2.2.2.1.rowOther _ (by have := Hz.out; omega), below_setRow HM.out.2.2.2.2.2 (by have := Hz.out; omega) _⟩⟩, by simp [intOf]; omega⟩
            rw [HS.out]
            have hC : i64s (roundN ⟨ya, yb, yc, yd, ye, yf, yg, yh⟩ kk ww).list = #[.int .i64 (((t + u) % 4294967296 : Nat) : Int), .int .i64 (ya : Int), .int .i64 (yb : Int), .int .i64 (yc : Int), .int .i64 (((yd + t) % 4294967296 : Nat) : Int), .int .i64 (ye : Int), .int .i64 (yf : Int), .int .i64 (yg : Int)] := by
              rw [← HT.out, ← HU.out]; rfl
            rw [← hC]
            exact NumsI.row HM.out.1.blk _
        · obtain rfl : k = 64 := by omega
          obtain ⟨Y, hYY⟩ : ∃ Y, roundsN x (wordsN s.data.toList 64) 64 = Y := ⟨_, rfl⟩
          have HYX : Hid (turnN x s.data.toList = addN Y x) := Lib.hid (by rw [turnN, hYY])
          rw [hYY] at hN
          have HYO := Lib.hid (show Y.ok from hYY ▸ roundsN_ok hx (wordsN s.data.toList 64) 64)
          clear hYY
          have HX := Lib.hid hx
          clear hx HF2 hk hlt
          rw [show ((64 : Nat) : Int) = (64 : Int) from rfl]
          go_wp2_with fail
          go_loopw [25] (fun i wx => ∃ k : Nat, k ≤ 8 ∧ i = .int .i64 k ∧ Hid (NumsI wx b4 90 (sumsN Y.list x.list k) ∧ NumsI wx w.heap.size 90 x.list ∧ NumsI wx (w.heap.size + 2) 90 (List.replicate 8 0) ∧ Below w.heap.size w wx)) (fun i _ => 8 - (intOf i).toNat)
          case atStart => exact ⟨0, by omega, rfl, Lib.hid ⟨hN.out.1, hN.out.2.1, hN.out.2.2.2.1, hN.out.2.2.2.2.2⟩⟩
          case round =>
            obtain ⟨k, hk, rfl, hM⟩ := hrel
            by_cases hlt : k < 8
            · obtain ⟨y, hy⟩ : ∃ y, Y.list.getD k 0 = y := ⟨_, rfl⟩
              obtain ⟨z, hz⟩ : ∃ z, x.list.getD k 0 = z := ⟨_, rfl⟩
              have hset := Lib.hid (sumsN_set Y.list x.list k hlt)
              have hyz := Lib.hid (And.intro (show y < 4294967296 from hy ▸ st_lt HYO.out k) (show z < 4294967296 from hz ▸ st_lt HX.out k))
              have cy := hM.out.1.cell k (by rw [sumsN_length]; exact hlt)
              have cx := hM.out.2.1.cell k (show k < 8 from hlt)
              have fy := hM.out.1.frozen k
              rw [sumsN_get _ _ _ hlt, hy] at cy
              rw [hz] at cx
              rw [hy, hz] at hset
              clear hy hz hN
              go_wp2_with fail
              refine wp_region_still_tail 10 (by kernel_rfl) (by kernel_rfl) ?_
              simp only [List.take_succ_cons, List.take_zero, List.drop_succ_cons, List.drop_zero]
              repeat still_step
              refine wpStill_nil ?_
              change wpList _ _ _ _ _ wr.drew
              have hw : (IntKind.i64.wrap ((y : Int) + z)).tmod 4294967296 = (((y + z) % 4294967296 : Nat) : Int) := by
                obtain ⟨l1, l2⟩ := hyz.out
                rw [wrapI _ _ (by omega), tmodI]
              rw [hw]
              have hbd := drew_below wr
              have hM2 := Lib.hid (And.intro (hM.out.1.keep hbd) (And.intro (hM.out.2.1.keep hbd) (And.intro (hM.out.2.2.1.keep hbd) (hM.out.2.2.2.trans (hbd.mono hM.out.2.2.2.size)))))
              clear hw hM hbd cy cx fy
              generalize wr.drew = w9 at *
              have cy := hM2.out.1.cell k (by rw [sumsN_length]; exact hlt)
              have fy := hM2.out.1.frozen k
              obtain ⟨sm, hsm⟩ : ∃ sm, (y + z) % 4294967296 = sm := ⟨_, rfl⟩
              rw [hsm] at hset ⊢
              clear hsm
              go_wp2
              go_round
              case rel =>
                refine ⟨k + 1, by omega, by go_num, Lib.hid ⟨?_, hM2.out.2.1.other _ _ (by have := Hz.out; omega), hM2.out.2.2.1.other _ _ (by have := Hz.out; omega), hM2.out.2.2.2.setCell (by have := Hz.out; simp; omega) _⟩⟩
                rw [← hset.out]
                exact hM2.out.1.set _ _
              case measure => simp [intOf]; omega
            · obtain rfl : k = 8 := by omega
              have e1 := Lib.hid hM.out.1.blk
              have e2 := Lib.hid hM.out.2.2.1.blk
              have e3 := Lib.hid hM.out.2.2.2
              have e4 : Hid ((i64s (sumsN Y.list x.list 8)).size = 8) := Lib.hid rfl
              have e5 : Hid (i64s (sumsN Y.list x.list 8) = i64s (turnN x s.data.toList).list) := Lib.hid (by rw [HYX.out]; rfl)
              clear hM hN hk hlt
              generalize i64s (sumsN Y.list x.list 8) = CC at *
              go_wp2_with (first
                | refine wpList_loadA rfl 90 _ rfl _ 90 _ _ 8 8 rfl e1.out Try.underlying90 (by kernel_rfl) e4.out ?_
                | refine wpList_storeA rfl 90 _ _ rfl _ 90 _ _ 8 rfl rfl e2.out (by kernel_rfl) e4.out rfl (by rw [e5.out]; exact i64s_one _) ?_)
              exact ret_arr (N := 8) (C := CC) Try.results49 rfl (setRow_heap _ _ _ _ _ _ e2.out) Try.underlying90 (by kernel_rfl) e4.out rfl (HR.out _ _ ⟨by rw [e5.out], below_setRow e3.out (by omega) _⟩)
end Go.Proofs.Ytelmcoedmkhkjaa
/- What the reference's Put answers. -/
namespace Go.Proofs.Ytelmcoedmkhkjaa
open Go.RowKit Ks
set_option linter.unusedVariables false

set_option maxHeartbeats 400000 in
theorem rput_err (n width : Int) (w : World) (h : width < 1 ∨ 8 < width ∨ n < 0) :
    Calls Try.prog 25 #[.int .i64 n, .int .i64 width] w fun e w' => e = .returned (.tuple #[.string ⟨#[]⟩, .int .i64 2]) ∧ w = w' := by
  rcases h with h | h | h
  all_goals
    go_enter Try.func25, Try.ntmps25
    go_wp2
    all_goals first
      | (go_ret2; exact ⟨rfl, rfl⟩)
      | (exfalso; omega)

set_option maxHeartbeats 400000 in
theorem rput_ok (n : Nat) (width : Nat) (w : World) (h1 : 1 ≤ width) (h2 : width ≤ 8) (h4 : n ≤ 9223372036854775807) :
    Calls Try.prog 25 #[.int .i64 n, .int .i64 width] w fun e w' => (n / 256 ^ width = 0 → e = .returned (.tuple #[.string ⟨(putL width n).toArray⟩, .int .i64 0])) ∧ (0 < n / 256 ^ width → e = .returned (.tuple #[.string ⟨#[]⟩, .int .i64 2])) ∧ Below w.heap.size w w' := by
  refine calls_by fun R HR => ?_
  have hc := @conv_one Try.prog 81 9 5 Try.underlying81 Try.underlying5 Try.underlying9
  go_enter Try.func25, Try.ntmps25
  go_wp2
  go_loopw [0, 6, 7] (fun nv out i wr => ∃ k m : Nat, k ≤ width ∧ i = .int .i64 k ∧ nv = .int .i64 m ∧ m ≤ n ∧ Hid (m = n / 256 ^ k) ∧ out = .string ⟨(putL k n).toArray⟩ ∧ Below w.heap.size w wr) (fun _ _ i _ => width - (intOf i).toNat)
  case atStart => exact ⟨0, n, by omega, rfl, rfl, by omega, Lib.hid (by simp), rfl, Below.refl _ _⟩
  case round =>
    obtain ⟨k, m, hk, rfl, rfl, hm, hmk, rfl, hbel⟩ := hrel
    by_cases hlt : k < width
    · go_wp2
      go_roundw
      case rel =>
        refine ⟨k + 1, m / 256, by omega, by go_num, by simp, by omega, Lib.hid ?_, ?_, hbel.alloc hbel.size _⟩
        · rw [hmk.out, Nat.div_div_eq_div_mul, Nat.pow_succ]
        · rw [putL_succ', hmk.out, ByteArray.mk_append_one, ofNat_mod]
      case measure => simp [intOf]; omega
    · obtain rfl : k = width := by omega
      by_cases h0 : 0 < (m : Int)
      · go_wp2
        exact HR.out _ _ ⟨fun h => absurd h (by rw [← hmk.out]; omega), fun _ => rfl, hbel⟩
      · go_wp2
        exact HR.out _ _ ⟨fun _ => rfl, fun h => absurd h (by rw [← hmk.out]; omega), hbel⟩

theorem rput_any (n width : Int) (w : World) (hn : n ≤ 9223372036854775807) :
    Calls Try.prog 25 #[.int .i64 n, .int .i64 width] w fun e w' => e = .returned (.tuple #[.string (putS n width), .int .i64 (putE n width)]) ∧ Below w.heap.size w w' := by
  unfold putS putE
  by_cases h : width < 1 ∨ 8 < width ∨ n < 0
  · have hf : ¬ putOk n width = true := by simp only [putOk, decide_eq_true_eq]; omega
    rw [if_neg hf, if_neg hf]
    exact (rput_err n width w h).mono fun e w' ⟨he, hw⟩ => ⟨he, hw ▸ Below.refl _ _⟩
  · obtain ⟨n, rfl⟩ := Int.eq_ofNat_of_zero_le (show 0 ≤ n by omega)
    obtain ⟨width, rfl⟩ := Int.eq_ofNat_of_zero_le (show 0 ≤ width by omega)
    refine (rput_ok n width w (by omega) (by omega) (by omega)).mono fun e w' ⟨h1, h2, h3⟩ => ?_
    have hp : putOk n width = true ↔ n / 256 ^ width = 0 := by
      simp only [putOk, decide_eq_true_eq, Int.toNat_natCast]
      rw [show (256 : Nat) ^ width = 2 ^ (8 * width) by rw [Nat.pow_mul]]
      constructor
      · rintro ⟨_, _, _, h⟩
        by_cases hw : width < 8
        · exact h (by omega)
        · obtain rfl : width = 8 := by omega
          exact Nat.div_eq_of_lt (by omega)
      · exact fun h => ⟨by omega, by omega, by omega, fun _ => h⟩
    by_cases h0 : n / 256 ^ width = 0
    · rw [if_pos (hp.2 h0), if_pos (hp.2 h0)]
      exact ⟨h1 h0, h3⟩
    · have hf : ¬ putOk n width = true := fun h => h0 (hp.1 h)
      rw [if_neg hf, if_neg hf]
      exact ⟨h2 (Nat.pos_of_ne_zero h0), h3⟩

end Go.Proofs.Ytelmcoedmkhkjaa
/- The reference's Text. -/
namespace Go.Proofs.Ytelmcoedmkhkjaa
open Go.RowKit Ks
set_option linter.unusedVariables false

theorem rput4 (n : Nat) (w : World) (h : n < 4294967296) :
    Calls Try.prog 25 #[.int .i64 n, .int .i64 4] w fun e w' => e = .returned (.tuple #[.string ⟨(putL 4 n).toArray⟩, .int .i64 0]) ∧ Below w.heap.size w w' :=
  (rput_ok n 4 w (by decide) (by decide) (by omega)).mono fun e w' ⟨h1, _, h2⟩ => ⟨h1 (Nat.div_eq_of_lt (by rw [show (256 : Nat) ^ 4 = 4294967296 from by decide]; exact h)), h2⟩

set_option maxHeartbeats 1000000 in
theorem rtext_any (s : St) (w : World) (hs : s.ok) : Calls Try.prog 50 #[.agg (i64s s.list)] w fun e w' => e = .returned (.string ⟨(textL s).toArray⟩) ∧ Below w.heap.size w w' := by
  refine calls_by fun R HR => ?_
  obtain ⟨C, hC⟩ : ∃ C, i64s s.list = C := ⟨_, rfl⟩
  rw [hC]
  have HC := Lib.hid hC
  clear hC
  go_enter Try.func50, Try.ntmps50
  go_wp2_with fail
  have HF := Lib.hid (And.intro (show NumsI (w.alloc (.cells C 90)) w.heap.size 90 s.list by rw [← HC.out]; exact NumsI.new _ _ _) (alloc_below w (.cells C 90)))
  generalize w.alloc (.cells C 90) = W at *
  go_loopw [3, 4] (fun v i wx => ∃ k, k ≤ 8 ∧ i = .int .i64 (k : Nat) ∧ v = .string ⟨(textTo s k).toArray⟩ ∧ Hid (NumsI wx w.heap.size 90 s.list ∧ Below w.heap.size w wx)) (fun _ i _ => 8 - (intOf i).toNat)
  case atStart => exact ⟨0, by omega, rfl, rfl, HF⟩
  case round =>
    obtain ⟨k, hk, rfl, rfl, hN⟩ := hrel
    by_cases hlt : k < 8
    · have hts := textTo_succ s k hlt
      obtain ⟨n, hn⟩ : ∃ n, s.list.getD k 0 = n := ⟨_, rfl⟩
      have hn1 : n < 4294967296 := by rw [← hn]; exact st_lt hs k
      have ck := hN.out.1.cell k hlt
      rw [hn] at ck hts
      have HTS := Lib.hid hts
      have HL := Lib.hid hn1
      have HS := Lib.hid hs
      clear hn hn1 hts hs
      go_wp2_with fail
      refine (rput4 n _ HL.out).mono ?_
      rintro e w1 ⟨rfl, hb⟩
      have HM := Lib.hid (And.intro (hN.out.1.keep hb) (hN.out.2.trans (hb.mono hN.out.2.size)))
      clear hb hN ck
      have hAB : (textTo s k).length + (putL 4 n).length ≤ 9223372036854775807 := by rw [textTo_length s k hk, putL_length]; omega
      generalize textTo s k = A at *
      generalize putL 4 n = B at *
      go_wp2_with fail
      go_round
      case rel => exact ⟨k + 1, by omega, by go_num, by rw [HTS.out]; simp [ByteArray.mk_append_mk], HM⟩
      case measure => simp [intOf]; omega
    · obtain rfl : k = 8 := by omega
      have HM := Lib.hid hN.out.2
      clear hN HF
      go_wp2
      exact HR.out _ _ ⟨by rw [textTo_all]; rfl, HM.out⟩

end Go.Proofs.Ytelmcoedmkhkjaa
/- What the reference's Noughts answers. -/
namespace Go.Proofs.Ytelmcoedmkhkjaa
open Go.RowKit Ks
set_option linter.unusedVariables false

theorem Try.infoByteN : (Try.prog.info? 5).map (fun i => (i.zero, i.size, i.bytes)) = some (some (.int .u8 0), 1, 1) := by kernel_rfl

set_option maxHeartbeats 400000 in
theorem noughts_any (n : Int) (w : World) (hn : n ≤ 281474976710656) :
    Calls Try.prog 66 #[.int .i64 n] w fun e w' => e = .returned (.string (zerosS n)) ∧ Below w.heap.size w w' := by
  refine calls_by fun R HR => ?_
  by_cases h1 : n < 1
  · go_enter Try.func66, Try.ntmps66
    go_wp2
    refine HR.out _ _ ⟨?_, Below.refl _ _⟩
    rw [zerosS, show n.toNat = 0 by omega]
    rfl
  · obtain ⟨n, rfl⟩ := Int.eq_ofNat_of_zero_le (show 0 ≤ n by omega)
    have hmk := fun w => run_make_row' (P := Try.prog) 81 5 (.int .u8 0) 1 Try.underlying81 Try.infoByteN rfl .i64 .i64 n (by omega) (by omega) w
    have hconv := conv_row (P := Try.prog) (src := 81) (dst := 9) (cap := n) (List.replicate n 0) Try.underlying81 Try.underlying5 Try.underlying9 (World.rowIs_made w (.int .u8 0) n 5) (by simp) (by simp)
    go_enter Try.func66, Try.ntmps66
    go_wp2
    refine HR.out _ _ ⟨?_, (Below.refl _ _).alloc (Nat.le_refl _) _⟩
    rw [zerosS, show ((n : Int)).toNat = n by omega]
    simp

end Go.Proofs.Ytelmcoedmkhkjaa
/- The reference's Pad and Sum. -/
namespace Ks
open Go Go.RowKit
set_option linter.unusedVariables false
theorem pad_more (n j : Nat) (h : j < 63 - (n + 8) % 64) : (n + (1 + j)) % 64 ≠ 56 := by omega
theorem pad_end (n j : Nat) (h : j = 63 - (n + 8) % 64) : (n + (1 + j)) % 64 = 56 := by omega
theorem cut64 (s : ByteArray) (k : Nat) (h : 64 * k + 64 ≤ s.size) : (s.extract (64 * k) (64 * k + 64)).data.toList = (s.data.toList.drop (64 * k)).take 64 := by
  rw [ByteArray.data_extract, Array.toList_extract, List.extract_eq_take_drop, show 64 * k + 64 - 64 * k = 64 by omega]
theorem cutAt (A : ByteArray) (k : Nat) : (A.extract k (k + 64)).data.toList = (A.data.toList.drop k).take 64 := by
  rw [ByteArray.data_extract, Array.toList_extract, List.extract_eq_take_drop, show k + 64 - k = 64 by omega]
theorem fold_step (y : St) (l : List UInt8) (k : Nat) (h : k + 64 ≤ l.length) : foldN y (l.drop k) = foldN (turnN y ((l.drop k).take 64)) (l.drop (k + 64)) := by
  rw [foldN_ge y _ (by rw [List.length_drop]; omega), List.drop_drop]
end Ks
namespace Go.Proofs.Ytelmcoedmkhkjaa
open Go.RowKit Ks
set_option linter.unusedVariables false

set_option maxRecDepth 100000 in
set_option maxHeartbeats 1000000 in
theorem rpad_any (n : Nat) (w : World) (h : n ≤ 576460752303423488) : Calls Try.prog 46 #[.int .i64 n] w fun e w' => e = .returned (.string ⟨(padL n).toArray⟩) ∧ Below w.heap.size w w' := by
  refine calls_by fun R HR => ?_
  have hc := fun w cap => @conv_one Try.prog 81 9 5 Try.underlying81 Try.underlying5 Try.underlying9 128 cap 5 w
  go_enter Try.func46, Try.ntmps46
  go_wp2_with fail
  clear hc
  have HF := Lib.hid (alloc_below w (.cells #[.int .u8 128] 5))
  go_loopg [3] (63 - (n + 8) % 64) (fun g v wx => ∃ (S : ByteArray) (j : Nat), v = .string S ∧ j + g = 63 - (n + 8) % 64 ∧ Hid (S = ⟨(128 :: List.replicate j 0).toArray⟩) ∧ Hid (Below w.heap.size w wx))
  case atStart => exact ⟨_, 0, rfl, by omega, Lib.hid rfl, HF⟩
  case round =>
    obtain ⟨S, j, rfl, hj, hS, hN⟩ := hrel
    have hz : S.size = 1 + j := by rw [hS.out]; simp [ByteArray.size]; omega
    have hs1 : S.size ≤ 64 := by omega
    have Hj := Lib.hid hj
    by_cases hg : gk = 0
    · have ht : (((n : Int) + (S.size : Int)) % 64 != 56) = false := by
        have := pad_end n j (by omega)
        rw [hz, show ((n : Int) + ((1 + j : Nat) : Int)) % 64 = (((n + (1 + j)) % 64 : Nat) : Int) by omega, this]
        rfl
      have hP : Hid (padL n = S.data.toList ++ putL 8 (8 * n)) := Lib.hid (by rw [hS.out, padL, show 63 - (n + 8) % 64 = j by omega]; simp)
      clear hz hj hg
      go_wp2_with fail
      rw [show (8 * (n : Int)) = ((8 * n : Nat) : Int) by omega]
      refine (rput_ok (8 * n) 8 _ (by decide) (by decide) (by omega)).mono ?_
      rintro e w1 ⟨he, _, hb⟩
      rw [he (Nat.div_eq_of_lt (by rw [show (256 : Nat) ^ 8 = 18446744073709551616 from by decide]; omega))]
      have HM := Lib.hid (hN.out.trans (hb.mono hN.out.size))
      have hlen : S.size + (putL 8 (8 * n)).length ≤ 9223372036854775807 := by rw [putL_length]; omega
      clear he hb ht
      go_wp2
      refine HR.out _ _ ⟨?_, HM.out⟩
      rw [hP.out]
      exact congrArg (fun b => Ending.returned (Value.string b)) (by rw [← ByteArray.mk_append_mk])
    · have ht : (((n : Int) + (S.size : Int)) % 64 != 56) = true := by
        have := pad_more n j (by omega)
        rw [hz, show ((n : Int) + ((1 + j : Nat) : Int)) % 64 = (((n + (1 + j)) % 64 : Nat) : Int) by omega]
        simp; omega
      clear hz hj
      go_wp2_with fail
      refine (noughts_any 1 _ (by decide)).mono ?_
      rintro e w1 ⟨rfl, hb⟩
      have HM := Lib.hid (hN.out.trans (hb.mono hN.out.size))
      have hlen : S.size + (zerosS 1).size ≤ 9223372036854775807 := by rw [show (zerosS 1).size = 1 from zerosS_size 1]; omega
      clear hb ht
      go_wp2_with fail
      go_roundg (gk - 1)
      case rel =>
        refine ⟨_, j + 1, rfl, by have := Hj.out; omega, Lib.hid ?_, HM⟩
        rw [hS.out]
        show (ByteArray.mk _ ++ ByteArray.mk _) = _
        rw [ByteArray.mk_append_mk, List.replicate_succ']
        rfl
      case measure => omega

set_option maxRecDepth 100000 in
set_option maxHeartbeats 1000000 in
theorem rsum_any (s : ByteArray) (w : World) (h : s.size ≤ 1000000000) : Calls Try.prog 26 #[.string s] w fun e w' => e = .returned (.string ⟨(shaL s.data.toList).toArray⟩) ∧ Below w.heap.size w w' := by
  refine calls_by fun R HR => ?_
  go_enter Try.func26, Try.ntmps26
  go_wp2_with fail
  refine (rpad_any s.size _ (by omega)).mono ?_
  rintro e w1 ⟨rfl, hb⟩
  have HB1 := Lib.hid hb
  clear hb
  have hsl : s.data.toList.length = s.size := data_length s
  have hpl : (padL s.size).length ≤ 72 := by rw [padL_length]; omega
  have hcat : s.size + (padL s.size).length ≤ 9223372036854775807 := by omega
  obtain ⟨A, hA⟩ : ∃ A, s ++ ByteArray.mk (padL s.size).toArray = A := ⟨_, rfl⟩
  have hAd : A.data.toList = s.data.toList ++ padL s.data.toList.length := by rw [← hA, hsl]; simp
  have hAs : A.size = (s.data.toList ++ padL s.data.toList.length).length := by rw [← hAd]; exact (data_length A).symm
  have hAm : A.size % 64 = 0 := by rw [hAs]; exact padded _
  have hAl : A.size ≤ 1000000100 := by rw [hAs, List.length_append, hsl]; omega
  have HA := Lib.hid hA
  have HAD := Lib.hid hAd
  have HAM := Lib.hid hAm
  clear hA hAd hAs hAm hsl
  go_wp2_with fail
  rw [HA.out]
  clear hcat hpl HA
  refine (begin_any _).mono ?_
  rintro e w2 ⟨rfl, hb⟩
  have HB2 := Lib.hid (HB1.out.trans (hb.mono HB1.out.size))
  clear hb HB1
  obtain ⟨C, hC⟩ : ∃ C, i64s st0.list = C := ⟨_, rfl⟩
  rw [hC]
  have HC := Lib.hid hC
  clear hC
  go_wp2_with fail
  refine (rounds_any _).mono ?_
  rintro e w3 ⟨rfl, hb⟩
  have HB3 := Lib.hid (HB2.out.trans (hb.mono HB2.out.size))
  clear hb HB2
  obtain ⟨CK, hCK⟩ : ∃ CK, i64s kays = CK := ⟨_, rfl⟩
  rw [hCK]
  have HCK := Lib.hid hCK
  clear hCK
  have HS : Hid (C.size = 8 ∧ CK.size = 64) := Lib.hid ⟨by rw [← HC.out]; rfl, by rw [← HCK.out]; rfl⟩
  go_upto_region 3 with (first
    | refine wpList_storeA rfl 90 (.tmp 4) (.tmp 12) rfl _ 90 _ C 8 rfl rfl (blk_keep (alloc_new _ _) _) (by kernel_rfl) HS.out.1 rfl (by rw [← HC.out]; exact i64s_one _) ?_
    | refine wpList_storeA rfl 92 (.tmp 5) (.tmp 13) rfl _ 92 _ CK 64 rfl rfl ((setRow_other _ _ _ _ (by omega)).trans (alloc_new2 _ _ _)) (by kernel_rfl) HS.out.2 rfl (by rw [← HCK.out]; exact i64s_one _) ?_)
  refine code_cut (fun W => NumsI W w3.heap.size 90 st0.list ∧ NumsI W (w3.heap.size + 1) 92 kays ∧ Below w.heap.size w W) ?_ ?_
  · refine ⟨?_, ?_, ?_⟩
    · rw [← HC.out]
      exact (NumsI.row (blk_keep (alloc_new _ _) _) _).rowOther _ (by omega)
    · rw [← HCK.out]
      exact NumsI.row ((setRow_other _ _ _ _ (by omega)).trans (alloc_new2 _ _ _)) _
    · have hz := HB3.out.size
      exact below_setRow (below_setRow ((HB3.out.alloc (by omega) _).alloc (by simp; omega) _) (by omega) _) (by omega) _
  intro W hF
  have HF := Lib.hid hF
  have Hz := Lib.hid HB3.out.size
  clear hF HB3 HC HCK HS
  generalize w3.heap.size = b4 at *
  go_wp2_with fail
  go_loopg [6] (A.size / 64) (fun g i wx => ∃ (k : Nat) (y : St), i = .int .i64 k ∧ k ≤ A.size ∧ Hid (k + 64 * g = A.size ∧ y.ok) ∧ Hid (foldN y (A.data.toList.drop k) = foldN st0 A.data.toList) ∧ Hid (NumsI wx b4 90 y.list ∧ NumsI wx (b4 + 1) 92 kays ∧ Below w.heap.size w wx))
  case atStart => exact ⟨0, st0, rfl, by omega, Lib.hid ⟨by have := HAM.out; omega, st0_ok⟩, Lib.hid rfl, HF⟩
  case round =>
    obtain ⟨k, y, rfl, hk, hG, hY, hN⟩ := hrel
    by_cases hlt : k < A.size
    · have h64 : (k : Int) + 64 ≤ (A.size : Int) := by have := hG.out.1; have := HAM.out; omega
      have HST := Lib.hid (fold_step y A.data.toList k (by rw [data_length]; omega))
      obtain ⟨B, hB⟩ : ∃ B, A.extract k (k + 64) = B := ⟨_, rfl⟩
      have hBz : B.size = 64 := by rw [← hB, ByteArray.size_extract]; omega
      have HBD : Hid (B.data.toList = (A.data.toList.drop k).take 64) := Lib.hid (by rw [← hB]; exact cutAt A k)
      have HBB := Lib.hid hB
      have T := Lib.hid fun p => calls_after (p := p) (step_any y B (After wr p) hG.out.2 hBz)
      have HBZ := Lib.hid hBz
      clear hB hBz
      go_wp2_with fail
      have hB := HBB.out
      have w1 : IntKind.i64.wrap ((k : Int) + 64) = (k : Int) + 64 := by rw [IntKind.wrap_i64]; omega
      have w2 : (0 : Int) ≤ (k : Int) + 64 := by omega
      have w3 : ((k : Int) + 64).toNat = k + 64 := by omega
      have w4 : (k : Int) ≤ (k : Int) + 64 := by omega
      refine wp_region_after_tail 8 (by kernel_rfl) (by kernel_rfl) ?_
      simp only [List.take_succ_cons, List.take_zero, List.drop_succ_cons, List.drop_zero]
      refine wpQuiet_load_blk rfl 90 (.tmp 4) rfl b4 0 8 rfl (i64s y.list) (i64s y.list) 90 (0, 0) _ (after_blk hN.out.1.blk) rfl rfl Try.underlying90 rfl (by kernel_rfl) ?_
      quiet_step (fail)
      quiet_step (fail)
      quiet_step (fail)
      quiet_step (fail)
      quiet_step (fail)
      refine wpQuiet_load_blk rfl 92 (.tmp 5) rfl (b4 + 1) 0 64 rfl (i64s kays) (i64s kays) 92 (0, 0) _ (after_blk hN.out.2.1.blk) rfl rfl Try.underlying92 rfl (by kernel_rfl) ?_
      quiet_step (exact T.out _)
      refine wpQuiet_nil ?_
      rintro v1 ⟨p, rfl⟩
      have hb1 := after_below wr p
      have HN := Lib.hid (And.intro (hN.out.1.keep hb1) (And.intro (hN.out.2.1.keep hb1) (hN.out.2.2.trans (hb1.mono hN.out.2.2.size))))
      clear hb1 hN T w1 w2 w3 w4 hB HBB
      generalize After wr p = v1 at *
      have HE : Hid (i64s (turnN y B.data.toList).list = i64s (turnN y B.data.toList).list ∧ (i64s (turnN y B.data.toList).list).size = 8) := Lib.hid ⟨rfl, rfl⟩
      refine wpList_storeA rfl 90 (.tmp 4) (.tmp 27) rfl b4 90 (i64s y.list) (i64s (turnN y B.data.toList).list) 8 rfl rfl HN.out.1.blk (by kernel_rfl) rfl rfl (i64s_one _) ?_
      have HM : Hid (NumsI (v1.setRow b4 (i64s (turnN y B.data.toList).list)) b4 90 (turnN y B.data.toList).list ∧ NumsI (v1.setRow b4 (i64s (turnN y B.data.toList).list)) (b4 + 1) 92 kays ∧ Below w.heap.size w (v1.setRow b4 (i64s (turnN y B.data.toList).list))) :=
        Lib.hid ⟨NumsI.row HN.out.1.blk _, HN.out.2.1.rowOther _ (by omega), below_setRow HN.out.2.2 (by have := Hz.out; omega) _⟩
      generalize v1.setRow b4 (i64s (turnN y B.data.toList).list) = v2 at *
      generalize i64s (turnN y B.data.toList).list = D at *
      clear HE HN
      go_wp2_with fail
      go_roundg (gk - 1)
      case rel =>
        refine ⟨k + 64, turnN y B.data.toList, by go_num, by omega, Lib.hid ⟨by have := hG.out.1; omega, turnN_ok _ _⟩, Lib.hid ?_, HM⟩
        rw [HBD.out, ← HST.out, hY.out]
      case measure => have := hG.out.1; omega
    · obtain rfl : k = A.size := by omega
      have HX : Hid (y = foldN st0 (s.data.toList ++ padL s.data.toList.length)) := Lib.hid (by
        have h1 := hY.out
        rw [List.drop_eq_nil_of_le (by rw [data_length]; exact Nat.le_refl _), foldN_lt y [] (by decide), HAD.out] at h1
        exact h1)
      have HYO := Lib.hid hG.out.2
      clear hlt hk hY hG HF
      go_wp2_with (refine wpList_loadA rfl 90 (.tmp 4) rfl _ 90 _ _ 8 8 rfl hN.out.1.blk Try.underlying90 (by kernel_rfl) rfl ?_)
      refine (rtext_any y _ HYO.out).mono ?_
      rintro e v1 ⟨rfl, hb1⟩
      have HB := Lib.hid (hN.out.2.2.trans (hb1.mono hN.out.2.2.size))
      clear hb1 hN
      go_wp2
      exact HR.out _ _ ⟨by rw [shaL, ← HX.out]; rfl, HB.out⟩
end Go.Proofs.Ytelmcoedmkhkjaa
/- A sum as a string: of one text, of two, of none. -/
namespace Ks
open Go Go.RowKit
set_option linter.unusedVariables false
/-- a text's sum, as a string -/
def shaS (l : List UInt8) : ByteArray := ⟨(shaL l).toArray⟩
theorem shaS_eq (l : List UInt8) : (⟨(shaL l).toArray⟩ : ByteArray) = shaS l := rfl
theorem shaS_data (l : List UInt8) : (shaS l).data.toList = shaL l := rfl
theorem shaS_size (l : List UInt8) : (shaS l).size = 32 := by show (shaL l).toArray.size = 32; simp [shaL_length]
theorem join_one (s : ByteArray) : joinL [s] = s.data.toList := by simp [joinL]
theorem join_two (s t : ByteArray) : joinL [s, t] = s.data.toList ++ t.data.toList := by simp [joinL]
theorem Rd.one (w : World) (s : ByteArray) (T : TypeId) : Rd strE (w.alloc (.cells #[.string s] T)) (.slice (some ⟨w.heap.size, 0, none⟩) 1 1) [s] :=
  Rd.single s (alloc_new w _) rfl
end Ks
namespace Go.Proofs.Ytelmcoedmkhkjaa
open Go.RowKit Ks
set_option linter.unusedVariables false
/-- the sum of one text, that lies in a new block -/
theorem sum1_any (s : ByteArray) (T : TypeId) (w : World) (h : s.size ≤ 50000000000) :
    Calls Try.prog 22 #[.slice (some ⟨w.heap.size, 0, none⟩) 1 1] (w.alloc (.cells #[.string s] T)) fun e w' => e = .returned (.string (shaS s.data.toList)) ∧ Below w.heap.size w w' :=
  (sumv_any [s] _ _ (Rd.one w s T) (by rw [join_one, data_length]; exact h) (by simp)).mono fun e w' ⟨h1, h2⟩ => ⟨by rw [h1, join_one, shaS_eq], (alloc_below w _).trans (h2.mono (by simp))⟩
theorem sum2_any (s t : ByteArray) (T : TypeId) (w : World) (h : s.size ≤ 10000000000) (h2 : t.size ≤ 10000000000) :
    Calls Try.prog 22 #[.slice (some ⟨w.heap.size, 0, none⟩) 2 2] (w.alloc (.cells #[.string s, .string t] T)) fun e w' => e = .returned (.string (shaS (s.data.toList ++ t.data.toList))) ∧ Below w.heap.size w w' :=
  (sumv_any [s, t] _ _ (Rd.block (alloc_new w _) rfl) (by rw [join_two, List.length_append, data_length, data_length]; omega) (by simp)).mono fun e w' ⟨h1, h2⟩ => ⟨by rw [h1, join_two, shaS_eq], (alloc_below w _).trans (h2.mono (by simp))⟩
theorem sum0_any (w : World) : Calls Try.prog 22 #[.slice none 0 0] w fun e w' => e = .returned (.string (shaS [])) ∧ Below w.heap.size w w' :=
  (sumv_any [] _ _ (Rd.nil w) (by decide) (by decide)).mono fun e w' ⟨h1, h2⟩ => ⟨by rw [h1]; rfl, h2⟩
theorem rsumS_any (s : ByteArray) (w : World) (h : s.size ≤ 1000000000) : Calls Try.prog 26 #[.string s] w fun e w' => e = .returned (.string (shaS s.data.toList)) ∧ Below w.heap.size w w' := rsum_any s w h
end Go.Proofs.Ytelmcoedmkhkjaa
/- A region that draws its order, some of whose calls turn what was there, each at most once: walked once. The class of worlds goes by what was done, and what it yielded. Plain. No program is in sight. -/
namespace Ks
open Go Go.RowKit
set_option linter.unusedVariables false

abbrev Told := Nat → Option Value
def upd (f : Told) (k : Nat) (v : Value) : Told := fun j => bif Nat.beq j k then some v else f j
theorem beq_ne {j k : Nat} (h : j ≠ k) : Nat.beq j k = false := by rw [← Bool.not_eq_true]; exact fun e => h (Nat.eq_of_beq_eq_true e)
theorem beq_self (k : Nat) : Nat.beq k k = true := Nat.beq_refl k
theorem upd_self (f : Told) (k : Nat) (v : Value) : upd f k v k = some v := by unfold upd; rw [beq_self]; rfl
theorem upd_ne (f : Told) {j k : Nat} (v : Value) (h : j ≠ k) : upd f k v j = f j := by unfold upd; rw [beq_ne h]; rfl
theorem upd_comm (f : Told) {i j : Nat} (u v : Value) (h : i ≠ j) : upd (upd f i u) j v = upd (upd f j v) i u := by
  funext k
  by_cases e : k = i
  · subst e; rw [upd_ne _ _ h, upd_self, upd_self]
  · by_cases e2 : k = j
    · subst e2; rw [upd_self, upd_ne _ _ e, upd_self]
    · rw [upd_ne _ _ e2, upd_ne _ _ e, upd_ne _ _ e, upd_ne _ _ e2]

section
variable {P : Program} {ops : Array Oper} {md : Region.Mode} {C : Told → World → Prop}

def movesUpon (P : Program) (D : Value → World → Prop) : Result Next → Prop
  | .ok (.value u) w' => D u w'
  | .ok .skip w' => D undef w'
  | .ok (.enter f args) w' => Calls P f args w' (fun e w'' => ∃ v, e = .returned v ∧ D v w'')
  | _ => False
/-- what it waits for yielded the same -/
def agree (md : Region.Mode) (o : Oper) (f g : Told) : Prop := ∀ e ∈ o.after, Region.binds md e = true → g e.on = f e.on

theorem agree_on {o : Oper} {f g : Told} (i : Nat) (h : agree md o f g) (hb : (o.after.any fun e => Nat.beq e.on i && Region.binds md e) = true) : g i = f i := by
  obtain ⟨e, he, h2⟩ : ∃ e, e ∈ o.after ∧ (Nat.beq e.on i && Region.binds md e) = true := by simpa using Array.any_eq_true'.1 hb
  simp only [Bool.and_eq_true] at h2
  have h3 := h e he h2.2
  rwa [Nat.eq_of_beq_eq_true h2.1] at h3

/-- wherever it is done, and whatever else was done, it yields one of these -/
def Moves (P : Program) (md : Region.Mode) (ops : Array Oper) (C : Told → World → Prop) (o : Oper) (k : Nat) (V : Value → Prop) (f : Told) (a : Act) : Prop :=
  (Region.wanted o (yielded ops a.tmps) = true ∧ ∀ g w, agree md o f g → g k = none → C g w → movesUpon P (fun v w' => V v ∧ C (upd g k v) w') ((execOp a.eval o).run P w)) ∨
  (Region.wanted o (yielded ops a.tmps) = false ∧ V undef ∧ ∀ g w, agree md o f g → g k = none → C g w → C (upd g k undef) w)

def mOp (P : Program) (md : Region.Mode) (ops : Array Oper) (C : Told → World → Prop) (i : Nat) (K : Told → Act → Prop) (f : Told) (a : Act) : Prop :=
  match ops[i]? with
  | none => False
  | some o => ∃ V, Moves P md ops C o i V f a ∧ ∀ v, V v → K (upd f i v) (a.put o.dst v)
theorem mOp_mono {i : Nat} {f : Told} {a : Act} {K K' : Told → Act → Prop} (h : ∀ f a, K f a → K' f a) (hh : mOp P md ops C i K f a) : mOp P md ops C i K' f a := by
  unfold mOp at *
  split
  · rename_i ho; simp only [ho] at hh
  · rename_i o ho
    simp only [ho] at hh
    obtain ⟨V, h1, h2⟩ := hh
    exact ⟨V, h1, fun v hv => h _ _ (h2 v hv)⟩

def wpAnyM (P : Program) (md : Region.Mode) (ops : Array Oper) (C : Told → World → Prop) (Q : Told → Act → Prop) : Nat → Array Bool → Told → Act → Prop
  | 0, listed, f, a => Region.ready md ops listed = [] ∧ Q f a
  | fuel + 1, listed, f, a => Region.ready md ops listed ≠ [] ∧ ∀ i ∈ Region.ready md ops listed, mOp P md ops C i (wpAnyM P md ops C Q fuel (listed.setIfInBounds i true)) f a

theorem wpOp_of_mOp {i : Nat} {f : Told} {a : Act} {K : Told → Act → Prop} {K' : Act → World → Prop} {Q' : Exit → Act → World → Prop} {w : World} (hf : f i = none) (hC : C f w) (h : ∀ v a w', C (upd f i v) w' → K (upd f i v) a → K' a w') (hh : mOp P md ops C i K f a) : wpOp P ops Q' i K' a w := by
  unfold mOp at hh
  unfold wpOp
  split
  · rename_i ho; simp only [ho] at hh
  · rename_i o ho
    simp only [ho] at hh
    obtain ⟨V, h1, h2⟩ := hh
    rcases h1 with ⟨hw, h1⟩ | ⟨hw, hV, h1⟩
    · rw [if_pos hw]
      refine .inl ?_
      have h3 := h1 f w (fun _ _ _ => rfl) hf hC
      unfold Oper.wp
      generalize (execOp a.eval o).run P w = r at *
      cases r with
      | ok n w' =>
        cases n <;> simp only [movesUpon] at h3 <;> simp only [Oper.upon]
        case value u => exact h _ _ _ h3.2 (h2 _ h3.1)
        case skip => exact h _ _ _ h3.2 (h2 _ h3.1)
        case enter g args => exact h3.mono fun e w'' ⟨v, he, hv, hw''⟩ => by subst he; exact h _ _ _ hw'' (h2 _ hv)
      | halt x w' => simp only [movesUpon] at h3
    · rw [if_neg (by simp [hw])]
      exact h _ _ _ (h1 f w (fun _ _ _ => rfl) hf hC) (h2 _ hV)

theorem wpAny_of_moved {Q : Told → Act → Prop} {Q' : Exit → Act → World → Prop} (hQ : ∀ f a w, C f w → Q f a → Q' .normal a w) : ∀ (fuel : Nat) (listed : Array Bool) (f : Told) (a : Act) (w : World), (∀ i, listed.getD i true = false → f i = none) → C f w →
    wpAnyM P md ops C Q fuel listed f a → wpAny P md ops Q' fuel listed a w
  | 0, _, _, _, _, _, hw, h => ⟨h.1, hQ _ _ _ hw h.2⟩
  | fuel + 1, listed, f, _, _, hi, hw, h => ⟨fun h0 => absurd h0 h.1, fun i hr => by
      have h0 := (mem_ready.1 hr).1
      refine wpOp_of_mOp (hi i h0) hw (fun v a' w' hw' => wpAny_of_moved hQ fuel _ _ a' w' (fun j hj => ?_) hw') (h.2 i hr)
      by_cases e : j = i
      · subst e
        have hlt : j < listed.size := by
          rcases Nat.lt_or_ge j listed.size with h' | h'
          · exact h'
          · simp [Array.getElem?_eq_none h'] at h0
        simp [hlt] at hj
      · rw [getD_set_ne true (Ne.symm e)] at hj
        rw [upd_ne _ _ e]; exact hi j hj⟩

theorem Moves.mOp {i : Nat} {o : Oper} {V : Value → Prop} {f : Told} {a : Act} (hi : ops[i]? = some o) (hy : Moves P md ops C o i V f a) {K : Told → Act → Prop} (h : ∀ v, V v → K (upd f i v) (a.put o.dst v)) : mOp P md ops C i K f a := by
  unfold Ks.mOp
  simp only [hi]
  exact ⟨V, hy, h⟩
theorem Moves.of_same {o : Oper} {i : Nat} {V : Value → Prop} {f f' : Told} {a a' : Act} (hy : Moves P md ops C o i V f a) (hf : ∀ e ∈ o.after, Region.binds md e = true → f' e.on = f e.on) (he : execOp a'.eval o = execOp a.eval o)
    (hw : Region.wanted o (yielded ops a'.tmps) = Region.wanted o (yielded ops a.tmps)) : Moves P md ops C o i V f' a' := by
  unfold Moves at *
  rw [he, hw]
  rcases hy with ⟨h1, h2⟩ | ⟨h1, h2, h3⟩
  · exact .inl ⟨h1, fun g w ha => h2 g w fun e hm hb => (ha e hm hb).trans (hf e hm hb)⟩
  · exact .inr ⟨h1, h2, fun g w ha => h3 g w fun e hm hb => (ha e hm hb).trans (hf e hm hb)⟩
theorem mOp_put {i j : Nat} {oi oj : Oper} {u : Value} (hij : i ≠ j) (hj : ops[j]? = some oj) (hap : oi.apart ops oj = true)
    (hsi : ∀ cs b, oi.op ≠ .select cs b) (hsj : ∀ cs b, oj.op ≠ .select cs b) {K : Told → Act → Prop} {f : Told} {a : Act}
    (hai : ∀ e ∈ oi.after, Region.binds md e = true → e.on ≠ j) (haj : ∀ e ∈ oj.after, Region.binds md e = true → e.on ≠ i)
    (hy : Moves P md ops C oi i (fun v => v = u) f a) (h : mOp P md ops C j K (upd f i u) (a.put oi.dst u)) :
    mOp P md ops C j (fun f' a' => Moves P md ops C oi i (fun v => v = u) f' a' ∧ K (upd f' i u) (a'.put oi.dst u)) f a := by
  obtain ⟨h1, h2, h3⟩ := Oper.apart_spec hap
  have keep : ∀ v, Moves P md ops C oi i (fun v => v = u) (upd f j v) (a.put oj.dst v) := fun v =>
    hy.of_same (fun e he hb => upd_ne _ _ (hai e he hb)) (execOp_put oi hsi a oj.dst v h3) (wanted_put oi a oj.dst v h3)
  unfold mOp at *
  simp only [hj] at *
  obtain ⟨V, hV, hn⟩ := h
  refine ⟨V, ?_, fun v hv => ⟨keep v, ?_⟩⟩
  · exact hV.of_same (fun e he hb => (upd_ne _ _ (haj e he hb)).symm) (execOp_put oj hsj a oi.dst u h1).symm (wanted_put oj a oi.dst u h1).symm
  · rw [← Act.put_comm a u v h2, ← upd_comm f u v hij]
    exact hn v hv

theorem wpAnyM_first {Q : Told → Act → Prop} {i : Nat} {oi : Oper} {u : Value} (hi : ops[i]? = some oi) (hsel : ∀ (j : Nat) (o : Oper) cs b, ops[j]? = some o → o.op ≠ .select cs b) :
    ∀ (fuel : Nat) (listed : Array Bool) (f : Told) (a : Act),
      (∀ j oj, ops[j]? = some oj → j ≠ i → listed.getD j true = false → (∀ e ∈ oj.after, Region.binds md e = true → e.on ≠ i) → oi.apart ops oj = true) →
      i ∈ Region.ready md ops listed → Moves P md ops C oi i (fun v => v = u) f a →
      wpAnyM P md ops C Q fuel (listed.setIfInBounds i true) (upd f i u) (a.put oi.dst u) → wpAnyM P md ops C Q (fuel + 1) listed f a := by
  intro fuel
  induction fuel with
  | zero =>
    intro listed f a _ hr hy H
    refine ⟨fun h => (by rw [h] at hr; cases hr), fun j hj => ?_⟩
    by_cases hji : j = i
    · subst hji; exact hy.mOp hi (fun v hv => by subst hv; exact H)
    · have := ready_mono hj hji
      rw [H.1] at this
      cases this
  | succ fuel ih =>
    intro listed f a hfree hr hy H
    refine ⟨fun h => (by rw [h] at hr; cases hr), fun j hj => ?_⟩
    by_cases hji : j = i
    · subst hji; exact hy.mOp hi (fun v hv => by subst hv; exact H)
    · have h1 := H.2 j (ready_mono hj hji)
      obtain ⟨hjun, oj, hoj, hall⟩ := mem_ready.1 hj
      have both : ∀ {k : Nat} {b : Bool}, listed.getD k true = false → listed.getD k false = b → b = false := fun {k b} h0 hb => by
        rcases Nat.lt_or_ge k listed.size with h' | h'
        · simp [h'] at h0 hb; rw [h0] at hb; exact hb.symm
        · simp [Array.getElem?_eq_none h'] at h0
      have hnot : ∀ e ∈ oj.after, Region.binds md e = true → e.on ≠ i := fun e he hb heq => by
        have h1 := hall e he hb
        rw [heq] at h1
        exact Bool.noConfusion (both (mem_ready.1 hr).1 h1)
      have hnoti : ∀ e ∈ oi.after, Region.binds md e = true → e.on ≠ j := fun e he hb heq => by
        obtain ⟨_, o', ho', hall'⟩ := mem_ready.1 hr
        rw [hi] at ho'
        cases ho'
        have h1 := hall' e he hb
        rw [heq] at h1
        exact Bool.noConfusion (both hjun h1)
      have h2 := mOp_put (Ne.symm hji) hoj (hfree j oj hoj hji hjun hnot) (fun cs b => hsel i oi cs b hi) (fun cs b => hsel j oj cs b hoj) hnoti hnot hy h1
      have hfree' : ∀ k ok, ops[k]? = some ok → k ≠ i → (listed.setIfInBounds j true).getD k true = false →
          (∀ e ∈ ok.after, Region.binds md e = true → e.on ≠ i) → oi.apart ops ok = true := fun k ok hk hki hun hno => by
        refine hfree k ok hk hki ?_ hno
        by_cases hjk : j = k
        · subst hjk; exact hjun
        · rw [getD_set_ne true hjk] at hun; exact hun
      refine mOp_mono (fun f' a' h3 => ih (listed.setIfInBounds j true) f' a' hfree' (ready_mono hr (Ne.symm hji)) h3.1 ?_) h2
      rw [Array.setIfInBounds_comm _ _ hji]
      exact h3.2

theorem wp_region_mv {id : Nat} {Q : Exit → Act → World → Prop} {a : Act} {w : World} {l : List Oper} (C : Told → World → Prop) (hm : P.follows .mixedOrders = true) (hC : C (fun _ => none) w.drew)
    (h : wpAnyM P .any l.toArray C (fun f a' => ∀ w', C f w' → Q .normal a' w') l.length (Array.replicate l.length false) (fun _ => none) a) : (Code.region id l.toArray true).wp P Q a w :=
  wp_region_any hm (wpAny_of_moved (C := C) (Q := fun f a => ∀ w', C f w' → Q .normal a w') (fun f a w hw h => h w hw) _ _ (fun _ => none) _ _ (fun _ _ => rfl) hC (by simpa using h))
theorem mv_end {Q : Told → Act → Prop} {listed : Array Bool} {f : Told} {a : Act} (h0 : Region.ready md ops listed = []) (h : Q f a) : wpAnyM P md ops C Q 0 listed f a := ⟨h0, h⟩

/-- all worlds of the class, by a name -/
theorem moved_class (C : Told → World → Prop) : ∃ (S : Type) (F : S → World), (∀ f w, C f w → ∃ s, w = F s) ∧ ∀ s, ∃ f, C f (F s) :=
  ⟨{ x : Told × World // C x.1 x.2 }, fun s => s.1.2, fun f w h => ⟨⟨(f, w), h⟩, rfl⟩, fun s => ⟨s.1.1, s.2⟩⟩
/-- what is read, or reckoned, in all of them: taken first -/
theorem mv_read {Q : Told → Act → Prop} {fuel : Nat} {listed : Array Bool} {f : Told} {a : Act} (i : Nat) {o : Oper} {S : Type} {F : S → World} (hF : ∀ f w, C f w → ∃ s, w = F s) (hm : ∀ f w v, C f w → C (upd f i v) w)
    (ho : ops[i]? = some o) (hs : Region.noSelect ops = true) (hfree : Region.free md ops listed i = true) (hr : (Region.ready md ops listed).contains i = true)
    (h : ∀ K : Value → Act → Prop, (∀ v a, wpAnyM P md ops C Q fuel (listed.setIfInBounds i true) (upd f i v) a → K v a) → if Region.wanted o (yielded ops a.tmps) then ∃ v, (∀ s, Oper.quietUpon P (fun w' => w' = F s) (F s) v ((execOp a.eval o).run P (F s))) ∧ K v (a.put o.dst v) else K undef (a.put o.dst undef)) :
    wpAnyM P md ops C Q (fuel + 1) listed f a := by
  have h := h (fun v a => wpAnyM P md ops C Q fuel (listed.setIfInBounds i true) (upd f i v) a) fun _ _ h => h
  have key : ∀ u, Moves P md ops C o i (fun v => v = u) f a → wpAnyM P md ops C Q fuel (listed.setIfInBounds i true) (upd f i u) (a.put o.dst u) → wpAnyM P md ops C Q (fuel + 1) listed f a := fun u h1 h2 =>
    wpAnyM_first ho (Region.noSelect_spec hs) fuel listed f a (Region.free_spec ho hfree) (by simpa using hr) h1 h2
  split at h
  · rename_i hw
    obtain ⟨v, h1, h2⟩ := h
    refine key v (.inl ⟨hw, fun g w _ hn hC => ?_⟩) h2
    obtain ⟨s, rfl⟩ := hF g w hC
    have h3 := h1 s
    generalize (execOp a.eval o).run P (F s) = r at *
    cases r with
    | ok n w' =>
      cases n <;> simp only [Oper.quietUpon] at h3 <;> simp only [movesUpon]
      case value u => obtain ⟨rfl, rfl⟩ := h3; exact ⟨rfl, hm _ _ _ hC⟩
      case skip => obtain ⟨rfl, rfl⟩ := h3; exact ⟨rfl, hm _ _ _ hC⟩
      case enter g args =>
        obtain ⟨rfl, h4⟩ := h3
        exact h4.mono fun e w'' ⟨he, hw''⟩ => by subst hw''; exact ⟨v, he, rfl, hm _ _ _ hC⟩
    | halt x w' => simp only [Oper.quietUpon] at h3
  · rename_i hw
    exact key undef (.inr ⟨by simpa using hw, rfl, fun g w _ _ hC => hm _ _ _ hC⟩) h
/-- a call that yields one value, wherever it is done: taken first -/
theorem mv_call1 {Q : Told → Act → Prop} {fuel : Nat} {listed : Array Bool} {F : Told} {a : Act} (i : Nat) {o : Oper} (f : FuncId) {xs : Array Operand} {ts : Array TypeId}
    (ho : ops[i]? = some o) (hs : Region.noSelect ops = true) (hfree : Region.free md ops listed i = true) (hr : (Region.ready md ops listed).contains i = true) (hw : Region.wanted o (yielded ops a.tmps) = true)
    (hop : o.op = Op.call { callee := Callee.value (.func f), args := xs, argTypes := ts }) (eg : ∀ args w, (callFunc f args).run P w = .ok (.enter f args) w) {args : Array Value} (hargs : xs.toList.map a.eval = args.toList)
    {u : Value} (hc : ∀ g w, agree md o F g → g i = none → C g w → Calls P f args w fun e w' => e = .returned u ∧ C (upd g i u) w')
    (hK : wpAnyM P md ops C Q fuel (listed.setIfInBounds i true) (upd F i u) (a.put o.dst u)) : wpAnyM P md ops C Q (fuel + 1) listed F a := by
  refine wpAnyM_first (u := u) ho (Region.noSelect_spec hs) fuel listed F a (Region.free_spec ho hfree) (by simpa using hr) (.inl ⟨hw, fun g w h0 h1 h2 => ?_⟩) hK
  have hrun : (execOp a.eval o).run P w = .ok (.enter f args) w := by
    have h : xs.map a.eval = args := Array.toList_inj.1 (by simpa using hargs)
    simp [execOp, hop, resolve, Deferred.ofValue, Act.eval, invoke, eg, ← h]
  rw [hrun]
  exact (hc g w h0 h1 h2).mono fun e w' ⟨h1, h2⟩ => ⟨u, h1, rfl, h2⟩
/-- a call that alone may be done now -/
theorem mv_call {Q : Told → Act → Prop} {fuel : Nat} {listed : Array Bool} {F : Told} {a : Act} (i : Nat) {o : Oper} (f : FuncId) {xs : Array Operand} {ts : Array TypeId}
    (ho : ops[i]? = some o) (hr : Region.ready md ops listed = [i]) (hw : Region.wanted o (yielded ops a.tmps) = true)
    (hop : o.op = Op.call { callee := Callee.value (.func f), args := xs, argTypes := ts }) (eg : ∀ args w, (callFunc f args).run P w = .ok (.enter f args) w) {args : Array Value} (hargs : xs.toList.map a.eval = args.toList)
    (V : Value → Prop) (hc : ∀ g w, agree md o F g → g i = none → C g w → Calls P f args w fun e w' => ∃ v, e = .returned v ∧ V v ∧ C (upd g i v) w')
    (hK : ∀ v, V v → wpAnyM P md ops C Q fuel (listed.setIfInBounds i true) (upd F i v) (a.put o.dst v)) : wpAnyM P md ops C Q (fuel + 1) listed F a := by
  refine ⟨by rw [hr]; simp, fun j hj => ?_⟩
  rw [hr] at hj
  obtain rfl : j = i := by simpa using hj
  refine Moves.mOp (V := V) ho (.inl ⟨hw, fun g w h0 h1 h2 => ?_⟩) hK
  have hrun : (execOp a.eval o).run P w = .ok (.enter f args) w := by
    have h : xs.map a.eval = args := Array.toList_inj.1 (by simpa using hargs)
    simp [execOp, hop, resolve, Deferred.ofValue, Act.eval, invoke, eg, ← h]
  rw [hrun]
  exact hc g w h0 h1 h2
end
end Ks
/- A region that draws its order, some of whose steps turn what was there: an operation that alone may be done now; an append. Plain. No program is in sight. -/
namespace Ks
open Go Go.RowKit
set_option linter.unusedVariables false
section
variable {P : Program} {ops : Array Oper} {md : Region.Mode} {C : Told → World → Prop}
/-- an operation that alone may be done now -/
theorem mv_alone {Q : Told → Act → Prop} {fuel : Nat} {listed : Array Bool} {F : Told} {a : Act} (i : Nat) {o : Oper}
    (ho : ops[i]? = some o) (hr : Region.ready md ops listed = [i]) (hw : Region.wanted o (yielded ops a.tmps) = true) (V : Value → Prop)
    (hc : ∀ g w, agree md o F g → g i = none → C g w → ∀ D : Value → World → Prop, (∀ v w', V v → C (upd g i v) w' → D v w') → movesUpon P D ((execOp a.eval o).run P w))
    (hK : ∀ v, V v → wpAnyM P md ops C Q fuel (listed.setIfInBounds i true) (upd F i v) (a.put o.dst v)) : wpAnyM P md ops C Q (fuel + 1) listed F a := by
  refine ⟨by rw [hr]; simp, fun j hj => ?_⟩
  rw [hr] at hj
  obtain rfl : j = i := by simpa using hj
  exact Moves.mOp (V := V) ho (.inl ⟨hw, fun g w h0 h1 h2 => hc g w h0 h1 h2 _ fun v w' a b => ⟨a, b⟩⟩) hK
/-- an append that alone may be done now -/
theorem mv_append {α : Type} {E : Enc α} {Q : Told → Act → Prop} {fuel : Nat} {listed : Array Bool} {F : Told} {a : Act} (i : Nat) {o : Oper}
    (ho : ops[i]? = some o) (hr : Region.ready md ops listed = [i]) (hg : o.guard = none) (s x : Operand) (t : TypeId)
    (hop : o.op = .call { callee := .builtin .append, args := #[s, x], argTypes := #[t, t] }) {e : TypeId} {bytes : Nat} (T : ElemT P t e E.k bytes) (B : Nat)
    (v lv : Value) (L l : List α) (hs : a.eval s = v) (hx : a.eval x = lv) (b1 : L.length + l.length ≤ 140000000) (b2 : bytes ≤ 1000)
    (hrow : ∀ g w, agree md o F g → g i = none → C g w → Row E w B e v L ∧ Rd E w lv l ∧ B ≤ w.heap.size)
    (V : Value → Prop) (hV : ∀ g w v' w', agree md o F g → g i = none → C g w → Grew E w w' B e v v' (L ++ l) → V v' ∧ C (upd g i v') w')
    (hK : ∀ v', V v' → wpAnyM P md ops C Q fuel (listed.setIfInBounds i true) (upd F i v') (a.put o.dst v')) : wpAnyM P md ops C Q (fuel + 1) listed F a := by
  refine mv_alone i ho hr (by simp [Region.wanted, hg]) V (fun g w h0 h1 h2 D hD => ?_) hK
  obtain ⟨r1, r2, r3⟩ := hrow g w h0 h1 h2
  obtain ⟨v', w', hrun, r⟩ := run_append_row (P := P) (t := t) (ty := o.type) T w B v lv L l r1 r2 r3 b1 b2
  simp [execOp, hop, resolve, invoke, builtin, hs, hx, hrun, Result.andThen, movesUpon]
  exact hD _ _ (hV g w v' w' h0 h1 h2 r).1 (hV g w v' w' h0 h1 h2 r).2
end
/-- what is read, or reckoned, wherever it was not yet -/
theorem mv_readN {P : Program} {ops : Array Oper} {md : Region.Mode} {C : Told → World → Prop} {Q : Told → Act → Prop} {fuel : Nat} {listed : Array Bool} {f : Told} {a : Act} (i : Nat) {o : Oper} {S : Type} {F : S → World} (hF : ∀ f w, f i = none → C f w → ∃ s, w = F s) (hm : ∀ f w v, f i = none → C f w → C (upd f i v) w)
    (ho : ops[i]? = some o) (hs : Region.noSelect ops = true) (hfree : Region.free md ops listed i = true) (hr : (Region.ready md ops listed).contains i = true)
    (h : ∀ K : Value → Act → Prop, (∀ v a, wpAnyM P md ops C Q fuel (listed.setIfInBounds i true) (upd f i v) a → K v a) → if Region.wanted o (yielded ops a.tmps) then ∃ v, (∀ s, Oper.quietUpon P (fun w' => w' = F s) (F s) v ((execOp a.eval o).run P (F s))) ∧ K v (a.put o.dst v) else K undef (a.put o.dst undef)) :
    wpAnyM P md ops C Q (fuel + 1) listed f a := by
  have h := h (fun v a => wpAnyM P md ops C Q fuel (listed.setIfInBounds i true) (upd f i v) a) fun _ _ h => h
  have key : ∀ u, Moves P md ops C o i (fun v => v = u) f a → wpAnyM P md ops C Q fuel (listed.setIfInBounds i true) (upd f i u) (a.put o.dst u) → wpAnyM P md ops C Q (fuel + 1) listed f a := fun u h1 h2 =>
    wpAnyM_first ho (Region.noSelect_spec hs) fuel listed f a (Region.free_spec ho hfree) (by simpa using hr) h1 h2
  split at h
  · rename_i hw
    obtain ⟨v, h1, h2⟩ := h
    refine key v (.inl ⟨hw, fun g w _ hn hC => ?_⟩) h2
    obtain ⟨s, rfl⟩ := hF g w hn hC
    have h3 := h1 s
    generalize (execOp a.eval o).run P (F s) = r at *
    cases r with
    | ok n w' =>
      cases n <;> simp only [Oper.quietUpon] at h3 <;> simp only [movesUpon]
      case value u => obtain ⟨rfl, rfl⟩ := h3; exact ⟨rfl, hm _ _ _ hn hC⟩
      case skip => obtain ⟨rfl, rfl⟩ := h3; exact ⟨rfl, hm _ _ _ hn hC⟩
      case enter g args =>
        obtain ⟨rfl, h4⟩ := h3
        exact h4.mono fun e w'' ⟨he, hw''⟩ => by subst hw''; exact ⟨v, he, rfl, hm _ _ _ hn hC⟩
    | halt x w' => simp only [Oper.quietUpon] at h3
  · rename_i hw
    exact key undef (.inr ⟨by simpa using hw, rfl, fun g w _ hn hC => hm _ _ _ hn hC⟩) h
theorem moved_classN (C : Told → World → Prop) (i : Nat) : ∃ (S : Type) (F : S → World), (∀ f w, f i = none → C f w → ∃ s, w = F s) ∧ ∀ s, ∃ f, f i = none ∧ C f (F s) :=
  ⟨{ x : Told × World // x.1 i = none ∧ C x.1 x.2 }, fun s => s.1.2, fun f w h1 h => ⟨⟨(f, w), h1, h⟩, rfl⟩, fun s => ⟨s.1.1, s.2⟩⟩
theorem grown_trans {w w1 w2 : World} {r : Option Nat} (h : w.grownBy w1 r) (k : Below w1.heap.size w1 w2) : w.grownBy w2 r :=
  ⟨k.os.trans h.os, k.tape.trans h.tape, k.output.trans h.output, Nat.le_trans h.size k.size, fun j hj hr => (k.block j (Nat.lt_of_lt_of_le hj h.size)).trans (h.block j hj hr)⟩
theorem below_grown {w w1 w2 : World} {r : Option Nat} (h : Below w.heap.size w w1) (k : w1.grownBy w2 r) : w.grownBy w2 r :=
  ⟨k.os.trans h.os, k.tape.trans h.tape, k.output.trans h.output, Nat.le_trans h.size k.size, fun j hj hr => (k.block j (Nat.lt_of_lt_of_le hj h.size) hr).trans (h.block j hj)⟩
theorem grown_of {w w1 : World} (h : Below w.heap.size w w1) (r : Option Nat) : w.grownBy w1 r := below_grown h (World.grownBy.refl w1 r)
/-- a class of worlds behind one, where an own row grows: s is what is appended, u the row that it becomes -/
def Appends {α : Type} (E : Enc α) (B : Nat) (w0 : World) (T : TypeId) (v : Value) (L l : List α) (s u : Option Value) (w : World) : Prop :=
  match u with
  | none => Below w0.heap.size w0 w ∧ Row E w B T v L ∧ ∀ x, s = some x → Rd E w x l
  | some u => w0.grownBy w v.ownBlock ∧ (u.ownBlock = v.ownBlock ∨ ∀ b, u.ownBlock = some b → w0.heap.size ≤ b) ∧ Row E w B T u (L ++ l)
section
variable {α : Type} {E : Enc α} {B : Nat} {w0 w w' : World} {T : TypeId} {v : Value} {L l : List α} {s u : Option Value}
theorem Appends.start (h : Row E w0 B T v L) (hb : Below w0.heap.size w0 w) : Appends E B w0 T v L l none none w := ⟨hb, h.below hb, fun x hx => by cases hx⟩
theorem Appends.on (h : Appends E B w0 T v L l s u w) (hb : Below w.heap.size w w') : Appends E B w0 T v L l s u w' := by
  cases u with
  | none => exact ⟨h.1.trans (hb.mono h.1.size), h.2.1.below hb, fun x hx => (h.2.2 x hx).below hb⟩
  | some u => exact ⟨grown_trans h.1 hb, h.2.1, h.2.2.below hb⟩
theorem Appends.size (h : Appends E B w0 T v L l s u w) : w0.heap.size ≤ w.heap.size := by
  cases u with
  | none => exact h.1.size
  | some u => exact h.1.size
theorem Appends.grown (h : Appends E B w0 T v L l s u w) : w0.grownBy w v.ownBlock := by
  cases u with
  | none => exact grown_of h.1 _
  | some u => exact h.1
theorem Appends.cell {a : Addr} {x : Value} (h : Appends E B w0 T v L l s u w) (hc : w0.cell? a = some x) (hne : v.ownBlock ≠ some a.block) : w.cell? a = some x :=
  h.grown.cell hc fun e => hne e.symm
theorem Appends.block {b : Nat} {o : Obj} (h : Appends E B w0 T v L l s u w) (hc : w0.heap[b]? = some o) (hne : v.ownBlock ≠ some b) : w.heap[b]? = some o :=
  (h.grown.block b (lt_of_block hc) fun e => hne e.symm).trans hc
/-- what is appended, in a new block -/
theorem Appends.made (h : Appends E B w0 T v L l s u w) (cs : Array Value) (e : cs.toList = E.cs l) (fr : Nat × Nat := (0, 0)) : Appends E B w0 T v L l (some (.slice (some ⟨w.heap.size, 0, none⟩) l.length l.length)) u (w.alloc (.cells cs T fr)) := by
  have hb := alloc_below w (.cells cs T fr)
  cases u with
  | none => exact ⟨h.1.trans (hb.mono h.1.size), h.2.1.below hb, fun x hx => by cases hx; exact Rd.block (alloc_new w _) e⟩
  | some u => exact ⟨grown_trans h.1 hb, h.2.1, h.2.2.below hb⟩
theorem Appends.grew {v' : Value} (h : Appends E B w0 T v L l s none w) (hG : Grew E w w' B T v v' (L ++ l)) : Appends E B w0 T v L l s (some v') w' :=
  ⟨below_grown h.1 hG.2.1, hG.2.2.1.imp id fun hh b e => Nat.le_trans h.1.size (hh b e), hG.1⟩
theorem Appends.rows {lv : Value} (h : Appends E B w0 T v L l (some lv) none w) (hB : B ≤ w0.heap.size) : Row E w B T v L ∧ Rd E w lv l ∧ B ≤ w.heap.size := ⟨h.2.1, h.2.2 lv rfl, Nat.le_trans hB h.1.size⟩
end
/-- the same, where the row lies in a box: a: what was read of it, z: that it was stored -/
def AppStore {α : Type} (E : Enc α) (B : Nat) (w0 : World) (T : TypeId) (v : Value) (L l : List α) (bo : Nat) (a s u z : Option Value) (w : World) : Prop :=
  match z with
  | none => Appends E B w0 T v L l s u w ∧ (u ≠ none → a ≠ none ∧ s ≠ none)
  | some _ => (a ≠ none ∧ s ≠ none) ∧ ∃ u' w1, u = some u' ∧ Appends E B w0 T v L l s (some u') w1 ∧ w = w1.setCell ⟨bo, 0, none⟩ u'
section
variable {α : Type} {E : Enc α} {B bo : Nat} {w0 w w' : World} {T : TypeId} {v : Value} {L l : List α} {a s u z : Option Value}
theorem AppStore.start (h : Row E w0 B T v L) (hb : Below w0.heap.size w0 w) : AppStore E B w0 T v L l bo none none none none w := ⟨Appends.start h hb, fun h => absurd rfl h⟩
theorem AppStore.read (x : Value) (h : AppStore E B w0 T v L l bo a s u z w) : AppStore E B w0 T v L l bo (some x) s u z w := by
  cases z with
  | none => exact ⟨h.1, fun hu => ⟨(fun e => by cases e), (h.2 hu).2⟩⟩
  | some z => exact ⟨⟨(fun e => by cases e), h.1.2⟩, h.2⟩
/-- what was there stands, but for the row and its box -/
theorem AppStore.cell {ad : Addr} {x : Value} (h : AppStore E B w0 T v L l bo a s u z w) (hc : w0.cell? ad = some x) (hne : v.ownBlock ≠ some ad.block) (hbo : ad.block ≠ bo) : w.cell? ad = some x := by
  cases z with
  | none => exact h.1.cell hc hne
  | some z =>
    obtain ⟨_, u', w1, _, h1, rfl⟩ := h
    have hfar : (w1.setCell ⟨bo, 0, none⟩ u').cell? ad = w1.cell? ad := World.cell?_of_block (Below.heap_setCell _ _ _ _ hbo)
    rw [hfar]
    exact h1.cell hc hne
/-- the box, ahead of its reading -/
theorem AppStore.box {x : Value} (h : AppStore E B w0 T v L l bo none s u z w) (hc : w0.cell? ⟨bo, 0, none⟩ = some x) (hne : v.ownBlock ≠ some bo) : w.cell? ⟨bo, 0, none⟩ = some x := by
  cases z with
  | none => exact h.1.cell hc hne
  | some z => exact absurd rfl h.1.1
theorem AppStore.unread (h : AppStore E B w0 T v L l bo a s u none w) : Appends E B w0 T v L l s u w := h.1
theorem AppStore.early (h : AppStore E B w0 T v L l bo a none u z w) : u = none ∧ z = none := by
  cases z with
  | none =>
    cases u with
    | none => exact ⟨rfl, rfl⟩
    | some u => exact absurd rfl (h.2 (fun e => by cases e)).2
  | some z => exact absurd rfl h.1.2
theorem AppStore.mid (h : AppStore E B w0 T v L l bo a s none z w) : z = none := by
  cases z with
  | none => rfl
  | some z => obtain ⟨_, u', w1, e, _⟩ := h; cases e
theorem AppStore.made (h : AppStore E B w0 T v L l bo a none u z w) (cs : Array Value) (e : cs.toList = E.cs l) (fr : Nat × Nat := (0, 0)) : AppStore E B w0 T v L l bo a (some (.slice (some ⟨w.heap.size, 0, none⟩) l.length l.length)) u z (w.alloc (.cells cs T fr)) := by
  obtain ⟨rfl, rfl⟩ := h.early
  exact ⟨h.1.made cs e fr, fun h => absurd rfl h⟩
theorem AppStore.rows {lv : Value} (h : AppStore E B w0 T v L l bo a (some lv) none z w) (hB : B ≤ w0.heap.size) : Row E w B T v L ∧ Rd E w lv l ∧ B ≤ w.heap.size := by
  obtain rfl := h.mid
  exact h.1.rows hB
theorem AppStore.grew {v' : Value} {x y : Value} (h : AppStore E B w0 T v L l bo (some x) (some y) none z w) (hG : Grew E w w' B T v v' (L ++ l)) : AppStore E B w0 T v L l bo (some x) (some y) (some v') z w' := by
  obtain rfl := h.mid
  exact ⟨h.1.grew hG, fun _ => ⟨(fun e => by cases e), (fun e => by cases e)⟩⟩
theorem AppStore.stored {v' y : Value} (h : AppStore E B w0 T v L l bo a s (some v') none w) : AppStore E B w0 T v L l bo a s (some v') (some y) (w.setCell ⟨bo, 0, none⟩ v') :=
  ⟨h.2 (fun e => by cases e), v', w, rfl, h.1, rfl⟩
theorem AppStore.done {u' y : Value} (h : AppStore E B w0 T v L l bo a s (some u') (some y) w) : ∃ w1, w0.grownBy w1 v.ownBlock ∧ Row E w1 B T u' (L ++ l) ∧ w = w1.setCell ⟨bo, 0, none⟩ u' := by
  obtain ⟨_, u2, w1, e, h1, rfl⟩ := h
  cases e
  exact ⟨w1, h1.1, h1.2.2, rfl⟩
theorem Appends.frozen {ad : Addr} {x : Value} (h : Appends E B w0 T v L l s u w) (hc : w0.cell? ad = some x) (hf : w0.frozen? ad = false) (hne : v.ownBlock ≠ some ad.block) : w.frozen? ad = false := by
  rw [World.frozen?_of_block (h.grown.block ad.block (World.block_lt_of_cell? _ _ hc) fun e => hne e.symm)]
  exact hf
end
end Ks
