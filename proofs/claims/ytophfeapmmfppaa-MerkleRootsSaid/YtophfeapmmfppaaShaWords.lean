/- A block's numbers: the program's words. -/
import Derived.Test.YtophfeapmmfppaaShaText
import Derived.StillTailTactics
namespace Ks
open Go Go.RowKit
theorem wpad_length (B : List UInt8) (k : Nat) (hk : k ≤ 64) : (wordsN B k ++ List.replicate (64 - k) 0).length = 64 := by
  rw [List.length_append, wordsN_length, List.length_replicate]; omega
theorem wpad_set (B : List UInt8) (k x : Nat) (hk : k < 64) (hx : (if k < 16 then num4 B k else wNext (wordsN B k)) = x) :
    (wordsN B k ++ List.replicate (64 - k) 0).set k x = wordsN B (k + 1) ++ List.replicate (64 - (k + 1)) 0 := by
  have h1 := List.set_append_right (s := wordsN B k) (t := 0 :: List.replicate (64 - (k + 1)) 0) k x (by rw [wordsN_length]; omega)
  rw [show 64 - k = 64 - (k + 1) + 1 by omega, List.replicate_succ, h1, wordsN_length, Nat.sub_self, wordsN, hx]
  simp
theorem wpad_get (B : List UInt8) (k j : Nat) (hj : j < k) : (wordsN B k ++ List.replicate (64 - k) 0).getD j 0 = (wordsN B k).getD j 0 := by
  rw [List.getD_eq_getElem?_getD, List.getD_eq_getElem?_getD, List.getElem?_append_left (by rw [wordsN_length]; omega)]
theorem wpad_lt (B : List UInt8) (k : Nat) : ∀ x ∈ wordsN B k ++ List.replicate (64 - k) 0, x < 4294967296 := by
  intro x hx
  rcases List.mem_append.1 hx with hx | hx
  · exact wordsN_lt B k x hx
  · rw [List.eq_of_mem_replicate hx]; decide
theorem num4_extract (s : ByteArray) (k : Nat) (h : s.size = 64) : getN ((s.extract (4 * k) 64).data.toList.take 4) = num4 s.data.toList k := by
  have hl : s.data.toList.length = 64 := by rw [data_length, h]
  rw [num4]
  congr 2
  rw [ByteArray.data_extract, Array.toList_extract, List.extract_eq_take_drop]
  rw [List.take_of_length_le]
  rw [List.length_drop]; omega
theorem wrap_u32_mod (n : Int) : IntKind.u32.wrap n = n % 4294967296 := by simp [IntKind.wrap, IntKind.bits, IntKind.signed]
/-- an array of numbers in a block -/
structure Nums (w : World) (b : Nat) (t : TypeId) (L : List Nat) : Prop where
  blk : w.heap[b]? = some (.cells (u32s L) t (0, 0))
theorem Nums.cell {w : World} {b : Nat} {t : TypeId} {L : List Nat} (h : Nums w b t L) (j : Nat) (hj : j < L.length) : w.cell? ⟨b, j, none⟩ = some (.int .u32 ((L.getD j 0 : Nat) : Int)) := by
  rw [cell_of_row w b j _ _ _ h.blk, u32s_get L j hj]
theorem Nums.frozen {w : World} {b : Nat} {t : TypeId} {L : List Nat} (h : Nums w b t L) (j : Nat) : w.frozen? ⟨b, j, none⟩ = false := frozen_of_row w b j _ _ h.blk
theorem Nums.lt {w : World} {b : Nat} {t : TypeId} {L : List Nat} (h : Nums w b t L) : b < w.heap.size := lt_of_block h.blk
theorem Nums.keep {w w' : World} {b : Nat} {t : TypeId} {L : List Nat} (h : Nums w b t L) (hb : Below w.heap.size w w') : Nums w' b t L := ⟨(hb.block b h.lt).trans h.blk⟩
theorem Nums.set {w : World} {b : Nat} {t : TypeId} {L : List Nat} (h : Nums w b t L) (j x : Nat) : Nums (w.setCell ⟨b, j, none⟩ (.int .u32 (x : Int))) b t (L.set j x) :=
  ⟨by rw [setCell_eq_setRow w b j _ _ _ _ h.blk, setRow_heap w b _ _ _ _ h.blk, u32s_set]⟩
theorem Nums.other {w : World} {b c : Nat} {t : TypeId} {L : List Nat} (h : Nums w b t L) (j : Nat) (v : Value) (hc : b ≠ c) : Nums (w.setCell ⟨c, j, none⟩ v) b t L := ⟨(set_ne v hc).trans h.blk⟩
end Ks
namespace Go.Proofs.Ytophfeapmmfppaa
open Go.RowKit Ks
set_option linter.unusedVariables false

set_option maxRecDepth 20000 in
set_option maxHeartbeats 4000000 in
theorem words_any (s : ByteArray) (w : World) (h : s.size = 64) : Calls Try.prog 50 #[.string s] w fun e w' => e = .returned (.agg (u32s (wordsN s.data.toList 64))) ∧ Below w.heap.size w w' := by
  refine calls_by fun R HR => ?_
  go_enter Try.func50, Try.ntmps50
  go_wp2_with fail
  obtain ⟨W, hW⟩ : ∃ W, (w.alloc (.cells (u32s (List.replicate 64 0)) 82)).alloc (.cells (u32s (List.replicate 64 0)) 82) = W := ⟨_, rfl⟩
  have k2 : Nums W w.heap.size 82 (List.replicate 64 0) := ⟨by rw [← hW]; exact blk_keep (alloc_new _ _) _⟩
  have k3 : Nums W (w.heap.size + 1) 82 (List.replicate 64 0) := ⟨by rw [← hW, ← World.size_alloc (w := w) (o := .cells (u32s (List.replicate 64 0)) 82)]; exact alloc_new _ _⟩
  have kb : Below w.heap.size w W := by rw [← hW]; exact (alloc_below w _).alloc (by simp) _
  change Code.wp _ _ _ _ ((w.alloc (.cells (u32s (List.replicate 64 0)) 82)).alloc (.cells (u32s (List.replicate 64 0)) 82))
  rw [hW]
  have hk2 := Lib.hid k2
  have hk3 := Lib.hid k3
  have hkb := Lib.hid kb
  clear hW k2 k3 kb
  go_loopw [5] (fun i wx => ∃ k L, k ≤ 64 ∧ i = .int .i64 (k : Nat) ∧ Hid (L = wordsN s.data.toList k ++ List.replicate (64 - k) 0) ∧ Hid (Nums wx (w.heap.size + 1) 82 L ∧ Nums wx w.heap.size 82 (List.replicate 64 0) ∧ Below w.heap.size w wx)) (fun i _ => 64 - (intOf i).toNat)
  case atStart => exact ⟨0, _, by omega, rfl, Lib.hid rfl, Lib.hid ⟨hk3.out, hk2.out, hkb.out⟩⟩
  case round =>
    obtain ⟨k, L, hk, rfl, hL, hN⟩ := hrel
    have hlen : L.length = 64 := by rw [hL.out]; exact wpad_length _ k hk
    by_cases hlt : k < 64
    · by_cases h16 : k < 16
      · have hx := Lib.hid (wpad_set s.data.toList k (num4 s.data.toList k) hlt (if_pos h16))
        go_wp2_with fail
        refine (number_any (s.extract (4 * k) 64) _ (by rw [ByteArray.size_extract]; omega)).mono ?_
        rintro e w1 ⟨rfl, hb⟩
        rw [num4_extract s k h]
        obtain ⟨n3, n2, nb⟩ := hN.out
        have n3' := n3.keep hb
        have n2' := n2.keep hb
        have c1 := n3'.cell k (by omega)
        have f1 := n3'.frozen k
        have hM := Lib.hid (And.intro n3' (And.intro n2' (nb.trans (hb.mono nb.size))))
        clear n3 n2 nb n3' n2' hb hN
        go_wp2
        go_round
        case rel =>
          refine ⟨k + 1, _, by omega, by go_num, Lib.hid rfl, Lib.hid ⟨?_, hM.out.2.1.other _ _ (by omega), hM.out.2.2.setCell (by simp) _⟩⟩
          rw [← hx.out, ← hL.out]
          exact hM.out.1.set _ _
        case measure => simp [intOf]; omega
      · have hx := Lib.hid (wpad_set s.data.toList k (wNext (wordsN s.data.toList k)) hlt (if_neg h16))
        go_wp2_with fail
        obtain ⟨n3, n2, nb⟩ := hN.out
        obtain ⟨y16, h16'⟩ : ∃ y, L.getD (k - 16) 0 = y := ⟨_, rfl⟩
        obtain ⟨y15, h15'⟩ : ∃ y, L.getD (k - 15) 0 = y := ⟨_, rfl⟩
        obtain ⟨y7, h7'⟩ : ∃ y, L.getD (k - 7) 0 = y := ⟨_, rfl⟩
        obtain ⟨y2, h2'⟩ : ∃ y, L.getD (k - 2) 0 = y := ⟨_, rfl⟩
        have c16 := n3.cell (k - 16) (by omega)
        have c15 := n3.cell (k - 15) (by omega)
        have c7 := n3.cell (k - 7) (by omega)
        have c2 := n3.cell (k - 2) (by omega)
        rw [h16'] at c16
        rw [h15'] at c15
        rw [h7'] at c7
        rw [h2'] at c2
        have hl : ∀ j, L.getD j 0 < 4294967296 := fun j => by rw [hL.out]; exact getD_lt (wpad_lt s.data.toList k) j
        have l15 : y15 < 4294967296 := by rw [← h15']; exact hl _
        have l2 : y2 < 4294967296 := by rw [← h2']; exact hl _
        have hV : Hid ((y16 + sigS y15 7 18 3 + y7 + sigS y2 17 19 10) % 4294967296 = wNext (wordsN s.data.toList k)) := Lib.hid (by
          rw [wNext, wordsN_length, ← wpad_get _ k (k - 16) (by omega), ← wpad_get _ k (k - 15) (by omega), ← wpad_get _ k (k - 7) (by omega), ← wpad_get _ k (k - 2) (by omega), ← hL.out, h16', h15', h7', h2'])
        have n3f := n3.frozen k
        have n3c := n3.cell k (by omega)
        clear h16' h15' h7' h2' hl n2 nb n3
        obtain ⟨j16, r16⟩ : ∃ j, k - 16 = j := ⟨_, rfl⟩
        obtain ⟨j15, r15⟩ : ∃ j, k - 15 = j := ⟨_, rfl⟩
        obtain ⟨j7, r7⟩ : ∃ j, k - 7 = j := ⟨_, rfl⟩
        obtain ⟨j2, r2⟩ : ∃ j, k - 2 = j := ⟨_, rfl⟩
        rw [r16] at c16
        rw [r15] at c15
        rw [r7] at c7
        rw [r2] at c2
        have w16 : IntKind.i64.wrap ((k : Int) - 16) = (j16 : Int) := by rw [IntKind.wrap_i64]; omega
        have w15 : IntKind.i64.wrap ((k : Int) - 15) = (j15 : Int) := by rw [IntKind.wrap_i64]; omega
        have w7 : IntKind.i64.wrap ((k : Int) - 7) = (j7 : Int) := by rw [IntKind.wrap_i64]; omega
        have w2 : IntKind.i64.wrap ((k : Int) - 2) = (j2 : Int) := by rw [IntKind.wrap_i64]; omega
        have b16 : (j16 : Int) < 64 := by omega
        have b15 : (j15 : Int) < 64 := by omega
        have b7 : (j7 : Int) < 64 := by omega
        have b2 : (j2 : Int) < 64 := by omega
        clear r16 r15 r7 r2
        have t15 : ∀ w : World, Calls Try.prog 52 #[.int .u32 y15, .int .i64 7, .int .i64 18, .int .i64 3, .bool true] w fun e w' => e = .returned (.int .u32 (sigS y15 7 18 3 : Nat)) ∧ w' = w :=
          fun w => three_shift y15 7 18 3 w l15 (by decide) (by decide) (by decide)
        have t2 : ∀ w : World, Calls Try.prog 52 #[.int .u32 y2, .int .i64 17, .int .i64 19, .int .i64 10, .bool true] w fun e w' => e = .returned (.int .u32 (sigS y2 17 19 10 : Nat)) ∧ w' = w :=
          fun w => three_shift y2 17 19 10 w l2 (by decide) (by decide) (by decide)
        obtain ⟨A, hA⟩ : ∃ A, sigS y15 7 18 3 = A := ⟨_, rfl⟩
        obtain ⟨E, hE⟩ : ∃ E, sigS y2 17 19 10 = E := ⟨_, rfl⟩
        rw [hA] at t15 hV
        rw [hE] at t2 hV
        have T15 := Lib.hid t15
        have T2 := Lib.hid t2
        clear hA hE t15 t2 l15 l2
        refine wp_region_still_tail 22 (by kernel_rfl) (by kernel_rfl) ?_
        simp only [List.take_succ_cons, List.take_zero, List.drop_succ_cons, List.drop_zero]
        repeat still_step
        still_call (T15.out _)
        repeat still_step
        still_call (T2.out _)
        repeat still_step
        refine wpStill_nil ?_
        change wpList _ _ _ _ _ wr.drew
        obtain ⟨V, hVV⟩ : ∃ V, wNext (wordsN s.data.toList k) = V := ⟨_, rfl⟩
        have hw : IntKind.u32.wrap (IntKind.u32.wrap (IntKind.u32.wrap ((y16 : Int) + A) + y7) + E) = (V : Int) := by
          have := hV.out
          simp only [wrap_u32_mod]
          omega
        rw [hw]
        have hbd := drew_below wr
        have hM := Lib.hid (And.intro (hN.out.1.keep hbd) (And.intro (hN.out.2.1.keep hbd) (hN.out.2.2.trans (hbd.mono hN.out.2.2.size))))
        rw [hVV] at hx
        clear hVV hw hV hbd hN c16 c15 c7 c2 w16 w15 w7 w2 b16 b15 b7 b2 n3c n3f
        generalize wr.drew = w1 at *
        have c1 := hM.out.1.cell k (by omega)
        have f1 := hM.out.1.frozen k
        go_wp2
        go_round
        case rel =>
          refine ⟨k + 1, _, by omega, by go_num, Lib.hid rfl, Lib.hid ⟨?_, hM.out.2.1.other _ _ (by omega), hM.out.2.2.setCell (by simp) _⟩⟩
          rw [← hx.out, ← hL.out]
          exact hM.out.1.set _ _
        case measure => simp [intOf]; omega
    · obtain rfl : k = 64 := by omega
      obtain ⟨n3, n2, nb⟩ := hN.out
      have e1 := Lib.hid n3.blk
      have e2 := Lib.hid n2.blk
      have e3 := Lib.hid nb
      have e4 := Lib.hid (show (u32s L).size = 64 by rw [u32s_size, hlen])
      have e5 := Lib.hid (show L = wordsN s.data.toList 64 by rw [hL.out]; simp)
      clear n3 n2 nb hN hL hlen
      go_wp2_with (first
        | refine wpList_loadA rfl 82 _ rfl _ 82 _ _ 64 64 rfl e1.out Try.underlying82 (by kernel_rfl) e4.out ?_
        | refine wpList_storeA rfl 82 _ _ rfl _ 82 _ _ 64 rfl rfl e2.out (by kernel_rfl) e4.out (by simp) (u32s_one _) ?_)
      exact ret_arr (N := 64) (C := u32s L) Try.results50 rfl (setRow_heap _ _ _ _ _ _ e2.out) Try.underlying82 (by kernel_rfl) e4.out rfl (HR.out _ _ ⟨by rw [e5.out], below_setRow e3.out (Nat.le_refl _) _⟩)
end Go.Proofs.Ytophfeapmmfppaa
