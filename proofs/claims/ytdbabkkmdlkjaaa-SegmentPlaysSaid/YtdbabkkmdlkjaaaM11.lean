/- Texts that the claim rests on, part 11: SegRPut, PrfTold, ProofRProve, OpenW, FrameSegW. -/
import Derived.SizedLaws
import Derived.Test.YtdbabkkmdlkjaaaM10
/- The reference's segment: put. -/
set_option maxRecDepth 100000
namespace Ks
open Go Go.RowKit
set_option linter.unusedVariables false
theorem putFold_len (lba : Int) (h : ByteArray) (l : List LeafT) : (putFold lba h l).1.length ≤ 2 * l.length := by
  induction l using snoc_ind with
  | h0 => exact Nat.le_refl _
  | hs l x ih =>
    have e : putFold lba h (l ++ [x]) = putStep lba h (putFold lba h l) x := by rw [putFold, List.foldl_append]; rfl
    rw [e, List.length_append, List.length_singleton]
    generalize putFold lba h l = S at *
    obtain ⟨out, put⟩ := S
    simp only at ih
    unfold putStep
    simp only
    split <;> split <;> simp <;> omega
/-- the reference's segment in memory -/
structure RSegAt (w : World) (T L : TypeId) (n : Nat) (e : Int) (v : Value) (l : List LeafT) : Prop where
  blk : w.heap[n]? = some (.cells #[.int .i64 e, v] T (0, 0))
  row : Row leafE w (n + 1) L v l
section
variable {w w' : World} {T L : TypeId} {n k : Nat} {e : Int} {v : Value} {l : List LeafT}
theorem RSegAt.lt (h : RSegAt w T L n e v l) : n < w.heap.size := lt_of_block h.blk
theorem RSegAt.below (h : RSegAt w T L n e v l) (hb : Below w.heap.size w w') : RSegAt w' T L n e v l := ⟨(hb.block n h.lt).trans h.blk, h.row.below hb⟩
theorem RSegAt.solo (h : RSegAt w T L n e v l) (hs : Solo w w' k) (hk : k < n) : RSegAt w' T L n e v l :=
  ⟨(hs.block n h.lt (by omega)).trans h.blk, h.row.keep fun b e => hs.block b (h.row.lt e).2 (by have := (h.row.lt e).1; omega)⟩
end
theorem set_two1 {w : World} {n : Nat} {c0 c1 : Value} {T : TypeId} (u : Value) (h : w.heap[n]? = some (.cells #[c0, c1] T (0, 0))) : (w.setCell ⟨n, 1, none⟩ u).heap[n]? = some (.cells #[c0, u] T (0, 0)) := by
  simp [World.setCell, Array.getElem?_modify, h]
end Ks
namespace Go.Proofs.Ytdbabkkmdlkjaaa
open Go.RowKit Ks
set_option linter.unusedVariables false
set_option linter.unusedSimpArgs false
set_option maxRecDepth 100000 in
set_option maxHeartbeats 4000000 in
theorem rput17_no (n : Nat) (e : Int) (v : Value) (l : List LeafT) (lba slot : Int) (s : ByteArray) (w : World) (h : RSegAt w 32 45 n e v l) (hlen : l.length ≤ 1000000) (h1 : -9223372036854775808 ≤ e ∧ e ≤ 9223372036854775807) (h2 : -9223372036854775808 ≤ slot ∧ slot ≤ 9223372036854775807) (hs : s.size ≤ 140737488355328) (hc : lba < 0 ∨ (¬ lba < 0 ∧ 4095 < lba) ∨ (¬ lba < 0 ∧ ¬ 4095 < lba ∧ 4000 < s.size) ∨ (¬ lba < 0 ∧ ¬ 4095 < lba ∧ ¬ 4000 < s.size ∧ dataE e slot ≠ 0)) :
    Calls Try.prog 10 #[.pointer (some ⟨n, 0, none⟩), .int .i64 lba, .int .i64 slot, .string s] w fun r w' => ∃ v', r = .returned (.int .i64 (segE e (lba, slot, s))) ∧ RSegAt w' 32 45 n e v' (refPut e l (lba, slot, s)) ∧ Solo w w' n := by
  refine calls_by fun R HR => ?_
  have hk : okAct e (lba, slot, s) = false := by
    rw [okAct, decide_eq_false_iff_not]
    rintro ⟨q1, q2, q3, q4⟩
    simp only at q1 q2 q3 q4
    rcases hc with h | h | h | h
    · omega
    · omega
    · omega
    · exact h.2.2.2 q4
  have HE := Lib.hid (show segE e (lba, slot, s) = 2 by rw [segE, hk]; rfl)
  have HP := Lib.hid (show refPut e l (lba, slot, s) = l by rw [refPut, hk]; rfl)
  have HD := Lib.hid (fun w => rdata_any e slot s w h1.2 h2.2 (by omega))
  have HS := Lib.hid h
  obtain ⟨z0, z1, fz0, fz1⟩ := blk2 h.blk
  clear h hk h1 h2 hs hlen
  have hc2 : lba < 0 ∨ (¬ lba < 0 ∧ 4095 < lba) ∨ (¬ lba < 0 ∧ ¬ 4095 < lba ∧ (4000 : Int) < (s.size : Int)) ∨ (¬ lba < 0 ∧ ¬ 4095 < lba ∧ ¬ (4000 : Int) < (s.size : Int) ∧ decide (dataE e slot = 0) = false) := by
    rcases hc with h | h | h | h
    · exact Or.inl h
    · exact Or.inr (Or.inl h)
    · exact Or.inr (Or.inr (Or.inl ⟨h.1, h.2.1, by omega⟩))
    · exact Or.inr (Or.inr (Or.inr ⟨h.1, h.2.1, by omega, decide_eq_false h.2.2.2⟩))
  clear hc
  generalize decide (dataE e slot = 0) = DB at *
  generalize dataS e slot s = DS at *
  rcases hc2 with c1 | ⟨c1, c2⟩ | ⟨c1, c2, c3⟩ | ⟨c1, c2, c3, c4⟩
  all_goals
    try subst c4
    go_enter Try.func10, Try.ntmps10
    go_wp2_with fail
    refine (HD.out _).mono ?_
    rintro en v1 ⟨rfl, hb⟩
    have H1 := Lib.hid (And.intro hb (HS.out.below hb))
    clear hb z0 z1 fz0 fz1
    go_wp2
    exact HR.out _ _ ⟨v, by rw [HE.out]; try rfl, by rw [HP.out]; exact H1.out.2, Solo.of_below H1.out.1⟩
theorem Row.solo17 {w w' : World} {B k : Nat} {T : TypeId} {v : Value} {l : List LeafT} (h : Row leafE w B T v l) (hs : Solo w w' k) (hk : k < B) : Row leafE w' B T v l :=
  h.keep fun b e => hs.block b (h.lt e).2 (by have := (h.lt e).1; omega)
set_option maxRecDepth 100000 in
set_option maxHeartbeats 4000000 in
theorem rput17_ok (n : Nat) (e : Int) (v : Value) (l : List LeafT) (lba slot : Int) (s : ByteArray) (w : World) (h : RSegAt w 32 45 n e v l) (hlen : l.length ≤ 1000000) (h1 : -9223372036854775808 ≤ e ∧ e ≤ 9223372036854775807) (h2 : -9223372036854775808 ≤ slot ∧ slot ≤ 9223372036854775807) (hs : s.size ≤ 140737488355328) (c1 : ¬ lba < 0) (c2 : ¬ 4095 < lba) (c3 : ¬ 4000 < s.size) (c4 : dataE e slot = 0) :
    Calls Try.prog 10 #[.pointer (some ⟨n, 0, none⟩), .int .i64 lba, .int .i64 slot, .string s] w fun r w' => ∃ v', r = .returned (.int .i64 (segE e (lba, slot, s))) ∧ RSegAt w' 32 45 n e v' (refPut e l (lba, slot, s)) ∧ Solo w w' n := by
  refine calls_by fun R HR => ?_
  have hk : okAct e (lba, slot, s) = true := okAct_spec.2 ⟨by show 0 ≤ lba; omega, by show lba < 4096; omega, by show s.size ≤ 4000; omega, c4⟩
  have HE := Lib.hid (show segE e (lba, slot, s) = 0 by rw [segE, hk]; rfl)
  have HP := Lib.hid (show refPut e l (lba, slot, s) = insL lba (dataS e slot s) l by rw [refPut, if_pos hk])
  have HD := Lib.hid (fun w => rdata_any e slot s w h1.2 h2.2 (by omega))
  simp only [c4, decide_true] at HD
  have HS := Lib.hid h
  obtain ⟨z0, z1, fz0, fz1⟩ := blk2 h.blk
  obtain ⟨a, cap, rfl, -⟩ := h.row.shape
  generalize dataS e slot s = DS at *
  have hli : (l.length : Int) ≤ 1000000 := by omega
  have c3i : ¬ (4000 : Int) < (s.size : Int) := by omega
  clear h hk h1 h2 hs c4
  go_enter Try.func10, Try.ntmps10
  go_wp2_with fail
  refine (HD.out _).mono ?_
  rintro en v1 ⟨rfl, hb⟩
  have H1 := Lib.hid (And.intro hb (HS.out.below hb))
  clear hb z0 z1 fz0 fz1
  go_wp2_with fail
  go_loopw [11, 12, 13] (fun out put i wx => ∃ (k : Nat) (p : Bool) (A : List LeafT), k ≤ l.length ∧ put = .bool p ∧ i = .int .i64 k ∧ Hid (Row leafE wx v1.heap.size 45 out A ∧ Below v1.heap.size v1 wx) ∧ Hid (putFold lba DS (l.take k) = (A, p))) (fun _ _ i _ => l.length - (intOf i).toNat)
  case atStart => exact ⟨0, false, [], Nat.zero_le _, rfl, rfl, Lib.hid ⟨Row.nil _ _ _, Below.refl _ _⟩, Lib.hid rfl⟩
  case round =>
    obtain ⟨k, p, A, hk, rfl, rfl, hN, hA⟩ := hrel
    have HSr := Lib.hid (H1.out.2.below hN.out.2)
    obtain ⟨z0, z1, fz0, fz1⟩ := blk2 HSr.out.blk
    have HLn := Lib.hid (show A.length ≤ 2 * l.length by have h := putFold_len lba DS (l.take k); rw [hA.out, List.length_take] at h; simp only at h; omega)
    by_cases hlt : k < l.length
    · have hki : (k : Int) < (l.length : Int) := by omega
      obtain ⟨x, hx⟩ : ∃ x, l[k]? = some x := ⟨_, List.getElem?_eq_getElem hlt⟩
      have HX := Lib.hid (show putFold lba DS (l.take (k + 1)) = putStep lba DS (A, p) x by rw [putFold_take lba DS l k x hx, hA.out])
      obtain ⟨b, o, ha, hb0, dd⟩ := (HSr.out.row.rd).at k x hx
      cases ha
      obtain ⟨xl, xs⟩ := x
      have d0 : wr.cell? ⟨b, o + k * 2, none⟩ = some (.int .i64 xl) := dd 0 _ rfl
      have d1 : wr.cell? ⟨b, o + k * 2 + 1, none⟩ = some (.string xs) := dd 1 _ rfl
      clear dd hb0
      have hxx := hx
      clear hx
      by_cases hc : p = false ∧ lba ≤ xl
      · obtain ⟨rfl, hc⟩ := hc
        obtain ⟨W4, hW4⟩ : ∃ W, wr.alloc (.cells #[.int .i64 lba, .string DS] 45) = W := ⟨_, rfl⟩
        have bW4 : Below wr.heap.size wr W4 := by rw [← hW4]; exact alloc_below _ _
        have rW4 : Rd leafE W4 (.slice (some ⟨wr.heap.size, 0, none⟩) 1 1) [(lba, DS)] := by rw [← hW4]; exact Rd.single (E := leafE) ((lba, DS)) (alloc_new _ _) rfl
        have Aa := Lib.hid (And.intro (hN.out.2.trans (bW4.mono hN.out.2.size)) (And.intro rW4 (hN.out.1.below bW4)))
        clear bW4 rW4
        by_cases hq : xl = lba
        · have HQ := Lib.hid (show putFold lba DS (l.take (k + 1)) = (A ++ [(lba, DS)], true) by rw [HX.out]; simp [putStep, hq])
          have hq2 : (xl != lba) = false := by simpa using hq
          go_wp2_with (at_builtin; refine wpList_append_row _ rfl _ _ 30 rfl leafT v1.heap.size _ _ (A) [(lba, DS)] rfl rfl Aa.out.2.2 Aa.out.2.1 Aa.out.1.size (by have := HLn.out; simp; omega) (by decide) ?_)
          intro r5 w5 hG
          have Ga := Lib.hid (And.intro hG.1 (hG.below Aa.out.1 Aa.out.1.size (fun b e => (Aa.out.2.2.lt e).1)))
          clear hG hW4
          have HSr2 := Lib.hid (H1.out.2.below Ga.out.2)
          clear z0 z1 fz0 fz1 d0 d1
          obtain ⟨z0, z1, fz0, fz1⟩ := blk2 HSr2.out.blk
          obtain ⟨b5, o5, ha, hb0, dd⟩ := (HSr2.out.row.rd).at k (xl, xs) hxx
          cases ha
          have d0 : w5.cell? ⟨_, _ + k * 2, none⟩ = some (.int .i64 xl) := dd 0 _ rfl
          clear dd hb0
          go_wp2_with fail
          go_roundw
          case rel => exact ⟨k + 1, true, _, by omega, rfl, by go_num, Ga, HQ⟩
          case measure => first | (simp [intOf]; done) | (simp [intOf]; omega)
        · have HQ := Lib.hid (show putFold lba DS (l.take (k + 1)) = (A ++ [(lba, DS), (xl, xs)], true) by rw [HX.out]; simp [putStep, hc, hq])
          have hq2 : (xl != lba) = true := by simpa using hq
          go_wp2_with (at_builtin; refine wpList_append_row _ rfl _ _ 30 rfl leafT v1.heap.size _ _ (A) [(lba, DS)] rfl rfl Aa.out.2.2 Aa.out.2.1 Aa.out.1.size (by have := HLn.out; simp; omega) (by decide) ?_)
          intro r5 w5 hG
          have Ga := Lib.hid (And.intro hG.1 (hG.below Aa.out.1 Aa.out.1.size (fun b e => (Aa.out.2.2.lt e).1)))
          clear hG hW4
          have HSr2 := Lib.hid (H1.out.2.below Ga.out.2)
          clear z0 z1 fz0 fz1 d0 d1
          obtain ⟨z0, z1, fz0, fz1⟩ := blk2 HSr2.out.blk
          obtain ⟨b5, o5, ha, hb0, dd⟩ := (HSr2.out.row.rd).at k (xl, xs) hxx
          cases ha
          have d0 : w5.cell? ⟨_, _ + k * 2, none⟩ = some (.int .i64 xl) := dd 0 _ rfl
          have d1 : w5.cell? ⟨_, _ + k * 2 + 1, none⟩ = some (.string xs) := dd 1 _ rfl
          clear dd hb0
          obtain ⟨W6, hW6⟩ : ∃ W, w5.alloc (.cells #[.int .i64 xl, .string xs] 45) = W := ⟨_, rfl⟩
          have bW6 : Below w5.heap.size w5 W6 := by rw [← hW6]; exact alloc_below _ _
          have rW6 : Rd leafE W6 (.slice (some ⟨w5.heap.size, 0, none⟩) 1 1) [(xl, xs)] := by rw [← hW6]; exact Rd.single (E := leafE) ((xl, xs)) (alloc_new _ _) rfl
          have Ab := Lib.hid (And.intro (Ga.out.2.trans (bW6.mono Ga.out.2.size)) (And.intro rW6 (Ga.out.1.below bW6)))
          clear bW6 rW6
          go_wp2_with (at_builtin; refine wpList_append_row _ rfl _ _ 30 rfl leafT v1.heap.size _ _ (A ++ [(lba, DS)]) [(xl, xs)] rfl rfl Ab.out.2.2 Ab.out.2.1 Ab.out.1.size (by have := HLn.out; simp; omega) (by decide) ?_)
          intro r7 w7 hG
          have Gb := Lib.hid (And.intro hG.1 (hG.below Ab.out.1 Ab.out.1.size (fun b e => (Ab.out.2.2.lt e).1)))
          clear hG hW6
          clear z0 z1 fz0 fz1 d0 d1
          go_wp2_with fail
          go_roundw
          case rel => exact ⟨k + 1, true, _, by omega, rfl, by go_num, Gb, HQ⟩
          case measure => first | (simp [intOf]; done) | (simp [intOf]; omega)
      · have hst : putStep lba DS (A, p) (xl, xs) = if xl = lba then (A, p) else (A ++ [(xl, xs)], p) := by simp only [putStep, if_neg hc]
        have hcase : p = true ∨ (p = false ∧ ¬ lba ≤ xl) := by cases p; exact Or.inr ⟨rfl, fun q => hc ⟨rfl, q⟩⟩; exact Or.inl rfl
        by_cases hq : xl = lba
        · have HQ := Lib.hid (show putFold lba DS (l.take (k + 1)) = (A, p) by rw [HX.out, hst, if_pos hq])
          have hq2 : (xl != lba) = false := by simpa using hq
          clear hst hc
          rcases hcase with rfl | ⟨rfl, hc⟩
          · go_wp2_with fail
            go_roundw
            case rel => exact ⟨k + 1, _, _, by omega, rfl, by go_num, hN, HQ⟩
            case measure => first | (simp [intOf]; done) | (simp [intOf]; omega)
          · exact absurd hq (by omega)
        · have HQ := Lib.hid (show putFold lba DS (l.take (k + 1)) = (A ++ [(xl, xs)], p) by rw [HX.out, hst, if_neg hq])
          have hq2 : (xl != lba) = true := by simpa using hq
          clear hst hc
          obtain ⟨W6, hW6⟩ : ∃ W, wr.alloc (.cells #[.int .i64 xl, .string xs] 45) = W := ⟨_, rfl⟩
          have bW6 : Below wr.heap.size wr W6 := by rw [← hW6]; exact alloc_below _ _
          have rW6 : Rd leafE W6 (.slice (some ⟨wr.heap.size, 0, none⟩) 1 1) [(xl, xs)] := by rw [← hW6]; exact Rd.single (E := leafE) ((xl, xs)) (alloc_new _ _) rfl
          have Ab := Lib.hid (And.intro (hN.out.2.trans (bW6.mono hN.out.2.size)) (And.intro rW6 (hN.out.1.below bW6)))
          clear bW6 rW6
          rcases hcase with rfl | ⟨rfl, hc⟩
          all_goals
            go_wp2_with (at_builtin; refine wpList_append_row _ rfl _ _ 30 rfl leafT v1.heap.size _ _ (A) [(xl, xs)] rfl rfl Ab.out.2.2 Ab.out.2.1 Ab.out.1.size (by have := HLn.out; simp; omega) (by decide) ?_)
            intro r7 w7 hG
            have Gb := Lib.hid (And.intro hG.1 (hG.below Ab.out.1 Ab.out.1.size (fun b e => (Ab.out.2.2.lt e).1)))
            clear hG hW6
            clear z0 z1 fz0 fz1 d0 d1
            go_wp2_with fail
            go_roundw
            case rel => exact ⟨k + 1, _, _, by omega, rfl, by go_num, Gb, HQ⟩
            case measure => first | (simp [intOf]; done) | (simp [intOf]; omega)
    · obtain rfl : k = l.length := by omega
      have hki : ¬ (l.length : Int) < (l.length : Int) := by omega
      rw [List.take_length] at hA
      cases p with
      | true =>
        have HI := Lib.hid (show insL lba DS l = A by rw [insL, hA.out]; rfl)
        obtain ⟨oa, oc, rfl, -⟩ := hN.out.1.shape
        go_wp2
        exact HR.out _ _ ⟨_, by rw [HE.out]; try rfl, by rw [HP.out, HI.out]; exact ⟨set_two1 _ HSr.out.blk, (Row.solo17 hN.out.1 (Solo.set wr n 1 _) H1.out.2.lt).down H1.out.2.lt⟩, (Solo.of_below (H1.out.1.trans (hN.out.2.mono H1.out.1.size))).then (Solo.set wr n 1 _)⟩
      | false =>
        have HI := Lib.hid (show insL lba DS l = A ++ [(lba, DS)] by rw [insL, hA.out]; rfl)
        obtain ⟨W6, hW6⟩ : ∃ W, wr.alloc (.cells #[.int .i64 lba, .string DS] 45) = W := ⟨_, rfl⟩
        have bW6 : Below wr.heap.size wr W6 := by rw [← hW6]; exact alloc_below _ _
        have rW6 : Rd leafE W6 (.slice (some ⟨wr.heap.size, 0, none⟩) 1 1) [(lba, DS)] := by rw [← hW6]; exact Rd.single (E := leafE) ((lba, DS)) (alloc_new _ _) rfl
        have Ab := Lib.hid (And.intro (hN.out.2.trans (bW6.mono hN.out.2.size)) (And.intro rW6 (hN.out.1.below bW6)))
        clear bW6 rW6
        go_wp2_with (at_builtin; refine wpList_append_row _ rfl _ _ 30 rfl leafT v1.heap.size _ _ (A) [(lba, DS)] rfl rfl Ab.out.2.2 Ab.out.2.1 Ab.out.1.size (by have := HLn.out; simp; omega) (by decide) ?_)
        intro r7 w7 hG
        have Gb := Lib.hid (And.intro hG.1 (hG.below Ab.out.1 Ab.out.1.size (fun b e => (Ab.out.2.2.lt e).1)))
        clear hG hW6
        clear z0 z1 fz0 fz1
        have HSr2 := Lib.hid (H1.out.2.below Gb.out.2)
        obtain ⟨z0, z1, fz0, fz1⟩ := blk2 HSr2.out.blk
        obtain ⟨oa, oc, rfl, -⟩ := Gb.out.1.shape
        have GR := Lib.hid (show Row leafE w7 v1.heap.size 45 (.slice oa (A.length + 1) oc) (A ++ [(lba, DS)]) by have h := Gb.out.1; rw [List.length_append, List.length_singleton] at h; exact h)
        go_wp2
        exact HR.out _ _ ⟨_, by rw [HE.out]; try rfl, by rw [HP.out, HI.out]; exact ⟨set_two1 _ HSr2.out.blk, (Row.solo17 GR.out (Solo.set w7 n 1 _) H1.out.2.lt).down H1.out.2.lt⟩, (Solo.of_below (H1.out.1.trans (Gb.out.2.mono H1.out.1.size))).then (Solo.set w7 n 1 _)⟩
theorem rput17_any (n : Nat) (e : Int) (v : Value) (l : List LeafT) (lba slot : Int) (s : ByteArray) (w : World) (h : RSegAt w 32 45 n e v l) (hlen : l.length ≤ 1000000) (h1 : -9223372036854775808 ≤ e ∧ e ≤ 9223372036854775807) (h2 : -9223372036854775808 ≤ slot ∧ slot ≤ 9223372036854775807) (hs : s.size ≤ 140737488355328) :
    Calls Try.prog 10 #[.pointer (some ⟨n, 0, none⟩), .int .i64 lba, .int .i64 slot, .string s] w fun r w' => ∃ v', r = .returned (.int .i64 (segE e (lba, slot, s))) ∧ RSegAt w' 32 45 n e v' (refPut e l (lba, slot, s)) ∧ Solo w w' n := by
  by_cases c1 : lba < 0
  · exact rput17_no n e v l lba slot s w h hlen h1 h2 hs (Or.inl c1)
  by_cases c2 : 4095 < lba
  · exact rput17_no n e v l lba slot s w h hlen h1 h2 hs (Or.inr (Or.inl ⟨c1, c2⟩))
  by_cases c3 : 4000 < s.size
  · exact rput17_no n e v l lba slot s w h hlen h1 h2 hs (Or.inr (Or.inr (Or.inl ⟨c1, c2, c3⟩)))
  by_cases c4 : dataE e slot = 0
  · exact rput17_ok n e v l lba slot s w h hlen h1 h2 hs c1 c2 c3 c4
  · exact rput17_no n e v l lba slot s w h hlen h1 h2 hs (Or.inr (Or.inr (Or.inr ⟨c1, c2, c3, c4⟩)))
end Go.Proofs.Ytdbabkkmdlkjaaa
/- A class of worlds behind one, where a proof may have been made. -/
namespace Ks
open Go Go.RowKit
theorem prfV_inj {p : PrfD} {u v u2 v2 : Value} (h : prfV p u v = prfV p u2 v2) : u = u2 ∧ v = v2 := by
  simpa [prfV, prfC] using h
def PrfTold (w0 : World) (P : PrfD) (r : Option Value) (w : World) : Prop :=
  Below w0.heap.size w0 w ∧ ∀ u v, r = some (prfV P u v) → Rd strE w u P.up ∧ Rd strE w v P.left
section
variable {w0 w w' : World} {P : PrfD} {r : Option Value}
theorem PrfTold.start (hb : Below w0.heap.size w0 w) : PrfTold w0 P none w := ⟨hb, fun u v h => by cases h⟩
theorem PrfTold.on (h : PrfTold w0 P r w) (hb : Below w.heap.size w w') : PrfTold w0 P r w' := ⟨h.1.trans (hb.mono h.1.size), fun u v e => ⟨(h.2 u v e).1.below hb, (h.2 u v e).2.below hb⟩⟩
theorem PrfTold.made (h : PrfTold w0 P r w) (hb : Below w.heap.size w w') {u v : Value} (hu : Rd strE w' u P.up) (hv : Rd strE w' v P.left) : PrfTold w0 P (some (prfV P u v)) w' :=
  ⟨h.1.trans (hb.mono h.1.size), fun u2 v2 e => by
    obtain ⟨rfl, rfl⟩ := prfV_inj (Option.some.inj e)
    exact ⟨hu, hv⟩⟩
end
end Ks
/- The reference's proof of a place; equal proofs are the same. -/
namespace Ks
open Go Go.RowKit
set_option linter.unusedVariables false
theorem set8_0 {w : World} {n : Nat} {c0 c1 c2 c3 c4 c5 c6 c7 : Value} {T : TypeId} (u : Value) (h : w.heap[n]? = some (.cells #[c0, c1, c2, c3, c4, c5, c6, c7] T (0, 0))) : (w.setCell ⟨n, 0, none⟩ u).heap[n]? = some (.cells #[u, c1, c2, c3, c4, c5, c6, c7] T (0, 0)) := by
  simp [World.setCell, Array.getElem?_modify, h]
end Ks
namespace Go.Proofs.Ytdbabkkmdlkjaaa
open Go.RowKit Ks
set_option linter.unusedVariables false
theorem rpath_at {l : List LeafT} {n : Nat} (h : n < l.length) (v : Value) (w : World) (hr : Rd strE w v (hashL l)) (hl : l.length ≤ 1000000) :
    Calls Try.prog 31 #[v, .int .i64 (n : Nat)] w fun e w' => ∃ v, e = .returned v ∧ Row strE w' w.heap.size 9 v (pathL (hashL l) n) ∧ Below w.heap.size w w' :=
  rpath_any _ (hashL l) n v w rfl (by rw [hashL_length]; omega) (by rw [hashL_length]; exact h) hr (hashL_whole l)
set_option maxRecDepth 100000 in
set_option maxHeartbeats 16000000 in
theorem rprove_met (lv : Value) (l : List LeafT) (lba : Int) (w : World) (hl : Rd leafE w lv l) (hlen : l.length ≤ 1000000) (n : Nat) (hn : aheadN lba l = n) (hm : metP l lba = true) (hnn : n < l.length) (x : LeafT) (hx : l[n]? = some x) :
    Calls Try.prog 20 #[lv, .int .i64 lba] w fun e w' => ∃ u v, e = .returned (prfV (proveP l lba) u v) ∧ Rd strE w' u (proveP l lba).up ∧ Rd strE w' v (proveP l lba).left ∧ Below w.heap.size w w' := by
  refine calls_by fun R HR => ?_
  have HL := Lib.hid (And.intro hl hlen)
  have HHs := Lib.hid (fun w h => rhashes_any lv l w h hlen)
  have HP1 := Lib.hid (fun v w h => rpath_at (l := l) (n := n) hnn v w h hlen)
  obtain ⟨xl, xs⟩ := x
  have HV := Lib.hid (show proveP l lba = ⟨true, n, (xl, xs), noLeaf, pathL (hashL l) n, []⟩ by
    simp [proveP, hn, hm, hnn, here_some hx])
  have hge : ¬ xl < lba := ahead_at lba l (xl, xs) (by rw [hn]; exact hx)
  have heq : (xl == lba) = true := by
    have h := hm
    unfold metP at h
    rw [hn, hx] at h
    simpa using h
  have HLow := Lib.hid (fun k (h : k < n) x hx => ahead_lt lba l k x (by rw [hn]; exact h) hx)
  obtain ⟨a, cap, rfl, hcap, -⟩ := hl.shape
  have hnl : n ≤ l.length := by rw [← hn]; exact ahead_le lba l
  clear hl hm hn
  have hli : (l.length : Int) ≤ 1000000 := by omega
  have H1 := Lib.hid (And.intro (Below.refl w.heap.size w) (HL.out.1))
  obtain ⟨W1, hW1⟩ : ∃ W1, w.alloc (.cells #[.bool false, .int .i64 0, .int .i64 0, .string ⟨#[]⟩, .int .i64 0, .string ⟨#[]⟩, .slice none 0 0, .slice none 0 0] 48) = W1 := ⟨_, rfl⟩
  have hbW1 : Below w.heap.size w W1 := by rw [← hW1]; exact alloc_below w _
  have kW1 : W1.heap[w.heap.size]? = some (.cells #[.bool false, .int .i64 0, .int .i64 0, .string ⟨#[]⟩, .int .i64 0, .string ⟨#[]⟩, .slice none 0 0, .slice none 0 0] 48 (0, 0)) := by rw [← hW1]; exact alloc_new w _
  have H2 := Lib.hid (And.intro (H1.out.1.trans (hbW1.mono H1.out.1.size)) (And.intro (H1.out.2.below hbW1) (kW1)))
  clear hbW1 kW1
  go_enter Try.func20, Try.ntmps20
  go_wp2_with fail
  clear hW1
  go_loopw [5] (fun i wx => ∃ (k : Nat), k ≤ n ∧ i = .int .i64 k ∧ W1 = wx) (fun i _ => n - (intOf i).toNat)
  case atStart => exact ⟨0, Nat.zero_le _, rfl, rfl⟩
  case round =>
    obtain ⟨k, hk, rfl, hwr⟩ := hrel
    subst hwr
    by_cases hlt : k < n
    · have hki : (k : Int) < (l.length : Int) := by omega
      obtain ⟨x9, hx9⟩ : ∃ x, l[k]? = some x := ⟨_, List.getElem?_eq_getElem (by omega)⟩
      have hlo := HLow.out k hlt x9 hx9
      obtain ⟨b, o, ha, hb0, dd⟩ := (H2.out.2.1).at k x9 hx9
      cases ha
      obtain ⟨xk, sk⟩ := x9
      simp only at hlo
      have d0 : W1.cell? ⟨b, o + k * 2, none⟩ = some (.int .i64 xk) := dd 0 _ rfl
      clear dd hb0 hx9
      go_wp2_with fail
      go_roundw
      case rel => exact ⟨k + 1, by omega, by go_num, trivial⟩
      case measure => simp [intOf]; omega
    obtain rfl : n = k := by omega
    clear hlt hk
    obtain ⟨pb, hpb⟩ : ∃ pb, W1.heap.size = pb := ⟨_, rfl⟩
    obtain ⟨P0, hP0⟩ : ∃ P0, W1.alloc (.cells #[.bool false, .int .i64 (n : Nat), .int .i64 0, .string ⟨#[]⟩, .int .i64 0, .string ⟨#[]⟩, .slice none 0 0, .slice none 0 0] 48) = P0 := ⟨_, rfl⟩
    have K0 := Lib.hid (show P0.heap[pb]? = some (.cells #[.bool false, .int .i64 (n : Nat), .int .i64 0, .string ⟨#[]⟩, .int .i64 0, .string ⟨#[]⟩, .slice none 0 0, .slice none 0 0] 48 (0, 0)) by rw [← hP0, ← hpb]; exact alloc_new W1 _)
    have B0 := Lib.hid (show Below pb W1 P0 by rw [← hP0, ← hpb]; exact alloc_below W1 _)
    have Z0 := Lib.hid (show pb < P0.heap.size from lt_of_block K0.out)
    have E0 := Lib.hid hP0
    clear hP0
    have hni : (n : Int) < (l.length : Int) := by omega
    obtain ⟨b, o, ha, hb0, dd⟩ := (H2.out.2.1).at n _ hx
    cases ha
    have d0 : W1.cell? ⟨b, o + n * 2, none⟩ = some (.int .i64 xl) := dd 0 _ rfl
    clear dd hb0
    go_upto_region 5 with fail
    rw [E0.out]
    clear E0 d0
    obtain ⟨b9, o9, ha, hb0, dd⟩ := (H2.out.2.1.below (hpb ▸ B0.out)).at n _ hx
    cases ha
    have d0 : P0.cell? ⟨b, o + n * 2, none⟩ = some (.int .i64 xl) := dd 0 _ rfl
    have d1 : P0.cell? ⟨b, o + n * 2 + 1, none⟩ = some (.string xs) := dd 1 _ rfl
    clear dd hb0
    obtain ⟨P1, hP1⟩ : ∃ W, P0.setRow pb #[.bool false, .int .i64 (n : Nat), .int .i64 xl, .string xs, .int .i64 0, .string ⟨#[]⟩, .slice none 0 0, .slice none 0 0] = W := ⟨_, rfl⟩
    have K1 := Lib.hid (show P1.heap[pb]? = some (.cells #[.bool false, .int .i64 (n : Nat), .int .i64 xl, .string xs, .int .i64 0, .string ⟨#[]⟩, .slice none 0 0, .slice none 0 0] 48 (0, 0)) by rw [← hP1]; exact setRow_heap P0 pb _ _ _ _ K0.out)
    have B1 := Lib.hid (show Below pb W1 P1 by rw [← hP1]; exact B0.out.trans (row_under P0 pb _))
    go_wp2_with (refine wpList_store_blk rfl 45 (.tmp 32) (.tmp 31) rfl pb 2 2 rfl #[.bool false, .int .i64 (n : Nat), .int .i64 0, .string ⟨#[]⟩, .int .i64 0, .string ⟨#[]⟩, .slice none 0 0, .slice none 0 0] #[.int .i64 xl, .string xs] #[.bool false, .int .i64 (n : Nat), .int .i64 xl, .string xs, .int .i64 0, .string ⟨#[]⟩, .slice none 0 0, .slice none 0 0] rfl 48 K0.out rfl (show 2 + 2 ≤ 8 by decide) (by kernel_rfl) (leaf_one _ _) rfl ?_; rw [hP1])
    clear hP1 d0 d1
    refine (HHs.out _ (H2.out.2.1.below (hpb ▸ B1.out))).mono ?_
    rintro en h1 ⟨hv1, rfl, hrow1, hb⟩
    obtain ⟨ha1, hc1, rfl, -⟩ := hrow1.shape
    have K2 := Lib.hid (blk_on hb K1.out)
    have B2 := Lib.hid (B1.out.trans (hb.mono (Nat.le_of_lt (lt_of_block K1.out))))
    have HT1 := Lib.hid hrow1.rd
    clear hb hrow1
    go_wp2_with fail
    refine (HP1.out _ _ HT1.out).mono ?_
    rintro en q1 ⟨uv, rfl, hrow, hb⟩
    obtain ⟨ua, uc, rfl, -⟩ := hrow.shape
    have K3 := Lib.hid (blk_on hb K2.out)
    have B3 := Lib.hid (B2.out.trans (hb.mono (Nat.le_of_lt (lt_of_block K2.out))))
    have Ru3 := Lib.hid hrow
    have Zu := Lib.hid (show pb < h1.heap.size from lt_of_block K2.out)
    clear hb hrow
    have c6 : q1.cell? ⟨pb, 6, none⟩ = some (.slice none 0 0) := (blk8 K3.out).2.2.2.2.2.2.1
    have f6 : q1.frozen? ⟨pb, 6, none⟩ = false := frozen_of_row q1 pb _ _ _ K3.out
    obtain ⟨P4, hP4⟩ : ∃ W, q1.setCell ⟨pb, 6, none⟩ (.slice ua (pathL (hashL l) n).length uc) = W := ⟨_, rfl⟩
    have K4 := Lib.hid (show P4.heap[pb]? = some (.cells #[.bool false, .int .i64 (n : Nat), .int .i64 xl, .string xs, .int .i64 0, .string ⟨#[]⟩, .slice ua (pathL (hashL l) n).length uc, .slice none 0 0] 48 (0, 0)) by rw [← hP4]; exact set8_6 _ K3.out)
    have B4 := Lib.hid (show Below pb W1 P4 by rw [← hP4]; exact B3.out.trans (cell_under q1 pb _ _))
    have Ru4 := Lib.hid (show Row strE P4 h1.heap.size 9 (.slice ua (pathL (hashL l) n).length uc) (pathL (hashL l) n) from by rw [← hP4]; exact Ru3.out.past Zu.out (fun k h => set_ne _ h))
    go_upto_region 8 with fail
    try rw [hP4]
    clear hP4 c6 f6
    obtain ⟨b9, o9, ha, hb0, dd⟩ := (H2.out.2.1.below (hpb ▸ B4.out)).at n _ hx
    cases ha
    have d0 : P4.cell? ⟨b, o + n * 2, none⟩ = some (.int .i64 xl) := dd 0 _ rfl
    clear dd hb0
    have c0 : P4.cell? ⟨pb, 0, none⟩ = some (.bool false) := (blk8 K4.out).1
    have f0 : P4.frozen? ⟨pb, 0, none⟩ = false := frozen_of_row P4 pb _ _ _ K4.out
    obtain ⟨P5, hP5⟩ : ∃ W, P4.setCell ⟨pb, 0, none⟩ (.bool true) = W := ⟨_, rfl⟩
    have K5 := Lib.hid (show P5.heap[pb]? = some (.cells #[.bool true, .int .i64 (n : Nat), .int .i64 xl, .string xs, .int .i64 0, .string ⟨#[]⟩, .slice ua (pathL (hashL l) n).length uc, .slice none 0 0] 48 (0, 0)) by rw [← hP5]; exact set8_0 _ K4.out)
    have B5 := Lib.hid (show Below pb W1 P5 by rw [← hP5]; exact B4.out.trans (cell_under P4 pb _ _))
    have Ru5 := Lib.hid (show Row strE P5 h1.heap.size 9 (.slice ua (pathL (hashL l) n).length uc) (pathL (hashL l) n) from by rw [← hP5]; exact Ru4.out.past Zu.out (fun k h => set_ne _ h))
    go_upto_region 9 with fail
    try rw [hP5]
    clear hP5 c0 f0 d0
    have c0 : P5.cell? ⟨pb, 0, none⟩ = some (.bool true) := (blk8 K5.out).1
    go_upto_region 12 with fail
    clear c0
    obtain ⟨z0, z1, z2, z3, z4, z5, z6, z7⟩ := blk8 K5.out
    have KR := Lib.hid (blk_on (hpb ▸ B5.out) H2.out.2.2)
    obtain ⟨WR, hWR⟩ : ∃ W, P5.setRow w.heap.size #[.bool true, .int .i64 (n : Nat), .int .i64 xl, .string xs, .int .i64 0, .string ⟨#[]⟩, .slice ua (pathL (hashL l) n).length uc, .slice none 0 0] = W := ⟨_, rfl⟩
    have KE := Lib.hid (show WR.heap[w.heap.size]? = some (.cells #[.bool true, .int .i64 (n : Nat), .int .i64 xl, .string xs, .int .i64 0, .string ⟨#[]⟩, .slice ua (pathL (hashL l) n).length uc, .slice none 0 0] 48 (0, 0)) by rw [← hWR]; exact setRow_heap P5 _ _ _ _ _ KR.out)
    have BE := Lib.hid (show Below w.heap.size w WR by rw [← hWR]; exact (H2.out.1.trans ((hpb ▸ B5.out : Below W1.heap.size W1 P5).mono H2.out.1.size)).trans (row_under P5 _ _))
    have hlw := H2.out.1.size
    have REu := Lib.hid (show Rd strE WR (.slice ua (pathL (hashL l) n).length uc) (pathL (hashL l) n) by rw [← hWR]; exact (Ru5.out.past (b := w.heap.size) (by have := Zu.out; omega) (fun k h => setRow_other _ _ k _ h)).rd)
    clear hlw
    go_wp2_with (refine wpList_store_blk rfl 48 (.tmp 4) (.tmp 65) rfl w.heap.size 0 8 rfl #[.bool false, .int .i64 0, .int .i64 0, .string ⟨#[]⟩, .int .i64 0, .string ⟨#[]⟩, .slice none 0 0, .slice none 0 0] #[.bool true, .int .i64 (n : Nat), .int .i64 xl, .string xs, .int .i64 0, .string ⟨#[]⟩, .slice ua (pathL (hashL l) n).length uc, .slice none 0 0] #[.bool true, .int .i64 (n : Nat), .int .i64 xl, .string xs, .int .i64 0, .string ⟨#[]⟩, .slice ua (pathL (hashL l) n).length uc, .slice none 0 0] rfl 48 KR.out rfl (Nat.le_refl 8) (by kernel_rfl) (prf_one _ _ _ _ _ _ _ _ _ _ _ _) (splice_all _ _ rfl) ?_; rw [hWR])
    clear hWR z0 z1 z2 z3 z4 z5 z6 z7
    obtain ⟨z0, z1, z2, z3, z4, z5, z6, z7⟩ := blk8 KE.out
    refine bodyPost_ret (v := .agg #[.bool true, .int .i64 (n : Nat), .int .i64 xl, .string xs, .int .i64 0, .string ⟨#[]⟩, .slice ua (pathL (hashL l) n).length uc, .slice none 0 0]) (by simp [results, Try.results20, go_sem, z0, z1, z2, z3, z4, z5, z6, z7]) rfl ?_
    exact HR.out _ _ ⟨.slice ua (pathL (hashL l) n).length uc, .slice none 0 0, by rw [HV.out]; try rfl, by rw [HV.out]; exact REu.out, by rw [HV.out]; exact Rd.nil _, BE.out⟩
set_option maxRecDepth 100000 in
set_option maxHeartbeats 16000000 in
theorem rprove_mid (lv : Value) (l : List LeafT) (lba : Int) (w : World) (hl : Rd leafE w lv l) (hlen : l.length ≤ 1000000) (n : Nat) (hn : aheadN lba l = n) (hm : metP l lba = false) (hnn : n < l.length) (x : LeafT) (hx : l[n]? = some x) (h0 : 0 < n) (hnm : n - 1 < l.length) (y : LeafT) (hy : l[n - 1]? = some y) :
    Calls Try.prog 20 #[lv, .int .i64 lba] w fun e w' => ∃ u v, e = .returned (prfV (proveP l lba) u v) ∧ Rd strE w' u (proveP l lba).up ∧ Rd strE w' v (proveP l lba).left ∧ Below w.heap.size w w' := by
  refine calls_by fun R HR => ?_
  have HL := Lib.hid (And.intro hl hlen)
  have HHs := Lib.hid (fun w h => rhashes_any lv l w h hlen)
  have HP1 := Lib.hid (fun v w h => rpath_at (l := l) (n := n) hnn v w h hlen)
  have HP2 := Lib.hid (fun v w h => rpath_at (l := l) (n := n - 1) hnm v w h hlen)
  obtain ⟨xl, xs⟩ := x
  obtain ⟨yl, ys⟩ := y
  have HV := Lib.hid (show proveP l lba = ⟨false, n, (xl, xs), (yl, ys), pathL (hashL l) n, pathL (hashL l) (n - 1)⟩ by
    simp [proveP, hn, hm, hnn, here_some hx, here_some hy, h0])
  have hge : ¬ xl < lba := ahead_at lba l (xl, xs) (by rw [hn]; exact hx)
  have heq : (xl == lba) = false := by
    have h := hm
    unfold metP at h
    rw [hn, hx] at h
    simpa using h
  have HLow := Lib.hid (fun k (h : k < n) x hx => ahead_lt lba l k x (by rw [hn]; exact h) hx)
  obtain ⟨a, cap, rfl, hcap, -⟩ := hl.shape
  have hnl : n ≤ l.length := by rw [← hn]; exact ahead_le lba l
  clear hl hm hn
  have hli : (l.length : Int) ≤ 1000000 := by omega
  have H1 := Lib.hid (And.intro (Below.refl w.heap.size w) (HL.out.1))
  obtain ⟨W1, hW1⟩ : ∃ W1, w.alloc (.cells #[.bool false, .int .i64 0, .int .i64 0, .string ⟨#[]⟩, .int .i64 0, .string ⟨#[]⟩, .slice none 0 0, .slice none 0 0] 48) = W1 := ⟨_, rfl⟩
  have hbW1 : Below w.heap.size w W1 := by rw [← hW1]; exact alloc_below w _
  have kW1 : W1.heap[w.heap.size]? = some (.cells #[.bool false, .int .i64 0, .int .i64 0, .string ⟨#[]⟩, .int .i64 0, .string ⟨#[]⟩, .slice none 0 0, .slice none 0 0] 48 (0, 0)) := by rw [← hW1]; exact alloc_new w _
  have H2 := Lib.hid (And.intro (H1.out.1.trans (hbW1.mono H1.out.1.size)) (And.intro (H1.out.2.below hbW1) (kW1)))
  clear hbW1 kW1
  go_enter Try.func20, Try.ntmps20
  go_wp2_with fail
  clear hW1
  go_loopw [5] (fun i wx => ∃ (k : Nat), k ≤ n ∧ i = .int .i64 k ∧ W1 = wx) (fun i _ => n - (intOf i).toNat)
  case atStart => exact ⟨0, Nat.zero_le _, rfl, rfl⟩
  case round =>
    obtain ⟨k, hk, rfl, hwr⟩ := hrel
    subst hwr
    by_cases hlt : k < n
    · have hki : (k : Int) < (l.length : Int) := by omega
      obtain ⟨x9, hx9⟩ : ∃ x, l[k]? = some x := ⟨_, List.getElem?_eq_getElem (by omega)⟩
      have hlo := HLow.out k hlt x9 hx9
      obtain ⟨b, o, ha, hb0, dd⟩ := (H2.out.2.1).at k x9 hx9
      cases ha
      obtain ⟨xk, sk⟩ := x9
      simp only at hlo
      have d0 : W1.cell? ⟨b, o + k * 2, none⟩ = some (.int .i64 xk) := dd 0 _ rfl
      clear dd hb0 hx9
      go_wp2_with fail
      go_roundw
      case rel => exact ⟨k + 1, by omega, by go_num, trivial⟩
      case measure => simp [intOf]; omega
    obtain rfl : n = k := by omega
    clear hlt hk
    obtain ⟨pb, hpb⟩ : ∃ pb, W1.heap.size = pb := ⟨_, rfl⟩
    obtain ⟨P0, hP0⟩ : ∃ P0, W1.alloc (.cells #[.bool false, .int .i64 (n : Nat), .int .i64 0, .string ⟨#[]⟩, .int .i64 0, .string ⟨#[]⟩, .slice none 0 0, .slice none 0 0] 48) = P0 := ⟨_, rfl⟩
    have K0 := Lib.hid (show P0.heap[pb]? = some (.cells #[.bool false, .int .i64 (n : Nat), .int .i64 0, .string ⟨#[]⟩, .int .i64 0, .string ⟨#[]⟩, .slice none 0 0, .slice none 0 0] 48 (0, 0)) by rw [← hP0, ← hpb]; exact alloc_new W1 _)
    have B0 := Lib.hid (show Below pb W1 P0 by rw [← hP0, ← hpb]; exact alloc_below W1 _)
    have Z0 := Lib.hid (show pb < P0.heap.size from lt_of_block K0.out)
    have E0 := Lib.hid hP0
    clear hP0
    have hni : (n : Int) < (l.length : Int) := by omega
    obtain ⟨b, o, ha, hb0, dd⟩ := (H2.out.2.1).at n _ hx
    cases ha
    have d0 : W1.cell? ⟨b, o + n * 2, none⟩ = some (.int .i64 xl) := dd 0 _ rfl
    clear dd hb0
    go_upto_region 5 with fail
    rw [E0.out]
    clear E0 d0
    obtain ⟨b9, o9, ha, hb0, dd⟩ := (H2.out.2.1.below (hpb ▸ B0.out)).at n _ hx
    cases ha
    have d0 : P0.cell? ⟨b, o + n * 2, none⟩ = some (.int .i64 xl) := dd 0 _ rfl
    have d1 : P0.cell? ⟨b, o + n * 2 + 1, none⟩ = some (.string xs) := dd 1 _ rfl
    clear dd hb0
    obtain ⟨P1, hP1⟩ : ∃ W, P0.setRow pb #[.bool false, .int .i64 (n : Nat), .int .i64 xl, .string xs, .int .i64 0, .string ⟨#[]⟩, .slice none 0 0, .slice none 0 0] = W := ⟨_, rfl⟩
    have K1 := Lib.hid (show P1.heap[pb]? = some (.cells #[.bool false, .int .i64 (n : Nat), .int .i64 xl, .string xs, .int .i64 0, .string ⟨#[]⟩, .slice none 0 0, .slice none 0 0] 48 (0, 0)) by rw [← hP1]; exact setRow_heap P0 pb _ _ _ _ K0.out)
    have B1 := Lib.hid (show Below pb W1 P1 by rw [← hP1]; exact B0.out.trans (row_under P0 pb _))
    go_wp2_with (refine wpList_store_blk rfl 45 (.tmp 32) (.tmp 31) rfl pb 2 2 rfl #[.bool false, .int .i64 (n : Nat), .int .i64 0, .string ⟨#[]⟩, .int .i64 0, .string ⟨#[]⟩, .slice none 0 0, .slice none 0 0] #[.int .i64 xl, .string xs] #[.bool false, .int .i64 (n : Nat), .int .i64 xl, .string xs, .int .i64 0, .string ⟨#[]⟩, .slice none 0 0, .slice none 0 0] rfl 48 K0.out rfl (show 2 + 2 ≤ 8 by decide) (by kernel_rfl) (leaf_one _ _) rfl ?_; rw [hP1])
    clear hP1 d0 d1
    refine (HHs.out _ (H2.out.2.1.below (hpb ▸ B1.out))).mono ?_
    rintro en h1 ⟨hv1, rfl, hrow1, hb⟩
    obtain ⟨ha1, hc1, rfl, -⟩ := hrow1.shape
    have K2 := Lib.hid (blk_on hb K1.out)
    have B2 := Lib.hid (B1.out.trans (hb.mono (Nat.le_of_lt (lt_of_block K1.out))))
    have HT1 := Lib.hid hrow1.rd
    clear hb hrow1
    go_wp2_with fail
    refine (HP1.out _ _ HT1.out).mono ?_
    rintro en q1 ⟨uv, rfl, hrow, hb⟩
    obtain ⟨ua, uc, rfl, -⟩ := hrow.shape
    have K3 := Lib.hid (blk_on hb K2.out)
    have B3 := Lib.hid (B2.out.trans (hb.mono (Nat.le_of_lt (lt_of_block K2.out))))
    have Ru3 := Lib.hid hrow
    have Zu := Lib.hid (show pb < h1.heap.size from lt_of_block K2.out)
    clear hb hrow
    have c6 : q1.cell? ⟨pb, 6, none⟩ = some (.slice none 0 0) := (blk8 K3.out).2.2.2.2.2.2.1
    have f6 : q1.frozen? ⟨pb, 6, none⟩ = false := frozen_of_row q1 pb _ _ _ K3.out
    obtain ⟨P4, hP4⟩ : ∃ W, q1.setCell ⟨pb, 6, none⟩ (.slice ua (pathL (hashL l) n).length uc) = W := ⟨_, rfl⟩
    have K4 := Lib.hid (show P4.heap[pb]? = some (.cells #[.bool false, .int .i64 (n : Nat), .int .i64 xl, .string xs, .int .i64 0, .string ⟨#[]⟩, .slice ua (pathL (hashL l) n).length uc, .slice none 0 0] 48 (0, 0)) by rw [← hP4]; exact set8_6 _ K3.out)
    have B4 := Lib.hid (show Below pb W1 P4 by rw [← hP4]; exact B3.out.trans (cell_under q1 pb _ _))
    have Ru4 := Lib.hid (show Row strE P4 h1.heap.size 9 (.slice ua (pathL (hashL l) n).length uc) (pathL (hashL l) n) from by rw [← hP4]; exact Ru3.out.past Zu.out (fun k h => set_ne _ h))
    go_upto_region 8 with fail
    try rw [hP4]
    clear hP4 c6 f6
    obtain ⟨b9, o9, ha, hb0, dd⟩ := (H2.out.2.1.below (hpb ▸ B4.out)).at n _ hx
    cases ha
    have d0 : P4.cell? ⟨b, o + n * 2, none⟩ = some (.int .i64 xl) := dd 0 _ rfl
    clear dd hb0
    have c0 : P4.cell? ⟨pb, 0, none⟩ = some (.bool false) := (blk8 K4.out).1
    have f0 : P4.frozen? ⟨pb, 0, none⟩ = false := frozen_of_row P4 pb _ _ _ K4.out
    obtain ⟨P5, hP5⟩ : ∃ W, P4.setCell ⟨pb, 0, none⟩ (.bool false) = W := ⟨_, rfl⟩
    have K5 := Lib.hid (show P5.heap[pb]? = some (.cells #[.bool false, .int .i64 (n : Nat), .int .i64 xl, .string xs, .int .i64 0, .string ⟨#[]⟩, .slice ua (pathL (hashL l) n).length uc, .slice none 0 0] 48 (0, 0)) by rw [← hP5]; exact set8_0 _ K4.out)
    have B5 := Lib.hid (show Below pb W1 P5 by rw [← hP5]; exact B4.out.trans (cell_under P4 pb _ _))
    have Ru5 := Lib.hid (show Row strE P5 h1.heap.size 9 (.slice ua (pathL (hashL l) n).length uc) (pathL (hashL l) n) from by rw [← hP5]; exact Ru4.out.past Zu.out (fun k h => set_ne _ h))
    go_upto_region 9 with fail
    try rw [hP5]
    clear hP5 c0 f0 d0
    have c0 : P5.cell? ⟨pb, 0, none⟩ = some (.bool false) := (blk8 K5.out).1
    have hn0 : (0 : Int) < (n : Int) := by omega
    have hn1 : (n : Int) - 1 = ((n - 1 : Nat) : Int) := by omega
    have hn2 : wrap64 ((n : Int) - 1) = ((n - 1 : Nat) : Int) := by rw [hn1]; unfold wrap64; omega
    have hn3 : ((n - 1 : Nat) : Int) < (l.length : Int) := by omega
    obtain ⟨b9, o9, ha, hb0, dd⟩ := (H2.out.2.1.below (hpb ▸ B5.out)).at (n - 1) _ hy
    cases ha
    have d0 : P5.cell? ⟨b, o + (n - 1) * 2, none⟩ = some (.int .i64 yl) := dd 0 _ rfl
    have d1 : P5.cell? ⟨b, o + (n - 1) * 2 + 1, none⟩ = some (.string ys) := dd 1 _ rfl
    clear dd hb0
    obtain ⟨P6, hP6⟩ : ∃ W, P5.setRow pb #[.bool false, .int .i64 (n : Nat), .int .i64 xl, .string xs, .int .i64 yl, .string ys, .slice ua (pathL (hashL l) n).length uc, .slice none 0 0] = W := ⟨_, rfl⟩
    have K6 := Lib.hid (show P6.heap[pb]? = some (.cells #[.bool false, .int .i64 (n : Nat), .int .i64 xl, .string xs, .int .i64 yl, .string ys, .slice ua (pathL (hashL l) n).length uc, .slice none 0 0] 48 (0, 0)) by rw [← hP6]; exact setRow_heap P5 pb _ _ _ _ K5.out)
    have B6 := Lib.hid (show Below pb W1 P6 by rw [← hP6]; exact B5.out.trans (row_under P5 pb _))
    have Ru6 := Lib.hid (show Row strE P6 h1.heap.size 9 (.slice ua (pathL (hashL l) n).length uc) (pathL (hashL l) n) from by rw [← hP6]; exact Ru5.out.past Zu.out (fun k h => setRow_other _ _ k _ h))
    go_wp2_with (refine wpList_store_blk rfl 45 (.tmp 58) (.tmp 57) rfl pb 4 2 rfl #[.bool false, .int .i64 (n : Nat), .int .i64 xl, .string xs, .int .i64 0, .string ⟨#[]⟩, .slice ua (pathL (hashL l) n).length uc, .slice none 0 0] #[.int .i64 yl, .string ys] #[.bool false, .int .i64 (n : Nat), .int .i64 xl, .string xs, .int .i64 yl, .string ys, .slice ua (pathL (hashL l) n).length uc, .slice none 0 0] rfl 48 K5.out rfl (show 4 + 2 ≤ 8 by decide) (by kernel_rfl) (leaf_one _ _) rfl ?_; rw [hP6])
    clear hP6 d0 d1 c0
    refine (HHs.out _ (H2.out.2.1.below (hpb ▸ B6.out))).mono ?_
    rintro en h2 ⟨hv2, rfl, hrow2, hb⟩
    obtain ⟨ha2, hc2, rfl, -⟩ := hrow2.shape
    have K7 := Lib.hid (blk_on hb K6.out)
    have B7 := Lib.hid (B6.out.trans (hb.mono (Nat.le_of_lt (lt_of_block K6.out))))
    have Ru7 := Lib.hid (Ru6.out.below hb)
    have HT2 := Lib.hid hrow2.rd
    clear hb hrow2
    go_wp2_with fail
    refine (HP2.out _ _ HT2.out).mono ?_
    rintro en q2 ⟨vv, rfl, hrow, hb⟩
    obtain ⟨va, vc, rfl, -⟩ := hrow.shape
    have K8 := Lib.hid (blk_on hb K7.out)
    have B8 := Lib.hid (B7.out.trans (hb.mono (Nat.le_of_lt (lt_of_block K7.out))))
    have Ru8 := Lib.hid (Ru7.out.below hb)
    have Rv8 := Lib.hid hrow
    have Zv := Lib.hid (show pb < h2.heap.size from lt_of_block K7.out)
    clear hb hrow
    have c7 : q2.cell? ⟨pb, 7, none⟩ = some (.slice none 0 0) := (blk8 K8.out).2.2.2.2.2.2.2
    have f7 : q2.frozen? ⟨pb, 7, none⟩ = false := frozen_of_row q2 pb _ _ _ K8.out
    obtain ⟨P9, hP9⟩ : ∃ W, q2.setCell ⟨pb, 7, none⟩ (.slice va (pathL (hashL l) (n - 1)).length vc) = W := ⟨_, rfl⟩
    have K9 := Lib.hid (show P9.heap[pb]? = some (.cells #[.bool false, .int .i64 (n : Nat), .int .i64 xl, .string xs, .int .i64 yl, .string ys, .slice ua (pathL (hashL l) n).length uc, .slice va (pathL (hashL l) (n - 1)).length vc] 48 (0, 0)) by rw [← hP9]; exact set8_7 _ K8.out)
    have B9 := Lib.hid (show Below pb W1 P9 by rw [← hP9]; exact B8.out.trans (cell_under q2 pb _ _))
    have Ru9 := Lib.hid (show Row strE P9 h1.heap.size 9 (.slice ua (pathL (hashL l) n).length uc) (pathL (hashL l) n) from by rw [← hP9]; exact Ru8.out.past Zu.out (fun k h => set_ne _ h))
    have Rv9 := Lib.hid (show Row strE P9 h2.heap.size 9 (.slice va (pathL (hashL l) (n - 1)).length vc) (pathL (hashL l) (n - 1)) from by rw [← hP9]; exact Rv8.out.past Zv.out (fun k h => set_ne _ h))
    go_upto_region 12 with fail
    try rw [hP9]
    clear hP9 c7 f7
    obtain ⟨z0, z1, z2, z3, z4, z5, z6, z7⟩ := blk8 K9.out
    have KR := Lib.hid (blk_on (hpb ▸ B9.out) H2.out.2.2)
    obtain ⟨WR, hWR⟩ : ∃ W, P9.setRow w.heap.size #[.bool false, .int .i64 (n : Nat), .int .i64 xl, .string xs, .int .i64 yl, .string ys, .slice ua (pathL (hashL l) n).length uc, .slice va (pathL (hashL l) (n - 1)).length vc] = W := ⟨_, rfl⟩
    have KE := Lib.hid (show WR.heap[w.heap.size]? = some (.cells #[.bool false, .int .i64 (n : Nat), .int .i64 xl, .string xs, .int .i64 yl, .string ys, .slice ua (pathL (hashL l) n).length uc, .slice va (pathL (hashL l) (n - 1)).length vc] 48 (0, 0)) by rw [← hWR]; exact setRow_heap P9 _ _ _ _ _ KR.out)
    have BE := Lib.hid (show Below w.heap.size w WR by rw [← hWR]; exact (H2.out.1.trans ((hpb ▸ B9.out : Below W1.heap.size W1 P9).mono H2.out.1.size)).trans (row_under P9 _ _))
    have hlw := H2.out.1.size
    have REu := Lib.hid (show Rd strE WR (.slice ua (pathL (hashL l) n).length uc) (pathL (hashL l) n) by rw [← hWR]; exact (Ru9.out.past (b := w.heap.size) (by have := Zu.out; omega) (fun k h => setRow_other _ _ k _ h)).rd)
    have REv := Lib.hid (show Rd strE WR (.slice va (pathL (hashL l) (n - 1)).length vc) (pathL (hashL l) (n - 1)) by rw [← hWR]; exact (Rv9.out.past (b := w.heap.size) (by have := Zv.out; omega) (fun k h => setRow_other _ _ k _ h)).rd)
    clear hlw
    go_wp2_with (refine wpList_store_blk rfl 48 (.tmp 4) (.tmp 65) rfl w.heap.size 0 8 rfl #[.bool false, .int .i64 0, .int .i64 0, .string ⟨#[]⟩, .int .i64 0, .string ⟨#[]⟩, .slice none 0 0, .slice none 0 0] #[.bool false, .int .i64 (n : Nat), .int .i64 xl, .string xs, .int .i64 yl, .string ys, .slice ua (pathL (hashL l) n).length uc, .slice va (pathL (hashL l) (n - 1)).length vc] #[.bool false, .int .i64 (n : Nat), .int .i64 xl, .string xs, .int .i64 yl, .string ys, .slice ua (pathL (hashL l) n).length uc, .slice va (pathL (hashL l) (n - 1)).length vc] rfl 48 KR.out rfl (Nat.le_refl 8) (by kernel_rfl) (prf_one _ _ _ _ _ _ _ _ _ _ _ _) (splice_all _ _ rfl) ?_; rw [hWR])
    clear hWR z0 z1 z2 z3 z4 z5 z6 z7
    obtain ⟨z0, z1, z2, z3, z4, z5, z6, z7⟩ := blk8 KE.out
    refine bodyPost_ret (v := .agg #[.bool false, .int .i64 (n : Nat), .int .i64 xl, .string xs, .int .i64 yl, .string ys, .slice ua (pathL (hashL l) n).length uc, .slice va (pathL (hashL l) (n - 1)).length vc]) (by simp [results, Try.results20, go_sem, z0, z1, z2, z3, z4, z5, z6, z7]) rfl ?_
    exact HR.out _ _ ⟨.slice ua (pathL (hashL l) n).length uc, .slice va (pathL (hashL l) (n - 1)).length vc, by rw [HV.out]; try rfl, by rw [HV.out]; exact REu.out, by rw [HV.out]; exact REv.out, BE.out⟩
set_option maxRecDepth 100000 in
set_option maxHeartbeats 16000000 in
theorem rprove_low (lv : Value) (l : List LeafT) (lba : Int) (w : World) (hl : Rd leafE w lv l) (hlen : l.length ≤ 1000000) (n : Nat) (hn : aheadN lba l = n) (hm : metP l lba = false) (hnn : n < l.length) (x : LeafT) (hx : l[n]? = some x) (h0 : ¬ 0 < n) :
    Calls Try.prog 20 #[lv, .int .i64 lba] w fun e w' => ∃ u v, e = .returned (prfV (proveP l lba) u v) ∧ Rd strE w' u (proveP l lba).up ∧ Rd strE w' v (proveP l lba).left ∧ Below w.heap.size w w' := by
  refine calls_by fun R HR => ?_
  have HL := Lib.hid (And.intro hl hlen)
  have HHs := Lib.hid (fun w h => rhashes_any lv l w h hlen)
  have HP1 := Lib.hid (fun v w h => rpath_at (l := l) (n := n) hnn v w h hlen)
  obtain ⟨xl, xs⟩ := x
  have HV := Lib.hid (show proveP l lba = ⟨false, n, (xl, xs), noLeaf, pathL (hashL l) n, []⟩ by
    simp [proveP, hn, hm, hnn, here_some hx, (show ¬ 0 < n by omega)])
  have hge : ¬ xl < lba := ahead_at lba l (xl, xs) (by rw [hn]; exact hx)
  have heq : (xl == lba) = false := by
    have h := hm
    unfold metP at h
    rw [hn, hx] at h
    simpa using h
  have HLow := Lib.hid (fun k (h : k < n) x hx => ahead_lt lba l k x (by rw [hn]; exact h) hx)
  obtain ⟨a, cap, rfl, hcap, -⟩ := hl.shape
  have hnl : n ≤ l.length := by rw [← hn]; exact ahead_le lba l
  clear hl hm hn
  have hli : (l.length : Int) ≤ 1000000 := by omega
  have H1 := Lib.hid (And.intro (Below.refl w.heap.size w) (HL.out.1))
  obtain ⟨W1, hW1⟩ : ∃ W1, w.alloc (.cells #[.bool false, .int .i64 0, .int .i64 0, .string ⟨#[]⟩, .int .i64 0, .string ⟨#[]⟩, .slice none 0 0, .slice none 0 0] 48) = W1 := ⟨_, rfl⟩
  have hbW1 : Below w.heap.size w W1 := by rw [← hW1]; exact alloc_below w _
  have kW1 : W1.heap[w.heap.size]? = some (.cells #[.bool false, .int .i64 0, .int .i64 0, .string ⟨#[]⟩, .int .i64 0, .string ⟨#[]⟩, .slice none 0 0, .slice none 0 0] 48 (0, 0)) := by rw [← hW1]; exact alloc_new w _
  have H2 := Lib.hid (And.intro (H1.out.1.trans (hbW1.mono H1.out.1.size)) (And.intro (H1.out.2.below hbW1) (kW1)))
  clear hbW1 kW1
  go_enter Try.func20, Try.ntmps20
  go_wp2_with fail
  clear hW1
  go_loopw [5] (fun i wx => ∃ (k : Nat), k ≤ n ∧ i = .int .i64 k ∧ W1 = wx) (fun i _ => n - (intOf i).toNat)
  case atStart => exact ⟨0, Nat.zero_le _, rfl, rfl⟩
  case round =>
    obtain ⟨k, hk, rfl, hwr⟩ := hrel
    subst hwr
    by_cases hlt : k < n
    · exact absurd hlt (by omega)
    obtain rfl : n = k := by omega
    clear hlt hk
    obtain ⟨pb, hpb⟩ : ∃ pb, W1.heap.size = pb := ⟨_, rfl⟩
    obtain ⟨P0, hP0⟩ : ∃ P0, W1.alloc (.cells #[.bool false, .int .i64 (n : Nat), .int .i64 0, .string ⟨#[]⟩, .int .i64 0, .string ⟨#[]⟩, .slice none 0 0, .slice none 0 0] 48) = P0 := ⟨_, rfl⟩
    have K0 := Lib.hid (show P0.heap[pb]? = some (.cells #[.bool false, .int .i64 (n : Nat), .int .i64 0, .string ⟨#[]⟩, .int .i64 0, .string ⟨#[]⟩, .slice none 0 0, .slice none 0 0] 48 (0, 0)) by rw [← hP0, ← hpb]; exact alloc_new W1 _)
    have B0 := Lib.hid (show Below pb W1 P0 by rw [← hP0, ← hpb]; exact alloc_below W1 _)
    have Z0 := Lib.hid (show pb < P0.heap.size from lt_of_block K0.out)
    have E0 := Lib.hid hP0
    clear hP0
    have hni : (n : Int) < (l.length : Int) := by omega
    obtain ⟨b, o, ha, hb0, dd⟩ := (H2.out.2.1).at n _ hx
    cases ha
    have d0 : W1.cell? ⟨b, o + n * 2, none⟩ = some (.int .i64 xl) := dd 0 _ rfl
    clear dd hb0
    go_upto_region 5 with fail
    rw [E0.out]
    clear E0 d0
    obtain ⟨b9, o9, ha, hb0, dd⟩ := (H2.out.2.1.below (hpb ▸ B0.out)).at n _ hx
    cases ha
    have d0 : P0.cell? ⟨b, o + n * 2, none⟩ = some (.int .i64 xl) := dd 0 _ rfl
    have d1 : P0.cell? ⟨b, o + n * 2 + 1, none⟩ = some (.string xs) := dd 1 _ rfl
    clear dd hb0
    obtain ⟨P1, hP1⟩ : ∃ W, P0.setRow pb #[.bool false, .int .i64 (n : Nat), .int .i64 xl, .string xs, .int .i64 0, .string ⟨#[]⟩, .slice none 0 0, .slice none 0 0] = W := ⟨_, rfl⟩
    have K1 := Lib.hid (show P1.heap[pb]? = some (.cells #[.bool false, .int .i64 (n : Nat), .int .i64 xl, .string xs, .int .i64 0, .string ⟨#[]⟩, .slice none 0 0, .slice none 0 0] 48 (0, 0)) by rw [← hP1]; exact setRow_heap P0 pb _ _ _ _ K0.out)
    have B1 := Lib.hid (show Below pb W1 P1 by rw [← hP1]; exact B0.out.trans (row_under P0 pb _))
    go_wp2_with (refine wpList_store_blk rfl 45 (.tmp 32) (.tmp 31) rfl pb 2 2 rfl #[.bool false, .int .i64 (n : Nat), .int .i64 0, .string ⟨#[]⟩, .int .i64 0, .string ⟨#[]⟩, .slice none 0 0, .slice none 0 0] #[.int .i64 xl, .string xs] #[.bool false, .int .i64 (n : Nat), .int .i64 xl, .string xs, .int .i64 0, .string ⟨#[]⟩, .slice none 0 0, .slice none 0 0] rfl 48 K0.out rfl (show 2 + 2 ≤ 8 by decide) (by kernel_rfl) (leaf_one _ _) rfl ?_; rw [hP1])
    clear hP1 d0 d1
    refine (HHs.out _ (H2.out.2.1.below (hpb ▸ B1.out))).mono ?_
    rintro en h1 ⟨hv1, rfl, hrow1, hb⟩
    obtain ⟨ha1, hc1, rfl, -⟩ := hrow1.shape
    have K2 := Lib.hid (blk_on hb K1.out)
    have B2 := Lib.hid (B1.out.trans (hb.mono (Nat.le_of_lt (lt_of_block K1.out))))
    have HT1 := Lib.hid hrow1.rd
    clear hb hrow1
    go_wp2_with fail
    refine (HP1.out _ _ HT1.out).mono ?_
    rintro en q1 ⟨uv, rfl, hrow, hb⟩
    obtain ⟨ua, uc, rfl, -⟩ := hrow.shape
    have K3 := Lib.hid (blk_on hb K2.out)
    have B3 := Lib.hid (B2.out.trans (hb.mono (Nat.le_of_lt (lt_of_block K2.out))))
    have Ru3 := Lib.hid hrow
    have Zu := Lib.hid (show pb < h1.heap.size from lt_of_block K2.out)
    clear hb hrow
    have c6 : q1.cell? ⟨pb, 6, none⟩ = some (.slice none 0 0) := (blk8 K3.out).2.2.2.2.2.2.1
    have f6 : q1.frozen? ⟨pb, 6, none⟩ = false := frozen_of_row q1 pb _ _ _ K3.out
    obtain ⟨P4, hP4⟩ : ∃ W, q1.setCell ⟨pb, 6, none⟩ (.slice ua (pathL (hashL l) n).length uc) = W := ⟨_, rfl⟩
    have K4 := Lib.hid (show P4.heap[pb]? = some (.cells #[.bool false, .int .i64 (n : Nat), .int .i64 xl, .string xs, .int .i64 0, .string ⟨#[]⟩, .slice ua (pathL (hashL l) n).length uc, .slice none 0 0] 48 (0, 0)) by rw [← hP4]; exact set8_6 _ K3.out)
    have B4 := Lib.hid (show Below pb W1 P4 by rw [← hP4]; exact B3.out.trans (cell_under q1 pb _ _))
    have Ru4 := Lib.hid (show Row strE P4 h1.heap.size 9 (.slice ua (pathL (hashL l) n).length uc) (pathL (hashL l) n) from by rw [← hP4]; exact Ru3.out.past Zu.out (fun k h => set_ne _ h))
    go_upto_region 8 with fail
    try rw [hP4]
    clear hP4 c6 f6
    obtain ⟨b9, o9, ha, hb0, dd⟩ := (H2.out.2.1.below (hpb ▸ B4.out)).at n _ hx
    cases ha
    have d0 : P4.cell? ⟨b, o + n * 2, none⟩ = some (.int .i64 xl) := dd 0 _ rfl
    clear dd hb0
    have c0 : P4.cell? ⟨pb, 0, none⟩ = some (.bool false) := (blk8 K4.out).1
    have f0 : P4.frozen? ⟨pb, 0, none⟩ = false := frozen_of_row P4 pb _ _ _ K4.out
    obtain ⟨P5, hP5⟩ : ∃ W, P4.setCell ⟨pb, 0, none⟩ (.bool false) = W := ⟨_, rfl⟩
    have K5 := Lib.hid (show P5.heap[pb]? = some (.cells #[.bool false, .int .i64 (n : Nat), .int .i64 xl, .string xs, .int .i64 0, .string ⟨#[]⟩, .slice ua (pathL (hashL l) n).length uc, .slice none 0 0] 48 (0, 0)) by rw [← hP5]; exact set8_0 _ K4.out)
    have B5 := Lib.hid (show Below pb W1 P5 by rw [← hP5]; exact B4.out.trans (cell_under P4 pb _ _))
    have Ru5 := Lib.hid (show Row strE P5 h1.heap.size 9 (.slice ua (pathL (hashL l) n).length uc) (pathL (hashL l) n) from by rw [← hP5]; exact Ru4.out.past Zu.out (fun k h => set_ne _ h))
    go_upto_region 9 with fail
    try rw [hP5]
    clear hP5 c0 f0 d0
    have c0 : P5.cell? ⟨pb, 0, none⟩ = some (.bool false) := (blk8 K5.out).1
    have hn0 : ¬ (0 : Int) < (n : Int) := by omega
    go_upto_region 12 with fail
    clear c0
    obtain ⟨z0, z1, z2, z3, z4, z5, z6, z7⟩ := blk8 K5.out
    have KR := Lib.hid (blk_on (hpb ▸ B5.out) H2.out.2.2)
    obtain ⟨WR, hWR⟩ : ∃ W, P5.setRow w.heap.size #[.bool false, .int .i64 (n : Nat), .int .i64 xl, .string xs, .int .i64 0, .string ⟨#[]⟩, .slice ua (pathL (hashL l) n).length uc, .slice none 0 0] = W := ⟨_, rfl⟩
    have KE := Lib.hid (show WR.heap[w.heap.size]? = some (.cells #[.bool false, .int .i64 (n : Nat), .int .i64 xl, .string xs, .int .i64 0, .string ⟨#[]⟩, .slice ua (pathL (hashL l) n).length uc, .slice none 0 0] 48 (0, 0)) by rw [← hWR]; exact setRow_heap P5 _ _ _ _ _ KR.out)
    have BE := Lib.hid (show Below w.heap.size w WR by rw [← hWR]; exact (H2.out.1.trans ((hpb ▸ B5.out : Below W1.heap.size W1 P5).mono H2.out.1.size)).trans (row_under P5 _ _))
    have hlw := H2.out.1.size
    have REu := Lib.hid (show Rd strE WR (.slice ua (pathL (hashL l) n).length uc) (pathL (hashL l) n) by rw [← hWR]; exact (Ru5.out.past (b := w.heap.size) (by have := Zu.out; omega) (fun k h => setRow_other _ _ k _ h)).rd)
    clear hlw
    go_wp2_with (refine wpList_store_blk rfl 48 (.tmp 4) (.tmp 65) rfl w.heap.size 0 8 rfl #[.bool false, .int .i64 0, .int .i64 0, .string ⟨#[]⟩, .int .i64 0, .string ⟨#[]⟩, .slice none 0 0, .slice none 0 0] #[.bool false, .int .i64 (n : Nat), .int .i64 xl, .string xs, .int .i64 0, .string ⟨#[]⟩, .slice ua (pathL (hashL l) n).length uc, .slice none 0 0] #[.bool false, .int .i64 (n : Nat), .int .i64 xl, .string xs, .int .i64 0, .string ⟨#[]⟩, .slice ua (pathL (hashL l) n).length uc, .slice none 0 0] rfl 48 KR.out rfl (Nat.le_refl 8) (by kernel_rfl) (prf_one _ _ _ _ _ _ _ _ _ _ _ _) (splice_all _ _ rfl) ?_; rw [hWR])
    clear hWR z0 z1 z2 z3 z4 z5 z6 z7
    obtain ⟨z0, z1, z2, z3, z4, z5, z6, z7⟩ := blk8 KE.out
    refine bodyPost_ret (v := .agg #[.bool false, .int .i64 (n : Nat), .int .i64 xl, .string xs, .int .i64 0, .string ⟨#[]⟩, .slice ua (pathL (hashL l) n).length uc, .slice none 0 0]) (by simp [results, Try.results20, go_sem, z0, z1, z2, z3, z4, z5, z6, z7]) rfl ?_
    exact HR.out _ _ ⟨.slice ua (pathL (hashL l) n).length uc, .slice none 0 0, by rw [HV.out]; try rfl, by rw [HV.out]; exact REu.out, by rw [HV.out]; exact Rd.nil _, BE.out⟩
set_option maxRecDepth 100000 in
set_option maxHeartbeats 16000000 in
theorem rprove_top (lv : Value) (l : List LeafT) (lba : Int) (w : World) (hl : Rd leafE w lv l) (hlen : l.length ≤ 1000000) (n : Nat) (hn : aheadN lba l = n) (hm : metP l lba = false) (hnn : ¬ n < l.length) (h0 : 0 < n) (hnm : n - 1 < l.length) (y : LeafT) (hy : l[n - 1]? = some y) :
    Calls Try.prog 20 #[lv, .int .i64 lba] w fun e w' => ∃ u v, e = .returned (prfV (proveP l lba) u v) ∧ Rd strE w' u (proveP l lba).up ∧ Rd strE w' v (proveP l lba).left ∧ Below w.heap.size w w' := by
  refine calls_by fun R HR => ?_
  have HL := Lib.hid (And.intro hl hlen)
  have HHs := Lib.hid (fun w h => rhashes_any lv l w h hlen)
  have HP2 := Lib.hid (fun v w h => rpath_at (l := l) (n := n - 1) hnm v w h hlen)
  obtain ⟨yl, ys⟩ := y
  have HV := Lib.hid (show proveP l lba = ⟨false, n, noLeaf, (yl, ys), [], pathL (hashL l) (n - 1)⟩ by
    simp [proveP, hn, hm, here_none (show l.length ≤ n by omega), (show ¬ n < l.length by omega), here_some hy, h0])
  have HLow := Lib.hid (fun k (h : k < n) x hx => ahead_lt lba l k x (by rw [hn]; exact h) hx)
  obtain ⟨a, cap, rfl, hcap, -⟩ := hl.shape
  have hnl : n ≤ l.length := by rw [← hn]; exact ahead_le lba l
  clear hl hm hn
  have hli : (l.length : Int) ≤ 1000000 := by omega
  have H1 := Lib.hid (And.intro (Below.refl w.heap.size w) (HL.out.1))
  obtain ⟨W1, hW1⟩ : ∃ W1, w.alloc (.cells #[.bool false, .int .i64 0, .int .i64 0, .string ⟨#[]⟩, .int .i64 0, .string ⟨#[]⟩, .slice none 0 0, .slice none 0 0] 48) = W1 := ⟨_, rfl⟩
  have hbW1 : Below w.heap.size w W1 := by rw [← hW1]; exact alloc_below w _
  have kW1 : W1.heap[w.heap.size]? = some (.cells #[.bool false, .int .i64 0, .int .i64 0, .string ⟨#[]⟩, .int .i64 0, .string ⟨#[]⟩, .slice none 0 0, .slice none 0 0] 48 (0, 0)) := by rw [← hW1]; exact alloc_new w _
  have H2 := Lib.hid (And.intro (H1.out.1.trans (hbW1.mono H1.out.1.size)) (And.intro (H1.out.2.below hbW1) (kW1)))
  clear hbW1 kW1
  go_enter Try.func20, Try.ntmps20
  go_wp2_with fail
  clear hW1
  go_loopw [5] (fun i wx => ∃ (k : Nat), k ≤ n ∧ i = .int .i64 k ∧ W1 = wx) (fun i _ => n - (intOf i).toNat)
  case atStart => exact ⟨0, Nat.zero_le _, rfl, rfl⟩
  case round =>
    obtain ⟨k, hk, rfl, hwr⟩ := hrel
    subst hwr
    by_cases hlt : k < n
    · have hki : (k : Int) < (l.length : Int) := by omega
      obtain ⟨x9, hx9⟩ : ∃ x, l[k]? = some x := ⟨_, List.getElem?_eq_getElem (by omega)⟩
      have hlo := HLow.out k hlt x9 hx9
      obtain ⟨b, o, ha, hb0, dd⟩ := (H2.out.2.1).at k x9 hx9
      cases ha
      obtain ⟨xk, sk⟩ := x9
      simp only at hlo
      have d0 : W1.cell? ⟨b, o + k * 2, none⟩ = some (.int .i64 xk) := dd 0 _ rfl
      clear dd hb0 hx9
      go_wp2_with fail
      go_roundw
      case rel => exact ⟨k + 1, by omega, by go_num, trivial⟩
      case measure => simp [intOf]; omega
    obtain rfl : n = k := by omega
    clear hlt hk
    obtain ⟨pb, hpb⟩ : ∃ pb, W1.heap.size = pb := ⟨_, rfl⟩
    obtain ⟨P0, hP0⟩ : ∃ P0, W1.alloc (.cells #[.bool false, .int .i64 (n : Nat), .int .i64 0, .string ⟨#[]⟩, .int .i64 0, .string ⟨#[]⟩, .slice none 0 0, .slice none 0 0] 48) = P0 := ⟨_, rfl⟩
    have K0 := Lib.hid (show P0.heap[pb]? = some (.cells #[.bool false, .int .i64 (n : Nat), .int .i64 0, .string ⟨#[]⟩, .int .i64 0, .string ⟨#[]⟩, .slice none 0 0, .slice none 0 0] 48 (0, 0)) by rw [← hP0, ← hpb]; exact alloc_new W1 _)
    have B0 := Lib.hid (show Below pb W1 P0 by rw [← hP0, ← hpb]; exact alloc_below W1 _)
    have Z0 := Lib.hid (show pb < P0.heap.size from lt_of_block K0.out)
    have E0 := Lib.hid hP0
    clear hP0
    have hni : ¬ (n : Int) < (l.length : Int) := by omega
    go_upto_region 5 with fail
    rw [E0.out]
    clear E0
    have c0 : P0.cell? ⟨pb, 0, none⟩ = some (.bool false) := (blk8 K0.out).1
    have hn0 : (0 : Int) < (n : Int) := by omega
    have hn1 : (n : Int) - 1 = ((n - 1 : Nat) : Int) := by omega
    have hn2 : wrap64 ((n : Int) - 1) = ((n - 1 : Nat) : Int) := by rw [hn1]; unfold wrap64; omega
    have hn3 : ((n - 1 : Nat) : Int) < (l.length : Int) := by omega
    obtain ⟨b, o, ha, hb0, dd⟩ := (H2.out.2.1.below (hpb ▸ B0.out)).at (n - 1) _ hy
    cases ha
    have d0 : P0.cell? ⟨b, o + (n - 1) * 2, none⟩ = some (.int .i64 yl) := dd 0 _ rfl
    have d1 : P0.cell? ⟨b, o + (n - 1) * 2 + 1, none⟩ = some (.string ys) := dd 1 _ rfl
    clear dd hb0
    obtain ⟨P1, hP1⟩ : ∃ W, P0.setRow pb #[.bool false, .int .i64 (n : Nat), .int .i64 0, .string ⟨#[]⟩, .int .i64 yl, .string ys, .slice none 0 0, .slice none 0 0] = W := ⟨_, rfl⟩
    have K1 := Lib.hid (show P1.heap[pb]? = some (.cells #[.bool false, .int .i64 (n : Nat), .int .i64 0, .string ⟨#[]⟩, .int .i64 yl, .string ys, .slice none 0 0, .slice none 0 0] 48 (0, 0)) by rw [← hP1]; exact setRow_heap P0 pb _ _ _ _ K0.out)
    have B1 := Lib.hid (show Below pb W1 P1 by rw [← hP1]; exact B0.out.trans (row_under P0 pb _))
    go_wp2_with (refine wpList_store_blk rfl 45 (.tmp 58) (.tmp 57) rfl pb 4 2 rfl #[.bool false, .int .i64 (n : Nat), .int .i64 0, .string ⟨#[]⟩, .int .i64 0, .string ⟨#[]⟩, .slice none 0 0, .slice none 0 0] #[.int .i64 yl, .string ys] #[.bool false, .int .i64 (n : Nat), .int .i64 0, .string ⟨#[]⟩, .int .i64 yl, .string ys, .slice none 0 0, .slice none 0 0] rfl 48 K0.out rfl (show 4 + 2 ≤ 8 by decide) (by kernel_rfl) (leaf_one _ _) rfl ?_; rw [hP1])
    clear hP1 d0 d1 c0
    refine (HHs.out _ (H2.out.2.1.below (hpb ▸ B1.out))).mono ?_
    rintro en h2 ⟨hv2, rfl, hrow2, hb⟩
    obtain ⟨ha2, hc2, rfl, -⟩ := hrow2.shape
    have K2 := Lib.hid (blk_on hb K1.out)
    have B2 := Lib.hid (B1.out.trans (hb.mono (Nat.le_of_lt (lt_of_block K1.out))))
    have HT2 := Lib.hid hrow2.rd
    clear hb hrow2
    go_wp2_with fail
    refine (HP2.out _ _ HT2.out).mono ?_
    rintro en q2 ⟨vv, rfl, hrow, hb⟩
    obtain ⟨va, vc, rfl, -⟩ := hrow.shape
    have K3 := Lib.hid (blk_on hb K2.out)
    have B3 := Lib.hid (B2.out.trans (hb.mono (Nat.le_of_lt (lt_of_block K2.out))))
    have Rv3 := Lib.hid hrow
    have Zv := Lib.hid (show pb < h2.heap.size from lt_of_block K2.out)
    clear hb hrow
    have c7 : q2.cell? ⟨pb, 7, none⟩ = some (.slice none 0 0) := (blk8 K3.out).2.2.2.2.2.2.2
    have f7 : q2.frozen? ⟨pb, 7, none⟩ = false := frozen_of_row q2 pb _ _ _ K3.out
    obtain ⟨P4, hP4⟩ : ∃ W, q2.setCell ⟨pb, 7, none⟩ (.slice va (pathL (hashL l) (n - 1)).length vc) = W := ⟨_, rfl⟩
    have K4 := Lib.hid (show P4.heap[pb]? = some (.cells #[.bool false, .int .i64 (n : Nat), .int .i64 0, .string ⟨#[]⟩, .int .i64 yl, .string ys, .slice none 0 0, .slice va (pathL (hashL l) (n - 1)).length vc] 48 (0, 0)) by rw [← hP4]; exact set8_7 _ K3.out)
    have B4 := Lib.hid (show Below pb W1 P4 by rw [← hP4]; exact B3.out.trans (cell_under q2 pb _ _))
    have Rv4 := Lib.hid (show Row strE P4 h2.heap.size 9 (.slice va (pathL (hashL l) (n - 1)).length vc) (pathL (hashL l) (n - 1)) from by rw [← hP4]; exact Rv3.out.past Zv.out (fun k h => set_ne _ h))
    go_upto_region 12 with fail
    try rw [hP4]
    clear hP4 c7 f7
    obtain ⟨z0, z1, z2, z3, z4, z5, z6, z7⟩ := blk8 K4.out
    have KR := Lib.hid (blk_on (hpb ▸ B4.out) H2.out.2.2)
    obtain ⟨WR, hWR⟩ : ∃ W, P4.setRow w.heap.size #[.bool false, .int .i64 (n : Nat), .int .i64 0, .string ⟨#[]⟩, .int .i64 yl, .string ys, .slice none 0 0, .slice va (pathL (hashL l) (n - 1)).length vc] = W := ⟨_, rfl⟩
    have KE := Lib.hid (show WR.heap[w.heap.size]? = some (.cells #[.bool false, .int .i64 (n : Nat), .int .i64 0, .string ⟨#[]⟩, .int .i64 yl, .string ys, .slice none 0 0, .slice va (pathL (hashL l) (n - 1)).length vc] 48 (0, 0)) by rw [← hWR]; exact setRow_heap P4 _ _ _ _ _ KR.out)
    have BE := Lib.hid (show Below w.heap.size w WR by rw [← hWR]; exact (H2.out.1.trans ((hpb ▸ B4.out : Below W1.heap.size W1 P4).mono H2.out.1.size)).trans (row_under P4 _ _))
    have hlw := H2.out.1.size
    have REv := Lib.hid (show Rd strE WR (.slice va (pathL (hashL l) (n - 1)).length vc) (pathL (hashL l) (n - 1)) by rw [← hWR]; exact (Rv4.out.past (b := w.heap.size) (by have := Zv.out; omega) (fun k h => setRow_other _ _ k _ h)).rd)
    clear hlw
    go_wp2_with (refine wpList_store_blk rfl 48 (.tmp 4) (.tmp 65) rfl w.heap.size 0 8 rfl #[.bool false, .int .i64 0, .int .i64 0, .string ⟨#[]⟩, .int .i64 0, .string ⟨#[]⟩, .slice none 0 0, .slice none 0 0] #[.bool false, .int .i64 (n : Nat), .int .i64 0, .string ⟨#[]⟩, .int .i64 yl, .string ys, .slice none 0 0, .slice va (pathL (hashL l) (n - 1)).length vc] #[.bool false, .int .i64 (n : Nat), .int .i64 0, .string ⟨#[]⟩, .int .i64 yl, .string ys, .slice none 0 0, .slice va (pathL (hashL l) (n - 1)).length vc] rfl 48 KR.out rfl (Nat.le_refl 8) (by kernel_rfl) (prf_one _ _ _ _ _ _ _ _ _ _ _ _) (splice_all _ _ rfl) ?_; rw [hWR])
    clear hWR z0 z1 z2 z3 z4 z5 z6 z7
    obtain ⟨z0, z1, z2, z3, z4, z5, z6, z7⟩ := blk8 KE.out
    refine bodyPost_ret (v := .agg #[.bool false, .int .i64 (n : Nat), .int .i64 0, .string ⟨#[]⟩, .int .i64 yl, .string ys, .slice none 0 0, .slice va (pathL (hashL l) (n - 1)).length vc]) (by simp [results, Try.results20, go_sem, z0, z1, z2, z3, z4, z5, z6, z7]) rfl ?_
    exact HR.out _ _ ⟨.slice none 0 0, .slice va (pathL (hashL l) (n - 1)).length vc, by rw [HV.out]; try rfl, by rw [HV.out]; exact Rd.nil _, by rw [HV.out]; exact REv.out, BE.out⟩
set_option maxRecDepth 100000 in
set_option maxHeartbeats 16000000 in
theorem rprove_nil (lv : Value) (l : List LeafT) (lba : Int) (w : World) (hl : Rd leafE w lv l) (hlen : l.length ≤ 1000000) (n : Nat) (hn : aheadN lba l = n) (hm : metP l lba = false) (hnn : ¬ n < l.length) (h0 : ¬ 0 < n) :
    Calls Try.prog 20 #[lv, .int .i64 lba] w fun e w' => ∃ u v, e = .returned (prfV (proveP l lba) u v) ∧ Rd strE w' u (proveP l lba).up ∧ Rd strE w' v (proveP l lba).left ∧ Below w.heap.size w w' := by
  refine calls_by fun R HR => ?_
  have HL := Lib.hid (And.intro hl hlen)
  have HHs := Lib.hid (fun w h => rhashes_any lv l w h hlen)
  have HV := Lib.hid (show proveP l lba = ⟨false, n, noLeaf, noLeaf, [], []⟩ by
    simp [proveP, hn, hm, here_none (show l.length ≤ n by omega), (show ¬ n < l.length by omega), (show ¬ 0 < n by omega)])
  have HLow := Lib.hid (fun k (h : k < n) x hx => ahead_lt lba l k x (by rw [hn]; exact h) hx)
  obtain ⟨a, cap, rfl, hcap, -⟩ := hl.shape
  have hnl : n ≤ l.length := by rw [← hn]; exact ahead_le lba l
  clear hl hm hn
  have hli : (l.length : Int) ≤ 1000000 := by omega
  have H1 := Lib.hid (And.intro (Below.refl w.heap.size w) (HL.out.1))
  obtain ⟨W1, hW1⟩ : ∃ W1, w.alloc (.cells #[.bool false, .int .i64 0, .int .i64 0, .string ⟨#[]⟩, .int .i64 0, .string ⟨#[]⟩, .slice none 0 0, .slice none 0 0] 48) = W1 := ⟨_, rfl⟩
  have hbW1 : Below w.heap.size w W1 := by rw [← hW1]; exact alloc_below w _
  have kW1 : W1.heap[w.heap.size]? = some (.cells #[.bool false, .int .i64 0, .int .i64 0, .string ⟨#[]⟩, .int .i64 0, .string ⟨#[]⟩, .slice none 0 0, .slice none 0 0] 48 (0, 0)) := by rw [← hW1]; exact alloc_new w _
  have H2 := Lib.hid (And.intro (H1.out.1.trans (hbW1.mono H1.out.1.size)) (And.intro (H1.out.2.below hbW1) (kW1)))
  clear hbW1 kW1
  go_enter Try.func20, Try.ntmps20
  go_wp2_with fail
  clear hW1
  go_loopw [5] (fun i wx => ∃ (k : Nat), k ≤ n ∧ i = .int .i64 k ∧ W1 = wx) (fun i _ => n - (intOf i).toNat)
  case atStart => exact ⟨0, Nat.zero_le _, rfl, rfl⟩
  case round =>
    obtain ⟨k, hk, rfl, hwr⟩ := hrel
    subst hwr
    by_cases hlt : k < n
    · exact absurd hlt (by omega)
    obtain rfl : n = k := by omega
    clear hlt hk
    obtain ⟨pb, hpb⟩ : ∃ pb, W1.heap.size = pb := ⟨_, rfl⟩
    obtain ⟨P0, hP0⟩ : ∃ P0, W1.alloc (.cells #[.bool false, .int .i64 (n : Nat), .int .i64 0, .string ⟨#[]⟩, .int .i64 0, .string ⟨#[]⟩, .slice none 0 0, .slice none 0 0] 48) = P0 := ⟨_, rfl⟩
    have K0 := Lib.hid (show P0.heap[pb]? = some (.cells #[.bool false, .int .i64 (n : Nat), .int .i64 0, .string ⟨#[]⟩, .int .i64 0, .string ⟨#[]⟩, .slice none 0 0, .slice none 0 0] 48 (0, 0)) by rw [← hP0, ← hpb]; exact alloc_new W1 _)
    have B0 := Lib.hid (show Below pb W1 P0 by rw [← hP0, ← hpb]; exact alloc_below W1 _)
    have Z0 := Lib.hid (show pb < P0.heap.size from lt_of_block K0.out)
    have E0 := Lib.hid hP0
    clear hP0
    have hni : ¬ (n : Int) < (l.length : Int) := by omega
    go_upto_region 5 with fail
    rw [E0.out]
    clear E0
    have c0 : P0.cell? ⟨pb, 0, none⟩ = some (.bool false) := (blk8 K0.out).1
    have hn0 : ¬ (0 : Int) < (n : Int) := by omega
    go_upto_region 12 with fail
    clear c0
    obtain ⟨z0, z1, z2, z3, z4, z5, z6, z7⟩ := blk8 K0.out
    have KR := Lib.hid (blk_on (hpb ▸ B0.out) H2.out.2.2)
    obtain ⟨WR, hWR⟩ : ∃ W, P0.setRow w.heap.size #[.bool false, .int .i64 (n : Nat), .int .i64 0, .string ⟨#[]⟩, .int .i64 0, .string ⟨#[]⟩, .slice none 0 0, .slice none 0 0] = W := ⟨_, rfl⟩
    have KE := Lib.hid (show WR.heap[w.heap.size]? = some (.cells #[.bool false, .int .i64 (n : Nat), .int .i64 0, .string ⟨#[]⟩, .int .i64 0, .string ⟨#[]⟩, .slice none 0 0, .slice none 0 0] 48 (0, 0)) by rw [← hWR]; exact setRow_heap P0 _ _ _ _ _ KR.out)
    have BE := Lib.hid (show Below w.heap.size w WR by rw [← hWR]; exact (H2.out.1.trans ((hpb ▸ B0.out : Below W1.heap.size W1 P0).mono H2.out.1.size)).trans (row_under P0 _ _))
    have hlw := H2.out.1.size
    clear hlw
    go_wp2_with (refine wpList_store_blk rfl 48 (.tmp 4) (.tmp 65) rfl w.heap.size 0 8 rfl #[.bool false, .int .i64 0, .int .i64 0, .string ⟨#[]⟩, .int .i64 0, .string ⟨#[]⟩, .slice none 0 0, .slice none 0 0] #[.bool false, .int .i64 (n : Nat), .int .i64 0, .string ⟨#[]⟩, .int .i64 0, .string ⟨#[]⟩, .slice none 0 0, .slice none 0 0] #[.bool false, .int .i64 (n : Nat), .int .i64 0, .string ⟨#[]⟩, .int .i64 0, .string ⟨#[]⟩, .slice none 0 0, .slice none 0 0] rfl 48 KR.out rfl (Nat.le_refl 8) (by kernel_rfl) (prf_one _ _ _ _ _ _ _ _ _ _ _ _) (splice_all _ _ rfl) ?_; rw [hWR])
    clear hWR z0 z1 z2 z3 z4 z5 z6 z7
    obtain ⟨z0, z1, z2, z3, z4, z5, z6, z7⟩ := blk8 KE.out
    refine bodyPost_ret (v := .agg #[.bool false, .int .i64 (n : Nat), .int .i64 0, .string ⟨#[]⟩, .int .i64 0, .string ⟨#[]⟩, .slice none 0 0, .slice none 0 0]) (by simp [results, Try.results20, go_sem, z0, z1, z2, z3, z4, z5, z6, z7]) rfl ?_
    exact HR.out _ _ ⟨.slice none 0 0, .slice none 0 0, by rw [HV.out]; try rfl, by rw [HV.out]; exact Rd.nil _, by rw [HV.out]; exact Rd.nil _, BE.out⟩
theorem rprove_yes (lv : Value) (l : List LeafT) (lba : Int) (w : World) (hl : Rd leafE w lv l) (hlen : l.length ≤ 1000000) :
    Calls Try.prog 20 #[lv, .int .i64 lba] w fun e w' => ∃ u v, e = .returned (prfV (proveP l lba) u v) ∧ Rd strE w' u (proveP l lba).up ∧ Rd strE w' v (proveP l lba).left ∧ Below w.heap.size w w' := by
  obtain ⟨n, hn⟩ : ∃ n, aheadN lba l = n := ⟨_, rfl⟩
  have hle : n ≤ l.length := by rw [← hn]; exact ahead_le lba l
  by_cases h1 : n < l.length
  · have hx : l[n]? = some l[n] := List.getElem?_eq_getElem h1
    cases hm : metP l lba
    · by_cases h0 : 0 < n
      · exact rprove_mid lv l lba w hl hlen n hn hm h1 _ hx h0 (by omega) _ (List.getElem?_eq_getElem (show n - 1 < l.length by omega))
      · exact rprove_low lv l lba w hl hlen n hn hm h1 _ hx (by omega)
    · exact rprove_met lv l lba w hl hlen n hn hm h1 _ hx
  · have hm : metP l lba = false := by unfold metP; rw [hn, List.getElem?_eq_none (by omega)]
    by_cases h0 : 0 < n
    · exact rprove_top lv l lba w hl hlen n hn hm (by omega) h0 (by omega) _ (List.getElem?_eq_getElem (show n - 1 < l.length by omega))
    · exact rprove_nil lv l lba w hl hlen n hn hm (by omega) (by omega)
end Go.Proofs.Ytdbabkkmdlkjaaa
/- Slices among a law's arguments whose elements' weights are within the form's reach: what they read as. No program is in sight. -/
namespace Ks
open Go Go.RowKit Go.ChangeShapes Go.WideShapes Go.ChangeAt
set_option linter.unusedVariables false
section
variable {α : Type} {E : Enc α} {H : Type} {enc : TypeId × Value → H} {P : Program} {W : World}
theorem weights_all {e : TypeId} : ∀ {ds : List (DataW H)} {d : DataW H}, d ∈ ds → ∀ n ∈ d.weights P e, n ∈ DataW.weightsAll P e ds
  | [], d, h, _, _ => by simp at h
  | x :: ds, d, h, n, hn => by
    simp only [DataW.weightsAll, List.mem_append]
    rcases List.mem_cons.1 h with rfl | h
    · exact Or.inl hn
    · exact Or.inr (weights_all h n hn)
theorem rd_openW {T e : TypeId} {base : Nat} {v : Value} {d : DataW H} {ps : List MemPlace} (hT : P.underlying T = some (.slice e)) (hc : P.cellsOf e = E.k) (G : α → Prop)
    (hE : ∀ n cs d, DataW.trod enc P W 0 (fun _ => true) true n e cs = some d → (∀ k ∈ d.1.weights P e, k ≤ reachBytes) → cs.length = E.k → ∃ x, cs = E.enc x ∧ G x)
    (hok : Value.okWide P W .any base T v) (h : DataW.Trod enc P W 0 (fun _ => true) true T v d ps) (hw : ∀ k ∈ d.weights P T, k ≤ reachBytes) : ∃ l, Rd E W v l ∧ l.length ≤ maxLen ∧ ∀ x ∈ l, G x := by
  obtain ⟨a0, len0, cap0, rfl⟩ := okWide_slice hT hok
  obtain ⟨fuel, hf⟩ := h
  rcases Go.Deep.open_slice hT hf with ⟨he, _⟩ | ⟨a, len, cap, m, n, D, Pl, he, _, hl, hm, hmm, hx, hxx⟩
  · simp only [Value.cells, List.cons.injEq, and_true] at he
    rw [he]
    exact ⟨[], Rd.nil W, by simp, fun x hx => by simp at hx⟩
  · simp only [Value.cells, List.cons.injEq, and_true] at he
    rw [he]
    have hd : d = .slice ((List.range len).map D) ((List.range (m - len)).map fun j => D (len + j)) := congrArg Prod.fst hx
    clear hx
    have hwt : ∀ i, i < len → ∀ k ∈ (D i).weights P e, k ≤ reachBytes := fun i hi k hk => by
      refine hw k ?_
      rw [hd]
      simp only [DataW.weights, hT]
      exact List.mem_cons_of_mem _ (List.mem_append_left _ (weights_all (List.mem_map.2 ⟨i, List.mem_range.2 hi, rfl⟩) k hk))
    simp only [if_true] at hmm
    have hall : ∀ i, i < len → ∃ x : α, G x ∧ ∀ j u, (E.enc x)[j]? = some u → W.cell? ((a.add (i * E.k)).add j) = some u := by
      intro i hi
      obtain ⟨cs', h1, h2⟩ := hxx i (by omega)
      rw [hc] at h1
      obtain ⟨h3, h4⟩ := cells_at h1
      obtain ⟨x, rfl, hG⟩ := hE _ _ _ h2 (hwt i hi) h3
      exact ⟨x, hG, h4⟩
    have key : ∀ k, k ≤ len → ∃ l : List α, l.length = k ∧ (∀ x ∈ l, G x) ∧ ∀ i x, l[i]? = some x → ∀ j u, (E.enc x)[j]? = some u → W.cell? ((a.add (i * E.k)).add j) = some u := by
      intro k
      induction k with
      | zero => exact fun _ => ⟨[], rfl, fun x hx => by simp at hx, fun i x hx => by simp at hx⟩
      | succ k ih =>
        intro hk
        obtain ⟨l, h1, h2, h3⟩ := ih (by omega)
        obtain ⟨x, hG, hc⟩ := hall k (by omega)
        refine ⟨l ++ [x], by simp [h1], fun y hy => ?_, fun i y hy => ?_⟩
        · rcases List.mem_append.1 hy with h | h
          · exact h2 y h
          · simp at h; subst h; exact hG
        · by_cases hi : i < l.length
          · rw [List.getElem?_append_left hi] at hy
            exact h3 i y hy
          · have hik : i = k := by have := (List.getElem?_eq_some_iff.1 hy).1; simp at this; omega
            subst hik
            rw [List.getElem?_append_right (by omega), h1, Nat.sub_self] at hy
            simp at hy
            subst hy
            exact hc
    obtain ⟨l, hlen, hG, hcell⟩ := key len (Nat.le_refl _)
    subst hlen
    refine ⟨l, ⟨some a, cap, rfl, hl, fun e => by simp at e, fun i x hx => ?_⟩, by omega, hG⟩
    have h0 : 0 < (E.enc x).length := by rw [E.len]; exact E.pos
    have hlt : 0 < l.length := by have := (List.getElem?_eq_some_iff.1 hx).1; omega
    have h00 : 0 < (E.enc l[0]).length := by rw [E.len]; exact E.pos
    have hc0 := hcell 0 l[0] (List.getElem?_eq_getElem hlt) 0 _ (List.getElem?_eq_getElem h00)
    obtain ⟨b, o, s⟩ := a
    have ha : ((⟨b, o, s⟩ : Addr).add (0 * E.k)).add 0 = ⟨b, o, s⟩ := by simp [Addr.add]
    rw [ha] at hc0
    have hs : s = none := spot_none hc0
    subst hs
    refine ⟨b, o, rfl, ?_, fun j u hu => ?_⟩
    · exact World.block_lt_of_cell? _ _ hc0
    · have := hcell i x hx j u hu
      rwa [add_place, add_place] at this
end
end Ks
/- Acts of chapter 17 among a law's arguments: their texts are within the form's reach. -/
namespace Go.Proofs.Ytdbabkkmdlkjaaa
open Go Go.RowKit Go.ChangeShapes Go.WideShapes Go.ChangeAt Ks
set_option linter.unusedVariables false
set_option maxRecDepth 100000 in
theorem act17_ofW {H : Type} {enc : TypeId × Value → H} {W : World} (n : Nat) (cs : List Value) (d : DataW H × List MemPlace) (h : DataW.trod enc Try.prog W 0 (fun _ => true) true n 34 cs = some d) (hw : ∀ k ∈ d.1.weights Try.prog 34, k ≤ reachBytes) (hl : cs.length = actE17.k) :
    ∃ x : ActT, cs = actE17.enc x ∧ fitAct x ∧ x.2.2.size ≤ 140737488355328 := by
  obtain ⟨xs, n, hd1, hd2, hl, hlen, hF⟩ := DataW.trod_struct Try.underlying34 h
  rw [cellsAct17] at hl
  match cs, hl, xs, hlen with
  | [c0, c1, c2], _, [x0, x1, x2], _ =>
    have t0 := hF 0 _ rfl
    have t1 := hF 1 _ rfl
    have t2 := hF 2 _ rfl
    simp [cellsInt17, cellsString17] at t0 t1 t2
    obtain ⟨e, h0, _, s0⟩ := DataW.trod_int Try.underlying3 t0
    obtain ⟨f, h1, _, s1⟩ := DataW.trod_int Try.underlying3 t1
    obtain ⟨t, h2, h2d, s2⟩ := DataW.trod_string Try.underlying9 t2
    simp at h0 h1 h2
    subst h0 h1 h2
    refine ⟨(e, f, t), rfl, ⟨i64_range s0, i64_range s1, s2⟩, ?_⟩
    have hk := hw t.data.toList.length (by
      rw [hd2]
      simp [DataW.weights, Try.underlying34, DataW.weightsEach, h2d])
    have : reachBytes ≤ 140737488355328 := by decide
    show t.size ≤ _
    rw [← data_length]
    omega
set_option maxRecDepth 100000 in
theorem open_acts17W {H : Type} {enc : TypeId × Value → H} {W : World} {base : Nat} {v : Value} {d : DataW H} {ps : List MemPlace}
    (hok : Value.okWide Try.prog W .any base 22 v) (h : DataW.Trod enc Try.prog W 0 (fun _ => true) true 22 v d ps) (hw : ∀ k ∈ d.weights Try.prog 22, k ≤ reachBytes) : ∃ l, Rd actE17 W v l ∧ l.length ≤ maxLen ∧ ∀ x ∈ l, fitAct x ∧ x.2.2.size ≤ 140737488355328 :=
  rd_openW (E := actE17) Try.underlying22 cellsAct17 _ act17_ofW hok h hw
end Go.Proofs.Ytdbabkkmdlkjaaa
