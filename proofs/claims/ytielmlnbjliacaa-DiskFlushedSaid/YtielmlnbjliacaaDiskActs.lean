/- The program's disk: read, write, arm, boot, over, size, down. -/
import Derived.Test.YtielmlnbjliacaaDiskObj
namespace Ks
open Go Go.RowKit
set_option linter.unusedVariables false
theorem showC_hit (b : List ByteArray) (c : List PutT) (m : Nat) (i : Int) (x : PutT) (hx : c[m]? = some x) (h : x.1 = i) : showC b (c.take (m + 1)) i = x.2 := by
  have hm := (List.getElem?_eq_some_iff.1 hx).1
  have e : c.take (m + 1) = c.take m ++ [x] := by rw [List.take_succ_eq_append_getElem hm]; congr; exact (List.getElem?_eq_some_iff.1 hx).2
  rw [e, showC_snoc, if_pos h]
theorem showC_miss (b : List ByteArray) (c : List PutT) (m : Nat) (i : Int) (x : PutT) (hx : c[m]? = some x) (h : x.1 ≠ i) : showC b (c.take (m + 1)) i = showC b (c.take m) i := by
  have hm := (List.getElem?_eq_some_iff.1 hx).1
  have e : c.take (m + 1) = c.take m ++ [x] := by rw [List.take_succ_eq_append_getElem hm]; congr; exact (List.getElem?_eq_some_iff.1 hx).2
  rw [e, showC_snoc, if_neg h]
end Ks
namespace Go.Proofs.Ytielmlnbjliacaa
open Go.RowKit Ks
set_option linter.unusedVariables false
variable {n : Nat} {vb vc : Value} {s : DS}
theorem infoStr : (Try.prog.info? 9).map (fun i => (i.zero, i.size, i.bytes)) = some (some (.string ⟨#[]⟩), 1, 16) := by kernel_rfl
theorem infoPut : (Try.prog.info? 75).map (fun i => (i.zero, i.size, i.bytes)) = some (some (.agg #[.int .i64 0, .string ⟨#[]⟩]), 2, 24) := by kernel_rfl
theorem strT : ElemT Try.prog 37 9 strE.k 16 := elemT_of Try.underlying37 infoStr rfl
theorem pwT : ElemT Try.prog 38 75 pwE.k 24 := elemT_of Try.underlying38 infoPut rfl

set_option maxHeartbeats 1000000 in
theorem dread_any (i : Int) (w : World) (h : DkAt w n vb vc s) : Calls Try.prog 21 #[.pointer (some ⟨n, 0, none⟩), .int .i64 i] w fun e w' => e = .returned (.tuple #[.string (readD s i).1, .int .i64 (readD s i).2]) ∧ w' = w := by
  refine calls_by fun R HR => ?_
  have HM := Lib.hid (dmay_any w h)
  have HA := Lib.hid (dat_any i w h)
  have HH := Lib.hid h
  obtain ⟨c0, c1, c2, c3, c4⟩ := h.cells
  obtain ⟨a0, cap0, hv0, _⟩ := h.rb.shape
  obtain ⟨a1, cap1, hv1, _⟩ := h.rc.shape
  have RB := h.rb.rd
  have RC := h.rc.rd
  have hcl := h.ok.cache
  subst hv0 hv1
  clear h c2 c3 c4
  cases hd : s.down
  · have HM2 := Lib.hid (show mayN s = 0 by rw [mayN, hd]; rfl)
    cases hi : inD s i
    · have HV := Lib.hid (show readD s i = (⟨#[]⟩, 4) by simp [readD, hd, hi])
      rw [hi] at HA
      clear hd hi c0 c1 RB RC
      go_enter Try.func21, Try.ntmps21
      go_wp2_with fail
      refine HM.out.mono ?_
      rintro e w1 ⟨rfl, rfl⟩
      rw [HM2.out]
      go_wp2_with fail
      refine HA.out.mono ?_
      rintro e w1 ⟨rfl, rfl⟩
      go_wp2
      exact HR.out _ _ ⟨by rw [HV.out]; rfl, rfl⟩
    · have HV := Lib.hid (show readD s i = (showC s.blocks s.cache i, 0) by simp [readD, hd, hi])
      rw [hi] at HA
      rw [inD_iff] at hi
      obtain ⟨i, rfl⟩ := Int.eq_ofNat_of_zero_le hi.1
      have hil : i < s.blocks.length := by omega
      obtain ⟨gb, ob, rfl, hgb, cb⟩ := RB.str i hil
      obtain ⟨x0, hx0⟩ : ∃ x, s.blocks[i] = x := ⟨_, rfl⟩
      have HX0 := Lib.hid (show s.blocks.getD ((i : Int)).toNat ⟨#[]⟩ = x0 by rw [← hx0]; simp [hil])
      rw [hx0] at cb
      have HC : Hid (showC s.blocks s.cache i = showC s.blocks (s.cache.take s.cache.length) i) := Lib.hid (by rw [List.take_length])
      have HRC := Lib.hid RC
      obtain ⟨bl, hbl⟩ : ∃ bl, s.blocks = bl := ⟨_, rfl⟩
      obtain ⟨cl, hcl2⟩ : ∃ cl, s.cache = cl := ⟨_, rfl⟩
      rw [hbl, hcl2] at HC HV
      rw [hbl] at hil HX0 c0
      rw [hcl2] at HRC hcl c1
      have HI := Lib.hid hi
      clear hd hi hx0 RB RC hbl hcl2
      go_enter Try.func21, Try.ntmps21
      go_wp2_with fail
      refine HM.out.mono ?_
      rintro e w1 ⟨rfl, rfl⟩
      rw [HM2.out]
      go_wp2_with fail
      refine HA.out.mono ?_
      rintro e w1 ⟨rfl, rfl⟩
      have hclI : (cl.length : Int) ≤ 4096 := by omega
      clear hcl
      go_wp2_with fail
      go_loopg [7] 4097 (fun g k wx => ∃ (m : Nat) (x : Int), k = .int .i64 x ∧ x = (m : Int) - 1 ∧ m ≤ cl.length ∧ Hid (m ≤ g) ∧ Hid (showC bl cl i = showC bl (cl.take m) i) ∧ wx = w1)
      case atStart => exact ⟨cl.length, _, rfl, rfl, Nat.le_refl _, Lib.hid (by omega), HC, rfl⟩
      case round =>
        obtain ⟨m, x, rfl, hx, hm, hg, hS, rfl⟩ := hrel
        cases m with
        | zero =>
          obtain rfl : x = -1 := by omega
          have HS := Lib.hid (show showC bl cl i = x0 by rw [hS.out, List.take_zero, showC]; exact HX0.out)
          clear hS hx
          go_wp2
          exact HR.out _ _ ⟨by rw [HV.out, HS.out]; rfl, rfl⟩
        | succ m =>
          obtain rfl : x = (m : Int) := by omega
          obtain ⟨p, hp⟩ : ∃ p, cl[m]? = some p := ⟨_, List.getElem?_eq_getElem (by omega)⟩
          obtain ⟨gc, oc, rfl, hgc, d0, d1⟩ := HRC.out.putAt m p hp
          obtain ⟨pa, pd⟩ := p
          simp only at d0 d1
          have hmI : (m : Int) < (cl.length : Int) := by omega
          by_cases hpi : pa = i
          · have HS := Lib.hid (show showC bl cl i = pd by rw [hS.out]; exact showC_hit bl cl m i _ hp hpi)
            have heq : (pa == (i : Int)) = true := by rw [beq_iff_eq]; exact hpi
            clear hS hp hx hpi
            go_wp2
            exact HR.out _ _ ⟨by rw [HV.out, HS.out]; rfl, rfl⟩
          · have HS := Lib.hid (show showC bl cl i = showC bl (cl.take m) i by rw [hS.out]; exact showC_miss bl cl m i _ hp hpi)
            have heq : (pa == (i : Int)) = false := by rw [beq_eq_false_iff_ne]; exact hpi
            clear hS hp hx hpi
            go_wp2_with fail
            go_roundg (gk - 1)
            case rel => exact ⟨m, _, rfl, rfl, by omega, Lib.hid (by have := hg.out; omega), HS, rfl⟩
            case measure => have := hg.out; omega
  · have HM2 := Lib.hid (show mayN s = 14 by rw [mayN, hd]; rfl)
    have HV := Lib.hid (show readD s i = (⟨#[]⟩, 14) by simp [readD, hd])
    clear hd c0 c1 RB RC
    go_enter Try.func21, Try.ntmps21
    go_wp2_with fail
    refine HM.out.mono ?_
    rintro e w1 ⟨rfl, rfl⟩
    rw [HM2.out]
    go_wp2
    exact HR.out _ _ ⟨by rw [HV.out]; rfl, rfl⟩

set_option maxRecDepth 20000 in
set_option maxHeartbeats 1000000 in
theorem dwrite_any (i : Int) (t : ByteArray) (w : World) (h : DkAt w n vb vc s) : Calls Try.prog 16 #[.pointer (some ⟨n, 0, none⟩), .int .i64 i, .string t] w fun e w' => ∃ vc', e = .returned (.int .i64 (writeE s i t)) ∧ DkAt w' n vb vc' (writeD s i t) ∧ Turn w w' (DF n vb vc) (DF n vb vc') := by
  refine calls_by fun R HR => ?_
  have HM := Lib.hid (dmay_any w h)
  have HP := Lib.hid (dplace_any i t w h)
  have HH := Lib.hid h
  obtain ⟨c0, c1, c2, c3, c4⟩ := h.cells
  obtain ⟨a0, cap0, hv0, _⟩ := h.rb.shape
  obtain ⟨a1, cap1, hv1, _⟩ := h.rc.shape
  clear c2 c3 c4
  cases hd : s.down
  · have HM2 := Lib.hid (show mayN s = 0 by rw [mayN, hd]; rfl)
    by_cases hp : placeE s i t = 0
    · have hpi := place_in (show ¬ placeE s i t ≠ 0 by simpa using hp)
      rw [hp] at HP
      by_cases hf : 4096 ≤ s.cache.length
      · have HV := Lib.hid (show writeE s i t = 5 ∧ writeD s i t = s by simp [writeE, writeD, hd, hp, hf])
        have hfi : 4096 ≤ (s.cache.length : Int) := by omega
        rw [hv1] at c1
        clear h hd hp hpi
        generalize s.cache.length = cl at *
        go_enter Try.func16, Try.ntmps16
        go_wp2_with fail
        refine HM.out.mono ?_
        rintro e w1 ⟨rfl, rfl⟩
        rw [HM2.out]
        go_wp2_with fail
        refine HP.out.mono ?_
        rintro e w1 ⟨rfl, rfl⟩
        go_wp2
        exact HR.out _ _ ⟨vc, by rw [HV.out.1]; rfl, by rw [HV.out.2]; exact HH.out, Turn.refl _ _⟩
      · have hfi : ¬ 4096 ≤ (s.cache.length : Int) := by omega
        have HC := Lib.hid (show s.cache.length < 4096 by omega)
        have HS := Lib.hid (dstep_any w h hd)
        cases hs : (stepD s).down
        · have HV := Lib.hid (show writeE s i t = 0 ∧ writeD s i t = { stepD s with cache := s.cache ++ [(i, t)] } by simp [writeE, writeD, hd, hp, hf, hs])
          have HPI := Lib.hid hpi
          rw [hs] at HS
          rw [hv1] at c1
          clear h hd hp hf hs hpi
          go_enter Try.func16, Try.ntmps16
          go_wp2_with fail
          refine HM.out.mono ?_
          rintro e w1 ⟨rfl, rfl⟩
          rw [HM2.out]
          go_wp2_with fail
          refine HP.out.mono ?_
          rintro e w1 ⟨rfl, rfl⟩
          go_wp2_with fail
          refine HS.out.mono ?_
          rintro e w2 ⟨rfl, hd2, ht2⟩
          have HD := Lib.hid (And.intro hd2 ht2)
          have e1 := hd2.cells.2.1
          have f1 := hd2.froz 1
          rw [hv1] at e1
          have hrow : Row pwE w2 0 75 (.slice a1 s.cache.length cap1) s.cache := by rw [← hv1, ← stepD_cache s]; exact hd2.rc
          have HRow := Lib.hid hrow
          have HVC := Lib.hid hv1
          clear hd2 ht2 c1 c0 hfi hrow hv1
          go_wp2_with (at_builtin; refine wpList_append_row _ rfl _ _ 38 rfl pwT 0 _ _ s.cache [(i, t)] rfl rfl (HRow.out.below (alloc_below _ _)) (Rd.single (E := pwE) (i, t) (alloc_new _ _) rfl) (Nat.zero_le _) (by have := HC.out; simp; omega) (by decide) ?_)
          intro v' w3 hG
          have HG := Lib.hid hG
          have hnb : Value.ownBlock (.slice a1 s.cache.length cap1) ≠ some n := by rw [← HVC.out]; exact HD.out.1.nc
          have hb3 := hG.block (blk_keep HD.out.1.blk _) hnb
          have k1 : w3.cell? ⟨n, 1, none⟩ = some vc := by rw [cell_of_row w3 n 1 _ _ _ hb3]; rfl
          have g1 : w3.frozen? ⟨n, 1, none⟩ = false := frozen_of_row w3 n 1 _ _ hb3
          have HB3 := Lib.hid hb3
          obtain ⟨a2, n2, cap2, rfl⟩ := hG.1.any
          clear hG hb3 e1 f1 hnb
          rw [HVC.out] at k1
          go_wp2
          have hG := HG.out
          rw [← HVC.out, ← stepD_cache s] at hG
          obtain ⟨q1, q2⟩ := HD.out.1.append _ hG (by
            have h1 := stepD_ok HH.out.ok
            refine ⟨h1.blocks, by show (((stepD s).cache) ++ [(i, t)]).length ≤ _; rw [stepD_cache]; have := HC.out; simp; omega, fun p hp => ?_, h1.left⟩
            show 0 ≤ p.1 ∧ p.1 < ((stepD s).blocks.length : Int)
            rcases List.mem_append.1 hp with h2 | h2
            · exact h1.at_ p h2
            · simp at h2; subst h2; rw [stepD_blocks]; exact ⟨HPI.out.1, HPI.out.2.1⟩)
          rw [stepD_cache] at q1
          exact HR.out _ _ ⟨_, by rw [HV.out.1]; rfl, by rw [HV.out.2]; exact q1, HD.out.2.trans q2⟩
        · have HV := Lib.hid (show writeE s i t = 14 ∧ writeD s i t = stepD s by simp [writeE, writeD, hd, hp, hf, hs])
          rw [hs] at HS
          rw [hv1] at c1
          clear h hd hp hf hs hpi
          generalize s.cache.length = cl at *
          go_enter Try.func16, Try.ntmps16
          go_wp2_with fail
          refine HM.out.mono ?_
          rintro e w1 ⟨rfl, rfl⟩
          rw [HM2.out]
          go_wp2_with fail
          refine HP.out.mono ?_
          rintro e w1 ⟨rfl, rfl⟩
          go_wp2_with fail
          refine HS.out.mono ?_
          rintro e w2 ⟨rfl, hd2, ht2⟩
          have HD := Lib.hid (And.intro hd2 ht2)
          clear hd2 ht2
          go_wp2
          exact HR.out _ _ ⟨vc, by rw [HV.out.1]; rfl, by rw [HV.out.2]; exact HD.out.1, HD.out.2⟩
    · have HV := Lib.hid (show writeE s i t = placeE s i t ∧ writeD s i t = s by simp [writeE, writeD, hd, hp])
      have hpb : (placeE s i t != 0) = true := by rw [bne_iff_ne]; exact hp
      clear h hd hp c0 c1
      generalize placeE s i t = pe at *
      go_enter Try.func16, Try.ntmps16
      go_wp2_with fail
      refine HM.out.mono ?_
      rintro e w1 ⟨rfl, rfl⟩
      rw [HM2.out]
      go_wp2_with fail
      refine HP.out.mono ?_
      rintro e w1 ⟨rfl, rfl⟩
      go_wp2
      exact HR.out _ _ ⟨vc, by rw [HV.out.1]; rfl, by rw [HV.out.2]; exact HH.out, Turn.refl _ _⟩
  · have HM2 := Lib.hid (show mayN s = 14 by rw [mayN, hd]; rfl)
    have HV := Lib.hid (show writeE s i t = 14 ∧ writeD s i t = s by simp [writeE, writeD, hd])
    clear h hd c0 c1
    go_enter Try.func16, Try.ntmps16
    go_wp2_with fail
    refine HM.out.mono ?_
    rintro e w1 ⟨rfl, rfl⟩
    rw [HM2.out]
    go_wp2
    exact HR.out _ _ ⟨vc, by rw [HV.out.1]; rfl, by rw [HV.out.2]; exact HH.out, Turn.refl _ _⟩

set_option maxHeartbeats 1000000 in
theorem darm_any (m : Int) (w : World) (h : DkAt w n vb vc s) (hm : m ≤ 9223372036854775807) : Calls Try.prog 22 #[.pointer (some ⟨n, 0, none⟩), .int .i64 m] w fun e w' => e = .returned (.int .i64 (armE s m)) ∧ DkAt w' n vb vc (armD s m) ∧ Turn w w' (DF n vb vc) (DF n vb vc) := by
  refine calls_by fun R HR => ?_
  have HM := Lib.hid (dmay_any w h)
  have HH := Lib.hid h
  have c4 := h.cells.2.2.2.2
  have f4 := h.froz 4
  cases hd : s.down
  · have HM2 := Lib.hid (show mayN s = 0 by rw [mayN, hd]; rfl)
    by_cases hneg : m < 0
    · have HV := Lib.hid (show armE s m = 2 ∧ armD s m = s by simp [armE, armD, hd, hneg])
      clear h hd
      go_enter Try.func22, Try.ntmps22
      go_wp2_with fail
      refine HM.out.mono ?_
      rintro e w1 ⟨rfl, rfl⟩
      rw [HM2.out]
      go_wp2
      exact HR.out _ _ ⟨by rw [HV.out.1]; rfl, by rw [HV.out.2]; exact HH.out, Turn.refl _ _⟩
    · obtain ⟨k, rfl⟩ := Int.eq_ofNat_of_zero_le (show 0 ≤ m by omega)
      have HV := Lib.hid (show armE s k = 0 ∧ armD s k = { s with left := k } by simp [armE, armD, hd, hneg])
      have hdk := Lib.hid hd
      clear h hd
      go_enter Try.func22, Try.ntmps22
      go_wp2_with fail
      refine HM.out.mono ?_
      rintro e w1 ⟨rfl, rfl⟩
      rw [HM2.out]
      go_wp2
      obtain ⟨q1, q2⟩ := HH.out.head (Turn.cell1 w1 n 4 (.int .i64 (k : Nat))) { s with left := k } (set_blk HH.out.blk 4 _) rfl rfl ⟨HH.out.ok.blocks, HH.out.ok.cache, HH.out.ok.at_, by show k ≤ _; omega⟩
      exact HR.out _ _ ⟨by rw [HV.out.1]; rfl, by rw [HV.out.2]; exact q1, q2⟩
  · have HM2 := Lib.hid (show mayN s = 14 by rw [mayN, hd]; rfl)
    have HV := Lib.hid (show armE s m = 14 ∧ armD s m = s by simp [armE, armD, hd])
    clear h hd
    go_enter Try.func22, Try.ntmps22
    go_wp2_with fail
    refine HM.out.mono ?_
    rintro e w1 ⟨rfl, rfl⟩
    rw [HM2.out]
    go_wp2
    exact HR.out _ _ ⟨by rw [HV.out.1]; rfl, by rw [HV.out.2]; exact HH.out, Turn.refl _ _⟩

set_option maxHeartbeats 1000000 in
theorem dboot_any (w : World) (h : DkAt w n vb vc s) : Calls Try.prog 13 #[.pointer (some ⟨n, 0, none⟩)] w fun e w' => e = .returned (.int .i64 0) ∧ DkAt w' n vb (.slice none 0 0) (bootD s) ∧ Turn w w' (DF n vb vc) (DF n vb (.slice none 0 0)) := by
  refine calls_by fun R HR => ?_
  have HH := Lib.hid h
  obtain ⟨c0, c1, c2, c3, c4⟩ := h.cells
  have f1 := h.froz 1
  have f3 := h.froz 3
  have f4 := h.froz 4
  have HT := Lib.hid (dthere_yes n w c2)
  clear h c0 c2
  go_enter Try.func13, Try.ntmps13
  go_wp2_with fail
  refine HT.out.mono ?_
  rintro e w1 ⟨rfl, rfl⟩
  go_wp2
  have hT := ((Turn.cell w1 (F := fun k => k = n ∨ vc.ownBlock = some k) n 1 (.slice none 0 0) (Or.inl rfl)).trans (Turn.cell _ n 3 (.bool false) (Or.inl rfl))).trans (Turn.cell _ n 4 (.int .i64 0) (Or.inl rfl))
  obtain ⟨q1, q2⟩ := HH.out.cached (bootD s) hT (set_blk (set_blk (set_blk HH.out.blk 1 (.slice none 0 0)) 3 (.bool false)) 4 (.int .i64 0)) (Row.nil _ _ _) (fun b e => by simp [Value.ownBlock] at e) rfl (bootD_ok HH.out.ok)
  exact HR.out _ _ ⟨rfl, q1, q2⟩

set_option maxHeartbeats 1000000 in
theorem dover_any (i : Int) (t : ByteArray) (w : World) (h : DkAt w n vb vc s) : Calls Try.prog 23 #[.pointer (some ⟨n, 0, none⟩), .int .i64 i, .string t] w fun e w' => e = .returned (.int .i64 (placeE s i t)) ∧ DkAt w' n vb vc (overD s i t) ∧ Turn w w' (DF n vb vc) (DF n vb vc) := by
  refine calls_by fun R HR => ?_
  have HP := Lib.hid (dplace_any i t w h)
  have HH := Lib.hid h
  obtain ⟨c0, c1, c2, c3, c4⟩ := h.cells
  have HT := Lib.hid (dthere_yes n w c2)
  clear c1 c2 c3 c4
  by_cases hp : placeE s i t = 0
  · have HV := Lib.hid (show overD s i t = { s with blocks := s.blocks.set i.toNat t } by simp [overD, hp])
    have hpi := place_in (show ¬ placeE s i t ≠ 0 by simpa using hp)
    obtain ⟨i, rfl⟩ := Int.eq_ofNat_of_zero_le hpi.1
    have hil : i < s.blocks.length := by omega
    obtain ⟨g, cap, rfl, hcap, _, hg, _⟩ := h.rb.pos (by omega)
    obtain ⟨g', o', e, _, cg⟩ := h.rb.rd.str i hil
    simp only [Option.some.injEq, Addr.mk.injEq, and_true] at e
    obtain ⟨rfl, rfl⟩ := e
    rw [Nat.zero_add] at cg
    have fg : w.frozen? ⟨g, i, none⟩ = false := by
      rcases h.rb.2 with ⟨e, _⟩ | ⟨g', cap', cur, e, _, hgb, _⟩
      · cases e
      · cases e
        exact frozen_of_row w g i _ _ hgb
    rw [hp] at HP
    have hili : (i : Int) < (s.blocks.length : Int) := by omega
    have HPE := Lib.hid hp
    have HIL := Lib.hid hil
    clear h hp hpi
    go_enter Try.func23, Try.ntmps23
    go_wp2_with fail
    refine HT.out.mono ?_
    rintro e w1 ⟨rfl, rfl⟩
    go_wp2_with fail
    refine HP.out.mono ?_
    rintro e w1 ⟨rfl, rfl⟩
    go_wp2
    obtain ⟨q1, q2⟩ := HH.out.rows (Turn.cell w1 (F := fun k => Value.ownBlock (.slice (some ⟨g, 0, none⟩) s.blocks.length cap) = some k) g i (.string t) rfl) (s.blocks.set i t) (HH.out.rb.set1 rfl i HIL.out t _ rfl)
      ⟨by show (s.blocks.set _ _).length ≤ _; rw [List.length_set]; exact HH.out.ok.blocks, HH.out.ok.cache, fun p hp => by show _ ∧ _ < ((s.blocks.set _ _).length : Int); rw [List.length_set]; exact HH.out.ok.at_ p hp, HH.out.ok.left⟩
    exact HR.out _ _ ⟨by rw [HPE.out]; rfl, by rw [HV.out]; exact q1, q2⟩
  · have HV := Lib.hid (show overD s i t = s by simp [overD, hp])
    have hpb : (placeE s i t != 0) = true := by rw [bne_iff_ne]; exact hp
    clear h hp c0
    generalize placeE s i t = pe at *
    go_enter Try.func23, Try.ntmps23
    go_wp2_with fail
    refine HT.out.mono ?_
    rintro e w1 ⟨rfl, rfl⟩
    go_wp2_with fail
    refine HP.out.mono ?_
    rintro e w1 ⟨rfl, rfl⟩
    go_wp2
    exact HR.out _ _ ⟨rfl, by rw [HV.out]; exact HH.out, Turn.refl _ _⟩
theorem dsize_any (w : World) (h : DkAt w n vb vc s) : Calls Try.prog 24 #[.pointer (some ⟨n, 0, none⟩)] w fun e w' => e = .returned (.int .i64 (s.blocks.length : Nat)) ∧ w' = w := by
  refine calls_by fun R HR => ?_
  obtain ⟨c0, c1, c2, c3, c4⟩ := h.cells
  have HT := Lib.hid (dthere_yes n w c2)
  obtain ⟨a0, cap0, hv0, _⟩ := h.rb.shape
  rw [hv0] at c0
  clear h c1 c2 c3 c4 hv0
  generalize s.blocks.length = m at *
  go_enter Try.func24, Try.ntmps24
  go_wp2_with fail
  refine HT.out.mono ?_
  rintro e w1 ⟨rfl, rfl⟩
  go_wp2
  exact HR.out _ _ ⟨rfl, rfl⟩
theorem ddown_any (w : World) (h : DkAt w n vb vc s) : Calls Try.prog 20 #[.pointer (some ⟨n, 0, none⟩)] w fun e w' => e = .returned (.bool s.down) ∧ w' = w := by
  refine calls_by fun R HR => ?_
  obtain ⟨c0, c1, c2, c3, c4⟩ := h.cells
  have HT := Lib.hid (dthere_yes n w c2)
  clear h c0 c1 c2 c4
  go_enter Try.func20, Try.ntmps20
  go_wp2_with fail
  refine HT.out.mono ?_
  rintro e w1 ⟨rfl, rfl⟩
  go_wp2
  exact HR.out _ _ ⟨rfl, rfl⟩
end Go.Proofs.Ytielmlnbjliacaa
