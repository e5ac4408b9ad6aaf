/- Texts that the claim rests on, part 14: ModSeal, ModDoes. -/
import Derived.Test.YtnkiokaeooopgaaGreatM13
/- A clock's tick, how a model stands, a call that is a record: of the program's model. -/
set_option maxRecDepth 100000
namespace Go.Proofs.YtnkiokaeooopgaaGreat
open Go.RowKit Ks Go.Maps
set_option linter.unusedVariables false
set_option linter.unusedSimpArgs false
theorem bholds_any {n c mu mh mg : Nat} {b : BookT} (w : World) (h : BookAt w n c mu mh mg b) : Calls Tryz.prog 47 #[.pointer (some ⟨n, 0, none⟩)] w fun e w' => e = .returned (.int .i64 b.holds.length) ∧ w' = w := by
  refine calls_by fun R HR => ?_
  have HT := Lib.hid (bthere_yes w h)
  have HB := Lib.hid h
  obtain ⟨⟨z0, z1, z2, z3, z4, z5⟩, fz⟩ := blk6 h.blk
  clear h fz
  go_enter Tryz.func47, Tryz.ntmps47
  go_wp2_with fail
  refine HT.out.mono ?_
  rintro en v1 ⟨rfl, hw⟩
  rw [hw]
  clear hw
  go_wp2_with (at_len; refine wpList_mlen _ rfl _ 84 rfl 3 Tryz.underlying84 HB.out.holds rfl ?_)
  exact HR.out _ _ ⟨rfl, rfl⟩
def tickN (t u : Int) : Int := if u < 0 ∨ 1099511627776 < u then 2 else if u < t then 11 else 0
theorem ctick_all (c : Nat) (t u : Int) (w : World) (h : w.heap[c]? = some (.cells #[.bool true, .int .i64 t] 82 (0, 0))) : Calls Tryz.prog 20 #[.pointer (some ⟨c, 0, none⟩), .int .i64 u] w fun e w' => e = .returned (.int .i64 (tickN t u)) ∧ w' = if tickN t u = 0 then w.setCell ⟨c, 1, none⟩ (.int .i64 u) else w := by
  by_cases h0 : u < 0
  · have e : tickN t u = 2 := by rw [tickN, if_pos (Or.inl h0)]
    rw [e]
    refine calls_by fun R HR => ?_
    have HT := Lib.hid (cthere_yes c t w h)
    obtain ⟨z0, z1, fz0, fz1⟩ := blk2 h
    clear h e
    go_enter Tryz.func20, Tryz.ntmps20
    go_wp2_with fail
    refine HT.out.mono ?_
    rintro en v1 ⟨rfl, hw⟩
    rw [hw]
    clear hw
    go_wp2
    exact HR.out _ _ ⟨rfl, rfl⟩
  by_cases h1 : 1099511627776 < u
  · have e : tickN t u = 2 := by rw [tickN, if_pos (Or.inr h1)]
    rw [e]
    refine calls_by fun R HR => ?_
    have HT := Lib.hid (cthere_yes c t w h)
    obtain ⟨z0, z1, fz0, fz1⟩ := blk2 h
    clear h e
    go_enter Tryz.func20, Tryz.ntmps20
    go_wp2_with fail
    refine HT.out.mono ?_
    rintro en v1 ⟨rfl, hw⟩
    rw [hw]
    clear hw
    go_wp2
    exact HR.out _ _ ⟨rfl, rfl⟩
  by_cases h2 : u < t
  · have e : tickN t u = 11 := by rw [tickN, if_neg (fun q => q.elim h0 h1), if_pos h2]
    rw [e]
    refine calls_by fun R HR => ?_
    have HT := Lib.hid (cthere_yes c t w h)
    obtain ⟨z0, z1, fz0, fz1⟩ := blk2 h
    clear h e
    go_enter Tryz.func20, Tryz.ntmps20
    go_wp2_with fail
    refine HT.out.mono ?_
    rintro en v1 ⟨rfl, hw⟩
    rw [hw]
    clear hw
    go_wp2
    exact HR.out _ _ ⟨rfl, rfl⟩
  have e : tickN t u = 0 := by rw [tickN, if_neg (fun q => q.elim h0 h1), if_neg h2]
  rw [e]
  exact ctick_any c t u w h h0 h1 h2
theorem stat_one (a b c d e f : Int) : (#[.int .i64 a, .int .i64 b, .int .i64 c, .int .i64 d, .int .i64 e, .int .i64 f] : Array Value).all (fun v => v.oneCell') = true := by simp [Value.oneCell']
set_option maxRecDepth 100000 in
set_option maxHeartbeats 8000000 in
theorem mstat_any {n cc bn c mu mh mg : Nat} {rv vv : Value} {m : ModT} (w : World) (h : ModAt w n cc bn c mu mh mg rv vv m) (hg : -9223372036854775808 ≤ m.geo.blocks ∧ m.geo.blocks ≤ 9223372036854775807) (hv : ∀ v ∈ m.vers, 0 ≤ v.1 ∧ v.1 < 4096) (hl : m.vers.length ≤ 1000000) :
    Calls Tryz.prog 19 #[.pointer (some ⟨n, 0, none⟩)] w fun e w' => e = .returned (.agg #[.int .i64 m.book.epoch, .int .i64 m.now, .int .i64 (roomM m), .int .i64 m.recs.length, .int .i64 (placesN m m.geo.first), .int .i64 m.book.holds.length]) ∧ Below w.heap.size w w' := by
  refine calls_by fun R HR => ?_
  have HD := Lib.hid h
  have HE := Lib.hid (fun w (h : ModAt w n cc bn c mu mh mg rv vv m) => (bepoch_any w h.book).mono (R' := fun e w' => e = .returned (.int .i64 m.book.epoch) ∧ Below w.heap.size w w') fun e w' ⟨h1, h2⟩ => ⟨h1, by rw [h2]; exact Below.refl _ _⟩)
  have HN := Lib.hid (fun w (h : ModAt w n cc bn c mu mh mg rv vv m) => (cnow_any cc m.now w h.clk).mono (R' := fun e w' => e = .returned (.int .i64 m.now) ∧ Below w.heap.size w w') fun e w' ⟨h1, h2⟩ => ⟨h1, by rw [h2]; exact Below.refl _ _⟩)
  have HH := Lib.hid (fun w (h : ModAt w n cc bn c mu mh mg rv vv m) => (bholds_any w h.book).mono (R' := fun e w' => e = .returned (.int .i64 m.book.holds.length) ∧ Below w.heap.size w w') fun e w' ⟨h1, h2⟩ => ⟨h1, by rw [h2]; exact Below.refl _ _⟩)
  have HRo := Lib.hid (fun w (h : ModAt w n cc bn c mu mh mg rv vv m) => mroom_any w h hg)
  have HPs := Lib.hid (fun w (h : ModAt w n cc bn c mu mh mg rv vv m) => mplaces_any m.geo.first w h hv hl)
  obtain ⟨rra, rrc, hrs, -⟩ := h.recs.shape
  subst hrs
  generalize roomM m = RM at *
  generalize placesN m m.geo.first = PN at *
  clear h hg hv hl
  have H1 := Lib.hid (And.intro (Below.refl w.heap.size w) (HD.out))
  obtain ⟨W1, hW1⟩ : ∃ W1, w.alloc (.cells #[.int .i64 0, .int .i64 0, .int .i64 0, .int .i64 0, .int .i64 0, .int .i64 0] 37) = W1 := ⟨_, rfl⟩
  have hbW1 : Below w.heap.size w W1 := by rw [← hW1]; exact alloc_below w _
  have kW1 : W1.heap[w.heap.size]? = some (.cells #[.int .i64 0, .int .i64 0, .int .i64 0, .int .i64 0, .int .i64 0, .int .i64 0] 37 (0, 0)) := by rw [← hW1]; exact alloc_new w _
  have H2 := Lib.hid (And.intro (H1.out.1.trans (hbW1.mono H1.out.1.size)) (And.intro (H1.out.2.below hbW1) (kW1)))
  clear hbW1 kW1
  obtain ⟨⟨z0, z1, z2, z3, z4, z5, z6, z7⟩, -⟩ := blkR H2.out.2.1.blk
  go_enter Tryz.func19, Tryz.ntmps19
  go_upto_region 1 with fail
  clear hW1
  have gz0 := fun p => after_cell z0 p
  have gz2 := fun p => after_cell z2 p
  have gz4 := fun p => after_cell z4 p
  have gz5 := fun p => after_cell z5 p
  have gz6 := fun p => after_cell z6 p
  have cc0 := Lib.hid (fun p => calls_after (p := p) (HE.out (After W1 p) (H2.out.2.1.below (after_below W1 p))))
  have cc1 := Lib.hid (fun p => calls_after (p := p) (HN.out (After W1 p) (H2.out.2.1.below (after_below W1 p))))
  have cc2 := Lib.hid (fun p => calls_after (p := p) (HRo.out (After W1 p) (H2.out.2.1.below (after_below W1 p))))
  have cc3 := Lib.hid (fun p => calls_after (p := p) (HPs.out (After W1 p) (H2.out.2.1.below (after_below W1 p))))
  have cc4 := Lib.hid (fun p => calls_after (p := p) (HH.out (After W1 p) (H2.out.2.1.below (after_below W1 p))))
  refine wp_region_after_tail 30 (by kernel_rfl) (by kernel_rfl) ?_
  simp only [List.take_succ_cons, List.take_zero, List.drop_succ_cons, List.drop_zero]
  repeat (go_big_quiet_step (fail))
  go_big_quiet_step (with_reducible exact cc0.out _)
  repeat (go_big_quiet_step (fail))
  go_big_quiet_step (with_reducible exact cc1.out _)
  repeat (go_big_quiet_step (fail))
  go_big_quiet_step (with_reducible exact cc2.out _)
  repeat (go_big_quiet_step (fail))
  go_big_quiet_step (with_reducible exact cc3.out _)
  repeat (go_big_quiet_step (fail))
  go_big_quiet_step (with_reducible exact cc4.out _)
  repeat (go_big_quiet_step (fail))
  refine wpQuiet_nil ?_
  rintro q1 ⟨p9, rfl⟩
  have hb := after_below W1 p9
  have H3 := Lib.hid (And.intro (H2.out.1.trans (hb.mono H2.out.1.size)) (And.intro (H2.out.2.1.below hb) (blk_on hb H2.out.2.2)))
  generalize After W1 p9 = q1 at *
  clear hb gz0 gz2 gz4 gz5 gz6 z0 z1 z2 z3 z4 z5 z6 z7 cc0 cc1 cc2 cc3 cc4
  obtain ⟨WR, hWR⟩ : ∃ W, q1.setRow w.heap.size #[.int .i64 m.book.epoch, .int .i64 m.now, .int .i64 RM, .int .i64 m.recs.length, .int .i64 PN, .int .i64 m.book.holds.length] = W := ⟨_, rfl⟩
  have KE := Lib.hid (show WR.heap[w.heap.size]? = some (.cells #[.int .i64 m.book.epoch, .int .i64 m.now, .int .i64 RM, .int .i64 m.recs.length, .int .i64 PN, .int .i64 m.book.holds.length] 37 (0, 0)) by rw [← hWR]; exact setRow_heap q1 _ _ _ _ _ H3.out.2.2)
  have BE := Lib.hid (show Below w.heap.size w WR by rw [← hWR]; exact below_setRow H3.out.1 (Nat.le_refl _) _)
  go_wp2_with (refine wpList_store_blk rfl 37 (.tmp 2) (.tmp 32) rfl w.heap.size 0 6 rfl #[.int .i64 0, .int .i64 0, .int .i64 0, .int .i64 0, .int .i64 0, .int .i64 0] #[.int .i64 m.book.epoch, .int .i64 m.now, .int .i64 RM, .int .i64 m.recs.length, .int .i64 PN, .int .i64 m.book.holds.length] #[.int .i64 m.book.epoch, .int .i64 m.now, .int .i64 RM, .int .i64 m.recs.length, .int .i64 PN, .int .i64 m.book.holds.length] rfl 37 H3.out.2.2 rfl (Nat.le_refl 6) (by kernel_rfl) (stat_one _ _ _ _ _ _) (splice_all _ _ rfl) ?_; rw [hWR])
  obtain ⟨⟨y0, y1, y2, y3, y4, y5⟩, -⟩ := blk6 KE.out
  refine bodyPost_ret (v := .agg #[.int .i64 m.book.epoch, .int .i64 m.now, .int .i64 RM, .int .i64 m.recs.length, .int .i64 PN, .int .i64 m.book.holds.length]) (by simp [results, Tryz.results19, go_sem, y0, y1, y2, y3, y4, y5]) rfl ?_
  exact HR.out _ _ ⟨rfl, BE.out⟩
set_option maxRecDepth 100000 in
set_option maxHeartbeats 8000000 in
theorem mseal_any {n cc bn c mu mh mg : Nat} {rv vv : Value} {m : ModT} (cl : CallT) (ka : Option Addr) (kn kc : Nat) (w : World) (h : ModAt w n cc bn c mu mh mg rv vv m) (h7 : Seven n cc bn c mu mh mg) (hg : -9223372036854775808 ≤ m.geo.blocks ∧ m.geo.blocks ≤ 9223372036854775807) (hh : m.book.holds.length ≤ 1000000) (hu : 0 ≤ m.used ∧ m.used ≤ 1000000000) (hn : m.recs.length ≤ 1000000)
    (hce : -9223372036854775808 ≤ cl.epoch ∧ cl.epoch ≤ 9223372036854775807) (hna : cl.name.size ≤ maxLen) :
    Calls Tryz.prog 22 #[.pointer (some ⟨n, 0, none⟩), callV cl ka kn kc] w fun e w' =>
      e = .returned (.int .i64 (sealE m cl)) ∧ ∃ rv', ModAt w' n cc bn c mu mh mg rv' vv (sealM m cl) ∧ Turn w w' (FM n cc bn c mu mh mg rv vv) (FM n cc bn c mu mh mg rv' vv) := by
  refine calls_by fun R HR => ?_
  have HD := Lib.hid h
  have hml : maxLen ≤ 9223372036854775807 := by decide
  have HMe := Lib.hid (fun w (h : ModAt w n cc bn c mu mh mg rv vv m) => mmeans_any cl ka kn kc w h hce (Nat.le_trans hna hml))
  have hfit : fitRec (meansR m cl) := by
    have d0 : (-9223372036854775808 : Int) ≤ 0 ∧ (0 : Int) ≤ 9223372036854775807 := by decide
    unfold meansR fitRec
    split
    · exact ⟨hce, Nat.zero_le _⟩
    · split
      · exact ⟨hce, hna⟩
      · split
        · exact ⟨d0, hna⟩
        · exact ⟨hce, Nat.zero_le _⟩
  have HMy := Lib.hid (fun w (h : ModAt w n cc bn c mu mh mg rv vv m) => bmay_any (meansR m cl) w h.book hfit hh)
  have HRo := Lib.hid (fun w (h : ModAt w n cc bn c mu mh mg rv vv m) => mroom_any w h hg)
  have HAp := Lib.hid (fun w (h : ModAt w n cc bn c mu mh mg rv vv m) => mapply_any (meansR m cl) w h h7 hfit hh hu hn)
  have HZ0 : Hid (sealE m cl = if meansE m cl ≠ 0 then meansE m cl else if mayE m.book (meansR m cl) ≠ 0 then mayE m.book (meansR m cl) else if roomM m = 0 then 5 else 0) := Lib.hid rfl
  have HM0 : Hid (sealM m cl = if sealE m cl = 0 then applyM m (meansR m cl) else m) := Lib.hid rfl
  clear h h7 hg hh hu hn hce hna hfit hml
  generalize applyM m (meansR m cl) = AM at *
  generalize sealM m cl = SM at *
  generalize sealE m cl = SE at *
  generalize mayE m.book (meansR m cl) = YE at *
  generalize roomM m = RM at *
  generalize meansE m cl = ME at *
  generalize meansR m cl = MR at *
  have HZa : Hid (ME ≠ 0 → SE = ME ∧ SM = m) := Lib.hid fun q => by
    have e : SE = ME := by rw [HZ0.out, if_pos q]
    exact ⟨e, by rw [HM0.out, if_neg (by rw [e]; exact q)]⟩
  have HZb : Hid (ME = 0 → YE ≠ 0 → SE = YE ∧ SM = m) := Lib.hid fun q0 q => by
    have e : SE = YE := by rw [HZ0.out, if_neg (by simp [q0]), if_pos q]
    exact ⟨e, by rw [HM0.out, if_neg (by rw [e]; exact q)]⟩
  have HZc : Hid (ME = 0 → YE = 0 → RM = 0 → SE = 5 ∧ SM = m) := Lib.hid fun q0 q q2 => by
    have e : SE = 5 := by rw [HZ0.out, if_neg (by simp [q0]), if_neg (by simp [q]), if_pos q2]
    exact ⟨e, by rw [HM0.out, if_neg (by rw [e]; decide)]⟩
  have HZd : Hid (ME = 0 → YE = 0 → RM ≠ 0 → SE = 0 ∧ SM = AM) := Lib.hid fun q0 q q2 => by
    have e : SE = 0 := by rw [HZ0.out, if_neg (by simp [q0]), if_neg (by simp [q]), if_neg q2]
    exact ⟨e, by rw [HM0.out, if_pos e]⟩
  clear HZ0 HM0
  obtain ⟨ki, lb, ce, ti, da, na⟩ := cl
  have H1 := Lib.hid (And.intro (Below.refl w.heap.size w) (HD.out))
  obtain ⟨W1, hW1⟩ : ∃ W1, w.alloc (.cells #[.int .i64 ki, .int .i64 lb, .int .i64 ce, .int .i64 ti, .string da, .string na, .slice ka kn kc] 35) = W1 := ⟨_, rfl⟩
  have hbW1 : Below w.heap.size w W1 := by rw [← hW1]; exact alloc_below w _
  have kW1 : W1.heap[w.heap.size]? = some (.cells #[.int .i64 ki, .int .i64 lb, .int .i64 ce, .int .i64 ti, .string da, .string na, .slice ka kn kc] 35 (0, 0)) := by rw [← hW1]; exact alloc_new w _
  have H2 := Lib.hid (And.intro (H1.out.1.trans (hbW1.mono H1.out.1.size)) (And.intro (H1.out.2.below hbW1) (kW1)))
  clear hbW1 kW1
  obtain ⟨a0, a1, a2, a3, a4, a5, a6⟩ := blk7c H2.out.2.2
  go_enter Tryz.func22, Tryz.ntmps22
  go_wp2_with fail
  refine (HMe.out _ H2.out.2.1).mono ?_
  rintro en v1 ⟨⟨rk, re, rt, rc, rg, ru, rr, rn⟩, rfl, hmr, hb⟩
  have HMR := Lib.hid hmr
  have H3 := Lib.hid (And.intro (H2.out.1.trans (hb.mono H2.out.1.size)) (And.intro (H2.out.2.1.below hb) (blk_on hb H2.out.2.2)))
  clear hb hmr hW1 a0 a1 a2 a3 a4 a5 a6
  obtain ⟨W2, hW2⟩ : ∃ W2, v1.alloc (.cells #[.int .i64 rk, .int .i64 re, .int .i64 rt, .int .i64 rc, .int .i64 rg, .int .i64 ru, .string rr, .string rn] 72) = W2 := ⟨_, rfl⟩
  have hbW2 : Below v1.heap.size v1 W2 := by rw [← hW2]; exact alloc_below v1 _
  have kW2 : W2.heap[v1.heap.size]? = some (.cells #[.int .i64 rk, .int .i64 re, .int .i64 rt, .int .i64 rc, .int .i64 rg, .int .i64 ru, .string rr, .string rn] 72 (0, 0)) := by rw [← hW2]; exact alloc_new v1 _
  have H4 := Lib.hid (And.intro (H3.out.1.trans (hbW2.mono H3.out.1.size)) (And.intro (H3.out.2.1.below hbW2) (And.intro (blk_on hbW2 H3.out.2.2) (kW2))))
  clear hbW2 kW2
  by_cases hm : ME = 0
  case neg =>
    have hmb : (ME != 0) = true := by simpa using hm
    have HZ := Lib.hid (HZa.out hm)
    go_wp2
    exact HR.out _ _ ⟨by rw [HZ.out.1] <;> rfl, rv, by rw [HZ.out.2]; exact H4.out.2.1, Turn.of_below _ H4.out.1⟩
  have hmr := HMR.out hm
  clear HMR
  subst hmr
  subst hm
  go_upto_region 4 with fail
  clear hW2
  obtain ⟨⟨z0, z1, z2, z3, z4, z5, z6, z7⟩, -⟩ := blkR H4.out.2.1.blk
  obtain ⟨⟨x0, x1, x2, x3, x4, x5, x6, x7⟩, -⟩ := blkR H4.out.2.2.2
  have gz5 := fun p => after_cell z5 p
  have gz0 := fun p => after_cell z0 p
  have gx0 := fun p => after_cell x0 p
  have gx1 := fun p => after_cell x1 p
  have gx2 := fun p => after_cell x2 p
  have gx3 := fun p => after_cell x3 p
  have gx4 := fun p => after_cell x4 p
  have gx5 := fun p => after_cell x5 p
  have gx6 := fun p => after_cell x6 p
  have gx7 := fun p => after_cell x7 p
  have cc0 := Lib.hid (fun p => calls_after (p := p) (HMy.out (After W2 p) (H4.out.2.1.below (after_below W2 p))))
  refine wp_region_after (by kernel_rfl) (by kernel_rfl) ?_
  repeat (go_big_quiet_step (fail))
  go_big_quiet_step (exact cc0.out _)
  repeat (go_big_quiet_step (fail))
  refine wpQuiet_nil ?_
  rintro q1 ⟨p9, rfl⟩
  have hb := after_below W2 p9
  have H5 := Lib.hid (And.intro (H4.out.1.trans (hb.mono H4.out.1.size)) (And.intro (H4.out.2.1.below hb) (And.intro (blk_on hb H4.out.2.2.1) (blk_on hb H4.out.2.2.2))))
  generalize After W2 p9 = q1 at *
  clear hb cc0 z0 z1 z2 z3 z4 z5 z6 z7 gz5 gz0 x0 x1 x2 x3 x4 x5 x6 x7 gx0 gx1 gx2 gx3 gx4 gx5 gx6 gx7
  by_cases hy : YE = 0
  case neg =>
    have hyb : (YE != 0) = true := by simpa using hy
    have HZ := Lib.hid (HZb.out (by trivial) hy)
    go_wp2
    exact HR.out _ _ ⟨by rw [HZ.out.1] <;> rfl, rv, by rw [HZ.out.2]; exact H5.out.2.1, Turn.of_below _ H5.out.1⟩
  subst hy
  go_wp2_with fail
  refine (HRo.out _ H5.out.2.1).mono ?_
  rintro en v1 ⟨rfl, hb⟩
  have H6 := Lib.hid (And.intro (H5.out.1.trans (hb.mono H5.out.1.size)) (And.intro (H5.out.2.1.below hb) (And.intro (blk_on hb H5.out.2.2.1) (blk_on hb H5.out.2.2.2))))
  clear hb
  by_cases hr : RM = 0
  · subst hr
    have HZ := Lib.hid (HZc.out (by trivial) (by trivial) (by trivial))
    go_wp2
    exact HR.out _ _ ⟨by rw [HZ.out.1] <;> rfl, rv, by rw [HZ.out.2]; exact H6.out.2.1, Turn.of_below _ H6.out.1⟩
  have hrb : (RM == 0) = false := by simpa using hr
  have HZ := Lib.hid (HZd.out (by trivial) (by trivial) hr)
  obtain ⟨⟨x0, x1, x2, x3, x4, x5, x6, x7⟩, -⟩ := blkR H6.out.2.2.2
  go_wp2_with fail
  refine (HAp.out _ H6.out.2.1).mono ?_
  rintro en v9 ⟨rfl, rv9, hm9, ht9⟩
  have H9 := Lib.hid (And.intro hm9 ((Turn.of_below (FM n cc bn c mu mh mg rv vv) H6.out.1).trans ht9))
  clear hm9 ht9 x0 x1 x2 x3 x4 x5 x6 x7
  go_wp2
  exact HR.out _ _ ⟨by rw [HZ.out.1] <;> rfl, rv9, by rw [HZ.out.2]; exact H9.out.1, H9.out.2⟩
end Go.Proofs.YtnkiokaeooopgaaGreat
/- A call done, of whatever kind: of the program's model. -/
set_option maxRecDepth 100000
namespace Go.Proofs.YtnkiokaeooopgaaGreat
open Go.RowKit Ks Go.Maps
set_option linter.unusedVariables false
set_option linter.unusedSimpArgs false
set_option maxRecDepth 100000 in
set_option maxHeartbeats 4000000 in
theorem mdo_seal6 {n cc bn c mu mh mg : Nat} {rv vv : Value} {m : ModT} (cl : CallT) (ka : Option Addr) (kn kc : Nat) (w : World) (h : ModAt w n cc bn c mu mh mg rv vv m) (hk : cl.kind = 6) (h7 : Seven n cc bn c mu mh mg) (hg : -9223372036854775808 ≤ m.geo.blocks ∧ m.geo.blocks ≤ 9223372036854775807) (hh : m.book.holds.length ≤ 1000000) (hu : 0 ≤ m.used ∧ m.used ≤ 1000000000) (hn : m.recs.length ≤ 1000000) (hce : -9223372036854775808 ≤ cl.epoch ∧ cl.epoch ≤ 9223372036854775807) (hna : cl.name.size ≤ maxLen) :
    Calls Tryz.prog 8 #[.pointer (some ⟨n, 0, none⟩), callV cl ka kn kc] w fun e w' => e = .returned (.agg #[.int .i64 (sealE m cl), .string ⟨#[]⟩, .int .i64 0, .int .i64 0, .int .i64 0, .int .i64 0, .int .i64 0, .int .i64 0]) ∧ ∃ rv', ModAt w' n cc bn c mu mh mg rv' vv (sealM m cl) ∧ Turn w w' (FM n cc bn c mu mh mg rv vv) (FM n cc bn c mu mh mg rv' vv) := by
  refine calls_by fun R HR => ?_
  have HD := Lib.hid h
  have HT := Lib.hid (fun w (h : ModAt w n cc bn c mu mh mg rv vv m) => mthere_yes w h)
  have HC := Lib.hid (fun w (h : ModAt w n cc bn c mu mh mg rv vv m) => mseal_any cl ka kn kc w h h7 hg hh hu hn hce hna)
  generalize (sealE m cl) = EE at *
  generalize sealM m cl = MM at *
  obtain ⟨ki, lb, ce, ti, da, na⟩ := cl
  simp only at hk
  subst hk
  clear h
  have H1 := Lib.hid (And.intro (Below.refl w.heap.size w) (HD.out))
  obtain ⟨W1, hW1⟩ : ∃ W1, w.alloc (.cells #[.int .i64 6, .int .i64 lb, .int .i64 ce, .int .i64 ti, .string da, .string na, .slice ka kn kc] 35) = W1 := ⟨_, rfl⟩
  have hbW1 : Below w.heap.size w W1 := by rw [← hW1]; exact alloc_below w _
  have kW1 : W1.heap[w.heap.size]? = some (.cells #[.int .i64 6, .int .i64 lb, .int .i64 ce, .int .i64 ti, .string da, .string na, .slice ka kn kc] 35 (0, 0)) := by rw [← hW1]; exact alloc_new w _
  have H2 := Lib.hid (And.intro (H1.out.1.trans (hbW1.mono H1.out.1.size)) (And.intro (H1.out.2.below hbW1) (kW1)))
  clear hbW1 kW1
  have s1 : w.heap.size < W1.heap.size := lt_of_block H2.out.2.2
  obtain ⟨W2, hW2⟩ : ∃ W2, W1.alloc (.cells #[.int .i64 0, .string ⟨#[]⟩, .int .i64 0, .int .i64 0, .int .i64 0, .int .i64 0, .int .i64 0, .int .i64 0] 39) = W2 := ⟨_, rfl⟩
  have hbW2 : Below W1.heap.size W1 W2 := by rw [← hW2]; exact alloc_below W1 _
  have kW2 : W2.heap[W1.heap.size]? = some (.cells #[.int .i64 0, .string ⟨#[]⟩, .int .i64 0, .int .i64 0, .int .i64 0, .int .i64 0, .int .i64 0, .int .i64 0] 39 (0, 0)) := by rw [← hW2]; exact alloc_new W1 _
  have H3 := Lib.hid (And.intro (H2.out.1.trans (hbW2.mono H2.out.1.size)) (And.intro (H2.out.2.1.below hbW2) (And.intro (blk_on hbW2 H2.out.2.2) (kW2))))
  clear hbW2 kW2
  obtain ⟨a0, a1, a2, a3, a4, a5, a6⟩ := blk7c H3.out.2.2.1
  go_enter Tryz.func8, Tryz.ntmps8
  go_wp2_with fail
  refine (HT.out _ H3.out.2.1).mono ?_
  rintro en y0 ⟨rfl, hw⟩
  rw [hw]
  clear hw hW1 hW2
  go_wp2_with fail
  refine (HC.out _ H3.out.2.1).mono ?_
  rintro en v9 ⟨rfl, nv, hm9, ht9⟩
  have hfm : ∀ k, FM n cc bn c mu mh mg rv vv k → k < w.heap.size := HD.out.ltF
  have KZ := Lib.hid (show v9.heap[W1.heap.size]? = some (.cells #[.int .i64 0, .string ⟨#[]⟩, .int .i64 0, .int .i64 0, .int .i64 0, .int .i64 0, .int .i64 0, .int .i64 0] 39 (0, 0)) from (ht9.block _ (lt_of_block H3.out.2.2.2) (fun q => by have := hfm _ q; omega)).trans H3.out.2.2.2)
  have hfm2 : ∀ k, FM n cc bn c mu mh mg nv vv k → k ≠ W1.heap.size := fun k q e => by rcases ht9.foot k q with h1 | h1; have := hfm k h1; omega; have := lt_of_block H3.out.2.2.2; omega
  have HT9 := Lib.hid ((Turn.of_below (FM n cc bn c mu mh mg rv vv) H3.out.1).trans ht9)
  have HM9 := Lib.hid hm9
  have HF2 := Lib.hid hfm2
  clear a0 a1 a2 a3 a4 a5 a6 hm9 ht9 hfm2 hfm
  obtain ⟨WR, hWR⟩ : ∃ W, v9.setRow W1.heap.size #[.int .i64 EE, .string ⟨#[]⟩, .int .i64 0, .int .i64 0, .int .i64 0, .int .i64 0, .int .i64 0, .int .i64 0] = W := ⟨_, rfl⟩
  have KE := Lib.hid (show WR.heap[W1.heap.size]? = some (.cells #[.int .i64 EE, .string ⟨#[]⟩, .int .i64 0, .int .i64 0, .int .i64 0, .int .i64 0, .int .i64 0, .int .i64 0] 39 (0, 0)) by rw [← hWR]; exact setRow_heap v9 _ _ _ _ _ KZ.out)
  have HO := Lib.hid (show ∀ k, k ≠ W1.heap.size → WR.heap[k]? = v9.heap[k]? from fun k hk => by rw [← hWR]; exact setRow_other _ _ _ _ hk)
  have HTR := Lib.hid (show Turn w WR (FM n cc bn c mu mh mg rv vv) (FM n cc bn c mu mh mg nv vv) from by rw [← hWR]; exact ⟨HT9.out.os, HT9.out.tape, HT9.out.output, by simpa using HT9.out.size, fun k hk hF => (setRow_other _ _ _ _ (by omega)).trans (HT9.out.block k hk hF), HT9.out.foot⟩)
  go_wp2_with (refine wpList_store_blk rfl 39 (.tmp 4) (.tmp 61) rfl W1.heap.size 0 8 rfl #[.int .i64 0, .string ⟨#[]⟩, .int .i64 0, .int .i64 0, .int .i64 0, .int .i64 0, .int .i64 0, .int .i64 0] #[.int .i64 EE, .string ⟨#[]⟩, .int .i64 0, .int .i64 0, .int .i64 0, .int .i64 0, .int .i64 0, .int .i64 0] #[.int .i64 EE, .string ⟨#[]⟩, .int .i64 0, .int .i64 0, .int .i64 0, .int .i64 0, .int .i64 0, .int .i64 0] rfl 39 KZ.out rfl (Nat.le_refl 8) (by kernel_rfl) (ans_one _ _ _ _ _ _ _ _) (splice_all _ _ rfl) ?_; rw [hWR])
  obtain ⟨⟨y0, y1, y2, y3, y4, y5, y6, y7⟩, -⟩ := blkR KE.out
  refine bodyPost_ret (v := .agg #[.int .i64 EE, .string ⟨#[]⟩, .int .i64 0, .int .i64 0, .int .i64 0, .int .i64 0, .int .i64 0, .int .i64 0]) (by simp [results, Tryz.results8, go_sem, y0, y1, y2, y3, y4, y5, y6, y7]) rfl ?_
  exact HR.out _ _ ⟨rfl, nv, HM9.out.sameF (fun k q => HO.out k (HF2.out k q)), HTR.out⟩
set_option maxRecDepth 100000 in
set_option maxHeartbeats 4000000 in
theorem mdo_seal7 {n cc bn c mu mh mg : Nat} {rv vv : Value} {m : ModT} (cl : CallT) (ka : Option Addr) (kn kc : Nat) (w : World) (h : ModAt w n cc bn c mu mh mg rv vv m) (hk : cl.kind = 7) (h7 : Seven n cc bn c mu mh mg) (hg : -9223372036854775808 ≤ m.geo.blocks ∧ m.geo.blocks ≤ 9223372036854775807) (hh : m.book.holds.length ≤ 1000000) (hu : 0 ≤ m.used ∧ m.used ≤ 1000000000) (hn : m.recs.length ≤ 1000000) (hce : -9223372036854775808 ≤ cl.epoch ∧ cl.epoch ≤ 9223372036854775807) (hna : cl.name.size ≤ maxLen) :
    Calls Tryz.prog 8 #[.pointer (some ⟨n, 0, none⟩), callV cl ka kn kc] w fun e w' => e = .returned (.agg #[.int .i64 (sealE m cl), .string ⟨#[]⟩, .int .i64 0, .int .i64 0, .int .i64 0, .int .i64 0, .int .i64 0, .int .i64 0]) ∧ ∃ rv', ModAt w' n cc bn c mu mh mg rv' vv (sealM m cl) ∧ Turn w w' (FM n cc bn c mu mh mg rv vv) (FM n cc bn c mu mh mg rv' vv) := by
  refine calls_by fun R HR => ?_
  have HD := Lib.hid h
  have HT := Lib.hid (fun w (h : ModAt w n cc bn c mu mh mg rv vv m) => mthere_yes w h)
  have HC := Lib.hid (fun w (h : ModAt w n cc bn c mu mh mg rv vv m) => mseal_any cl ka kn kc w h h7 hg hh hu hn hce hna)
  generalize (sealE m cl) = EE at *
  generalize sealM m cl = MM at *
  obtain ⟨ki, lb, ce, ti, da, na⟩ := cl
  simp only at hk
  subst hk
  clear h
  have H1 := Lib.hid (And.intro (Below.refl w.heap.size w) (HD.out))
  obtain ⟨W1, hW1⟩ : ∃ W1, w.alloc (.cells #[.int .i64 7, .int .i64 lb, .int .i64 ce, .int .i64 ti, .string da, .string na, .slice ka kn kc] 35) = W1 := ⟨_, rfl⟩
  have hbW1 : Below w.heap.size w W1 := by rw [← hW1]; exact alloc_below w _
  have kW1 : W1.heap[w.heap.size]? = some (.cells #[.int .i64 7, .int .i64 lb, .int .i64 ce, .int .i64 ti, .string da, .string na, .slice ka kn kc] 35 (0, 0)) := by rw [← hW1]; exact alloc_new w _
  have H2 := Lib.hid (And.intro (H1.out.1.trans (hbW1.mono H1.out.1.size)) (And.intro (H1.out.2.below hbW1) (kW1)))
  clear hbW1 kW1
  have s1 : w.heap.size < W1.heap.size := lt_of_block H2.out.2.2
  obtain ⟨W2, hW2⟩ : ∃ W2, W1.alloc (.cells #[.int .i64 0, .string ⟨#[]⟩, .int .i64 0, .int .i64 0, .int .i64 0, .int .i64 0, .int .i64 0, .int .i64 0] 39) = W2 := ⟨_, rfl⟩
  have hbW2 : Below W1.heap.size W1 W2 := by rw [← hW2]; exact alloc_below W1 _
  have kW2 : W2.heap[W1.heap.size]? = some (.cells #[.int .i64 0, .string ⟨#[]⟩, .int .i64 0, .int .i64 0, .int .i64 0, .int .i64 0, .int .i64 0, .int .i64 0] 39 (0, 0)) := by rw [← hW2]; exact alloc_new W1 _
  have H3 := Lib.hid (And.intro (H2.out.1.trans (hbW2.mono H2.out.1.size)) (And.intro (H2.out.2.1.below hbW2) (And.intro (blk_on hbW2 H2.out.2.2) (kW2))))
  clear hbW2 kW2
  obtain ⟨a0, a1, a2, a3, a4, a5, a6⟩ := blk7c H3.out.2.2.1
  go_enter Tryz.func8, Tryz.ntmps8
  go_wp2_with fail
  refine (HT.out _ H3.out.2.1).mono ?_
  rintro en y0 ⟨rfl, hw⟩
  rw [hw]
  clear hw hW1 hW2
  go_wp2_with fail
  refine (HC.out _ H3.out.2.1).mono ?_
  rintro en v9 ⟨rfl, nv, hm9, ht9⟩
  have hfm : ∀ k, FM n cc bn c mu mh mg rv vv k → k < w.heap.size := HD.out.ltF
  have KZ := Lib.hid (show v9.heap[W1.heap.size]? = some (.cells #[.int .i64 0, .string ⟨#[]⟩, .int .i64 0, .int .i64 0, .int .i64 0, .int .i64 0, .int .i64 0, .int .i64 0] 39 (0, 0)) from (ht9.block _ (lt_of_block H3.out.2.2.2) (fun q => by have := hfm _ q; omega)).trans H3.out.2.2.2)
  have hfm2 : ∀ k, FM n cc bn c mu mh mg nv vv k → k ≠ W1.heap.size := fun k q e => by rcases ht9.foot k q with h1 | h1; have := hfm k h1; omega; have := lt_of_block H3.out.2.2.2; omega
  have HT9 := Lib.hid ((Turn.of_below (FM n cc bn c mu mh mg rv vv) H3.out.1).trans ht9)
  have HM9 := Lib.hid hm9
  have HF2 := Lib.hid hfm2
  clear a0 a1 a2 a3 a4 a5 a6 hm9 ht9 hfm2 hfm
  obtain ⟨WR, hWR⟩ : ∃ W, v9.setRow W1.heap.size #[.int .i64 EE, .string ⟨#[]⟩, .int .i64 0, .int .i64 0, .int .i64 0, .int .i64 0, .int .i64 0, .int .i64 0] = W := ⟨_, rfl⟩
  have KE := Lib.hid (show WR.heap[W1.heap.size]? = some (.cells #[.int .i64 EE, .string ⟨#[]⟩, .int .i64 0, .int .i64 0, .int .i64 0, .int .i64 0, .int .i64 0, .int .i64 0] 39 (0, 0)) by rw [← hWR]; exact setRow_heap v9 _ _ _ _ _ KZ.out)
  have HO := Lib.hid (show ∀ k, k ≠ W1.heap.size → WR.heap[k]? = v9.heap[k]? from fun k hk => by rw [← hWR]; exact setRow_other _ _ _ _ hk)
  have HTR := Lib.hid (show Turn w WR (FM n cc bn c mu mh mg rv vv) (FM n cc bn c mu mh mg nv vv) from by rw [← hWR]; exact ⟨HT9.out.os, HT9.out.tape, HT9.out.output, by simpa using HT9.out.size, fun k hk hF => (setRow_other _ _ _ _ (by omega)).trans (HT9.out.block k hk hF), HT9.out.foot⟩)
  go_wp2_with (refine wpList_store_blk rfl 39 (.tmp 4) (.tmp 61) rfl W1.heap.size 0 8 rfl #[.int .i64 0, .string ⟨#[]⟩, .int .i64 0, .int .i64 0, .int .i64 0, .int .i64 0, .int .i64 0, .int .i64 0] #[.int .i64 EE, .string ⟨#[]⟩, .int .i64 0, .int .i64 0, .int .i64 0, .int .i64 0, .int .i64 0, .int .i64 0] #[.int .i64 EE, .string ⟨#[]⟩, .int .i64 0, .int .i64 0, .int .i64 0, .int .i64 0, .int .i64 0, .int .i64 0] rfl 39 KZ.out rfl (Nat.le_refl 8) (by kernel_rfl) (ans_one _ _ _ _ _ _ _ _) (splice_all _ _ rfl) ?_; rw [hWR])
  obtain ⟨⟨y0, y1, y2, y3, y4, y5, y6, y7⟩, -⟩ := blkR KE.out
  refine bodyPost_ret (v := .agg #[.int .i64 EE, .string ⟨#[]⟩, .int .i64 0, .int .i64 0, .int .i64 0, .int .i64 0, .int .i64 0, .int .i64 0]) (by simp [results, Tryz.results8, go_sem, y0, y1, y2, y3, y4, y5, y6, y7]) rfl ?_
  exact HR.out _ _ ⟨rfl, nv, HM9.out.sameF (fun k q => HO.out k (HF2.out k q)), HTR.out⟩
set_option maxRecDepth 100000 in
set_option maxHeartbeats 4000000 in
theorem mdo_seal8 {n cc bn c mu mh mg : Nat} {rv vv : Value} {m : ModT} (cl : CallT) (ka : Option Addr) (kn kc : Nat) (w : World) (h : ModAt w n cc bn c mu mh mg rv vv m) (hk : cl.kind = 8) (h7 : Seven n cc bn c mu mh mg) (hg : -9223372036854775808 ≤ m.geo.blocks ∧ m.geo.blocks ≤ 9223372036854775807) (hh : m.book.holds.length ≤ 1000000) (hu : 0 ≤ m.used ∧ m.used ≤ 1000000000) (hn : m.recs.length ≤ 1000000) (hce : -9223372036854775808 ≤ cl.epoch ∧ cl.epoch ≤ 9223372036854775807) (hna : cl.name.size ≤ maxLen) :
    Calls Tryz.prog 8 #[.pointer (some ⟨n, 0, none⟩), callV cl ka kn kc] w fun e w' => e = .returned (.agg #[.int .i64 (sealE m cl), .string ⟨#[]⟩, .int .i64 0, .int .i64 0, .int .i64 0, .int .i64 0, .int .i64 0, .int .i64 0]) ∧ ∃ rv', ModAt w' n cc bn c mu mh mg rv' vv (sealM m cl) ∧ Turn w w' (FM n cc bn c mu mh mg rv vv) (FM n cc bn c mu mh mg rv' vv) := by
  refine calls_by fun R HR => ?_
  have HD := Lib.hid h
  have HT := Lib.hid (fun w (h : ModAt w n cc bn c mu mh mg rv vv m) => mthere_yes w h)
  have HC := Lib.hid (fun w (h : ModAt w n cc bn c mu mh mg rv vv m) => mseal_any cl ka kn kc w h h7 hg hh hu hn hce hna)
  generalize (sealE m cl) = EE at *
  generalize sealM m cl = MM at *
  obtain ⟨ki, lb, ce, ti, da, na⟩ := cl
  simp only at hk
  subst hk
  clear h
  have H1 := Lib.hid (And.intro (Below.refl w.heap.size w) (HD.out))
  obtain ⟨W1, hW1⟩ : ∃ W1, w.alloc (.cells #[.int .i64 8, .int .i64 lb, .int .i64 ce, .int .i64 ti, .string da, .string na, .slice ka kn kc] 35) = W1 := ⟨_, rfl⟩
  have hbW1 : Below w.heap.size w W1 := by rw [← hW1]; exact alloc_below w _
  have kW1 : W1.heap[w.heap.size]? = some (.cells #[.int .i64 8, .int .i64 lb, .int .i64 ce, .int .i64 ti, .string da, .string na, .slice ka kn kc] 35 (0, 0)) := by rw [← hW1]; exact alloc_new w _
  have H2 := Lib.hid (And.intro (H1.out.1.trans (hbW1.mono H1.out.1.size)) (And.intro (H1.out.2.below hbW1) (kW1)))
  clear hbW1 kW1
  have s1 : w.heap.size < W1.heap.size := lt_of_block H2.out.2.2
  obtain ⟨W2, hW2⟩ : ∃ W2, W1.alloc (.cells #[.int .i64 0, .string ⟨#[]⟩, .int .i64 0, .int .i64 0, .int .i64 0, .int .i64 0, .int .i64 0, .int .i64 0] 39) = W2 := ⟨_, rfl⟩
  have hbW2 : Below W1.heap.size W1 W2 := by rw [← hW2]; exact alloc_below W1 _
  have kW2 : W2.heap[W1.heap.size]? = some (.cells #[.int .i64 0, .string ⟨#[]⟩, .int .i64 0, .int .i64 0, .int .i64 0, .int .i64 0, .int .i64 0, .int .i64 0] 39 (0, 0)) := by rw [← hW2]; exact alloc_new W1 _
  have H3 := Lib.hid (And.intro (H2.out.1.trans (hbW2.mono H2.out.1.size)) (And.intro (H2.out.2.1.below hbW2) (And.intro (blk_on hbW2 H2.out.2.2) (kW2))))
  clear hbW2 kW2
  obtain ⟨a0, a1, a2, a3, a4, a5, a6⟩ := blk7c H3.out.2.2.1
  go_enter Tryz.func8, Tryz.ntmps8
  go_wp2_with fail
  refine (HT.out _ H3.out.2.1).mono ?_
  rintro en y0 ⟨rfl, hw⟩
  rw [hw]
  clear hw hW1 hW2
  go_wp2_with fail
  refine (HC.out _ H3.out.2.1).mono ?_
  rintro en v9 ⟨rfl, nv, hm9, ht9⟩
  have hfm : ∀ k, FM n cc bn c mu mh mg rv vv k → k < w.heap.size := HD.out.ltF
  have KZ := Lib.hid (show v9.heap[W1.heap.size]? = some (.cells #[.int .i64 0, .string ⟨#[]⟩, .int .i64 0, .int .i64 0, .int .i64 0, .int .i64 0, .int .i64 0, .int .i64 0] 39 (0, 0)) from (ht9.block _ (lt_of_block H3.out.2.2.2) (fun q => by have := hfm _ q; omega)).trans H3.out.2.2.2)
  have hfm2 : ∀ k, FM n cc bn c mu mh mg nv vv k → k ≠ W1.heap.size := fun k q e => by rcases ht9.foot k q with h1 | h1; have := hfm k h1; omega; have := lt_of_block H3.out.2.2.2; omega
  have HT9 := Lib.hid ((Turn.of_below (FM n cc bn c mu mh mg rv vv) H3.out.1).trans ht9)
  have HM9 := Lib.hid hm9
  have HF2 := Lib.hid hfm2
  clear a0 a1 a2 a3 a4 a5 a6 hm9 ht9 hfm2 hfm
  obtain ⟨WR, hWR⟩ : ∃ W, v9.setRow W1.heap.size #[.int .i64 EE, .string ⟨#[]⟩, .int .i64 0, .int .i64 0, .int .i64 0, .int .i64 0, .int .i64 0, .int .i64 0] = W := ⟨_, rfl⟩
  have KE := Lib.hid (show WR.heap[W1.heap.size]? = some (.cells #[.int .i64 EE, .string ⟨#[]⟩, .int .i64 0, .int .i64 0, .int .i64 0, .int .i64 0, .int .i64 0, .int .i64 0] 39 (0, 0)) by rw [← hWR]; exact setRow_heap v9 _ _ _ _ _ KZ.out)
  have HO := Lib.hid (show ∀ k, k ≠ W1.heap.size → WR.heap[k]? = v9.heap[k]? from fun k hk => by rw [← hWR]; exact setRow_other _ _ _ _ hk)
  have HTR := Lib.hid (show Turn w WR (FM n cc bn c mu mh mg rv vv) (FM n cc bn c mu mh mg nv vv) from by rw [← hWR]; exact ⟨HT9.out.os, HT9.out.tape, HT9.out.output, by simpa using HT9.out.size, fun k hk hF => (setRow_other _ _ _ _ (by omega)).trans (HT9.out.block k hk hF), HT9.out.foot⟩)
  go_wp2_with (refine wpList_store_blk rfl 39 (.tmp 4) (.tmp 61) rfl W1.heap.size 0 8 rfl #[.int .i64 0, .string ⟨#[]⟩, .int .i64 0, .int .i64 0, .int .i64 0, .int .i64 0, .int .i64 0, .int .i64 0] #[.int .i64 EE, .string ⟨#[]⟩, .int .i64 0, .int .i64 0, .int .i64 0, .int .i64 0, .int .i64 0, .int .i64 0] #[.int .i64 EE, .string ⟨#[]⟩, .int .i64 0, .int .i64 0, .int .i64 0, .int .i64 0, .int .i64 0, .int .i64 0] rfl 39 KZ.out rfl (Nat.le_refl 8) (by kernel_rfl) (ans_one _ _ _ _ _ _ _ _) (splice_all _ _ rfl) ?_; rw [hWR])
  obtain ⟨⟨y0, y1, y2, y3, y4, y5, y6, y7⟩, -⟩ := blkR KE.out
  refine bodyPost_ret (v := .agg #[.int .i64 EE, .string ⟨#[]⟩, .int .i64 0, .int .i64 0, .int .i64 0, .int .i64 0, .int .i64 0, .int .i64 0]) (by simp [results, Tryz.results8, go_sem, y0, y1, y2, y3, y4, y5, y6, y7]) rfl ?_
  exact HR.out _ _ ⟨rfl, nv, HM9.out.sameF (fun k q => HO.out k (HF2.out k q)), HTR.out⟩
set_option maxRecDepth 100000 in
set_option maxHeartbeats 4000000 in
theorem mdo_seal9 {n cc bn c mu mh mg : Nat} {rv vv : Value} {m : ModT} (cl : CallT) (ka : Option Addr) (kn kc : Nat) (w : World) (h : ModAt w n cc bn c mu mh mg rv vv m) (hk : cl.kind = 9) (h7 : Seven n cc bn c mu mh mg) (hg : -9223372036854775808 ≤ m.geo.blocks ∧ m.geo.blocks ≤ 9223372036854775807) (hh : m.book.holds.length ≤ 1000000) (hu : 0 ≤ m.used ∧ m.used ≤ 1000000000) (hn : m.recs.length ≤ 1000000) (hce : -9223372036854775808 ≤ cl.epoch ∧ cl.epoch ≤ 9223372036854775807) (hna : cl.name.size ≤ maxLen) :
    Calls Tryz.prog 8 #[.pointer (some ⟨n, 0, none⟩), callV cl ka kn kc] w fun e w' => e = .returned (.agg #[.int .i64 (sealE m cl), .string ⟨#[]⟩, .int .i64 0, .int .i64 0, .int .i64 0, .int .i64 0, .int .i64 0, .int .i64 0]) ∧ ∃ rv', ModAt w' n cc bn c mu mh mg rv' vv (sealM m cl) ∧ Turn w w' (FM n cc bn c mu mh mg rv vv) (FM n cc bn c mu mh mg rv' vv) := by
  refine calls_by fun R HR => ?_
  have HD := Lib.hid h
  have HT := Lib.hid (fun w (h : ModAt w n cc bn c mu mh mg rv vv m) => mthere_yes w h)
  have HC := Lib.hid (fun w (h : ModAt w n cc bn c mu mh mg rv vv m) => mseal_any cl ka kn kc w h h7 hg hh hu hn hce hna)
  generalize (sealE m cl) = EE at *
  generalize sealM m cl = MM at *
  obtain ⟨ki, lb, ce, ti, da, na⟩ := cl
  simp only at hk
  subst hk
  clear h
  have H1 := Lib.hid (And.intro (Below.refl w.heap.size w) (HD.out))
  obtain ⟨W1, hW1⟩ : ∃ W1, w.alloc (.cells #[.int .i64 9, .int .i64 lb, .int .i64 ce, .int .i64 ti, .string da, .string na, .slice ka kn kc] 35) = W1 := ⟨_, rfl⟩
  have hbW1 : Below w.heap.size w W1 := by rw [← hW1]; exact alloc_below w _
  have kW1 : W1.heap[w.heap.size]? = some (.cells #[.int .i64 9, .int .i64 lb, .int .i64 ce, .int .i64 ti, .string da, .string na, .slice ka kn kc] 35 (0, 0)) := by rw [← hW1]; exact alloc_new w _
  have H2 := Lib.hid (And.intro (H1.out.1.trans (hbW1.mono H1.out.1.size)) (And.intro (H1.out.2.below hbW1) (kW1)))
  clear hbW1 kW1
  have s1 : w.heap.size < W1.heap.size := lt_of_block H2.out.2.2
  obtain ⟨W2, hW2⟩ : ∃ W2, W1.alloc (.cells #[.int .i64 0, .string ⟨#[]⟩, .int .i64 0, .int .i64 0, .int .i64 0, .int .i64 0, .int .i64 0, .int .i64 0] 39) = W2 := ⟨_, rfl⟩
  have hbW2 : Below W1.heap.size W1 W2 := by rw [← hW2]; exact alloc_below W1 _
  have kW2 : W2.heap[W1.heap.size]? = some (.cells #[.int .i64 0, .string ⟨#[]⟩, .int .i64 0, .int .i64 0, .int .i64 0, .int .i64 0, .int .i64 0, .int .i64 0] 39 (0, 0)) := by rw [← hW2]; exact alloc_new W1 _
  have H3 := Lib.hid (And.intro (H2.out.1.trans (hbW2.mono H2.out.1.size)) (And.intro (H2.out.2.1.below hbW2) (And.intro (blk_on hbW2 H2.out.2.2) (kW2))))
  clear hbW2 kW2
  obtain ⟨a0, a1, a2, a3, a4, a5, a6⟩ := blk7c H3.out.2.2.1
  go_enter Tryz.func8, Tryz.ntmps8
  go_wp2_with fail
  refine (HT.out _ H3.out.2.1).mono ?_
  rintro en y0 ⟨rfl, hw⟩
  rw [hw]
  clear hw hW1 hW2
  go_wp2_with fail
  refine (HC.out _ H3.out.2.1).mono ?_
  rintro en v9 ⟨rfl, nv, hm9, ht9⟩
  have hfm : ∀ k, FM n cc bn c mu mh mg rv vv k → k < w.heap.size := HD.out.ltF
  have KZ := Lib.hid (show v9.heap[W1.heap.size]? = some (.cells #[.int .i64 0, .string ⟨#[]⟩, .int .i64 0, .int .i64 0, .int .i64 0, .int .i64 0, .int .i64 0, .int .i64 0] 39 (0, 0)) from (ht9.block _ (lt_of_block H3.out.2.2.2) (fun q => by have := hfm _ q; omega)).trans H3.out.2.2.2)
  have hfm2 : ∀ k, FM n cc bn c mu mh mg nv vv k → k ≠ W1.heap.size := fun k q e => by rcases ht9.foot k q with h1 | h1; have := hfm k h1; omega; have := lt_of_block H3.out.2.2.2; omega
  have HT9 := Lib.hid ((Turn.of_below (FM n cc bn c mu mh mg rv vv) H3.out.1).trans ht9)
  have HM9 := Lib.hid hm9
  have HF2 := Lib.hid hfm2
  clear a0 a1 a2 a3 a4 a5 a6 hm9 ht9 hfm2 hfm
  obtain ⟨WR, hWR⟩ : ∃ W, v9.setRow W1.heap.size #[.int .i64 EE, .string ⟨#[]⟩, .int .i64 0, .int .i64 0, .int .i64 0, .int .i64 0, .int .i64 0, .int .i64 0] = W := ⟨_, rfl⟩
  have KE := Lib.hid (show WR.heap[W1.heap.size]? = some (.cells #[.int .i64 EE, .string ⟨#[]⟩, .int .i64 0, .int .i64 0, .int .i64 0, .int .i64 0, .int .i64 0, .int .i64 0] 39 (0, 0)) by rw [← hWR]; exact setRow_heap v9 _ _ _ _ _ KZ.out)
  have HO := Lib.hid (show ∀ k, k ≠ W1.heap.size → WR.heap[k]? = v9.heap[k]? from fun k hk => by rw [← hWR]; exact setRow_other _ _ _ _ hk)
  have HTR := Lib.hid (show Turn w WR (FM n cc bn c mu mh mg rv vv) (FM n cc bn c mu mh mg nv vv) from by rw [← hWR]; exact ⟨HT9.out.os, HT9.out.tape, HT9.out.output, by simpa using HT9.out.size, fun k hk hF => (setRow_other _ _ _ _ (by omega)).trans (HT9.out.block k hk hF), HT9.out.foot⟩)
  go_wp2_with (refine wpList_store_blk rfl 39 (.tmp 4) (.tmp 61) rfl W1.heap.size 0 8 rfl #[.int .i64 0, .string ⟨#[]⟩, .int .i64 0, .int .i64 0, .int .i64 0, .int .i64 0, .int .i64 0, .int .i64 0] #[.int .i64 EE, .string ⟨#[]⟩, .int .i64 0, .int .i64 0, .int .i64 0, .int .i64 0, .int .i64 0, .int .i64 0] #[.int .i64 EE, .string ⟨#[]⟩, .int .i64 0, .int .i64 0, .int .i64 0, .int .i64 0, .int .i64 0, .int .i64 0] rfl 39 KZ.out rfl (Nat.le_refl 8) (by kernel_rfl) (ans_one _ _ _ _ _ _ _ _) (splice_all _ _ rfl) ?_; rw [hWR])
  obtain ⟨⟨y0, y1, y2, y3, y4, y5, y6, y7⟩, -⟩ := blkR KE.out
  refine bodyPost_ret (v := .agg #[.int .i64 EE, .string ⟨#[]⟩, .int .i64 0, .int .i64 0, .int .i64 0, .int .i64 0, .int .i64 0, .int .i64 0]) (by simp [results, Tryz.results8, go_sem, y0, y1, y2, y3, y4, y5, y6, y7]) rfl ?_
  exact HR.out _ _ ⟨rfl, nv, HM9.out.sameF (fun k q => HO.out k (HF2.out k q)), HTR.out⟩
set_option maxRecDepth 100000 in
set_option maxHeartbeats 4000000 in
theorem mdo_readAt {n cc bn c mu mh mg : Nat} {rv vv : Value} {m : ModT} (cl : CallT) (ka : Option Addr) (kn kc : Nat) (w : World) (h : ModAt w n cc bn c mu mh mg rv vv m) (hk : cl.kind = 3) (hl : m.vers.length ≤ 1000000) (hv : ∀ v ∈ m.vers, -9223372036854775808 ≤ v.2.1 ∧ v.2.1 ≤ 9223372036854775807) :
    Calls Tryz.prog 8 #[.pointer (some ⟨n, 0, none⟩), callV cl ka kn kc] w fun e w' => e = .returned (.agg (ansC (readA m cl.lba cl.epoch))) ∧ Below w.heap.size w w' := by
  refine calls_by fun R HR => ?_
  have HD := Lib.hid h
  have HT := Lib.hid (fun w (h : ModAt w n cc bn c mu mh mg rv vv m) => mthere_yes w h)
  have HC := Lib.hid (fun w (h : ModAt w n cc bn c mu mh mg rv vv m) => mread_any cl ka kn kc w h hl hv)
  generalize readA m cl.lba cl.epoch = RA at *
  obtain ⟨e9, d9, p1, p2, p3, p4, p5, p6⟩ := RA
  obtain ⟨ki, lb, ce, ti, da, na⟩ := cl
  simp only at hk
  subst hk
  clear h hl hv
  have H1 := Lib.hid (And.intro (Below.refl w.heap.size w) (HD.out))
  obtain ⟨W1, hW1⟩ : ∃ W1, w.alloc (.cells #[.int .i64 3, .int .i64 lb, .int .i64 ce, .int .i64 ti, .string da, .string na, .slice ka kn kc] 35) = W1 := ⟨_, rfl⟩
  have hbW1 : Below w.heap.size w W1 := by rw [← hW1]; exact alloc_below w _
  have kW1 : W1.heap[w.heap.size]? = some (.cells #[.int .i64 3, .int .i64 lb, .int .i64 ce, .int .i64 ti, .string da, .string na, .slice ka kn kc] 35 (0, 0)) := by rw [← hW1]; exact alloc_new w _
  have H2 := Lib.hid (And.intro (H1.out.1.trans (hbW1.mono H1.out.1.size)) (And.intro (H1.out.2.below hbW1) (kW1)))
  clear hbW1 kW1
  have s1 := Lib.hid (show w.heap.size < W1.heap.size from lt_of_block H2.out.2.2)
  obtain ⟨W2, hW2⟩ : ∃ W2, W1.alloc (.cells #[.int .i64 0, .string ⟨#[]⟩, .int .i64 0, .int .i64 0, .int .i64 0, .int .i64 0, .int .i64 0, .int .i64 0] 39) = W2 := ⟨_, rfl⟩
  have hbW2 : Below W1.heap.size W1 W2 := by rw [← hW2]; exact alloc_below W1 _
  have kW2 : W2.heap[W1.heap.size]? = some (.cells #[.int .i64 0, .string ⟨#[]⟩, .int .i64 0, .int .i64 0, .int .i64 0, .int .i64 0, .int .i64 0, .int .i64 0] 39 (0, 0)) := by rw [← hW2]; exact alloc_new W1 _
  have H3 := Lib.hid (And.intro (H2.out.1.trans (hbW2.mono H2.out.1.size)) (And.intro (H2.out.2.1.below hbW2) (And.intro (blk_on hbW2 H2.out.2.2) (kW2))))
  clear hbW2 kW2
  obtain ⟨a0, a1, a2, a3, a4, a5, a6⟩ := blk7c H3.out.2.2.1
  go_enter Tryz.func8, Tryz.ntmps8
  go_wp2_with fail
  refine (HT.out _ H3.out.2.1).mono ?_
  rintro en y0 ⟨rfl, hw⟩
  rw [hw]
  clear hw hW1 hW2
  go_wp2_with fail
  refine (HC.out _ H3.out.2.1).mono ?_
  rintro en v1 ⟨rfl, hb⟩
  have H4 := Lib.hid (And.intro (H3.out.1.trans (hb.mono H3.out.1.size)) (And.intro (H3.out.2.1.below hb) (And.intro (blk_on hb H3.out.2.2.1) (blk_on hb H3.out.2.2.2))))
  clear hb
  clear a0 a1 a2 a3 a4 a5 a6
  obtain ⟨WR, hWR⟩ : ∃ W, v1.setRow W1.heap.size #[.int .i64 e9, .string d9, .int .i64 p1, .int .i64 p2, .int .i64 p3, .int .i64 p4, .int .i64 p5, .int .i64 p6] = W := ⟨_, rfl⟩
  have KE := Lib.hid (show WR.heap[W1.heap.size]? = some (.cells #[.int .i64 e9, .string d9, .int .i64 p1, .int .i64 p2, .int .i64 p3, .int .i64 p4, .int .i64 p5, .int .i64 p6] 39 (0, 0)) by rw [← hWR]; exact setRow_heap v1 _ _ _ _ _ H4.out.2.2.2)
  have BE := Lib.hid (show Below w.heap.size w WR by rw [← hWR]; exact below_setRow H4.out.1 (Nat.le_of_lt s1.out) _)
  go_wp2_with (refine wpList_store_blk rfl 39 (.tmp 4) (.tmp 42) rfl W1.heap.size 0 8 rfl #[.int .i64 0, .string ⟨#[]⟩, .int .i64 0, .int .i64 0, .int .i64 0, .int .i64 0, .int .i64 0, .int .i64 0] #[.int .i64 e9, .string d9, .int .i64 p1, .int .i64 p2, .int .i64 p3, .int .i64 p4, .int .i64 p5, .int .i64 p6] #[.int .i64 e9, .string d9, .int .i64 p1, .int .i64 p2, .int .i64 p3, .int .i64 p4, .int .i64 p5, .int .i64 p6] rfl 39 H4.out.2.2.2 rfl (Nat.le_refl 8) (by kernel_rfl) (ans_one _ _ _ _ _ _ _ _) (splice_all _ _ rfl) ?_; rw [hWR])
  obtain ⟨⟨y0, y1, y2, y3, y4, y5, y6, y7⟩, -⟩ := blkR KE.out
  refine bodyPost_ret (v := .agg #[.int .i64 e9, .string d9, .int .i64 p1, .int .i64 p2, .int .i64 p3, .int .i64 p4, .int .i64 p5, .int .i64 p6]) (by simp [results, Tryz.results8, go_sem, y0, y1, y2, y3, y4, y5, y6, y7]) rfl ?_
  exact HR.out _ _ ⟨rfl, BE.out⟩
set_option maxRecDepth 100000 in
set_option maxHeartbeats 4000000 in
theorem mdo_read {n cc bn c mu mh mg : Nat} {rv vv : Value} {m : ModT} (cl : CallT) (ka : Option Addr) (kn kc : Nat) (w : World) (h : ModAt w n cc bn c mu mh mg rv vv m) (hk : cl.kind = 2) (hl : m.vers.length ≤ 1000000) (hv : ∀ v ∈ m.vers, -9223372036854775808 ≤ v.2.1 ∧ v.2.1 ≤ 9223372036854775807) :
    Calls Tryz.prog 8 #[.pointer (some ⟨n, 0, none⟩), callV cl ka kn kc] w fun e w' => e = .returned (.agg (ansC (readA m cl.lba m.book.epoch))) ∧ Below w.heap.size w w' := by
  refine calls_by fun R HR => ?_
  have HD := Lib.hid h
  have HT := Lib.hid (fun w (h : ModAt w n cc bn c mu mh mg rv vv m) => mthere_yes w h)
  have HC := Lib.hid (fun w (h : ModAt w n cc bn c mu mh mg rv vv m) => mread_any ⟨cl.kind, cl.lba, m.book.epoch, cl.time, cl.data, cl.name⟩ ka kn kc w h hl hv)
  have HE := Lib.hid (fun w (h : ModAt w n cc bn c mu mh mg rv vv m) => bepoch_any w h.book)
  simp only at HC
  generalize readA m cl.lba m.book.epoch = RA at *
  obtain ⟨e9, d9, p1, p2, p3, p4, p5, p6⟩ := RA
  obtain ⟨ki, lb, ce, ti, da, na⟩ := cl
  simp only at hk
  subst hk
  clear h hl hv
  have H1 := Lib.hid (And.intro (Below.refl w.heap.size w) (HD.out))
  obtain ⟨W1, hW1⟩ : ∃ W1, w.alloc (.cells #[.int .i64 2, .int .i64 lb, .int .i64 ce, .int .i64 ti, .string da, .string na, .slice ka kn kc] 35) = W1 := ⟨_, rfl⟩
  have hbW1 : Below w.heap.size w W1 := by rw [← hW1]; exact alloc_below w _
  have kW1 : W1.heap[w.heap.size]? = some (.cells #[.int .i64 2, .int .i64 lb, .int .i64 ce, .int .i64 ti, .string da, .string na, .slice ka kn kc] 35 (0, 0)) := by rw [← hW1]; exact alloc_new w _
  have H2 := Lib.hid (And.intro (H1.out.1.trans (hbW1.mono H1.out.1.size)) (And.intro (H1.out.2.below hbW1) (kW1)))
  clear hbW1 kW1
  have s1 := Lib.hid (show w.heap.size < W1.heap.size from lt_of_block H2.out.2.2)
  obtain ⟨W2, hW2⟩ : ∃ W2, W1.alloc (.cells #[.int .i64 0, .string ⟨#[]⟩, .int .i64 0, .int .i64 0, .int .i64 0, .int .i64 0, .int .i64 0, .int .i64 0] 39) = W2 := ⟨_, rfl⟩
  have hbW2 : Below W1.heap.size W1 W2 := by rw [← hW2]; exact alloc_below W1 _
  have kW2 : W2.heap[W1.heap.size]? = some (.cells #[.int .i64 0, .string ⟨#[]⟩, .int .i64 0, .int .i64 0, .int .i64 0, .int .i64 0, .int .i64 0, .int .i64 0] 39 (0, 0)) := by rw [← hW2]; exact alloc_new W1 _
  have H3 := Lib.hid (And.intro (H2.out.1.trans (hbW2.mono H2.out.1.size)) (And.intro (H2.out.2.1.below hbW2) (And.intro (blk_on hbW2 H2.out.2.2) (kW2))))
  clear hbW2 kW2
  obtain ⟨a0, a1, a2, a3, a4, a5, a6⟩ := blk7c H3.out.2.2.1
  go_enter Tryz.func8, Tryz.ntmps8
  go_wp2_with fail
  refine (HT.out _ H3.out.2.1).mono ?_
  rintro en y0 ⟨rfl, hw⟩
  rw [hw]
  clear hw hW1 hW2
  obtain ⟨⟨z0, z1, z2, z3, z4, z5, z6, z7⟩, -⟩ := blkR H3.out.2.1.blk
  go_wp2_with fail
  refine (HE.out _ H3.out.2.1).mono ?_
  rintro en y9 ⟨rfl, hw⟩
  rw [hw]
  clear hw y9 z0 z1 z2 z3 z4 z5 z6 z7
  have fa2 := frozen_of_row W2 w.heap.size 2 _ _ H3.out.2.2.1
  obtain ⟨P, hP⟩ : ∃ W, W2.setCell ⟨w.heap.size, 2, none⟩ (.int .i64 m.book.epoch) = W := ⟨_, rfl⟩
  have bP : Below w.heap.size w P := by rw [← hP]; exact H3.out.1.setCell (p := ⟨_, _, none⟩) (Nat.le_refl _) _
  have aP : P.heap[w.heap.size]? = some (.cells #[.int .i64 2, .int .i64 lb, .int .i64 m.book.epoch, .int .i64 ti, .string da, .string na, .slice ka kn kc] 35 (0, 0)) := by rw [← hP]; exact set_blk H3.out.2.2.1 2 _
  have zP : P.heap[W1.heap.size]? = some (.cells #[.int .i64 0, .string ⟨#[]⟩, .int .i64 0, .int .i64 0, .int .i64 0, .int .i64 0, .int .i64 0, .int .i64 0] 39 (0, 0)) := by rw [← hP]; exact (set_ne _ (by have := s1.out; omega)).trans H3.out.2.2.2
  have H9 := Lib.hid (And.intro bP (And.intro (HD.out.below bP) (And.intro aP zP)))
  clear bP aP zP
  go_upto_region 17 with fail
  try rw [hP]
  clear hP a0 a1 a2 a3 a4 a5 a6 fa2
  obtain ⟨a0, a1, a2, a3, a4, a5, a6⟩ := blk7c H9.out.2.2.1
  go_wp2_with fail
  refine (HC.out _ H9.out.2.1).mono ?_
  rintro en v1 ⟨rfl, hb⟩
  have H10 := Lib.hid (And.intro (H9.out.1.trans (hb.mono H9.out.1.size)) (And.intro (H9.out.2.1.below hb) (And.intro (blk_on hb H9.out.2.2.1) (blk_on hb H9.out.2.2.2))))
  clear hb
  clear a0 a1 a2 a3 a4 a5 a6
  obtain ⟨WR, hWR⟩ : ∃ W, v1.setRow W1.heap.size #[.int .i64 e9, .string d9, .int .i64 p1, .int .i64 p2, .int .i64 p3, .int .i64 p4, .int .i64 p5, .int .i64 p6] = W := ⟨_, rfl⟩
  have KE := Lib.hid (show WR.heap[W1.heap.size]? = some (.cells #[.int .i64 e9, .string d9, .int .i64 p1, .int .i64 p2, .int .i64 p3, .int .i64 p4, .int .i64 p5, .int .i64 p6] 39 (0, 0)) by rw [← hWR]; exact setRow_heap v1 _ _ _ _ _ H10.out.2.2.2)
  have BE := Lib.hid (show Below w.heap.size w WR by rw [← hWR]; exact below_setRow H10.out.1 (Nat.le_of_lt s1.out) _)
  go_wp2_with (refine wpList_store_blk rfl 39 (.tmp 4) (.tmp 42) rfl W1.heap.size 0 8 rfl #[.int .i64 0, .string ⟨#[]⟩, .int .i64 0, .int .i64 0, .int .i64 0, .int .i64 0, .int .i64 0, .int .i64 0] #[.int .i64 e9, .string d9, .int .i64 p1, .int .i64 p2, .int .i64 p3, .int .i64 p4, .int .i64 p5, .int .i64 p6] #[.int .i64 e9, .string d9, .int .i64 p1, .int .i64 p2, .int .i64 p3, .int .i64 p4, .int .i64 p5, .int .i64 p6] rfl 39 H10.out.2.2.2 rfl (Nat.le_refl 8) (by kernel_rfl) (ans_one _ _ _ _ _ _ _ _) (splice_all _ _ rfl) ?_; rw [hWR])
  obtain ⟨⟨y0, y1, y2, y3, y4, y5, y6, y7⟩, -⟩ := blkR KE.out
  refine bodyPost_ret (v := .agg #[.int .i64 e9, .string d9, .int .i64 p1, .int .i64 p2, .int .i64 p3, .int .i64 p4, .int .i64 p5, .int .i64 p6]) (by simp [results, Tryz.results8, go_sem, y0, y1, y2, y3, y4, y5, y6, y7]) rfl ?_
  exact HR.out _ _ ⟨rfl, BE.out⟩
set_option maxRecDepth 100000 in
set_option maxHeartbeats 4000000 in
theorem mdo_sync {n cc bn c mu mh mg : Nat} {rv vv : Value} {m : ModT} (cl : CallT) (ka : Option Addr) (kn kc : Nat) (w : World) (h : ModAt w n cc bn c mu mh mg rv vv m) (hk : cl.kind = 4)  :
    Calls Tryz.prog 8 #[.pointer (some ⟨n, 0, none⟩), callV cl ka kn kc] w fun e w' => e = .returned (.agg (ansC (errA 0))) ∧ Below w.heap.size w w' := by
  refine calls_by fun R HR => ?_
  have HD := Lib.hid h
  have HT := Lib.hid (fun w (h : ModAt w n cc bn c mu mh mg rv vv m) => mthere_yes w h)
  obtain ⟨ki, lb, ce, ti, da, na⟩ := cl
  simp only at hk
  subst hk
  clear h
  have H1 := Lib.hid (And.intro (Below.refl w.heap.size w) (HD.out))
  obtain ⟨W1, hW1⟩ : ∃ W1, w.alloc (.cells #[.int .i64 4, .int .i64 lb, .int .i64 ce, .int .i64 ti, .string da, .string na, .slice ka kn kc] 35) = W1 := ⟨_, rfl⟩
  have hbW1 : Below w.heap.size w W1 := by rw [← hW1]; exact alloc_below w _
  have kW1 : W1.heap[w.heap.size]? = some (.cells #[.int .i64 4, .int .i64 lb, .int .i64 ce, .int .i64 ti, .string da, .string na, .slice ka kn kc] 35 (0, 0)) := by rw [← hW1]; exact alloc_new w _
  have H2 := Lib.hid (And.intro (H1.out.1.trans (hbW1.mono H1.out.1.size)) (And.intro (H1.out.2.below hbW1) (kW1)))
  clear hbW1 kW1
  have s1 := Lib.hid (show w.heap.size < W1.heap.size from lt_of_block H2.out.2.2)
  obtain ⟨W2, hW2⟩ : ∃ W2, W1.alloc (.cells #[.int .i64 0, .string ⟨#[]⟩, .int .i64 0, .int .i64 0, .int .i64 0, .int .i64 0, .int .i64 0, .int .i64 0] 39) = W2 := ⟨_, rfl⟩
  have hbW2 : Below W1.heap.size W1 W2 := by rw [← hW2]; exact alloc_below W1 _
  have kW2 : W2.heap[W1.heap.size]? = some (.cells #[.int .i64 0, .string ⟨#[]⟩, .int .i64 0, .int .i64 0, .int .i64 0, .int .i64 0, .int .i64 0, .int .i64 0] 39 (0, 0)) := by rw [← hW2]; exact alloc_new W1 _
  have H3 := Lib.hid (And.intro (H2.out.1.trans (hbW2.mono H2.out.1.size)) (And.intro (H2.out.2.1.below hbW2) (And.intro (blk_on hbW2 H2.out.2.2) (kW2))))
  clear hbW2 kW2
  obtain ⟨a0, a1, a2, a3, a4, a5, a6⟩ := blk7c H3.out.2.2.1
  go_enter Tryz.func8, Tryz.ntmps8
  go_wp2_with fail
  refine (HT.out _ H3.out.2.1).mono ?_
  rintro en y0 ⟨rfl, hw⟩
  rw [hw]
  clear hw hW1 hW2
  obtain ⟨WR, hWR⟩ : ∃ W, W2.setRow W1.heap.size #[.int .i64 0, .string ⟨#[]⟩, .int .i64 0, .int .i64 0, .int .i64 0, .int .i64 0, .int .i64 0, .int .i64 0] = W := ⟨_, rfl⟩
  have KE := Lib.hid (show WR.heap[W1.heap.size]? = some (.cells #[.int .i64 0, .string ⟨#[]⟩, .int .i64 0, .int .i64 0, .int .i64 0, .int .i64 0, .int .i64 0, .int .i64 0] 39 (0, 0)) by rw [← hWR]; exact setRow_heap W2 _ _ _ _ _ H3.out.2.2.2)
  have BE := Lib.hid (show Below w.heap.size w WR by rw [← hWR]; exact below_setRow H3.out.1 (Nat.le_of_lt s1.out) _)
  go_wp2_with (refine wpList_store_blk rfl 39 (.tmp 4) (.tmp 43) rfl W1.heap.size 0 8 rfl #[.int .i64 0, .string ⟨#[]⟩, .int .i64 0, .int .i64 0, .int .i64 0, .int .i64 0, .int .i64 0, .int .i64 0] #[.int .i64 0, .string ⟨#[]⟩, .int .i64 0, .int .i64 0, .int .i64 0, .int .i64 0, .int .i64 0, .int .i64 0] #[.int .i64 0, .string ⟨#[]⟩, .int .i64 0, .int .i64 0, .int .i64 0, .int .i64 0, .int .i64 0, .int .i64 0] rfl 39 H3.out.2.2.2 rfl (Nat.le_refl 8) (by kernel_rfl) (ans_one _ _ _ _ _ _ _ _) (splice_all _ _ rfl) ?_; rw [hWR])
  obtain ⟨⟨y0, y1, y2, y3, y4, y5, y6, y7⟩, -⟩ := blkR KE.out
  refine bodyPost_ret (v := .agg #[.int .i64 0, .string ⟨#[]⟩, .int .i64 0, .int .i64 0, .int .i64 0, .int .i64 0, .int .i64 0, .int .i64 0]) (by simp [results, Tryz.results8, go_sem, y0, y1, y2, y3, y4, y5, y6, y7]) rfl ?_
  exact HR.out _ _ ⟨rfl, BE.out⟩
set_option maxRecDepth 100000 in
set_option maxHeartbeats 4000000 in
theorem mdo_other {n cc bn c mu mh mg : Nat} {rv vv : Value} {m : ModT} (cl : CallT) (ka : Option Addr) (kn kc : Nat) (w : World) (h : ModAt w n cc bn c mu mh mg rv vv m) (hk : ∀ j : Int, 1 ≤ j → j ≤ 11 → cl.kind ≠ j)  :
    Calls Tryz.prog 8 #[.pointer (some ⟨n, 0, none⟩), callV cl ka kn kc] w fun e w' => e = .returned (.agg (ansC (errA 2))) ∧ Below w.heap.size w w' := by
  refine calls_by fun R HR => ?_
  have HD := Lib.hid h
  have HT := Lib.hid (fun w (h : ModAt w n cc bn c mu mh mg rv vv m) => mthere_yes w h)
  obtain ⟨ki, lb, ce, ti, da, na⟩ := cl
  simp only at hk
  have k1 : ki ≠ 1 := hk 1 (by decide) (by decide)
  have k1b : (ki == 1) = false := by simpa using k1
  have k2 : ki ≠ 2 := hk 2 (by decide) (by decide)
  have k2b : (ki == 2) = false := by simpa using k2
  have k3 : ki ≠ 3 := hk 3 (by decide) (by decide)
  have k3b : (ki == 3) = false := by simpa using k3
  have k4 : ki ≠ 4 := hk 4 (by decide) (by decide)
  have k4b : (ki == 4) = false := by simpa using k4
  have k5 : ki ≠ 5 := hk 5 (by decide) (by decide)
  have k5b : (ki == 5) = false := by simpa using k5
  have k6 : ki ≠ 6 := hk 6 (by decide) (by decide)
  have k6b : (ki == 6) = false := by simpa using k6
  have k7 : ki ≠ 7 := hk 7 (by decide) (by decide)
  have k7b : (ki == 7) = false := by simpa using k7
  have k8 : ki ≠ 8 := hk 8 (by decide) (by decide)
  have k8b : (ki == 8) = false := by simpa using k8
  have k9 : ki ≠ 9 := hk 9 (by decide) (by decide)
  have k9b : (ki == 9) = false := by simpa using k9
  have k10 : ki ≠ 10 := hk 10 (by decide) (by decide)
  have k10b : (ki == 10) = false := by simpa using k10
  have k11 : ki ≠ 11 := hk 11 (by decide) (by decide)
  have k11b : (ki == 11) = false := by simpa using k11
  clear h hk
  have H1 := Lib.hid (And.intro (Below.refl w.heap.size w) (HD.out))
  obtain ⟨W1, hW1⟩ : ∃ W1, w.alloc (.cells #[.int .i64 ki, .int .i64 lb, .int .i64 ce, .int .i64 ti, .string da, .string na, .slice ka kn kc] 35) = W1 := ⟨_, rfl⟩
  have hbW1 : Below w.heap.size w W1 := by rw [← hW1]; exact alloc_below w _
  have kW1 : W1.heap[w.heap.size]? = some (.cells #[.int .i64 ki, .int .i64 lb, .int .i64 ce, .int .i64 ti, .string da, .string na, .slice ka kn kc] 35 (0, 0)) := by rw [← hW1]; exact alloc_new w _
  have H2 := Lib.hid (And.intro (H1.out.1.trans (hbW1.mono H1.out.1.size)) (And.intro (H1.out.2.below hbW1) (kW1)))
  clear hbW1 kW1
  have s1 := Lib.hid (show w.heap.size < W1.heap.size from lt_of_block H2.out.2.2)
  obtain ⟨W2, hW2⟩ : ∃ W2, W1.alloc (.cells #[.int .i64 0, .string ⟨#[]⟩, .int .i64 0, .int .i64 0, .int .i64 0, .int .i64 0, .int .i64 0, .int .i64 0] 39) = W2 := ⟨_, rfl⟩
  have hbW2 : Below W1.heap.size W1 W2 := by rw [← hW2]; exact alloc_below W1 _
  have kW2 : W2.heap[W1.heap.size]? = some (.cells #[.int .i64 0, .string ⟨#[]⟩, .int .i64 0, .int .i64 0, .int .i64 0, .int .i64 0, .int .i64 0, .int .i64 0] 39 (0, 0)) := by rw [← hW2]; exact alloc_new W1 _
  have H3 := Lib.hid (And.intro (H2.out.1.trans (hbW2.mono H2.out.1.size)) (And.intro (H2.out.2.1.below hbW2) (And.intro (blk_on hbW2 H2.out.2.2) (kW2))))
  clear hbW2 kW2
  obtain ⟨a0, a1, a2, a3, a4, a5, a6⟩ := blk7c H3.out.2.2.1
  go_enter Tryz.func8, Tryz.ntmps8
  go_wp2_with fail
  refine (HT.out _ H3.out.2.1).mono ?_
  rintro en y0 ⟨rfl, hw⟩
  rw [hw]
  clear hw hW1 hW2
  obtain ⟨WR, hWR⟩ : ∃ W, W2.setRow W1.heap.size #[.int .i64 2, .string ⟨#[]⟩, .int .i64 0, .int .i64 0, .int .i64 0, .int .i64 0, .int .i64 0, .int .i64 0] = W := ⟨_, rfl⟩
  have KE := Lib.hid (show WR.heap[W1.heap.size]? = some (.cells #[.int .i64 2, .string ⟨#[]⟩, .int .i64 0, .int .i64 0, .int .i64 0, .int .i64 0, .int .i64 0, .int .i64 0] 39 (0, 0)) by rw [← hWR]; exact setRow_heap W2 _ _ _ _ _ H3.out.2.2.2)
  have BE := Lib.hid (show Below w.heap.size w WR by rw [← hWR]; exact below_setRow H3.out.1 (Nat.le_of_lt s1.out) _)
  go_wp2_with (refine wpList_store_blk rfl 39 (.tmp 4) (.tmp 62) rfl W1.heap.size 0 8 rfl #[.int .i64 0, .string ⟨#[]⟩, .int .i64 0, .int .i64 0, .int .i64 0, .int .i64 0, .int .i64 0, .int .i64 0] #[.int .i64 2, .string ⟨#[]⟩, .int .i64 0, .int .i64 0, .int .i64 0, .int .i64 0, .int .i64 0, .int .i64 0] #[.int .i64 2, .string ⟨#[]⟩, .int .i64 0, .int .i64 0, .int .i64 0, .int .i64 0, .int .i64 0, .int .i64 0] rfl 39 H3.out.2.2.2 rfl (Nat.le_refl 8) (by kernel_rfl) (ans_one _ _ _ _ _ _ _ _) (splice_all _ _ rfl) ?_; rw [hWR])
  obtain ⟨⟨y0, y1, y2, y3, y4, y5, y6, y7⟩, -⟩ := blkR KE.out
  refine bodyPost_ret (v := .agg #[.int .i64 2, .string ⟨#[]⟩, .int .i64 0, .int .i64 0, .int .i64 0, .int .i64 0, .int .i64 0, .int .i64 0]) (by simp [results, Tryz.results8, go_sem, y0, y1, y2, y3, y4, y5, y6, y7]) rfl ?_
  exact HR.out _ _ ⟨rfl, BE.out⟩
set_option maxRecDepth 100000 in
set_option maxHeartbeats 4000000 in
theorem mdo_stat {n cc bn c mu mh mg : Nat} {rv vv : Value} {m : ModT} (cl : CallT) (ka : Option Addr) (kn kc : Nat) (w : World) (h : ModAt w n cc bn c mu mh mg rv vv m) (hk : cl.kind = 10) (hg : -9223372036854775808 ≤ m.geo.blocks ∧ m.geo.blocks ≤ 9223372036854775807) (hv : ∀ v ∈ m.vers, 0 ≤ v.1 ∧ v.1 < 4096) (hl : m.vers.length ≤ 1000000) :
    Calls Tryz.prog 8 #[.pointer (some ⟨n, 0, none⟩), callV cl ka kn kc] w fun e w' => e = .returned (.agg (ansC (statA m))) ∧ Below w.heap.size w w' := by
  refine calls_by fun R HR => ?_
  have HD := Lib.hid h
  have HT := Lib.hid (fun w (h : ModAt w n cc bn c mu mh mg rv vv m) => mthere_yes w h)
  have HC := Lib.hid (fun w (h : ModAt w n cc bn c mu mh mg rv vv m) => mstat_any w h hg hv hl)
  unfold statA at HR
  generalize roomM m = p3 at *
  generalize placesN m m.geo.first = p5 at *
  obtain ⟨ki, lb, ce, ti, da, na⟩ := cl
  simp only at hk
  subst hk
  clear h hg hv hl
  have H1 := Lib.hid (And.intro (Below.refl w.heap.size w) (HD.out))
  obtain ⟨W1, hW1⟩ : ∃ W1, w.alloc (.cells #[.int .i64 10, .int .i64 lb, .int .i64 ce, .int .i64 ti, .string da, .string na, .slice ka kn kc] 35) = W1 := ⟨_, rfl⟩
  have hbW1 : Below w.heap.size w W1 := by rw [← hW1]; exact alloc_below w _
  have kW1 : W1.heap[w.heap.size]? = some (.cells #[.int .i64 10, .int .i64 lb, .int .i64 ce, .int .i64 ti, .string da, .string na, .slice ka kn kc] 35 (0, 0)) := by rw [← hW1]; exact alloc_new w _
  have H2 := Lib.hid (And.intro (H1.out.1.trans (hbW1.mono H1.out.1.size)) (And.intro (H1.out.2.below hbW1) (kW1)))
  clear hbW1 kW1
  have s1 := Lib.hid (show w.heap.size < W1.heap.size from lt_of_block H2.out.2.2)
  obtain ⟨W2, hW2⟩ : ∃ W2, W1.alloc (.cells #[.int .i64 0, .string ⟨#[]⟩, .int .i64 0, .int .i64 0, .int .i64 0, .int .i64 0, .int .i64 0, .int .i64 0] 39) = W2 := ⟨_, rfl⟩
  have hbW2 : Below W1.heap.size W1 W2 := by rw [← hW2]; exact alloc_below W1 _
  have kW2 : W2.heap[W1.heap.size]? = some (.cells #[.int .i64 0, .string ⟨#[]⟩, .int .i64 0, .int .i64 0, .int .i64 0, .int .i64 0, .int .i64 0, .int .i64 0] 39 (0, 0)) := by rw [← hW2]; exact alloc_new W1 _
  have H3 := Lib.hid (And.intro (H2.out.1.trans (hbW2.mono H2.out.1.size)) (And.intro (H2.out.2.1.below hbW2) (And.intro (blk_on hbW2 H2.out.2.2) (kW2))))
  clear hbW2 kW2
  obtain ⟨a0, a1, a2, a3, a4, a5, a6⟩ := blk7c H3.out.2.2.1
  go_enter Tryz.func8, Tryz.ntmps8
  go_wp2_with fail
  refine (HT.out _ H3.out.2.1).mono ?_
  rintro en y0 ⟨rfl, hw⟩
  rw [hw]
  clear hw hW1 hW2
  go_wp2_with fail
  refine (HC.out _ H3.out.2.1).mono ?_
  rintro en v1 ⟨rfl, hb⟩
  have H4 := Lib.hid (And.intro (H3.out.1.trans (hb.mono H3.out.1.size)) (And.intro (H3.out.2.1.below hb) (And.intro (blk_on hb H3.out.2.2.1) (blk_on hb H3.out.2.2.2))))
  clear hb
  clear a0 a1 a2 a3 a4 a5 a6
  obtain ⟨WR, hWR⟩ : ∃ W, v1.setRow W1.heap.size #[.int .i64 0, .string ⟨#[]⟩, .int .i64 m.book.epoch, .int .i64 m.now, .int .i64 p3, .int .i64 m.recs.length, .int .i64 p5, .int .i64 m.book.holds.length] = W := ⟨_, rfl⟩
  have KE := Lib.hid (show WR.heap[W1.heap.size]? = some (.cells #[.int .i64 0, .string ⟨#[]⟩, .int .i64 m.book.epoch, .int .i64 m.now, .int .i64 p3, .int .i64 m.recs.length, .int .i64 p5, .int .i64 m.book.holds.length] 39 (0, 0)) by rw [← hWR]; exact setRow_heap v1 _ _ _ _ _ H4.out.2.2.2)
  have BE := Lib.hid (show Below w.heap.size w WR by rw [← hWR]; exact below_setRow H4.out.1 (Nat.le_of_lt s1.out) _)
  go_wp2_with (refine wpList_store_blk rfl 39 (.tmp 4) (.tmp 46) rfl W1.heap.size 0 8 rfl #[.int .i64 0, .string ⟨#[]⟩, .int .i64 0, .int .i64 0, .int .i64 0, .int .i64 0, .int .i64 0, .int .i64 0] #[.int .i64 0, .string ⟨#[]⟩, .int .i64 m.book.epoch, .int .i64 m.now, .int .i64 p3, .int .i64 m.recs.length, .int .i64 p5, .int .i64 m.book.holds.length] #[.int .i64 0, .string ⟨#[]⟩, .int .i64 m.book.epoch, .int .i64 m.now, .int .i64 p3, .int .i64 m.recs.length, .int .i64 p5, .int .i64 m.book.holds.length] rfl 39 H4.out.2.2.2 rfl (Nat.le_refl 8) (by kernel_rfl) (ans_one _ _ _ _ _ _ _ _) (splice_all _ _ rfl) ?_; rw [hWR])
  obtain ⟨⟨y0, y1, y2, y3, y4, y5, y6, y7⟩, -⟩ := blkR KE.out
  refine bodyPost_ret (v := .agg #[.int .i64 0, .string ⟨#[]⟩, .int .i64 m.book.epoch, .int .i64 m.now, .int .i64 p3, .int .i64 m.recs.length, .int .i64 p5, .int .i64 m.book.holds.length]) (by simp [results, Tryz.results8, go_sem, y0, y1, y2, y3, y4, y5, y6, y7]) rfl ?_
  exact HR.out _ _ ⟨rfl, BE.out⟩
theorem ModAt.ticked {w : World} {n cc bn c mu mh mg : Nat} {rv vv : Value} {m : ModT} (h : ModAt w n cc bn c mu mh mg rv vv m) (h7 : Seven n cc bn c mu mh mg) (t : Int) : ModAt (w.setCell ⟨cc, 1, none⟩ (.int .i64 t)) n cc bn c mu mh mg rv vv { m with now := t } := by
  have hn := h7.2.1
  refine ⟨(set_ne _ (by omega)).trans h.blk, set_blk h.clk 1 _, h.book.same fun k o hf e => (set_ne _ (h7.2.2 k hf).2).trans e, h.recs.keep fun k e => set_ne _ (h.far k (Or.inl e)).2.1, h.vers.keep fun k e => set_ne _ (h.far k (Or.inr e)).2.1, h.ne, h.far⟩
set_option maxRecDepth 100000 in
set_option maxHeartbeats 4000000 in
theorem mdo_tick {n cc bn c mu mh mg : Nat} {rv vv : Value} {m : ModT} (cl : CallT) (ka : Option Addr) (kn kc : Nat) (w : World) (h : ModAt w n cc bn c mu mh mg rv vv m) (hk : cl.kind = 11) (h7 : Seven n cc bn c mu mh mg) :
    Calls Tryz.prog 8 #[.pointer (some ⟨n, 0, none⟩), callV cl ka kn kc] w fun e w' => e = .returned (.agg (ansC (errA (tickE m cl.time)))) ∧ ModAt w' n cc bn c mu mh mg rv vv (tickM m cl.time) ∧ Turn w w' (FM n cc bn c mu mh mg rv vv) (FM n cc bn c mu mh mg rv vv) := by
  refine calls_by fun R HR => ?_
  have HD := Lib.hid h
  have H7 := Lib.hid h7
  have HT := Lib.hid (fun w (h : ModAt w n cc bn c mu mh mg rv vv m) => mthere_yes w h)
  have HC : Hid (∀ w, ModAt w n cc bn c mu mh mg rv vv m → Calls Tryz.prog 20 #[.pointer (some ⟨cc, 0, none⟩), .int .i64 cl.time] w fun e w' => e = .returned (.int .i64 (tickE m cl.time)) ∧ ModAt w' n cc bn c mu mh mg rv vv (tickM m cl.time) ∧ Turn w w' (FM n cc bn c mu mh mg rv vv) (FM n cc bn c mu mh mg rv vv)) := Lib.hid fun w h => by
    have e1 : tickN m.now cl.time = tickE m cl.time := rfl
    refine (ctick_all cc m.now cl.time w h.clk).mono ?_
    rintro e w' ⟨rfl, rfl⟩
    rw [e1]
    refine ⟨rfl, ?_, ?_⟩
    · unfold tickM
      split
      · exact h.ticked h7 _
      · exact h
    · split
      · exact Turn.cell _ cc 1 _ (Or.inr (Or.inl rfl))
      · exact Turn.of_below _ (Below.refl _ _)
  generalize tickE m cl.time = EE at *
  generalize tickM m cl.time = MM at *
  obtain ⟨ki, lb, ce, ti, da, na⟩ := cl
  simp only at hk
  subst hk
  clear h h7
  have H1 := Lib.hid (And.intro (Below.refl w.heap.size w) (HD.out))
  obtain ⟨W1, hW1⟩ : ∃ W1, w.alloc (.cells #[.int .i64 11, .int .i64 lb, .int .i64 ce, .int .i64 ti, .string da, .string na, .slice ka kn kc] 35) = W1 := ⟨_, rfl⟩
  have hbW1 : Below w.heap.size w W1 := by rw [← hW1]; exact alloc_below w _
  have kW1 : W1.heap[w.heap.size]? = some (.cells #[.int .i64 11, .int .i64 lb, .int .i64 ce, .int .i64 ti, .string da, .string na, .slice ka kn kc] 35 (0, 0)) := by rw [← hW1]; exact alloc_new w _
  have H2 := Lib.hid (And.intro (H1.out.1.trans (hbW1.mono H1.out.1.size)) (And.intro (H1.out.2.below hbW1) (kW1)))
  clear hbW1 kW1
  have s1 := Lib.hid (show w.heap.size < W1.heap.size from lt_of_block H2.out.2.2)
  obtain ⟨W2, hW2⟩ : ∃ W2, W1.alloc (.cells #[.int .i64 0, .string ⟨#[]⟩, .int .i64 0, .int .i64 0, .int .i64 0, .int .i64 0, .int .i64 0, .int .i64 0] 39) = W2 := ⟨_, rfl⟩
  have hbW2 : Below W1.heap.size W1 W2 := by rw [← hW2]; exact alloc_below W1 _
  have kW2 : W2.heap[W1.heap.size]? = some (.cells #[.int .i64 0, .string ⟨#[]⟩, .int .i64 0, .int .i64 0, .int .i64 0, .int .i64 0, .int .i64 0, .int .i64 0] 39 (0, 0)) := by rw [← hW2]; exact alloc_new W1 _
  have H3 := Lib.hid (And.intro (H2.out.1.trans (hbW2.mono H2.out.1.size)) (And.intro (H2.out.2.1.below hbW2) (And.intro (blk_on hbW2 H2.out.2.2) (kW2))))
  clear hbW2 kW2
  obtain ⟨a0, a1, a2, a3, a4, a5, a6⟩ := blk7c H3.out.2.2.1
  go_enter Tryz.func8, Tryz.ntmps8
  go_wp2_with fail
  refine (HT.out _ H3.out.2.1).mono ?_
  rintro en y0 ⟨rfl, hw⟩
  rw [hw]
  clear hw hW1 hW2
  obtain ⟨⟨z0, z1, z2, z3, z4, z5, z6, z7⟩, -⟩ := blkR H3.out.2.1.blk
  go_upto_region 20 with fail
  have gz0 := fun p => after_cell z0 p
  have gz4 := fun p => after_cell z4 p
  have ga3 := fun p => after_cell a3 p
  refine wp_region_after_tail 6 (by kernel_rfl) (by kernel_rfl) ?_
  simp only [List.take_succ_cons, List.take_zero, List.drop_succ_cons, List.drop_zero]
  repeat (go_big_quiet_step (fail))
  refine wpQuiet_nil ?_
  rintro q1 ⟨p9, rfl⟩
  have hb := after_below W2 p9
  have H4 := Lib.hid (And.intro (H3.out.1.trans (hb.mono H3.out.1.size)) (And.intro (H3.out.2.1.below hb) (And.intro (blk_on hb H3.out.2.2.1) (blk_on hb H3.out.2.2.2))))
  generalize After W2 p9 = q1 at *
  clear hb gz0 gz4 ga3 z0 z1 z2 z3 z4 z5 z6 z7 a0 a1 a2 a3 a4 a5 a6
  go_wp2_with fail
  refine (HC.out _ H4.out.2.1).mono ?_
  rintro en v9 ⟨rfl, hm9, ht9⟩
  have hfm : ∀ k, FM n cc bn c mu mh mg rv vv k → k < w.heap.size := HD.out.ltF
  have KZ := Lib.hid (show v9.heap[W1.heap.size]? = some (.cells #[.int .i64 0, .string ⟨#[]⟩, .int .i64 0, .int .i64 0, .int .i64 0, .int .i64 0, .int .i64 0, .int .i64 0] 39 (0, 0)) from (ht9.block _ (lt_of_block H4.out.2.2.2) (fun q => by have := hfm _ q; have := s1.out; omega)).trans H4.out.2.2.2)
  have hfm2 : ∀ k, FM n cc bn c mu mh mg rv vv k → k ≠ W1.heap.size := fun k q e => by have := hfm k q; have := s1.out; omega
  have HT9 := Lib.hid ((Turn.of_below (FM n cc bn c mu mh mg rv vv) H4.out.1).trans ht9)
  have HM9 := Lib.hid hm9
  have HF2 := Lib.hid hfm2
  clear hm9 ht9 hfm2 hfm
  obtain ⟨WR, hWR⟩ : ∃ W, v9.setRow W1.heap.size #[.int .i64 EE, .string ⟨#[]⟩, .int .i64 0, .int .i64 0, .int .i64 0, .int .i64 0, .int .i64 0, .int .i64 0] = W := ⟨_, rfl⟩
  have KE := Lib.hid (show WR.heap[W1.heap.size]? = some (.cells #[.int .i64 EE, .string ⟨#[]⟩, .int .i64 0, .int .i64 0, .int .i64 0, .int .i64 0, .int .i64 0, .int .i64 0] 39 (0, 0)) by rw [← hWR]; exact setRow_heap v9 _ _ _ _ _ KZ.out)
  have HO := Lib.hid (show ∀ k, k ≠ W1.heap.size → WR.heap[k]? = v9.heap[k]? from fun k hk => by rw [← hWR]; exact setRow_other _ _ _ _ hk)
  have HTR := Lib.hid (show Turn w WR (FM n cc bn c mu mh mg rv vv) (FM n cc bn c mu mh mg rv vv) from by rw [← hWR]; exact ⟨HT9.out.os, HT9.out.tape, HT9.out.output, by simpa using HT9.out.size, fun k hk hF => (setRow_other _ _ _ _ (by have := s1.out; omega)).trans (HT9.out.block k hk hF), HT9.out.foot⟩)
  go_wp2_with (refine wpList_store_blk rfl 39 (.tmp 4) (.tmp 54) rfl W1.heap.size 0 8 rfl #[.int .i64 0, .string ⟨#[]⟩, .int .i64 0, .int .i64 0, .int .i64 0, .int .i64 0, .int .i64 0, .int .i64 0] #[.int .i64 EE, .string ⟨#[]⟩, .int .i64 0, .int .i64 0, .int .i64 0, .int .i64 0, .int .i64 0, .int .i64 0] #[.int .i64 EE, .string ⟨#[]⟩, .int .i64 0, .int .i64 0, .int .i64 0, .int .i64 0, .int .i64 0, .int .i64 0] rfl 39 KZ.out rfl (Nat.le_refl 8) (by kernel_rfl) (ans_one _ _ _ _ _ _ _ _) (splice_all _ _ rfl) ?_; rw [hWR])
  obtain ⟨⟨y0, y1, y2, y3, y4, y5, y6, y7⟩, -⟩ := blkR KE.out
  refine bodyPost_ret (v := .agg #[.int .i64 EE, .string ⟨#[]⟩, .int .i64 0, .int .i64 0, .int .i64 0, .int .i64 0, .int .i64 0, .int .i64 0]) (by simp [results, Tryz.results8, go_sem, y0, y1, y2, y3, y4, y5, y6, y7]) rfl ?_
  exact HR.out _ _ ⟨rfl, HM9.out.sameF (fun k q => HO.out k (HF2.out k q)), HTR.out⟩
theorem mdo_any {n cc bn c mu mh mg : Nat} {rv vv : Value} {m : ModT} (cl : CallT) (ka : Option Addr) (kn kc : Nat) (w : World) (h : ModAt w n cc bn c mu mh mg rv vv m) (h7 : Seven n cc bn c mu mh mg) (hi : ModI m) (hce : -9223372036854775808 ≤ cl.epoch ∧ cl.epoch ≤ 9223372036854775807) (hna : cl.name.size ≤ maxLen) :
    Calls Tryz.prog 8 #[.pointer (some ⟨n, 0, none⟩), callV cl ka kn kc] w fun e w' => e = .returned (.agg (ansC (doA m cl))) ∧ ∃ rv' vv', ModAt w' n cc bn c mu mh mg rv' vv' (doM (zerosS 32) m cl) ∧ Turn w w' (FM n cc bn c mu mh mg rv vv) (FM n cc bn c mu mh mg rv' vv') := by
  have hd := hi.data
  have hu0 := hi.used
  have hg : -9223372036854775808 ≤ m.geo.blocks ∧ m.geo.blocks ≤ 9223372036854775807 := by omega
  have hu : 0 ≤ m.used ∧ m.used ≤ 1000000000 := by omega
  have hh : m.book.holds.length ≤ 1000000 := by have := hi.hlen; omega
  have hn : m.recs.length ≤ 1000000 := by have := hi.rlen; omega
  have hl : m.vers.length ≤ 1000000 := by have := hi.vlen; omega
  have hv : ∀ v ∈ m.vers, 0 ≤ v.1 ∧ v.1 < 4096 := fun v q => by have := (hi.vers v q).1; omega
  have hv2 : ∀ v ∈ m.vers, -9223372036854775808 ≤ v.2.1 ∧ v.2.1 ≤ 9223372036854775807 := fun v q => by have := (hi.vers v q).2; have := hi.epoch; omega
  have stay : ∀ {A : AnsT}, (Calls Tryz.prog 8 #[.pointer (some ⟨n, 0, none⟩), callV cl ka kn kc] w fun e w' => e = .returned (.agg (ansC A)) ∧ Below w.heap.size w w') → doA m cl = A → doM (zerosS 32) m cl = m → Calls Tryz.prog 8 #[.pointer (some ⟨n, 0, none⟩), callV cl ka kn kc] w fun e w' => e = .returned (.agg (ansC (doA m cl))) ∧ ∃ rv' vv', ModAt w' n cc bn c mu mh mg rv' vv' (doM (zerosS 32) m cl) ∧ Turn w w' (FM n cc bn c mu mh mg rv vv) (FM n cc bn c mu mh mg rv' vv') := fun hC e1 e2 => by
    rw [e1, e2]
    exact hC.mono fun e w' ⟨h1, h2⟩ => ⟨h1, rv, vv, h.below h2, Turn.of_below _ h2⟩
  have eA : doA m cl = if cl.kind = 1 then errA (writeE m cl) else if cl.kind = 2 then readA m cl.lba m.book.epoch else if cl.kind = 3 then readA m cl.lba cl.epoch
    else if cl.kind = 4 then errA 0 else if cl.kind = 5 then errA (closeE m) else if 6 ≤ cl.kind ∧ cl.kind ≤ 9 then errA (sealE m cl)
    else if cl.kind = 10 then statA m else if cl.kind = 11 then errA (tickE m cl.time) else errA 2 := rfl
  have eM : doM (zerosS 32) m cl = if cl.kind = 1 then writeM m cl else if cl.kind = 5 then closeM m (zerosS 32) else if 6 ≤ cl.kind ∧ cl.kind ≤ 9 then sealM m cl else if cl.kind = 11 then tickM m cl.time else m := rfl
  by_cases k1 : cl.kind = 1
  · rw [eA, eM, if_pos k1, if_pos k1]
    exact (mdo_write cl ka kn kc w h k1 h7 hg hu hl).mono fun e w' ⟨h1, vv', h2, h3⟩ => ⟨h1, rv, vv', h2, h3⟩
  by_cases k2 : cl.kind = 2
  · exact stay (mdo_read cl ka kn kc w h k2 hl hv2) (by rw [eA, if_neg k1, if_pos k2]) (by rw [eM, if_neg k1, if_neg (by omega), if_neg (by omega), if_neg (by omega)])
  by_cases k3 : cl.kind = 3
  · exact stay (mdo_readAt cl ka kn kc w h k3 hl hv2) (by rw [eA, if_neg k1, if_neg k2, if_pos k3]) (by rw [eM, if_neg k1, if_neg (by omega), if_neg (by omega), if_neg (by omega)])
  by_cases k4 : cl.kind = 4
  · exact stay (mdo_sync cl ka kn kc w h k4) (by rw [eA, if_neg k1, if_neg k2, if_neg k3, if_pos k4]) (by rw [eM, if_neg k1, if_neg (by omega), if_neg (by omega), if_neg (by omega)])
  by_cases k5 : cl.kind = 5
  · rw [eA, eM, if_neg k1, if_neg k2, if_neg k3, if_neg k4, if_pos k5, if_neg k1, if_pos k5]
    exact (mdo_close cl ka kn kc w h k5 h7 hg hh hu hn hv hl).mono fun e w' ⟨h1, rv', h2, h3⟩ => ⟨h1, rv', vv, h2, h3⟩
  by_cases k6 : 6 ≤ cl.kind ∧ cl.kind ≤ 9
  · rw [eA, eM, if_neg k1, if_neg k2, if_neg k3, if_neg k4, if_neg k5, if_pos k6, if_neg k1, if_neg k5, if_pos k6]
    have key : Calls Tryz.prog 8 #[.pointer (some ⟨n, 0, none⟩), callV cl ka kn kc] w fun e w' => e = .returned (.agg (ansC (errA (sealE m cl)))) ∧ ∃ rv', ModAt w' n cc bn c mu mh mg rv' vv (sealM m cl) ∧ Turn w w' (FM n cc bn c mu mh mg rv vv) (FM n cc bn c mu mh mg rv' vv) := by
      rcases (show cl.kind = 6 ∨ cl.kind = 7 ∨ cl.kind = 8 ∨ cl.kind = 9 by omega) with q | q | q | q
      · exact mdo_seal6 cl ka kn kc w h q h7 hg hh hu hn hce hna
      · exact mdo_seal7 cl ka kn kc w h q h7 hg hh hu hn hce hna
      · exact mdo_seal8 cl ka kn kc w h q h7 hg hh hu hn hce hna
      · exact mdo_seal9 cl ka kn kc w h q h7 hg hh hu hn hce hna
    exact key.mono fun e w' ⟨h1, rv', h2, h3⟩ => ⟨h1, rv', vv, h2, h3⟩
  by_cases k10 : cl.kind = 10
  · exact stay (mdo_stat cl ka kn kc w h k10 hg hv hl) (by rw [eA, if_neg k1, if_neg k2, if_neg k3, if_neg k4, if_neg k5, if_neg k6, if_pos k10]) (by rw [eM, if_neg k1, if_neg k5, if_neg k6, if_neg (by omega)])
  by_cases k11 : cl.kind = 11
  · rw [eA, eM, if_neg k1, if_neg k2, if_neg k3, if_neg k4, if_neg k5, if_neg k6, if_neg k10, if_pos k11, if_neg k1, if_neg k5, if_neg k6, if_pos k11]
    exact (mdo_tick cl ka kn kc w h k11 h7).mono fun e w' ⟨h1, h2, h3⟩ => ⟨h1, rv, vv, h2, h3⟩
  · exact stay (mdo_other cl ka kn kc w h (fun j h1 h2 e => by omega)) (by rw [eA, if_neg k1, if_neg k2, if_neg k3, if_neg k4, if_neg k5, if_neg k6, if_neg k10, if_neg k11]) (by rw [eM, if_neg k1, if_neg k5, if_neg k6, if_neg k11])
end Go.Proofs.YtnkiokaeooopgaaGreat
