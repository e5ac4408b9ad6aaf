/- The law SegmentPlays: what its walk gives. -/
import Derived.Test.YtdbabkkmdlkjaaaM11
import Derived.Test.YtdbabkkmdlkjaaaM5
set_option maxRecDepth 100000
namespace Go.Proofs.Ytdbabkkmdlkjaaa
open Go.RowKit Ks
set_option linter.unusedVariables false
set_option linter.unusedSimpArgs false
theorem same_none17c (w : World) : Calls Try.prog 19 #[prfV noPrf (.slice none 0 0) (.slice none 0 0), prfV noPrf (.slice none 0 0) (.slice none 0 0)] w fun e w' => e = .returned (.bool true) ∧ Below w.heap.size w w' :=
  rsame_any noPrf _ _ _ _ w (Rd.nil w) (Rd.nil w) (Rd.nil w) (Rd.nil w) (by decide) (by decide)
/-- both segments -/
structure PlayAt (w wx : World) (n mb rn : Nat) (e : Int) (m : SegM) (v : Value) (l : List LeafT) : Prop where
  b : Below w.heap.size w wx
  s : SegAt segKV wx 56 n mb e m
  r : RSegAt wx 32 45 rn e v l
def OrdP (w : World) (n mb rn : Nat) : Prop := w.heap.size ≤ n ∧ w.heap.size ≤ mb ∧ n < rn ∧ mb < rn
section
variable {w wx wy : World} {n mb rn : Nat} {e : Int} {m m' : SegM} {v v' : Value} {l l' : List LeafT}
theorem PlayAt.below (h : PlayAt w wx n mb rn e m v l) (hb : Below wx.heap.size wx wy) : PlayAt w wy n mb rn e m v l := ⟨h.b.trans (hb.mono h.b.size), h.s.below hb, h.r.below hb⟩
theorem PlayAt.put1 (h : PlayAt w wx n mb rn e m v l) (ho : OrdP w n mb rn) (hs : SegAt segKV wy 56 n mb e m') (hq : Solo wx wy mb) : PlayAt w wy n mb rn e m' v l := by
  obtain ⟨h1, h2, h3, h4⟩ := ho
  exact ⟨h.b.trans (hq.below h2 h.b.size), hs, h.r.solo hq h4⟩
theorem PlayAt.put2 (h : PlayAt w wx n mb rn e m v l) (ho : OrdP w n mb rn) (hr : RSegAt wy 32 45 rn e v' l') (hq : Solo wx wy rn) : PlayAt w wy n mb rn e m v' l' := by
  obtain ⟨h1, h2, h3, h4⟩ := ho
  exact ⟨h.b.trans (hq.below (by omega) h.b.size), h.s.solo hq (by omega) (by omega), hr⟩
end
/-- a round's worlds: neither, one, or both have put -/
def PlayCls (w : World) (n mb rn ba : Nat) (ob : Obj) (e : Int) (m m' : SegM) (v : Value) (l l' : List LeafT) (r1 r2 : Option Value) (wx : World) : Prop :=
  (wx.heap[ba]? = some ob ∧ rn < ba) ∧ (match r1, r2 with
    | none, none => PlayAt w wx n mb rn e m v l
    | some _, none => PlayAt w wx n mb rn e m' v l
    | some _, some _ => ∃ v', PlayAt w wx n mb rn e m' v' l'
    | none, some _ => False)
/-- the worlds behind one, where leaves and hashes may have been made -/
def ShowCls (w0 : World) (A : List LeafT) (B : List ByteArray) (r1 r2 : Option Value) (w : World) : Prop :=
  Below w0.heap.size w0 w ∧ (∀ v, r1 = some v → Rd leafE w v A) ∧ (∀ v, r2 = some v → Rd strE w v B)
section
variable {w0 w w' : World} {A : List LeafT} {B : List ByteArray} {r1 r2 : Option Value}
theorem ShowCls.on (h : ShowCls w0 A B r1 r2 w) (hb : Below w.heap.size w w') : ShowCls w0 A B r1 r2 w' := ⟨h.1.trans (hb.mono h.1.size), fun v e => (h.2.1 v e).below hb, fun v e => (h.2.2 v e).below hb⟩
end
theorem eg_put17 : ∀ args w, (callFunc 9 args).run Try.prog w = .ok (.enter 9 args) w := fun _ _ => rfl
theorem eg_rput17 : ∀ args w, (callFunc 10 args).run Try.prog w = .ok (.enter 10 args) w := fun _ _ => rfl
theorem eg_leaves17 : ∀ args w, (callFunc 12 args).run Try.prog w = .ok (.enter 12 args) w := fun _ _ => rfl
theorem eg_count17 : ∀ args w, (callFunc 13 args).run Try.prog w = .ok (.enter 13 args) w := fun _ _ => rfl
theorem eg_epoch17 : ∀ args w, (callFunc 14 args).run Try.prog w = .ok (.enter 14 args) w := fun _ _ => rfl
theorem eg_root17 : ∀ args w, (callFunc 15 args).run Try.prog w = .ok (.enter 15 args) w := fun _ _ => rfl
theorem eg_hashes17 : ∀ args w, (callFunc 17 args).run Try.prog w = .ok (.enter 17 args) w := fun _ _ => rfl
theorem eg_mroot17 : ∀ args w, (callFunc 16 args).run Try.prog w = .ok (.enter 16 args) w := fun _ _ => rfl
theorem eg_same17 : ∀ args w, (callFunc 11 args).run Try.prog w = .ok (.enter 11 args) w := fun _ _ => rfl
theorem eg_psame17 : ∀ args w, (callFunc 19 args).run Try.prog w = .ok (.enter 19 args) w := fun _ _ => rfl
theorem eg_pprove17 : ∀ args w, (callFunc 20 args).run Try.prog w = .ok (.enter 20 args) w := fun _ _ => rfl
theorem eg_alive17 : ∀ args w, (callFunc 7 args).run Try.prog w = .ok (.enter 7 args) w := fun _ _ => rfl
set_option maxRecDepth 100000 in
set_option maxHeartbeats 4000000 in
theorem splays_bad (e lba : Int) (lv : Value) (l : List ActT) (w : World) (hl : Rd actE17 w lv l) (he : e < 0 ∨ (¬ e < 0 ∧ 4294967295 < e)) :
    Calls Try.prog 3 #[.int .i64 e, lv, .int .i64 lba] w fun r w' => r = .returned (.bool true) ∧ Below w.heap.size w w' := by
  refine calls_by fun R HR => ?_
  have HN := Lib.hid (snew_err e w he)
  have HF := Lib.hid (few17_any lv l w hl)
  obtain ⟨a, cap, rfl, -⟩ := hl.shape
  clear hl
  rcases he with he | ⟨he, he2⟩
  all_goals
    go_enter Try.func3, Try.ntmps3
    go_wp2_with fail
    refine HF.out.mono ?_
    rintro en v1 ⟨q9, rfl, hq9, hw⟩
    rw [hw]
    clear hw hq9
    cases q9 with
    | false =>
      go_wp2_with fail
      refine (alive17_any _).mono ?_
      rintro en v2 ⟨rfl, hb⟩
      have H1 := Lib.hid hb
      clear hb
      go_wp2
      exact HR.out _ _ ⟨rfl, H1.out⟩
    | true =>
      go_wp2_with fail
      refine HN.out.mono ?_
      rintro en v1 ⟨rfl, hw⟩
      rw [hw]
      clear hw
      go_wp2_with fail
      refine (alive17_any _).mono ?_
      rintro en v2 ⟨rfl, hb⟩
      have H1 := Lib.hid hb
      clear hb
      go_wp2
      exact HR.out _ _ ⟨rfl, H1.out⟩
set_option maxRecDepth 100000 in
set_option maxHeartbeats 16000000 in
theorem splays_main (e lba : Int) (lv : Value) (l : List ActT) (w : World) (hl : Rd actE17 w lv l) (hfit : ∀ x ∈ l, fitAct x ∧ x.2.2.size ≤ 140737488355328) (h0 : ¬ e < 0) (h1 : ¬ 4294967295 < e) :
    Calls Try.prog 3 #[.int .i64 e, lv, .int .i64 lba] w fun r w' => r = .returned (.bool true) ∧ Below w.heap.size w w' := by
  refine calls_by fun R HR => ?_
  have HN := Lib.hid (fun w => snew_any e w h0 h1)
  have HF := Lib.hid (fun w h => few17_any lv l w h)
  have HL := Lib.hid (And.intro hl hfit)
  have HPu := Lib.hid (fun n mb m a w h hf => sput_any n mb e m a w h (by omega) hf)
  have HRu := Lib.hid (fun n v l lba slot s w h hlen hf hs => rput17_any n e v l lba slot s w h hlen (by omega) hf hs)
  have HRp := Lib.hid (play_R e l)
  have HPL := Lib.hid (playL_len e l)
  have HPT := Lib.hid (fun k => playL_len e (l.take k))
  obtain ⟨a, cap, rfl, -⟩ := hl.shape
  clear hl hfit
  go_enter Try.func3, Try.ntmps3
  go_wp2_with fail
  refine (HF.out _ HL.out.1).mono ?_
  rintro en v9 ⟨q9, rfl, hq9, hw⟩
  rw [hw]
  clear hw
  cases q9 with
  | false =>
    go_wp2_with fail
    refine (alive17_any _).mono ?_
    rintro en v2 ⟨rfl, hb⟩
    have H1 := Lib.hid hb
    clear hb
    go_wp2
    exact HR.out _ _ ⟨rfl, H1.out⟩
  | true =>
    have hn := hq9 rfl
    clear hq9
    go_wp2_with fail
    refine (HN.out _).mono ?_
    rintro en v1 ⟨n, mb, rfl, hs, hb, hn1, hm1⟩
    obtain ⟨WR, hWR⟩ : ∃ W, v1.alloc (.cells #[.int .i64 e, .slice none 0 0] 32) = W := ⟨_, rfl⟩
    have bWR : Below v1.heap.size v1 WR := by rw [← hWR]; exact alloc_below _ _
    have kWR : WR.heap[v1.heap.size]? = some (.cells #[.int .i64 e, .slice none 0 0] 32 (0, 0)) := by rw [← hWR]; exact alloc_new _ _
    have H1 := Lib.hid (show PlayAt w WR n mb v1.heap.size e [] (.slice none 0 0) [] from ⟨hb.trans (bWR.mono hb.size), hs.below bWR, ⟨kWR, Row.nil _ _ _⟩⟩)
    have HO := Lib.hid (show OrdP w n mb v1.heap.size from ⟨hn1, hm1, hs.lt, hs.mlt⟩)
    have ER := Lib.hid hWR
    clear hs hb hn1 hm1 bWR kWR hWR
    go_upto_region 9 with fail
    try rw [ER.out]
    clear ER
    obtain ⟨rn, hrn⟩ : ∃ rn, v1.heap.size = rn := ⟨_, rfl⟩
    rw [hrn] at H1 HO ⊢
    clear hrn
    go_wp2_with fail
    go_loopw [49] (fun i wx => ∃ (k : Nat) (v : Value), k ≤ l.length ∧ i = .int .i64 k ∧ Hid (PlayAt w wx n mb rn e (playM e (l.take k)) v (playL e (l.take k)))) (fun i _ => l.length - (intOf i).toNat)
    case atStart => exact ⟨0, _, Nat.zero_le _, rfl, H1⟩
    case round =>
      obtain ⟨k, vr, hk, rfl, hN⟩ := hrel
      by_cases hlt : k < l.length
      · have hki : (k : Int) < (l.length : Int) := by omega
        obtain ⟨x, hx⟩ : ∃ x, l[k]? = some x := ⟨_, List.getElem?_eq_getElem hlt⟩
        have HQ1 := Lib.hid (playM_take e l k x hx)
        have HQ2 := Lib.hid (playL_take e l k x hx)
        have HFx := Lib.hid (HL.out.2 x (List.mem_of_getElem? hx))
        have HLk := Lib.hid (show (playL e (l.take k)).length ≤ 1000000 by have := HPT.out k; rw [List.length_take] at this; omega)
        obtain ⟨b, o, ha, hb0, dd⟩ := (HL.out.1.below hN.out.b).at k x hx
        cases ha
        obtain ⟨xl, xs, xt⟩ := x
        have d0 : wr.cell? ⟨b, o + k * 3, none⟩ = some (.int .i64 xl) := dd 0 _ rfl
        have d1 : wr.cell? ⟨b, o + k * 3 + 1, none⟩ = some (.int .i64 xs) := dd 1 _ rfl
        have d2 : wr.cell? ⟨b, o + k * 3 + 2, none⟩ = some (.string xt) := dd 2 _ rfl
        clear dd hx hb0
        obtain ⟨WA, hWA⟩ : ∃ W, wr.alloc (.cells #[.int .i64 xl, .int .i64 xs, .string xt] 34) = W := ⟨_, rfl⟩
        have bWA : Below wr.heap.size wr WA := by rw [← hWA]; exact alloc_below _ _
        have kWA : WA.heap[wr.heap.size]? = some (.cells #[.int .i64 xl, .int .i64 xs, .string xt] 34 (0, 0)) := by rw [← hWA]; exact alloc_new _ _
        have H2 := Lib.hid (And.intro (hN.out.below bWA) (And.intro kWA hN.out.r.lt))
        have EA := Lib.hid hWA
        clear bWA kWA hWA
        go_upto_region 12 with fail
        try rw [EA.out]
        clear EA d0 d1 d2
        obtain ⟨ba, hba⟩ : ∃ ba, wr.heap.size = ba := ⟨_, rfl⟩
        rw [hba] at H2 ⊢
        clear hba
        refine wp_region_mv (fun f => PlayCls w n mb rn ba (.cells #[.int .i64 xl, .int .i64 xs, .string xt] 34 (0, 0)) e (playM e (l.take k)) (playM e (l.take (k + 1))) vr (playL e (l.take k)) (playL e (l.take (k + 1))) (f 7) (f 15)) (by kernel_rfl) ⟨⟨(drew_below WA).block _ (lt_of_block H2.out.2.1) |>.trans H2.out.2.1, H2.out.2.2⟩, H2.out.1.below (drew_below WA)⟩ ?_
        obtain ⟨S, F, hF, hFC⟩ := moved_class (fun f => PlayCls w n mb rn ba (.cells #[.int .i64 xl, .int .i64 xs, .string xt] 34 (0, 0)) e (playM e (l.take k)) (playM e (l.take (k + 1))) vr (playL e (l.take k)) (playL e (l.take (k + 1))) (f 7) (f 15))
        have k0 : ∀ s, (F s).cell? ⟨ba, 0, none⟩ = some (.int .i64 xl) := fun s => by
          obtain ⟨f, hf⟩ := hFC s
          exact (blk3 hf.1.1).1
        have k1 : ∀ s, (F s).cell? ⟨ba, 1, none⟩ = some (.int .i64 xs) := fun s => by
          obtain ⟨f, hf⟩ := hFC s
          exact (blk3 hf.1.1).2.1
        have k2 : ∀ s, (F s).cell? ⟨ba, 2, none⟩ = some (.string xt) := fun s => by
          obtain ⟨f, hf⟩ := hFC s
          exact (blk3 hf.1.1).2.2.1
        show wpAnyM _ _ _ _ _ 17 (Array.replicate 17 false) _ _
        refine mv_read 0 hF (fun _ _ _ h => h) rfl (by kernel_rfl) (by kernel_rfl) (by kernel_rfl) (fun K hK => ?_)
        go_simp
        first | refine ⟨_, fun _ => rfl, hK _ _ ?_⟩ | refine hK _ _ ?_
        clear hK K
        refine mv_read 1 hF (fun _ _ _ h => h) rfl (by kernel_rfl) (by kernel_rfl) (by kernel_rfl) (fun K hK => ?_)
        go_simp
        first | refine ⟨_, fun _ => rfl, hK _ _ ?_⟩ | refine hK _ _ ?_
        clear hK K
        refine mv_read 2 hF (fun _ _ _ h => h) rfl (by kernel_rfl) (by kernel_rfl) (by kernel_rfl) (fun K hK => ?_)
        go_simp
        first | refine ⟨_, fun _ => rfl, hK _ _ ?_⟩ | refine hK _ _ ?_
        clear hK K
        refine mv_read 3 hF (fun _ _ _ h => h) rfl (by kernel_rfl) (by kernel_rfl) (by kernel_rfl) (fun K hK => ?_)
        go_simp
        first | refine ⟨_, fun _ => rfl, hK _ _ ?_⟩ | refine hK _ _ ?_
        clear hK K
        refine mv_read 4 hF (fun _ _ _ h => h) rfl (by kernel_rfl) (by kernel_rfl) (by kernel_rfl) (fun K hK => ?_)
        go_simp
        first | refine ⟨_, fun _ => rfl, hK _ _ ?_⟩ | refine hK _ _ ?_
        clear hK K
        refine mv_read 5 hF (fun _ _ _ h => h) rfl (by kernel_rfl) (by kernel_rfl) (by kernel_rfl) (fun K hK => ?_)
        go_simp
        first | refine ⟨_, fun _ => rfl, hK _ _ ?_⟩ | refine hK _ _ ?_
        clear hK K
        refine mv_read 6 hF (fun _ _ _ h => h) rfl (by kernel_rfl) (by kernel_rfl) (by kernel_rfl) (fun K hK => ?_)
        go_simp
        first | refine ⟨_, fun _ => rfl, hK _ _ ?_⟩ | refine hK _ _ ?_
        clear hK K
        refine mv_call1 7 9 rfl (by kernel_rfl) (by kernel_rfl) (by kernel_rfl) rfl rfl eg_put17 (args := #[.pointer (some ⟨n, 0, none⟩), .int .i64 xl, .int .i64 xs, .string xt]) rfl (u := .int .i64 (segE e (xl, xs, xt))) (fun g w9 ha h9 h => ?_) ?_
        · have h7 := h
          cases hg15 : g 15 with
          | some v9 => rw [h9, hg15] at h7; exact absurd h7.2 id
          | none =>
            rw [h9, hg15] at h7
            refine (HPu.out n mb _ (xl, xs, xt) w9 h7.2.s HFx.out.1.2.1).mono ?_
            rintro en w8 ⟨q1, q2, q3⟩
            refine ⟨q1, ⟨(q3.block _ (lt_of_block h7.1.1) (by have := HO.out.2.2.2; have := h7.1.2; omega)).trans h7.1.1, h7.1.2⟩, ?_⟩
            rw [upd_self, upd_ne _ _ (by decide), hg15]
            show PlayAt _ _ _ _ _ _ _ _ _
            rw [HQ1.out]
            exact h7.2.put1 HO.out q2 q3
        refine mv_read 8 hF (fun _ _ _ h => h) rfl (by kernel_rfl) (by kernel_rfl) (by kernel_rfl) (fun K hK => ?_)
        go_simp
        first | refine ⟨_, fun _ => rfl, hK _ _ ?_⟩ | refine hK _ _ ?_
        clear hK K
        refine mv_read 9 hF (fun _ _ _ h => h) rfl (by kernel_rfl) (by kernel_rfl) (by kernel_rfl) (fun K hK => ?_)
        go_simp
        first | refine ⟨_, fun _ => rfl, hK _ _ ?_⟩ | refine hK _ _ ?_
        clear hK K
        refine mv_read 10 hF (fun _ _ _ h => h) rfl (by kernel_rfl) (by kernel_rfl) (by kernel_rfl) (fun K hK => ?_)
        go_simp
        first | refine ⟨_, fun _ => rfl, hK _ _ ?_⟩ | refine hK _ _ ?_
        clear hK K
        refine mv_read 11 hF (fun _ _ _ h => h) rfl (by kernel_rfl) (by kernel_rfl) (by kernel_rfl) (fun K hK => ?_)
        go_simp
        first | refine ⟨_, fun _ => rfl, hK _ _ ?_⟩ | refine hK _ _ ?_
        clear hK K
        refine mv_read 12 hF (fun _ _ _ h => h) rfl (by kernel_rfl) (by kernel_rfl) (by kernel_rfl) (fun K hK => ?_)
        go_simp
        first | refine ⟨_, fun _ => rfl, hK _ _ ?_⟩ | refine hK _ _ ?_
        clear hK K
        refine mv_read 13 hF (fun _ _ _ h => h) rfl (by kernel_rfl) (by kernel_rfl) (by kernel_rfl) (fun K hK => ?_)
        go_simp
        first | refine ⟨_, fun _ => rfl, hK _ _ ?_⟩ | refine hK _ _ ?_
        clear hK K
        refine mv_read 14 hF (fun _ _ _ h => h) rfl (by kernel_rfl) (by kernel_rfl) (by kernel_rfl) (fun K hK => ?_)
        go_simp
        first | refine ⟨_, fun _ => rfl, hK _ _ ?_⟩ | refine hK _ _ ?_
        clear hK K
        refine mv_call1 15 10 rfl (by kernel_rfl) (by kernel_rfl) (by kernel_rfl) rfl rfl eg_rput17 (args := #[.pointer (some ⟨rn, 0, none⟩), .int .i64 xl, .int .i64 xs, .string xt]) rfl (u := .int .i64 (segE e (xl, xs, xt))) (fun g w9 ha h9 h => ?_) ?_
        · have h7 := h
          have e1 : g 7 = some (.int .i64 (segE e (xl, xs, xt))) := (agree_on 7 ha (by kernel_rfl)).trans rfl
          rw [h9, e1] at h7
          refine (HRu.out rn vr _ xl xs xt w9 h7.2.r HLk.out HFx.out.1.2.1 HFx.out.2).mono ?_
          rintro en w8 ⟨v', q1, q2, q3⟩
          refine ⟨q1, ⟨(q3.block _ (lt_of_block h7.1.1) (by have := h7.1.2; omega)).trans h7.1.1, h7.1.2⟩, ?_⟩
          rw [upd_self, upd_ne _ _ (by decide), e1]
          refine ⟨v', ?_⟩
          rw [HQ2.out]
          exact h7.2.put2 HO.out q2 q3
        refine mv_read 16 hF (fun _ _ _ h => h) rfl (by kernel_rfl) (by kernel_rfl) (by kernel_rfl) (fun K hK => ?_)
        go_simp
        first | refine ⟨_, fun _ => rfl, hK _ _ ?_⟩ | refine hK _ _ ?_
        clear hK K
        refine mv_end (by kernel_rfl) ?_
        intro w9 hw9
        have hw8 : ∃ v', PlayAt w w9 n mb rn e (playM e (l.take (k + 1))) v' (playL e (l.take (k + 1))) := hw9.2
        obtain ⟨v', hv'⟩ := hw8
        have H3 := Lib.hid hv'
        clear hv' hw9 hF hFC k0 k1 k2
        go_wp2_with fail
        go_roundw
        case rel => exact ⟨k + 1, v', by omega, by go_num, H3⟩
        case measure => first | (simp [intOf]; done) | (simp [intOf]; omega)
      · obtain rfl : k = l.length := by omega
        have hki : ¬ (l.length : Int) < (l.length : Int) := by omega
        rw [List.take_length] at hN
        have hLn : (playL e l).length ≤ 40 := Nat.le_trans HPL.out hn
        obtain ⟨wo, rfl⟩ : ∃ wo : World, wo = wr := ⟨_, rfl⟩
        generalize playL e l = PL at *
        generalize playM e l = PM at *
        have HLa := Lib.hid (fun w h => sleaves_any n mb e PM w h)
        rw [HRp.out.leaves] at HLa
        have HCo := Lib.hid (fun w h => scount_any (n := n) (mb := mb) (e := e) (m := PM) w h)
        rw [HRp.out.len] at HCo
        have HEp := Lib.hid (fun w h => sepoch_any (n := n) (mb := mb) (e := e) (m := PM) w h)
        have HRa := Lib.hid (fun w h => sroot_any n mb e PM PL w h HRp.out (by omega))
        have HHs := Lib.hid (fun v w h => rhashes_any v PL w h (by omega))
        have HMr := Lib.hid (fun (v : Value) w (h : Rd strE w v (hashL PL)) => rroot_any _ (hashL PL) v w rfl (by rw [hashL_length]; omega) h (hashL_whole PL))
        have HSm := Lib.hid (fun u v w h h' => rsame17_any u v PL w h h' (by omega))
        have HPn := Lib.hid (fun w h hh => sprove_out n mb e PM lba w h hh)
        have HPy := Lib.hid (fun w h hh => sprove_any n mb e PM PL lba w h HRp.out (by omega) hh)
        have HPr := Lib.hid (fun v w h => rprove_yes v PL lba w h (by omega))
        have hpl := prove_lens PL lba
        have HPS := Lib.hid (fun (x y : Value) u v w h h' h2 h2' => rsame_any (proveP PL lba) u v x y w h h' h2 h2' (by unfold maxLen; omega) (by unfold maxLen; omega))
        clear hpl
        generalize rootL (hashL PL) = RT at *
        obtain ⟨ra, rc, rfl, -⟩ := hN.out.r.row.shape
        go_wp2_with fail
        have HB := Lib.hid hN.out
        refine wp_region_mv (fun f => ShowCls wo PL (hashL PL) (f 1) (f 31)) (by kernel_rfl) ⟨drew_below wo, (fun v h => by cases h), (fun v h => by cases h)⟩ ?_
        obtain ⟨S, F, hF, hFC⟩ := moved_class (fun f => ShowCls wo PL (hashL PL) (f 1) (f 31))
        have k1 : ∀ s, (F s).cell? ⟨rn, 1, none⟩ = some (.slice ra PL.length rc) := fun s => by
          obtain ⟨f, hf⟩ := hFC s
          exact (blk2 (HB.out.r.below hf.1).blk).2.1
        have k0 : ∀ s, (F s).cell? ⟨rn, 0, none⟩ = some (.int .i64 e) := fun s => by
          obtain ⟨f, hf⟩ := hFC s
          exact (blk2 (HB.out.r.below hf.1).blk).1
        show wpAnyM _ _ _ _ _ 35 (Array.replicate 35 false) _ _
        refine mv_read 0 hF (fun _ _ _ h => h) rfl (by kernel_rfl) (by kernel_rfl) (by kernel_rfl) (fun K hK => ?_)
        go_simp
        first | refine ⟨_, fun _ => rfl, hK _ _ ?_⟩ | refine hK _ _ ?_
        clear hK K
        refine mv_read 2 hF (fun _ _ _ h => h) rfl (by kernel_rfl) (by kernel_rfl) (by kernel_rfl) (fun K hK => ?_)
        go_simp
        first | refine ⟨_, fun _ => rfl, hK _ _ ?_⟩ | refine hK _ _ ?_
        clear hK K
        refine mv_read 3 hF (fun _ _ _ h => h) rfl (by kernel_rfl) (by kernel_rfl) (by kernel_rfl) (fun K hK => ?_)
        go_simp
        first | refine ⟨_, fun _ => rfl, hK _ _ ?_⟩ | refine hK _ _ ?_
        clear hK K
        refine mv_read 4 hF (fun _ _ _ h => h) rfl (by kernel_rfl) (by kernel_rfl) (by kernel_rfl) (fun K hK => ?_)
        go_simp
        first | refine ⟨_, fun _ => rfl, hK _ _ ?_⟩ | refine hK _ _ ?_
        clear hK K
        refine mv_read 5 hF (fun _ _ _ h => h) rfl (by kernel_rfl) (by kernel_rfl) (by kernel_rfl) (fun K hK => ?_)
        go_simp
        first | refine ⟨_, fun _ => rfl, hK _ _ ?_⟩ | refine hK _ _ ?_
        clear hK K
        refine mv_call 1 12 rfl (by kernel_rfl) rfl rfl eg_leaves17 (args := #[.pointer (some ⟨n, 0, none⟩)]) rfl (fun v => ∃ g n c, v = .slice g n c) (fun g w9 ha h9 h => ?_) ?_
        · rw [h9] at h
          refine (HLa.out w9 (HB.out.s.below h.1)).mono ?_
          rintro en w8 ⟨lv, q1, q2, q3⟩
          obtain ⟨ga, gc, rfl, -⟩ := q2.shape
          refine ⟨_, q1, ⟨_, _, _, rfl⟩, ?_⟩
          have h8 := h.on q3
          refine ⟨h8.1, fun v hv => ?_, ?_⟩
          · rw [upd_self] at hv; cases hv; exact q2.rd
          · rw [upd_ne _ _ (by decide)]; exact h8.2.2
        rintro _ ⟨la, ln, lc, rfl⟩
        refine mv_call1 6 11 rfl (by kernel_rfl) (by kernel_rfl) (by kernel_rfl) rfl rfl eg_same17 (args := #[.slice la ln lc, .slice ra PL.length rc]) rfl (u := .bool true) (fun g w9 ha h9 h => ?_) ?_
        · have e1 : g 1 = some (.slice la ln lc) := (agree_on 1 ha (by kernel_rfl)).trans rfl
          refine (HSm.out _ _ w9 (h.2.1 _ e1) (HB.out.r.below h.1).row.rd).mono fun en w8 ⟨q1, q2⟩ => ⟨q1, ?_⟩
          rw [upd_ne _ _ (by decide), upd_ne _ _ (by decide)]
          exact h.on q2
        refine mv_read 7 hF (fun _ _ _ h => h) rfl (by kernel_rfl) (by kernel_rfl) (by kernel_rfl) (fun K hK => ?_)
        go_simp
        first | refine ⟨_, fun _ => rfl, hK _ _ ?_⟩ | refine hK _ _ ?_
        clear hK K
        refine mv_read 8 hF (fun _ _ _ h => h) rfl (by kernel_rfl) (by kernel_rfl) (by kernel_rfl) (fun K hK => ?_)
        go_simp
        first | refine ⟨_, fun _ => rfl, hK _ _ ?_⟩ | refine hK _ _ ?_
        clear hK K
        refine mv_read 9 hF (fun _ _ _ h => h) rfl (by kernel_rfl) (by kernel_rfl) (by kernel_rfl) (fun K hK => ?_)
        go_simp
        first | refine ⟨_, fun _ => rfl, hK _ _ ?_⟩ | refine hK _ _ ?_
        clear hK K
        refine mv_read 11 hF (fun _ _ _ h => h) rfl (by kernel_rfl) (by kernel_rfl) (by kernel_rfl) (fun K hK => ?_)
        go_simp
        first | refine ⟨_, fun _ => rfl, hK _ _ ?_⟩ | refine hK _ _ ?_
        clear hK K
        refine mv_read 12 hF (fun _ _ _ h => h) rfl (by kernel_rfl) (by kernel_rfl) (by kernel_rfl) (fun K hK => ?_)
        go_simp
        first | refine ⟨_, fun _ => rfl, hK _ _ ?_⟩ | refine hK _ _ ?_
        clear hK K
        refine mv_read 13 hF (fun _ _ _ h => h) rfl (by kernel_rfl) (by kernel_rfl) (by kernel_rfl) (fun K hK => ?_)
        go_simp
        first | refine ⟨_, fun _ => rfl, hK _ _ ?_⟩ | refine hK _ _ ?_
        clear hK K
        refine mv_read 14 hF (fun _ _ _ h => h) rfl (by kernel_rfl) (by kernel_rfl) (by kernel_rfl) (fun K hK => ?_)
        go_simp
        first | refine ⟨_, fun _ => rfl, hK _ _ ?_⟩ | refine hK _ _ ?_
        clear hK K
        refine mv_read 15 hF (fun _ _ _ h => h) rfl (by kernel_rfl) (by kernel_rfl) (by kernel_rfl) (fun K hK => ?_)
        go_simp
        first | refine ⟨_, fun _ => rfl, hK _ _ ?_⟩ | refine hK _ _ ?_
        clear hK K
        refine mv_call1 10 13 rfl (by kernel_rfl) (by kernel_rfl) (by kernel_rfl) rfl rfl eg_count17 (args := #[.pointer (some ⟨n, 0, none⟩)]) rfl (u := .int .i64 PL.length) (fun g w9 ha h9 h => ?_) ?_
        · refine (HCo.out w9 (HB.out.s.below h.1)).mono fun en w8 ⟨q1, q2⟩ => ⟨q1, ?_⟩
          rw [upd_ne _ _ (by decide), upd_ne _ _ (by decide)]
          rw [q2]
          exact h
        refine mv_read 16 hF (fun _ _ _ h => h) rfl (by kernel_rfl) (by kernel_rfl) (by kernel_rfl) (fun K hK => ?_)
        go_simp
        first | refine ⟨_, fun _ => rfl, hK _ _ ?_⟩ | refine hK _ _ ?_
        clear hK K
        refine mv_read 17 hF (fun _ _ _ h => h) rfl (by kernel_rfl) (by kernel_rfl) (by kernel_rfl) (fun K hK => ?_)
        go_simp
        first | refine ⟨_, fun _ => rfl, hK _ _ ?_⟩ | refine hK _ _ ?_
        clear hK K
        refine mv_read 18 hF (fun _ _ _ h => h) rfl (by kernel_rfl) (by kernel_rfl) (by kernel_rfl) (fun K hK => ?_)
        go_simp
        first | refine ⟨_, fun _ => rfl, hK _ _ ?_⟩ | refine hK _ _ ?_
        clear hK K
        refine mv_read 19 hF (fun _ _ _ h => h) rfl (by kernel_rfl) (by kernel_rfl) (by kernel_rfl) (fun K hK => ?_)
        go_simp
        first | refine ⟨_, fun _ => rfl, hK _ _ ?_⟩ | refine hK _ _ ?_
        clear hK K
        refine mv_call1 20 14 rfl (by kernel_rfl) (by kernel_rfl) (by kernel_rfl) rfl rfl eg_epoch17 (args := #[.pointer (some ⟨n, 0, none⟩)]) rfl (u := .int .i64 e) (fun g w9 ha h9 h => ?_) ?_
        · refine (HEp.out w9 (HB.out.s.below h.1)).mono fun en w8 ⟨q1, q2⟩ => ⟨q1, ?_⟩
          rw [upd_ne _ _ (by decide), upd_ne _ _ (by decide)]
          rw [q2]
          exact h
        refine mv_read 21 hF (fun _ _ _ h => h) rfl (by kernel_rfl) (by kernel_rfl) (by kernel_rfl) (fun K hK => ?_)
        go_simp
        first | refine ⟨_, fun _ => rfl, hK _ _ ?_⟩ | refine hK _ _ ?_
        clear hK K
        refine mv_read 22 hF (fun _ _ _ h => h) rfl (by kernel_rfl) (by kernel_rfl) (by kernel_rfl) (fun K hK => ?_)
        go_simp
        first | refine ⟨_, fun _ => rfl, hK _ _ ?_⟩ | refine hK _ _ ?_
        clear hK K
        refine mv_read 23 hF (fun _ _ _ h => h) rfl (by kernel_rfl) (by kernel_rfl) (by kernel_rfl) (fun K hK => ?_)
        go_simp
        first | refine ⟨_, fun _ => rfl, hK _ _ ?_⟩ | refine hK _ _ ?_
        clear hK K
        refine mv_read 24 hF (fun _ _ _ h => h) rfl (by kernel_rfl) (by kernel_rfl) (by kernel_rfl) (fun K hK => ?_)
        go_simp
        first | refine ⟨_, fun _ => rfl, hK _ _ ?_⟩ | refine hK _ _ ?_
        clear hK K
        refine mv_read 25 hF (fun _ _ _ h => h) rfl (by kernel_rfl) (by kernel_rfl) (by kernel_rfl) (fun K hK => ?_)
        go_simp
        first | refine ⟨_, fun _ => rfl, hK _ _ ?_⟩ | refine hK _ _ ?_
        clear hK K
        refine mv_read 27 hF (fun _ _ _ h => h) rfl (by kernel_rfl) (by kernel_rfl) (by kernel_rfl) (fun K hK => ?_)
        go_simp
        first | refine ⟨_, fun _ => rfl, hK _ _ ?_⟩ | refine hK _ _ ?_
        clear hK K
        refine mv_read 28 hF (fun _ _ _ h => h) rfl (by kernel_rfl) (by kernel_rfl) (by kernel_rfl) (fun K hK => ?_)
        go_simp
        first | refine ⟨_, fun _ => rfl, hK _ _ ?_⟩ | refine hK _ _ ?_
        clear hK K
        refine mv_read 29 hF (fun _ _ _ h => h) rfl (by kernel_rfl) (by kernel_rfl) (by kernel_rfl) (fun K hK => ?_)
        go_simp
        first | refine ⟨_, fun _ => rfl, hK _ _ ?_⟩ | refine hK _ _ ?_
        clear hK K
        refine mv_read 30 hF (fun _ _ _ h => h) rfl (by kernel_rfl) (by kernel_rfl) (by kernel_rfl) (fun K hK => ?_)
        go_simp
        first | refine ⟨_, fun _ => rfl, hK _ _ ?_⟩ | refine hK _ _ ?_
        clear hK K
        refine mv_call1 26 15 rfl (by kernel_rfl) (by kernel_rfl) (by kernel_rfl) rfl rfl eg_root17 (args := #[.pointer (some ⟨n, 0, none⟩)]) rfl (u := .string RT) (fun g w9 ha h9 h => ?_) ?_
        · refine (HRa.out w9 (HB.out.s.below h.1)).mono fun en w8 ⟨q1, q2⟩ => ⟨q1, ?_⟩
          rw [upd_ne _ _ (by decide), upd_ne _ _ (by decide)]
          exact h.on q2
        refine mv_call 31 17 rfl (by kernel_rfl) rfl rfl eg_hashes17 (args := #[.slice ra PL.length rc]) rfl (fun v => ∃ g n c, v = .slice g n c) (fun g w9 ha h9 h => ?_) ?_
        · refine (HHs.out _ w9 (HB.out.r.below h.1).row.rd).mono ?_
          rintro en w8 ⟨lv, q1, q2, q3⟩
          obtain ⟨ga, gc, rfl, -⟩ := q2.shape
          refine ⟨_, q1, ⟨_, _, _, rfl⟩, ?_⟩
          have h8 := h.on q3
          refine ⟨h8.1, ?_, fun v hv => ?_⟩
          · rw [upd_ne _ _ (by decide)]; exact h8.2.1
          · rw [upd_self] at hv; cases hv; exact q2.rd
        rintro _ ⟨ha2, hn2, hc2, rfl⟩
        refine mv_call1 32 16 rfl (by kernel_rfl) (by kernel_rfl) (by kernel_rfl) rfl rfl eg_mroot17 (args := #[.slice ha2 hn2 hc2]) rfl (u := .string RT) (fun g w9 ha h9 h => ?_) ?_
        · have e1 : g 31 = some (.slice ha2 hn2 hc2) := (agree_on 31 ha (by kernel_rfl)).trans rfl
          refine (HMr.out _ w9 (h.2.2 _ e1)).mono fun en w8 ⟨q1, q2⟩ => ⟨q1, ?_⟩
          rw [upd_ne _ _ (by decide), upd_ne _ _ (by decide)]
          exact h.on q2
        refine mv_read 33 hF (fun _ _ _ h => h) rfl (by kernel_rfl) (by kernel_rfl) (by kernel_rfl) (fun K hK => ?_)
        go_simp
        first | refine ⟨_, fun _ => rfl, hK _ _ ?_⟩ | refine hK _ _ ?_
        clear hK K
        refine mv_read 34 hF (fun _ _ _ h => h) rfl (by kernel_rfl) (by kernel_rfl) (by kernel_rfl) (fun K hK => ?_)
        go_simp
        first | refine ⟨_, fun _ => rfl, hK _ _ ?_⟩ | refine hK _ _ ?_
        clear hK K
        refine mv_end (by kernel_rfl) ?_
        intro w9 hw9
        have hb9 := hw9.1
        have H4 := Lib.hid (HB.out.below hb9)
        clear hw9 hb9 hF hFC k0 k1 HB
        by_cases hlb : 0 ≤ lba ∧ lba < 4096
        · have c1 : ¬ lba < 0 := by omega
          have c2 : ¬ 4095 < lba := by omega
          generalize proveP PL lba = PP at *
          obtain ⟨fo, ao, ⟨ho, hso⟩, ⟨xo, xso⟩, uo, lo⟩ := PP
          go_wp2_with fail
          refine (HPy.out _ H4.out.s hlb).mono ?_
          rintro en v3 ⟨pu, pv, rfl, hu, hv, hb⟩
          obtain ⟨oa, oc, rfl, -⟩ := hu.shape
          obtain ⟨za, zc, rfl, -⟩ := hv.shape
          have H5 := Lib.hid (And.intro (H4.out.below hb) (And.intro hu hv))
          clear hu hv hb
          obtain ⟨WP, hWP⟩ : ∃ W, v3.alloc (.cells #[.bool fo, .int .i64 ao, .int .i64 ho, .string hso, .int .i64 xo, .string xso, .slice oa uo.length oc, .slice za lo.length zc] 48) = W := ⟨_, rfl⟩
          have bP : Below v3.heap.size v3 WP := by rw [← hWP]; exact alloc_below _ _
          have kP : WP.heap[v3.heap.size]? = some (.cells #[.bool fo, .int .i64 ao, .int .i64 ho, .string hso, .int .i64 xo, .string xso, .slice oa uo.length oc, .slice za lo.length zc] 48 (0, 0)) := by rw [← hWP]; exact alloc_new _ _
          have EP := Lib.hid hWP
          have H6 := Lib.hid (And.intro (H5.out.1.below bP) (And.intro (H5.out.2.1.below bP) (And.intro (H5.out.2.2.below bP) kP)))
          clear bP kP hWP
          go_upto_region 18 with fail
          try rw [EP.out]
          clear EP
          obtain ⟨p0, p1, p2, p3, p4, p5, p6, p7⟩ := blk8 H6.out.2.2.2
          go_upto_region 20 with fail
          refine wp_region_mv (fun f => PrfTold WP ⟨fo, ao, (ho, hso), (xo, xso), uo, lo⟩ (f 6)) (by kernel_rfl) (PrfTold.start (drew_below WP)) ?_
          obtain ⟨S, F, hF, hFC⟩ := moved_class (fun f => PrfTold WP ⟨fo, ao, (ho, hso), (xo, xso), uo, lo⟩ (f 6))
          have k0 : ∀ s, (F s).cell? ⟨_, 0, none⟩ = some (.bool fo) := fun s => by
            obtain ⟨f, hf⟩ := hFC s
            exact (cell_on hf.1 p0).1
          have k1 : ∀ s, (F s).cell? ⟨_, 1, none⟩ = some (.int .i64 ao) := fun s => by
            obtain ⟨f, hf⟩ := hFC s
            exact (cell_on hf.1 p1).1
          have k2 : ∀ s, (F s).cell? ⟨_, 2, none⟩ = some (.int .i64 ho) := fun s => by
            obtain ⟨f, hf⟩ := hFC s
            exact (cell_on hf.1 p2).1
          have k3 : ∀ s, (F s).cell? ⟨_, 3, none⟩ = some (.string hso) := fun s => by
            obtain ⟨f, hf⟩ := hFC s
            exact (cell_on hf.1 p3).1
          have k4 : ∀ s, (F s).cell? ⟨_, 4, none⟩ = some (.int .i64 xo) := fun s => by
            obtain ⟨f, hf⟩ := hFC s
            exact (cell_on hf.1 p4).1
          have k5 : ∀ s, (F s).cell? ⟨_, 5, none⟩ = some (.string xso) := fun s => by
            obtain ⟨f, hf⟩ := hFC s
            exact (cell_on hf.1 p5).1
          have k6 : ∀ s, (F s).cell? ⟨_, 6, none⟩ = some (.slice oa uo.length oc) := fun s => by
            obtain ⟨f, hf⟩ := hFC s
            exact (cell_on hf.1 p6).1
          have k7 : ∀ s, (F s).cell? ⟨_, 7, none⟩ = some (.slice za lo.length zc) := fun s => by
            obtain ⟨f, hf⟩ := hFC s
            exact (cell_on hf.1 p7).1
          have j1 : ∀ s, (F s).cell? ⟨rn, 1, none⟩ = some (.slice ra PL.length rc) := fun s => by
            obtain ⟨f, hf⟩ := hFC s
            exact (blk2 (H6.out.1.r.below hf.1).blk).2.1
          have j0 : ∀ s, (F s).cell? ⟨rn, 0, none⟩ = some (.int .i64 e) := fun s => by
            obtain ⟨f, hf⟩ := hFC s
            exact (blk2 (H6.out.1.r.below hf.1).blk).1
          show wpAnyM _ _ _ _ _ 16 (Array.replicate 16 false) _ _
          refine mv_read 0 hF (fun _ _ _ h => h) rfl (by kernel_rfl) (by kernel_rfl) (by kernel_rfl) (fun K hK => ?_)
          go_simp
          first | refine ⟨_, fun _ => rfl, hK _ _ ?_⟩ | refine hK _ _ ?_
          clear hK K
          refine mv_read 1 hF (fun _ _ _ h => h) rfl (by kernel_rfl) (by kernel_rfl) (by kernel_rfl) (fun K hK => ?_)
          go_simp
          first | refine ⟨_, fun _ => rfl, hK _ _ ?_⟩ | refine hK _ _ ?_
          clear hK K
          refine mv_read 2 hF (fun _ _ _ h => h) rfl (by kernel_rfl) (by kernel_rfl) (by kernel_rfl) (fun K hK => ?_)
          go_simp
          first | refine ⟨_, fun _ => rfl, hK _ _ ?_⟩ | refine hK _ _ ?_
          clear hK K
          refine mv_read 3 hF (fun _ _ _ h => h) rfl (by kernel_rfl) (by kernel_rfl) (by kernel_rfl) (fun K hK => ?_)
          go_simp
          first | refine ⟨_, fun _ => rfl, hK _ _ ?_⟩ | refine hK _ _ ?_
          clear hK K
          refine mv_read 4 hF (fun _ _ _ h => h) rfl (by kernel_rfl) (by kernel_rfl) (by kernel_rfl) (fun K hK => ?_)
          go_simp
          first | refine ⟨_, fun _ => rfl, hK _ _ ?_⟩ | refine hK _ _ ?_
          clear hK K
          refine mv_read 5 hF (fun _ _ _ h => h) rfl (by kernel_rfl) (by kernel_rfl) (by kernel_rfl) (fun K hK => ?_)
          go_simp
          first | refine ⟨_, fun _ => rfl, hK _ _ ?_⟩ | refine hK _ _ ?_
          clear hK K
          refine mv_call 6 20 rfl (by kernel_rfl) rfl rfl eg_pprove17 (args := #[.slice ra PL.length rc, .int .i64 lba]) rfl (fun v => ∃ u2 v2, v = prfV ⟨fo, ao, (ho, hso), (xo, xso), uo, lo⟩ u2 v2) (fun g w9 ha h0 h => ?_) ?_
          · simp only [h0] at h
            refine (HPr.out _ w9 (H6.out.1.r.below h.1).row.rd).mono ?_
            rintro en w8 ⟨u2, v2, q1, q2, q3, q4⟩
            exact ⟨_, q1, ⟨_, _, rfl⟩, h.made q4 q2 q3⟩
          rintro _ ⟨u2, v2, rfl⟩
          refine mv_call1 7 19 rfl (by kernel_rfl) (by kernel_rfl) (by kernel_rfl) rfl rfl eg_psame17 (args := #[prfV ⟨fo, ao, (ho, hso), (xo, xso), uo, lo⟩ (.slice oa uo.length oc) (.slice za lo.length zc), prfV ⟨fo, ao, (ho, hso), (xo, xso), uo, lo⟩ u2 v2]) rfl (u := .bool true) (fun g w9 ha h0 h => ?_) ?_
          · have e1 : g 6 = some (prfV ⟨fo, ao, (ho, hso), (xo, xso), uo, lo⟩ u2 v2) := (agree_on 6 ha (by kernel_rfl)).trans rfl
            obtain ⟨q2, q3⟩ := h.2 _ _ e1
            exact (HPS.out _ _ _ _ w9 (H6.out.2.1.below h.1) (H6.out.2.2.1.below h.1) q2 q3).mono fun e w' ⟨h1, h2⟩ => ⟨h1, h.on h2⟩
          refine mv_read 8 hF (fun _ _ _ h => h) rfl (by kernel_rfl) (by kernel_rfl) (by kernel_rfl) (fun K hK => ?_)
          go_simp
          first | refine ⟨_, fun _ => rfl, hK _ _ ?_⟩ | refine hK _ _ ?_
          clear hK K
          refine mv_read 9 hF (fun _ _ _ h => h) rfl (by kernel_rfl) (by kernel_rfl) (by kernel_rfl) (fun K hK => ?_)
          go_simp
          first | refine ⟨_, fun _ => rfl, hK _ _ ?_⟩ | refine hK _ _ ?_
          clear hK K
          refine mv_read 10 hF (fun _ _ _ h => h) rfl (by kernel_rfl) (by kernel_rfl) (by kernel_rfl) (fun K hK => ?_)
          go_simp
          first | refine ⟨_, fun _ => rfl, hK _ _ ?_⟩ | refine hK _ _ ?_
          clear hK K
          refine mv_read 11 hF (fun _ _ _ h => h) rfl (by kernel_rfl) (by kernel_rfl) (by kernel_rfl) (fun K hK => ?_)
          go_simp
          first | refine ⟨_, fun _ => rfl, hK _ _ ?_⟩ | refine hK _ _ ?_
          clear hK K
          refine mv_read 12 hF (fun _ _ _ h => h) rfl (by kernel_rfl) (by kernel_rfl) (by kernel_rfl) (fun K hK => ?_)
          go_simp
          first | refine ⟨_, fun _ => rfl, hK _ _ ?_⟩ | refine hK _ _ ?_
          clear hK K
          refine mv_call1 13 7 rfl (by kernel_rfl) (by kernel_rfl) (by kernel_rfl) rfl rfl eg_alive17 (args := #[]) rfl (u := .bool true) (fun g w _ _ h => (alive17_any _).mono fun e w' ⟨h1, h2⟩ => ⟨h1, h.on h2⟩) ?_
          refine mv_read 14 hF (fun _ _ _ h => h) rfl (by kernel_rfl) (by kernel_rfl) (by kernel_rfl) (fun K hK => ?_)
          go_simp
          first | refine ⟨_, fun _ => rfl, hK _ _ ?_⟩ | refine hK _ _ ?_
          clear hK K
          refine mv_read 15 hF (fun _ _ _ h => h) rfl (by kernel_rfl) (by kernel_rfl) (by kernel_rfl) (fun K hK => ?_)
          go_simp
          first | refine ⟨_, fun _ => rfl, hK _ _ ?_⟩ | refine hK _ _ ?_
          clear hK K
          refine mv_end (by kernel_rfl) ?_
          intro w9 hw9
          have hb9 := hw9.1
          have H7 := Lib.hid (H6.out.1.below hb9)
          clear hw9 hb9 hF hFC k0 k1 k2 k3 k4 k5 k6 k7 j0 j1
          go_wp2
          exact HR.out _ _ ⟨rfl, H7.out.b⟩
        · have hc : lba < 0 ∨ (¬ lba < 0 ∧ 4095 < lba) := by omega
          go_wp2_with fail
          refine (HPn.out _ H4.out.s hlb).mono ?_
          rintro en v3 ⟨rfl, hb⟩
          have H5 := Lib.hid (H4.out.below hb)
          clear hb hlb
          obtain ⟨WP, hWP⟩ : ∃ W, v3.alloc (.cells #[.bool false, .int .i64 0, .int .i64 0, .string ⟨#[]⟩, .int .i64 0, .string ⟨#[]⟩, .slice none 0 0, .slice none 0 0] 48) = W := ⟨_, rfl⟩
          have bP : Below v3.heap.size v3 WP := by rw [← hWP]; exact alloc_below _ _
          have kP : WP.heap[v3.heap.size]? = some (.cells #[.bool false, .int .i64 0, .int .i64 0, .string ⟨#[]⟩, .int .i64 0, .string ⟨#[]⟩, .slice none 0 0, .slice none 0 0] 48 (0, 0)) := by rw [← hWP]; exact alloc_new _ _
          have EP := Lib.hid hWP
          have H6 := Lib.hid (And.intro (H5.out.below bP) kP)
          clear bP kP hWP
          go_upto_region 18 with fail
          try rw [EP.out]
          clear EP
          obtain ⟨p0, p1, p2, p3, p4, p5, p6, p7⟩ := blk8 H6.out.2
          rcases hc with c1 | ⟨c1, c2⟩
          all_goals
            go_wp2_with fail
            refine (same_none17c _).mono ?_
            rintro en v4 ⟨rfl, hb⟩
            have H7 := Lib.hid (H6.out.1.below hb)
            clear hb p0 p1 p2 p3 p4 p5 p6 p7
            go_wp2_with fail
            refine (alive17_any _).mono ?_
            rintro en v5 ⟨rfl, hb⟩
            have H8 := Lib.hid (H7.out.below hb)
            clear hb
            go_wp2
            exact HR.out _ _ ⟨rfl, H8.out.b⟩
theorem splays_any (e lba : Int) (lv : Value) (l : List ActT) (w : World) (hl : Rd actE17 w lv l) (hfit : ∀ x ∈ l, fitAct x ∧ x.2.2.size ≤ 140737488355328) :
    Calls Try.prog 3 #[.int .i64 e, lv, .int .i64 lba] w fun r w' => r = .returned (.bool true) ∧ Below w.heap.size w w' := by
  by_cases h0 : e < 0
  · exact splays_bad e lba lv l w hl (Or.inl h0)
  by_cases h1 : 4294967295 < e
  · exact splays_bad e lba lv l w hl (Or.inr ⟨h0, h1⟩)
  exact splays_main e lba lv l w hl hfit h0 h1
end Go.Proofs.Ytdbabkkmdlkjaaa
