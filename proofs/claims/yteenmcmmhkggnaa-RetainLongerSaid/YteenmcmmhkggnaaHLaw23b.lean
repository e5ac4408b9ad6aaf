/- The law RetainLonger: what its walk gives. -/
import Derived.Test.YteenmcmmhkggnaaM5
import Derived.Test.YteenmcmmhkggnaaM2
set_option maxRecDepth 100000
namespace Go.Proofs.Yteenmcmmhkggnaa
open Go.RowKit Ks Go.Maps
set_option linter.unusedVariables false
set_option linter.unusedSimpArgs false
theorem eg_until : ∀ args w, (callFunc 8 args).run Try.prog w = .ok (.enter 8 args) w := fun _ _ => rfl
theorem eg_gone : ∀ args w, (callFunc 9 args).run Try.prog w = .ok (.enter 9 args) w := fun _ _ => rfl
theorem eg_held : ∀ args w, (callFunc 10 args).run Try.prog w = .ok (.enter 10 args) w := fun _ _ => rfl
set_option maxRecDepth 100000 in
set_option maxHeartbeats 4000000 in
theorem rlonger_bad (first : Int) (lv : Value) (l : List RecT) (w : World) (hl : Rd recE w lv l) (he : first < 0 ∨ (¬ first < 0 ∧ 4294967295 < first)) :
    Calls Try.prog 3 #[.int .i64 first, lv] w fun r w' => r = .returned (.bool true) ∧ Below w.heap.size w w' := by
  refine calls_by fun R HR => ?_
  have HN := Lib.hid (bnew_err first w he)
  have HF := Lib.hid (few23_any lv l w hl)
  obtain ⟨a, cap, rfl, -⟩ := hl.shape
  clear hl he
  go_enter Try.func3, Try.ntmps3
  go_wp2_with fail
  refine HN.out.mono ?_
  rintro en v1 ⟨rfl, hw⟩
  rw [hw]
  clear hw
  go_wp2_with fail
  refine HF.out.mono ?_
  rintro en v1 ⟨q9, rfl, hq9, hb⟩
  have H1 := Lib.hid hb
  clear hb hq9
  cases q9
  all_goals
    go_wp2_with fail
    refine (alive23_any _).mono ?_
    rintro en v2 ⟨rfl, hb⟩
    have H2 := Lib.hid (H1.out.trans (hb.mono H1.out.size))
    clear hb
    go_wp2
    exact HR.out _ _ ⟨rfl, H2.out⟩
set_option maxRecDepth 100000 in
set_option maxHeartbeats 8000000 in
theorem rlonger_main (first : Int) (lv : Value) (l : List RecT) (w : World) (hl : Rd recE w lv l) (hfit : ∀ x ∈ l, fitRec x) (h0 : ¬ first < 0) (h1 : ¬ 4294967295 < first) :
    Calls Try.prog 3 #[.int .i64 first, lv] w fun r w' => r = .returned (.bool true) ∧ Below w.heap.size w w' := by
  refine calls_by fun R HR => ?_
  have HN := Lib.hid (bnew_any first w h0 h1)
  have HF := Lib.hid (fun w h => few23_any lv l w h)
  have HL := Lib.hid (And.intro hl hfit)
  have HFh := Lib.hid (fun k => fold_holds first (l.take k))
  obtain ⟨a, cap, rfl, -⟩ := hl.shape
  clear hl hfit h0 h1
  go_enter Try.func3, Try.ntmps3
  go_wp2_with fail
  refine HN.out.mono ?_
  rintro en v1 ⟨n, c, mu, mh, mg, rfl, hs, h5, hb, hk⟩
  have H0 := Lib.hid (And.intro hb (And.intro hs (And.intro h5 hk)))
  clear hs h5 hb hk
  go_wp2_with fail
  refine (HF.out _ (HL.out.1.below H0.out.1)).mono ?_
  rintro en v2 ⟨q9, rfl, hq9, hb⟩
  have H1 := Lib.hid (And.intro (H0.out.1.trans (hb.mono H0.out.1.size)) (H0.out.2.1.below hb))
  clear hb
  cases q9 with
  | false =>
    go_wp2_with fail
    refine (alive23_any _).mono ?_
    rintro en v3 ⟨rfl, hb⟩
    have H2 := Lib.hid (H1.out.1.trans (hb.mono H1.out.1.size))
    clear hb
    go_wp2
    exact HR.out _ _ ⟨rfl, H2.out⟩
  | true =>
    have hn := hq9 rfl
    clear hq9
    have hli : (l.length : Int) ≤ 100 := by omega
    go_wp2_with fail
    go_loopw [28] (fun i wx => ∃ (k : Nat), k ≤ l.length ∧ i = .int .i64 k ∧ Hid (BookAt wx n c mu mh mg (foldB first (l.take k)) ∧ Below w.heap.size w wx)) (fun i _ => l.length - (intOf i).toNat)
    case atStart => exact ⟨0, Nat.zero_le _, rfl, Lib.hid ⟨H1.out.2, H1.out.1⟩⟩
    case round =>
      obtain ⟨k, hk, rfl, hN⟩ := hrel
      by_cases hlt : k < l.length
      · have hki : (k : Int) < (l.length : Int) := by omega
        obtain ⟨x, hx⟩ : ∃ x, l[k]? = some x := ⟨_, List.getElem?_eq_getElem hlt⟩
        have HX := Lib.hid (foldB_take first l k x hx)
        have HFx := Lib.hid (HL.out.2 x (List.mem_of_getElem? hx))
        have hho : (foldB first (l.take k)).holds.length ≤ 1000000 := by have := HFh.out k; rw [List.length_take] at this; omega
        have HAp := Lib.hid (fun w h => bapply_any (b := foldB first (l.take k)) x w h H0.out.2.2.1 HFx.out hho)
        have HHe := Lib.hid (fun (t : Int) w (h : BookAt w n c mu mh mg (foldB first (l.take k))) => bheld_any t w h hho)
        have HLo := Lib.hid (longer (foldB first (l.take k)) x)
        have HU1 := Lib.hid (fun w (h : BookAt w n c mu mh mg (foldB first (l.take k))) => buntil_any x.target w h HFx.out.1)
        have HG1 := Lib.hid (fun w (h : BookAt w n c mu mh mg (foldB first (l.take k))) => bgone_any x.target w h HFx.out.1)
        have HU2 := Lib.hid (fun w (h : BookAt w n c mu mh mg (applyB (foldB first (l.take k)) x)) => buntil_any x.target w h HFx.out.1)
        have HG2 := Lib.hid (fun w (h : BookAt w n c mu mh mg (applyB (foldB first (l.take k)) x)) => bgone_any x.target w h HFx.out.1)
        obtain ⟨b, o, ha, hb0, dd⟩ := (HL.out.1.below hN.out.2).at k x hx
        cases ha
        generalize applyB (foldB first (l.take k)) x = AB at *
        generalize mayE (foldB first (l.take k)) x = TE at *
        generalize foldB first (l.take k) = FBk at *
        obtain ⟨kd, ep, tm, ct, tg, un, rt, nm⟩ := x
        simp only at HLo HU1 HG1 HU2 HG2
        have d0 : wr.cell? ⟨b, o + k * 8, none⟩ = some (.int .i64 kd) := dd 0 _ rfl
        have d1 : wr.cell? ⟨b, o + k * 8 + 1, none⟩ = some (.int .i64 ep) := dd 1 _ rfl
        have d2 : wr.cell? ⟨b, o + k * 8 + 2, none⟩ = some (.int .i64 tm) := dd 2 _ rfl
        have d3 : wr.cell? ⟨b, o + k * 8 + 3, none⟩ = some (.int .i64 ct) := dd 3 _ rfl
        have d4 : wr.cell? ⟨b, o + k * 8 + 4, none⟩ = some (.int .i64 tg) := dd 4 _ rfl
        have d5 : wr.cell? ⟨b, o + k * 8 + 5, none⟩ = some (.int .i64 un) := dd 5 _ rfl
        have d6 : wr.cell? ⟨b, o + k * 8 + 6, none⟩ = some (.string rt) := dd 6 _ rfl
        have d7 : wr.cell? ⟨b, o + k * 8 + 7, none⟩ = some (.string nm) := dd 7 _ rfl
        clear dd hx hb0 hho
        obtain ⟨WA, hWA⟩ : ∃ W, wr.alloc (.cells #[.int .i64 kd, .int .i64 ep, .int .i64 tm, .int .i64 ct, .int .i64 tg, .int .i64 un, .string rt, .string nm] 30) = W := ⟨_, rfl⟩
        have bWA : Below wr.heap.size wr WA := by rw [← hWA]; exact alloc_below _ _
        have kWA : WA.heap[wr.heap.size]? = some (.cells #[.int .i64 kd, .int .i64 ep, .int .i64 tm, .int .i64 ct, .int .i64 tg, .int .i64 un, .string rt, .string nm] 30 (0, 0)) := by rw [← hWA]; exact alloc_new _ _
        have H2 := Lib.hid (And.intro (hN.out.1.below bWA) (And.intro (hN.out.2.trans (bWA.mono hN.out.2.size)) kWA))
        have EA := Lib.hid hWA
        clear bWA kWA hWA
        go_upto_region 7 with fail
        try rw [EA.out]
        clear EA d0 d1 d2 d3 d4 d5 d6 d7
        generalize tillN FBk tg = UN at *
        generalize goneB FBk tg = GN at *
        obtain ⟨⟨r0, r1, r2, r3, r4, r5, r6, r7⟩, -⟩ := blkR H2.out.2.2
        refine wp_region_mv (fun f => Below WA.heap.size WA) (by kernel_rfl) (drew_below WA) ?_
        obtain ⟨S, F, hF, hFC⟩ := moved_class (fun f => Below WA.heap.size WA)
        have k0 : ∀ s, (F s).cell? ⟨_, 0, none⟩ = some (.int .i64 kd) := fun s => by
          obtain ⟨f, hf⟩ := hFC s
          exact (cell_on hf r0).1
        have k1 : ∀ s, (F s).cell? ⟨_, 1, none⟩ = some (.int .i64 ep) := fun s => by
          obtain ⟨f, hf⟩ := hFC s
          exact (cell_on hf r1).1
        have k2 : ∀ s, (F s).cell? ⟨_, 2, none⟩ = some (.int .i64 tm) := fun s => by
          obtain ⟨f, hf⟩ := hFC s
          exact (cell_on hf r2).1
        have k3 : ∀ s, (F s).cell? ⟨_, 3, none⟩ = some (.int .i64 ct) := fun s => by
          obtain ⟨f, hf⟩ := hFC s
          exact (cell_on hf r3).1
        have k4 : ∀ s, (F s).cell? ⟨_, 4, none⟩ = some (.int .i64 tg) := fun s => by
          obtain ⟨f, hf⟩ := hFC s
          exact (cell_on hf r4).1
        have k5 : ∀ s, (F s).cell? ⟨_, 5, none⟩ = some (.int .i64 un) := fun s => by
          obtain ⟨f, hf⟩ := hFC s
          exact (cell_on hf r5).1
        have k6 : ∀ s, (F s).cell? ⟨_, 6, none⟩ = some (.string rt) := fun s => by
          obtain ⟨f, hf⟩ := hFC s
          exact (cell_on hf r6).1
        have k7 : ∀ s, (F s).cell? ⟨_, 7, none⟩ = some (.string nm) := fun s => by
          obtain ⟨f, hf⟩ := hFC s
          exact (cell_on hf r7).1
        show wpAnyM _ _ _ _ _ 16 (Array.replicate 16 false) _ _
        refine mv_read 0 hF (fun _ _ _ h => h) rfl (by kernel_rfl) (by kernel_rfl) (by kernel_rfl) (fun K hK => ?_)
        go_simp
        first | refine ⟨_, fun _ => rfl, hK _ _ ?_⟩ | refine hK _ _ ?_
        clear hK K
        refine mv_read 1 hF (fun _ _ _ h => h) rfl (by kernel_rfl) (by kernel_rfl) (by kernel_rfl) (fun K hK => ?_)
        go_simp
        first | refine ⟨_, fun _ => rfl, hK _ _ ?_⟩ | refine hK _ _ ?_
        clear hK K
        refine mv_read 2 hF (fun _ _ _ h => h) rfl (by kernel_rfl) (by kernel_rfl) (by kernel_rfl) (fun K hK => ?_)
        go_simp
        first | refine ⟨_, fun _ => rfl, hK _ _ ?_⟩ | refine hK _ _ ?_
        clear hK K
        refine mv_call1 3 8 rfl (by kernel_rfl) (by kernel_rfl) (by kernel_rfl) rfl rfl eg_until (args := #[.pointer (some ⟨n, 0, none⟩), .int .i64 tg]) rfl (u := .int .i64 UN) (fun g w9 ha h9 h => (HU1.out w9 (H2.out.1.below h)).mono fun en w8 ⟨q1, q2⟩ => ⟨q1, by rw [q2]; exact h⟩) ?_
        refine mv_read 4 hF (fun _ _ _ h => h) rfl (by kernel_rfl) (by kernel_rfl) (by kernel_rfl) (fun K hK => ?_)
        go_simp
        first | refine ⟨_, fun _ => rfl, hK _ _ ?_⟩ | refine hK _ _ ?_
        clear hK K
        refine mv_read 5 hF (fun _ _ _ h => h) rfl (by kernel_rfl) (by kernel_rfl) (by kernel_rfl) (fun K hK => ?_)
        go_simp
        first | refine ⟨_, fun _ => rfl, hK _ _ ?_⟩ | refine hK _ _ ?_
        clear hK K
        refine mv_read 6 hF (fun _ _ _ h => h) rfl (by kernel_rfl) (by kernel_rfl) (by kernel_rfl) (fun K hK => ?_)
        go_simp
        first | refine ⟨_, fun _ => rfl, hK _ _ ?_⟩ | refine hK _ _ ?_
        clear hK K
        refine mv_call1 7 9 rfl (by kernel_rfl) (by kernel_rfl) (by kernel_rfl) rfl rfl eg_gone (args := #[.pointer (some ⟨n, 0, none⟩), .int .i64 tg]) rfl (u := .bool GN) (fun g w9 ha h9 h => (HG1.out w9 (H2.out.1.below h)).mono fun en w8 ⟨q1, q2⟩ => ⟨q1, by rw [q2]; exact h⟩) ?_
        refine mv_read 8 hF (fun _ _ _ h => h) rfl (by kernel_rfl) (by kernel_rfl) (by kernel_rfl) (fun K hK => ?_)
        go_simp
        first | refine ⟨_, fun _ => rfl, hK _ _ ?_⟩ | refine hK _ _ ?_
        clear hK K
        refine mv_read 9 hF (fun _ _ _ h => h) rfl (by kernel_rfl) (by kernel_rfl) (by kernel_rfl) (fun K hK => ?_)
        go_simp
        first | refine ⟨_, fun _ => rfl, hK _ _ ?_⟩ | refine hK _ _ ?_
        clear hK K
        refine mv_read 10 hF (fun _ _ _ h => h) rfl (by kernel_rfl) (by kernel_rfl) (by kernel_rfl) (fun K hK => ?_)
        go_simp
        first | refine ⟨_, fun _ => rfl, hK _ _ ?_⟩ | refine hK _ _ ?_
        clear hK K
        refine mv_call 11 10 rfl (by kernel_rfl) rfl rfl eg_held (args := #[.pointer (some ⟨n, 0, none⟩), .int .i64 tg]) rfl (fun v => ∃ a c, v = .slice a (heldN FBk tg) c) (fun g w9 ha h9 h => ?_) ?_
        · refine (HHe.out tg w9 (H2.out.1.below h)).mono ?_
          rintro en w8 ⟨sa, sc, q1, q2⟩
          exact ⟨_, q1, ⟨_, _, rfl⟩, h.trans (q2.mono h.size)⟩
        rintro _ ⟨sa, sc, rfl⟩
        generalize heldN FBk tg = HN9 at *
        refine mv_read 12 hF (fun _ _ _ h => h) rfl (by kernel_rfl) (by kernel_rfl) (by kernel_rfl) (fun K hK => ?_)
        go_simp
        first | refine ⟨_, fun _ => rfl, hK _ _ ?_⟩ | refine hK _ _ ?_
        clear hK K
        refine mv_read 13 hF (fun _ _ _ h => h) rfl (by kernel_rfl) (by kernel_rfl) (by kernel_rfl) (fun K hK => ?_)
        go_simp
        first | refine ⟨_, fun _ => rfl, hK _ _ ?_⟩ | refine hK _ _ ?_
        clear hK K
        refine mv_read 14 hF (fun _ _ _ h => h) rfl (by kernel_rfl) (by kernel_rfl) (by kernel_rfl) (fun K hK => ?_)
        go_simp
        first | refine ⟨_, fun _ => rfl, hK _ _ ?_⟩ | refine hK _ _ ?_
        clear hK K
        refine mv_read 15 hF (fun _ _ _ h => h) rfl (by kernel_rfl) (by kernel_rfl) (by kernel_rfl) (fun K hK => ?_)
        go_simp
        first | refine ⟨_, fun _ => rfl, hK _ _ ?_⟩ | refine hK _ _ ?_
        clear hK K
        refine mv_end (by kernel_rfl) ?_
        intro w9 hw9
        have H3 := Lib.hid (And.intro (H2.out.1.below hw9) (And.intro (H2.out.2.1.trans (hw9.mono H2.out.2.1.size)) (blk_on hw9 H2.out.2.2)))
        clear hw9 hF hFC k0 k1 k2 k3 k4 k5 k6 k7 r0 r1 r2 r3 r4 r5 r6 r7
        obtain ⟨⟨r0, r1, r2, r3, r4, r5, r6, r7⟩, -⟩ := blkR H3.out.2.2
        go_wp2_with fail
        refine (HAp.out _ H3.out.1).mono ?_
        rintro en v5 ⟨rfl, hs5, ht5⟩
        have hne : ¬ FB n c mu mh mg wr.heap.size := fun q => by have := hN.out.1.lt _ q; omega
        have H5 := Lib.hid (And.intro hs5 (And.intro (H3.out.2.1.trans (ht5.below H0.out.2.2.2 H3.out.2.1.size)) ((ht5.block _ (lt_of_block H3.out.2.2) hne).trans H3.out.2.2)))
        clear hs5 ht5 hne r0 r1 r2 r3 r4 r5 r6 r7
        obtain ⟨⟨r0, r1, r2, r3, r4, r5, r6, r7⟩, -⟩ := blkR H5.out.2.2
        have hl1 := HLo.out.1
        generalize tillN AB tg = UA at *
        have key : (kd = 5 ∧ TE = 0 → UN ≤ tm ∧ HN9 = 0 ∧ GN = false ∧ un = UN ∧ goneB AB tg = true) := fun q => by have h := HLo.out.2.2 q.2 q.1; exact ⟨by omega, h.2⟩
        have keyg : GN = true → goneB AB tg = true := HLo.out.2.1
        generalize goneB AB tg = GA at *
        clear HLo
        go_wp2_with fail
        refine (HU2.out _ H5.out.1).mono ?_
        rintro en v6 ⟨rfl, hw⟩
        rw [hw]
        clear hw
        cases GN with
        | true =>
          have hga := keyg rfl
          subst hga
          go_wp2_with fail
          refine (HG2.out _ H5.out.1).mono ?_
          rintro en v7 ⟨rfl, hw⟩
          rw [hw]
          clear hw
          by_cases hq : kd = 5 ∧ TE = 0
          · obtain ⟨z1, z2, z3, z4, z5⟩ := key hq
            obtain ⟨rfl, rfl⟩ := hq
            clear key keyg
            cases z3
          · have hq2 : (TE == 0) = false ∨ ((TE == 0) = true ∧ (kd == 5) = false) := by
              by_cases h9 : TE = 0
              · right; exact ⟨by simpa using h9, by simpa using fun h8 => hq ⟨h8, h9⟩⟩
              · left; simpa using h9
            clear hq key keyg
            rcases hq2 with hq2 | ⟨hq2, hq3⟩
            all_goals
              go_wp2_with fail
              go_roundw
              case rel => exact ⟨k + 1, by omega, by go_num, Lib.hid ⟨by rw [HX.out]; exact H5.out.1, H5.out.2.1⟩⟩
              case measure => first | (simp [intOf]; done) | (simp [intOf]; omega)
        | false =>
          by_cases hq : kd = 5 ∧ TE = 0
          · obtain ⟨z1, z2, z3, z4, z5⟩ := key hq
            obtain ⟨rfl, rfl⟩ := hq
            clear key keyg
            subst z2 z4 z5
            clear z3
            go_wp2_with fail
            refine (HG2.out _ H5.out.1).mono ?_
            rintro en v7 ⟨rfl, hw⟩
            rw [hw]
            clear hw
            go_wp2_with fail
            go_roundw
            case rel => exact ⟨k + 1, by omega, by go_num, Lib.hid ⟨by rw [HX.out]; exact H5.out.1, H5.out.2.1⟩⟩
            case measure => first | (simp [intOf]; done) | (simp [intOf]; omega)
          · have hq2 : (TE == 0) = false ∨ ((TE == 0) = true ∧ (kd == 5) = false) := by
              by_cases h9 : TE = 0
              · right; exact ⟨by simpa using h9, by simpa using fun h8 => hq ⟨h8, h9⟩⟩
              · left; simpa using h9
            clear hq key keyg
            rcases hq2 with hq2 | ⟨hq2, hq3⟩
            all_goals
              go_wp2_with fail
              go_roundw
              case rel => exact ⟨k + 1, by omega, by go_num, Lib.hid ⟨by rw [HX.out]; exact H5.out.1, H5.out.2.1⟩⟩
              case measure => first | (simp [intOf]; done) | (simp [intOf]; omega)
      · obtain rfl : k = l.length := by omega
        have hki : ¬ (l.length : Int) < (l.length : Int) := by omega
        have H2 := Lib.hid hN.out.2
        go_wp2_with fail
        refine (alive23_any _).mono ?_
        rintro en v3 ⟨rfl, hb⟩
        have H3 := Lib.hid (H2.out.trans (hb.mono H2.out.size))
        clear hb
        go_wp2
        exact HR.out _ _ ⟨rfl, H3.out⟩
theorem rlonger_any (first : Int) (lv : Value) (l : List RecT) (w : World) (hl : Rd recE w lv l) (hfit : ∀ x ∈ l, fitRec x) :
    Calls Try.prog 3 #[.int .i64 first, lv] w fun r w' => r = .returned (.bool true) ∧ Below w.heap.size w w' := by
  by_cases h0 : first < 0
  · exact rlonger_bad first lv l w hl (Or.inl h0)
  by_cases h1 : 4294967295 < first
  · exact rlonger_bad first lv l w hl (Or.inr ⟨h0, h1⟩)
  exact rlonger_main first lv l w hl hfit h0 h1
end Go.Proofs.Yteenmcmmhkggnaa
