/- Texts that the claim rests on, part 13: ModMeans. -/
import Derived.Test.YtnkiokaeooopgaaGreatM12
/- Which record a call means, or why there is none: of the program's model. -/
set_option maxRecDepth 100000
namespace Go.Proofs.YtnkiokaeooopgaaGreat
open Go.RowKit Ks Go.Maps
set_option linter.unusedVariables false
set_option linter.unusedSimpArgs false
theorem eg_cnow : ∀ args w, (callFunc 45 args).run Tryz.prog w = .ok (.enter 45 args) w := fun _ _ => rfl
theorem eg_buntil : ∀ args w, (callFunc 73 args).run Tryz.prog w = .ok (.enter 73 args) w := fun _ _ => rfl
theorem setTwo_heap {W w : World} {b i j k : Nat} {u v : Value} {s t : Option Value} (h : SetTwo W b i j u v s t w) (hk : k ≠ b) : w.heap[k]? = W.heap[k]? := by
  have key : ∀ (A : World) (i : Nat) (u : Value) (s : Option Value), (setT A b i u s).heap[k]? = A.heap[k]? := fun A i u s => by
    cases s with
    | none => rfl
    | some s => exact set_ne _ hk
  rw [h.1, key, key]; rfl
set_option maxRecDepth 100000 in
set_option maxHeartbeats 8000000 in
theorem mmeans_retain {n cc bn c mu mh mg : Nat} {rv vv : Value} {m : ModT} (cl : CallT) (ka : Option Addr) (kn kc : Nat) (w : World) (h : ModAt w n cc bn c mu mh mg rv vv m) (hk : cl.kind = 6) (hce : -9223372036854775808 ≤ cl.epoch ∧ cl.epoch ≤ 9223372036854775807) (hna : cl.name.size ≤ 9223372036854775807) :
    Calls Tryz.prog 52 #[.pointer (some ⟨n, 0, none⟩), callV cl ka kn kc] w fun e w' => ∃ r, e = .returned (.tuple #[recV r, .int .i64 (meansE m cl)]) ∧ (meansE m cl = 0 → r = meansR m cl) ∧ Below w.heap.size w w' := by
  refine calls_by fun R HR => ?_
  have HD := Lib.hid h
  have HCl := Lib.hid (fun w (h : ModAt w n cc bn c mu mh mg rv vv m) => mclosed_any cl.epoch w h)
  have HE := Lib.hid (fun w (h : ModAt w n cc bn c mu mh mg rv vv m) => bepoch_any w h.book)
  have HN := Lib.hid (fun w (h : ModAt w n cc bn c mu mh mg rv vv m) => cnow_any cc m.now w h.clk)
  have HU := Lib.hid (fun w (h : ModAt w n cc bn c mu mh mg rv vv m) => buntil_any cl.epoch w h.book hce)
  have HNm := Lib.hid (fun w => name_any cl.name w hna)
  have HZ0 : Hid (meansE m cl = if (cl.kind = 7 ∨ cl.kind = 8) ∧ nameB cl.name = false then 2 else if cl.kind ≠ 8 ∧ closedE m cl.epoch ≠ 0 then closedE m cl.epoch
    else if cl.kind = 6 ∧ (cl.time < 0 ∨ 1099511627776 < cl.time) then 2 else 0) := Lib.hid rfl
  have HR0 : Hid (meansR m cl = if cl.kind = 6 then ⟨2, m.book.epoch, m.now, 0, cl.epoch, cl.time, ⟨#[]⟩, ⟨#[]⟩⟩ else if cl.kind = 7 then ⟨3, m.book.epoch, m.now, 0, cl.epoch, 0, ⟨#[]⟩, cl.name⟩
    else if cl.kind = 8 then ⟨4, m.book.epoch, m.now, 0, 0, 0, ⟨#[]⟩, cl.name⟩ else ⟨5, m.book.epoch, m.now, 0, cl.epoch, tillN m.book cl.epoch, ⟨#[]⟩, ⟨#[]⟩⟩) := Lib.hid rfl
  generalize meansE m cl = ME at *
  generalize meansR m cl = MR at *
  generalize closedE m cl.epoch = CE at *
  generalize tillN m.book cl.epoch = TU at *
  obtain ⟨ki, lb, ce, ti, da, na⟩ := cl
  simp only at hk HCl HU HNm HZ0 HR0
  subst hk
  have HZa : Hid (CE ≠ 0 → ME = CE) := Lib.hid fun q => by rw [HZ0.out]; simp [q]
  have HZb : Hid (CE = 0 → (ti < 0 ∨ 1099511627776 < ti) → ME = 2) := Lib.hid fun q q2 => by rw [HZ0.out]; simp [q, q2]
  have HZc : Hid (CE = 0 → ¬ (ti < 0 ∨ 1099511627776 < ti) → ME = 0) := Lib.hid fun q q2 => by rw [HZ0.out, if_neg (by simp), if_neg (by simp [q]), if_neg (fun q3 => q2 q3.2)]
  have HR1 : Hid (MR = ⟨2, m.book.epoch, m.now, 0, ce, ti, ⟨#[]⟩, ⟨#[]⟩⟩) := Lib.hid (by rw [HR0.out, if_pos rfl])
  clear h hce hna HZ0 HR0
  have H1 := Lib.hid (And.intro (Below.refl w.heap.size w) (HD.out))
  obtain ⟨W1, hW1⟩ : ∃ W1, w.alloc (.cells #[.int .i64 6, .int .i64 lb, .int .i64 ce, .int .i64 ti, .string da, .string na, .slice ka kn kc] 35) = W1 := ⟨_, rfl⟩
  have hbW1 : Below w.heap.size w W1 := by rw [← hW1]; exact alloc_below w _
  have kW1 : W1.heap[w.heap.size]? = some (.cells #[.int .i64 6, .int .i64 lb, .int .i64 ce, .int .i64 ti, .string da, .string na, .slice ka kn kc] 35 (0, 0)) := by rw [← hW1]; exact alloc_new w _
  have H2 := Lib.hid (And.intro (H1.out.1.trans (hbW1.mono H1.out.1.size)) (And.intro (H1.out.2.below hbW1) (kW1)))
  clear hbW1 kW1
  have s1 := Lib.hid (show w.heap.size < W1.heap.size from lt_of_block H2.out.2.2)
  obtain ⟨W2, hW2⟩ : ∃ W2, W1.alloc (.cells #[.int .i64 0, .int .i64 0, .int .i64 0, .int .i64 0, .int .i64 0, .int .i64 0, .string ⟨#[]⟩, .string ⟨#[]⟩] 72) = W2 := ⟨_, rfl⟩
  have hbW2 : Below W1.heap.size W1 W2 := by rw [← hW2]; exact alloc_below W1 _
  have kW2 : W2.heap[W1.heap.size]? = some (.cells #[.int .i64 0, .int .i64 0, .int .i64 0, .int .i64 0, .int .i64 0, .int .i64 0, .string ⟨#[]⟩, .string ⟨#[]⟩] 72 (0, 0)) := by rw [← hW2]; exact alloc_new W1 _
  have H3 := Lib.hid (And.intro (H2.out.1.trans (hbW2.mono H2.out.1.size)) (And.intro (H2.out.2.1.below hbW2) (And.intro (blk_on hbW2 H2.out.2.2) (kW2))))
  clear hbW2 kW2
  obtain ⟨⟨z0, z1, z2, z3, z4, z5, z6, z7⟩, -⟩ := blkR H3.out.2.1.blk
  go_enter Tryz.func52, Tryz.ntmps52
  go_upto_region 1 with fail
  clear hW1 hW2
  refine wp_region_mv (fun f => NewBlk W2.heap.size W2 #[.int .i64 0, .int .i64 0, .int .i64 0, .int .i64 0, .int .i64 0, .int .i64 0, .string ⟨#[]⟩, .string ⟨#[]⟩] #[.int .i64 0, .int .i64 m.book.epoch, .int .i64 m.now, .int .i64 0, .int .i64 0, .int .i64 0, .string ⟨#[]⟩, .string ⟨#[]⟩] 72 (f 11) (f 12)) (by kernel_rfl) (NewBlk.start (Below.refl _ _) (Nat.le_refl _)) ?_
  obtain ⟨S, F, hF, hFC⟩ := moved_class (fun f => NewBlk W2.heap.size W2 #[.int .i64 0, .int .i64 0, .int .i64 0, .int .i64 0, .int .i64 0, .int .i64 0, .string ⟨#[]⟩, .string ⟨#[]⟩] #[.int .i64 0, .int .i64 m.book.epoch, .int .i64 m.now, .int .i64 0, .int .i64 0, .int .i64 0, .string ⟨#[]⟩, .string ⟨#[]⟩] 72 (f 11) (f 12))
  have kz4 : ∀ s, (F s).cell? ⟨n, 4, none⟩ = some (.pointer (some ⟨cc, 0, none⟩)) := fun s => (cell_on (hFC s).choose_spec.b z4).1
  have kz5 : ∀ s, (F s).cell? ⟨n, 5, none⟩ = some (.pointer (some ⟨bn, 0, none⟩)) := fun s => (cell_on (hFC s).choose_spec.b z5).1
  have kz0 : ∀ s, (F s).cell? ⟨n, 0, none⟩ = some (.int .i64 m.geo.blocks) := fun s => (cell_on (hFC s).choose_spec.b z0).1
  show wpAnyM _ _ _ _ _ 13 (Array.replicate 13 false) _ _
  refine mv_read 0 hF (fun _ _ _ h => h) rfl (by kernel_rfl) (by kernel_rfl) (by kernel_rfl) (fun K hK => ?_)
  go_simp
  first | refine ⟨_, fun _ => rfl, hK _ _ ?_⟩ | refine hK _ _ ?_
  clear hK K
  refine mv_read 1 hF (fun _ _ _ h => h) rfl (by kernel_rfl) (by kernel_rfl) (by kernel_rfl) (fun K hK => ?_)
  go_simp
  first | refine ⟨_, fun _ => rfl, hK _ _ ?_⟩ | refine hK _ _ ?_
  clear hK K
  refine mv_read 2 hF (fun _ _ _ h => h) rfl (by kernel_rfl) (by kernel_rfl) (by kernel_rfl) (fun K hK => ?_)
  go_simp
  first | refine ⟨_, fun _ => rfl, hK _ _ ?_⟩ | refine hK _ _ ?_
  clear hK K
  refine mv_read 3 hF (fun _ _ _ h => h) rfl (by kernel_rfl) (by kernel_rfl) (by kernel_rfl) (fun K hK => ?_)
  go_simp
  first | refine ⟨_, fun _ => rfl, hK _ _ ?_⟩ | refine hK _ _ ?_
  clear hK K
  refine mv_call1 4 17 rfl (by kernel_rfl) (by kernel_rfl) (by kernel_rfl) rfl rfl eg_bepoch (args := #[.pointer (some ⟨bn, 0, none⟩)]) rfl (u := .int .i64 m.book.epoch) (fun g w9 _ _ h => ((HE.out w9 (H3.out.2.1.below h.b)).mono fun en w8 ⟨h1, h2⟩ => ⟨h1, by rw [h2]; exact h⟩)) ?_
  refine mv_read 5 hF (fun _ _ _ h => h) rfl (by kernel_rfl) (by kernel_rfl) (by kernel_rfl) (fun K hK => ?_)
  go_simp
  first | refine ⟨_, fun _ => rfl, hK _ _ ?_⟩ | refine hK _ _ ?_
  clear hK K
  refine mv_read 6 hF (fun _ _ _ h => h) rfl (by kernel_rfl) (by kernel_rfl) (by kernel_rfl) (fun K hK => ?_)
  go_simp
  first | refine ⟨_, fun _ => rfl, hK _ _ ?_⟩ | refine hK _ _ ?_
  clear hK K
  refine mv_read 7 hF (fun _ _ _ h => h) rfl (by kernel_rfl) (by kernel_rfl) (by kernel_rfl) (fun K hK => ?_)
  go_simp
  first | refine ⟨_, fun _ => rfl, hK _ _ ?_⟩ | refine hK _ _ ?_
  clear hK K
  refine mv_read 8 hF (fun _ _ _ h => h) rfl (by kernel_rfl) (by kernel_rfl) (by kernel_rfl) (fun K hK => ?_)
  go_simp
  first | refine ⟨_, fun _ => rfl, hK _ _ ?_⟩ | refine hK _ _ ?_
  clear hK K
  refine mv_call1 9 45 rfl (by kernel_rfl) (by kernel_rfl) (by kernel_rfl) rfl rfl eg_cnow (args := #[.pointer (some ⟨cc, 0, none⟩)]) rfl (u := .int .i64 m.now) (fun g w9 _ _ h => ((HN.out w9 (H3.out.2.1.below h.b)).mono fun en w8 ⟨h1, h2⟩ => ⟨h1, by rw [h2]; exact h⟩)) ?_
  refine mv_read 10 hF (fun _ _ _ h => h) rfl (by kernel_rfl) (by kernel_rfl) (by kernel_rfl) (fun K hK => ?_)
  go_simp
  first | refine ⟨_, fun _ => rfl, hK _ _ ?_⟩ | refine hK _ _ ?_
  clear hK K
  refine mv_alone 11 rfl (by kernel_rfl) rfl (fun v => ∃ b, v = .pointer (some ⟨b, 0, none⟩)) (fun g w9 _ h0 h D hD => ?_) ?_
  · have h9 := h
    simp only [h0] at h9
    have h8 := h9.made
    clear h h9
    go_simp
    exact hD _ _ ⟨_, rfl⟩ h8
  rintro _ ⟨vb, rfl⟩
  refine mv_store_blk 12 rfl (by kernel_rfl) rfl 72 (.tmp 6) (.tmp 18) rfl vb 0 #[.int .i64 0, .int .i64 m.book.epoch, .int .i64 m.now, .int .i64 0, .int .i64 0, .int .i64 0, .string ⟨#[]⟩, .string ⟨#[]⟩] rfl rfl (by kernel_rfl) (rec_one _ _ _ _ _ _ _ _) (fun g w9 ha h0 h => ?_) ?_
  · have e1 : g 11 = some (.pointer (some ⟨vb, 0, none⟩)) := (agree_on 11 ha (by kernel_rfl)).trans rfl
    have h9 := h
    simp only [e1, h0] at h9
    refine ⟨#[.int .i64 0, .int .i64 0, .int .i64 0, .int .i64 0, .int .i64 0, .int .i64 0, .string ⟨#[]⟩, .string ⟨#[]⟩], 72, h9.at.2, Nat.le_refl 8, ?_⟩
    rw [splice_all #[.int .i64 0, .int .i64 0, .int .i64 0, .int .i64 0, .int .i64 0, .int .i64 0, .string ⟨#[]⟩, .string ⟨#[]⟩] #[.int .i64 0, .int .i64 m.book.epoch, .int .i64 m.now, .int .i64 0, .int .i64 0, .int .i64 0, .string ⟨#[]⟩, .string ⟨#[]⟩] rfl]
    show NewBlk _ _ _ _ _ (g 11) (upd g 12 undef 12) _
    rw [upd_self, e1]
    exact h9.stored
  refine mv_end (by kernel_rfl) ?_
  intro q1 hq
  have HQ1 := Lib.hid (show Below W2.heap.size W2 q1 ∧ W2.heap.size ≤ vb ∧ q1.heap[vb]? = some (.cells #[.int .i64 0, .int .i64 m.book.epoch, .int .i64 m.now, .int .i64 0, .int .i64 0, .int .i64 0, .string ⟨#[]⟩, .string ⟨#[]⟩] 72 (0, 0)) from ⟨hq.b, (NewBlk.at (b := vb) hq).1, (NewBlk.at (b := vb) hq).2⟩)
  clear hq hF hFC kz0 kz4 kz5 z0 z1 z2 z3 z4 z5 z6 z7
  have s2 := Lib.hid (show W1.heap.size < W2.heap.size from lt_of_block H3.out.2.2.2)
  have HX := Lib.hid (show w.heap.size ≤ vb ∧ w.heap.size ≠ vb ∧ W1.heap.size ≠ vb by have := HQ1.out.2.1; have := s1.out; have := s2.out; omega)
  have G1 := Lib.hid (And.intro (H3.out.1.trans (HQ1.out.1.mono H3.out.1.size)) (And.intro (blk_on HQ1.out.1 H3.out.2.2.1) (And.intro (blk_on HQ1.out.1 H3.out.2.2.2) (HQ1.out.2.2))))
  clear HQ1
  obtain ⟨⟨x0, x1, x2, x3, x4, x5, x6, x7⟩, fx⟩ := blkR G1.out.2.2.2
  obtain ⟨a0, a1, a2, a3, a4, a5, a6⟩ := blk7c G1.out.2.1
  have fx0 := fx 0
  have fx4 := fx 4
  have fx5 := fx 5
  have fx7 := fx 7
  clear fx
  go_wp2_with fail
  refine (HCl.out _ (HD.out.below G1.out.1)).mono ?_
  rintro en y9 ⟨rfl, hw⟩
  rw [hw]
  clear hw y9
  clear x0 x1 x2 x3 x4 x5 x6 x7 a0 a1 a2 a3 a4 a5 a6 fx0 fx4 fx5 fx7
  by_cases hcz : CE = 0
  case neg =>
    have hcb : (CE != 0) = true := by simpa using hcz
    have HZ := Lib.hid (HZa.out hcz)
    have hME : ME ≠ 0 := by rw [HZ.out]; exact hcz
    have HME := Lib.hid hME
    clear hME
    obtain ⟨⟨x0, x1, x2, x3, x4, x5, x6, x7⟩, fx⟩ := blkR G1.out.2.2.2
    obtain ⟨a0, a1, a2, a3, a4, a5, a6⟩ := blk7c G1.out.2.1
    have fx0 := fx 0
    have fx4 := fx 4
    have fx5 := fx 5
    have fx7 := fx 7
    clear fx
    obtain ⟨WR, hWR⟩ : ∃ W, q1.setRow W1.heap.size #[.int .i64 0, .int .i64 m.book.epoch, .int .i64 m.now, .int .i64 0, .int .i64 0, .int .i64 0, .string ⟨#[]⟩, .string ⟨#[]⟩] = W := ⟨_, rfl⟩
    have KE := Lib.hid (show WR.heap[W1.heap.size]? = some (.cells #[.int .i64 0, .int .i64 m.book.epoch, .int .i64 m.now, .int .i64 0, .int .i64 0, .int .i64 0, .string ⟨#[]⟩, .string ⟨#[]⟩] 72 (0, 0)) by rw [← hWR]; exact setRow_heap q1 _ _ _ _ _ G1.out.2.2.1)
    have BE := Lib.hid (show Below w.heap.size w WR by rw [← hWR]; exact below_setRow G1.out.1 (Nat.le_of_lt s1.out) _)
    go_wp2_with (refine wpList_store_blk rfl 72 (.tmp 4) (.tmp 44) rfl W1.heap.size 0 8 rfl #[.int .i64 0, .int .i64 0, .int .i64 0, .int .i64 0, .int .i64 0, .int .i64 0, .string ⟨#[]⟩, .string ⟨#[]⟩] #[.int .i64 0, .int .i64 m.book.epoch, .int .i64 m.now, .int .i64 0, .int .i64 0, .int .i64 0, .string ⟨#[]⟩, .string ⟨#[]⟩] #[.int .i64 0, .int .i64 m.book.epoch, .int .i64 m.now, .int .i64 0, .int .i64 0, .int .i64 0, .string ⟨#[]⟩, .string ⟨#[]⟩] rfl 72 G1.out.2.2.1 rfl (Nat.le_refl 8) (by kernel_rfl) (rec_one _ _ _ _ _ _ _ _) (splice_all _ _ rfl) ?_; rw [hWR])
    obtain ⟨⟨y0, y1, y2, y3, y4, y5, y6, y7⟩, -⟩ := blkR KE.out
    refine bodyPost_ret (v := .tuple #[.agg #[.int .i64 0, .int .i64 m.book.epoch, .int .i64 m.now, .int .i64 0, .int .i64 0, .int .i64 0, .string ⟨#[]⟩, .string ⟨#[]⟩], .int .i64 CE]) (by simp [results, Tryz.results52, go_sem, y0, y1, y2, y3, y4, y5, y6, y7]) rfl ?_
    exact HR.out _ _ ⟨⟨0, m.book.epoch, m.now, 0, 0, 0, ⟨#[]⟩, ⟨#[]⟩⟩, by rw [HZ.out] <;> rfl, fun q => absurd q HME.out, BE.out⟩
  subst hcz
  obtain ⟨⟨x0, x1, x2, x3, x4, x5, x6, x7⟩, fx⟩ := blkR G1.out.2.2.2
  obtain ⟨a0, a1, a2, a3, a4, a5, a6⟩ := blk7c G1.out.2.1
  have fx0 := fx 0
  have fx4 := fx 4
  have fx5 := fx 5
  have fx7 := fx 7
  clear fx
  obtain ⟨P1, hP1⟩ : ∃ W, q1.setCell ⟨vb, 4, none⟩ (.int .i64 ce) = W := ⟨_, rfl⟩
  have G2 := Lib.hid (And.intro (show Below w.heap.size w P1 by rw [← hP1]; exact G1.out.1.setCell (p := ⟨_, _, none⟩) HX.out.1 _) (And.intro (show P1.heap[w.heap.size]? = some (.cells #[.int .i64 6, .int .i64 lb, .int .i64 ce, .int .i64 ti, .string da, .string na, .slice ka kn kc] 35 (0, 0)) by rw [← hP1]; exact (set_ne _ HX.out.2.1).trans G1.out.2.1) (And.intro (show P1.heap[W1.heap.size]? = some (.cells #[.int .i64 0, .int .i64 0, .int .i64 0, .int .i64 0, .int .i64 0, .int .i64 0, .string ⟨#[]⟩, .string ⟨#[]⟩] 72 (0, 0)) by rw [← hP1]; exact (set_ne _ HX.out.2.2).trans G1.out.2.2.1) (show P1.heap[vb]? = some (.cells #[.int .i64 0, .int .i64 m.book.epoch, .int .i64 m.now, .int .i64 0, .int .i64 ce, .int .i64 0, .string ⟨#[]⟩, .string ⟨#[]⟩] 72 (0, 0)) by rw [← hP1]; exact set_blk G1.out.2.2.2 4 _))))
  go_upto_region 11 with fail
  try rw [hP1]
  clear hP1
  clear x0 x1 x2 x3 x4 x5 x6 x7 a0 a1 a2 a3 a4 a5 a6 fx0 fx4 fx5 fx7
  obtain ⟨⟨x0, x1, x2, x3, x4, x5, x6, x7⟩, fx⟩ := blkR G2.out.2.2.2
  obtain ⟨a0, a1, a2, a3, a4, a5, a6⟩ := blk7c G2.out.2.1
  have fx0 := fx 0
  have fx4 := fx 4
  have fx5 := fx 5
  have fx7 := fx 7
  clear fx
  obtain ⟨⟨z0, z1, z2, z3, z4, z5, z6, z7⟩, -⟩ := blkR (HD.out.below G2.out.1).blk
  go_upto_region 14 with fail
  refine wp_region_mv (fun f => SetTwo P1 vb 0 5 (.int .i64 2) (.int .i64 ti) (f 3) (f 5)) (by kernel_rfl) SetTwo.start ?_
  obtain ⟨S, F, hF, hFC⟩ := moved_class (fun f => SetTwo P1 vb 0 5 (.int .i64 2) (.int .i64 ti) (f 3) (f 5))
  have ka3 : ∀ s, (F s).cell? ⟨w.heap.size, 3, none⟩ = some (.int .i64 ti) := fun s => (hFC s).choose_spec.cell (HX.out.2.1) a3
  show wpAnyM _ _ _ _ _ 6 (Array.replicate 6 false) _ _
  refine mv_read 0 hF (fun _ _ _ h => h) rfl (by kernel_rfl) (by kernel_rfl) (by kernel_rfl) (fun K hK => ?_)
  go_simp
  first | refine ⟨_, fun _ => rfl, hK _ _ ?_⟩ | refine hK _ _ ?_
  clear hK K
  refine mv_read 1 hF (fun _ _ _ h => h) rfl (by kernel_rfl) (by kernel_rfl) (by kernel_rfl) (fun K hK => ?_)
  go_simp
  first | refine ⟨_, fun _ => rfl, hK _ _ ?_⟩ | refine hK _ _ ?_
  clear hK K
  refine mv_read 2 hF (fun _ _ _ h => h) rfl (by kernel_rfl) (by kernel_rfl) (by kernel_rfl) (fun K hK => ?_)
  go_simp
  first | refine ⟨_, fun _ => rfl, hK _ _ ?_⟩ | refine hK _ _ ?_
  clear hK K
  refine mv_alone 3 rfl (by kernel_rfl) rfl (fun _ => True) (fun g w9 ha h0 h D hD => ?_) ?_
  · simp only [h0] at h
    obtain ⟨hw9, h8⟩ := h.one
    have q1 : w9.cell? ⟨vb, 0, none⟩ = some (.int .i64 0) := by rw [hw9]; exact x0
    have q2 : w9.frozen? ⟨vb, 0, none⟩ = false := by rw [hw9]; exact fx0
    have hD2 := hD undef _ trivial (show SetTwo _ _ _ _ _ _ (upd g 3 undef 3) _ _ by rw [upd_self]; exact h8)
    clear hD h h8 hw9
    go_simp
    exact hD2
  rintro u1 -
  refine mv_read 4 hF (fun _ _ _ h => h) rfl (by kernel_rfl) (by kernel_rfl) (by kernel_rfl) (fun K hK => ?_)
  go_simp
  first | refine ⟨_, fun _ => rfl, hK _ _ ?_⟩ | refine hK _ _ ?_
  clear hK K
  refine mv_alone 5 rfl (by kernel_rfl) rfl (fun _ => True) (fun g w9 ha h0 h D hD => ?_) ?_
  · have e1 : g 3 = some u1 := by have e := agree_on 3 ha (by kernel_rfl); exact e.trans rfl
    simp only [h0, e1] at h
    obtain ⟨hw9, h8⟩ := h.two (fun e => by cases e)
    have q1 : w9.cell? ⟨vb, 5, none⟩ = some (.int .i64 0) := by rw [hw9]; exact cell_off (ad := ⟨vb, 5, none⟩) rfl (by show (5 : Nat) ≠ 0; decide) x5
    have q2 : w9.frozen? ⟨vb, 5, none⟩ = false := by rw [hw9, World.frozen?_setCell]; exact fx5
    have hD2 := hD undef _ trivial (show SetTwo _ _ _ _ _ _ (g 3) (upd g 5 undef 5) _ by rw [upd_self, e1]; exact h8)
    clear hD h h8 hw9
    go_simp
    exact hD2
  rintro u2 -
  refine mv_end (by kernel_rfl) ?_
  intro P2 hq
  have hq2 := SetTwo.both (x := u1) (y := u2) hq
  have G3 := Lib.hid (And.intro (show Below w.heap.size w P2 by rw [hq2]; exact ((G2.out.1.trans ((drew_below _).mono G2.out.1.size)).setCell (p := ⟨_, _, none⟩) HX.out.1 _).setCell (p := ⟨_, _, none⟩) HX.out.1 _) (And.intro (show P2.heap[w.heap.size]? = some (.cells #[.int .i64 6, .int .i64 lb, .int .i64 ce, .int .i64 ti, .string da, .string na, .slice ka kn kc] 35 (0, 0)) by rw [hq2]; exact (set_ne _ HX.out.2.1).trans ((set_ne _ HX.out.2.1).trans G2.out.2.1)) (And.intro (show P2.heap[W1.heap.size]? = some (.cells #[.int .i64 0, .int .i64 0, .int .i64 0, .int .i64 0, .int .i64 0, .int .i64 0, .string ⟨#[]⟩, .string ⟨#[]⟩] 72 (0, 0)) by rw [hq2]; exact (set_ne _ HX.out.2.2).trans ((set_ne _ HX.out.2.2).trans G2.out.2.2.1)) (show P2.heap[vb]? = some (.cells #[.int .i64 2, .int .i64 m.book.epoch, .int .i64 m.now, .int .i64 0, .int .i64 ce, .int .i64 ti, .string ⟨#[]⟩, .string ⟨#[]⟩] 72 (0, 0)) by rw [hq2]; exact set_blk (set_blk (w := P1.drew) G2.out.2.2.2 0 _) 5 _))))
  clear hq hq2 hF hFC z0 z1 z2 z3 z4 z5 z6 z7 ka3
  clear x0 x1 x2 x3 x4 x5 x6 x7 a0 a1 a2 a3 a4 a5 a6 fx0 fx4 fx5 fx7
  by_cases ht0 : ti < 0
  · have ht0d : decide (ti < 0) = true := decide_eq_true ht0
    have HZ := Lib.hid (HZb.out (by trivial) (Or.inl ht0))
    obtain ⟨⟨x0, x1, x2, x3, x4, x5, x6, x7⟩, fx⟩ := blkR G3.out.2.2.2
    obtain ⟨a0, a1, a2, a3, a4, a5, a6⟩ := blk7c G3.out.2.1
    have fx0 := fx 0
    have fx4 := fx 4
    have fx5 := fx 5
    have fx7 := fx 7
    clear fx
    obtain ⟨WR, hWR⟩ : ∃ W, P2.setRow W1.heap.size #[.int .i64 2, .int .i64 m.book.epoch, .int .i64 m.now, .int .i64 0, .int .i64 ce, .int .i64 ti, .string ⟨#[]⟩, .string ⟨#[]⟩] = W := ⟨_, rfl⟩
    have KE := Lib.hid (show WR.heap[W1.heap.size]? = some (.cells #[.int .i64 2, .int .i64 m.book.epoch, .int .i64 m.now, .int .i64 0, .int .i64 ce, .int .i64 ti, .string ⟨#[]⟩, .string ⟨#[]⟩] 72 (0, 0)) by rw [← hWR]; exact setRow_heap P2 _ _ _ _ _ G3.out.2.2.1)
    have BE := Lib.hid (show Below w.heap.size w WR by rw [← hWR]; exact below_setRow G3.out.1 (Nat.le_of_lt s1.out) _)
    go_wp2_with (refine wpList_store_blk rfl 72 (.tmp 4) (.tmp 74) rfl W1.heap.size 0 8 rfl #[.int .i64 0, .int .i64 0, .int .i64 0, .int .i64 0, .int .i64 0, .int .i64 0, .string ⟨#[]⟩, .string ⟨#[]⟩] #[.int .i64 2, .int .i64 m.book.epoch, .int .i64 m.now, .int .i64 0, .int .i64 ce, .int .i64 ti, .string ⟨#[]⟩, .string ⟨#[]⟩] #[.int .i64 2, .int .i64 m.book.epoch, .int .i64 m.now, .int .i64 0, .int .i64 ce, .int .i64 ti, .string ⟨#[]⟩, .string ⟨#[]⟩] rfl 72 G3.out.2.2.1 rfl (Nat.le_refl 8) (by kernel_rfl) (rec_one _ _ _ _ _ _ _ _) (splice_all _ _ rfl) ?_; rw [hWR])
    obtain ⟨⟨y0, y1, y2, y3, y4, y5, y6, y7⟩, -⟩ := blkR KE.out
    refine bodyPost_ret (v := .tuple #[.agg #[.int .i64 2, .int .i64 m.book.epoch, .int .i64 m.now, .int .i64 0, .int .i64 ce, .int .i64 ti, .string ⟨#[]⟩, .string ⟨#[]⟩], .int .i64 2]) (by simp [results, Tryz.results52, go_sem, y0, y1, y2, y3, y4, y5, y6, y7]) rfl ?_
    exact HR.out _ _ ⟨⟨2, m.book.epoch, m.now, 0, ce, ti, ⟨#[]⟩, ⟨#[]⟩⟩, by rw [HZ.out] <;> rfl, fun q => absurd (HZ.out.symm.trans q) (by decide), BE.out⟩
  have ht0d : decide (ti < 0) = false := decide_eq_false ht0
  by_cases ht1 : 1099511627776 < ti
  · have ht1d : decide (1099511627776 < ti) = true := decide_eq_true ht1
    have HZ := Lib.hid (HZb.out (by trivial) (Or.inr ht1))
    obtain ⟨⟨x0, x1, x2, x3, x4, x5, x6, x7⟩, fx⟩ := blkR G3.out.2.2.2
    obtain ⟨a0, a1, a2, a3, a4, a5, a6⟩ := blk7c G3.out.2.1
    have fx0 := fx 0
    have fx4 := fx 4
    have fx5 := fx 5
    have fx7 := fx 7
    clear fx
    obtain ⟨WR, hWR⟩ : ∃ W, P2.setRow W1.heap.size #[.int .i64 2, .int .i64 m.book.epoch, .int .i64 m.now, .int .i64 0, .int .i64 ce, .int .i64 ti, .string ⟨#[]⟩, .string ⟨#[]⟩] = W := ⟨_, rfl⟩
    have KE := Lib.hid (show WR.heap[W1.heap.size]? = some (.cells #[.int .i64 2, .int .i64 m.book.epoch, .int .i64 m.now, .int .i64 0, .int .i64 ce, .int .i64 ti, .string ⟨#[]⟩, .string ⟨#[]⟩] 72 (0, 0)) by rw [← hWR]; exact setRow_heap P2 _ _ _ _ _ G3.out.2.2.1)
    have BE := Lib.hid (show Below w.heap.size w WR by rw [← hWR]; exact below_setRow G3.out.1 (Nat.le_of_lt s1.out) _)
    go_wp2_with (refine wpList_store_blk rfl 72 (.tmp 4) (.tmp 74) rfl W1.heap.size 0 8 rfl #[.int .i64 0, .int .i64 0, .int .i64 0, .int .i64 0, .int .i64 0, .int .i64 0, .string ⟨#[]⟩, .string ⟨#[]⟩] #[.int .i64 2, .int .i64 m.book.epoch, .int .i64 m.now, .int .i64 0, .int .i64 ce, .int .i64 ti, .string ⟨#[]⟩, .string ⟨#[]⟩] #[.int .i64 2, .int .i64 m.book.epoch, .int .i64 m.now, .int .i64 0, .int .i64 ce, .int .i64 ti, .string ⟨#[]⟩, .string ⟨#[]⟩] rfl 72 G3.out.2.2.1 rfl (Nat.le_refl 8) (by kernel_rfl) (rec_one _ _ _ _ _ _ _ _) (splice_all _ _ rfl) ?_; rw [hWR])
    obtain ⟨⟨y0, y1, y2, y3, y4, y5, y6, y7⟩, -⟩ := blkR KE.out
    refine bodyPost_ret (v := .tuple #[.agg #[.int .i64 2, .int .i64 m.book.epoch, .int .i64 m.now, .int .i64 0, .int .i64 ce, .int .i64 ti, .string ⟨#[]⟩, .string ⟨#[]⟩], .int .i64 2]) (by simp [results, Tryz.results52, go_sem, y0, y1, y2, y3, y4, y5, y6, y7]) rfl ?_
    exact HR.out _ _ ⟨⟨2, m.book.epoch, m.now, 0, ce, ti, ⟨#[]⟩, ⟨#[]⟩⟩, by rw [HZ.out] <;> rfl, fun q => absurd (HZ.out.symm.trans q) (by decide), BE.out⟩
  have ht1d : decide (1099511627776 < ti) = false := decide_eq_false ht1
  have HZ := Lib.hid (HZc.out (by trivial) (fun q => q.elim ht0 ht1))
  obtain ⟨⟨x0, x1, x2, x3, x4, x5, x6, x7⟩, fx⟩ := blkR G3.out.2.2.2
  obtain ⟨a0, a1, a2, a3, a4, a5, a6⟩ := blk7c G3.out.2.1
  have fx0 := fx 0
  have fx4 := fx 4
  have fx5 := fx 5
  have fx7 := fx 7
  clear fx
  obtain ⟨WR, hWR⟩ : ∃ W, P2.setRow W1.heap.size #[.int .i64 2, .int .i64 m.book.epoch, .int .i64 m.now, .int .i64 0, .int .i64 ce, .int .i64 ti, .string ⟨#[]⟩, .string ⟨#[]⟩] = W := ⟨_, rfl⟩
  have KE := Lib.hid (show WR.heap[W1.heap.size]? = some (.cells #[.int .i64 2, .int .i64 m.book.epoch, .int .i64 m.now, .int .i64 0, .int .i64 ce, .int .i64 ti, .string ⟨#[]⟩, .string ⟨#[]⟩] 72 (0, 0)) by rw [← hWR]; exact setRow_heap P2 _ _ _ _ _ G3.out.2.2.1)
  have BE := Lib.hid (show Below w.heap.size w WR by rw [← hWR]; exact below_setRow G3.out.1 (Nat.le_of_lt s1.out) _)
  go_wp2_with (refine wpList_store_blk rfl 72 (.tmp 4) (.tmp 81) rfl W1.heap.size 0 8 rfl #[.int .i64 0, .int .i64 0, .int .i64 0, .int .i64 0, .int .i64 0, .int .i64 0, .string ⟨#[]⟩, .string ⟨#[]⟩] #[.int .i64 2, .int .i64 m.book.epoch, .int .i64 m.now, .int .i64 0, .int .i64 ce, .int .i64 ti, .string ⟨#[]⟩, .string ⟨#[]⟩] #[.int .i64 2, .int .i64 m.book.epoch, .int .i64 m.now, .int .i64 0, .int .i64 ce, .int .i64 ti, .string ⟨#[]⟩, .string ⟨#[]⟩] rfl 72 G3.out.2.2.1 rfl (Nat.le_refl 8) (by kernel_rfl) (rec_one _ _ _ _ _ _ _ _) (splice_all _ _ rfl) ?_; rw [hWR])
  obtain ⟨⟨y0, y1, y2, y3, y4, y5, y6, y7⟩, -⟩ := blkR KE.out
  refine bodyPost_ret (v := .tuple #[.agg #[.int .i64 2, .int .i64 m.book.epoch, .int .i64 m.now, .int .i64 0, .int .i64 ce, .int .i64 ti, .string ⟨#[]⟩, .string ⟨#[]⟩], .int .i64 0]) (by simp [results, Tryz.results52, go_sem, y0, y1, y2, y3, y4, y5, y6, y7]) rfl ?_
  exact HR.out _ _ ⟨⟨2, m.book.epoch, m.now, 0, ce, ti, ⟨#[]⟩, ⟨#[]⟩⟩, by rw [HZ.out] <;> rfl, fun _ => HR1.out.symm, BE.out⟩
set_option maxRecDepth 100000 in
set_option maxHeartbeats 8000000 in
theorem mmeans_hold {n cc bn c mu mh mg : Nat} {rv vv : Value} {m : ModT} (cl : CallT) (ka : Option Addr) (kn kc : Nat) (w : World) (h : ModAt w n cc bn c mu mh mg rv vv m) (hk : cl.kind = 7) (hce : -9223372036854775808 ≤ cl.epoch ∧ cl.epoch ≤ 9223372036854775807) (hna : cl.name.size ≤ 9223372036854775807) :
    Calls Tryz.prog 52 #[.pointer (some ⟨n, 0, none⟩), callV cl ka kn kc] w fun e w' => ∃ r, e = .returned (.tuple #[recV r, .int .i64 (meansE m cl)]) ∧ (meansE m cl = 0 → r = meansR m cl) ∧ Below w.heap.size w w' := by
  refine calls_by fun R HR => ?_
  have HD := Lib.hid h
  have HCl := Lib.hid (fun w (h : ModAt w n cc bn c mu mh mg rv vv m) => mclosed_any cl.epoch w h)
  have HE := Lib.hid (fun w (h : ModAt w n cc bn c mu mh mg rv vv m) => bepoch_any w h.book)
  have HN := Lib.hid (fun w (h : ModAt w n cc bn c mu mh mg rv vv m) => cnow_any cc m.now w h.clk)
  have HU := Lib.hid (fun w (h : ModAt w n cc bn c mu mh mg rv vv m) => buntil_any cl.epoch w h.book hce)
  have HNm := Lib.hid (fun w => name_any cl.name w hna)
  have HZ0 : Hid (meansE m cl = if (cl.kind = 7 ∨ cl.kind = 8) ∧ nameB cl.name = false then 2 else if cl.kind ≠ 8 ∧ closedE m cl.epoch ≠ 0 then closedE m cl.epoch
    else if cl.kind = 6 ∧ (cl.time < 0 ∨ 1099511627776 < cl.time) then 2 else 0) := Lib.hid rfl
  have HR0 : Hid (meansR m cl = if cl.kind = 6 then ⟨2, m.book.epoch, m.now, 0, cl.epoch, cl.time, ⟨#[]⟩, ⟨#[]⟩⟩ else if cl.kind = 7 then ⟨3, m.book.epoch, m.now, 0, cl.epoch, 0, ⟨#[]⟩, cl.name⟩
    else if cl.kind = 8 then ⟨4, m.book.epoch, m.now, 0, 0, 0, ⟨#[]⟩, cl.name⟩ else ⟨5, m.book.epoch, m.now, 0, cl.epoch, tillN m.book cl.epoch, ⟨#[]⟩, ⟨#[]⟩⟩) := Lib.hid rfl
  generalize meansE m cl = ME at *
  generalize meansR m cl = MR at *
  generalize closedE m cl.epoch = CE at *
  generalize tillN m.book cl.epoch = TU at *
  obtain ⟨ki, lb, ce, ti, da, na⟩ := cl
  simp only at hk HCl HU HNm HZ0 HR0
  subst hk
  have HZn : Hid (nameB na = false → ME = 2) := Lib.hid fun q => by rw [HZ0.out]; simp [q]
  have HZa : Hid (nameB na = true → CE ≠ 0 → ME = CE) := Lib.hid fun q0 q => by rw [HZ0.out]; simp [q, q0]
  have HZc : Hid (nameB na = true → CE = 0 → ME = 0) := Lib.hid fun q0 q => by rw [HZ0.out]; simp [q, q0]
  have HR1 : Hid (MR = ⟨3, m.book.epoch, m.now, 0, ce, 0, ⟨#[]⟩, na⟩) := Lib.hid (by rw [HR0.out, if_neg (by decide), if_pos rfl])
  clear h hce hna HZ0 HR0
  have H1 := Lib.hid (And.intro (Below.refl w.heap.size w) (HD.out))
  obtain ⟨W1, hW1⟩ : ∃ W1, w.alloc (.cells #[.int .i64 7, .int .i64 lb, .int .i64 ce, .int .i64 ti, .string da, .string na, .slice ka kn kc] 35) = W1 := ⟨_, rfl⟩
  have hbW1 : Below w.heap.size w W1 := by rw [← hW1]; exact alloc_below w _
  have kW1 : W1.heap[w.heap.size]? = some (.cells #[.int .i64 7, .int .i64 lb, .int .i64 ce, .int .i64 ti, .string da, .string na, .slice ka kn kc] 35 (0, 0)) := by rw [← hW1]; exact alloc_new w _
  have H2 := Lib.hid (And.intro (H1.out.1.trans (hbW1.mono H1.out.1.size)) (And.intro (H1.out.2.below hbW1) (kW1)))
  clear hbW1 kW1
  have s1 := Lib.hid (show w.heap.size < W1.heap.size from lt_of_block H2.out.2.2)
  obtain ⟨W2, hW2⟩ : ∃ W2, W1.alloc (.cells #[.int .i64 0, .int .i64 0, .int .i64 0, .int .i64 0, .int .i64 0, .int .i64 0, .string ⟨#[]⟩, .string ⟨#[]⟩] 72) = W2 := ⟨_, rfl⟩
  have hbW2 : Below W1.heap.size W1 W2 := by rw [← hW2]; exact alloc_below W1 _
  have kW2 : W2.heap[W1.heap.size]? = some (.cells #[.int .i64 0, .int .i64 0, .int .i64 0, .int .i64 0, .int .i64 0, .int .i64 0, .string ⟨#[]⟩, .string ⟨#[]⟩] 72 (0, 0)) := by rw [← hW2]; exact alloc_new W1 _
  have H3 := Lib.hid (And.intro (H2.out.1.trans (hbW2.mono H2.out.1.size)) (And.intro (H2.out.2.1.below hbW2) (And.intro (blk_on hbW2 H2.out.2.2) (kW2))))
  clear hbW2 kW2
  obtain ⟨⟨z0, z1, z2, z3, z4, z5, z6, z7⟩, -⟩ := blkR H3.out.2.1.blk
  go_enter Tryz.func52, Tryz.ntmps52
  go_upto_region 1 with fail
  clear hW1 hW2
  refine wp_region_mv (fun f => NewBlk W2.heap.size W2 #[.int .i64 0, .int .i64 0, .int .i64 0, .int .i64 0, .int .i64 0, .int .i64 0, .string ⟨#[]⟩, .string ⟨#[]⟩] #[.int .i64 0, .int .i64 m.book.epoch, .int .i64 m.now, .int .i64 0, .int .i64 0, .int .i64 0, .string ⟨#[]⟩, .string ⟨#[]⟩] 72 (f 11) (f 12)) (by kernel_rfl) (NewBlk.start (Below.refl _ _) (Nat.le_refl _)) ?_
  obtain ⟨S, F, hF, hFC⟩ := moved_class (fun f => NewBlk W2.heap.size W2 #[.int .i64 0, .int .i64 0, .int .i64 0, .int .i64 0, .int .i64 0, .int .i64 0, .string ⟨#[]⟩, .string ⟨#[]⟩] #[.int .i64 0, .int .i64 m.book.epoch, .int .i64 m.now, .int .i64 0, .int .i64 0, .int .i64 0, .string ⟨#[]⟩, .string ⟨#[]⟩] 72 (f 11) (f 12))
  have kz4 : ∀ s, (F s).cell? ⟨n, 4, none⟩ = some (.pointer (some ⟨cc, 0, none⟩)) := fun s => (cell_on (hFC s).choose_spec.b z4).1
  have kz5 : ∀ s, (F s).cell? ⟨n, 5, none⟩ = some (.pointer (some ⟨bn, 0, none⟩)) := fun s => (cell_on (hFC s).choose_spec.b z5).1
  have kz0 : ∀ s, (F s).cell? ⟨n, 0, none⟩ = some (.int .i64 m.geo.blocks) := fun s => (cell_on (hFC s).choose_spec.b z0).1
  show wpAnyM _ _ _ _ _ 13 (Array.replicate 13 false) _ _
  refine mv_read 0 hF (fun _ _ _ h => h) rfl (by kernel_rfl) (by kernel_rfl) (by kernel_rfl) (fun K hK => ?_)
  go_simp
  first | refine ⟨_, fun _ => rfl, hK _ _ ?_⟩ | refine hK _ _ ?_
  clear hK K
  refine mv_read 1 hF (fun _ _ _ h => h) rfl (by kernel_rfl) (by kernel_rfl) (by kernel_rfl) (fun K hK => ?_)
  go_simp
  first | refine ⟨_, fun _ => rfl, hK _ _ ?_⟩ | refine hK _ _ ?_
  clear hK K
  refine mv_read 2 hF (fun _ _ _ h => h) rfl (by kernel_rfl) (by kernel_rfl) (by kernel_rfl) (fun K hK => ?_)
  go_simp
  first | refine ⟨_, fun _ => rfl, hK _ _ ?_⟩ | refine hK _ _ ?_
  clear hK K
  refine mv_read 3 hF (fun _ _ _ h => h) rfl (by kernel_rfl) (by kernel_rfl) (by kernel_rfl) (fun K hK => ?_)
  go_simp
  first | refine ⟨_, fun _ => rfl, hK _ _ ?_⟩ | refine hK _ _ ?_
  clear hK K
  refine mv_call1 4 17 rfl (by kernel_rfl) (by kernel_rfl) (by kernel_rfl) rfl rfl eg_bepoch (args := #[.pointer (some ⟨bn, 0, none⟩)]) rfl (u := .int .i64 m.book.epoch) (fun g w9 _ _ h => ((HE.out w9 (H3.out.2.1.below h.b)).mono fun en w8 ⟨h1, h2⟩ => ⟨h1, by rw [h2]; exact h⟩)) ?_
  refine mv_read 5 hF (fun _ _ _ h => h) rfl (by kernel_rfl) (by kernel_rfl) (by kernel_rfl) (fun K hK => ?_)
  go_simp
  first | refine ⟨_, fun _ => rfl, hK _ _ ?_⟩ | refine hK _ _ ?_
  clear hK K
  refine mv_read 6 hF (fun _ _ _ h => h) rfl (by kernel_rfl) (by kernel_rfl) (by kernel_rfl) (fun K hK => ?_)
  go_simp
  first | refine ⟨_, fun _ => rfl, hK _ _ ?_⟩ | refine hK _ _ ?_
  clear hK K
  refine mv_read 7 hF (fun _ _ _ h => h) rfl (by kernel_rfl) (by kernel_rfl) (by kernel_rfl) (fun K hK => ?_)
  go_simp
  first | refine ⟨_, fun _ => rfl, hK _ _ ?_⟩ | refine hK _ _ ?_
  clear hK K
  refine mv_read 8 hF (fun _ _ _ h => h) rfl (by kernel_rfl) (by kernel_rfl) (by kernel_rfl) (fun K hK => ?_)
  go_simp
  first | refine ⟨_, fun _ => rfl, hK _ _ ?_⟩ | refine hK _ _ ?_
  clear hK K
  refine mv_call1 9 45 rfl (by kernel_rfl) (by kernel_rfl) (by kernel_rfl) rfl rfl eg_cnow (args := #[.pointer (some ⟨cc, 0, none⟩)]) rfl (u := .int .i64 m.now) (fun g w9 _ _ h => ((HN.out w9 (H3.out.2.1.below h.b)).mono fun en w8 ⟨h1, h2⟩ => ⟨h1, by rw [h2]; exact h⟩)) ?_
  refine mv_read 10 hF (fun _ _ _ h => h) rfl (by kernel_rfl) (by kernel_rfl) (by kernel_rfl) (fun K hK => ?_)
  go_simp
  first | refine ⟨_, fun _ => rfl, hK _ _ ?_⟩ | refine hK _ _ ?_
  clear hK K
  refine mv_alone 11 rfl (by kernel_rfl) rfl (fun v => ∃ b, v = .pointer (some ⟨b, 0, none⟩)) (fun g w9 _ h0 h D hD => ?_) ?_
  · have h9 := h
    simp only [h0] at h9
    have h8 := h9.made
    clear h h9
    go_simp
    exact hD _ _ ⟨_, rfl⟩ h8
  rintro _ ⟨vb, rfl⟩
  refine mv_store_blk 12 rfl (by kernel_rfl) rfl 72 (.tmp 6) (.tmp 18) rfl vb 0 #[.int .i64 0, .int .i64 m.book.epoch, .int .i64 m.now, .int .i64 0, .int .i64 0, .int .i64 0, .string ⟨#[]⟩, .string ⟨#[]⟩] rfl rfl (by kernel_rfl) (rec_one _ _ _ _ _ _ _ _) (fun g w9 ha h0 h => ?_) ?_
  · have e1 : g 11 = some (.pointer (some ⟨vb, 0, none⟩)) := (agree_on 11 ha (by kernel_rfl)).trans rfl
    have h9 := h
    simp only [e1, h0] at h9
    refine ⟨#[.int .i64 0, .int .i64 0, .int .i64 0, .int .i64 0, .int .i64 0, .int .i64 0, .string ⟨#[]⟩, .string ⟨#[]⟩], 72, h9.at.2, Nat.le_refl 8, ?_⟩
    rw [splice_all #[.int .i64 0, .int .i64 0, .int .i64 0, .int .i64 0, .int .i64 0, .int .i64 0, .string ⟨#[]⟩, .string ⟨#[]⟩] #[.int .i64 0, .int .i64 m.book.epoch, .int .i64 m.now, .int .i64 0, .int .i64 0, .int .i64 0, .string ⟨#[]⟩, .string ⟨#[]⟩] rfl]
    show NewBlk _ _ _ _ _ (g 11) (upd g 12 undef 12) _
    rw [upd_self, e1]
    exact h9.stored
  refine mv_end (by kernel_rfl) ?_
  intro q1 hq
  have HQ1 := Lib.hid (show Below W2.heap.size W2 q1 ∧ W2.heap.size ≤ vb ∧ q1.heap[vb]? = some (.cells #[.int .i64 0, .int .i64 m.book.epoch, .int .i64 m.now, .int .i64 0, .int .i64 0, .int .i64 0, .string ⟨#[]⟩, .string ⟨#[]⟩] 72 (0, 0)) from ⟨hq.b, (NewBlk.at (b := vb) hq).1, (NewBlk.at (b := vb) hq).2⟩)
  clear hq hF hFC kz0 kz4 kz5 z0 z1 z2 z3 z4 z5 z6 z7
  have s2 := Lib.hid (show W1.heap.size < W2.heap.size from lt_of_block H3.out.2.2.2)
  have HX := Lib.hid (show w.heap.size ≤ vb ∧ w.heap.size ≠ vb ∧ W1.heap.size ≠ vb by have := HQ1.out.2.1; have := s1.out; have := s2.out; omega)
  have G1 := Lib.hid (And.intro (H3.out.1.trans (HQ1.out.1.mono H3.out.1.size)) (And.intro (blk_on HQ1.out.1 H3.out.2.2.1) (And.intro (blk_on HQ1.out.1 H3.out.2.2.2) (HQ1.out.2.2))))
  clear HQ1
  obtain ⟨⟨x0, x1, x2, x3, x4, x5, x6, x7⟩, fx⟩ := blkR G1.out.2.2.2
  obtain ⟨a0, a1, a2, a3, a4, a5, a6⟩ := blk7c G1.out.2.1
  have fx0 := fx 0
  have fx4 := fx 4
  have fx5 := fx 5
  have fx7 := fx 7
  clear fx
  obtain ⟨P1, hP1⟩ : ∃ W, q1.setCell ⟨vb, 7, none⟩ (.string na) = W := ⟨_, rfl⟩
  have G2 := Lib.hid (And.intro (show Below w.heap.size w P1 by rw [← hP1]; exact G1.out.1.setCell (p := ⟨_, _, none⟩) HX.out.1 _) (And.intro (show P1.heap[w.heap.size]? = some (.cells #[.int .i64 7, .int .i64 lb, .int .i64 ce, .int .i64 ti, .string da, .string na, .slice ka kn kc] 35 (0, 0)) by rw [← hP1]; exact (set_ne _ HX.out.2.1).trans G1.out.2.1) (And.intro (show P1.heap[W1.heap.size]? = some (.cells #[.int .i64 0, .int .i64 0, .int .i64 0, .int .i64 0, .int .i64 0, .int .i64 0, .string ⟨#[]⟩, .string ⟨#[]⟩] 72 (0, 0)) by rw [← hP1]; exact (set_ne _ HX.out.2.2).trans G1.out.2.2.1) (show P1.heap[vb]? = some (.cells #[.int .i64 0, .int .i64 m.book.epoch, .int .i64 m.now, .int .i64 0, .int .i64 0, .int .i64 0, .string ⟨#[]⟩, .string na] 72 (0, 0)) by rw [← hP1]; exact set_blk G1.out.2.2.2 7 _))))
  go_upto_region 4 with fail
  try rw [hP1]
  clear hP1
  clear x0 x1 x2 x3 x4 x5 x6 x7 a0 a1 a2 a3 a4 a5 a6 fx0 fx4 fx5 fx7
  obtain ⟨⟨x0, x1, x2, x3, x4, x5, x6, x7⟩, fx⟩ := blkR G2.out.2.2.2
  obtain ⟨a0, a1, a2, a3, a4, a5, a6⟩ := blk7c G2.out.2.1
  have fx0 := fx 0
  have fx4 := fx 4
  have fx5 := fx 5
  have fx7 := fx 7
  clear fx
  go_wp2_with fail
  refine (HNm.out _).mono ?_
  rintro en y9 ⟨rfl, hw⟩
  rw [hw]
  clear hw y9
  clear x0 x1 x2 x3 x4 x5 x6 x7 a0 a1 a2 a3 a4 a5 a6 fx0 fx4 fx5 fx7
  cases hnm : nameB na with
  | false =>
    have HZ := Lib.hid (HZn.out hnm)
    obtain ⟨⟨x0, x1, x2, x3, x4, x5, x6, x7⟩, fx⟩ := blkR G2.out.2.2.2
    obtain ⟨a0, a1, a2, a3, a4, a5, a6⟩ := blk7c G2.out.2.1
    have fx0 := fx 0
    have fx4 := fx 4
    have fx5 := fx 5
    have fx7 := fx 7
    clear fx
    obtain ⟨WR, hWR⟩ : ∃ W, P1.setRow W1.heap.size #[.int .i64 0, .int .i64 m.book.epoch, .int .i64 m.now, .int .i64 0, .int .i64 0, .int .i64 0, .string ⟨#[]⟩, .string na] = W := ⟨_, rfl⟩
    have KE := Lib.hid (show WR.heap[W1.heap.size]? = some (.cells #[.int .i64 0, .int .i64 m.book.epoch, .int .i64 m.now, .int .i64 0, .int .i64 0, .int .i64 0, .string ⟨#[]⟩, .string na] 72 (0, 0)) by rw [← hWR]; exact setRow_heap P1 _ _ _ _ _ G2.out.2.2.1)
    have BE := Lib.hid (show Below w.heap.size w WR by rw [← hWR]; exact below_setRow G2.out.1 (Nat.le_of_lt s1.out) _)
    go_wp2_with (refine wpList_store_blk rfl 72 (.tmp 4) (.tmp 34) rfl W1.heap.size 0 8 rfl #[.int .i64 0, .int .i64 0, .int .i64 0, .int .i64 0, .int .i64 0, .int .i64 0, .string ⟨#[]⟩, .string ⟨#[]⟩] #[.int .i64 0, .int .i64 m.book.epoch, .int .i64 m.now, .int .i64 0, .int .i64 0, .int .i64 0, .string ⟨#[]⟩, .string na] #[.int .i64 0, .int .i64 m.book.epoch, .int .i64 m.now, .int .i64 0, .int .i64 0, .int .i64 0, .string ⟨#[]⟩, .string na] rfl 72 G2.out.2.2.1 rfl (Nat.le_refl 8) (by kernel_rfl) (rec_one _ _ _ _ _ _ _ _) (splice_all _ _ rfl) ?_; rw [hWR])
    obtain ⟨⟨y0, y1, y2, y3, y4, y5, y6, y7⟩, -⟩ := blkR KE.out
    refine bodyPost_ret (v := .tuple #[.agg #[.int .i64 0, .int .i64 m.book.epoch, .int .i64 m.now, .int .i64 0, .int .i64 0, .int .i64 0, .string ⟨#[]⟩, .string na], .int .i64 2]) (by simp [results, Tryz.results52, go_sem, y0, y1, y2, y3, y4, y5, y6, y7]) rfl ?_
    exact HR.out _ _ ⟨⟨0, m.book.epoch, m.now, 0, 0, 0, ⟨#[]⟩, na⟩, by rw [HZ.out] <;> rfl, fun q => absurd (HZ.out.symm.trans q) (by decide), BE.out⟩
  | true =>
    obtain ⟨⟨x0, x1, x2, x3, x4, x5, x6, x7⟩, fx⟩ := blkR G2.out.2.2.2
    obtain ⟨a0, a1, a2, a3, a4, a5, a6⟩ := blk7c G2.out.2.1
    have fx0 := fx 0
    have fx4 := fx 4
    have fx5 := fx 5
    have fx7 := fx 7
    clear fx
    go_wp2_with fail
    refine (HCl.out _ (HD.out.below G2.out.1)).mono ?_
    rintro en y9 ⟨rfl, hw⟩
    rw [hw]
    clear hw y9
    clear x0 x1 x2 x3 x4 x5 x6 x7 a0 a1 a2 a3 a4 a5 a6 fx0 fx4 fx5 fx7
    by_cases hcz : CE = 0
    case neg =>
      have hcb : (CE != 0) = true := by simpa using hcz
      have HZ := Lib.hid (HZa.out hnm hcz)
      have hME : ME ≠ 0 := by rw [HZ.out]; exact hcz
      have HME := Lib.hid hME
      clear hME
      obtain ⟨⟨x0, x1, x2, x3, x4, x5, x6, x7⟩, fx⟩ := blkR G2.out.2.2.2
      obtain ⟨a0, a1, a2, a3, a4, a5, a6⟩ := blk7c G2.out.2.1
      have fx0 := fx 0
      have fx4 := fx 4
      have fx5 := fx 5
      have fx7 := fx 7
      clear fx
      obtain ⟨WR, hWR⟩ : ∃ W, P1.setRow W1.heap.size #[.int .i64 0, .int .i64 m.book.epoch, .int .i64 m.now, .int .i64 0, .int .i64 0, .int .i64 0, .string ⟨#[]⟩, .string na] = W := ⟨_, rfl⟩
      have KE := Lib.hid (show WR.heap[W1.heap.size]? = some (.cells #[.int .i64 0, .int .i64 m.book.epoch, .int .i64 m.now, .int .i64 0, .int .i64 0, .int .i64 0, .string ⟨#[]⟩, .string na] 72 (0, 0)) by rw [← hWR]; exact setRow_heap P1 _ _ _ _ _ G2.out.2.2.1)
      have BE := Lib.hid (show Below w.heap.size w WR by rw [← hWR]; exact below_setRow G2.out.1 (Nat.le_of_lt s1.out) _)
      go_wp2_with (refine wpList_store_blk rfl 72 (.tmp 4) (.tmp 44) rfl W1.heap.size 0 8 rfl #[.int .i64 0, .int .i64 0, .int .i64 0, .int .i64 0, .int .i64 0, .int .i64 0, .string ⟨#[]⟩, .string ⟨#[]⟩] #[.int .i64 0, .int .i64 m.book.epoch, .int .i64 m.now, .int .i64 0, .int .i64 0, .int .i64 0, .string ⟨#[]⟩, .string na] #[.int .i64 0, .int .i64 m.book.epoch, .int .i64 m.now, .int .i64 0, .int .i64 0, .int .i64 0, .string ⟨#[]⟩, .string na] rfl 72 G2.out.2.2.1 rfl (Nat.le_refl 8) (by kernel_rfl) (rec_one _ _ _ _ _ _ _ _) (splice_all _ _ rfl) ?_; rw [hWR])
      obtain ⟨⟨y0, y1, y2, y3, y4, y5, y6, y7⟩, -⟩ := blkR KE.out
      refine bodyPost_ret (v := .tuple #[.agg #[.int .i64 0, .int .i64 m.book.epoch, .int .i64 m.now, .int .i64 0, .int .i64 0, .int .i64 0, .string ⟨#[]⟩, .string na], .int .i64 CE]) (by simp [results, Tryz.results52, go_sem, y0, y1, y2, y3, y4, y5, y6, y7]) rfl ?_
      exact HR.out _ _ ⟨⟨0, m.book.epoch, m.now, 0, 0, 0, ⟨#[]⟩, na⟩, by rw [HZ.out] <;> rfl, fun q => absurd q HME.out, BE.out⟩
    subst hcz
    obtain ⟨⟨x0, x1, x2, x3, x4, x5, x6, x7⟩, fx⟩ := blkR G2.out.2.2.2
    obtain ⟨a0, a1, a2, a3, a4, a5, a6⟩ := blk7c G2.out.2.1
    have fx0 := fx 0
    have fx4 := fx 4
    have fx5 := fx 5
    have fx7 := fx 7
    clear fx
    obtain ⟨P2, hP2⟩ : ∃ W, P1.setCell ⟨vb, 4, none⟩ (.int .i64 ce) = W := ⟨_, rfl⟩
    have G3 := Lib.hid (And.intro (show Below w.heap.size w P2 by rw [← hP2]; exact G2.out.1.setCell (p := ⟨_, _, none⟩) HX.out.1 _) (And.intro (show P2.heap[w.heap.size]? = some (.cells #[.int .i64 7, .int .i64 lb, .int .i64 ce, .int .i64 ti, .string da, .string na, .slice ka kn kc] 35 (0, 0)) by rw [← hP2]; exact (set_ne _ HX.out.2.1).trans G2.out.2.1) (And.intro (show P2.heap[W1.heap.size]? = some (.cells #[.int .i64 0, .int .i64 0, .int .i64 0, .int .i64 0, .int .i64 0, .int .i64 0, .string ⟨#[]⟩, .string ⟨#[]⟩] 72 (0, 0)) by rw [← hP2]; exact (set_ne _ HX.out.2.2).trans G2.out.2.2.1) (show P2.heap[vb]? = some (.cells #[.int .i64 0, .int .i64 m.book.epoch, .int .i64 m.now, .int .i64 0, .int .i64 ce, .int .i64 0, .string ⟨#[]⟩, .string na] 72 (0, 0)) by rw [← hP2]; exact set_blk G2.out.2.2.2 4 _))))
    go_upto_region 11 with fail
    try rw [hP2]
    clear hP2
    clear x0 x1 x2 x3 x4 x5 x6 x7 a0 a1 a2 a3 a4 a5 a6 fx0 fx4 fx5 fx7
    obtain ⟨⟨x0, x1, x2, x3, x4, x5, x6, x7⟩, fx⟩ := blkR G3.out.2.2.2
    obtain ⟨a0, a1, a2, a3, a4, a5, a6⟩ := blk7c G3.out.2.1
    have fx0 := fx 0
    have fx4 := fx 4
    have fx5 := fx 5
    have fx7 := fx 7
    clear fx
    obtain ⟨P3, hP3⟩ : ∃ W, P2.setCell ⟨vb, 0, none⟩ (.int .i64 3) = W := ⟨_, rfl⟩
    have G4 := Lib.hid (And.intro (show Below w.heap.size w P3 by rw [← hP3]; exact G3.out.1.setCell (p := ⟨_, _, none⟩) HX.out.1 _) (And.intro (show P3.heap[w.heap.size]? = some (.cells #[.int .i64 7, .int .i64 lb, .int .i64 ce, .int .i64 ti, .string da, .string na, .slice ka kn kc] 35 (0, 0)) by rw [← hP3]; exact (set_ne _ HX.out.2.1).trans G3.out.2.1) (And.intro (show P3.heap[W1.heap.size]? = some (.cells #[.int .i64 0, .int .i64 0, .int .i64 0, .int .i64 0, .int .i64 0, .int .i64 0, .string ⟨#[]⟩, .string ⟨#[]⟩] 72 (0, 0)) by rw [← hP3]; exact (set_ne _ HX.out.2.2).trans G3.out.2.2.1) (show P3.heap[vb]? = some (.cells #[.int .i64 3, .int .i64 m.book.epoch, .int .i64 m.now, .int .i64 0, .int .i64 ce, .int .i64 0, .string ⟨#[]⟩, .string na] 72 (0, 0)) by rw [← hP3]; exact set_blk G3.out.2.2.2 0 _))))
    go_upto_region 21 with fail
    try rw [hP3]
    clear hP3
    clear x0 x1 x2 x3 x4 x5 x6 x7 a0 a1 a2 a3 a4 a5 a6 fx0 fx4 fx5 fx7
    have HZ := Lib.hid (HZc.out hnm (by trivial))
    obtain ⟨⟨x0, x1, x2, x3, x4, x5, x6, x7⟩, fx⟩ := blkR G4.out.2.2.2
    obtain ⟨a0, a1, a2, a3, a4, a5, a6⟩ := blk7c G4.out.2.1
    have fx0 := fx 0
    have fx4 := fx 4
    have fx5 := fx 5
    have fx7 := fx 7
    clear fx
    obtain ⟨WR, hWR⟩ : ∃ W, P3.setRow W1.heap.size #[.int .i64 3, .int .i64 m.book.epoch, .int .i64 m.now, .int .i64 0, .int .i64 ce, .int .i64 0, .string ⟨#[]⟩, .string na] = W := ⟨_, rfl⟩
    have KE := Lib.hid (show WR.heap[W1.heap.size]? = some (.cells #[.int .i64 3, .int .i64 m.book.epoch, .int .i64 m.now, .int .i64 0, .int .i64 ce, .int .i64 0, .string ⟨#[]⟩, .string na] 72 (0, 0)) by rw [← hWR]; exact setRow_heap P3 _ _ _ _ _ G4.out.2.2.1)
    have BE := Lib.hid (show Below w.heap.size w WR by rw [← hWR]; exact below_setRow G4.out.1 (Nat.le_of_lt s1.out) _)
    go_wp2_with (refine wpList_store_blk rfl 72 (.tmp 4) (.tmp 81) rfl W1.heap.size 0 8 rfl #[.int .i64 0, .int .i64 0, .int .i64 0, .int .i64 0, .int .i64 0, .int .i64 0, .string ⟨#[]⟩, .string ⟨#[]⟩] #[.int .i64 3, .int .i64 m.book.epoch, .int .i64 m.now, .int .i64 0, .int .i64 ce, .int .i64 0, .string ⟨#[]⟩, .string na] #[.int .i64 3, .int .i64 m.book.epoch, .int .i64 m.now, .int .i64 0, .int .i64 ce, .int .i64 0, .string ⟨#[]⟩, .string na] rfl 72 G4.out.2.2.1 rfl (Nat.le_refl 8) (by kernel_rfl) (rec_one _ _ _ _ _ _ _ _) (splice_all _ _ rfl) ?_; rw [hWR])
    obtain ⟨⟨y0, y1, y2, y3, y4, y5, y6, y7⟩, -⟩ := blkR KE.out
    refine bodyPost_ret (v := .tuple #[.agg #[.int .i64 3, .int .i64 m.book.epoch, .int .i64 m.now, .int .i64 0, .int .i64 ce, .int .i64 0, .string ⟨#[]⟩, .string na], .int .i64 0]) (by simp [results, Tryz.results52, go_sem, y0, y1, y2, y3, y4, y5, y6, y7]) rfl ?_
    exact HR.out _ _ ⟨⟨3, m.book.epoch, m.now, 0, ce, 0, ⟨#[]⟩, na⟩, by rw [HZ.out] <;> rfl, fun _ => HR1.out.symm, BE.out⟩
set_option maxRecDepth 100000 in
set_option maxHeartbeats 8000000 in
theorem mmeans_release {n cc bn c mu mh mg : Nat} {rv vv : Value} {m : ModT} (cl : CallT) (ka : Option Addr) (kn kc : Nat) (w : World) (h : ModAt w n cc bn c mu mh mg rv vv m) (hk : cl.kind = 8) (hce : -9223372036854775808 ≤ cl.epoch ∧ cl.epoch ≤ 9223372036854775807) (hna : cl.name.size ≤ 9223372036854775807) :
    Calls Tryz.prog 52 #[.pointer (some ⟨n, 0, none⟩), callV cl ka kn kc] w fun e w' => ∃ r, e = .returned (.tuple #[recV r, .int .i64 (meansE m cl)]) ∧ (meansE m cl = 0 → r = meansR m cl) ∧ Below w.heap.size w w' := by
  refine calls_by fun R HR => ?_
  have HD := Lib.hid h
  have HCl := Lib.hid (fun w (h : ModAt w n cc bn c mu mh mg rv vv m) => mclosed_any cl.epoch w h)
  have HE := Lib.hid (fun w (h : ModAt w n cc bn c mu mh mg rv vv m) => bepoch_any w h.book)
  have HN := Lib.hid (fun w (h : ModAt w n cc bn c mu mh mg rv vv m) => cnow_any cc m.now w h.clk)
  have HU := Lib.hid (fun w (h : ModAt w n cc bn c mu mh mg rv vv m) => buntil_any cl.epoch w h.book hce)
  have HNm := Lib.hid (fun w => name_any cl.name w hna)
  have HZ0 : Hid (meansE m cl = if (cl.kind = 7 ∨ cl.kind = 8) ∧ nameB cl.name = false then 2 else if cl.kind ≠ 8 ∧ closedE m cl.epoch ≠ 0 then closedE m cl.epoch
    else if cl.kind = 6 ∧ (cl.time < 0 ∨ 1099511627776 < cl.time) then 2 else 0) := Lib.hid rfl
  have HR0 : Hid (meansR m cl = if cl.kind = 6 then ⟨2, m.book.epoch, m.now, 0, cl.epoch, cl.time, ⟨#[]⟩, ⟨#[]⟩⟩ else if cl.kind = 7 then ⟨3, m.book.epoch, m.now, 0, cl.epoch, 0, ⟨#[]⟩, cl.name⟩
    else if cl.kind = 8 then ⟨4, m.book.epoch, m.now, 0, 0, 0, ⟨#[]⟩, cl.name⟩ else ⟨5, m.book.epoch, m.now, 0, cl.epoch, tillN m.book cl.epoch, ⟨#[]⟩, ⟨#[]⟩⟩) := Lib.hid rfl
  generalize meansE m cl = ME at *
  generalize meansR m cl = MR at *
  generalize closedE m cl.epoch = CE at *
  generalize tillN m.book cl.epoch = TU at *
  obtain ⟨ki, lb, ce, ti, da, na⟩ := cl
  simp only at hk HCl HU HNm HZ0 HR0
  subst hk
  have HZn : Hid (nameB na = false → ME = 2) := Lib.hid fun q => by rw [HZ0.out]; simp [q]
  have HZc : Hid (nameB na = true → ME = 0) := Lib.hid fun q0 => by rw [HZ0.out]; simp [q0]
  have HR1 : Hid (MR = ⟨4, m.book.epoch, m.now, 0, 0, 0, ⟨#[]⟩, na⟩) := Lib.hid (by rw [HR0.out, if_neg (by decide), if_neg (by decide), if_pos rfl])
  clear h hce hna HZ0 HR0
  have H1 := Lib.hid (And.intro (Below.refl w.heap.size w) (HD.out))
  obtain ⟨W1, hW1⟩ : ∃ W1, w.alloc (.cells #[.int .i64 8, .int .i64 lb, .int .i64 ce, .int .i64 ti, .string da, .string na, .slice ka kn kc] 35) = W1 := ⟨_, rfl⟩
  have hbW1 : Below w.heap.size w W1 := by rw [← hW1]; exact alloc_below w _
  have kW1 : W1.heap[w.heap.size]? = some (.cells #[.int .i64 8, .int .i64 lb, .int .i64 ce, .int .i64 ti, .string da, .string na, .slice ka kn kc] 35 (0, 0)) := by rw [← hW1]; exact alloc_new w _
  have H2 := Lib.hid (And.intro (H1.out.1.trans (hbW1.mono H1.out.1.size)) (And.intro (H1.out.2.below hbW1) (kW1)))
  clear hbW1 kW1
  have s1 := Lib.hid (show w.heap.size < W1.heap.size from lt_of_block H2.out.2.2)
  obtain ⟨W2, hW2⟩ : ∃ W2, W1.alloc (.cells #[.int .i64 0, .int .i64 0, .int .i64 0, .int .i64 0, .int .i64 0, .int .i64 0, .string ⟨#[]⟩, .string ⟨#[]⟩] 72) = W2 := ⟨_, rfl⟩
  have hbW2 : Below W1.heap.size W1 W2 := by rw [← hW2]; exact alloc_below W1 _
  have kW2 : W2.heap[W1.heap.size]? = some (.cells #[.int .i64 0, .int .i64 0, .int .i64 0, .int .i64 0, .int .i64 0, .int .i64 0, .string ⟨#[]⟩, .string ⟨#[]⟩] 72 (0, 0)) := by rw [← hW2]; exact alloc_new W1 _
  have H3 := Lib.hid (And.intro (H2.out.1.trans (hbW2.mono H2.out.1.size)) (And.intro (H2.out.2.1.below hbW2) (And.intro (blk_on hbW2 H2.out.2.2) (kW2))))
  clear hbW2 kW2
  obtain ⟨⟨z0, z1, z2, z3, z4, z5, z6, z7⟩, -⟩ := blkR H3.out.2.1.blk
  go_enter Tryz.func52, Tryz.ntmps52
  go_upto_region 1 with fail
  clear hW1 hW2
  refine wp_region_mv (fun f => NewBlk W2.heap.size W2 #[.int .i64 0, .int .i64 0, .int .i64 0, .int .i64 0, .int .i64 0, .int .i64 0, .string ⟨#[]⟩, .string ⟨#[]⟩] #[.int .i64 0, .int .i64 m.book.epoch, .int .i64 m.now, .int .i64 0, .int .i64 0, .int .i64 0, .string ⟨#[]⟩, .string ⟨#[]⟩] 72 (f 11) (f 12)) (by kernel_rfl) (NewBlk.start (Below.refl _ _) (Nat.le_refl _)) ?_
  obtain ⟨S, F, hF, hFC⟩ := moved_class (fun f => NewBlk W2.heap.size W2 #[.int .i64 0, .int .i64 0, .int .i64 0, .int .i64 0, .int .i64 0, .int .i64 0, .string ⟨#[]⟩, .string ⟨#[]⟩] #[.int .i64 0, .int .i64 m.book.epoch, .int .i64 m.now, .int .i64 0, .int .i64 0, .int .i64 0, .string ⟨#[]⟩, .string ⟨#[]⟩] 72 (f 11) (f 12))
  have kz4 : ∀ s, (F s).cell? ⟨n, 4, none⟩ = some (.pointer (some ⟨cc, 0, none⟩)) := fun s => (cell_on (hFC s).choose_spec.b z4).1
  have kz5 : ∀ s, (F s).cell? ⟨n, 5, none⟩ = some (.pointer (some ⟨bn, 0, none⟩)) := fun s => (cell_on (hFC s).choose_spec.b z5).1
  have kz0 : ∀ s, (F s).cell? ⟨n, 0, none⟩ = some (.int .i64 m.geo.blocks) := fun s => (cell_on (hFC s).choose_spec.b z0).1
  show wpAnyM _ _ _ _ _ 13 (Array.replicate 13 false) _ _
  refine mv_read 0 hF (fun _ _ _ h => h) rfl (by kernel_rfl) (by kernel_rfl) (by kernel_rfl) (fun K hK => ?_)
  go_simp
  first | refine ⟨_, fun _ => rfl, hK _ _ ?_⟩ | refine hK _ _ ?_
  clear hK K
  refine mv_read 1 hF (fun _ _ _ h => h) rfl (by kernel_rfl) (by kernel_rfl) (by kernel_rfl) (fun K hK => ?_)
  go_simp
  first | refine ⟨_, fun _ => rfl, hK _ _ ?_⟩ | refine hK _ _ ?_
  clear hK K
  refine mv_read 2 hF (fun _ _ _ h => h) rfl (by kernel_rfl) (by kernel_rfl) (by kernel_rfl) (fun K hK => ?_)
  go_simp
  first | refine ⟨_, fun _ => rfl, hK _ _ ?_⟩ | refine hK _ _ ?_
  clear hK K
  refine mv_read 3 hF (fun _ _ _ h => h) rfl (by kernel_rfl) (by kernel_rfl) (by kernel_rfl) (fun K hK => ?_)
  go_simp
  first | refine ⟨_, fun _ => rfl, hK _ _ ?_⟩ | refine hK _ _ ?_
  clear hK K
  refine mv_call1 4 17 rfl (by kernel_rfl) (by kernel_rfl) (by kernel_rfl) rfl rfl eg_bepoch (args := #[.pointer (some ⟨bn, 0, none⟩)]) rfl (u := .int .i64 m.book.epoch) (fun g w9 _ _ h => ((HE.out w9 (H3.out.2.1.below h.b)).mono fun en w8 ⟨h1, h2⟩ => ⟨h1, by rw [h2]; exact h⟩)) ?_
  refine mv_read 5 hF (fun _ _ _ h => h) rfl (by kernel_rfl) (by kernel_rfl) (by kernel_rfl) (fun K hK => ?_)
  go_simp
  first | refine ⟨_, fun _ => rfl, hK _ _ ?_⟩ | refine hK _ _ ?_
  clear hK K
  refine mv_read 6 hF (fun _ _ _ h => h) rfl (by kernel_rfl) (by kernel_rfl) (by kernel_rfl) (fun K hK => ?_)
  go_simp
  first | refine ⟨_, fun _ => rfl, hK _ _ ?_⟩ | refine hK _ _ ?_
  clear hK K
  refine mv_read 7 hF (fun _ _ _ h => h) rfl (by kernel_rfl) (by kernel_rfl) (by kernel_rfl) (fun K hK => ?_)
  go_simp
  first | refine ⟨_, fun _ => rfl, hK _ _ ?_⟩ | refine hK _ _ ?_
  clear hK K
  refine mv_read 8 hF (fun _ _ _ h => h) rfl (by kernel_rfl) (by kernel_rfl) (by kernel_rfl) (fun K hK => ?_)
  go_simp
  first | refine ⟨_, fun _ => rfl, hK _ _ ?_⟩ | refine hK _ _ ?_
  clear hK K
  refine mv_call1 9 45 rfl (by kernel_rfl) (by kernel_rfl) (by kernel_rfl) rfl rfl eg_cnow (args := #[.pointer (some ⟨cc, 0, none⟩)]) rfl (u := .int .i64 m.now) (fun g w9 _ _ h => ((HN.out w9 (H3.out.2.1.below h.b)).mono fun en w8 ⟨h1, h2⟩ => ⟨h1, by rw [h2]; exact h⟩)) ?_
  refine mv_read 10 hF (fun _ _ _ h => h) rfl (by kernel_rfl) (by kernel_rfl) (by kernel_rfl) (fun K hK => ?_)
  go_simp
  first | refine ⟨_, fun _ => rfl, hK _ _ ?_⟩ | refine hK _ _ ?_
  clear hK K
  refine mv_alone 11 rfl (by kernel_rfl) rfl (fun v => ∃ b, v = .pointer (some ⟨b, 0, none⟩)) (fun g w9 _ h0 h D hD => ?_) ?_
  · have h9 := h
    simp only [h0] at h9
    have h8 := h9.made
    clear h h9
    go_simp
    exact hD _ _ ⟨_, rfl⟩ h8
  rintro _ ⟨vb, rfl⟩
  refine mv_store_blk 12 rfl (by kernel_rfl) rfl 72 (.tmp 6) (.tmp 18) rfl vb 0 #[.int .i64 0, .int .i64 m.book.epoch, .int .i64 m.now, .int .i64 0, .int .i64 0, .int .i64 0, .string ⟨#[]⟩, .string ⟨#[]⟩] rfl rfl (by kernel_rfl) (rec_one _ _ _ _ _ _ _ _) (fun g w9 ha h0 h => ?_) ?_
  · have e1 : g 11 = some (.pointer (some ⟨vb, 0, none⟩)) := (agree_on 11 ha (by kernel_rfl)).trans rfl
    have h9 := h
    simp only [e1, h0] at h9
    refine ⟨#[.int .i64 0, .int .i64 0, .int .i64 0, .int .i64 0, .int .i64 0, .int .i64 0, .string ⟨#[]⟩, .string ⟨#[]⟩], 72, h9.at.2, Nat.le_refl 8, ?_⟩
    rw [splice_all #[.int .i64 0, .int .i64 0, .int .i64 0, .int .i64 0, .int .i64 0, .int .i64 0, .string ⟨#[]⟩, .string ⟨#[]⟩] #[.int .i64 0, .int .i64 m.book.epoch, .int .i64 m.now, .int .i64 0, .int .i64 0, .int .i64 0, .string ⟨#[]⟩, .string ⟨#[]⟩] rfl]
    show NewBlk _ _ _ _ _ (g 11) (upd g 12 undef 12) _
    rw [upd_self, e1]
    exact h9.stored
  refine mv_end (by kernel_rfl) ?_
  intro q1 hq
  have HQ1 := Lib.hid (show Below W2.heap.size W2 q1 ∧ W2.heap.size ≤ vb ∧ q1.heap[vb]? = some (.cells #[.int .i64 0, .int .i64 m.book.epoch, .int .i64 m.now, .int .i64 0, .int .i64 0, .int .i64 0, .string ⟨#[]⟩, .string ⟨#[]⟩] 72 (0, 0)) from ⟨hq.b, (NewBlk.at (b := vb) hq).1, (NewBlk.at (b := vb) hq).2⟩)
  clear hq hF hFC kz0 kz4 kz5 z0 z1 z2 z3 z4 z5 z6 z7
  have s2 := Lib.hid (show W1.heap.size < W2.heap.size from lt_of_block H3.out.2.2.2)
  have HX := Lib.hid (show w.heap.size ≤ vb ∧ w.heap.size ≠ vb ∧ W1.heap.size ≠ vb by have := HQ1.out.2.1; have := s1.out; have := s2.out; omega)
  have G1 := Lib.hid (And.intro (H3.out.1.trans (HQ1.out.1.mono H3.out.1.size)) (And.intro (blk_on HQ1.out.1 H3.out.2.2.1) (And.intro (blk_on HQ1.out.1 H3.out.2.2.2) (HQ1.out.2.2))))
  clear HQ1
  obtain ⟨⟨x0, x1, x2, x3, x4, x5, x6, x7⟩, fx⟩ := blkR G1.out.2.2.2
  obtain ⟨a0, a1, a2, a3, a4, a5, a6⟩ := blk7c G1.out.2.1
  have fx0 := fx 0
  have fx4 := fx 4
  have fx5 := fx 5
  have fx7 := fx 7
  clear fx
  obtain ⟨P1, hP1⟩ : ∃ W, q1.setCell ⟨vb, 7, none⟩ (.string na) = W := ⟨_, rfl⟩
  have G2 := Lib.hid (And.intro (show Below w.heap.size w P1 by rw [← hP1]; exact G1.out.1.setCell (p := ⟨_, _, none⟩) HX.out.1 _) (And.intro (show P1.heap[w.heap.size]? = some (.cells #[.int .i64 8, .int .i64 lb, .int .i64 ce, .int .i64 ti, .string da, .string na, .slice ka kn kc] 35 (0, 0)) by rw [← hP1]; exact (set_ne _ HX.out.2.1).trans G1.out.2.1) (And.intro (show P1.heap[W1.heap.size]? = some (.cells #[.int .i64 0, .int .i64 0, .int .i64 0, .int .i64 0, .int .i64 0, .int .i64 0, .string ⟨#[]⟩, .string ⟨#[]⟩] 72 (0, 0)) by rw [← hP1]; exact (set_ne _ HX.out.2.2).trans G1.out.2.2.1) (show P1.heap[vb]? = some (.cells #[.int .i64 0, .int .i64 m.book.epoch, .int .i64 m.now, .int .i64 0, .int .i64 0, .int .i64 0, .string ⟨#[]⟩, .string na] 72 (0, 0)) by rw [← hP1]; exact set_blk G1.out.2.2.2 7 _))))
  go_upto_region 4 with fail
  try rw [hP1]
  clear hP1
  clear x0 x1 x2 x3 x4 x5 x6 x7 a0 a1 a2 a3 a4 a5 a6 fx0 fx4 fx5 fx7
  obtain ⟨⟨x0, x1, x2, x3, x4, x5, x6, x7⟩, fx⟩ := blkR G2.out.2.2.2
  obtain ⟨a0, a1, a2, a3, a4, a5, a6⟩ := blk7c G2.out.2.1
  have fx0 := fx 0
  have fx4 := fx 4
  have fx5 := fx 5
  have fx7 := fx 7
  clear fx
  go_wp2_with fail
  refine (HNm.out _).mono ?_
  rintro en y9 ⟨rfl, hw⟩
  rw [hw]
  clear hw y9
  clear x0 x1 x2 x3 x4 x5 x6 x7 a0 a1 a2 a3 a4 a5 a6 fx0 fx4 fx5 fx7
  cases hnm : nameB na with
  | false =>
    have HZ := Lib.hid (HZn.out hnm)
    obtain ⟨⟨x0, x1, x2, x3, x4, x5, x6, x7⟩, fx⟩ := blkR G2.out.2.2.2
    obtain ⟨a0, a1, a2, a3, a4, a5, a6⟩ := blk7c G2.out.2.1
    have fx0 := fx 0
    have fx4 := fx 4
    have fx5 := fx 5
    have fx7 := fx 7
    clear fx
    obtain ⟨WR, hWR⟩ : ∃ W, P1.setRow W1.heap.size #[.int .i64 0, .int .i64 m.book.epoch, .int .i64 m.now, .int .i64 0, .int .i64 0, .int .i64 0, .string ⟨#[]⟩, .string na] = W := ⟨_, rfl⟩
    have KE := Lib.hid (show WR.heap[W1.heap.size]? = some (.cells #[.int .i64 0, .int .i64 m.book.epoch, .int .i64 m.now, .int .i64 0, .int .i64 0, .int .i64 0, .string ⟨#[]⟩, .string na] 72 (0, 0)) by rw [← hWR]; exact setRow_heap P1 _ _ _ _ _ G2.out.2.2.1)
    have BE := Lib.hid (show Below w.heap.size w WR by rw [← hWR]; exact below_setRow G2.out.1 (Nat.le_of_lt s1.out) _)
    go_wp2_with (refine wpList_store_blk rfl 72 (.tmp 4) (.tmp 34) rfl W1.heap.size 0 8 rfl #[.int .i64 0, .int .i64 0, .int .i64 0, .int .i64 0, .int .i64 0, .int .i64 0, .string ⟨#[]⟩, .string ⟨#[]⟩] #[.int .i64 0, .int .i64 m.book.epoch, .int .i64 m.now, .int .i64 0, .int .i64 0, .int .i64 0, .string ⟨#[]⟩, .string na] #[.int .i64 0, .int .i64 m.book.epoch, .int .i64 m.now, .int .i64 0, .int .i64 0, .int .i64 0, .string ⟨#[]⟩, .string na] rfl 72 G2.out.2.2.1 rfl (Nat.le_refl 8) (by kernel_rfl) (rec_one _ _ _ _ _ _ _ _) (splice_all _ _ rfl) ?_; rw [hWR])
    obtain ⟨⟨y0, y1, y2, y3, y4, y5, y6, y7⟩, -⟩ := blkR KE.out
    refine bodyPost_ret (v := .tuple #[.agg #[.int .i64 0, .int .i64 m.book.epoch, .int .i64 m.now, .int .i64 0, .int .i64 0, .int .i64 0, .string ⟨#[]⟩, .string na], .int .i64 2]) (by simp [results, Tryz.results52, go_sem, y0, y1, y2, y3, y4, y5, y6, y7]) rfl ?_
    exact HR.out _ _ ⟨⟨0, m.book.epoch, m.now, 0, 0, 0, ⟨#[]⟩, na⟩, by rw [HZ.out] <;> rfl, fun q => absurd (HZ.out.symm.trans q) (by decide), BE.out⟩
  | true =>
    obtain ⟨⟨x0, x1, x2, x3, x4, x5, x6, x7⟩, fx⟩ := blkR G2.out.2.2.2
    obtain ⟨a0, a1, a2, a3, a4, a5, a6⟩ := blk7c G2.out.2.1
    have fx0 := fx 0
    have fx4 := fx 4
    have fx5 := fx 5
    have fx7 := fx 7
    clear fx
    obtain ⟨P2, hP2⟩ : ∃ W, P1.setCell ⟨vb, 0, none⟩ (.int .i64 4) = W := ⟨_, rfl⟩
    have G3 := Lib.hid (And.intro (show Below w.heap.size w P2 by rw [← hP2]; exact G2.out.1.setCell (p := ⟨_, _, none⟩) HX.out.1 _) (And.intro (show P2.heap[w.heap.size]? = some (.cells #[.int .i64 8, .int .i64 lb, .int .i64 ce, .int .i64 ti, .string da, .string na, .slice ka kn kc] 35 (0, 0)) by rw [← hP2]; exact (set_ne _ HX.out.2.1).trans G2.out.2.1) (And.intro (show P2.heap[W1.heap.size]? = some (.cells #[.int .i64 0, .int .i64 0, .int .i64 0, .int .i64 0, .int .i64 0, .int .i64 0, .string ⟨#[]⟩, .string ⟨#[]⟩] 72 (0, 0)) by rw [← hP2]; exact (set_ne _ HX.out.2.2).trans G2.out.2.2.1) (show P2.heap[vb]? = some (.cells #[.int .i64 4, .int .i64 m.book.epoch, .int .i64 m.now, .int .i64 0, .int .i64 0, .int .i64 0, .string ⟨#[]⟩, .string na] 72 (0, 0)) by rw [← hP2]; exact set_blk G2.out.2.2.2 0 _))))
    go_upto_region 21 with fail
    try rw [hP2]
    clear hP2
    clear x0 x1 x2 x3 x4 x5 x6 x7 a0 a1 a2 a3 a4 a5 a6 fx0 fx4 fx5 fx7
    have HZ := Lib.hid (HZc.out hnm)
    obtain ⟨⟨x0, x1, x2, x3, x4, x5, x6, x7⟩, fx⟩ := blkR G3.out.2.2.2
    obtain ⟨a0, a1, a2, a3, a4, a5, a6⟩ := blk7c G3.out.2.1
    have fx0 := fx 0
    have fx4 := fx 4
    have fx5 := fx 5
    have fx7 := fx 7
    clear fx
    obtain ⟨WR, hWR⟩ : ∃ W, P2.setRow W1.heap.size #[.int .i64 4, .int .i64 m.book.epoch, .int .i64 m.now, .int .i64 0, .int .i64 0, .int .i64 0, .string ⟨#[]⟩, .string na] = W := ⟨_, rfl⟩
    have KE := Lib.hid (show WR.heap[W1.heap.size]? = some (.cells #[.int .i64 4, .int .i64 m.book.epoch, .int .i64 m.now, .int .i64 0, .int .i64 0, .int .i64 0, .string ⟨#[]⟩, .string na] 72 (0, 0)) by rw [← hWR]; exact setRow_heap P2 _ _ _ _ _ G3.out.2.2.1)
    have BE := Lib.hid (show Below w.heap.size w WR by rw [← hWR]; exact below_setRow G3.out.1 (Nat.le_of_lt s1.out) _)
    go_wp2_with (refine wpList_store_blk rfl 72 (.tmp 4) (.tmp 81) rfl W1.heap.size 0 8 rfl #[.int .i64 0, .int .i64 0, .int .i64 0, .int .i64 0, .int .i64 0, .int .i64 0, .string ⟨#[]⟩, .string ⟨#[]⟩] #[.int .i64 4, .int .i64 m.book.epoch, .int .i64 m.now, .int .i64 0, .int .i64 0, .int .i64 0, .string ⟨#[]⟩, .string na] #[.int .i64 4, .int .i64 m.book.epoch, .int .i64 m.now, .int .i64 0, .int .i64 0, .int .i64 0, .string ⟨#[]⟩, .string na] rfl 72 G3.out.2.2.1 rfl (Nat.le_refl 8) (by kernel_rfl) (rec_one _ _ _ _ _ _ _ _) (splice_all _ _ rfl) ?_; rw [hWR])
    obtain ⟨⟨y0, y1, y2, y3, y4, y5, y6, y7⟩, -⟩ := blkR KE.out
    refine bodyPost_ret (v := .tuple #[.agg #[.int .i64 4, .int .i64 m.book.epoch, .int .i64 m.now, .int .i64 0, .int .i64 0, .int .i64 0, .string ⟨#[]⟩, .string na], .int .i64 0]) (by simp [results, Tryz.results52, go_sem, y0, y1, y2, y3, y4, y5, y6, y7]) rfl ?_
    exact HR.out _ _ ⟨⟨4, m.book.epoch, m.now, 0, 0, 0, ⟨#[]⟩, na⟩, by rw [HZ.out] <;> rfl, fun _ => HR1.out.symm, BE.out⟩
set_option maxRecDepth 100000 in
set_option maxHeartbeats 8000000 in
theorem mmeans_purge {n cc bn c mu mh mg : Nat} {rv vv : Value} {m : ModT} (cl : CallT) (ka : Option Addr) (kn kc : Nat) (w : World) (h : ModAt w n cc bn c mu mh mg rv vv m) (hk : cl.kind ≠ 6 ∧ cl.kind ≠ 7 ∧ cl.kind ≠ 8) (hce : -9223372036854775808 ≤ cl.epoch ∧ cl.epoch ≤ 9223372036854775807) (hna : cl.name.size ≤ 9223372036854775807) :
    Calls Tryz.prog 52 #[.pointer (some ⟨n, 0, none⟩), callV cl ka kn kc] w fun e w' => ∃ r, e = .returned (.tuple #[recV r, .int .i64 (meansE m cl)]) ∧ (meansE m cl = 0 → r = meansR m cl) ∧ Below w.heap.size w w' := by
  refine calls_by fun R HR => ?_
  have HD := Lib.hid h
  have HCl := Lib.hid (fun w (h : ModAt w n cc bn c mu mh mg rv vv m) => mclosed_any cl.epoch w h)
  have HE := Lib.hid (fun w (h : ModAt w n cc bn c mu mh mg rv vv m) => bepoch_any w h.book)
  have HN := Lib.hid (fun w (h : ModAt w n cc bn c mu mh mg rv vv m) => cnow_any cc m.now w h.clk)
  have HU := Lib.hid (fun w (h : ModAt w n cc bn c mu mh mg rv vv m) => buntil_any cl.epoch w h.book hce)
  have HNm := Lib.hid (fun w => name_any cl.name w hna)
  have HZ0 : Hid (meansE m cl = if (cl.kind = 7 ∨ cl.kind = 8) ∧ nameB cl.name = false then 2 else if cl.kind ≠ 8 ∧ closedE m cl.epoch ≠ 0 then closedE m cl.epoch
    else if cl.kind = 6 ∧ (cl.time < 0 ∨ 1099511627776 < cl.time) then 2 else 0) := Lib.hid rfl
  have HR0 : Hid (meansR m cl = if cl.kind = 6 then ⟨2, m.book.epoch, m.now, 0, cl.epoch, cl.time, ⟨#[]⟩, ⟨#[]⟩⟩ else if cl.kind = 7 then ⟨3, m.book.epoch, m.now, 0, cl.epoch, 0, ⟨#[]⟩, cl.name⟩
    else if cl.kind = 8 then ⟨4, m.book.epoch, m.now, 0, 0, 0, ⟨#[]⟩, cl.name⟩ else ⟨5, m.book.epoch, m.now, 0, cl.epoch, tillN m.book cl.epoch, ⟨#[]⟩, ⟨#[]⟩⟩) := Lib.hid rfl
  generalize meansE m cl = ME at *
  generalize meansR m cl = MR at *
  generalize closedE m cl.epoch = CE at *
  generalize tillN m.book cl.epoch = TU at *
  obtain ⟨ki, lb, ce, ti, da, na⟩ := cl
  simp only at hk HCl HU HNm HZ0 HR0
  obtain ⟨k6, k7, k8⟩ := hk
  have k6b : (ki == 6) = false := by simpa using k6
  have k7b : (ki == 7) = false := by simpa using k7
  have k8b : (ki == 8) = false := by simpa using k8
  have HZa : Hid (CE ≠ 0 → ME = CE) := Lib.hid fun q => by rw [HZ0.out]; simp [q, k7, k8]
  have HZc : Hid (CE = 0 → ME = 0) := Lib.hid fun q => by rw [HZ0.out]; simp [q, k6, k7, k8]
  have HR1 : Hid (MR = ⟨5, m.book.epoch, m.now, 0, ce, TU, ⟨#[]⟩, ⟨#[]⟩⟩) := Lib.hid (by rw [HR0.out, if_neg k6, if_neg k7, if_neg k8])
  clear h hce hna HZ0 HR0
  have H1 := Lib.hid (And.intro (Below.refl w.heap.size w) (HD.out))
  obtain ⟨W1, hW1⟩ : ∃ W1, w.alloc (.cells #[.int .i64 ki, .int .i64 lb, .int .i64 ce, .int .i64 ti, .string da, .string na, .slice ka kn kc] 35) = W1 := ⟨_, rfl⟩
  have hbW1 : Below w.heap.size w W1 := by rw [← hW1]; exact alloc_below w _
  have kW1 : W1.heap[w.heap.size]? = some (.cells #[.int .i64 ki, .int .i64 lb, .int .i64 ce, .int .i64 ti, .string da, .string na, .slice ka kn kc] 35 (0, 0)) := by rw [← hW1]; exact alloc_new w _
  have H2 := Lib.hid (And.intro (H1.out.1.trans (hbW1.mono H1.out.1.size)) (And.intro (H1.out.2.below hbW1) (kW1)))
  clear hbW1 kW1
  have s1 := Lib.hid (show w.heap.size < W1.heap.size from lt_of_block H2.out.2.2)
  obtain ⟨W2, hW2⟩ : ∃ W2, W1.alloc (.cells #[.int .i64 0, .int .i64 0, .int .i64 0, .int .i64 0, .int .i64 0, .int .i64 0, .string ⟨#[]⟩, .string ⟨#[]⟩] 72) = W2 := ⟨_, rfl⟩
  have hbW2 : Below W1.heap.size W1 W2 := by rw [← hW2]; exact alloc_below W1 _
  have kW2 : W2.heap[W1.heap.size]? = some (.cells #[.int .i64 0, .int .i64 0, .int .i64 0, .int .i64 0, .int .i64 0, .int .i64 0, .string ⟨#[]⟩, .string ⟨#[]⟩] 72 (0, 0)) := by rw [← hW2]; exact alloc_new W1 _
  have H3 := Lib.hid (And.intro (H2.out.1.trans (hbW2.mono H2.out.1.size)) (And.intro (H2.out.2.1.below hbW2) (And.intro (blk_on hbW2 H2.out.2.2) (kW2))))
  clear hbW2 kW2
  obtain ⟨⟨z0, z1, z2, z3, z4, z5, z6, z7⟩, -⟩ := blkR H3.out.2.1.blk
  go_enter Tryz.func52, Tryz.ntmps52
  go_upto_region 1 with fail
  clear hW1 hW2
  refine wp_region_mv (fun f => NewBlk W2.heap.size W2 #[.int .i64 0, .int .i64 0, .int .i64 0, .int .i64 0, .int .i64 0, .int .i64 0, .string ⟨#[]⟩, .string ⟨#[]⟩] #[.int .i64 0, .int .i64 m.book.epoch, .int .i64 m.now, .int .i64 0, .int .i64 0, .int .i64 0, .string ⟨#[]⟩, .string ⟨#[]⟩] 72 (f 11) (f 12)) (by kernel_rfl) (NewBlk.start (Below.refl _ _) (Nat.le_refl _)) ?_
  obtain ⟨S, F, hF, hFC⟩ := moved_class (fun f => NewBlk W2.heap.size W2 #[.int .i64 0, .int .i64 0, .int .i64 0, .int .i64 0, .int .i64 0, .int .i64 0, .string ⟨#[]⟩, .string ⟨#[]⟩] #[.int .i64 0, .int .i64 m.book.epoch, .int .i64 m.now, .int .i64 0, .int .i64 0, .int .i64 0, .string ⟨#[]⟩, .string ⟨#[]⟩] 72 (f 11) (f 12))
  have kz4 : ∀ s, (F s).cell? ⟨n, 4, none⟩ = some (.pointer (some ⟨cc, 0, none⟩)) := fun s => (cell_on (hFC s).choose_spec.b z4).1
  have kz5 : ∀ s, (F s).cell? ⟨n, 5, none⟩ = some (.pointer (some ⟨bn, 0, none⟩)) := fun s => (cell_on (hFC s).choose_spec.b z5).1
  have kz0 : ∀ s, (F s).cell? ⟨n, 0, none⟩ = some (.int .i64 m.geo.blocks) := fun s => (cell_on (hFC s).choose_spec.b z0).1
  show wpAnyM _ _ _ _ _ 13 (Array.replicate 13 false) _ _
  refine mv_read 0 hF (fun _ _ _ h => h) rfl (by kernel_rfl) (by kernel_rfl) (by kernel_rfl) (fun K hK => ?_)
  go_simp
  first | refine ⟨_, fun _ => rfl, hK _ _ ?_⟩ | refine hK _ _ ?_
  clear hK K
  refine mv_read 1 hF (fun _ _ _ h => h) rfl (by kernel_rfl) (by kernel_rfl) (by kernel_rfl) (fun K hK => ?_)
  go_simp
  first | refine ⟨_, fun _ => rfl, hK _ _ ?_⟩ | refine hK _ _ ?_
  clear hK K
  refine mv_read 2 hF (fun _ _ _ h => h) rfl (by kernel_rfl) (by kernel_rfl) (by kernel_rfl) (fun K hK => ?_)
  go_simp
  first | refine ⟨_, fun _ => rfl, hK _ _ ?_⟩ | refine hK _ _ ?_
  clear hK K
  refine mv_read 3 hF (fun _ _ _ h => h) rfl (by kernel_rfl) (by kernel_rfl) (by kernel_rfl) (fun K hK => ?_)
  go_simp
  first | refine ⟨_, fun _ => rfl, hK _ _ ?_⟩ | refine hK _ _ ?_
  clear hK K
  refine mv_call1 4 17 rfl (by kernel_rfl) (by kernel_rfl) (by kernel_rfl) rfl rfl eg_bepoch (args := #[.pointer (some ⟨bn, 0, none⟩)]) rfl (u := .int .i64 m.book.epoch) (fun g w9 _ _ h => ((HE.out w9 (H3.out.2.1.below h.b)).mono fun en w8 ⟨h1, h2⟩ => ⟨h1, by rw [h2]; exact h⟩)) ?_
  refine mv_read 5 hF (fun _ _ _ h => h) rfl (by kernel_rfl) (by kernel_rfl) (by kernel_rfl) (fun K hK => ?_)
  go_simp
  first | refine ⟨_, fun _ => rfl, hK _ _ ?_⟩ | refine hK _ _ ?_
  clear hK K
  refine mv_read 6 hF (fun _ _ _ h => h) rfl (by kernel_rfl) (by kernel_rfl) (by kernel_rfl) (fun K hK => ?_)
  go_simp
  first | refine ⟨_, fun _ => rfl, hK _ _ ?_⟩ | refine hK _ _ ?_
  clear hK K
  refine mv_read 7 hF (fun _ _ _ h => h) rfl (by kernel_rfl) (by kernel_rfl) (by kernel_rfl) (fun K hK => ?_)
  go_simp
  first | refine ⟨_, fun _ => rfl, hK _ _ ?_⟩ | refine hK _ _ ?_
  clear hK K
  refine mv_read 8 hF (fun _ _ _ h => h) rfl (by kernel_rfl) (by kernel_rfl) (by kernel_rfl) (fun K hK => ?_)
  go_simp
  first | refine ⟨_, fun _ => rfl, hK _ _ ?_⟩ | refine hK _ _ ?_
  clear hK K
  refine mv_call1 9 45 rfl (by kernel_rfl) (by kernel_rfl) (by kernel_rfl) rfl rfl eg_cnow (args := #[.pointer (some ⟨cc, 0, none⟩)]) rfl (u := .int .i64 m.now) (fun g w9 _ _ h => ((HN.out w9 (H3.out.2.1.below h.b)).mono fun en w8 ⟨h1, h2⟩ => ⟨h1, by rw [h2]; exact h⟩)) ?_
  refine mv_read 10 hF (fun _ _ _ h => h) rfl (by kernel_rfl) (by kernel_rfl) (by kernel_rfl) (fun K hK => ?_)
  go_simp
  first | refine ⟨_, fun _ => rfl, hK _ _ ?_⟩ | refine hK _ _ ?_
  clear hK K
  refine mv_alone 11 rfl (by kernel_rfl) rfl (fun v => ∃ b, v = .pointer (some ⟨b, 0, none⟩)) (fun g w9 _ h0 h D hD => ?_) ?_
  · have h9 := h
    simp only [h0] at h9
    have h8 := h9.made
    clear h h9
    go_simp
    exact hD _ _ ⟨_, rfl⟩ h8
  rintro _ ⟨vb, rfl⟩
  refine mv_store_blk 12 rfl (by kernel_rfl) rfl 72 (.tmp 6) (.tmp 18) rfl vb 0 #[.int .i64 0, .int .i64 m.book.epoch, .int .i64 m.now, .int .i64 0, .int .i64 0, .int .i64 0, .string ⟨#[]⟩, .string ⟨#[]⟩] rfl rfl (by kernel_rfl) (rec_one _ _ _ _ _ _ _ _) (fun g w9 ha h0 h => ?_) ?_
  · have e1 : g 11 = some (.pointer (some ⟨vb, 0, none⟩)) := (agree_on 11 ha (by kernel_rfl)).trans rfl
    have h9 := h
    simp only [e1, h0] at h9
    refine ⟨#[.int .i64 0, .int .i64 0, .int .i64 0, .int .i64 0, .int .i64 0, .int .i64 0, .string ⟨#[]⟩, .string ⟨#[]⟩], 72, h9.at.2, Nat.le_refl 8, ?_⟩
    rw [splice_all #[.int .i64 0, .int .i64 0, .int .i64 0, .int .i64 0, .int .i64 0, .int .i64 0, .string ⟨#[]⟩, .string ⟨#[]⟩] #[.int .i64 0, .int .i64 m.book.epoch, .int .i64 m.now, .int .i64 0, .int .i64 0, .int .i64 0, .string ⟨#[]⟩, .string ⟨#[]⟩] rfl]
    show NewBlk _ _ _ _ _ (g 11) (upd g 12 undef 12) _
    rw [upd_self, e1]
    exact h9.stored
  refine mv_end (by kernel_rfl) ?_
  intro q1 hq
  have HQ1 := Lib.hid (show Below W2.heap.size W2 q1 ∧ W2.heap.size ≤ vb ∧ q1.heap[vb]? = some (.cells #[.int .i64 0, .int .i64 m.book.epoch, .int .i64 m.now, .int .i64 0, .int .i64 0, .int .i64 0, .string ⟨#[]⟩, .string ⟨#[]⟩] 72 (0, 0)) from ⟨hq.b, (NewBlk.at (b := vb) hq).1, (NewBlk.at (b := vb) hq).2⟩)
  clear hq hF hFC kz0 kz4 kz5 z0 z1 z2 z3 z4 z5 z6 z7
  have s2 := Lib.hid (show W1.heap.size < W2.heap.size from lt_of_block H3.out.2.2.2)
  have HX := Lib.hid (show w.heap.size ≤ vb ∧ w.heap.size ≠ vb ∧ W1.heap.size ≠ vb by have := HQ1.out.2.1; have := s1.out; have := s2.out; omega)
  have G1 := Lib.hid (And.intro (H3.out.1.trans (HQ1.out.1.mono H3.out.1.size)) (And.intro (blk_on HQ1.out.1 H3.out.2.2.1) (And.intro (blk_on HQ1.out.1 H3.out.2.2.2) (HQ1.out.2.2))))
  clear HQ1
  have HXF := Lib.hid (show ∀ k, FM n cc bn c mu mh mg rv vv k → k ≠ vb from fun k q e => by have := HD.out.ltF k q; have := HX.out; omega)
  obtain ⟨⟨x0, x1, x2, x3, x4, x5, x6, x7⟩, fx⟩ := blkR G1.out.2.2.2
  obtain ⟨a0, a1, a2, a3, a4, a5, a6⟩ := blk7c G1.out.2.1
  have fx0 := fx 0
  have fx4 := fx 4
  have fx5 := fx 5
  have fx7 := fx 7
  clear fx
  go_wp2_with fail
  refine (HCl.out _ (HD.out.below G1.out.1)).mono ?_
  rintro en y9 ⟨rfl, hw⟩
  rw [hw]
  clear hw y9
  clear x0 x1 x2 x3 x4 x5 x6 x7 a0 a1 a2 a3 a4 a5 a6 fx0 fx4 fx5 fx7
  by_cases hcz : CE = 0
  case neg =>
    have hcb : (CE != 0) = true := by simpa using hcz
    have HZ := Lib.hid (HZa.out hcz)
    have hME : ME ≠ 0 := by rw [HZ.out]; exact hcz
    have HME := Lib.hid hME
    clear hME
    obtain ⟨⟨x0, x1, x2, x3, x4, x5, x6, x7⟩, fx⟩ := blkR G1.out.2.2.2
    obtain ⟨a0, a1, a2, a3, a4, a5, a6⟩ := blk7c G1.out.2.1
    have fx0 := fx 0
    have fx4 := fx 4
    have fx5 := fx 5
    have fx7 := fx 7
    clear fx
    obtain ⟨WR, hWR⟩ : ∃ W, q1.setRow W1.heap.size #[.int .i64 0, .int .i64 m.book.epoch, .int .i64 m.now, .int .i64 0, .int .i64 0, .int .i64 0, .string ⟨#[]⟩, .string ⟨#[]⟩] = W := ⟨_, rfl⟩
    have KE := Lib.hid (show WR.heap[W1.heap.size]? = some (.cells #[.int .i64 0, .int .i64 m.book.epoch, .int .i64 m.now, .int .i64 0, .int .i64 0, .int .i64 0, .string ⟨#[]⟩, .string ⟨#[]⟩] 72 (0, 0)) by rw [← hWR]; exact setRow_heap q1 _ _ _ _ _ G1.out.2.2.1)
    have BE := Lib.hid (show Below w.heap.size w WR by rw [← hWR]; exact below_setRow G1.out.1 (Nat.le_of_lt s1.out) _)
    go_wp2_with (refine wpList_store_blk rfl 72 (.tmp 4) (.tmp 44) rfl W1.heap.size 0 8 rfl #[.int .i64 0, .int .i64 0, .int .i64 0, .int .i64 0, .int .i64 0, .int .i64 0, .string ⟨#[]⟩, .string ⟨#[]⟩] #[.int .i64 0, .int .i64 m.book.epoch, .int .i64 m.now, .int .i64 0, .int .i64 0, .int .i64 0, .string ⟨#[]⟩, .string ⟨#[]⟩] #[.int .i64 0, .int .i64 m.book.epoch, .int .i64 m.now, .int .i64 0, .int .i64 0, .int .i64 0, .string ⟨#[]⟩, .string ⟨#[]⟩] rfl 72 G1.out.2.2.1 rfl (Nat.le_refl 8) (by kernel_rfl) (rec_one _ _ _ _ _ _ _ _) (splice_all _ _ rfl) ?_; rw [hWR])
    obtain ⟨⟨y0, y1, y2, y3, y4, y5, y6, y7⟩, -⟩ := blkR KE.out
    refine bodyPost_ret (v := .tuple #[.agg #[.int .i64 0, .int .i64 m.book.epoch, .int .i64 m.now, .int .i64 0, .int .i64 0, .int .i64 0, .string ⟨#[]⟩, .string ⟨#[]⟩], .int .i64 CE]) (by simp [results, Tryz.results52, go_sem, y0, y1, y2, y3, y4, y5, y6, y7]) rfl ?_
    exact HR.out _ _ ⟨⟨0, m.book.epoch, m.now, 0, 0, 0, ⟨#[]⟩, ⟨#[]⟩⟩, by rw [HZ.out] <;> rfl, fun q => absurd q HME.out, BE.out⟩
  subst hcz
  obtain ⟨⟨x0, x1, x2, x3, x4, x5, x6, x7⟩, fx⟩ := blkR G1.out.2.2.2
  obtain ⟨a0, a1, a2, a3, a4, a5, a6⟩ := blk7c G1.out.2.1
  have fx0 := fx 0
  have fx4 := fx 4
  have fx5 := fx 5
  have fx7 := fx 7
  clear fx
  obtain ⟨P1, hP1⟩ : ∃ W, q1.setCell ⟨vb, 4, none⟩ (.int .i64 ce) = W := ⟨_, rfl⟩
  have G2 := Lib.hid (And.intro (show Below w.heap.size w P1 by rw [← hP1]; exact G1.out.1.setCell (p := ⟨_, _, none⟩) HX.out.1 _) (And.intro (show P1.heap[w.heap.size]? = some (.cells #[.int .i64 ki, .int .i64 lb, .int .i64 ce, .int .i64 ti, .string da, .string na, .slice ka kn kc] 35 (0, 0)) by rw [← hP1]; exact (set_ne _ HX.out.2.1).trans G1.out.2.1) (And.intro (show P1.heap[W1.heap.size]? = some (.cells #[.int .i64 0, .int .i64 0, .int .i64 0, .int .i64 0, .int .i64 0, .int .i64 0, .string ⟨#[]⟩, .string ⟨#[]⟩] 72 (0, 0)) by rw [← hP1]; exact (set_ne _ HX.out.2.2).trans G1.out.2.2.1) (show P1.heap[vb]? = some (.cells #[.int .i64 0, .int .i64 m.book.epoch, .int .i64 m.now, .int .i64 0, .int .i64 ce, .int .i64 0, .string ⟨#[]⟩, .string ⟨#[]⟩] 72 (0, 0)) by rw [← hP1]; exact set_blk G1.out.2.2.2 4 _))))
  go_upto_region 11 with fail
  try rw [hP1]
  clear hP1
  clear x0 x1 x2 x3 x4 x5 x6 x7 a0 a1 a2 a3 a4 a5 a6 fx0 fx4 fx5 fx7
  obtain ⟨⟨x0, x1, x2, x3, x4, x5, x6, x7⟩, fx⟩ := blkR G2.out.2.2.2
  obtain ⟨a0, a1, a2, a3, a4, a5, a6⟩ := blk7c G2.out.2.1
  have fx0 := fx 0
  have fx4 := fx 4
  have fx5 := fx 5
  have fx7 := fx 7
  clear fx
  obtain ⟨⟨z0, z1, z2, z3, z4, z5, z6, z7⟩, -⟩ := blkR (HD.out.below G2.out.1).blk
  go_upto_region 12 with fail
  refine wp_region_mv (fun f => SetTwo P1 vb 0 5 (.int .i64 5) (.int .i64 TU) (f 8) (f 10)) (by kernel_rfl) SetTwo.start ?_
  obtain ⟨S, F, hF, hFC⟩ := moved_class (fun f => SetTwo P1 vb 0 5 (.int .i64 5) (.int .i64 TU) (f 8) (f 10))
  have ka2 : ∀ s, (F s).cell? ⟨w.heap.size, 2, none⟩ = some (.int .i64 ce) := fun s => (hFC s).choose_spec.cell (HX.out.2.1) a2
  have kz5 : ∀ s, (F s).cell? ⟨n, 5, none⟩ = some (.pointer (some ⟨bn, 0, none⟩)) := fun s => (hFC s).choose_spec.cell (HXF.out n (Or.inl rfl)) z5
  have kz0 : ∀ s, (F s).cell? ⟨n, 0, none⟩ = some (.int .i64 m.geo.blocks) := fun s => (hFC s).choose_spec.cell (HXF.out n (Or.inl rfl)) z0
  show wpAnyM _ _ _ _ _ 11 (Array.replicate 11 false) _ _
  refine mv_read 0 hF (fun _ _ _ h => h) rfl (by kernel_rfl) (by kernel_rfl) (by kernel_rfl) (fun K hK => ?_)
  go_simp
  first | refine ⟨_, fun _ => rfl, hK _ _ ?_⟩ | refine hK _ _ ?_
  clear hK K
  refine mv_read 1 hF (fun _ _ _ h => h) rfl (by kernel_rfl) (by kernel_rfl) (by kernel_rfl) (fun K hK => ?_)
  go_simp
  first | refine ⟨_, fun _ => rfl, hK _ _ ?_⟩ | refine hK _ _ ?_
  clear hK K
  refine mv_read 2 hF (fun _ _ _ h => h) rfl (by kernel_rfl) (by kernel_rfl) (by kernel_rfl) (fun K hK => ?_)
  go_simp
  first | refine ⟨_, fun _ => rfl, hK _ _ ?_⟩ | refine hK _ _ ?_
  clear hK K
  refine mv_read 3 hF (fun _ _ _ h => h) rfl (by kernel_rfl) (by kernel_rfl) (by kernel_rfl) (fun K hK => ?_)
  go_simp
  first | refine ⟨_, fun _ => rfl, hK _ _ ?_⟩ | refine hK _ _ ?_
  clear hK K
  refine mv_read 4 hF (fun _ _ _ h => h) rfl (by kernel_rfl) (by kernel_rfl) (by kernel_rfl) (fun K hK => ?_)
  go_simp
  first | refine ⟨_, fun _ => rfl, hK _ _ ?_⟩ | refine hK _ _ ?_
  clear hK K
  refine mv_read 5 hF (fun _ _ _ h => h) rfl (by kernel_rfl) (by kernel_rfl) (by kernel_rfl) (fun K hK => ?_)
  go_simp
  first | refine ⟨_, fun _ => rfl, hK _ _ ?_⟩ | refine hK _ _ ?_
  clear hK K
  refine mv_call1 6 73 rfl (by kernel_rfl) (by kernel_rfl) (by kernel_rfl) rfl rfl eg_buntil (args := #[.pointer (some ⟨bn, 0, none⟩), .int .i64 ce]) rfl (u := .int .i64 TU) (fun g w9 _ _ h => (HU.out w9 ((HD.out.below G2.out.1).sameF (fun k q => setTwo_heap h (HXF.out k q)))).mono fun en w8 ⟨h1, h2⟩ => ⟨h1, by rw [h2]; exact h⟩) ?_
  refine mv_read 7 hF (fun _ _ _ h => h) rfl (by kernel_rfl) (by kernel_rfl) (by kernel_rfl) (fun K hK => ?_)
  go_simp
  first | refine ⟨_, fun _ => rfl, hK _ _ ?_⟩ | refine hK _ _ ?_
  clear hK K
  refine mv_alone 8 rfl (by kernel_rfl) rfl (fun _ => True) (fun g w9 ha h0 h D hD => ?_) ?_
  · simp only [h0] at h
    obtain ⟨hw9, h8⟩ := h.one
    have q1 : w9.cell? ⟨vb, 0, none⟩ = some (.int .i64 0) := by rw [hw9]; exact x0
    have q2 : w9.frozen? ⟨vb, 0, none⟩ = false := by rw [hw9]; exact fx0
    have hD2 := hD undef _ trivial (show SetTwo _ _ _ _ _ _ (upd g 8 undef 8) _ _ by rw [upd_self]; exact h8)
    clear hD h h8 hw9
    go_simp
    exact hD2
  rintro u1 -
  refine mv_read 9 hF (fun _ _ _ h => h) rfl (by kernel_rfl) (by kernel_rfl) (by kernel_rfl) (fun K hK => ?_)
  go_simp
  first | refine ⟨_, fun _ => rfl, hK _ _ ?_⟩ | refine hK _ _ ?_
  clear hK K
  refine mv_alone 10 rfl (by kernel_rfl) rfl (fun _ => True) (fun g w9 ha h0 h D hD => ?_) ?_
  · have e1 : g 8 = some u1 := by have e := agree_on 8 ha (by kernel_rfl); exact e.trans rfl
    simp only [h0, e1] at h
    obtain ⟨hw9, h8⟩ := h.two (fun e => by cases e)
    have q1 : w9.cell? ⟨vb, 5, none⟩ = some (.int .i64 0) := by rw [hw9]; exact cell_off (ad := ⟨vb, 5, none⟩) rfl (by show (5 : Nat) ≠ 0; decide) x5
    have q2 : w9.frozen? ⟨vb, 5, none⟩ = false := by rw [hw9, World.frozen?_setCell]; exact fx5
    have hD2 := hD undef _ trivial (show SetTwo _ _ _ _ _ _ (g 8) (upd g 10 undef 10) _ by rw [upd_self, e1]; exact h8)
    clear hD h h8 hw9
    go_simp
    exact hD2
  rintro u2 -
  refine mv_end (by kernel_rfl) ?_
  intro P2 hq
  have hq2 := SetTwo.both (x := u1) (y := u2) hq
  have G3 := Lib.hid (And.intro (show Below w.heap.size w P2 by rw [hq2]; exact ((G2.out.1.trans ((drew_below _).mono G2.out.1.size)).setCell (p := ⟨_, _, none⟩) HX.out.1 _).setCell (p := ⟨_, _, none⟩) HX.out.1 _) (And.intro (show P2.heap[w.heap.size]? = some (.cells #[.int .i64 ki, .int .i64 lb, .int .i64 ce, .int .i64 ti, .string da, .string na, .slice ka kn kc] 35 (0, 0)) by rw [hq2]; exact (set_ne _ HX.out.2.1).trans ((set_ne _ HX.out.2.1).trans G2.out.2.1)) (And.intro (show P2.heap[W1.heap.size]? = some (.cells #[.int .i64 0, .int .i64 0, .int .i64 0, .int .i64 0, .int .i64 0, .int .i64 0, .string ⟨#[]⟩, .string ⟨#[]⟩] 72 (0, 0)) by rw [hq2]; exact (set_ne _ HX.out.2.2).trans ((set_ne _ HX.out.2.2).trans G2.out.2.2.1)) (show P2.heap[vb]? = some (.cells #[.int .i64 5, .int .i64 m.book.epoch, .int .i64 m.now, .int .i64 0, .int .i64 ce, .int .i64 TU, .string ⟨#[]⟩, .string ⟨#[]⟩] 72 (0, 0)) by rw [hq2]; exact set_blk (set_blk (w := P1.drew) G2.out.2.2.2 0 _) 5 _))))
  clear hq hq2 hF hFC z0 z1 z2 z3 z4 z5 z6 z7 ka2 kz5 kz0
  clear x0 x1 x2 x3 x4 x5 x6 x7 a0 a1 a2 a3 a4 a5 a6 fx0 fx4 fx5 fx7
  have HZ := Lib.hid (HZc.out (by trivial))
  obtain ⟨⟨x0, x1, x2, x3, x4, x5, x6, x7⟩, fx⟩ := blkR G3.out.2.2.2
  obtain ⟨a0, a1, a2, a3, a4, a5, a6⟩ := blk7c G3.out.2.1
  have fx0 := fx 0
  have fx4 := fx 4
  have fx5 := fx 5
  have fx7 := fx 7
  clear fx
  obtain ⟨WR, hWR⟩ : ∃ W, P2.setRow W1.heap.size #[.int .i64 5, .int .i64 m.book.epoch, .int .i64 m.now, .int .i64 0, .int .i64 ce, .int .i64 TU, .string ⟨#[]⟩, .string ⟨#[]⟩] = W := ⟨_, rfl⟩
  have KE := Lib.hid (show WR.heap[W1.heap.size]? = some (.cells #[.int .i64 5, .int .i64 m.book.epoch, .int .i64 m.now, .int .i64 0, .int .i64 ce, .int .i64 TU, .string ⟨#[]⟩, .string ⟨#[]⟩] 72 (0, 0)) by rw [← hWR]; exact setRow_heap P2 _ _ _ _ _ G3.out.2.2.1)
  have BE := Lib.hid (show Below w.heap.size w WR by rw [← hWR]; exact below_setRow G3.out.1 (Nat.le_of_lt s1.out) _)
  go_wp2_with (refine wpList_store_blk rfl 72 (.tmp 4) (.tmp 81) rfl W1.heap.size 0 8 rfl #[.int .i64 0, .int .i64 0, .int .i64 0, .int .i64 0, .int .i64 0, .int .i64 0, .string ⟨#[]⟩, .string ⟨#[]⟩] #[.int .i64 5, .int .i64 m.book.epoch, .int .i64 m.now, .int .i64 0, .int .i64 ce, .int .i64 TU, .string ⟨#[]⟩, .string ⟨#[]⟩] #[.int .i64 5, .int .i64 m.book.epoch, .int .i64 m.now, .int .i64 0, .int .i64 ce, .int .i64 TU, .string ⟨#[]⟩, .string ⟨#[]⟩] rfl 72 G3.out.2.2.1 rfl (Nat.le_refl 8) (by kernel_rfl) (rec_one _ _ _ _ _ _ _ _) (splice_all _ _ rfl) ?_; rw [hWR])
  obtain ⟨⟨y0, y1, y2, y3, y4, y5, y6, y7⟩, -⟩ := blkR KE.out
  refine bodyPost_ret (v := .tuple #[.agg #[.int .i64 5, .int .i64 m.book.epoch, .int .i64 m.now, .int .i64 0, .int .i64 ce, .int .i64 TU, .string ⟨#[]⟩, .string ⟨#[]⟩], .int .i64 0]) (by simp [results, Tryz.results52, go_sem, y0, y1, y2, y3, y4, y5, y6, y7]) rfl ?_
  exact HR.out _ _ ⟨⟨5, m.book.epoch, m.now, 0, ce, TU, ⟨#[]⟩, ⟨#[]⟩⟩, by rw [HZ.out] <;> rfl, fun _ => HR1.out.symm, BE.out⟩
theorem mmeans_any {n cc bn c mu mh mg : Nat} {rv vv : Value} {m : ModT} (cl : CallT) (ka : Option Addr) (kn kc : Nat) (w : World) (h : ModAt w n cc bn c mu mh mg rv vv m) (hce : -9223372036854775808 ≤ cl.epoch ∧ cl.epoch ≤ 9223372036854775807) (hna : cl.name.size ≤ 9223372036854775807) :
    Calls Tryz.prog 52 #[.pointer (some ⟨n, 0, none⟩), callV cl ka kn kc] w fun e w' => ∃ r, e = .returned (.tuple #[recV r, .int .i64 (meansE m cl)]) ∧ (meansE m cl = 0 → r = meansR m cl) ∧ Below w.heap.size w w' := by
  by_cases k6 : cl.kind = 6
  · exact mmeans_retain cl ka kn kc w h k6 hce hna
  by_cases k7 : cl.kind = 7
  · exact mmeans_hold cl ka kn kc w h k7 hce hna
  by_cases k8 : cl.kind = 8
  · exact mmeans_release cl ka kn kc w h k8 hce hna
  exact mmeans_purge cl ka kn kc w h ⟨k6, k7, k8⟩ hce hna
end Go.Proofs.YtnkiokaeooopgaaGreat
