/- Texts that the claim rests on, part 7: BookMay, BookApply, BookNew, GeoMod, ModObj, SeqFull. -/
import Derived.Test.YtnkiokaeooopgaaGreatProg
import Derived.Deep.DeepCutAuto
import Derived.ArgAppend
import Derived.Test.YtnkiokaeooopgaaGreatM6
/- Why a record can't be applied: of the program. -/
set_option maxRecDepth 100000
namespace Go.Proofs.YtnkiokaeooopgaaGreat
open Go.RowKit Ks Go.Maps
set_option linter.unusedVariables false
set_option linter.unusedSimpArgs false
theorem holds_look {w : World} {n c mu mh mg : Nat} {b : BookT} (h : BookAt w n c mu mh mg b) (s : ByteArray) (hs : s.size ≤ maxLen) :
    (Instr.lookup 84 (.map (some mh)) (.string s) true).run Tryz.prog w = .ok (.tuple #[.int .i64 ((Ks.look b.holds s).getD 0), .bool (Ks.look b.holds s).isSome]) w := by
  have := h.holds.look strKey Tryz.underlying84 (zeroI w) (siKV_ok hs) true
  rw [show lookV siKV.val (.int .i64 0) true (Ks.look b.holds s) = .tuple #[.int .i64 ((Ks.look b.holds s).getD 0), .bool (Ks.look b.holds s).isSome] by cases Ks.look b.holds s <;> rfl] at this
  exact this
theorem till_look {w : World} {n c mu mh mg : Nat} {b : BookT} (h : BookAt w n c mu mh mg b) (t : Int) (ht : -9223372036854775808 ≤ t ∧ t ≤ 9223372036854775807) :
    (Instr.lookup 83 (.map (some mu)) (.int .i64 t) false).run Tryz.prog w = .ok (.int .i64 (tillN b t)) w := by
  have := h.till.look intKey Tryz.underlying83 (zeroI w) (iiKV_ok ht) false
  rw [till_v] at this
  exact this
theorem gone_look {w : World} {n c mu mh mg : Nat} {b : BookT} (h : BookAt w n c mu mh mg b) (t : Int) (ht : -9223372036854775808 ≤ t ∧ t ≤ 9223372036854775807) :
    (Instr.lookup 85 (.map (some mg)) (.int .i64 t) false).run Tryz.prog w = .ok (.bool (goneB b t)) w := by
  have := h.gone.look intKey Tryz.underlying85 (zeroB w) (ibKV_ok ht) false
  rw [gone_v] at this
  exact this
/-- a record that a call may be handed -/
def fitRec (r : RecT) : Prop := (-9223372036854775808 ≤ r.target ∧ r.target ≤ 9223372036854775807) ∧ r.name.size ≤ maxLen
set_option maxRecDepth 100000 in
set_option maxHeartbeats 4000000 in
theorem btarget_any {n c mu mh mg : Nat} {b : BookT} (r : RecT) (w : World) (h : BookAt w n c mu mh mg b) (hf : fitRec r)  :
    Calls Tryz.prog 76 #[.pointer (some ⟨n, 0, none⟩), recV r] w fun e w' => e = .returned (.int .i64 (targetE b r)) ∧ Below w.heap.size w w' := by
  refine calls_by fun R HR => ?_
  have HD := Lib.hid h
  have HF := Lib.hid hf
  have HZ0 : Hid (targetE b r = if r.kind = 1 then 0 else if r.kind = 4 then (if (Ks.look b.holds r.name).isSome then 0 else 7) else if r.target < b.first then 7 else if goneB b r.target then 13 else 0) := Lib.hid rfl
  generalize targetE b r = TE at *
  obtain ⟨kd, ep, tm, ct, tg, un, rt, nm⟩ := r
  simp only at HZ0
  clear h hf
  have H1 := Lib.hid (And.intro (Below.refl w.heap.size w) (HD.out))
  obtain ⟨W1, hW1⟩ : ∃ W1, w.alloc (.cells #[.int .i64 kd, .int .i64 ep, .int .i64 tm, .int .i64 ct, .int .i64 tg, .int .i64 un, .string rt, .string nm] 72) = W1 := ⟨_, rfl⟩
  have hbW1 : Below w.heap.size w W1 := by rw [← hW1]; exact alloc_below w _
  have kW1 : W1.heap[w.heap.size]? = some (.cells #[.int .i64 kd, .int .i64 ep, .int .i64 tm, .int .i64 ct, .int .i64 tg, .int .i64 un, .string rt, .string nm] 72 (0, 0)) := by rw [← hW1]; exact alloc_new w _
  have H2 := Lib.hid (And.intro (H1.out.1.trans (hbW1.mono H1.out.1.size)) (And.intro (H1.out.2.below hbW1) (kW1)))
  clear hbW1 kW1
  obtain ⟨⟨z0, z1, z2, z3, z4, z5⟩, -⟩ := blk6 H2.out.2.1.blk
  obtain ⟨⟨r0, r1, r2, r3, r4, r5, r6, r7⟩, -⟩ := blkR H2.out.2.2
  go_enter Tryz.func76, Tryz.ntmps76
  go_wp2_with fail
  have gr0 := fun p => after_cell r0 p
  have gr1 := fun p => after_cell r1 p
  have gr2 := fun p => after_cell r2 p
  have gr3 := fun p => after_cell r3 p
  have gr4 := fun p => after_cell r4 p
  have gr5 := fun p => after_cell r5 p
  have gr6 := fun p => after_cell r6 p
  have gr7 := fun p => after_cell r7 p
  have gz0 := fun p => after_cell z0 p
  have gz1 := fun p => after_cell z1 p
  have gz2 := fun p => after_cell z2 p
  have gz3 := fun p => after_cell z3 p
  have gz4 := fun p => after_cell z4 p
  have gz5 := fun p => after_cell z5 p
  have hl0 := fun p => holds_look (H2.out.2.1.below (after_below W1 p)) nm HF.out.2
  refine wp_region_after (by kernel_rfl) (by kernel_rfl) ?_
  repeat (go_big_quiet_step (fail))
  refine wpQuiet_nil ?_
  rintro q1 ⟨p9, rfl⟩
  have hb := after_below W1 p9
  have H3 := Lib.hid (And.intro (H2.out.1.trans (hb.mono H2.out.1.size)) (And.intro (H2.out.2.1.below hb) (blk_on hb H2.out.2.2)))
  generalize After W1 p9 = q1 at *
  clear hb gr0 gr1 gr2 gr3 gr4 gr5 gr6 gr7 gz0 gz1 gz2 gz3 gz4 gz5 hl0 
  clear r0 r1 r2 r3 r4 r5 r6 r7 z0 z1 z2 z3 z4 z5
  generalize (Ks.look b.holds nm).isSome = IS at *
  obtain ⟨⟨z0, z1, z2, z3, z4, z5⟩, -⟩ := blk6 H3.out.2.1.blk
  obtain ⟨⟨r0, r1, r2, r3, r4, r5, r6, r7⟩, -⟩ := blkR H3.out.2.2
  by_cases k1 : kd = 1
  · subst k1
    have HZ := Lib.hid (show TE = 0 by rw [HZ0.out]; simp [])
    go_wp2
    exact HR.out _ _ ⟨by rw [HZ.out]; try rfl, H3.out.1⟩
  have hk1 : (kd == 1) = false := by simpa using k1
  by_cases k4 : kd = 4
  · subst k4
    cases IS with
    | true =>
      have HZ := Lib.hid (show TE = 0 by rw [HZ0.out]; simp [])
      go_wp2
      exact HR.out _ _ ⟨by rw [HZ.out]; try rfl, H3.out.1⟩
    | false =>
      have HZ := Lib.hid (show TE = 7 by rw [HZ0.out]; simp [])
      go_wp2
      exact HR.out _ _ ⟨by rw [HZ.out]; try rfl, H3.out.1⟩
  have hk4 : (kd == 4) = false := by simpa using k4
  by_cases hf1 : tg < b.first
  · have HZ := Lib.hid (show TE = 7 by rw [HZ0.out]; simp [k1, k4, hf1])
    go_wp2_with fail
    have gr0 := fun p => after_cell r0 p
    have gr1 := fun p => after_cell r1 p
    have gr2 := fun p => after_cell r2 p
    have gr3 := fun p => after_cell r3 p
    have gr4 := fun p => after_cell r4 p
    have gr5 := fun p => after_cell r5 p
    have gr6 := fun p => after_cell r6 p
    have gr7 := fun p => after_cell r7 p
    have gz0 := fun p => after_cell z0 p
    have gz1 := fun p => after_cell z1 p
    have gz2 := fun p => after_cell z2 p
    have gz3 := fun p => after_cell z3 p
    have gz4 := fun p => after_cell z4 p
    have gz5 := fun p => after_cell z5 p
    refine wp_region_after (by kernel_rfl) (by kernel_rfl) ?_
    repeat (go_big_quiet_step (fail))
    refine wpQuiet_nil ?_
    rintro q2 ⟨p9, rfl⟩
    have hb := after_below q1 p9
    have H4 := Lib.hid (And.intro (H3.out.1.trans (hb.mono H3.out.1.size)) (And.intro (H3.out.2.1.below hb) (blk_on hb H3.out.2.2)))
    generalize After q1 p9 = q2 at *
    clear hb gr0 gr1 gr2 gr3 gr4 gr5 gr6 gr7 gz0 gz1 gz2 gz3 gz4 gz5  
    clear r0 r1 r2 r3 r4 r5 r6 r7 z0 z1 z2 z3 z4 z5
    go_wp2
    exact HR.out _ _ ⟨by rw [HZ.out]; try rfl, H4.out.1⟩
  have HZ1 := Lib.hid (show TE = if goneB b tg then 13 else 0 by rw [HZ0.out]; simp [k1, k4, hf1])
  go_wp2_with fail
  have gr0 := fun p => after_cell r0 p
  have gr1 := fun p => after_cell r1 p
  have gr2 := fun p => after_cell r2 p
  have gr3 := fun p => after_cell r3 p
  have gr4 := fun p => after_cell r4 p
  have gr5 := fun p => after_cell r5 p
  have gr6 := fun p => after_cell r6 p
  have gr7 := fun p => after_cell r7 p
  have gz0 := fun p => after_cell z0 p
  have gz1 := fun p => after_cell z1 p
  have gz2 := fun p => after_cell z2 p
  have gz3 := fun p => after_cell z3 p
  have gz4 := fun p => after_cell z4 p
  have gz5 := fun p => after_cell z5 p
  refine wp_region_after (by kernel_rfl) (by kernel_rfl) ?_
  repeat (go_big_quiet_step (fail))
  refine wpQuiet_nil ?_
  rintro q2 ⟨p9, rfl⟩
  have hb := after_below q1 p9
  have H4 := Lib.hid (And.intro (H3.out.1.trans (hb.mono H3.out.1.size)) (And.intro (H3.out.2.1.below hb) (blk_on hb H3.out.2.2)))
  generalize After q1 p9 = q2 at *
  clear hb gr0 gr1 gr2 gr3 gr4 gr5 gr6 gr7 gz0 gz1 gz2 gz3 gz4 gz5  
  clear r0 r1 r2 r3 r4 r5 r6 r7 z0 z1 z2 z3 z4 z5
  obtain ⟨⟨z0, z1, z2, z3, z4, z5⟩, -⟩ := blk6 H4.out.2.1.blk
  obtain ⟨⟨r0, r1, r2, r3, r4, r5, r6, r7⟩, -⟩ := blkR H4.out.2.2
  go_wp2_with fail
  have gr0 := fun p => after_cell r0 p
  have gr1 := fun p => after_cell r1 p
  have gr2 := fun p => after_cell r2 p
  have gr3 := fun p => after_cell r3 p
  have gr4 := fun p => after_cell r4 p
  have gr5 := fun p => after_cell r5 p
  have gr6 := fun p => after_cell r6 p
  have gr7 := fun p => after_cell r7 p
  have gz0 := fun p => after_cell z0 p
  have gz1 := fun p => after_cell z1 p
  have gz2 := fun p => after_cell z2 p
  have gz3 := fun p => after_cell z3 p
  have gz4 := fun p => after_cell z4 p
  have gz5 := fun p => after_cell z5 p
  have hl0 := fun p => gone_look (H4.out.2.1.below (after_below q2 p)) tg HF.out.1
  refine wp_region_after (by kernel_rfl) (by kernel_rfl) ?_
  repeat (go_big_quiet_step (fail))
  refine wpQuiet_nil ?_
  rintro q3 ⟨p9, rfl⟩
  have hb := after_below q2 p9
  have H5 := Lib.hid (And.intro (H4.out.1.trans (hb.mono H4.out.1.size)) (And.intro (H4.out.2.1.below hb) (blk_on hb H4.out.2.2)))
  generalize After q2 p9 = q3 at *
  clear hb gr0 gr1 gr2 gr3 gr4 gr5 gr6 gr7 gz0 gz1 gz2 gz3 gz4 gz5 hl0 
  clear r0 r1 r2 r3 r4 r5 r6 r7 z0 z1 z2 z3 z4 z5
  cases hg : goneB b tg with
  | true =>
    have HZ := Lib.hid (show TE = 13 by rw [HZ1.out, hg]; rfl)
    go_wp2
    exact HR.out _ _ ⟨by rw [HZ.out]; try rfl, H5.out.1⟩
  | false =>
    have HZ := Lib.hid (show TE = 0 by rw [HZ1.out, hg]; rfl)
    go_wp2
    exact HR.out _ _ ⟨by rw [HZ.out]; try rfl, H5.out.1⟩
set_option maxRecDepth 100000 in
set_option maxHeartbeats 4000000 in
theorem bhold_any {n c mu mh mg : Nat} {b : BookT} (r : RecT) (w : World) (h : BookAt w n c mu mh mg b) (hf : fitRec r)  :
    Calls Tryz.prog 77 #[.pointer (some ⟨n, 0, none⟩), recV r] w fun e w' => e = .returned (.int .i64 (bookHoldE b r)) ∧ Below w.heap.size w w' := by
  refine calls_by fun R HR => ?_
  have HD := Lib.hid h
  have HF := Lib.hid hf
  have HZ0 : Hid (bookHoldE b r = if (Ks.look b.holds r.name).isSome then 19 else if 64 ≤ b.holds.length then 5 else 0) := Lib.hid rfl
  generalize bookHoldE b r = TE at *
  obtain ⟨kd, ep, tm, ct, tg, un, rt, nm⟩ := r
  simp only at HZ0
  clear h hf
  have H1 := Lib.hid (And.intro (Below.refl w.heap.size w) (HD.out))
  obtain ⟨W1, hW1⟩ : ∃ W1, w.alloc (.cells #[.int .i64 kd, .int .i64 ep, .int .i64 tm, .int .i64 ct, .int .i64 tg, .int .i64 un, .string rt, .string nm] 72) = W1 := ⟨_, rfl⟩
  have hbW1 : Below w.heap.size w W1 := by rw [← hW1]; exact alloc_below w _
  have kW1 : W1.heap[w.heap.size]? = some (.cells #[.int .i64 kd, .int .i64 ep, .int .i64 tm, .int .i64 ct, .int .i64 tg, .int .i64 un, .string rt, .string nm] 72 (0, 0)) := by rw [← hW1]; exact alloc_new w _
  have H2 := Lib.hid (And.intro (H1.out.1.trans (hbW1.mono H1.out.1.size)) (And.intro (H1.out.2.below hbW1) (kW1)))
  clear hbW1 kW1
  obtain ⟨⟨z0, z1, z2, z3, z4, z5⟩, -⟩ := blk6 H2.out.2.1.blk
  obtain ⟨⟨r0, r1, r2, r3, r4, r5, r6, r7⟩, -⟩ := blkR H2.out.2.2
  go_enter Tryz.func77, Tryz.ntmps77
  go_wp2_with fail
  have gr0 := fun p => after_cell r0 p
  have gr1 := fun p => after_cell r1 p
  have gr2 := fun p => after_cell r2 p
  have gr3 := fun p => after_cell r3 p
  have gr4 := fun p => after_cell r4 p
  have gr5 := fun p => after_cell r5 p
  have gr6 := fun p => after_cell r6 p
  have gr7 := fun p => after_cell r7 p
  have gz0 := fun p => after_cell z0 p
  have gz1 := fun p => after_cell z1 p
  have gz2 := fun p => after_cell z2 p
  have gz3 := fun p => after_cell z3 p
  have gz4 := fun p => after_cell z4 p
  have gz5 := fun p => after_cell z5 p
  have hl0 := fun p => holds_look (H2.out.2.1.below (after_below W1 p)) nm HF.out.2
  refine wp_region_after (by kernel_rfl) (by kernel_rfl) ?_
  repeat (go_big_quiet_step (fail))
  refine wpQuiet_nil ?_
  rintro q1 ⟨p9, rfl⟩
  have hb := after_below W1 p9
  have H3 := Lib.hid (And.intro (H2.out.1.trans (hb.mono H2.out.1.size)) (And.intro (H2.out.2.1.below hb) (blk_on hb H2.out.2.2)))
  generalize After W1 p9 = q1 at *
  clear hb gr0 gr1 gr2 gr3 gr4 gr5 gr6 gr7 gz0 gz1 gz2 gz3 gz4 gz5 hl0 
  clear r0 r1 r2 r3 r4 r5 r6 r7 z0 z1 z2 z3 z4 z5
  generalize (Ks.look b.holds nm).isSome = IS at *
  obtain ⟨⟨z0, z1, z2, z3, z4, z5⟩, -⟩ := blk6 H3.out.2.1.blk
  obtain ⟨⟨r0, r1, r2, r3, r4, r5, r6, r7⟩, -⟩ := blkR H3.out.2.2
  cases IS with
  | true =>
    have HZ := Lib.hid (show TE = 19 by rw [HZ0.out]; rfl)
    go_wp2
    exact HR.out _ _ ⟨by rw [HZ.out]; try rfl, H3.out.1⟩
  | false =>
    by_cases h6 : 64 ≤ b.holds.length
    · skip
      have h6i : (64 : Int) ≤ (b.holds.length : Int) := by omega
      have HZ := Lib.hid (show TE = 5 by rw [HZ0.out]; simp [h6])
      have h6d : decide ((64 : Int) ≤ (b.holds.length : Int)) = true := decide_eq_true h6i
      go_wp2_with (at_len; refine wpList_mlen _ rfl _ 84 rfl 3 Tryz.underlying84 (H3.out.2.1).holds rfl ?_)
      exact HR.out _ _ ⟨by rw [HZ.out]; try rfl, H3.out.1⟩
    · skip
      have h6i : ¬ (64 : Int) ≤ (b.holds.length : Int) := by omega
      have HZ := Lib.hid (show TE = 0 by rw [HZ0.out]; simp [h6])
      have h6d : decide ((64 : Int) ≤ (b.holds.length : Int)) = false := decide_eq_false h6i
      have h6e : decide (64 ≤ b.holds.length) = false := decide_eq_false h6
      go_wp2_with (at_len; refine wpList_mlen _ rfl _ 84 rfl 3 Tryz.underlying84 (H3.out.2.1).holds rfl ?_)
      exact HR.out _ _ ⟨by rw [HZ.out]; try rfl, H3.out.1⟩
set_option maxRecDepth 100000 in
set_option maxHeartbeats 4000000 in
theorem bpurge_any {n c mu mh mg : Nat} {b : BookT} (r : RecT) (w : World) (h : BookAt w n c mu mh mg b) (hf : fitRec r) (hn : b.holds.length ≤ 1000000) :
    Calls Tryz.prog 78 #[.pointer (some ⟨n, 0, none⟩), recV r] w fun e w' => e = .returned (.int .i64 (purgeE b r)) ∧ Below w.heap.size w w' := by
  refine calls_by fun R HR => ?_
  have HD := Lib.hid h
  have HF := Lib.hid hf
  have HZ0 : Hid (purgeE b r = if r.time < tillN b r.target then 9 else if 0 < heldN b r.target then 10 else if r.till ≠ tillN b r.target then 2 else 0) := Lib.hid rfl
  have HHe := Lib.hid (fun (t : Int) w (h : BookAt w n c mu mh mg b) => bheld_any t w h hn)
  generalize purgeE b r = TE at *
  obtain ⟨kd, ep, tm, ct, tg, un, rt, nm⟩ := r
  simp only at HZ0
  clear h hf hn
  have H1 := Lib.hid (And.intro (Below.refl w.heap.size w) (HD.out))
  obtain ⟨W1, hW1⟩ : ∃ W1, w.alloc (.cells #[.int .i64 kd, .int .i64 ep, .int .i64 tm, .int .i64 ct, .int .i64 tg, .int .i64 un, .string rt, .string nm] 72) = W1 := ⟨_, rfl⟩
  have hbW1 : Below w.heap.size w W1 := by rw [← hW1]; exact alloc_below w _
  have kW1 : W1.heap[w.heap.size]? = some (.cells #[.int .i64 kd, .int .i64 ep, .int .i64 tm, .int .i64 ct, .int .i64 tg, .int .i64 un, .string rt, .string nm] 72 (0, 0)) := by rw [← hW1]; exact alloc_new w _
  have H2 := Lib.hid (And.intro (H1.out.1.trans (hbW1.mono H1.out.1.size)) (And.intro (H1.out.2.below hbW1) (kW1)))
  clear hbW1 kW1
  obtain ⟨⟨z0, z1, z2, z3, z4, z5⟩, -⟩ := blk6 H2.out.2.1.blk
  obtain ⟨⟨r0, r1, r2, r3, r4, r5, r6, r7⟩, -⟩ := blkR H2.out.2.2
  go_enter Tryz.func78, Tryz.ntmps78
  go_wp2_with fail
  have gr0 := fun p => after_cell r0 p
  have gr1 := fun p => after_cell r1 p
  have gr2 := fun p => after_cell r2 p
  have gr3 := fun p => after_cell r3 p
  have gr4 := fun p => after_cell r4 p
  have gr5 := fun p => after_cell r5 p
  have gr6 := fun p => after_cell r6 p
  have gr7 := fun p => after_cell r7 p
  have gz0 := fun p => after_cell z0 p
  have gz1 := fun p => after_cell z1 p
  have gz2 := fun p => after_cell z2 p
  have gz3 := fun p => after_cell z3 p
  have gz4 := fun p => after_cell z4 p
  have gz5 := fun p => after_cell z5 p
  have hl0 := fun p => till_look (H2.out.2.1.below (after_below W1 p)) tg HF.out.1
  refine wp_region_after (by kernel_rfl) (by kernel_rfl) ?_
  repeat (go_big_quiet_step (fail))
  refine wpQuiet_nil ?_
  rintro q1 ⟨p9, rfl⟩
  have hb := after_below W1 p9
  have H3 := Lib.hid (And.intro (H2.out.1.trans (hb.mono H2.out.1.size)) (And.intro (H2.out.2.1.below hb) (blk_on hb H2.out.2.2)))
  generalize After W1 p9 = q1 at *
  clear hb gr0 gr1 gr2 gr3 gr4 gr5 gr6 gr7 gz0 gz1 gz2 gz3 gz4 gz5 hl0 
  clear r0 r1 r2 r3 r4 r5 r6 r7 z0 z1 z2 z3 z4 z5
  generalize tillN b tg = UN at *
  obtain ⟨⟨z0, z1, z2, z3, z4, z5⟩, -⟩ := blk6 H3.out.2.1.blk
  obtain ⟨⟨r0, r1, r2, r3, r4, r5, r6, r7⟩, -⟩ := blkR H3.out.2.2
  by_cases h1 : tm < UN
  · skip
    have HZ := Lib.hid (show TE = 9 by rw [HZ0.out]; simp [h1])
    go_wp2
    exact HR.out _ _ ⟨by rw [HZ.out]; try rfl, H3.out.1⟩
  go_wp2_with fail
  refine (HHe.out _ _ H3.out.2.1).mono ?_
  rintro en v1 ⟨ha, hc, rfl, hb⟩
  have H4 := Lib.hid (And.intro (H3.out.1.trans (hb.mono H3.out.1.size)) (And.intro (H3.out.2.1.below hb) (blk_on hb H3.out.2.2)))
  clear hb
  clear r0 r1 r2 r3 r4 r5 r6 r7 z0 z1 z2 z3 z4 z5
  generalize heldN b tg = HN at *
  obtain ⟨⟨z0, z1, z2, z3, z4, z5⟩, -⟩ := blk6 H4.out.2.1.blk
  obtain ⟨⟨r0, r1, r2, r3, r4, r5, r6, r7⟩, -⟩ := blkR H4.out.2.2
  by_cases h2 : 0 < HN
  · have h2i : (0 : Int) < (HN : Int) := by omega
    have HZ := Lib.hid (show TE = 10 by rw [HZ0.out]; simp [h1, h2])
    go_wp2
    exact HR.out _ _ ⟨by rw [HZ.out]; try rfl, H4.out.1⟩
  have h2i : ¬ (0 : Int) < (HN : Int) := by omega
  by_cases h3 : un = UN
  · have h3b : (un != UN) = false := by simpa using h3
    have HZ := Lib.hid (show TE = 0 by rw [HZ0.out]; simp [h1, h2, h3])
    go_wp2
    exact HR.out _ _ ⟨by rw [HZ.out]; try rfl, H4.out.1⟩
  have h3b : (un != UN) = true := by simpa using h3
  have HZ := Lib.hid (show TE = 2 by rw [HZ0.out]; simp [h1, h2, h3])
  go_wp2
  exact HR.out _ _ ⟨by rw [HZ.out]; try rfl, H4.out.1⟩
set_option maxRecDepth 100000 in
set_option maxHeartbeats 4000000 in
theorem bmay_any {n c mu mh mg : Nat} {b : BookT} (r : RecT) (w : World) (h : BookAt w n c mu mh mg b) (hf : fitRec r) (hn : b.holds.length ≤ 1000000) :
    Calls Tryz.prog 53 #[.pointer (some ⟨n, 0, none⟩), recV r] w fun e w' => e = .returned (.int .i64 (mayE b r)) ∧ Below w.heap.size w w' := by
  refine calls_by fun R HR => ?_
  have HD := Lib.hid h
  have HF := Lib.hid hf
  have HZ0 : Hid (mayE b r = if chkB r = false then 2 else if r.epoch ≠ b.epoch ∨ r.time < b.now then 16 else if targetE b r ≠ 0 then targetE b r else kindE b r) := Lib.hid rfl
  have HK0 : Hid (kindE b r = if r.kind = 2 then (if r.till < tillN b r.target then 12 else 0) else if r.kind = 3 then bookHoldE b r else if r.kind = 5 then purgeE b r else 0) := Lib.hid rfl
  have HTh := Lib.hid (fun w (h : BookAt w n c mu mh mg b) => bthere_yes w h)
  have HNo := Lib.hid (fun w (h : BookAt w n c mu mh mg b) => bnow_any w h)
  have HCk := Lib.hid (fun w => check_any r w (by have := hf.2; unfold maxLen at this; omega))
  have HTa := Lib.hid (fun w (h : BookAt w n c mu mh mg b) => btarget_any r w h hf)
  have HHo := Lib.hid (fun w (h : BookAt w n c mu mh mg b) => bhold_any r w h hf)
  have HPu := Lib.hid (fun w (h : BookAt w n c mu mh mg b) => bpurge_any r w h hf hn)
  generalize mayE b r = TE at *
  generalize kindE b r = KE at *
  generalize bookHoldE b r = HO at *
  generalize purgeE b r = PU at *
  generalize targetE b r = TA at *
  generalize chkB r = CB at *
  obtain ⟨kd, ep, tm, ct, tg, un, rt, nm⟩ := r
  simp only at HZ0 HK0
  clear h hf hn
  have H1 := Lib.hid (And.intro (Below.refl w.heap.size w) (HD.out))
  obtain ⟨W1, hW1⟩ : ∃ W1, w.alloc (.cells #[.int .i64 kd, .int .i64 ep, .int .i64 tm, .int .i64 ct, .int .i64 tg, .int .i64 un, .string rt, .string nm] 72) = W1 := ⟨_, rfl⟩
  have hbW1 : Below w.heap.size w W1 := by rw [← hW1]; exact alloc_below w _
  have kW1 : W1.heap[w.heap.size]? = some (.cells #[.int .i64 kd, .int .i64 ep, .int .i64 tm, .int .i64 ct, .int .i64 tg, .int .i64 un, .string rt, .string nm] 72 (0, 0)) := by rw [← hW1]; exact alloc_new w _
  have H2 := Lib.hid (And.intro (H1.out.1.trans (hbW1.mono H1.out.1.size)) (And.intro (H1.out.2.below hbW1) (kW1)))
  clear hbW1 kW1
  obtain ⟨⟨r0, r1, r2, r3, r4, r5, r6, r7⟩, -⟩ := blkR H2.out.2.2
  go_enter Tryz.func53, Tryz.ntmps53
  go_wp2_with fail
  refine (HTh.out _ H2.out.2.1).mono ?_
  rintro en y0 ⟨rfl, hw⟩
  rw [hw]
  clear hw
  go_wp2_with fail
  refine (HCk.out _).mono ?_
  rintro en v1 ⟨rfl, hb⟩
  have H3 := Lib.hid (And.intro (H2.out.1.trans (hb.mono H2.out.1.size)) (And.intro (H2.out.2.1.below hb) (blk_on hb H2.out.2.2)))
  clear hb
  clear r0 r1 r2 r3 r4 r5 r6 r7 hW1
  cases CB with
  | false =>
    have HZ := Lib.hid (show TE = 2 by rw [HZ0.out]; rfl)
    go_wp2
    exact HR.out _ _ ⟨by rw [HZ.out]; try rfl, H3.out.1⟩
  | true =>
    simp only [if_true]
    obtain ⟨⟨z0, z1, z2, z3, z4, z5⟩, -⟩ := blk6 H3.out.2.1.blk
    obtain ⟨⟨r0, r1, r2, r3, r4, r5, r6, r7⟩, -⟩ := blkR H3.out.2.2
    by_cases c1 : ep = b.epoch
    case neg =>
      have c1b : (ep != b.epoch) = true := by simpa using c1
      go_wp2_with fail
      have gr0 := fun p => after_cell r0 p
      have gr1 := fun p => after_cell r1 p
      have gr2 := fun p => after_cell r2 p
      have gr3 := fun p => after_cell r3 p
      have gr4 := fun p => after_cell r4 p
      have gr5 := fun p => after_cell r5 p
      have gr6 := fun p => after_cell r6 p
      have gr7 := fun p => after_cell r7 p
      have gz0 := fun p => after_cell z0 p
      have gz1 := fun p => after_cell z1 p
      have gz2 := fun p => after_cell z2 p
      have gz3 := fun p => after_cell z3 p
      have gz4 := fun p => after_cell z4 p
      have gz5 := fun p => after_cell z5 p
      refine wp_region_after (by kernel_rfl) (by kernel_rfl) ?_
      repeat (go_big_quiet_step (fail))
      refine wpQuiet_nil ?_
      rintro q1 ⟨p9, rfl⟩
      have hb := after_below v1 p9
      have H4 := Lib.hid (And.intro (H3.out.1.trans (hb.mono H3.out.1.size)) (And.intro (H3.out.2.1.below hb) (blk_on hb H3.out.2.2)))
      generalize After v1 p9 = q1 at *
      clear hb gr0 gr1 gr2 gr3 gr4 gr5 gr6 gr7 gz0 gz1 gz2 gz3 gz4 gz5  
      clear r0 r1 r2 r3 r4 r5 r6 r7 z0 z1 z2 z3 z4 z5
      have HZ := Lib.hid (show TE = 16 by rw [HZ0.out]; simp [c1])
      go_wp2
      exact HR.out _ _ ⟨by rw [HZ.out]; try rfl, H4.out.1⟩
    case pos =>
      have c1b : (ep != b.epoch) = false := by simpa using c1
      have HC1 := Lib.hid c1
      clear c1
      by_cases c2 : tm < b.now
      · skip
        go_wp2_with fail
        have gr0 := fun p => after_cell r0 p
        have gr1 := fun p => after_cell r1 p
        have gr2 := fun p => after_cell r2 p
        have gr3 := fun p => after_cell r3 p
        have gr4 := fun p => after_cell r4 p
        have gr5 := fun p => after_cell r5 p
        have gr6 := fun p => after_cell r6 p
        have gr7 := fun p => after_cell r7 p
        have gz0 := fun p => after_cell z0 p
        have gz1 := fun p => after_cell z1 p
        have gz2 := fun p => after_cell z2 p
        have gz3 := fun p => after_cell z3 p
        have gz4 := fun p => after_cell z4 p
        have gz5 := fun p => after_cell z5 p
        have cc0 := Lib.hid (fun p => calls_after_same (p := p) ((HNo.out _ (H3.out.2.1.below (after_below v1 p))).mono fun _ _ h => ⟨h.1, h.2.symm⟩))
        refine wp_region_after (by kernel_rfl) (by kernel_rfl) ?_
        repeat (go_big_quiet_step (fail))
        go_big_quiet_step (with_reducible exact cc0.out _)
        repeat (go_big_quiet_step (fail))
        refine wpQuiet_nil ?_
        rintro q1 ⟨p9, rfl⟩
        have hb := after_below v1 p9
        have H4 := Lib.hid (And.intro (H3.out.1.trans (hb.mono H3.out.1.size)) (And.intro (H3.out.2.1.below hb) (blk_on hb H3.out.2.2)))
        generalize After v1 p9 = q1 at *
        clear hb gr0 gr1 gr2 gr3 gr4 gr5 gr6 gr7 gz0 gz1 gz2 gz3 gz4 gz5  cc0
        clear r0 r1 r2 r3 r4 r5 r6 r7 z0 z1 z2 z3 z4 z5
        have HZ := Lib.hid (show TE = 16 by rw [HZ0.out]; simp [c2])
        go_wp2
        exact HR.out _ _ ⟨by rw [HZ.out]; try rfl, H4.out.1⟩
      go_wp2_with fail
      have gr0 := fun p => after_cell r0 p
      have gr1 := fun p => after_cell r1 p
      have gr2 := fun p => after_cell r2 p
      have gr3 := fun p => after_cell r3 p
      have gr4 := fun p => after_cell r4 p
      have gr5 := fun p => after_cell r5 p
      have gr6 := fun p => after_cell r6 p
      have gr7 := fun p => after_cell r7 p
      have gz0 := fun p => after_cell z0 p
      have gz1 := fun p => after_cell z1 p
      have gz2 := fun p => after_cell z2 p
      have gz3 := fun p => after_cell z3 p
      have gz4 := fun p => after_cell z4 p
      have gz5 := fun p => after_cell z5 p
      have cc0 := Lib.hid (fun p => calls_after_same (p := p) ((HNo.out _ (H3.out.2.1.below (after_below v1 p))).mono fun _ _ h => ⟨h.1, h.2.symm⟩))
      refine wp_region_after (by kernel_rfl) (by kernel_rfl) ?_
      repeat (go_big_quiet_step (fail))
      go_big_quiet_step (with_reducible exact cc0.out _)
      repeat (go_big_quiet_step (fail))
      refine wpQuiet_nil ?_
      rintro q1 ⟨p9, rfl⟩
      have hb := after_below v1 p9
      have H4 := Lib.hid (And.intro (H3.out.1.trans (hb.mono H3.out.1.size)) (And.intro (H3.out.2.1.below hb) (blk_on hb H3.out.2.2)))
      generalize After v1 p9 = q1 at *
      clear hb gr0 gr1 gr2 gr3 gr4 gr5 gr6 gr7 gz0 gz1 gz2 gz3 gz4 gz5  cc0
      clear r0 r1 r2 r3 r4 r5 r6 r7 z0 z1 z2 z3 z4 z5
      obtain ⟨⟨z0, z1, z2, z3, z4, z5⟩, -⟩ := blk6 H4.out.2.1.blk
      obtain ⟨⟨r0, r1, r2, r3, r4, r5, r6, r7⟩, -⟩ := blkR H4.out.2.2
      have HZ1 := Lib.hid (show TE = if TA ≠ 0 then TA else KE by rw [HZ0.out, if_neg (show ¬ (true = false) by decide), if_neg (show ¬ (ep ≠ b.epoch ∨ tm < b.now) from fun q => q.elim (fun q => q HC1.out) (fun q => by omega))])
      go_wp2_with fail
      refine (HTa.out _ H4.out.2.1).mono ?_
      rintro en v2 ⟨rfl, hb⟩
      have H5 := Lib.hid (And.intro (H4.out.1.trans (hb.mono H4.out.1.size)) (And.intro (H4.out.2.1.below hb) (blk_on hb H4.out.2.2)))
      clear hb
      clear r0 r1 r2 r3 r4 r5 r6 r7 z0 z1 z2 z3 z4 z5
      obtain ⟨⟨z0, z1, z2, z3, z4, z5⟩, -⟩ := blk6 H5.out.2.1.blk
      obtain ⟨⟨r0, r1, r2, r3, r4, r5, r6, r7⟩, -⟩ := blkR H5.out.2.2
      by_cases c3 : TA = 0
      case neg =>
        have c3b : (TA != 0) = true := by simpa using c3
        have HZ := Lib.hid (show TE = TA by rw [HZ1.out]; simp [c3])
        go_wp2
        exact HR.out _ _ ⟨by rw [HZ.out]; try rfl, H5.out.1⟩
      case pos =>
        subst c3
        have HZ2 := Lib.hid (show TE = KE by rw [HZ1.out]; simp)
        by_cases k2 : kd = 2
        · subst k2
          cases hlt : decide (un < tillN b tg) with
          | true =>
            have hl9 : un < tillN b tg := of_decide_eq_true hlt
            go_wp2_with fail
            have gr0 := fun p => after_cell r0 p
            have gr1 := fun p => after_cell r1 p
            have gr2 := fun p => after_cell r2 p
            have gr3 := fun p => after_cell r3 p
            have gr4 := fun p => after_cell r4 p
            have gr5 := fun p => after_cell r5 p
            have gr6 := fun p => after_cell r6 p
            have gr7 := fun p => after_cell r7 p
            have gz0 := fun p => after_cell z0 p
            have gz1 := fun p => after_cell z1 p
            have gz2 := fun p => after_cell z2 p
            have gz3 := fun p => after_cell z3 p
            have gz4 := fun p => after_cell z4 p
            have gz5 := fun p => after_cell z5 p
            have hl0 := fun p => till_look (H5.out.2.1.below (after_below v2 p)) tg HF.out.1
            refine wp_region_after (by kernel_rfl) (by kernel_rfl) ?_
            repeat (go_big_quiet_step (fail))
            refine wpQuiet_nil ?_
            rintro q2 ⟨p9, rfl⟩
            have hb := after_below v2 p9
            have H6 := Lib.hid (And.intro (H5.out.1.trans (hb.mono H5.out.1.size)) (And.intro (H5.out.2.1.below hb) (blk_on hb H5.out.2.2)))
            generalize After v2 p9 = q2 at *
            clear hb gr0 gr1 gr2 gr3 gr4 gr5 gr6 gr7 gz0 gz1 gz2 gz3 gz4 gz5 hl0 
            clear r0 r1 r2 r3 r4 r5 r6 r7 z0 z1 z2 z3 z4 z5
            have HZ := Lib.hid (show TE = 12 by rw [HZ2.out, HK0.out]; simp [hl9])
            go_wp2
            exact HR.out _ _ ⟨by rw [HZ.out]; try rfl, H6.out.1⟩
          | false =>
            have hl9 : ¬ un < tillN b tg := of_decide_eq_false hlt
            go_wp2_with fail
            have gr0 := fun p => after_cell r0 p
            have gr1 := fun p => after_cell r1 p
            have gr2 := fun p => after_cell r2 p
            have gr3 := fun p => after_cell r3 p
            have gr4 := fun p => after_cell r4 p
            have gr5 := fun p => after_cell r5 p
            have gr6 := fun p => after_cell r6 p
            have gr7 := fun p => after_cell r7 p
            have gz0 := fun p => after_cell z0 p
            have gz1 := fun p => after_cell z1 p
            have gz2 := fun p => after_cell z2 p
            have gz3 := fun p => after_cell z3 p
            have gz4 := fun p => after_cell z4 p
            have gz5 := fun p => after_cell z5 p
            have hl0 := fun p => till_look (H5.out.2.1.below (after_below v2 p)) tg HF.out.1
            refine wp_region_after (by kernel_rfl) (by kernel_rfl) ?_
            repeat (go_big_quiet_step (fail))
            refine wpQuiet_nil ?_
            rintro q2 ⟨p9, rfl⟩
            have hb := after_below v2 p9
            have H6 := Lib.hid (And.intro (H5.out.1.trans (hb.mono H5.out.1.size)) (And.intro (H5.out.2.1.below hb) (blk_on hb H5.out.2.2)))
            generalize After v2 p9 = q2 at *
            clear hb gr0 gr1 gr2 gr3 gr4 gr5 gr6 gr7 gz0 gz1 gz2 gz3 gz4 gz5 hl0 
            clear r0 r1 r2 r3 r4 r5 r6 r7 z0 z1 z2 z3 z4 z5
            have HZ := Lib.hid (show TE = 0 by rw [HZ2.out, HK0.out]; simp [hl9])
            go_wp2
            exact HR.out _ _ ⟨by rw [HZ.out]; try rfl, H6.out.1⟩
        have hk2 : (kd == 2) = false := by simpa using k2
        by_cases k3 : kd = 3
        · subst k3
          go_wp2_with fail
          refine (HHo.out _ H5.out.2.1).mono ?_
          rintro en v3 ⟨rfl, hb⟩
          have H6 := Lib.hid (And.intro (H5.out.1.trans (hb.mono H5.out.1.size)) (And.intro (H5.out.2.1.below hb) (blk_on hb H5.out.2.2)))
          clear hb
          have HZ := Lib.hid (show TE = HO by rw [HZ2.out, HK0.out]; simp)
          go_wp2
          exact HR.out _ _ ⟨by rw [HZ.out]; try rfl, H6.out.1⟩
        have hk3 : (kd == 3) = false := by simpa using k3
        by_cases k5 : kd = 5
        · subst k5
          go_wp2_with fail
          refine (HPu.out _ H5.out.2.1).mono ?_
          rintro en v3 ⟨rfl, hb⟩
          have H6 := Lib.hid (And.intro (H5.out.1.trans (hb.mono H5.out.1.size)) (And.intro (H5.out.2.1.below hb) (blk_on hb H5.out.2.2)))
          clear hb
          have HZ := Lib.hid (show TE = PU by rw [HZ2.out, HK0.out]; simp)
          go_wp2
          exact HR.out _ _ ⟨by rw [HZ.out]; try rfl, H6.out.1⟩
        have hk5 : (kd == 5) = false := by simpa using k5
        have HZ := Lib.hid (show TE = 0 by rw [HZ2.out, HK0.out]; simp [k2, k3, k5])
        go_wp2
        exact HR.out _ _ ⟨by rw [HZ.out]; try rfl, H5.out.1⟩
end Go.Proofs.YtnkiokaeooopgaaGreat
/- A record applied: of the program. -/
set_option maxRecDepth 100000
namespace Go.Proofs.YtnkiokaeooopgaaGreat
open Go.RowKit Ks Go.Maps
set_option linter.unusedVariables false
set_option linter.unusedSimpArgs false
section
variable {w w' : World} {n c mu mh mg : Nat} {b : BookT}
theorem BookAt.tick (h : BookAt w n c mu mh mg b) (h5 : Five n c mu mh mg) (t : Int) : BookAt (w.setCell ⟨c, 1, none⟩ (.int .i64 t)) n c mu mh mg { b with now := t } := by
  obtain ⟨a1, a2, a3, a4, a5, a6, a7, a8, a9, a10⟩ := h5
  exact ⟨(set_ne _ a1).trans h.blk, set_blk h.clk 1 _, h.till.keep (set_ne _ (Ne.symm a5)), h.holds.keep (set_ne _ (Ne.symm a6)), h.gone.keep (set_ne _ (Ne.symm a7))⟩
theorem BookAt.next (h : BookAt w n c mu mh mg b) (h5 : Five n c mu mh mg) (e : Int) : BookAt (w.setCell ⟨n, 2, none⟩ (.int .i64 e)) n c mu mh mg { b with epoch := e } := by
  obtain ⟨a1, a2, a3, a4, a5, a6, a7, a8, a9, a10⟩ := h5
  exact ⟨set_blk h.blk 2 _, (set_ne _ (Ne.symm a1)).trans h.clk, h.till.keep (set_ne _ (Ne.symm a2)), h.holds.keep (set_ne _ (Ne.symm a3)), h.gone.keep (set_ne _ (Ne.symm a4))⟩
theorem BookAt.tills {m : List (Int × Int)} (h : BookAt w n c mu mh mg b) (h5 : Five n c mu mh mg) (hm : MapAt iiKV w' mu m) (ht : Turn w w' (fun k => k = mu) (fun k => k = mu)) : BookAt w' n c mu mh mg { b with till := m } := by
  obtain ⟨a1, a2, a3, a4, a5, a6, a7, a8, a9, a10⟩ := h5
  exact ⟨(ht.block n (lt_of_block h.blk) a2).trans h.blk, (ht.block c (lt_of_block h.clk) a5).trans h.clk, hm, h.holds.keep (ht.block mh h.holds.lt (Ne.symm a8)), h.gone.keep (ht.block mg h.gone.lt (Ne.symm a9))⟩
theorem BookAt.held {m : List (ByteArray × Int)} (h : BookAt w n c mu mh mg b) (h5 : Five n c mu mh mg) (hm : MapAt siKV w' mh m) (ht : Turn w w' (fun k => k = mh) (fun k => k = mh)) : BookAt w' n c mu mh mg { b with holds := m } := by
  obtain ⟨a1, a2, a3, a4, a5, a6, a7, a8, a9, a10⟩ := h5
  exact ⟨(ht.block n (lt_of_block h.blk) a3).trans h.blk, (ht.block c (lt_of_block h.clk) a6).trans h.clk, h.till.keep (ht.block mu h.till.lt a8), hm, h.gone.keep (ht.block mg h.gone.lt (Ne.symm a10))⟩
theorem BookAt.purged {m : List (Int × Bool)} (h : BookAt w n c mu mh mg b) (h5 : Five n c mu mh mg) (hm : MapAt ibKV w' mg m) (ht : Turn w w' (fun k => k = mg) (fun k => k = mg)) : BookAt w' n c mu mh mg { b with gone := m } := by
  obtain ⟨a1, a2, a3, a4, a5, a6, a7, a8, a9, a10⟩ := h5
  exact ⟨(ht.block n (lt_of_block h.blk) a4).trans h.blk, (ht.block c (lt_of_block h.clk) a7).trans h.clk, h.till.keep (ht.block mu h.till.lt a9), h.holds.keep (ht.block mh h.holds.lt a10), hm⟩
/-- what a book's calls turn -/
theorem Turn.book {F : Nat → Prop} (h : Turn w w' F F) (hF : ∀ k, F k → FB n c mu mh mg k) : Turn w w' (FB n c mu mh mg) (FB n c mu mh mg) := h.wide hF fun k hk => Or.inr (Or.inl hk)
end
set_option maxRecDepth 100000 in
set_option maxHeartbeats 8000000 in
theorem bapply_any {n c mu mh mg : Nat} {b : BookT} (r : RecT) (w : World) (h : BookAt w n c mu mh mg b) (h5 : Five n c mu mh mg) (hf : fitRec r) (hn : b.holds.length ≤ 1000000) :
    Calls Tryz.prog 64 #[.pointer (some ⟨n, 0, none⟩), recV r] w fun e w' => e = .returned (.int .i64 (mayE b r)) ∧ BookAt w' n c mu mh mg (applyB b r) ∧ Turn w w' (FB n c mu mh mg) (FB n c mu mh mg) := by
  refine calls_by fun R HR => ?_
  have HD := Lib.hid h
  have HF := Lib.hid hf
  have H5v := Lib.hid h5
  have HM := Lib.hid (fun w (h : BookAt w n c mu mh mg b) => bmay_any r w h hf hn)
  have HA0 : Hid (applyB b r = if mayE b r = 0 then putB b r else b) := Lib.hid rfl
  have HZ := Lib.hid (fun h => may_zero (b := b) (r := r) h)
  have HC := Lib.hid (fun h => chk_epoch (r := r) h)
  have HCt := Lib.hid (fun h => chk_time (r := r) h)
  have HP0 : Hid (putB b r = if r.kind = 1 then { b with now := r.time, epoch := b.epoch + 1 } else if r.kind = 2 then { b with now := r.time, till := putM b.till r.target r.till } else if r.kind = 3 then { b with now := r.time, holds := putM b.holds r.name r.target } else if r.kind = 4 then { b with now := r.time, holds := delM b.holds r.name } else { b with now := r.time, gone := putM b.gone r.target true }) := Lib.hid rfl
  generalize mayE b r = TE at *
  generalize applyB b r = AB at *
  generalize putB b r = PB at *
  generalize chkB r = CB at *
  generalize targetE b r = TA at *
  generalize kindE b r = KA at *
  obtain ⟨kd, ep, tm, ct, tg, un, rt, nm⟩ := r
  simp only at HZ HC HCt HP0
  clear h h5 hf hn
  have H1 := Lib.hid (And.intro (Below.refl w.heap.size w) (HD.out))
  obtain ⟨W1, hW1⟩ : ∃ W1, w.alloc (.cells #[.int .i64 kd, .int .i64 ep, .int .i64 tm, .int .i64 ct, .int .i64 tg, .int .i64 un, .string rt, .string nm] 72) = W1 := ⟨_, rfl⟩
  have hbW1 : Below w.heap.size w W1 := by rw [← hW1]; exact alloc_below w _
  have kW1 : W1.heap[w.heap.size]? = some (.cells #[.int .i64 kd, .int .i64 ep, .int .i64 tm, .int .i64 ct, .int .i64 tg, .int .i64 un, .string rt, .string nm] 72 (0, 0)) := by rw [← hW1]; exact alloc_new w _
  have H2 := Lib.hid (And.intro (H1.out.1.trans (hbW1.mono H1.out.1.size)) (And.intro (H1.out.2.below hbW1) (kW1)))
  clear hbW1 kW1
  obtain ⟨⟨r0, r1, r2, r3, r4, r5, r6, r7⟩, -⟩ := blkR H2.out.2.2
  have HWa := Lib.hid (show ∀ k, FB n c mu mh mg k → k < w.heap.size from HD.out.lt)
  go_enter Tryz.func64, Tryz.ntmps64
  go_wp2_with fail
  refine (HM.out _ H2.out.2.1).mono ?_
  rintro en v1 ⟨rfl, hb⟩
  have H3 := Lib.hid (And.intro (H2.out.1.trans (hb.mono H2.out.1.size)) (And.intro (H2.out.2.1.below hb) (blk_on hb H2.out.2.2)))
  clear hb
  clear r0 r1 r2 r3 r4 r5 r6 r7 hW1
  obtain ⟨⟨z0, z1, z2, z3, z4, z5⟩, -⟩ := blk6 H3.out.2.1.blk
  obtain ⟨⟨r0, r1, r2, r3, r4, r5, r6, r7⟩, -⟩ := blkR H3.out.2.2
  by_cases hte : TE = 0
  case neg =>
    have hte2 : (TE != 0) = true := by simpa using hte
    have HQ := Lib.hid (show AB = b by rw [HA0.out, if_neg hte])
    go_wp2
    exact HR.out _ _ ⟨rfl, by rw [HQ.out]; exact H3.out.2.1, Turn.of_below _ H3.out.1⟩
  case pos =>
    obtain ⟨q1, q2, q3, q4, q5⟩ := HZ.out hte
    have HQ := Lib.hid (show AB = PB by rw [HA0.out, if_pos hte])
    have HCE := Lib.hid (HC.out q1)
    have HCT := Lib.hid (HCt.out q1)
    have HE2 := Lib.hid q2
    have HE3 := Lib.hid q3
    subst hte
    clear q1 q2 q3 q4 q5
    go_wp2_with fail
    have gr0 := fun p => after_cell r0 p
    have gr1 := fun p => after_cell r1 p
    have gr2 := fun p => after_cell r2 p
    have gr3 := fun p => after_cell r3 p
    have gr4 := fun p => after_cell r4 p
    have gr5 := fun p => after_cell r5 p
    have gr6 := fun p => after_cell r6 p
    have gr7 := fun p => after_cell r7 p
    have gz0 := fun p => after_cell z0 p
    have gz1 := fun p => after_cell z1 p
    have gz2 := fun p => after_cell z2 p
    have gz3 := fun p => after_cell z3 p
    have gz4 := fun p => after_cell z4 p
    have gz5 := fun p => after_cell z5 p
    refine wp_region_after_tail 6 (by kernel_rfl) (by kernel_rfl) ?_
    simp only [List.take_succ_cons, List.take_zero, List.drop_succ_cons, List.drop_zero]
    repeat (go_big_quiet_step (fail))
    refine wpQuiet_nil ?_
    rintro q1 ⟨p9, rfl⟩
    have hb := after_below v1 p9
    have H4 := Lib.hid (And.intro (H3.out.1.trans (hb.mono H3.out.1.size)) (And.intro (H3.out.2.1.below hb) (blk_on hb H3.out.2.2)))
    generalize After v1 p9 = q1 at *
    clear hb gr0 gr1 gr2 gr3 gr4 gr5 gr6 gr7 gz0 gz1 gz2 gz3 gz4 gz5
    clear r0 r1 r2 r3 r4 r5 r6 r7 z0 z1 z2 z3 z4 z5
    have HTk := Lib.hid (ctick_any c b.now tm _ H4.out.2.1.clk (by have := HCT.out; omega) (by have := HCT.out; omega) (by have := HE3.out; omega))
    go_wp2_with fail
    refine HTk.out.mono ?_
    rintro en v9 ⟨rfl, hw⟩
    rw [hw]
    clear hw HTk
    obtain ⟨P1, hP1⟩ : ∃ W, q1.setCell ⟨c, 1, none⟩ (.int .i64 tm) = W := ⟨_, rfl⟩
    have HB1 := Lib.hid (show BookAt P1 n c mu mh mg { b with now := tm } by rw [← hP1]; exact H4.out.2.1.tick H5v.out tm)
    have HT1 := Lib.hid (show Turn w P1 (FB n c mu mh mg) (FB n c mu mh mg) by rw [← hP1]; exact (Turn.of_below _ H4.out.1).trans (Turn.cell _ c 1 _ (Or.inr (Or.inl rfl))))
    have HK1 := Lib.hid (show P1.heap[w.heap.size]? = some (.cells #[.int .i64 kd, .int .i64 ep, .int .i64 tm, .int .i64 ct, .int .i64 tg, .int .i64 un, .string rt, .string nm] 72 (0, 0)) by rw [← hP1]; exact (set_ne _ (by have := HWa.out c (Or.inr (Or.inl rfl)); omega)).trans H4.out.2.2)
    rw [hP1]
    clear hP1
    obtain ⟨⟨r0, r1, r2, r3, r4, r5, r6, r7⟩, -⟩ := blkR HK1.out
    obtain ⟨⟨z0, z1, z2, z3, z4, z5⟩, fz⟩ := blk6 HB1.out.blk
    simp only at z1 z2
    by_cases k1 : kd = 1
    · subst k1
      have HPB := Lib.hid (show PB = { b with now := tm, epoch := b.epoch + 1 } by rw [HP0.out]; rfl)
      have hwr : wrap64 (b.epoch + 1) = b.epoch + 1 := by have := HCE.out; have := HE2.out; unfold wrap64; omega
      have fz2 := fz 2
      clear fz
      go_wp2
      exact HR.out _ _ ⟨rfl, by rw [HQ.out, HPB.out]; exact HB1.out.next H5v.out _, HT1.out.trans (Turn.cell _ n 2 _ (Or.inl rfl))⟩
    have hk1 : (kd == 1) = false := by simpa using k1
    by_cases k2 : kd = 2
    · subst k2
      have HPB := Lib.hid (show PB = { b with now := tm, till := putM b.till tg un } by rw [HP0.out]; rfl)
      clear fz
      go_wp2_with fail
      have gr0 := fun p => after_cell r0 p
      have gr1 := fun p => after_cell r1 p
      have gr2 := fun p => after_cell r2 p
      have gr3 := fun p => after_cell r3 p
      have gr4 := fun p => after_cell r4 p
      have gr5 := fun p => after_cell r5 p
      have gr6 := fun p => after_cell r6 p
      have gr7 := fun p => after_cell r7 p
      have gz0 := fun p => after_cell z0 p
      have gz1 := fun p => after_cell z1 p
      have gz2 := fun p => after_cell z2 p
      have gz3 := fun p => after_cell z3 p
      have gz4 := fun p => after_cell z4 p
      have gz5 := fun p => after_cell z5 p
      refine wp_region_after_tail 8 (by kernel_rfl) (by kernel_rfl) ?_
      simp only [List.take_succ_cons, List.take_zero, List.drop_succ_cons, List.drop_zero]
      repeat (go_big_quiet_step (fail))
      refine wpQuiet_nil ?_
      rintro y1 ⟨p9, rfl⟩
      have hb := after_below P1 p9
      have HB2 := Lib.hid (HB1.out.below hb)
      have HT2 := Lib.hid (HT1.out.trans (Turn.of_below _ hb))
      generalize After P1 p9 = y1 at *
      clear hb gr0 gr1 gr2 gr3 gr4 gr5 gr6 gr7 gz0 gz1 gz2 gz3 gz4 gz5
      refine wpList_put _ rfl _ _ _ 83 rfl 3 intKey Tryz.underlying83 HB2.out.till rfl tg un rfl rfl (iiKV_ok HF.out.1) ?_
      intro y2 hm2 ht2
      have HB3 := Lib.hid (HB2.out.tills H5v.out hm2 ht2)
      have HT3 := Lib.hid (HT2.out.trans (Turn.book ht2 (fun k hk => Or.inr (Or.inr (Or.inl hk)))))
      clear hm2 ht2
      go_wp2
      exact HR.out _ _ ⟨rfl, by rw [HQ.out, HPB.out]; exact HB3.out, HT3.out⟩
    have hk2 : (kd == 2) = false := by simpa using k2
    by_cases k3 : kd = 3
    · subst k3
      have HPB := Lib.hid (show PB = { b with now := tm, holds := putM b.holds nm tg } by rw [HP0.out]; rfl)
      clear fz
      go_wp2_with fail
      have gr0 := fun p => after_cell r0 p
      have gr1 := fun p => after_cell r1 p
      have gr2 := fun p => after_cell r2 p
      have gr3 := fun p => after_cell r3 p
      have gr4 := fun p => after_cell r4 p
      have gr5 := fun p => after_cell r5 p
      have gr6 := fun p => after_cell r6 p
      have gr7 := fun p => after_cell r7 p
      have gz0 := fun p => after_cell z0 p
      have gz1 := fun p => after_cell z1 p
      have gz2 := fun p => after_cell z2 p
      have gz3 := fun p => after_cell z3 p
      have gz4 := fun p => after_cell z4 p
      have gz5 := fun p => after_cell z5 p
      refine wp_region_after_tail 8 (by kernel_rfl) (by kernel_rfl) ?_
      simp only [List.take_succ_cons, List.take_zero, List.drop_succ_cons, List.drop_zero]
      repeat (go_big_quiet_step (fail))
      refine wpQuiet_nil ?_
      rintro y1 ⟨p9, rfl⟩
      have hb := after_below P1 p9
      have HB2 := Lib.hid (HB1.out.below hb)
      have HT2 := Lib.hid (HT1.out.trans (Turn.of_below _ hb))
      generalize After P1 p9 = y1 at *
      clear hb gr0 gr1 gr2 gr3 gr4 gr5 gr6 gr7 gz0 gz1 gz2 gz3 gz4 gz5
      refine wpList_put _ rfl _ _ _ 84 rfl 3 strKey Tryz.underlying84 HB2.out.holds rfl nm tg rfl rfl (siKV_ok HF.out.2) ?_
      intro y2 hm2 ht2
      have HB3 := Lib.hid (HB2.out.held H5v.out hm2 ht2)
      have HT3 := Lib.hid (HT2.out.trans (Turn.book ht2 (fun k hk => Or.inr (Or.inr (Or.inr (Or.inl hk))))))
      clear hm2 ht2
      go_wp2
      exact HR.out _ _ ⟨rfl, by rw [HQ.out, HPB.out]; exact HB3.out, HT3.out⟩
    have hk3 : (kd == 3) = false := by simpa using k3
    by_cases k4 : kd = 4
    · subst k4
      have HPB := Lib.hid (show PB = { b with now := tm, holds := delM b.holds nm } by rw [HP0.out]; rfl)
      clear fz
      go_wp2_with fail
      have gr0 := fun p => after_cell r0 p
      have gr1 := fun p => after_cell r1 p
      have gr2 := fun p => after_cell r2 p
      have gr3 := fun p => after_cell r3 p
      have gr4 := fun p => after_cell r4 p
      have gr5 := fun p => after_cell r5 p
      have gr6 := fun p => after_cell r6 p
      have gr7 := fun p => after_cell r7 p
      have gz0 := fun p => after_cell z0 p
      have gz1 := fun p => after_cell z1 p
      have gz2 := fun p => after_cell z2 p
      have gz3 := fun p => after_cell z3 p
      have gz4 := fun p => after_cell z4 p
      have gz5 := fun p => after_cell z5 p
      refine wp_region_after_tail 6 (by kernel_rfl) (by kernel_rfl) ?_
      simp only [List.take_succ_cons, List.take_zero, List.drop_succ_cons, List.drop_zero]
      repeat (go_big_quiet_step (fail))
      refine wpQuiet_nil ?_
      rintro y1 ⟨p9, rfl⟩
      have hb := after_below P1 p9
      have HB2 := Lib.hid (HB1.out.below hb)
      have HT2 := Lib.hid (HT1.out.trans (Turn.of_below _ hb))
      generalize After P1 p9 = y1 at *
      clear hb gr0 gr1 gr2 gr3 gr4 gr5 gr6 gr7 gz0 gz1 gz2 gz3 gz4 gz5
      refine wpList_del _ rfl _ _ 84 rfl 3 strKey Tryz.underlying84 HB2.out.holds rfl nm rfl (siKV_ok HF.out.2) ?_
      intro y2 hm2 ht2
      have HB3 := Lib.hid (HB2.out.held H5v.out hm2 ht2)
      have HT3 := Lib.hid (HT2.out.trans (Turn.book ht2 (fun k hk => Or.inr (Or.inr (Or.inr (Or.inl hk))))))
      clear hm2 ht2
      go_wp2
      exact HR.out _ _ ⟨rfl, by rw [HQ.out, HPB.out]; exact HB3.out, HT3.out⟩
    have hk4 : (kd == 4) = false := by simpa using k4
    have HPB := Lib.hid (show PB = { b with now := tm, gone := putM b.gone tg true } by rw [HP0.out, if_neg k1, if_neg k2, if_neg k3, if_neg k4])
    clear fz
    go_wp2_with fail
    have gr0 := fun p => after_cell r0 p
    have gr1 := fun p => after_cell r1 p
    have gr2 := fun p => after_cell r2 p
    have gr3 := fun p => after_cell r3 p
    have gr4 := fun p => after_cell r4 p
    have gr5 := fun p => after_cell r5 p
    have gr6 := fun p => after_cell r6 p
    have gr7 := fun p => after_cell r7 p
    have gz0 := fun p => after_cell z0 p
    have gz1 := fun p => after_cell z1 p
    have gz2 := fun p => after_cell z2 p
    have gz3 := fun p => after_cell z3 p
    have gz4 := fun p => after_cell z4 p
    have gz5 := fun p => after_cell z5 p
    refine wp_region_after_tail 6 (by kernel_rfl) (by kernel_rfl) ?_
    simp only [List.take_succ_cons, List.take_zero, List.drop_succ_cons, List.drop_zero]
    repeat (go_big_quiet_step (fail))
    refine wpQuiet_nil ?_
    rintro y1 ⟨p9, rfl⟩
    have hb := after_below P1 p9
    have HB2 := Lib.hid (HB1.out.below hb)
    have HT2 := Lib.hid (HT1.out.trans (Turn.of_below _ hb))
    generalize After P1 p9 = y1 at *
    clear hb gr0 gr1 gr2 gr3 gr4 gr5 gr6 gr7 gz0 gz1 gz2 gz3 gz4 gz5
    refine wpList_put _ rfl _ _ _ 85 rfl 4 intKey Tryz.underlying85 HB2.out.gone rfl tg true rfl rfl (ibKV_ok HF.out.1) ?_
    intro y2 hm2 ht2
    have HB3 := Lib.hid (HB2.out.purged H5v.out hm2 ht2)
    have HT3 := Lib.hid (HT2.out.trans (Turn.book ht2 (fun k hk => Or.inr (Or.inr (Or.inr (Or.inr hk))))))
    clear hm2 ht2
    go_wp2
    exact HR.out _ _ ⟨rfl, by rw [HQ.out, HPB.out]; exact HB3.out, HT3.out⟩
end Go.Proofs.YtnkiokaeooopgaaGreat
/- A new book, and the book of records: of the program. -/
set_option maxRecDepth 100000
namespace Ks
open Go Go.RowKit
set_option linter.unusedVariables false
def foldB (first : Int) (l : List RecT) : BookT := l.foldl applyB (newB first)
theorem foldB_take (first : Int) (l : List RecT) (k : Nat) (x : RecT) (h : l[k]? = some x) : foldB first (l.take (k + 1)) = applyB (foldB first (l.take k)) x := by
  rw [foldB, List.take_add_one, h, List.foldl_append]; rfl
theorem apply_holds (b : BookT) (r : RecT) : (applyB b r).holds.length ≤ b.holds.length + 1 := by
  unfold applyB
  split
  · unfold putB
    split
    · simp
    · split
      · simp
      · split
        · exact length_put_le _ _ _
        · split
          · show (delM b.holds r.name).length ≤ _
            have : ∀ m : List (ByteArray × Int), (delM m r.name).length ≤ m.length := fun m => by
              induction m with
              | nil => exact Nat.le_refl _
              | cons p m ih => rw [delM]; split <;> simp; omega
            have := this b.holds
            omega
          · simp
  · omega
theorem fold_holds (first : Int) (l : List RecT) : (foldB first l).holds.length ≤ l.length := by
  have key : ∀ (l : List RecT) (b : BookT), (l.foldl applyB b).holds.length ≤ b.holds.length + l.length := by
    intro l
    induction l with
    | nil => intro b; simp
    | cons x l ih =>
      intro b
      have h1 := ih (applyB b x)
      have h2 := apply_holds b x
      rw [List.foldl_cons, List.length_cons]
      omega
  have := key l (newB first)
  simpa [newB, foldB] using this
end Ks
namespace Go.Proofs.YtnkiokaeooopgaaGreat
open Go.RowKit Ks Go.Maps
set_option linter.unusedVariables false
set_option linter.unusedSimpArgs false
theorem bnew_err (e : Int) (w : World) (h : e < 0 ∨ (¬ e < 0 ∧ 4294967295 < e)) : Calls Tryz.prog 13 #[.int .i64 e] w fun r w' => r = .returned (.tuple #[.pointer none, .int .i64 2]) ∧ w' = w := by
  rcases h with h | ⟨h, h2⟩
  all_goals
    go_enter Tryz.func13, Tryz.ntmps13
    go_wp2
    go_ret2
    exact ⟨rfl, rfl⟩
set_option maxHeartbeats 4000000 in
theorem bnew_any (e : Int) (w : World) (h0 : ¬ e < 0) (h1 : ¬ 4294967295 < e) : Calls Tryz.prog 13 #[.int .i64 e] w fun r w' => ∃ n c mu mh mg, r = .returned (.tuple #[.pointer (some ⟨n, 0, none⟩), .int .i64 0]) ∧ BookAt w' n c mu mh mg (newB e) ∧ Five n c mu mh mg ∧ Below w.heap.size w w' ∧ ∀ k, FB n c mu mh mg k → w.heap.size ≤ k := by
  refine calls_by fun R HR => ?_
  have HC := Lib.hid (cnew0 w)
  obtain ⟨W1, hW1⟩ : ∃ W, w.alloc (.cells #[.bool true, .int .i64 0] 82) = W := ⟨_, rfl⟩
  have b1 : Below w.heap.size w W1 := by rw [← hW1]; exact alloc_below _ _
  have n1 : W1.heap[w.heap.size]? = some (.cells #[.bool true, .int .i64 0] 82 (0, 0)) := by rw [← hW1]; exact alloc_new _ _
  have s1 : W1.heap.size = w.heap.size + 1 := by rw [← hW1]; simp
  obtain ⟨W2, hW2⟩ : ∃ W, W1.alloc (.map #[] 0) = W := ⟨_, rfl⟩
  have b2 : Below W1.heap.size W1 W2 := by rw [← hW2]; exact alloc_below _ _
  have n2 : MapAt iiKV W2 W1.heap.size [] := by rw [← hW2]; exact MapAt.made _ _
  have s2 : W2.heap.size = W1.heap.size + 1 := by rw [← hW2]; simp
  obtain ⟨W3, hW3⟩ : ∃ W, W2.alloc (.map #[] 0) = W := ⟨_, rfl⟩
  have b3 : Below W2.heap.size W2 W3 := by rw [← hW3]; exact alloc_below _ _
  have n3 : MapAt siKV W3 W2.heap.size [] := by rw [← hW3]; exact MapAt.made _ _
  have s3 : W3.heap.size = W2.heap.size + 1 := by rw [← hW3]; simp
  obtain ⟨W4, hW4⟩ : ∃ W, W3.alloc (.map #[] 0) = W := ⟨_, rfl⟩
  have b4 : Below W3.heap.size W3 W4 := by rw [← hW4]; exact alloc_below _ _
  have n4 : MapAt ibKV W4 W3.heap.size [] := by rw [← hW4]; exact MapAt.made _ _
  have s4 : W4.heap.size = W3.heap.size + 1 := by rw [← hW4]; simp
  have B2 := b1.trans (b2.mono b1.size)
  have B3 := B2.trans (b3.mono B2.size)
  have B4 := B3.trans (b4.mono B3.size)
  have H := Lib.hid (And.intro B4 (And.intro (blk_on b4 (blk_on b3 (blk_on b2 n1))) (And.intro ((n2.below b3).below b4) (And.intro (n3.below b4) (And.intro n4 (And.intro s1 (And.intro s2 (And.intro s3 s4))))))))
  clear b1 n1 s1 b2 n2 s2 b3 n3 s3 b4 n4 s4 B2 B3 B4
  have hmm := @run_makeMap Tryz.prog
  go_enter Tryz.func13, Tryz.ntmps13
  go_wp2_with fail
  refine HC.out.mono ?_
  rintro en v1 ⟨rfl, hw⟩
  rw [hw, hW1]
  clear hw
  go_wp2
  all_goals
    have HN := Lib.hid (alloc_below W4 (.cells #[.pointer (some ⟨w.heap.size, 0, none⟩), .int .i64 e, .int .i64 e, .map (some W1.heap.size), .map (some W2.heap.size), .map (some W3.heap.size)] 87))
    exact HR.out _ _ ⟨W4.heap.size, w.heap.size, W1.heap.size, W2.heap.size, W3.heap.size, rfl, ⟨alloc_new _ _, blk_on HN.out H.out.2.1, H.out.2.2.1.below HN.out, H.out.2.2.2.1.below HN.out, H.out.2.2.2.2.1.below HN.out⟩,
      (by have := H.out.2.2.2.2.2; unfold Five; omega), H.out.1.trans (HN.out.mono H.out.1.size), fun k hk => by have := H.out.2.2.2.2.2; unfold FB at hk; omega⟩
end Go.Proofs.YtnkiokaeooopgaaGreat
/- A volume's shape: geom.Check, Data, Room. -/
namespace Go.Proofs.YtnkiokaeooopgaaGreat
open Go.RowKit Ks
set_option linter.unusedVariables false
abbrev geoV3 (b l f : Int) : Value := .agg #[.int .i64 b, .int .i64 l, .int .i64 f]
set_option maxHeartbeats 1000000 in
theorem gcheck_any (b l f : Int) (w : World) : Calls Tryz.prog 11 #[geoV3 b l f] w fun e w' => e = .returned (.int .i64 (geoE b l f)) ∧ Below w.heap.size w w' := by
  refine calls_by fun R HR => ?_
  have HB := Lib.hid (alloc_below w (.cells #[.int .i64 b, .int .i64 l, .int .i64 f] 23))
  rcases geo_cases b l f with ⟨h1, h⟩ | ⟨h1, h2, h⟩ | ⟨h1, h2, h3, h⟩ | ⟨h1, h2, h3, h4, h⟩ | ⟨h1, h2, h3, h4, h5, h⟩ | ⟨h1, h2, h3, h4, h5, h6, h⟩ | ⟨h1, h2, h3, h4, h5, h6, h⟩
  all_goals
    have HV : Hid (geoE b l f = (if geoOk b l f then 0 else 2)) := Lib.hid rfl
    rw [h] at HV
    clear h
    go_enter Tryz.func11, Tryz.ntmps11
    go_wp2
    exact HR.out _ _ ⟨by rw [HV.out] <;> rfl, HB.out⟩
theorem gdata_any (b l f : Int) (w : World) (hb : -9223372036854775808 ≤ b ∧ b ≤ 9223372036854775807) : Calls Tryz.prog 49 #[geoV3 b l f] w fun e w' => e = .returned (.int .i64 (geoD b l f)) ∧ Below w.heap.size w w' := by
  refine calls_by fun R HR => ?_
  have HC := Lib.hid (fun w => gcheck_any b l f w)
  obtain ⟨W, hW⟩ : ∃ W, w.alloc (.cells #[.int .i64 b, .int .i64 l, .int .i64 f] 23) = W := ⟨_, rfl⟩
  have HW := Lib.hid (And.intro (show Below w.heap.size w W by rw [← hW]; exact alloc_below w _) (show W.heap[w.heap.size]? = some (.cells #[.int .i64 b, .int .i64 l, .int .i64 f] 23 (0, 0)) by rw [← hW]; exact alloc_new w _))
  obtain ⟨c0, c1, c2, -, -, -⟩ := blk3 HW.out.2
  cases h : geoOk b l f
  · have HV := Lib.hid (geo_no h).2.2
    rw [(geo_no h).2.1] at HC
    clear h hb
    go_enter Tryz.func49, Tryz.ntmps49
    go_wp2_with fail
    refine (HC.out _).mono ?_
    rintro e w1 ⟨rfl, hb1⟩
    have H1 := Lib.hid (HW.out.1.trans (hb1.mono HW.out.1.size))
    clear hb1
    go_wp2
    exact HR.out _ _ ⟨by rw [HV.out] <;> rfl, H1.out⟩
  · have HV := Lib.hid (geo_yes h).2
    rw [(geo_yes h).1] at HC
    obtain ⟨g1, g2, -⟩ := geo_ok.1 h
    clear h hb
    go_enter Tryz.func49, Tryz.ntmps49
    go_wp2_with fail
    refine (HC.out _).mono ?_
    rintro e w1 ⟨rfl, hb1⟩
    have H1 := Lib.hid (And.intro (HW.out.1.trans (hb1.mono HW.out.1.size)) ((hb1.block _ (lt_of_block HW.out.2)).trans HW.out.2))
    clear hb1 c0 c1 c2
    obtain ⟨c0, c1, c2, -, -, -⟩ := blk3 H1.out.2
    go_wp2
    exact HR.out _ _ ⟨by rw [HV.out] <;> rfl, H1.out.1⟩
set_option maxRecDepth 100000 in
set_option maxHeartbeats 4000000 in
theorem groom_any (g : GeoD) (u : Int) (w : World) (hb : -9223372036854775808 ≤ g.blocks ∧ g.blocks ≤ 9223372036854775807) : Calls Tryz.prog 62 #[geoV3 g.blocks g.lbas g.first, .int .i64 u] w fun e w' => e = .returned (.int .i64 (geoRoom g u)) ∧ Below w.heap.size w w' := by
  refine calls_by fun R HR => ?_
  have HC := Lib.hid (fun w => gdata_any g.blocks g.lbas g.first w hb)
  have HZ0 : Hid (geoRoom g u = if u < 0 then 0 else max (geoData g - 1 - min u 1024) 0) := Lib.hid rfl
  have hd : 0 ≤ geoData g ∧ geoData g ≤ 1020 := by
    unfold geoData geoD
    split
    · rename_i h
      have := geo_ok.1 h
      omega
    · omega
  rw [show geoD g.blocks g.lbas g.first = geoData g from rfl] at HC
  generalize geoData g = D at *
  generalize geoRoom g u = GR at *
  obtain ⟨b, l, f⟩ := g
  simp only at HC
  clear hb
  obtain ⟨W, hW⟩ : ∃ W, w.alloc (.cells #[.int .i64 b, .int .i64 l, .int .i64 f] 23) = W := ⟨_, rfl⟩
  have HW := Lib.hid (And.intro (show Below w.heap.size w W by rw [← hW]; exact alloc_below w _) (show W.heap[w.heap.size]? = some (.cells #[.int .i64 b, .int .i64 l, .int .i64 f] 23 (0, 0)) by rw [← hW]; exact alloc_new w _))
  obtain ⟨c0, c1, c2, -, -, -⟩ := blk3 HW.out.2
  by_cases h0 : u < 0
  · have HZ := Lib.hid (show GR = 0 by rw [HZ0.out, if_pos h0])
    go_enter Tryz.func62, Tryz.ntmps62
    go_wp2
    exact HR.out _ _ ⟨by rw [HZ.out]; try rfl, HW.out.1⟩
  · go_enter Tryz.func62, Tryz.ntmps62
    go_wp2_with fail
    refine (HC.out _).mono ?_
    rintro e w1 ⟨rfl, hb1⟩
    have H1 := Lib.hid (HW.out.1.trans (hb1.mono HW.out.1.size))
    clear hb1
    have e1 : wrap64 (D - 1) = D - 1 := by unfold wrap64; omega
    by_cases h1 : u < 1024
    · have e2 : wrap64 (D - 1 - u) = D - 1 - u := by unfold wrap64; omega
      by_cases h2 : 0 < D - 1 - u
      · have HZ := Lib.hid (show GR = D - 1 - u by rw [HZ0.out, if_neg (show ¬ u < 0 by omega)]; omega)
        have h3 : ¬ D - 1 - u < 0 := by omega
        go_wp2
        all_goals exact HR.out _ _ ⟨by first | (rw [HZ.out]; done) | (rw [HZ.out]; rfl) | (rw [HZ.out]; exact congrArg (fun x => Ending.returned (.int .i64 x)) (show max (D - 1 - min u 1024) 0 = D - 1 - u by omega)), H1.out⟩
      · have HZ := Lib.hid (show GR = 0 by rw [HZ0.out, if_neg (show ¬ u < 0 by omega)]; omega)
        go_wp2
        all_goals exact HR.out _ _ ⟨by first | (rw [HZ.out]; done) | (rw [HZ.out]; rfl) | (rw [HZ.out]; rw [show D - 1 - u = 0 by omega]) | (rw [HZ.out]; exact congrArg (fun x => Ending.returned (.int .i64 x)) (show max (D - 1 - min u 1024) 0 = 0 by omega)), H1.out⟩
    · have e2 : wrap64 (D - 1 - 1024) = D - 1 - 1024 := by unfold wrap64; omega
      have h2 : ¬ 0 < D - 1 - 1024 := by omega
      have HZ := Lib.hid (show GR = 0 by rw [HZ0.out, if_neg (show ¬ u < 0 by omega)]; omega)
      go_wp2
      all_goals exact HR.out _ _ ⟨by first | (rw [HZ.out]; done) | (rw [HZ.out]; rfl) | (rw [HZ.out]; exact congrArg (fun x => Ending.returned (.int .i64 x)) (show max (D - 1 - min u 1024) 0 = 0 by omega)), H1.out⟩
end Go.Proofs.YtnkiokaeooopgaaGreat
/- A model in memory: what stands of it. -/
set_option maxRecDepth 100000
namespace Go.Proofs.YtnkiokaeooopgaaGreat
open Go.RowKit Ks Go.Maps
set_option linter.unusedVariables false
/-- a block that is none of a model's own but its rows' -/
def Far (n cc bn c mu mh mg k : Nat) : Prop := k ≠ n ∧ k ≠ cc ∧ ¬ FB bn c mu mh mg k
/-- a model: its clock, its book, its two rows -/
structure ModAt (w : World) (n cc bn c mu mh mg : Nat) (rv vv : Value) (m : ModT) : Prop where
  blk : w.heap[n]? = some (.cells #[.int .i64 m.geo.blocks, .int .i64 m.geo.lbas, .int .i64 m.geo.first, .int .i64 m.used, .pointer (some ⟨cc, 0, none⟩), .pointer (some ⟨bn, 0, none⟩), rv, vv] 53 (0, 0))
  clk : w.heap[cc]? = some (.cells #[.bool true, .int .i64 m.now] 82 (0, 0))
  book : BookAt w bn c mu mh mg m.book
  recs : Row recE w 0 72 rv m.recs
  vers : Row verD w 0 89 vv m.vers
  ne : ∀ k, rv.ownBlock = some k → vv.ownBlock ≠ some k
  far : ∀ k, rv.ownBlock = some k ∨ vv.ownBlock = some k → Far n cc bn c mu mh mg k
/-- the model's block and its clock are none of its book's -/
def Seven (n cc bn c mu mh mg : Nat) : Prop := Five bn c mu mh mg ∧ cc ≠ n ∧ (∀ k, FB bn c mu mh mg k → k ≠ n ∧ k ≠ cc)
section
variable {w w' : World} {n cc bn c mu mh mg : Nat} {rv vv : Value} {m : ModT}
theorem ModAt.lt (h : ModAt w n cc bn c mu mh mg rv vv m) : n < w.heap.size := lt_of_block h.blk
theorem ModAt.below (h : ModAt w n cc bn c mu mh mg rv vv m) (hb : Below w.heap.size w w') : ModAt w' n cc bn c mu mh mg rv vv m :=
  ⟨(hb.block n h.lt).trans h.blk, (hb.block cc (lt_of_block h.clk)).trans h.clk, h.book.below hb, h.recs.below hb, h.vers.below hb, h.ne, h.far⟩
theorem ModAt.farNew (h : ModAt w n cc bn c mu mh mg rv vv m) {k : Nat} (hk : w.heap.size ≤ k) : Far n cc bn c mu mh mg k :=
  ⟨by have := h.lt; omega, by have := lt_of_block h.clk; omega, fun q => by have := h.book.lt k q; omega⟩
/-- what a model has -/
def FM (n cc bn c mu mh mg : Nat) (rv vv : Value) (k : Nat) : Prop := k = n ∨ k = cc ∨ FB bn c mu mh mg k ∨ rv.ownBlock = some k ∨ vv.ownBlock = some k
end
/-- a model that is none, or that no call made -/
def ModNo (w : World) (v : Value) : Prop := v = .pointer none ∨ ∃ n, v = .pointer (some ⟨n, 0, none⟩) ∧ w.heap[n]? = some (.cells #[.int .i64 0, .int .i64 0, .int .i64 0, .int .i64 0, .pointer none, .pointer none, .slice none 0 0, .slice none 0 0] 53 (0, 0))
theorem ModNo.below {w w' : World} {v : Value} (h : ModNo w v) (hb : Below w.heap.size w w') : ModNo w' v := by
  rcases h with h | ⟨n, rfl, h⟩
  · exact Or.inl h
  · exact Or.inr ⟨n, rfl, (hb.block n (lt_of_block h)).trans h⟩
abbrev MPtr (n : Nat) : Value := .pointer (some ⟨n, 0, none⟩)
theorem mthere_yes {n cc bn c mu mh mg : Nat} {rv vv : Value} {m : ModT} (w : World) (h : ModAt w n cc bn c mu mh mg rv vv m) : Calls Tryz.prog 15 #[.pointer (some ⟨n, 0, none⟩)] w fun e w' => e = .returned (.bool true) ∧ w' = w := by
  refine calls_by fun R HR => ?_
  obtain ⟨⟨z0, z1, z2, z3, z4, z5, z6, z7⟩, fz⟩ := blkR h.blk
  clear h fz
  go_enter Tryz.func15, Tryz.ntmps15
  go_wp2
  exact HR.out _ _ ⟨rfl, rfl⟩
theorem mthere_no {v : Value} (w : World) (h : ModNo w v) : Calls Tryz.prog 15 #[v] w fun e w' => e = .returned (.bool false) ∧ w' = w := by
  refine calls_by fun R HR => ?_
  rcases h with rfl | ⟨n, rfl, h⟩
  · go_enter Tryz.func15, Tryz.ntmps15
    go_wp2
    exact HR.out _ _ ⟨rfl, rfl⟩
  · obtain ⟨⟨z0, z1, z2, z3, z4, z5, z6, z7⟩, fz⟩ := blkR h
    clear h fz
    go_enter Tryz.func15, Tryz.ntmps15
    go_wp2
    exact HR.out _ _ ⟨rfl, rfl⟩
theorem mplace_any {n cc bn c mu mh mg : Nat} {rv vv : Value} {m : ModT} (lba : Int) (w : World) (h : ModAt w n cc bn c mu mh mg rv vv m) : Calls Tryz.prog 40 #[.pointer (some ⟨n, 0, none⟩), .int .i64 lba] w fun e w' => e = .returned (.int .i64 (placeE m lba)) ∧ w' = w := by
  refine calls_by fun R HR => ?_
  obtain ⟨⟨z0, z1, z2, z3, z4, z5, z6, z7⟩, fz⟩ := blkR h.blk
  have HZ0 : Hid (placeE m lba = if lba < 0 ∨ m.geo.lbas ≤ lba then 4 else 0) := Lib.hid rfl
  generalize placeE m lba = PE at *
  clear h fz
  by_cases h0 : lba < 0
  · have HZ := Lib.hid (show PE = 4 by rw [HZ0.out, if_pos (Or.inl h0)])
    go_enter Tryz.func40, Tryz.ntmps40
    go_wp2
    exact HR.out _ _ ⟨by rw [HZ.out]; try rfl, rfl⟩
  · by_cases h1 : m.geo.lbas ≤ lba
    · have HZ := Lib.hid (show PE = 4 by rw [HZ0.out, if_pos (Or.inr h1)])
      have h1d : decide (m.geo.lbas ≤ lba) = true := decide_eq_true h1
      go_enter Tryz.func40, Tryz.ntmps40
      go_wp2
      exact HR.out _ _ ⟨by rw [HZ.out]; try rfl, rfl⟩
    · have HZ := Lib.hid (show PE = 0 by rw [HZ0.out, if_neg (fun q => q.elim h0 h1)])
      have h1d : decide (m.geo.lbas ≤ lba) = false := decide_eq_false h1
      go_enter Tryz.func40, Tryz.ntmps40
      go_wp2
      exact HR.out _ _ ⟨by rw [HZ.out]; try rfl, rfl⟩
end Go.Proofs.YtnkiokaeooopgaaGreat
/- Append to a slice that is full makes a new row; such an append in a region that draws its order, and the store of it. Plain. No program is in sight. -/
namespace Ks
open Go Go.RowKit
set_option linter.unusedVariables false
section
variable {α : Type} {E : Enc α}
theorem run_append_full {P : Program} {t ty e : TypeId} {bytes : Nat} (T : ElemT P t e E.k bytes) (w : World) (a : Option Addr) (lv : Value) (L l : List α) (hL : Rd E w (.slice a L.length L.length) L) (hl : Rd E w lv l) (hne : l ≠ []) (b1 : L.length + l.length ≤ 140000000) (b2 : bytes ≤ 1000) :
    ∃ v' w', (Builtin.append_ #[t, t] ty #[.slice a L.length L.length, lv]).run P w = .ok v' w' ∧ Row E w' w.heap.size e v' (L ++ l) ∧ Below w.heap.size w w' := by
  obtain ⟨h1, i, z, h2, h3, h4, h5, h6⟩ := T
  have hmax : L.length + l.length ≤ maxLen := by unfold maxLen; omega
  have hby : (L.length + l.length) * bytes ≤ 140737488355328 := by
    have : (L.length + l.length) * bytes ≤ 140000000 * 1000 := Nat.mul_le_mul b1 b2
    omega
  have hpos : 0 < l.length := List.length_pos_iff.2 hne
  obtain ⟨a2, c2, rfl, _, _⟩ := hl.shape
  obtain ⟨b, o, rfl, _⟩ := hl.at 0 l[0] (List.getElem?_eq_getElem hpos)
  have hsrc : ∀ j u, (E.cs l)[j]? = some u → w.cell? ((⟨b, o, none⟩ : Addr).add j) = some u := fun j u hj => by rw [Addr.add_lit]; exact hl.cells.2 j u hj
  have hlen2 : (L ++ l).length = L.length + l.length := List.length_append
  cases a with
  | none =>
    obtain ⟨a3, c3, e3, _, hz⟩ := hL.shape
    simp only [Value.slice.injEq] at e3
    have hc : c3 = 0 := hz e3.1.symm
    have h0 : L.length = 0 := by omega
    obtain rfl : L = [] := List.length_eq_zero_iff.1 h0
    obtain ⟨v', w', hrun, r1, r2, _⟩ := run_append_own (P := P) w w.heap.size t ty e i z E.k bytes h1 h2 h3 h4 h5 h6 E.pos (.slice none 0 0) 0 [] (World.ownsRow_nil w _ e E.k) ⟨b, o, none⟩ l.length c2 (E.cs l) (E.cs_length l) hsrc (E.cs_one l) (by simpa using hmax) (by simpa using hby) (Nat.le_refl _)
    rw [Nat.zero_add, List.nil_append] at r1
    exact ⟨v', w', hrun, r1, r2.os, r2.tape, r2.output, r2.size, fun k hk => r2.block k hk (by simp [Value.ownBlock])⟩
  | some ad =>
    have hold : ∀ j u, (E.cs L)[j]? = some u → w.cell? (ad.add j) = some u := by
      intro j u hj
      obtain ⟨i', x, j', hx, _, _, _⟩ := E.cs_cell L j u hj
      obtain ⟨b', o', e', _⟩ := hL.at i' x hx
      cases e'
      rw [Addr.add_lit]
      exact hL.cells.2 j u hj
    obtain ⟨v', w', hrun, r1, r2⟩ := run_append_arg_grows (P := P) w t ty e i z E.k bytes h1 h2 h3 h4 h5 h6 E.pos ad L.length L.length (E.cs L) (E.cs_length L) hold ⟨b, o, none⟩ l.length c2 (E.cs l) (E.cs_length l) hsrc (by omega) hmax hby
    refine ⟨v', w', hrun, ?_, r2.os, r2.tape, r2.output, r2.size, fun k hk => r2.block k hk (by simp)⟩
    show w'.ownsRow _ e E.k _ (L ++ l).length (E.cs (L ++ l))
    rw [hlen2, E.cs_append]
    exact r1
variable {P : Program} {ops : Array Oper} {md : Region.Mode} {C : Told → World → Prop}
theorem mv_append_full {Q : Told → Act → Prop} {fuel : Nat} {listed : Array Bool} {F : Told} {a : Act} (i : Nat) {o : Oper}
    (ho : ops[i]? = some o) (hr : Region.ready md ops listed = [i]) (hg : o.guard = none) (s x : Operand) (t : TypeId)
    (hop : o.op = .call { callee := .builtin .append, args := #[s, x], argTypes := #[t, t] }) {e : TypeId} {bytes : Nat} (T : ElemT P t e E.k bytes)
    (ad : Option Addr) (n : Nat) (lv : Value) (L l : List α) (hs : a.eval s = .slice ad n n) (hn : n = L.length) (hx : a.eval x = lv) (hne : l ≠ []) (b1 : L.length + l.length ≤ 140000000) (b2 : bytes ≤ 1000)
    (hrow : ∀ g w, agree md o F g → g i = none → C g w → Rd E w (.slice ad n n) L ∧ Rd E w lv l)
    (V : Value → Prop) (hV : ∀ g w v' w', agree md o F g → g i = none → C g w → Row E w' w.heap.size e v' (L ++ l) → Below w.heap.size w w' → V v' ∧ C (upd g i v') w')
    (hK : ∀ v', V v' → wpAnyM P md ops C Q fuel (listed.setIfInBounds i true) (upd F i v') (a.put o.dst v')) : wpAnyM P md ops C Q (fuel + 1) listed F a := by
  subst hn
  refine mv_alone i ho hr (by simp [Region.wanted, hg]) V (fun g w h0 h1 h2 D hD => ?_) hK
  obtain ⟨r1, r2⟩ := hrow g w h0 h1 h2
  obtain ⟨v', w', hrun, r, rb⟩ := run_append_full (P := P) (t := t) (ty := o.type) T w ad lv L l r1 r2 hne b1 b2
  simp [execOp, hop, resolve, invoke, builtin, hs, hx, hrun, Result.andThen, movesUpon]
  exact hD _ _ (hV g w v' w' h0 h1 h2 r rb).1 (hV g w v' w' h0 h1 h2 r rb).2
end
/-- a class of worlds behind one, where something is read thrice of a cell, what is made of it is joined to others as a new row, and stored into that cell -/
def FullStore {α : Type} (E : Enc α) (w0 : World) (T : TypeId) (R l : List α) (bo co : Nat) (r1 r2 r3 s u z : Option Value) (w : World) : Prop :=
  match z with
  | none => Below w0.heap.size w0 w ∧ (∀ x, s = some x → Rd E w x l) ∧ (∀ x, u = some x → (r1 ≠ none ∧ r2 ≠ none ∧ r3 ≠ none ∧ s ≠ none) ∧ Row E w w0.heap.size T x R)
  | some _ => (r1 ≠ none ∧ r2 ≠ none ∧ r3 ≠ none ∧ s ≠ none) ∧ ∃ u' w1, u = some u' ∧ Below w0.heap.size w0 w1 ∧ Row E w1 w0.heap.size T u' R ∧ w = w1.setCell ⟨bo, co, none⟩ u'
section
variable {α : Type} {E : Enc α} {bo co : Nat} {w0 w w' : World} {T : TypeId} {R l : List α} {r1 r2 r3 s u z : Option Value}
theorem FullStore.start (hb : Below w0.heap.size w0 w) : FullStore E w0 T R l bo co none none none none none none w := ⟨hb, (fun v h => by cases h), (fun v h => by cases h)⟩
theorem FullStore.told (h : FullStore E w0 T R l bo co r1 r2 r3 s u z w) {q1 q2 q3 : Option Value} (h1 : r1 ≠ none → q1 ≠ none) (h2 : r2 ≠ none → q2 ≠ none) (h3 : r3 ≠ none → q3 ≠ none) : FullStore E w0 T R l bo co q1 q2 q3 s u z w := by
  cases z with
  | none => exact ⟨h.1, h.2.1, fun x hx => ⟨⟨h1 (h.2.2 x hx).1.1, h2 (h.2.2 x hx).1.2.1, h3 (h.2.2 x hx).1.2.2.1, (h.2.2 x hx).1.2.2.2⟩, (h.2.2 x hx).2⟩⟩
  | some z => exact ⟨⟨h1 h.1.1, h2 h.1.2.1, h3 h.1.2.2.1, h.1.2.2.2⟩, h.2⟩
theorem FullStore.yet (h : FullStore E w0 T R l bo co r1 r2 r3 s u none w) : Below w0.heap.size w0 w := h.1
theorem FullStore.un1 (h : FullStore E w0 T R l bo co none r2 r3 s u z w) : z = none ∧ u = none := by
  cases z with
  | none =>
    refine ⟨rfl, ?_⟩
    cases u with
    | none => rfl
    | some u => exact absurd rfl (h.2.2 u rfl).1.1
  | some z => exact absurd rfl h.1.1
theorem FullStore.un2 (h : FullStore E w0 T R l bo co r1 none r3 s u z w) : z = none ∧ u = none := by
  cases z with
  | none =>
    refine ⟨rfl, ?_⟩
    cases u with
    | none => rfl
    | some u => exact absurd rfl (h.2.2 u rfl).1.2.1
  | some z => exact absurd rfl h.1.2.1
theorem FullStore.un3 (h : FullStore E w0 T R l bo co r1 r2 none s u z w) : z = none ∧ u = none := by
  cases z with
  | none =>
    refine ⟨rfl, ?_⟩
    cases u with
    | none => rfl
    | some u => exact absurd rfl (h.2.2 u rfl).1.2.2.1
  | some z => exact absurd rfl h.1.2.2.1
theorem FullStore.un4 (h : FullStore E w0 T R l bo co r1 r2 r3 none u z w) : z = none ∧ u = none := by
  cases z with
  | none =>
    refine ⟨rfl, ?_⟩
    cases u with
    | none => rfl
    | some u => exact absurd rfl (h.2.2 u rfl).1.2.2.2
  | some z => exact absurd rfl h.1.2.2.2
theorem FullStore.un5 (h : FullStore E w0 T R l bo co r1 r2 r3 s none z w) : z = none := by
  cases z with
  | none => rfl
  | some z => obtain ⟨_, _, _, e, _⟩ := h; cases e
/-- what was there stands, but for the block that is stored into -/
theorem FullStore.cell {ad : Addr} {x : Value} (h : FullStore E w0 T R l bo co r1 r2 r3 s u z w) (hc : w0.cell? ad = some x) (hbo : ad.block ≠ bo) : w.cell? ad = some x := by
  cases z with
  | none => exact (h.1.cell (p := ad) (World.block_lt_of_cell? _ _ hc)).trans hc
  | some z =>
    obtain ⟨_, u', w1, _, h1, _, rfl⟩ := h
    have hfar : (w1.setCell ⟨bo, co, none⟩ u').cell? ad = w1.cell? ad := World.cell?_of_block (Below.heap_setCell _ _ _ _ hbo)
    rw [hfar]
    exact (h1.cell (p := ad) (World.block_lt_of_cell? _ _ hc)).trans hc
theorem FullStore.on (h : FullStore E w0 T R l bo co r1 r2 r3 none u z w) (hb : Below w.heap.size w w') : FullStore E w0 T R l bo co r1 r2 r3 none u z w' := by
  obtain ⟨rfl, rfl⟩ := h.un4
  exact ⟨h.1.trans (hb.mono h.1.size), (fun v e => by cases e), (fun v e => by cases e)⟩
theorem FullStore.made (h : FullStore E w0 T R l bo co r1 r2 r3 none u z w) (cs : Array Value) (e : cs.toList = E.cs l) (fr : Nat × Nat := (0, 0)) (T' : TypeId) : FullStore E w0 T R l bo co r1 r2 r3 (some (.slice (some ⟨w.heap.size, 0, none⟩) l.length l.length)) u z (w.alloc (.cells cs T' fr)) := by
  obtain ⟨rfl, rfl⟩ := h.un4
  have hb := alloc_below w (.cells cs T' fr)
  exact ⟨h.1.trans (hb.mono h.1.size), (fun x e2 => by cases e2; exact Rd.block (alloc_new w _) e), (fun v e => by cases e)⟩
theorem FullStore.grew {x1 x2 x3 x4 v' : Value} (h : FullStore E w0 T R l bo co (some x1) (some x2) (some x3) (some x4) none z w) (hr : Row E w' w.heap.size T v' R) (hb : Below w.heap.size w w') : FullStore E w0 T R l bo co (some x1) (some x2) (some x3) (some x4) (some v') z w' := by
  obtain rfl := h.un5
  refine ⟨h.1.trans (hb.mono h.1.size), (fun x e => (h.2.1 x e).below hb), fun x e => ?_⟩
  cases e
  exact ⟨⟨(fun e => by cases e), (fun e => by cases e), (fun e => by cases e), (fun e => by cases e)⟩, hr.down h.1.size⟩
theorem FullStore.stored {v' y : Value} (h : FullStore E w0 T R l bo co r1 r2 r3 s (some v') none w) : FullStore E w0 T R l bo co r1 r2 r3 s (some v') (some y) (w.setCell ⟨bo, co, none⟩ v') :=
  ⟨(h.2.2 v' rfl).1, v', w, rfl, h.1, (h.2.2 v' rfl).2, rfl⟩
theorem FullStore.done {u' y : Value} (h : FullStore E w0 T R l bo co r1 r2 r3 s (some u') (some y) w) : ∃ w1, Below w0.heap.size w0 w1 ∧ Row E w1 w0.heap.size T u' R ∧ w = w1.setCell ⟨bo, co, none⟩ u' := by
  obtain ⟨_, u2, w1, e, h1, h2, rfl⟩ := h
  cases e
  exact ⟨w1, h1, h2, rfl⟩
end
/-- an append to a full slice at a step of a region that draws its order -/
theorem step_append_full {P : Program} {ops : Array Oper} {o : Oper} {a : Act} {w : World} {K : Act → World → Prop} {Q : Exit → Act → World → Prop} {F : Prop} {α : Type} {E : Enc α} (hg : o.guard = none) (s x : Operand) (t : TypeId)
    (hop : o.op = Op.call { callee := Callee.builtin Builtin.append, args := #[s, x], argTypes := #[t, t] }) {e : TypeId} {bytes : Nat} (T : ElemT P t e E.k bytes)
    (ad : Option Addr) (n : Nat) (lv : Value) (L l : List α) (hn : n = L.length) (hs : a.eval s = .slice ad n n) (hx : a.eval x = lv) (hL : Rd E w (.slice ad n n) L) (hl : Rd E w lv l) (hne : l ≠ []) (b1 : L.length + l.length ≤ 140000000) (b2 : bytes ≤ 1000)
    (hK : ∀ v' w', Row E w' w.heap.size e v' (L ++ l) → Below w.heap.size w w' → K (a.put o.dst v') w') : if Region.wanted o (yielded ops a.tmps) = true then Oper.wp P o a w K Q else F := by
  subst hn
  obtain ⟨v', w', hrun, r, rb⟩ := run_append_full (P := P) (t := t) (ty := o.type) T w ad lv L l hL hl hne b1 b2
  exact step_append_of hg s x t hop hrun hs hx (hK v' w' r rb)
/-- what is read, or reckoned: what it waits for was told -/
theorem mv_readA {P : Program} {ops : Array Oper} {md : Region.Mode} {C : Told → World → Prop} {Q : Told → Act → Prop} {fuel : Nat} {listed : Array Bool} {f : Told} {a : Act} (i : Nat) {o : Oper} {S : Type} {F : S → World} (hF : ∀ f w, C f w → ∃ s, w = F s) (hm : ∀ g w v, agree md o f g → g i = none → C g w → C (upd g i v) w)
    (ho : ops[i]? = some o) (hs : Region.noSelect ops = true) (hfree : Region.free md ops listed i = true) (hr : (Region.ready md ops listed).contains i = true)
    (h : ∀ K : Value → Act → Prop, (∀ v a, wpAnyM P md ops C Q fuel (listed.setIfInBounds i true) (upd f i v) a → K v a) → if Region.wanted o (yielded ops a.tmps) then ∃ v, (∀ s, Oper.quietUpon P (fun w' => w' = F s) (F s) v ((execOp a.eval o).run P (F s))) ∧ K v (a.put o.dst v) else K undef (a.put o.dst undef)) :
    wpAnyM P md ops C Q (fuel + 1) listed f a := by
  have h := h (fun v a => wpAnyM P md ops C Q fuel (listed.setIfInBounds i true) (upd f i v) a) fun _ _ h => h
  have key : ∀ u, Moves P md ops C o i (fun v => v = u) f a → wpAnyM P md ops C Q fuel (listed.setIfInBounds i true) (upd f i u) (a.put o.dst u) → wpAnyM P md ops C Q (fuel + 1) listed f a := fun u h1 h2 =>
    wpAnyM_first ho (Region.noSelect_spec hs) fuel listed f a (Region.free_spec ho hfree) (by simpa using hr) h1 h2
  split at h
  · rename_i hw
    obtain ⟨v, h1, h2⟩ := h
    refine key v (.inl ⟨hw, fun g w ha hn hC => ?_⟩) h2
    obtain ⟨s, rfl⟩ := hF g w hC
    have h3 := h1 s
    generalize (execOp a.eval o).run P (F s) = r at *
    cases r with
    | ok n w' =>
      cases n <;> simp only [Oper.quietUpon] at h3 <;> simp only [movesUpon]
      case value u => obtain ⟨rfl, rfl⟩ := h3; exact ⟨rfl, hm _ _ _ ha hn hC⟩
      case skip => obtain ⟨rfl, rfl⟩ := h3; exact ⟨rfl, hm _ _ _ ha hn hC⟩
      case enter g args =>
        obtain ⟨rfl, h4⟩ := h3
        exact h4.mono fun e w'' ⟨he, hw''⟩ => by subst hw''; exact ⟨v, he, rfl, hm _ _ _ ha hn hC⟩
    | halt x w' => simp only [Oper.quietUpon] at h3
  · rename_i hw
    exact key undef (.inr ⟨by simpa using hw, rfl, fun g w ha hn hC => hm _ _ _ ha hn hC⟩) h
theorem told_self (f : Told) (k : Nat) (v : Value) : upd f k v k ≠ none := by rw [upd_self]; exact fun e => by cases e
theorem told_by {g F : Told} {k : Nat} {v : Value} (h : g k = F k) (h2 : F k = some v) : g k ≠ none := by rw [h, h2]; exact fun e => by cases e
theorem FullStore.grew2 {α : Type} {E : Enc α} {bo co : Nat} {w0 w w' : World} {T : TypeId} {R l : List α} {r1 r2 r3 s z : Option Value} {v' : Value} (h : FullStore E w0 T R l bo co r1 r2 r3 s none z w) (k : r1 ≠ none ∧ r2 ≠ none ∧ r3 ≠ none ∧ s ≠ none) (hr : Row E w' w.heap.size T v' R) (hb : Below w.heap.size w w') : FullStore E w0 T R l bo co r1 r2 r3 s (some v') z w' := by
  obtain rfl := h.un5
  refine ⟨h.1.trans (hb.mono h.1.size), (fun x e => (h.2.1 x e).below hb), fun x e => ?_⟩
  cases e
  exact ⟨k, hr.down h.1.size⟩
end Ks
