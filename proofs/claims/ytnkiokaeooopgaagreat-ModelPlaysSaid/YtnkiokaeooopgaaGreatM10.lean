/- Texts that the claim rests on, part 10: RRec, RDo. -/
import Derived.Test.YtnkiokaeooopgaaGreatM9
/- The document's model: a record taken, a version written. -/
set_option maxRecDepth 100000
namespace Ks
open Go Go.RowKit
def recordE (m : ModT) (r : RecT) (room : Int) : Int := if mayE m.book r ≠ 0 then mayE m.book r else if room < 1 then 5 else 0
def recordM (m : ModT) (r : RecT) (room : Int) : ModT := if recordE m r room = 0 then applyM m r else m
theorem AppAt.row {α β : Type} {E : Enc α} {B bo off : Nat} {w0 w : World} {T : TypeId} {v : Value} {L l : List α} {a s u z : Option Value} (h : AppAt E B w0 T v L l bo off a s u z w) {E' : Enc β} {B' : Nat} {T' : TypeId} {x : Value} {L' : List β} (hr : Row E' w0 B' T' x L') (hne : ∀ k, x.ownBlock = some k → v.ownBlock ≠ some k) (hbo : ∀ k, x.ownBlock = some k → k ≠ bo) (hs : w0.heap.size ≤ w.heap.size) : Rd E' w x L' := by
  rcases hr.2 with ⟨rfl, h0⟩ | ⟨g, cap, cur, rfl, r1, r2, r3⟩
  · have : L' = [] := List.length_eq_zero_iff.1 h0
    subst this
    exact Rd.nil w
  · refine hr.rd.keep hs fun b hb => ?_
    cases hb
    rw [r2]
    exact h.block r2 (hne g rfl) (hbo g rfl)
theorem AppAt.size {α : Type} {E : Enc α} {B bo off : Nat} {w0 w : World} {T : TypeId} {v : Value} {L l : List α} {a s u z : Option Value} (h : AppAt E B w0 T v L l bo off a s u z w) : w0.heap.size ≤ w.heap.size := by
  cases z with
  | none => exact h.1.size
  | some z =>
    obtain ⟨_, u', w1, _, h1, rfl⟩ := h
    have := h1.size
    simpa using this
end Ks
namespace Go.Proofs.YtnkiokaeooopgaaGreat
open Go.RowKit Ks
set_option linter.unusedVariables false
set_option linter.unusedSimpArgs false
theorem eg_rbepoch : ∀ args w, (callFunc 25 args).run Tryz.prog w = .ok (.enter 25 args) w := fun _ _ => rfl
theorem verTR : ElemT Tryz.prog 57 76 verD.k 32 := elemT_of Tryz.underlying57 (by kernel_rfl : (Tryz.prog.info? 76).map (fun i => (i.zero, i.size, i.bytes)) = some (some (.agg #[.int .i64 0, .int .i64 0, .string ⟨#[]⟩]), 3, 32)) rfl
set_option maxRecDepth 100000 in
set_option maxHeartbeats 4000000 in
theorem bkepoch_eq {b o : Nat} {f : Int} {v : Value} {l : List RecT} (w : World) (h : BkR w b o f v l) (hl : l.length ≤ 100000) (hf : 0 ≤ f ∧ f ≤ 4294967295) : Calls Tryz.prog 25 #[.pointer (some ⟨b, o, none⟩)] w fun e w' => e = .returned (.int .i64 (epochR f l)) ∧ w' = w := by
  refine calls_by fun R HR => ?_
  have HB := Lib.hid h
  have HN := Lib.hid hl
  obtain ⟨la, lc, rfl, -⟩ := h.rd.shape
  clear h hl
  have HFf := Lib.hid hf
  clear hf
  have c0 := HB.out.c0
  have c1 := HB.out.c1
  go_enter Tryz.func25, Tryz.ntmps25
  go_wp2_with fail
  go_loopw [3, 4] (fun n i wx => ∃ k : Nat, k ≤ l.length ∧ n = .int .i64 (epochR f (l.take k)) ∧ i = .int .i64 (k : Int) ∧ wx = w) (fun _ i _ => l.length - (intOf i).toNat)
  case atStart => exact ⟨0, Nat.zero_le _, rfl, rfl, rfl⟩
  case round =>
    obtain ⟨k, hk, rfl, rfl, hwr⟩ := hrel
    subst hwr
    clear c0
    by_cases hlt : k < l.length
    case neg =>
      obtain rfl : k = l.length := by omega
      rw [List.take_length]
      have hki : ¬ (l.length : Int) < (l.length : Int) := by omega
      go_wp2
      exact HR.out _ _ ⟨rfl, rfl⟩
    have hki : (k : Int) < (l.length : Int) := by omega
    obtain ⟨x, hx⟩ : ∃ x, l[k]? = some x := ⟨_, List.getElem?_eq_getElem hlt⟩
    obtain ⟨bb, oo, ha, hb0, dd⟩ := HB.out.rd.at k x hx
    cases ha
    have HX := Lib.hid hx
    have d0 : wr.cell? ⟨bb, oo + k * 8, none⟩ = some (.int .i64 x.kind) := dd 0 _ rfl
    clear dd hx hb0
    have hw64 : wrap64 ((k : Int) + 1) = ((k + 1 : Nat) : Int) := by have := HN.out; unfold wrap64; omega
    have HT := Lib.hid (epochR_take f l k x HX.out)
    have hle := epochR_le f (l.take k)
    have hw := HFf.out
    have hlen := HN.out
    have hew : wrap64 (epochR f (l.take k) + 1) = epochR f (l.take k) + 1 := by rw [List.length_take] at hle; unfold wrap64; omega
    clear hle hw hlen
    generalize epochR f (l.take k) = E at *
    by_cases k1 : x.kind = 1
    · have HE := Lib.hid (show epochR f (l.take (k + 1)) = E + 1 by rw [HT.out, if_pos k1])
      have k1b : (x.kind == 1) = true := by simpa using k1
      clear k1
      go_wp2
      go_roundw
      case rel => exact ⟨k + 1, by omega, by rw [HE.out, hew], by first | rw [hw64] | go_num, by trivial⟩
      case measure => first | (rw [hw64]; simp [intOf]; omega) | (simp [intOf]; omega)
    · have HE := Lib.hid (show epochR f (l.take (k + 1)) = E by rw [HT.out, if_neg k1])
      have k1b : (x.kind == 1) = false := by simpa using k1
      clear k1
      go_wp2
      go_roundw
      case rel => exact ⟨k + 1, by omega, by rw [HE.out], by first | rw [hw64] | go_num, by trivial⟩
      case measure => first | (rw [hw64]; simp [intOf]; omega) | (simp [intOf]; omega)
set_option maxRecDepth 100000 in
set_option maxHeartbeats 8000000 in
theorem rrecord_any {n : Nat} {rv vv : Value} {m : ModT} (r : RecT) (room : Int) (w : World) (h : RMd w n rv vv m) (hi : ModI m) (ht : Ks.Twin m) :
    Calls Tryz.prog 27 #[.pointer (some ⟨n, 0, none⟩), recV r, .int .i64 room] w fun e w' => e = .returned (.int .i64 (recordE m { r with epoch := m.book.epoch, time := m.now } room)) ∧ ∃ rv', RMd w' n rv' vv (recordM m { r with epoch := m.book.epoch, time := m.now } room) ∧ Turn w w' (FR n rv vv) (FR n rv' vv) := by
  refine calls_by fun R HR => ?_
  obtain ⟨kd, ep, tm, ct, tg, un, rt, nm⟩ := r
  have HD := Lib.hid h
  have HL := Lib.hid (mi_len hi)
  have HEp := Lib.hid (fun A (q : RMd A n rv vv m) => repoch_any A q hi ht)
  have HMy := Lib.hid (fun A (q : RMd A n rv vv m) => rmay_any ⟨kd, m.book.epoch, m.now, ct, tg, un, rt, nm⟩ A q hi ht)
  have HAp := Lib.hid (fun A (q : RMd A n rv vv m) => rapply_any ⟨kd, m.book.epoch, m.now, ct, tg, un, rt, nm⟩ A q (by have := mi_len hi; omega) (mi_len hi).2.2.1 ht.good)
  rw [tw_may ht] at HAp
  have HV : Hid (recordE m ⟨kd, m.book.epoch, m.now, ct, tg, un, rt, nm⟩ room = if mayE m.book ⟨kd, m.book.epoch, m.now, ct, tg, un, rt, nm⟩ ≠ 0 then mayE m.book ⟨kd, m.book.epoch, m.now, ct, tg, un, rt, nm⟩ else if room < 1 then 5 else 0) := Lib.hid rfl
  have HM : Hid (recordM m ⟨kd, m.book.epoch, m.now, ct, tg, un, rt, nm⟩ room = if recordE m ⟨kd, m.book.epoch, m.now, ct, tg, un, rt, nm⟩ room = 0 then applyM m ⟨kd, m.book.epoch, m.now, ct, tg, un, rt, nm⟩ else m) := Lib.hid rfl
  have HA : Hid (applyM m ⟨kd, m.book.epoch, m.now, ct, tg, un, rt, nm⟩ = { m with used := m.used + 1, book := applyB m.book ⟨kd, m.book.epoch, m.now, ct, tg, un, rt, nm⟩, recs := m.recs ++ [⟨kd, m.book.epoch, m.now, ct, tg, un, rt, nm⟩] }) := Lib.hid rfl
  simp only at HR
  generalize recordE m ⟨kd, m.book.epoch, m.now, ct, tg, un, rt, nm⟩ room = RE at *
  generalize recordM m ⟨kd, m.book.epoch, m.now, ct, tg, un, rt, nm⟩ room = RM at *
  generalize applyM m ⟨kd, m.book.epoch, m.now, ct, tg, un, rt, nm⟩ = AM at *
  generalize mayE m.book ⟨kd, m.book.epoch, m.now, ct, tg, un, rt, nm⟩ = ME at *
  generalize applyB m.book ⟨kd, m.book.epoch, m.now, ct, tg, un, rt, nm⟩ = AB at *
  generalize m.book.epoch = E at *
  clear h hi ht
  have H1 := Lib.hid (And.intro (Below.refl w.heap.size w) (HD.out))
  obtain ⟨W1, hW1⟩ : ∃ W1, w.alloc (.cells #[.int .i64 kd, .int .i64 (ep), .int .i64 (tm), .int .i64 ct, .int .i64 tg, .int .i64 un, .string rt, .string nm] 72) = W1 := ⟨_, rfl⟩
  have hbW1 : Below w.heap.size w W1 := by rw [← hW1]; exact alloc_below w _
  have kW1 : W1.heap[w.heap.size]? = some (.cells #[.int .i64 kd, .int .i64 (ep), .int .i64 (tm), .int .i64 ct, .int .i64 tg, .int .i64 un, .string rt, .string nm] 72 (0, 0)) := by rw [← hW1]; exact alloc_new w _
  have H2 := Lib.hid (And.intro (H1.out.1.trans (hbW1.mono H1.out.1.size)) (And.intro (H1.out.2.below hbW1) (kW1)))
  clear hbW1 kW1
  go_enter Tryz.func27, Tryz.ntmps27
  go_wp2_with fail
  refine (HEp.out W1 H2.out.2.1).mono ?_
  rintro en v1 ⟨rfl, hb⟩
  have H3 := Lib.hid (And.intro (H2.out.1.trans (hb.mono H2.out.1.size)) (And.intro (H2.out.2.1.below hb) (blk_on hb H2.out.2.2)))
  clear hb
  clear hW1 HEp
  have hwn : n < w.heap.size := HD.out.ltn
  obtain ⟨⟨r0, r1, r2, r3, r4, r5, r6, r7⟩, fr⟩ := blkR H3.out.2.2
  have fr1 := fr 1
  obtain ⟨W2, hW2⟩ : ∃ W, v1.setCell ⟨w.heap.size, 1, none⟩ (.int .i64 E) = W := ⟨_, rfl⟩
  have kb2 : W2.heap[w.heap.size]? = some (.cells #[.int .i64 kd, .int .i64 (E), .int .i64 (tm), .int .i64 ct, .int .i64 tg, .int .i64 un, .string rt, .string nm] 72 (0, 0)) := by rw [← hW2]; exact set_blk H3.out.2.2 1 _
  have hb2 : Below w.heap.size w W2 := by rw [← hW2]; exact H3.out.1.setCell (Nat.le_refl _) _
  have hm2 : RMd W2 n rv vv m := HD.out.below hb2
  obtain ⟨⟨m0, m1, m2, m3, m4, m5, m6, m7⟩, -⟩ := blkR hm2.blk
  obtain ⟨⟨s0, s1, s2, s3, s4, s5, s6, s7⟩, fs⟩ := blkR kb2
  have fs2 := fs 2
  obtain ⟨W3, hW3⟩ : ∃ W, W2.setCell ⟨w.heap.size, 2, none⟩ (.int .i64 m.now) = W := ⟨_, rfl⟩
  have kb3 : W3.heap[w.heap.size]? = some (.cells #[.int .i64 kd, .int .i64 (E), .int .i64 (m.now), .int .i64 ct, .int .i64 tg, .int .i64 un, .string rt, .string nm] 72 (0, 0)) := by rw [← hW3]; exact set_blk kb2 2 _
  have hb3 : Below w.heap.size w W3 := by rw [← hW3]; exact hb2.setCell (Nat.le_refl _) _
  have H3 := Lib.hid (And.intro hb3 (And.intro (HD.out.below hb3) kb3))
  clear kb2 hb2 hm2 kb3 hb3 fr fs
  go_upto_region 3 with fail
  try rw [hW2]
  try rw [hW3]
  clear hW2 hW3 r0 r1 r2 r3 r4 r5 r6 r7 fr1 m0 m1 m2 m3 m4 m5 m6 m7 s0 s1 s2 s3 s4 s5 s6 s7 fs2
  obtain ⟨⟨r0, r1, r2, r3, r4, r5, r6, r7⟩, -⟩ := blkR H3.out.2.2
  have g0 := fun p => after_cell r0 p
  have g1 := fun p => after_cell r1 p
  have g2 := fun p => after_cell r2 p
  have g3 := fun p => after_cell r3 p
  have g4 := fun p => after_cell r4 p
  have g5 := fun p => after_cell r5 p
  have g6 := fun p => after_cell r6 p
  have g7 := fun p => after_cell r7 p
  have cM := Lib.hid (fun p => calls_after (p := p) (HMy.out (After W3 p) (H3.out.2.1.below (after_below W3 p))))
  refine wp_region_after (by kernel_rfl) (by kernel_rfl) ?_
  repeat (go_big_quiet_step (fail))
  go_big_quiet_step (exact cM.out _)
  repeat (go_big_quiet_step (fail))
  refine wpQuiet_nil ?_
  rintro q1 ⟨p9, rfl⟩
  have hb := after_below W3 p9
  have H4 := Lib.hid (And.intro (H3.out.1.trans (hb.mono H3.out.1.size)) (And.intro (H3.out.2.1.below hb) (blk_on hb H3.out.2.2)))
  generalize After W3 p9 = q1 at *
  clear hb cM HMy r0 r1 r2 r3 r4 r5 r6 r7 g0 g1 g2 g3 g4 g5 g6 g7
  by_cases h1 : ME = 0
  case neg =>
    have hb1 : (ME != 0) = true := by simpa using h1
    have HZ := Lib.hid (show RE = ME ∧ RM = m from (fun e => ⟨e, by rw [HM.out, if_neg (by rw [e]; exact h1)]⟩) (show RE = ME by rw [HV.out, if_pos h1]))
    clear h1
    go_wp2
    exact HR.out _ _ ⟨by rw [HZ.out.1] <;> rfl, rv, by rw [HZ.out.2]; exact H4.out.2.1, Turn.of_below _ H4.out.1⟩
  subst h1
  by_cases h2 : room < 1
  case pos =>
    have hd2 : decide (room < 1) = true := decide_eq_true h2
    have HZ := Lib.hid (show RE = 5 ∧ RM = m from (fun e => ⟨e, by rw [HM.out, if_neg (by rw [e]; decide)]⟩) (show RE = 5 by rw [HV.out, if_neg (show ¬ (0 : Int) ≠ 0 by decide), if_pos h2]))
    go_wp2
    exact HR.out _ _ ⟨by rw [HZ.out.1] <;> rfl, rv, by rw [HZ.out.2]; exact H4.out.2.1, Turn.of_below _ H4.out.1⟩
  have hd2 : decide (room < 1) = false := decide_eq_false h2
  have HZ := Lib.hid (show RE = 0 ∧ RM = AM from (fun e => ⟨e, by rw [HM.out, if_pos e]⟩) (show RE = 0 by rw [HV.out, if_neg (show ¬ (0 : Int) ≠ 0 by decide), if_neg h2]))
  go_upto_region 8 with fail
  obtain ⟨⟨r0, r1, r2, r3, r4, r5, r6, r7⟩, -⟩ := blkR H4.out.2.2
  have g0 := fun p => after_cell r0 p
  have g1 := fun p => after_cell r1 p
  have g2 := fun p => after_cell r2 p
  have g3 := fun p => after_cell r3 p
  have g4 := fun p => after_cell r4 p
  have g5 := fun p => after_cell r5 p
  have g6 := fun p => after_cell r6 p
  have g7 := fun p => after_cell r7 p
  refine wp_region_after_tail 4 (by kernel_rfl) (by kernel_rfl) ?_
  simp only [List.take_succ_cons, List.take_zero, List.drop_succ_cons, List.drop_zero]
  repeat (go_big_quiet_step (fail))
  refine wpQuiet_nil ?_
  rintro q2 ⟨p9, rfl⟩
  have hb := after_below q1 p9
  have H5 := Lib.hid (And.intro (H4.out.1.trans (hb.mono H4.out.1.size)) (H4.out.2.1.below hb))
  generalize After q1 p9 = q2 at *
  clear hb r0 r1 r2 r3 r4 r5 r6 r7 g0 g1 g2 g3 g4 g5 g6 g7 hd2 h2
  have HAq := Lib.hid (HAp.out q2 H5.out.2)
  go_wp2_with fail
  refine HAq.out.mono ?_
  rintro en y1 ⟨rfl, rv2, hm2, ht2⟩
  simp only [if_true] at hm2
  have H6 := Lib.hid (And.intro hm2 ((Turn.of_below _ H5.out.1).trans ht2))
  clear hm2 ht2 HAq HAp
  obtain ⟨⟨z0, z1, z2, z3, z4, z5, z6, z7⟩, fz⟩ := blkR H6.out.1.blk
  have f3 := fz 3
  have hwu : wrap64 (m.used + 1) = m.used + 1 := by have := HL.out; unfold wrap64; omega
  clear fz
  simp only at z0 z1 z2 z3 z4 z5 z6 z7
  go_wp2
  refine HR.out _ _ ⟨by rw [HZ.out.1] <;> rfl, rv2, ?_, H6.out.2.trans (Turn.cell _ n 3 _ (Or.inl rfl))⟩
  rw [HZ.out.2, HA.out]
  exact ⟨set_blk H6.out.1.blk 3 _, H6.out.1.recs.keep fun k e => set_ne _ (H6.out.1.far k (Or.inl e)), H6.out.1.vers.keep fun k e => set_ne _ (H6.out.1.far k (Or.inr e)), H6.out.1.ne, H6.out.1.far⟩
set_option maxRecDepth 100000 in
set_option maxHeartbeats 8000000 in
theorem rwrite_any {n : Nat} {rv vv : Value} {m : ModT} (ki lb ce ti : Int) (da na : ByteArray) (ka : Option Addr) (kn kc : Nat) (w : World) (h : RMd w n rv vv m) (hi : ModI m) (ht : Ks.Twin m) :
    Calls Tryz.prog 23 #[.pointer (some ⟨n, 0, none⟩), .agg #[.int .i64 ki, .int .i64 lb, .int .i64 ce, .int .i64 ti, .string da, .string na, .slice ka kn kc]] w fun e w' => e = .returned (.int .i64 (Ks.writeE m ⟨ki, lb, ce, ti, da, na⟩)) ∧ ∃ vv', RMd w' n rv vv' (Ks.writeM m ⟨ki, lb, ce, ti, da, na⟩) ∧ Turn w w' (FR n rv vv) (FR n rv vv') := by
  refine calls_by fun R HR => ?_
  have HD := Lib.hid h
  have HL := Lib.hid (mi_len hi)
  have HEp : Hid (∀ A, BkR A n 5 m.geo.first rv m.recs → Calls Tryz.prog 25 #[.pointer (some ⟨n, 5, none⟩)] A fun e w' => e = .returned (.int .i64 m.book.epoch) ∧ w' = A) := Lib.hid (fun A q => by have := bkepoch_eq A q (by have := mi_len hi; omega) (mi_len hi).2.2.1; rwa [tw_epoch ht] at this)
  have HRo := Lib.hid (fun A (q : RMd A n rv vv m) => rroom_any A q hi ht)
  have HV : Hid (Ks.writeE m ⟨ki, lb, ce, ti, da, na⟩ = if (if lb < 0 ∨ m.geo.lbas ≤ lb then (4 : Int) else 0) ≠ 0 then (if lb < 0 ∨ m.geo.lbas ≤ lb then (4 : Int) else 0) else if 4000 < da.size then 2 else if roomM m = 0 then 5 else 0) := Lib.hid rfl
  have HM : Hid (Ks.writeM m ⟨ki, lb, ce, ti, da, na⟩ = if Ks.writeE m ⟨ki, lb, ce, ti, da, na⟩ = 0 then { m with used := m.used + 1, vers := m.vers ++ [(lb, m.book.epoch, da)] } else m) := Lib.hid rfl
  have HRn := Lib.hid (show 0 ≤ roomM m by unfold roomM geoRoom; split <;> omega)
  generalize Ks.writeE m ⟨ki, lb, ce, ti, da, na⟩ = WE at *
  generalize Ks.writeM m ⟨ki, lb, ce, ti, da, na⟩ = WM at *
  generalize roomM m = RO at *
  generalize m.book.epoch = E at *
  clear h hi ht
  have H1 := Lib.hid (And.intro (Below.refl w.heap.size w) (HD.out))
  obtain ⟨W1, hW1⟩ : ∃ W1, w.alloc (.cells #[.int .i64 ki, .int .i64 lb, .int .i64 ce, .int .i64 ti, .string da, .string na, .slice ka kn kc] 35) = W1 := ⟨_, rfl⟩
  have hbW1 : Below w.heap.size w W1 := by rw [← hW1]; exact alloc_below w _
  have kW1 : W1.heap[w.heap.size]? = some (.cells #[.int .i64 ki, .int .i64 lb, .int .i64 ce, .int .i64 ti, .string da, .string na, .slice ka kn kc] 35 (0, 0)) := by rw [← hW1]; exact alloc_new w _
  have H2 := Lib.hid (And.intro (H1.out.1.trans (hbW1.mono H1.out.1.size)) (And.intro (H1.out.2.below hbW1) (kW1)))
  clear hbW1 kW1
  obtain ⟨a0, a1, a2, a3, a4, a5, a6⟩ := blk7c H2.out.2.2
  obtain ⟨⟨z0, z1, z2, z3, z4, z5, z6, z7⟩, fz⟩ := blkR H2.out.2.1.blk
  go_enter Tryz.func23, Tryz.ntmps23
  go_upto_region 1 with fail
  clear hW1
  by_cases c1 : lb < 0
  case pos =>
    have d1 : decide (lb < 0) = true := decide_eq_true c1
    have HZ := Lib.hid (show WE = 4 ∧ WM = m from (fun e => ⟨e, by rw [HM.out, if_neg (by rw [e]; decide)]⟩) (show WE = 4 by rw [HV.out, if_pos (Or.inl c1), if_pos (show (4 : Int) ≠ 0 by decide)]))
    have ga1 := fun p => after_cell a1 p
    have gz1 := fun p => after_cell z1 p
    refine wp_region_after (by kernel_rfl) (by kernel_rfl) ?_
    repeat (go_big_quiet_step (fail))
    refine wpQuiet_nil ?_
    rintro q1 ⟨p9, rfl⟩
    have hb := after_below W1 p9
    have H3 := Lib.hid (And.intro (H2.out.1.trans (hb.mono H2.out.1.size)) (And.intro (H2.out.2.1.below hb) (blk_on hb H2.out.2.2)))
    generalize After W1 p9 = q1 at *
    clear hb ga1 gz1
    clear a0 a1 a2 a3 a4 a5 a6 z0 z1 z2 z3 z4 z5 z6 z7 fz
    go_wp2
    exact HR.out _ _ ⟨by rw [HZ.out.1] <;> rfl, vv, by rw [HZ.out.2]; exact H3.out.2.1, Turn.of_below _ H3.out.1⟩
  have d1 : decide (lb < 0) = false := decide_eq_false c1
  by_cases c2 : m.geo.lbas ≤ lb
  case pos =>
    have d2 : decide (m.geo.lbas ≤ lb) = true := decide_eq_true c2
    have HZ := Lib.hid (show WE = 4 ∧ WM = m from (fun e => ⟨e, by rw [HM.out, if_neg (by rw [e]; decide)]⟩) (show WE = 4 by rw [HV.out, if_pos (Or.inr c2), if_pos (show (4 : Int) ≠ 0 by decide)]))
    have ga1 := fun p => after_cell a1 p
    have gz1 := fun p => after_cell z1 p
    refine wp_region_after (by kernel_rfl) (by kernel_rfl) ?_
    repeat (go_big_quiet_step (fail))
    refine wpQuiet_nil ?_
    rintro q1 ⟨p9, rfl⟩
    have hb := after_below W1 p9
    have H3 := Lib.hid (And.intro (H2.out.1.trans (hb.mono H2.out.1.size)) (And.intro (H2.out.2.1.below hb) (blk_on hb H2.out.2.2)))
    generalize After W1 p9 = q1 at *
    clear hb ga1 gz1
    clear a0 a1 a2 a3 a4 a5 a6 z0 z1 z2 z3 z4 z5 z6 z7 fz
    go_wp2
    exact HR.out _ _ ⟨by rw [HZ.out.1] <;> rfl, vv, by rw [HZ.out.2]; exact H3.out.2.1, Turn.of_below _ H3.out.1⟩
  have d2 : decide (m.geo.lbas ≤ lb) = false := decide_eq_false c2
  have HC := Lib.hid (show ¬ (lb < 0 ∨ m.geo.lbas ≤ lb) by omega)
  clear c1 c2
  have ga1 := fun p => after_cell a1 p
  have gz1 := fun p => after_cell z1 p
  refine wp_region_after (by kernel_rfl) (by kernel_rfl) ?_
  repeat (go_big_quiet_step (fail))
  refine wpQuiet_nil ?_
  rintro q1 ⟨p9, rfl⟩
  have hb := after_below W1 p9
  have H3 := Lib.hid (And.intro (H2.out.1.trans (hb.mono H2.out.1.size)) (And.intro (H2.out.2.1.below hb) (blk_on hb H2.out.2.2)))
  generalize After W1 p9 = q1 at *
  clear hb ga1 gz1
  clear a0 a1 a2 a3 a4 a5 a6 z0 z1 z2 z3 z4 z5 z6 z7 fz
  obtain ⟨a0, a1, a2, a3, a4, a5, a6⟩ := blk7c H3.out.2.2
  obtain ⟨⟨z0, z1, z2, z3, z4, z5, z6, z7⟩, fz⟩ := blkR H3.out.2.1.blk
  by_cases c3 : (4000 : Int) < (da.size : Int)
  case pos =>
    have d3 : decide ((4000 : Int) < (da.size : Int)) = true := decide_eq_true c3
    have d3' : decide (4000 < da.size) = true := decide_eq_true (by omega)
    have HZ := Lib.hid (show WE = 2 ∧ WM = m from (fun e => ⟨e, by rw [HM.out, if_neg (by rw [e]; decide)]⟩) (show WE = 2 by rw [HV.out, if_neg HC.out, if_neg (show ¬ (0 : Int) ≠ 0 by decide), if_pos (show 4000 < da.size by omega)]))
    clear a0 a1 a2 a3 a5 a6 z0 z1 z2 z3 z4 z5 z6 z7 fz
    go_wp2
    exact HR.out _ _ ⟨by rw [HZ.out.1] <;> rfl, vv, by rw [HZ.out.2]; exact H3.out.2.1, Turn.of_below _ H3.out.1⟩
  have d3 : decide ((4000 : Int) < (da.size : Int)) = false := decide_eq_false c3
  have d3' : decide (4000 < da.size) = false := decide_eq_false (by omega)
  have HC3 := Lib.hid (show ¬ 4000 < da.size by omega)
  clear c3
  go_wp2_with fail
  refine (HRo.out q1 H3.out.2.1).mono ?_
  rintro en v1 ⟨rfl, hb⟩
  have H4 := Lib.hid (And.intro (H3.out.1.trans (hb.mono H3.out.1.size)) (And.intro (H3.out.2.1.below hb) (blk_on hb H3.out.2.2)))
  clear hb
  clear a0 a1 a2 a3 a4 a5 a6 z0 z1 z2 z3 z4 z5 z6 z7 fz
  obtain ⟨a0, a1, a2, a3, a4, a5, a6⟩ := blk7c H4.out.2.2
  obtain ⟨⟨z0, z1, z2, z3, z4, z5, z6, z7⟩, fz⟩ := blkR H4.out.2.1.blk
  by_cases c4 : RO = 0
  case pos =>
    have d4 : decide (RO < 1) = true := decide_eq_true (by omega)
    have d4' : RO < 1 := by omega
    have HZ := Lib.hid (show WE = 5 ∧ WM = m from (fun e => ⟨e, by rw [HM.out, if_neg (by rw [e]; decide)]⟩) (show WE = 5 by rw [HV.out, if_neg HC.out, if_neg (show ¬ (0 : Int) ≠ 0 by decide), if_neg HC3.out, if_pos c4]))
    clear c4
    go_wp2
    exact HR.out _ _ ⟨by rw [HZ.out.1] <;> rfl, vv, by rw [HZ.out.2]; exact H4.out.2.1, Turn.of_below _ H4.out.1⟩
  have d4 : decide (RO < 1) = false := decide_eq_false (by have := HRn.out; omega)
  have d4' : ¬ RO < 1 := by have := HRn.out; omega
  have HZ := Lib.hid (show WE = 0 ∧ WM = { m with used := m.used + 1, vers := m.vers ++ [(lb, E, da)] } from (fun e => ⟨e, by rw [HM.out, if_pos e]⟩) (show WE = 0 by rw [HV.out, if_neg HC.out, if_neg (show ¬ (0 : Int) ≠ 0 by decide), if_neg HC3.out, if_neg c4]))
  clear c4
  have f3 := fz 3
  have hwu : wrap64 (m.used + 1) = m.used + 1 := by have := HL.out; unfold wrap64; omega
  clear fz
  obtain ⟨P1, hP1⟩ : ∃ W, v1.setCell ⟨n, 3, none⟩ (.int .i64 (m.used + 1)) = W := ⟨_, rfl⟩
  have hwn : n < w.heap.size := HD.out.ltn
  have KB := Lib.hid (show P1.heap[n]? = some (.cells #[.int .i64 m.geo.blocks, .int .i64 m.geo.lbas, .int .i64 m.geo.first, .int .i64 (m.used + 1), .int .i64 m.now, .int .i64 m.geo.first, rv, vv] 59 (0, 0)) by rw [← hP1]; exact set_blk H4.out.2.1.blk 3 _)
  have KA := Lib.hid (show P1.heap[w.heap.size]? = some (.cells #[.int .i64 ki, .int .i64 lb, .int .i64 ce, .int .i64 ti, .string da, .string na, .slice ka kn kc] 35 (0, 0)) by rw [← hP1]; exact (set_ne _ (by omega)).trans H4.out.2.2)
  have KM := Lib.hid H4.out.2.1
  have KV := Lib.hid (show Row verD P1 0 76 vv m.vers by rw [← hP1]; exact KM.out.vers.keep fun k e => set_ne _ (KM.out.far k (Or.inr e)))
  have KR := Lib.hid (show Row recE P1 0 72 rv m.recs by rw [← hP1]; exact KM.out.recs.keep fun k e => set_ne _ (KM.out.far k (Or.inl e)))
  have KT := Lib.hid (show Turn w P1 (FR n rv vv) (FR n rv vv) by rw [← hP1]; exact (Turn.of_below _ H4.out.1).trans (Turn.cell _ n 3 _ (Or.inl rfl)))
  have KS := Lib.hid (show v1.heap.size = P1.heap.size by rw [← hP1]; simp)
  go_upto_region 8 with fail
  try rw [hP1]
  clear hP1 f3 a0 a1 a2 a3 a4 a5 a6 z0 z1 z2 z3 z4 z5 z6 z7
  obtain ⟨va, vcp, hvs, -⟩ := KV.out.rd.shape
  subst hvs
  obtain ⟨a0, a1, a2, a3, a4, a5, a6⟩ := blk7c KA.out
  obtain ⟨⟨z0, z1, z2, z3, z4, z5, z6, z7⟩, fz⟩ := blkR KB.out
  have hrn : ((.slice va m.vers.length vcp) : Value).ownBlock ≠ some n := fun e => KM.out.far n (Or.inr e) rfl
  have hra : ((.slice va m.vers.length vcp) : Value).ownBlock ≠ some w.heap.size := fun e => by have := (HD.out.vers.lt e).2; omega
  refine wp_region_mv (fun f => AppAt verD 0 P1 76 (.slice va m.vers.length vcp) m.vers [(lb, E, da)] n 7 (f 4) (f 14) (f 15) (f 18)) (by kernel_rfl) (AppAt.start KV.out (drew_below P1)) ?_
  obtain ⟨S, F, hF, hFC⟩ := moved_class (fun f => AppAt verD 0 P1 76 (.slice va m.vers.length vcp) m.vers [(lb, E, da)] n 7 (f 4) (f 14) (f 15) (f 18))
  obtain ⟨S0, F0, hF0, hFC0⟩ := moved_classN (fun f => AppAt verD 0 P1 76 (.slice va m.vers.length vcp) m.vers [(lb, E, da)] n 7 (f 4) (f 14) (f 15) (f 18)) 4
  have k1 : ∀ s, (F s).cell? ⟨w.heap.size, 1, none⟩ = some (.int .i64 lb) := fun s => (hFC s).choose_spec.cell a1 hra (Or.inl (by show w.heap.size ≠ n; omega))
  have k4 : ∀ s, (F s).cell? ⟨w.heap.size, 4, none⟩ = some (.string da) := fun s => (hFC s).choose_spec.cell a4 hra (Or.inl (by show w.heap.size ≠ n; omega))
  have j0 : ∀ s, (F s).cell? ⟨n, 0, none⟩ = some (.int .i64 m.geo.blocks) := fun s => (hFC s).choose_spec.cell z0 hrn (Or.inr (by show (0 : Nat) ≠ 7; decide))
  have j7 : ∀ s, (F0 s).cell? ⟨n, 7, none⟩ = some (.slice va m.vers.length vcp) := fun s => by
    have h := (hFC0 s).choose_spec
    have h2 := h.2
    simp only [h.1] at h2
    exact h2.box z7 hrn
  show wpAnyM _ _ _ _ _ 19 (Array.replicate 19 false) _ _
  refine mv_read 0 hF (fun _ _ _ h => h) rfl (by kernel_rfl) (by kernel_rfl) (by kernel_rfl) (fun K hK => ?_)
  go_simp
  first | refine ⟨_, fun _ => rfl, hK _ _ ?_⟩ | refine hK _ _ ?_
  clear hK K
  refine mv_read 1 hF (fun _ _ _ h => h) rfl (by kernel_rfl) (by kernel_rfl) (by kernel_rfl) (fun K hK => ?_)
  go_simp
  first | refine ⟨_, fun _ => rfl, hK _ _ ?_⟩ | refine hK _ _ ?_
  clear hK K
  refine mv_read 2 hF (fun _ _ _ h => h) rfl (by kernel_rfl) (by kernel_rfl) (by kernel_rfl) (fun K hK => ?_)
  go_simp
  first | refine ⟨_, fun _ => rfl, hK _ _ ?_⟩ | refine hK _ _ ?_
  clear hK K
  refine mv_read 3 hF (fun _ _ _ h => h) rfl (by kernel_rfl) (by kernel_rfl) (by kernel_rfl) (fun K hK => ?_)
  go_simp
  first | refine ⟨_, fun _ => rfl, hK _ _ ?_⟩ | refine hK _ _ ?_
  clear hK K
  refine mv_readN 4 hF0 (fun f w v _ h => h.read v) rfl (by kernel_rfl) (by kernel_rfl) (by kernel_rfl) (fun K hK => ?_)
  go_simp
  first | refine ⟨_, fun _ => rfl, hK _ _ ?_⟩ | refine hK _ _ ?_
  clear hK K
  refine mv_read 5 hF (fun _ _ _ h => h) rfl (by kernel_rfl) (by kernel_rfl) (by kernel_rfl) (fun K hK => ?_)
  go_simp
  first | refine ⟨_, fun _ => rfl, hK _ _ ?_⟩ | refine hK _ _ ?_
  clear hK K
  refine mv_read 6 hF (fun _ _ _ h => h) rfl (by kernel_rfl) (by kernel_rfl) (by kernel_rfl) (fun K hK => ?_)
  go_simp
  first | refine ⟨_, fun _ => rfl, hK _ _ ?_⟩ | refine hK _ _ ?_
  clear hK K
  refine mv_read 7 hF (fun _ _ _ h => h) rfl (by kernel_rfl) (by kernel_rfl) (by kernel_rfl) (fun K hK => ?_)
  go_simp
  first | refine ⟨_, fun _ => rfl, hK _ _ ?_⟩ | refine hK _ _ ?_
  clear hK K
  refine mv_read 8 hF (fun _ _ _ h => h) rfl (by kernel_rfl) (by kernel_rfl) (by kernel_rfl) (fun K hK => ?_)
  go_simp
  first | refine ⟨_, fun _ => rfl, hK _ _ ?_⟩ | refine hK _ _ ?_
  clear hK K
  refine mv_read 9 hF (fun _ _ _ h => h) rfl (by kernel_rfl) (by kernel_rfl) (by kernel_rfl) (fun K hK => ?_)
  go_simp
  first | refine ⟨_, fun _ => rfl, hK _ _ ?_⟩ | refine hK _ _ ?_
  clear hK K
  refine mv_call1 10 25 rfl (by kernel_rfl) (by kernel_rfl) (by kernel_rfl) rfl rfl eg_rbepoch (args := #[.pointer (some ⟨n, 5, none⟩)]) rfl (u := .int .i64 E) (fun g w9 ha h0 h => (HEp.out w9 ⟨h.cell z5 hrn (Or.inr (by show (5 : Nat) ≠ 7; decide)), h.cell z6 hrn (Or.inr (by show (6 : Nat) ≠ 7; decide)), h.row KR.out (fun k e => KM.out.ne k e) (fun k e => KM.out.far k (Or.inl e)) h.size⟩).mono fun en w8 ⟨q1, q2⟩ => ⟨q1, by rw [q2]; exact h⟩) ?_
  refine mv_read 11 hF (fun _ _ _ h => h) rfl (by kernel_rfl) (by kernel_rfl) (by kernel_rfl) (fun K hK => ?_)
  go_simp
  first | refine ⟨_, fun _ => rfl, hK _ _ ?_⟩ | refine hK _ _ ?_
  clear hK K
  refine mv_read 12 hF (fun _ _ _ h => h) rfl (by kernel_rfl) (by kernel_rfl) (by kernel_rfl) (fun K hK => ?_)
  go_simp
  first | refine ⟨_, fun _ => rfl, hK _ _ ?_⟩ | refine hK _ _ ?_
  clear hK K
  refine mv_read 13 hF (fun _ _ _ h => h) rfl (by kernel_rfl) (by kernel_rfl) (by kernel_rfl) (fun K hK => ?_)
  go_simp
  first | refine ⟨_, fun _ => rfl, hK _ _ ?_⟩ | refine hK _ _ ?_
  clear hK K
  refine mv_alone 14 rfl (by kernel_rfl) rfl (fun v => ∃ g, v = .slice (some ⟨g, 0, none⟩) 1 1) (fun g w9 ha h0 h D hD => ?_) ?_
  · have h9 := h
    simp only [h0] at h9
    have h8 := h9.made #[.int .i64 lb, .int .i64 E, .string da] rfl
    clear h h9
    go_simp
    exact hD _ _ ⟨_, rfl⟩ h8
  rintro _ ⟨gs, rfl⟩
  refine mv_append 15 rfl (by kernel_rfl) rfl (.tmp 37) (.tmp 47) 57 rfl verTR 0 _ _ m.vers [(lb, E, da)] rfl rfl (by have := HL.out; simp; omega) (by decide) (fun g w9 ha h0 h => ?_) (fun v' => ∃ a n c, v' = .slice a n c) (fun g w9 v' w' ha h0 h hG => ?_) ?_
  · have e1 : g 14 = some (.slice (some ⟨gs, 0, none⟩) 1 1) := (agree_on 14 ha (by kernel_rfl)).trans rfl
    simp only [e1, h0] at h
    exact h.rows (Nat.zero_le _)
  · have e1 : g 14 = some (.slice (some ⟨gs, 0, none⟩) 1 1) := (agree_on 14 ha (by kernel_rfl)).trans rfl
    have e2 : g 4 = some (.slice va m.vers.length vcp) := (agree_on 4 ha (by kernel_rfl)).trans rfl
    simp only [e1, e2, h0] at h
    obtain ⟨a9, c9, e9, -⟩ := hG.1.rd.shape
    refine ⟨⟨_, _, _, e9⟩, ?_⟩
    show AppAt _ _ _ _ _ _ _ _ _ (g 4) (g 14) _ _ _
    rw [e1, e2]
    exact h.grew hG
  rintro _ ⟨az, nz, cz, rfl⟩
  refine mv_read 16 hF (fun _ _ _ h => h) rfl (by kernel_rfl) (by kernel_rfl) (by kernel_rfl) (fun K hK => ?_)
  go_simp
  first | refine ⟨_, fun _ => rfl, hK _ _ ?_⟩ | refine hK _ _ ?_
  clear hK K
  refine mv_read 17 hF (fun _ _ _ h => h) rfl (by kernel_rfl) (by kernel_rfl) (by kernel_rfl) (fun K hK => ?_)
  go_simp
  first | refine ⟨_, fun _ => rfl, hK _ _ ?_⟩ | refine hK _ _ ?_
  clear hK K
  refine mv_alone 18 rfl (by kernel_rfl) rfl (fun _ => True) (fun g w9 ha h0 h D hD => ?_) ?_
  · have e1 : g 15 = some (.slice az nz cz) := (agree_on 15 ha (by kernel_rfl)).trans rfl
    simp only [e1, h0] at h
    have q1 := h.1.cell z7 hrn
    have q2 := h.1.frozen z7 (fz 7) hrn
    have hD2 := hD undef (w9.setCell ⟨n, 7, none⟩ (.slice az nz cz)) trivial (by show AppAt _ _ _ _ _ _ _ _ _ (g 4) (g 14) (g 15) _ _; rw [e1]; exact h.stored)
    clear hD h
    go_simp
    exact hD2
  rintro vs -
  refine mv_end (by kernel_rfl) ?_
  intro w2 hw2
  have HG : AppAt verD 0 P1 76 (.slice va m.vers.length vcp) m.vers [(lb, E, da)] n 7 (some (.slice va m.vers.length vcp)) (some (.slice (some ⟨gs, 0, none⟩) 1 1)) (some (.slice az nz cz)) (some vs) w2 := hw2
  obtain ⟨w3, g1, g3, g2, rfl⟩ := HG.done2
  have HG3 := Lib.hid (And.intro g1 (And.intro g2 g3))
  clear hw2 HG hF hFC hF0 hFC0 j0 j7 g1 g2 g3 k1 k4 a0 a1 a2 a3 a4 a5 a6 z0 z1 z2 z3 z4 z5 z6 z7 fz
  have HB7 := Lib.hid (HG3.out.1.block n (lt_of_block KB.out) (fun e => hrn e.symm))
  have HK5 : Hid (∀ k, k < P1.heap.size → ((.slice va m.vers.length vcp) : Value).ownBlock ≠ some k → k ≠ n → (w3.setCell ⟨n, 7, none⟩ (.slice az nz cz)).heap[k]? = P1.heap[k]?) := Lib.hid fun k hk h1 h2 => (set_ne _ h2).trans (HG3.out.1.block k hk fun e => h1 e.symm)
  have hfar : ∀ k, (Value.slice az nz cz).ownBlock = some k → k ≠ n ∧ (((.slice va m.vers.length vcp) : Value).ownBlock = some k ∨ P1.heap.size ≤ k) := fun k e => by
    rcases HG3.out.2.2 with q | q
    · exact ⟨KM.out.far k (Or.inr (q ▸ e)), Or.inl (q ▸ e)⟩
    · have := q k e; have := lt_of_block KB.out; exact ⟨by omega, Or.inr (by omega)⟩
  have HFa := Lib.hid hfar
  clear hfar hrn hra
  go_wp2
  refine HR.out _ _ ⟨by rw [HZ.out.1] <;> rfl, .slice az nz cz, ?_, ?_⟩
  · rw [HZ.out.2]
    exact ⟨set_blk (HB7.out.trans KB.out) 7 _, KR.out.keep fun k e => HK5.out k (KR.out.lt e).2 (KM.out.ne k e) (KM.out.far k (Or.inl e)), HG3.out.2.1.keep fun k e => set_ne _ (HFa.out k e).1, fun k e e2 => by
      rcases (HFa.out k e2).2 with q | q
      · exact KM.out.ne k e q
      · have := (KR.out.lt e).2; omega, fun k e => e.elim (fun e => KM.out.far k (Or.inl e)) (fun e => (HFa.out k e).1)⟩
  · refine KT.out.trans ⟨HG3.out.1.os, HG3.out.1.tape, HG3.out.1.output, by have := HG3.out.1.size; simp; omega, fun k hk hF => HK5.out k hk (fun e => hF (Or.inr (Or.inr e))) (fun e => hF (Or.inl e)), fun k hk => ?_⟩
    rcases hk with q | q | q
    · exact Or.inl (Or.inl q)
    · exact Or.inl (Or.inr (Or.inl q))
    · rcases (HFa.out k q).2 with q2 | q2
      · exact Or.inl (Or.inr (Or.inr q2))
      · exact Or.inr q2
end Go.Proofs.YtnkiokaeooopgaaGreat
/- The document's model: what is read, how it stands, a record that a call means. -/
set_option maxRecDepth 100000
namespace Ks
open Go Go.RowKit
/-- what is read, in parts -/
theorem readA_eq (m : ModT) (lba ep : Int) : readA m lba ep = if lba < 0 ∨ m.geo.lbas ≤ lba then errA 4 else if thereE m ep false ≠ 0 then errA 7 else if (newestR m.vers lba m.geo.first ep).isSome = false then errA 7 else
    if goneB m.book ((newestR m.vers lba m.geo.first ep).getD (0, 0, ⟨#[]⟩)).2.1 then errA 13 else ⟨0, ((newestR m.vers lba m.geo.first ep).getD (0, 0, ⟨#[]⟩)).2.2, (0, 0, 0, 0, 0, 0)⟩ := by
  unfold readA Ks.placeE
  rw [newest_eq]
  have ht : (thereE m ep false ≠ 0) ↔ (ep < m.geo.first ∨ m.book.epoch < ep) := by
    unfold thereE
    by_cases h : ep < m.geo.first ∨ m.book.epoch < ep
    · rw [if_pos h]; simp [h]
    · rw [if_neg h]; simp [h]
  by_cases h1 : lba < 0 ∨ m.geo.lbas ≤ lba
  · simp [h1]
  · simp only [h1, if_false, ne_eq, not_true_eq_false]
    by_cases h2 : ep < m.geo.first ∨ m.book.epoch < ep
    · rw [if_pos h2, if_pos (ht.2 h2)]
    · rw [if_neg h2, if_neg (fun q => h2 (ht.1 q))]
      cases newestN m.vers lba m.geo.first ep with
      | none => rfl
      | some v => rfl
end Ks
namespace Go.Proofs.YtnkiokaeooopgaaGreat
open Go.RowKit Ks
set_option linter.unusedVariables false
set_option linter.unusedSimpArgs false
theorem ansc_one (a : AnsT) : (ansC a).all (·.oneCell') = true := by simp [Value.oneCell']
set_option maxRecDepth 100000 in
set_option maxHeartbeats 8000000 in
theorem rread_any {n : Nat} {rv vv : Value} {m : ModT} (lba ep : Int) (w : World) (h : RMd w n rv vv m) (hi : ModI m) (ht : Ks.Twin m) :
    Calls Tryz.prog 24 #[.pointer (some ⟨n, 0, none⟩), .int .i64 lba, .int .i64 ep] w fun e w' => e = .returned (.agg (ansC (readA m lba ep))) ∧ Below w.heap.size w w' := by
  refine calls_by fun R HR => ?_
  have HD := Lib.hid h
  have HTh := Lib.hid (fun A (q : RMd A n rv vv m) => rthere_any ep false A q hi ht)
  have HNw := Lib.hid (fun A (q : RMd A n rv vv m) => rnewest_any lba m.geo.first ep A q (by have := mi_len hi; omega))
  have HGo := Lib.hid (fun t A (q : RMd A n rv vv m) => rgone_any t A q hi ht)
  have HV := Lib.hid (readA_eq m lba ep)
  generalize readA m lba ep = RA at *
  generalize thereE m ep false = TE at *
  generalize newestR m.vers lba m.geo.first ep = NR at *
  obtain ⟨G, hG⟩ : ∃ G, goneB m.book = G := ⟨_, rfl⟩
  rw [hG] at HV HGo
  clear h hi ht hG
  have H1 := Lib.hid (And.intro (Below.refl w.heap.size w) (HD.out))
  obtain ⟨W1, hW1⟩ : ∃ W1, w.alloc (.cells #[.int .i64 0, .string ⟨#[]⟩, .int .i64 0, .int .i64 0, .int .i64 0, .int .i64 0, .int .i64 0, .int .i64 0] 39) = W1 := ⟨_, rfl⟩
  have hbW1 : Below w.heap.size w W1 := by rw [← hW1]; exact alloc_below w _
  have kW1 : W1.heap[w.heap.size]? = some (.cells #[.int .i64 0, .string ⟨#[]⟩, .int .i64 0, .int .i64 0, .int .i64 0, .int .i64 0, .int .i64 0, .int .i64 0] 39 (0, 0)) := by rw [← hW1]; exact alloc_new w _
  have EW1 := Lib.hid hW1
  have H2 := Lib.hid (And.intro (H1.out.1.trans (hbW1.mono H1.out.1.size)) (And.intro (H1.out.2.below hbW1) (kW1)))
  clear hbW1 kW1 hW1
  obtain ⟨⟨z0, z1, z2, z3, z4, z5, z6, z7⟩, -⟩ := blkR H2.out.2.1.blk
  go_enter Tryz.func24, Tryz.ntmps24
  go_upto_region 1 with fail
  try rw [EW1.out]
  have HWZ := Lib.hid (Nat.le_refl w.heap.size)
  by_cases c1 : lba < 0
  case pos =>
    have d1 : decide (lba < 0) = true := decide_eq_true c1
    have HZ := Lib.hid (show RA = errA 4 by rw [HV.out, if_pos (Or.inl c1)])
    obtain ⟨WR, hWR⟩ : ∃ W, W1.setRow w.heap.size #[.int .i64 4, .string (⟨#[]⟩), .int .i64 0, .int .i64 0, .int .i64 0, .int .i64 0, .int .i64 0, .int .i64 0] = W := ⟨_, rfl⟩
    have KE := Lib.hid (show WR.heap[w.heap.size]? = some (.cells #[.int .i64 4, .string (⟨#[]⟩), .int .i64 0, .int .i64 0, .int .i64 0, .int .i64 0, .int .i64 0, .int .i64 0] 39 (0, 0)) by rw [← hWR]; exact setRow_heap _ _ _ _ _ _ H2.out.2.2)
    have KB := Lib.hid (show Below w.heap.size w WR by rw [← hWR]; exact below_setRow H2.out.1 (Nat.le_refl _) _)
    go_wp2_with (refine wpList_store_blk rfl 39 (.tmp 6) (.tmp 20) rfl w.heap.size 0 8 rfl #[.int .i64 0, .string ⟨#[]⟩, .int .i64 0, .int .i64 0, .int .i64 0, .int .i64 0, .int .i64 0, .int .i64 0] #[.int .i64 4, .string (⟨#[]⟩), .int .i64 0, .int .i64 0, .int .i64 0, .int .i64 0, .int .i64 0, .int .i64 0] #[.int .i64 4, .string (⟨#[]⟩), .int .i64 0, .int .i64 0, .int .i64 0, .int .i64 0, .int .i64 0, .int .i64 0] rfl 39 H2.out.2.2 rfl (Nat.le_refl 8) (by kernel_rfl) (ansc_one ⟨_, _, (_, _, _, _, _, _)⟩) (splice_all _ _ rfl) ?_; rw [hWR])
    obtain ⟨⟨y0, y1, y2, y3, y4, y5, y6, y7⟩, -⟩ := blkR KE.out
    try go_wp2
    refine bodyPost_ret (v := .agg #[.int .i64 4, .string (⟨#[]⟩), .int .i64 0, .int .i64 0, .int .i64 0, .int .i64 0, .int .i64 0, .int .i64 0]) (by simp [results, Tryz.results24, go_sem, y0, y1, y2, y3, y4, y5, y6, y7]) rfl ?_
    exact HR.out _ _ ⟨by rw [HZ.out] <;> rfl, KB.out⟩
  have d1 : decide (lba < 0) = false := decide_eq_false c1
  by_cases c2 : m.geo.lbas ≤ lba
  case pos =>
    have d2 : decide (m.geo.lbas ≤ lba) = true := decide_eq_true c2
    have HZ := Lib.hid (show RA = errA 4 by rw [HV.out, if_pos (Or.inr c2)])
    obtain ⟨WR, hWR⟩ : ∃ W, W1.setRow w.heap.size #[.int .i64 4, .string (⟨#[]⟩), .int .i64 0, .int .i64 0, .int .i64 0, .int .i64 0, .int .i64 0, .int .i64 0] = W := ⟨_, rfl⟩
    have KE := Lib.hid (show WR.heap[w.heap.size]? = some (.cells #[.int .i64 4, .string (⟨#[]⟩), .int .i64 0, .int .i64 0, .int .i64 0, .int .i64 0, .int .i64 0, .int .i64 0] 39 (0, 0)) by rw [← hWR]; exact setRow_heap _ _ _ _ _ _ H2.out.2.2)
    have KB := Lib.hid (show Below w.heap.size w WR by rw [← hWR]; exact below_setRow H2.out.1 (Nat.le_refl _) _)
    go_wp2_with (refine wpList_store_blk rfl 39 (.tmp 6) (.tmp 20) rfl w.heap.size 0 8 rfl #[.int .i64 0, .string ⟨#[]⟩, .int .i64 0, .int .i64 0, .int .i64 0, .int .i64 0, .int .i64 0, .int .i64 0] #[.int .i64 4, .string (⟨#[]⟩), .int .i64 0, .int .i64 0, .int .i64 0, .int .i64 0, .int .i64 0, .int .i64 0] #[.int .i64 4, .string (⟨#[]⟩), .int .i64 0, .int .i64 0, .int .i64 0, .int .i64 0, .int .i64 0, .int .i64 0] rfl 39 H2.out.2.2 rfl (Nat.le_refl 8) (by kernel_rfl) (ansc_one ⟨_, _, (_, _, _, _, _, _)⟩) (splice_all _ _ rfl) ?_; rw [hWR])
    obtain ⟨⟨y0, y1, y2, y3, y4, y5, y6, y7⟩, -⟩ := blkR KE.out
    try go_wp2
    refine bodyPost_ret (v := .agg #[.int .i64 4, .string (⟨#[]⟩), .int .i64 0, .int .i64 0, .int .i64 0, .int .i64 0, .int .i64 0, .int .i64 0]) (by simp [results, Tryz.results24, go_sem, y0, y1, y2, y3, y4, y5, y6, y7]) rfl ?_
    exact HR.out _ _ ⟨by rw [HZ.out] <;> rfl, KB.out⟩
  have d2 : decide (m.geo.lbas ≤ lba) = false := decide_eq_false c2
  have HC := Lib.hid (show ¬ (lba < 0 ∨ m.geo.lbas ≤ lba) by omega)
  clear c1 c2
  go_wp2_with fail
  refine (HTh.out _ H2.out.2.1).mono ?_
  rintro en v1 ⟨rfl, hb⟩
  have H3 := Lib.hid (And.intro (H2.out.1.trans (hb.mono H2.out.1.size)) (And.intro (H2.out.2.1.below hb) (blk_on hb H2.out.2.2)))
  clear hb
  clear z0 z1 z2 z3 z4 z5 z6 z7
  obtain ⟨⟨z0, z1, z2, z3, z4, z5, z6, z7⟩, -⟩ := blkR H3.out.2.1.blk
  by_cases c3 : TE = 0
  case neg =>
    have d3 : (TE != 0) = true := by simpa using c3
    have HZ := Lib.hid (show RA = errA 7 by rw [HV.out, if_neg HC.out, if_pos c3])
    clear c3
    obtain ⟨WR, hWR⟩ : ∃ W, v1.setRow w.heap.size #[.int .i64 7, .string (⟨#[]⟩), .int .i64 0, .int .i64 0, .int .i64 0, .int .i64 0, .int .i64 0, .int .i64 0] = W := ⟨_, rfl⟩
    have KE := Lib.hid (show WR.heap[w.heap.size]? = some (.cells #[.int .i64 7, .string (⟨#[]⟩), .int .i64 0, .int .i64 0, .int .i64 0, .int .i64 0, .int .i64 0, .int .i64 0] 39 (0, 0)) by rw [← hWR]; exact setRow_heap _ _ _ _ _ _ H3.out.2.2)
    have KB := Lib.hid (show Below w.heap.size w WR by rw [← hWR]; exact below_setRow H3.out.1 (Nat.le_refl _) _)
    go_wp2_with (refine wpList_store_blk rfl 39 (.tmp 6) (.tmp 25) rfl w.heap.size 0 8 rfl #[.int .i64 0, .string ⟨#[]⟩, .int .i64 0, .int .i64 0, .int .i64 0, .int .i64 0, .int .i64 0, .int .i64 0] #[.int .i64 7, .string (⟨#[]⟩), .int .i64 0, .int .i64 0, .int .i64 0, .int .i64 0, .int .i64 0, .int .i64 0] #[.int .i64 7, .string (⟨#[]⟩), .int .i64 0, .int .i64 0, .int .i64 0, .int .i64 0, .int .i64 0, .int .i64 0] rfl 39 H3.out.2.2 rfl (Nat.le_refl 8) (by kernel_rfl) (ansc_one ⟨_, _, (_, _, _, _, _, _)⟩) (splice_all _ _ rfl) ?_; rw [hWR])
    obtain ⟨⟨y0, y1, y2, y3, y4, y5, y6, y7⟩, -⟩ := blkR KE.out
    try go_wp2
    refine bodyPost_ret (v := .agg #[.int .i64 7, .string (⟨#[]⟩), .int .i64 0, .int .i64 0, .int .i64 0, .int .i64 0, .int .i64 0, .int .i64 0]) (by simp [results, Tryz.results24, go_sem, y0, y1, y2, y3, y4, y5, y6, y7]) rfl ?_
    exact HR.out _ _ ⟨by rw [HZ.out] <;> rfl, KB.out⟩
  subst c3
  go_wp2_with fail
  refine (HNw.out _ H3.out.2.1).mono ?_
  rintro en v2 ⟨rfl, hb⟩
  have H4 := Lib.hid (And.intro (H3.out.1.trans (hb.mono H3.out.1.size)) (And.intro (H3.out.2.1.below hb) (blk_on hb H3.out.2.2)))
  clear hb
  clear z0 z1 z2 z3 z4 z5 z6 z7
  obtain ⟨vv0, hvv⟩ : ∃ x, NR.getD verZ = x := ⟨_, rfl⟩
  rw [hvv]
  have HVV := Lib.hid (show NR.getD (0, 0, ⟨#[]⟩) = vv0 from hvv)
  clear hvv
  obtain ⟨vl, ve, vd⟩ := vv0
  rw [HVV.out] at HV
  obtain ⟨S0, hS0⟩ : ∃ x, NR.isSome = x := ⟨_, rfl⟩
  rw [hS0] at HV
  rw [hS0]
  clear hS0
  simp only at HV
  obtain ⟨W2, hW2⟩ : ∃ W2, v2.alloc (.cells #[.int .i64 vl, .int .i64 ve, .string vd] 76) = W2 := ⟨_, rfl⟩
  have hbW2 : Below v2.heap.size v2 W2 := by rw [← hW2]; exact alloc_below v2 _
  have kW2 : W2.heap[v2.heap.size]? = some (.cells #[.int .i64 vl, .int .i64 ve, .string vd] 76 (0, 0)) := by rw [← hW2]; exact alloc_new v2 _
  have EW2 := Lib.hid hW2
  have H5 := Lib.hid (And.intro (H4.out.1.trans (hbW2.mono H4.out.1.size)) (And.intro (H4.out.2.1.below hbW2) (And.intro (blk_on hbW2 H4.out.2.2) (kW2))))
  clear hbW2 kW2 hW2
  go_upto_region 6 with fail
  try rw [EW2.out]
  cases S0 with
  | false =>
    have HZ := Lib.hid (show RA = errA 7 by rw [HV.out, if_neg HC.out, if_neg (show ¬ (0 : Int) ≠ 0 by decide), if_pos rfl])
    obtain ⟨WR, hWR⟩ : ∃ W, W2.setRow w.heap.size #[.int .i64 7, .string (⟨#[]⟩), .int .i64 0, .int .i64 0, .int .i64 0, .int .i64 0, .int .i64 0, .int .i64 0] = W := ⟨_, rfl⟩
    have KE := Lib.hid (show WR.heap[w.heap.size]? = some (.cells #[.int .i64 7, .string (⟨#[]⟩), .int .i64 0, .int .i64 0, .int .i64 0, .int .i64 0, .int .i64 0, .int .i64 0] 39 (0, 0)) by rw [← hWR]; exact setRow_heap _ _ _ _ _ _ H5.out.2.2.1)
    have KB := Lib.hid (show Below w.heap.size w WR by rw [← hWR]; exact below_setRow H5.out.1 (Nat.le_refl _) _)
    go_wp2_with (refine wpList_store_blk rfl 39 (.tmp 6) (.tmp 40) rfl w.heap.size 0 8 rfl #[.int .i64 0, .string ⟨#[]⟩, .int .i64 0, .int .i64 0, .int .i64 0, .int .i64 0, .int .i64 0, .int .i64 0] #[.int .i64 7, .string (⟨#[]⟩), .int .i64 0, .int .i64 0, .int .i64 0, .int .i64 0, .int .i64 0, .int .i64 0] #[.int .i64 7, .string (⟨#[]⟩), .int .i64 0, .int .i64 0, .int .i64 0, .int .i64 0, .int .i64 0, .int .i64 0] rfl 39 H5.out.2.2.1 rfl (Nat.le_refl 8) (by kernel_rfl) (ansc_one ⟨_, _, (_, _, _, _, _, _)⟩) (splice_all _ _ rfl) ?_; rw [hWR])
    obtain ⟨⟨y0, y1, y2, y3, y4, y5, y6, y7⟩, -⟩ := blkR KE.out
    try go_wp2
    refine bodyPost_ret (v := .agg #[.int .i64 7, .string (⟨#[]⟩), .int .i64 0, .int .i64 0, .int .i64 0, .int .i64 0, .int .i64 0, .int .i64 0]) (by simp [results, Tryz.results24, go_sem, y0, y1, y2, y3, y4, y5, y6, y7]) rfl ?_
    exact HR.out _ _ ⟨by rw [HZ.out] <;> rfl, KB.out⟩
  | true =>
    have HV2 : Hid (RA = if G ve then errA 13 else ⟨0, vd, (0, 0, 0, 0, 0, 0)⟩) := Lib.hid (by rw [HV.out, if_neg HC.out, if_neg (show ¬ (0 : Int) ≠ 0 by decide), if_neg (show ¬ true = false by decide)])
    clear HV
    obtain ⟨v0, v1, v2, -, -, -⟩ := blk3 H5.out.2.2.2
    have gv1 := fun p => after_cell v1 p
    have cG := Lib.hid (fun p => calls_after (p := p) (HGo.out ve (After W2 p) (H5.out.2.1.below (after_below W2 p))))
    go_upto_region 8 with fail
    refine wp_region_after (by kernel_rfl) (by kernel_rfl) ?_
    repeat (go_big_quiet_step (fail))
    go_big_quiet_step (exact cG.out _)
    repeat (go_big_quiet_step (fail))
    refine wpQuiet_nil ?_
    rintro q1 ⟨p9, rfl⟩
    have hb := after_below W2 p9
    have H6 := Lib.hid (And.intro (H5.out.1.trans (hb.mono H5.out.1.size)) (And.intro (H5.out.2.1.below hb) (And.intro (blk_on hb H5.out.2.2.1) (blk_on hb H5.out.2.2.2))))
    generalize After W2 p9 = q1 at *
    clear hb cG gv1 v0 v1 v2
    obtain ⟨v0, v1, v2, -, -, -⟩ := blk3 H6.out.2.2.2
    cases hg : G ve with
    | true =>
      have HZ := Lib.hid (show RA = errA 13 by rw [HV2.out, hg]; rfl)
      clear hg
      obtain ⟨WR, hWR⟩ : ∃ W, q1.setRow w.heap.size #[.int .i64 13, .string (⟨#[]⟩), .int .i64 0, .int .i64 0, .int .i64 0, .int .i64 0, .int .i64 0, .int .i64 0] = W := ⟨_, rfl⟩
      have KE := Lib.hid (show WR.heap[w.heap.size]? = some (.cells #[.int .i64 13, .string (⟨#[]⟩), .int .i64 0, .int .i64 0, .int .i64 0, .int .i64 0, .int .i64 0, .int .i64 0] 39 (0, 0)) by rw [← hWR]; exact setRow_heap _ _ _ _ _ _ H6.out.2.2.1)
      have KB := Lib.hid (show Below w.heap.size w WR by rw [← hWR]; exact below_setRow H6.out.1 (Nat.le_refl _) _)
      go_wp2_with (refine wpList_store_blk rfl 39 (.tmp 6) (.tmp 47) rfl w.heap.size 0 8 rfl #[.int .i64 0, .string ⟨#[]⟩, .int .i64 0, .int .i64 0, .int .i64 0, .int .i64 0, .int .i64 0, .int .i64 0] #[.int .i64 13, .string (⟨#[]⟩), .int .i64 0, .int .i64 0, .int .i64 0, .int .i64 0, .int .i64 0, .int .i64 0] #[.int .i64 13, .string (⟨#[]⟩), .int .i64 0, .int .i64 0, .int .i64 0, .int .i64 0, .int .i64 0, .int .i64 0] rfl 39 H6.out.2.2.1 rfl (Nat.le_refl 8) (by kernel_rfl) (ansc_one ⟨_, _, (_, _, _, _, _, _)⟩) (splice_all _ _ rfl) ?_; rw [hWR])
      obtain ⟨⟨y0, y1, y2, y3, y4, y5, y6, y7⟩, -⟩ := blkR KE.out
      try go_wp2
      refine bodyPost_ret (v := .agg #[.int .i64 13, .string (⟨#[]⟩), .int .i64 0, .int .i64 0, .int .i64 0, .int .i64 0, .int .i64 0, .int .i64 0]) (by simp [results, Tryz.results24, go_sem, y0, y1, y2, y3, y4, y5, y6, y7]) rfl ?_
      exact HR.out _ _ ⟨by rw [HZ.out] <;> rfl, KB.out⟩
    | false =>
      have HZ := Lib.hid (show RA = ⟨0, vd, (0, 0, 0, 0, 0, 0)⟩ by rw [HV2.out, hg]; rfl)
      clear hg
      obtain ⟨WR, hWR⟩ : ∃ W, q1.setRow w.heap.size #[.int .i64 0, .string (vd), .int .i64 0, .int .i64 0, .int .i64 0, .int .i64 0, .int .i64 0, .int .i64 0] = W := ⟨_, rfl⟩
      have KE := Lib.hid (show WR.heap[w.heap.size]? = some (.cells #[.int .i64 0, .string (vd), .int .i64 0, .int .i64 0, .int .i64 0, .int .i64 0, .int .i64 0, .int .i64 0] 39 (0, 0)) by rw [← hWR]; exact setRow_heap _ _ _ _ _ _ H6.out.2.2.1)
      have KB := Lib.hid (show Below w.heap.size w WR by rw [← hWR]; exact below_setRow H6.out.1 (Nat.le_refl _) _)
      go_wp2_with (refine wpList_store_blk rfl 39 (.tmp 6) (.tmp 50) rfl w.heap.size 0 8 rfl #[.int .i64 0, .string ⟨#[]⟩, .int .i64 0, .int .i64 0, .int .i64 0, .int .i64 0, .int .i64 0, .int .i64 0] #[.int .i64 0, .string (vd), .int .i64 0, .int .i64 0, .int .i64 0, .int .i64 0, .int .i64 0, .int .i64 0] #[.int .i64 0, .string (vd), .int .i64 0, .int .i64 0, .int .i64 0, .int .i64 0, .int .i64 0, .int .i64 0] rfl 39 H6.out.2.2.1 rfl (Nat.le_refl 8) (by kernel_rfl) (ansc_one ⟨_, _, (_, _, _, _, _, _)⟩) (splice_all _ _ rfl) ?_; rw [hWR])
      obtain ⟨⟨y0, y1, y2, y3, y4, y5, y6, y7⟩, -⟩ := blkR KE.out
      try go_wp2
      refine bodyPost_ret (v := .agg #[.int .i64 0, .string (vd), .int .i64 0, .int .i64 0, .int .i64 0, .int .i64 0, .int .i64 0, .int .i64 0]) (by simp [results, Tryz.results24, go_sem, y0, y1, y2, y3, y4, y5, y6, y7]) rfl ?_
      exact HR.out _ _ ⟨by rw [HZ.out] <;> rfl, KB.out⟩
/-- worlds where a model's standing is gathered -/
structure StC (W : World) (r : Nat) (C : Array Value) (fs : Option Value) (y : World) : Prop where
  b : Below r W y
  z : y.heap[r]? = some (.cells (match fs with | none => #[.int .i64 0, .int .i64 0, .int .i64 0, .int .i64 0, .int .i64 0, .int .i64 0] | some _ => C) 37 (0, 0))
  hs : r < W.heap.size
theorem StC.on {W y y' : World} {r : Nat} {C : Array Value} {fs : Option Value} (h : StC W r C fs y) (hb : Below y.heap.size y y') : StC W r C fs y' := ⟨h.b.trans (hb.mono (Nat.le_trans (Nat.le_of_lt h.hs) h.b.size)), blk_on hb h.z, h.hs⟩
theorem StC.stored {W y : World} {r : Nat} {C : Array Value} {v : Value} (h : StC W r C none y) : StC W r C (some v) (y.setRow r C) := ⟨below_setRow h.b (Nat.le_refl _) _, setRow_heap _ _ _ _ _ _ h.z, h.hs⟩
theorem rmd_low {W y : World} {r n : Nat} {rv vv : Value} {m : ModT} (hb : Below r W y) (hm : RMd W n rv vv m) (hl : ∀ k, FR n rv vv k → k < r) : RMd y n rv vv m :=
  ⟨(hb.block n (hl n (Or.inl rfl))).trans hm.blk, hm.recs.keep fun k e => hb.block k (hl k (Or.inr (Or.inl e))), hm.vers.keep fun k e => hb.block k (hl k (Or.inr (Or.inr e))), hm.ne, hm.far⟩
theorem six_one (a b c d e f : Int) : (#[.int .i64 a, .int .i64 b, .int .i64 c, .int .i64 d, .int .i64 e, .int .i64 f] : Array Value).all (·.oneCell') = true := by simp [Value.oneCell']
theorem eg_rbnames : ∀ args w, (callFunc 60 args).run Tryz.prog w = .ok (.enter 60 args) w := fun _ _ => rfl
theorem eg_rmroom : ∀ args w, (callFunc 54 args).run Tryz.prog w = .ok (.enter 54 args) w := fun _ _ => rfl
theorem eg_rmplaces : ∀ args w, (callFunc 28 args).run Tryz.prog w = .ok (.enter 28 args) w := fun _ _ => rfl
theorem blk6s {w : World} {b : Nat} {c0 c1 c2 c3 c4 c5 : Value} {T : TypeId} (h : w.heap[b]? = some (.cells #[c0, c1, c2, c3, c4, c5] T (0, 0))) : w.cell? ⟨b, 0, none⟩ = some c0 ∧ w.cell? ⟨b, 1, none⟩ = some c1 ∧ w.cell? ⟨b, 2, none⟩ = some c2 ∧ w.cell? ⟨b, 3, none⟩ = some c3 ∧ w.cell? ⟨b, 4, none⟩ = some c4 ∧ w.cell? ⟨b, 5, none⟩ = some c5 :=
  ⟨by rw [cell_of_row w b 0 _ _ _ h]; rfl, by rw [cell_of_row w b 1 _ _ _ h]; rfl, by rw [cell_of_row w b 2 _ _ _ h]; rfl, by rw [cell_of_row w b 3 _ _ _ h]; rfl, by rw [cell_of_row w b 4 _ _ _ h]; rfl, by rw [cell_of_row w b 5 _ _ _ h]; rfl⟩
set_option maxRecDepth 100000 in
set_option maxHeartbeats 8000000 in
theorem rstat_any {n : Nat} {rv vv : Value} {m : ModT} (w : World) (h : RMd w n rv vv m) (hi : ModI m) (ht : Ks.Twin m) :
    Calls Tryz.prog 31 #[.pointer (some ⟨n, 0, none⟩)] w fun e w' => e = .returned (.agg #[.int .i64 m.book.epoch, .int .i64 m.now, .int .i64 (roomM m), .int .i64 (m.recs.length : Nat), .int .i64 (placesN m m.geo.first : Nat), .int .i64 (m.book.holds.length : Nat)]) ∧ Below w.heap.size w w' := by
  refine calls_by fun R HR => ?_
  have HD := Lib.hid h
  have HEp := Lib.hid (fun A (q : RMd A n rv vv m) => repoch_any A q hi ht)
  have HRo := Lib.hid (fun A (q : RMd A n rv vv m) => rroom_any A q hi ht)
  have HPl := Lib.hid (fun A (q : RMd A n rv vv m) => rplaces_any m.geo.first A q hi ht)
  have HNa := Lib.hid (fun A (q : RMd A n rv vv m) => rnames_any A q hi ht)
  obtain ⟨ra, rc, hrs, -⟩ := h.recs.rd.shape
  subst hrs
  generalize m.book.epoch = E at *
  generalize roomM m = RO at *
  generalize placesN m m.geo.first = PN at *
  generalize m.book.holds.length = HLn at *
  clear h hi ht
  have H1 := Lib.hid (And.intro (Below.refl w.heap.size w) (HD.out))
  obtain ⟨W1, hW1⟩ : ∃ W1, w.alloc (.cells #[.int .i64 0, .int .i64 0, .int .i64 0, .int .i64 0, .int .i64 0, .int .i64 0] 37) = W1 := ⟨_, rfl⟩
  have hbW1 : Below w.heap.size w W1 := by rw [← hW1]; exact alloc_below w _
  have kW1 : W1.heap[w.heap.size]? = some (.cells #[.int .i64 0, .int .i64 0, .int .i64 0, .int .i64 0, .int .i64 0, .int .i64 0] 37 (0, 0)) := by rw [← hW1]; exact alloc_new w _
  have EW1 := Lib.hid hW1
  have H2 := Lib.hid (And.intro (H1.out.1.trans (hbW1.mono H1.out.1.size)) (And.intro (H1.out.2.below hbW1) (kW1)))
  clear hbW1 kW1 hW1
  obtain ⟨⟨z0, z1, z2, z3, z4, z5, z6, z7⟩, -⟩ := blkR H2.out.2.1.blk
  go_enter Tryz.func31, Tryz.ntmps31
  go_upto_region 1 with fail
  try rw [EW1.out]
  have HLo : Hid (∀ k, FR n (.slice ra m.recs.length rc) vv k → k < w.heap.size) := Lib.hid HD.out.lt
  have HM1 := Lib.hid H2.out.2.1
  refine wp_region_mv (fun ft => StC W1 w.heap.size #[.int .i64 E, .int .i64 m.now, .int .i64 RO, .int .i64 (m.recs.length : Nat), .int .i64 (PN : Nat), .int .i64 (HLn : Nat)] (ft 29)) (by kernel_rfl) ⟨(drew_below W1).mono (by have := lt_of_block H2.out.2.2; omega), blk_on (drew_below W1) H2.out.2.2, lt_of_block H2.out.2.2⟩ ?_
  obtain ⟨S, F, hF, hFC⟩ := moved_class (fun ft => StC W1 w.heap.size #[.int .i64 E, .int .i64 m.now, .int .i64 RO, .int .i64 (m.recs.length : Nat), .int .i64 (PN : Nat), .int .i64 (HLn : Nat)] (ft 29))
  have km : ∀ s, RMd (F s) n (.slice ra m.recs.length rc) vv m := fun s => rmd_low (hFC s).choose_spec.b HM1.out HLo.out
  have kb := fun s => (blkR (km s).blk).1.1
  have kl := fun s => (blkR (km s).blk).1.2.1
  have kf := fun s => (blkR (km s).blk).1.2.2.1
  have kt := fun s => (blkR (km s).blk).1.2.2.2.2.1
  have kr := fun s => (blkR (km s).blk).1.2.2.2.2.2.2.1
  clear km
  clear z0 z1 z2 z3 z4 z5 z6 z7
  show wpAnyM _ _ _ _ _ 30 (Array.replicate 30 false) _ _
  refine mv_read 0 hF (fun _ _ _ h => h) rfl (by kernel_rfl) (by kernel_rfl) (by kernel_rfl) (fun K hK => ?_)
  go_simp
  first | refine ⟨_, fun _ => rfl, hK _ _ ?_⟩ | refine hK _ _ ?_
  clear hK K
  refine mv_read 1 hF (fun _ _ _ h => h) rfl (by kernel_rfl) (by kernel_rfl) (by kernel_rfl) (fun K hK => ?_)
  go_simp
  first | refine ⟨_, fun _ => rfl, hK _ _ ?_⟩ | refine hK _ _ ?_
  clear hK K
  refine mv_read 2 hF (fun _ _ _ h => h) rfl (by kernel_rfl) (by kernel_rfl) (by kernel_rfl) (fun K hK => ?_)
  go_simp
  first | refine ⟨_, fun _ => rfl, hK _ _ ?_⟩ | refine hK _ _ ?_
  clear hK K
  refine mv_call1 3 25 rfl (by kernel_rfl) (by kernel_rfl) (by kernel_rfl) rfl rfl eg_rbepoch (args := #[.pointer (some ⟨n, 5, none⟩)]) rfl (u := .int .i64 E) (fun g w9 ha h0 h => (HEp.out w9 (rmd_low h.b HM1.out HLo.out)).mono fun e w8 ⟨q1, q2⟩ => ⟨q1, h.on q2⟩) ?_
  refine mv_read 4 hF (fun _ _ _ h => h) rfl (by kernel_rfl) (by kernel_rfl) (by kernel_rfl) (fun K hK => ?_)
  go_simp
  first | refine ⟨_, fun _ => rfl, hK _ _ ?_⟩ | refine hK _ _ ?_
  clear hK K
  refine mv_read 5 hF (fun _ _ _ h => h) rfl (by kernel_rfl) (by kernel_rfl) (by kernel_rfl) (fun K hK => ?_)
  go_simp
  first | refine ⟨_, fun _ => rfl, hK _ _ ?_⟩ | refine hK _ _ ?_
  clear hK K
  refine mv_read 6 hF (fun _ _ _ h => h) rfl (by kernel_rfl) (by kernel_rfl) (by kernel_rfl) (fun K hK => ?_)
  go_simp
  first | refine ⟨_, fun _ => rfl, hK _ _ ?_⟩ | refine hK _ _ ?_
  clear hK K
  refine mv_read 7 hF (fun _ _ _ h => h) rfl (by kernel_rfl) (by kernel_rfl) (by kernel_rfl) (fun K hK => ?_)
  go_simp
  first | refine ⟨_, fun _ => rfl, hK _ _ ?_⟩ | refine hK _ _ ?_
  clear hK K
  refine mv_read 8 hF (fun _ _ _ h => h) rfl (by kernel_rfl) (by kernel_rfl) (by kernel_rfl) (fun K hK => ?_)
  go_simp
  first | refine ⟨_, fun _ => rfl, hK _ _ ?_⟩ | refine hK _ _ ?_
  clear hK K
  refine mv_call1 9 54 rfl (by kernel_rfl) (by kernel_rfl) (by kernel_rfl) rfl rfl eg_rmroom (args := #[.pointer (some ⟨n, 0, none⟩)]) rfl (u := .int .i64 RO) (fun g w9 ha h0 h => (HRo.out w9 (rmd_low h.b HM1.out HLo.out)).mono fun e w8 ⟨q1, q2⟩ => ⟨q1, h.on q2⟩) ?_
  refine mv_read 10 hF (fun _ _ _ h => h) rfl (by kernel_rfl) (by kernel_rfl) (by kernel_rfl) (fun K hK => ?_)
  go_simp
  first | refine ⟨_, fun _ => rfl, hK _ _ ?_⟩ | refine hK _ _ ?_
  clear hK K
  refine mv_read 11 hF (fun _ _ _ h => h) rfl (by kernel_rfl) (by kernel_rfl) (by kernel_rfl) (fun K hK => ?_)
  go_simp
  first | refine ⟨_, fun _ => rfl, hK _ _ ?_⟩ | refine hK _ _ ?_
  clear hK K
  refine mv_read 12 hF (fun _ _ _ h => h) rfl (by kernel_rfl) (by kernel_rfl) (by kernel_rfl) (fun K hK => ?_)
  go_simp
  first | refine ⟨_, fun _ => rfl, hK _ _ ?_⟩ | refine hK _ _ ?_
  clear hK K
  refine mv_read 13 hF (fun _ _ _ h => h) rfl (by kernel_rfl) (by kernel_rfl) (by kernel_rfl) (fun K hK => ?_)
  go_simp
  first | refine ⟨_, fun _ => rfl, hK _ _ ?_⟩ | refine hK _ _ ?_
  clear hK K
  refine mv_read 14 hF (fun _ _ _ h => h) rfl (by kernel_rfl) (by kernel_rfl) (by kernel_rfl) (fun K hK => ?_)
  go_simp
  first | refine ⟨_, fun _ => rfl, hK _ _ ?_⟩ | refine hK _ _ ?_
  clear hK K
  refine mv_read 15 hF (fun _ _ _ h => h) rfl (by kernel_rfl) (by kernel_rfl) (by kernel_rfl) (fun K hK => ?_)
  go_simp
  first | refine ⟨_, fun _ => rfl, hK _ _ ?_⟩ | refine hK _ _ ?_
  clear hK K
  refine mv_read 16 hF (fun _ _ _ h => h) rfl (by kernel_rfl) (by kernel_rfl) (by kernel_rfl) (fun K hK => ?_)
  go_simp
  first | refine ⟨_, fun _ => rfl, hK _ _ ?_⟩ | refine hK _ _ ?_
  clear hK K
  refine mv_read 17 hF (fun _ _ _ h => h) rfl (by kernel_rfl) (by kernel_rfl) (by kernel_rfl) (fun K hK => ?_)
  go_simp
  first | refine ⟨_, fun _ => rfl, hK _ _ ?_⟩ | refine hK _ _ ?_
  clear hK K
  refine mv_read 18 hF (fun _ _ _ h => h) rfl (by kernel_rfl) (by kernel_rfl) (by kernel_rfl) (fun K hK => ?_)
  go_simp
  first | refine ⟨_, fun _ => rfl, hK _ _ ?_⟩ | refine hK _ _ ?_
  clear hK K
  refine mv_read 19 hF (fun _ _ _ h => h) rfl (by kernel_rfl) (by kernel_rfl) (by kernel_rfl) (fun K hK => ?_)
  go_simp
  first | refine ⟨_, fun _ => rfl, hK _ _ ?_⟩ | refine hK _ _ ?_
  clear hK K
  refine mv_read 20 hF (fun _ _ _ h => h) rfl (by kernel_rfl) (by kernel_rfl) (by kernel_rfl) (fun K hK => ?_)
  go_simp
  first | refine ⟨_, fun _ => rfl, hK _ _ ?_⟩ | refine hK _ _ ?_
  clear hK K
  refine mv_read 21 hF (fun _ _ _ h => h) rfl (by kernel_rfl) (by kernel_rfl) (by kernel_rfl) (fun K hK => ?_)
  go_simp
  first | refine ⟨_, fun _ => rfl, hK _ _ ?_⟩ | refine hK _ _ ?_
  clear hK K
  refine mv_call1 22 28 rfl (by kernel_rfl) (by kernel_rfl) (by kernel_rfl) rfl rfl eg_rmplaces (args := #[.pointer (some ⟨n, 0, none⟩), .int .i64 m.geo.first]) rfl (u := .int .i64 (PN : Nat)) (fun g w9 ha h0 h => (HPl.out w9 (rmd_low h.b HM1.out HLo.out)).mono fun e w8 ⟨q1, q2⟩ => ⟨q1, h.on q2⟩) ?_
  refine mv_read 23 hF (fun _ _ _ h => h) rfl (by kernel_rfl) (by kernel_rfl) (by kernel_rfl) (fun K hK => ?_)
  go_simp
  first | refine ⟨_, fun _ => rfl, hK _ _ ?_⟩ | refine hK _ _ ?_
  clear hK K
  refine mv_read 24 hF (fun _ _ _ h => h) rfl (by kernel_rfl) (by kernel_rfl) (by kernel_rfl) (fun K hK => ?_)
  go_simp
  first | refine ⟨_, fun _ => rfl, hK _ _ ?_⟩ | refine hK _ _ ?_
  clear hK K
  refine mv_read 25 hF (fun _ _ _ h => h) rfl (by kernel_rfl) (by kernel_rfl) (by kernel_rfl) (fun K hK => ?_)
  go_simp
  first | refine ⟨_, fun _ => rfl, hK _ _ ?_⟩ | refine hK _ _ ?_
  clear hK K
  refine mv_call 26 60 rfl (by kernel_rfl) rfl rfl eg_rbnames (args := #[.pointer (some ⟨n, 5, none⟩)]) rfl (fun v => ∃ a c, v = .slice a HLn c) (fun g w9 ha h0 h => (HNa.out w9 (rmd_low h.b HM1.out HLo.out)).mono fun e w8 ⟨a, c, q1, q2⟩ => ⟨_, q1, ⟨a, c, rfl⟩, h.on q2⟩) ?_
  rintro _ ⟨na, nc, rfl⟩
  refine mv_read 27 hF (fun _ _ _ h => h) rfl (by kernel_rfl) (by kernel_rfl) (by kernel_rfl) (fun K hK => ?_)
  go_simp
  first | refine ⟨_, fun _ => rfl, hK _ _ ?_⟩ | refine hK _ _ ?_
  clear hK K
  refine mv_read 28 hF (fun _ _ _ h => h) rfl (by kernel_rfl) (by kernel_rfl) (by kernel_rfl) (fun K hK => ?_)
  go_simp
  first | refine ⟨_, fun _ => rfl, hK _ _ ?_⟩ | refine hK _ _ ?_
  clear hK K
  refine mv_store_blk 29 rfl (by kernel_rfl) rfl 37 (.tmp 2) (.tmp 31) rfl w.heap.size 0 #[.int .i64 E, .int .i64 m.now, .int .i64 RO, .int .i64 (m.recs.length : Nat), .int .i64 (PN : Nat), .int .i64 (HLn : Nat)] rfl rfl (by kernel_rfl) (six_one _ _ _ _ _ _) (fun g w9 ha h0 h => ?_) ?_
  · simp only [h0] at h
    refine ⟨#[.int .i64 0, .int .i64 0, .int .i64 0, .int .i64 0, .int .i64 0, .int .i64 0], 37, h.z, Nat.le_refl 6, ?_⟩
    rw [splice_all #[.int .i64 0, .int .i64 0, .int .i64 0, .int .i64 0, .int .i64 0, .int .i64 0] #[.int .i64 E, .int .i64 m.now, .int .i64 RO, .int .i64 (m.recs.length : Nat), .int .i64 (PN : Nat), .int .i64 (HLn : Nat)] rfl]
    show StC _ _ _ (upd g 29 _ 29) _
    rw [upd_self]
    exact h.stored
  refine mv_end (by kernel_rfl) ?_
  intro y8 hy8
  have KE := Lib.hid (show y8.heap[w.heap.size]? = some (.cells #[.int .i64 E, .int .i64 m.now, .int .i64 RO, .int .i64 (m.recs.length : Nat), .int .i64 (PN : Nat), .int .i64 (HLn : Nat)] 37 (0, 0)) from hy8.z)
  have KB := Lib.hid (H2.out.1.trans hy8.b)
  clear hy8 hF hFC kb kl kf kt kr
  obtain ⟨y0, y1, y2, y3, y4, y5⟩ := blk6s KE.out
  try go_wp2
  refine bodyPost_ret (v := .agg #[.int .i64 E, .int .i64 m.now, .int .i64 RO, .int .i64 (m.recs.length : Nat), .int .i64 (PN : Nat), .int .i64 (HLn : Nat)]) (by simp [results, Tryz.results31, go_sem, y0, y1, y2, y3, y4, y5]) rfl ?_
  exact HR.out _ _ ⟨rfl, KB.out⟩
end Go.Proofs.YtnkiokaeooopgaaGreat
