/- Texts that the claim rests on, part 11: RSeal, OctetNoughts, RAny. -/
import Derived.Test.YtnkiokaeooopgaaGreatProg
import Derived.Test.YtnkiokaeooopgaaGreatM10
/- The document's model: a record that a call means. -/
set_option maxRecDepth 100000
namespace Ks
open Go Go.RowKit
theorem room_nonneg (m : ModT) : 0 ≤ roomM m := by unfold roomM geoRoom; split <;> omega
theorem seal_rec (m : ModT) (c : CallT) : sealE m c = (if meansE m c ≠ 0 then meansE m c else recordE m (meansR m c) (roomM m)) ∧ sealM m c = (if meansE m c ≠ 0 then m else recordM m (meansR m c) (roomM m)) := by
  have hr := room_nonneg m
  have e1 : sealE m c = (if meansE m c ≠ 0 then meansE m c else recordE m (meansR m c) (roomM m)) := by
    unfold sealE recordE
    by_cases h : roomM m = 0
    · rw [if_pos h, if_pos (show roomM m < 1 by omega)]
    · rw [if_neg h, if_neg (show ¬ roomM m < 1 by omega)]
  refine ⟨e1, ?_⟩
  unfold sealM recordM
  rw [e1]
  by_cases h : meansE m c = 0
  · simp [h]
  · simp [h]
theorem closed_there (m : ModT) (ep : Int) : closedE m ep = thereE m ep true := by unfold closedE thereE; simp
end Ks
namespace Go.Proofs.YtnkiokaeooopgaaGreat
open Go.RowKit Ks
set_option linter.unusedVariables false
set_option linter.unusedSimpArgs false
/-- worlds of a region whose last call turns a model: it comes behind the others -/
def LastC (W : World) (n : Nat) (rv vv : Value) (RM : ModT) (f1 f2 fr : Option Value) (y : World) : Prop := match fr with
  | none => (f2 ≠ none → f1 ≠ none) ∧ Below W.heap.size W y
  | some _ => (f1 ≠ none ∧ f2 ≠ none) ∧ ∃ rv', RMd y n rv' vv RM ∧ Turn W y (FR n rv vv) (FR n rv' vv)
theorem LastC.blk {W y : World} {n : Nat} {rv vv : Value} {RM : ModT} {f1 f2 fr : Option Value} (h : LastC W n rv vv RM f1 f2 fr y) {b : Nat} {ob : Obj} (hb : W.heap[b]? = some ob) (hn : ¬ FR n rv vv b) : y.heap[b]? = some ob := by
  cases fr with
  | none => exact blk_on h.2 hb
  | some v => obtain ⟨-, rv', -, ht⟩ := h; exact (ht.block b (lt_of_block hb) hn).trans hb
theorem LastC.early {W y : World} {n : Nat} {rv vv : Value} {RM : ModT} {f1 f2 fr : Option Value} (h : LastC W n rv vv RM f1 f2 fr y) (h0 : f1 = none ∨ f2 = none) : fr = none ∧ (f2 ≠ none → f1 ≠ none) ∧ Below W.heap.size W y := by
  cases fr with
  | none => exact ⟨rfl, h.1, h.2⟩
  | some v => exact (h0.elim (fun q => h.1.1 q) (fun q => h.1.2 q)).elim
theorem LastC.on {W y y' : World} {n : Nat} {rv vv : Value} {RM : ModT} {f1' f2' : Option Value} (hf : f2' ≠ none → f1' ≠ none) (h : Below W.heap.size W y) (hb : Below y.heap.size y y') : LastC W n rv vv RM f1' f2' none y' := ⟨hf, h.trans (hb.mono h.size)⟩
theorem eg_rmrec : ∀ args w, (callFunc 27 args).run Tryz.prog w = .ok (.enter 27 args) w := fun _ _ => rfl
theorem eg_rbuntil : ∀ args w, (callFunc 59 args).run Tryz.prog w = .ok (.enter 59 args) w := fun _ _ => rfl
set_option maxRecDepth 100000 in
set_option maxHeartbeats 8000000 in
theorem rseal_any {n : Nat} {rv vv : Value} {m : ModT} (ki lb ce ti : Int) (da na : ByteArray) (ka : Option Addr) (kn kc : Nat) (w : World) (h : RMd w n rv vv m) (hi : ModI m) (ht : Ks.Twin m) (hk : ki = 6 ∨ ki = 7 ∨ ki = 8 ∨ ki = 9) :
    Calls Tryz.prog 30 #[.pointer (some ⟨n, 0, none⟩), .agg #[.int .i64 ki, .int .i64 lb, .int .i64 ce, .int .i64 ti, .string da, .string na, .slice ka kn kc]] w fun e w' => e = .returned (.int .i64 (sealE m ⟨ki, lb, ce, ti, da, na⟩)) ∧ ∃ rv', RMd w' n rv' vv (sealM m ⟨ki, lb, ce, ti, da, na⟩) ∧ Turn w w' (FR n rv vv) (FR n rv' vv) := by
  refine calls_by fun R HR => ?_
  have HD := Lib.hid h
  have HK := Lib.hid hk
  have HLo := Lib.hid h.lt
  have HTh := Lib.hid (fun A (q : RMd A n rv vv m) => rthere_any ce true A q hi ht)
  have HRo := Lib.hid (fun A (q : RMd A n rv vv m) => rroom_any A q hi ht)
  have HUn := Lib.hid (fun A (q : RMd A n rv vv m) => runtil_any ce A q hi ht)
  have HRc := Lib.hid (fun r A (q : RMd A n rv vv m) => rrecord_any r (roomM m) A q hi ht)
  have HNa := Lib.hid (fun A => rname_any na A)
  obtain ⟨hs1, hs2⟩ := seal_rec m ⟨ki, lb, ce, ti, da, na⟩
  have HS := Lib.hid (And.intro hs1 hs2)
  have HMe : Hid (meansE m ⟨ki, lb, ce, ti, da, na⟩ = if (ki = 7 ∨ ki = 8) ∧ nameB na = false then 2 else if ki ≠ 8 ∧ thereE m ce true ≠ 0 then thereE m ce true else if ki = 6 ∧ (ti < 0 ∨ 1099511627776 < ti) then 2 else 0) := Lib.hid (by rw [← closed_there]; rfl)
  have HMr : Hid (meansR m ⟨ki, lb, ce, ti, da, na⟩ = if ki = 6 then ⟨2, m.book.epoch, m.now, 0, ce, ti, ⟨#[]⟩, ⟨#[]⟩⟩ else if ki = 7 then ⟨3, m.book.epoch, m.now, 0, ce, 0, ⟨#[]⟩, na⟩ else if ki = 8 then ⟨4, m.book.epoch, m.now, 0, 0, 0, ⟨#[]⟩, na⟩ else ⟨5, m.book.epoch, m.now, 0, ce, tillN m.book ce, ⟨#[]⟩, ⟨#[]⟩⟩) := Lib.hid rfl
  clear hs1 hs2
  generalize sealE m ⟨ki, lb, ce, ti, da, na⟩ = SE at *
  generalize sealM m ⟨ki, lb, ce, ti, da, na⟩ = SM at *
  generalize meansE m ⟨ki, lb, ce, ti, da, na⟩ = MEE at *
  generalize meansR m ⟨ki, lb, ce, ti, da, na⟩ = MRR at *
  generalize thereE m ce true = TE at *
  obtain ⟨RO, hRO⟩ : ∃ RO, roomM m = RO := ⟨_, rfl⟩
  rw [hRO] at HRo HRc HS
  clear h hi ht hk hRO
  have H1 := Lib.hid (And.intro (Below.refl w.heap.size w) (HD.out))
  obtain ⟨W1, hW1⟩ : ∃ W1, w.alloc (.cells #[.int .i64 ki, .int .i64 lb, .int .i64 ce, .int .i64 ti, .string da, .string na, .slice ka kn kc] 35) = W1 := ⟨_, rfl⟩
  have hbW1 : Below w.heap.size w W1 := by rw [← hW1]; exact alloc_below w _
  have kW1 : W1.heap[w.heap.size]? = some (.cells #[.int .i64 ki, .int .i64 lb, .int .i64 ce, .int .i64 ti, .string da, .string na, .slice ka kn kc] 35 (0, 0)) := by rw [← hW1]; exact alloc_new w _
  have H2 := Lib.hid (And.intro (H1.out.1.trans (hbW1.mono H1.out.1.size)) (And.intro (H1.out.2.below hbW1) (kW1)))
  clear hbW1 kW1
  obtain ⟨a0, a1, a2, a3, a4, a5, a6⟩ := blk7c H2.out.2.2
  go_enter Tryz.func30, Tryz.ntmps30
  have hk9 : ((ki == 7) = decide (ki = 7)) ∧ ((ki == 8) = decide (ki = 8)) := ⟨by by_cases q : ki = 7 <;> simp [q], by by_cases q : ki = 8 <;> simp [q]⟩
  clear hk9
  by_cases k8 : ki = 8
  case pos =>
    subst k8
    cases hn : nameB na with
    | false =>
      rw [hn] at HNa
      have HN := Lib.hid hn
      clear hn
      have HZ := Lib.hid (show SE = 2 ∧ SM = m from (fun e => ⟨by rw [HS.out.1, e, if_pos (by decide)], by rw [HS.out.2, e, if_pos (by decide)]⟩) (show MEE = 2 by rw [HMe.out, if_pos ⟨Or.inr rfl, HN.out⟩]))
      go_wp2_with fail
      refine (HNa.out _).mono ?_
      rintro en y9 ⟨rfl, hw⟩
      rw [hw]
      clear hw y9 hW1
      skip
      go_wp2
      exact HR.out _ _ ⟨by rw [HZ.out.1] <;> rfl, rv, by rw [HZ.out.2]; exact H2.out.2.1, Turn.of_below _ H2.out.1⟩
    | true =>
      rw [hn] at HNa
      have HN := Lib.hid hn
      clear hn
      go_wp2_with fail
      refine (HNa.out _).mono ?_
      rintro en y9 ⟨rfl, hw⟩
      rw [hw]
      clear hw y9 hW1
      have hne : ¬ FR n rv vv w.heap.size := fun q => by have := HLo.out _ q; omega
      have HRR := Lib.hid (fun A (q : RMd A n rv vv m) => HRc.out ⟨4, 0, 0, 0, 0, 0, ⟨#[]⟩, na⟩ A q)
      have HZ := Lib.hid (show SE = recordE m ⟨4, m.book.epoch, m.now, 0, 0, 0, ⟨#[]⟩, na⟩ RO ∧ SM = recordM m ⟨4, m.book.epoch, m.now, 0, 0, 0, ⟨#[]⟩, na⟩ RO from (fun e e2 => ⟨by rw [HS.out.1, e, if_neg (by decide), e2], by rw [HS.out.2, e, if_neg (by decide), e2]⟩) (show MEE = 0 by rw [HMe.out, if_neg (fun q => by have := q.2; rw [HN.out] at this; cases this), if_neg (fun q => q.1 rfl), if_neg (fun q => absurd q.1 (by decide))]) (show MRR = ⟨4, m.book.epoch, m.now, 0, 0, 0, ⟨#[]⟩, na⟩ by first | (rw [HMr.out, if_neg (by decide), if_neg (by decide), if_pos rfl]; done) | (rw [HMr.out]; simp)))
      simp only at HRR
      generalize recordE m ⟨4, m.book.epoch, m.now, 0, 0, 0, ⟨#[]⟩, na⟩ RO = RE at *
      generalize recordM m ⟨4, m.book.epoch, m.now, 0, 0, 0, ⟨#[]⟩, na⟩ RO = RM at *
      have KM := Lib.hid H2.out.2.1
      have KA := Lib.hid H2.out.2.2
      have KT := Lib.hid H2.out.1
      go_upto_region 4 with fail
      refine wp_region_mv (fun ft => LastC W1 n rv vv RM (ft 5) (ft 5) (ft 6)) (by kernel_rfl) ⟨fun q => absurd rfl q, drew_below W1⟩ ?_
      obtain ⟨S, F, hF, hFC⟩ := moved_class (fun ft => LastC W1 n rv vv RM (ft 5) (ft 5) (ft 6))
      have ke := fun s => (blk7c ((hFC s).choose_spec.blk KA.out hne)).2.2.1
      have kt := fun s => (blk7c ((hFC s).choose_spec.blk KA.out hne)).2.2.2.1
      have kn := fun s => (blk7c ((hFC s).choose_spec.blk KA.out hne)).2.2.2.2.2.1
      clear a0 a1 a2 a3 a4 a5 a6
      show wpAnyM _ _ _ _ _ 8 (Array.replicate 8 false) _ _
      refine mv_read 0 hF (fun _ _ _ h => h) rfl (by kernel_rfl) (by kernel_rfl) (by kernel_rfl) (fun K hK => ?_)
      go_simp
      first | refine ⟨_, fun _ => rfl, hK _ _ ?_⟩ | refine hK _ _ ?_
      clear hK K
      refine mv_read 1 hF (fun _ _ _ h => h) rfl (by kernel_rfl) (by kernel_rfl) (by kernel_rfl) (fun K hK => ?_)
      go_simp
      first | refine ⟨_, fun _ => rfl, hK _ _ ?_⟩ | refine hK _ _ ?_
      clear hK K
      refine mv_read 2 hF (fun _ _ _ h => h) rfl (by kernel_rfl) (by kernel_rfl) (by kernel_rfl) (fun K hK => ?_)
      go_simp
      first | refine ⟨_, fun _ => rfl, hK _ _ ?_⟩ | refine hK _ _ ?_
      clear hK K
      refine mv_read 3 hF (fun _ _ _ h => h) rfl (by kernel_rfl) (by kernel_rfl) (by kernel_rfl) (fun K hK => ?_)
      go_simp
      first | refine ⟨_, fun _ => rfl, hK _ _ ?_⟩ | refine hK _ _ ?_
      clear hK K
      refine mv_read 4 hF (fun _ _ _ h => h) rfl (by kernel_rfl) (by kernel_rfl) (by kernel_rfl) (fun K hK => ?_)
      go_simp
      first | refine ⟨_, fun _ => rfl, hK _ _ ?_⟩ | refine hK _ _ ?_
      clear hK K
      refine mv_call1 5 54 rfl (by kernel_rfl) (by kernel_rfl) (by kernel_rfl) rfl rfl eg_rmroom (args := #[.pointer (some ⟨n, 0, none⟩)]) rfl (u := .int .i64 RO) (fun g w9 ha h0 h => ?_) ?_
      · obtain ⟨q0, q7, q3⟩ := h.early (Or.inl h0)
        exact (HRo.out w9 (KM.out.below q3)).mono fun e w8 ⟨q1, q2⟩ => ⟨q1, by show LastC _ _ _ _ _ (upd g 5 _ 5) (upd g 5 _ 5) (g 6) _; rw [q0]; exact LastC.on (fun q => q) q3 q2⟩
      refine mv_call1 6 27 rfl (by kernel_rfl) (by kernel_rfl) (by kernel_rfl) rfl rfl eg_rmrec (args := #[.pointer (some ⟨n, 0, none⟩), recV ⟨4, 0, 0, 0, 0, 0, ⟨#[]⟩, na⟩, .int .i64 RO]) rfl (u := .int .i64 RE) (fun g w9 ha h0 h => ?_) ?_
      · simp only [h0] at h
        have h2 : Below W1.heap.size W1 w9 := h.2
        have h9 := h.1
        refine (HRR.out w9 (KM.out.below h2)).mono ?_
        rintro e w8 ⟨q1, rv', q2, q3⟩
        refine ⟨q1, ?_⟩
        show LastC _ _ _ _ _ (g 5) (g 5) (upd g 6 _ 6) _
        rw [upd_self]
        have hr2 : g 5 ≠ none := by have e := agree_on 5 ha (by kernel_rfl); rw [e]; exact fun q => by cases q
        exact ⟨⟨h9 hr2, hr2⟩, rv', q2, (Turn.of_below _ h2).trans q3⟩
      refine mv_read 7 hF (fun _ _ _ h => h) rfl (by kernel_rfl) (by kernel_rfl) (by kernel_rfl) (fun K hK => ?_)
      go_simp
      first | refine ⟨_, fun _ => rfl, hK _ _ ?_⟩ | refine hK _ _ ?_
      clear hK K
      refine mv_end (by kernel_rfl) ?_
      intro y8 hy8
      obtain ⟨-, rv', g1, g2⟩ : _ ∧ ∃ rv', RMd y8 n rv' vv RM ∧ Turn W1 y8 (FR n rv vv) (FR n rv' vv) := hy8
      have HF := Lib.hid (And.intro g1 ((Turn.of_below _ KT.out).trans g2))
      clear g1 g2 hF hFC ke kt kn
      go_wp2
      exact HR.out _ _ ⟨by rw [HZ.out.1] <;> rfl, rv', by rw [HZ.out.2]; exact HF.out.1, HF.out.2⟩
  have k8b : (ki == 8) = false := by simpa using k8
  have HK8 := Lib.hid k8
  clear k8
  by_cases k7 : ki = 7
  case pos =>
    subst k7
    cases hn : nameB na with
    | false =>
      rw [hn] at HNa
      have HN := Lib.hid hn
      clear hn
      have HZ := Lib.hid (show SE = 2 ∧ SM = m from (fun e => ⟨by rw [HS.out.1, e, if_pos (by decide)], by rw [HS.out.2, e, if_pos (by decide)]⟩) (show MEE = 2 by rw [HMe.out, if_pos ⟨Or.inl rfl, HN.out⟩]))
      go_wp2_with fail
      refine (HNa.out _).mono ?_
      rintro en y9 ⟨rfl, hw⟩
      rw [hw]
      clear hw y9 hW1
      skip
      go_wp2
      exact HR.out _ _ ⟨by rw [HZ.out.1] <;> rfl, rv, by rw [HZ.out.2]; exact H2.out.2.1, Turn.of_below _ H2.out.1⟩
    | true =>
      rw [hn] at HNa
      have HN := Lib.hid hn
      clear hn
      go_wp2_with fail
      refine (HNa.out _).mono ?_
      rintro en y9 ⟨rfl, hw⟩
      rw [hw]
      clear hw y9 hW1
      go_wp2_with fail
      refine (HTh.out _ H2.out.2.1).mono ?_
      rintro en v1 ⟨rfl, hb⟩
      have H3 := Lib.hid (And.intro (H2.out.1.trans (hb.mono H2.out.1.size)) (And.intro (H2.out.2.1.below hb) (blk_on hb H2.out.2.2)))
      clear hb
      try clear hW1
      clear a0 a1 a2 a3 a4 a5 a6
      obtain ⟨a0, a1, a2, a3, a4, a5, a6⟩ := blk7c H3.out.2.2
      by_cases ht : TE = 0
      case neg =>
        have dt : (TE != 0) = true := by simpa using ht
        have HT := Lib.hid ht
        clear ht
        have HZ := Lib.hid (show SE = TE ∧ SM = m from (fun e => ⟨by rw [HS.out.1, e, if_pos HT.out], by rw [HS.out.2, e, if_pos HT.out]⟩) (show MEE = TE by rw [HMe.out, if_neg (fun q => by have := q.2; rw [HN.out] at this; cases this), if_pos ⟨HK8.out, HT.out⟩]))
        skip
        go_wp2
        exact HR.out _ _ ⟨by rw [HZ.out.1] <;> rfl, rv, by rw [HZ.out.2]; exact H3.out.2.1, Turn.of_below _ H3.out.1⟩
      subst ht
      have hne : ¬ FR n rv vv w.heap.size := fun q => by have := HLo.out _ q; omega
      have HRR := Lib.hid (fun A (q : RMd A n rv vv m) => HRc.out ⟨3, 0, 0, 0, ce, 0, ⟨#[]⟩, na⟩ A q)
      have HZ := Lib.hid (show SE = recordE m ⟨3, m.book.epoch, m.now, 0, ce, 0, ⟨#[]⟩, na⟩ RO ∧ SM = recordM m ⟨3, m.book.epoch, m.now, 0, ce, 0, ⟨#[]⟩, na⟩ RO from (fun e e2 => ⟨by rw [HS.out.1, e, if_neg (by decide), e2], by rw [HS.out.2, e, if_neg (by decide), e2]⟩) (show MEE = 0 by rw [HMe.out, if_neg (fun q => by have := q.2; rw [HN.out] at this; cases this), if_neg (fun q => q.2 rfl), if_neg (fun q => absurd q.1 (by decide))]) (show MRR = ⟨3, m.book.epoch, m.now, 0, ce, 0, ⟨#[]⟩, na⟩ by first | (rw [HMr.out, if_neg (by decide), if_pos rfl]; done) | (rw [HMr.out]; simp)))
      simp only at HRR
      generalize recordE m ⟨3, m.book.epoch, m.now, 0, ce, 0, ⟨#[]⟩, na⟩ RO = RE at *
      generalize recordM m ⟨3, m.book.epoch, m.now, 0, ce, 0, ⟨#[]⟩, na⟩ RO = RM at *
      have KM := Lib.hid H3.out.2.1
      have KA := Lib.hid H3.out.2.2
      have KT := Lib.hid H3.out.1
      go_upto_region 14 with fail
      refine wp_region_mv (fun ft => LastC v1 n rv vv RM (ft 7) (ft 7) (ft 8)) (by kernel_rfl) ⟨fun q => absurd rfl q, drew_below v1⟩ ?_
      obtain ⟨S, F, hF, hFC⟩ := moved_class (fun ft => LastC v1 n rv vv RM (ft 7) (ft 7) (ft 8))
      have ke := fun s => (blk7c ((hFC s).choose_spec.blk KA.out hne)).2.2.1
      have kt := fun s => (blk7c ((hFC s).choose_spec.blk KA.out hne)).2.2.2.1
      have kn := fun s => (blk7c ((hFC s).choose_spec.blk KA.out hne)).2.2.2.2.2.1
      clear a0 a1 a2 a3 a4 a5 a6
      show wpAnyM _ _ _ _ _ 10 (Array.replicate 10 false) _ _
      refine mv_read 0 hF (fun _ _ _ h => h) rfl (by kernel_rfl) (by kernel_rfl) (by kernel_rfl) (fun K hK => ?_)
      go_simp
      first | refine ⟨_, fun _ => rfl, hK _ _ ?_⟩ | refine hK _ _ ?_
      clear hK K
      refine mv_read 1 hF (fun _ _ _ h => h) rfl (by kernel_rfl) (by kernel_rfl) (by kernel_rfl) (fun K hK => ?_)
      go_simp
      first | refine ⟨_, fun _ => rfl, hK _ _ ?_⟩ | refine hK _ _ ?_
      clear hK K
      refine mv_read 2 hF (fun _ _ _ h => h) rfl (by kernel_rfl) (by kernel_rfl) (by kernel_rfl) (fun K hK => ?_)
      go_simp
      first | refine ⟨_, fun _ => rfl, hK _ _ ?_⟩ | refine hK _ _ ?_
      clear hK K
      refine mv_read 3 hF (fun _ _ _ h => h) rfl (by kernel_rfl) (by kernel_rfl) (by kernel_rfl) (fun K hK => ?_)
      go_simp
      first | refine ⟨_, fun _ => rfl, hK _ _ ?_⟩ | refine hK _ _ ?_
      clear hK K
      refine mv_read 4 hF (fun _ _ _ h => h) rfl (by kernel_rfl) (by kernel_rfl) (by kernel_rfl) (fun K hK => ?_)
      go_simp
      first | refine ⟨_, fun _ => rfl, hK _ _ ?_⟩ | refine hK _ _ ?_
      clear hK K
      refine mv_read 5 hF (fun _ _ _ h => h) rfl (by kernel_rfl) (by kernel_rfl) (by kernel_rfl) (fun K hK => ?_)
      go_simp
      first | refine ⟨_, fun _ => rfl, hK _ _ ?_⟩ | refine hK _ _ ?_
      clear hK K
      refine mv_read 6 hF (fun _ _ _ h => h) rfl (by kernel_rfl) (by kernel_rfl) (by kernel_rfl) (fun K hK => ?_)
      go_simp
      first | refine ⟨_, fun _ => rfl, hK _ _ ?_⟩ | refine hK _ _ ?_
      clear hK K
      refine mv_call1 7 54 rfl (by kernel_rfl) (by kernel_rfl) (by kernel_rfl) rfl rfl eg_rmroom (args := #[.pointer (some ⟨n, 0, none⟩)]) rfl (u := .int .i64 RO) (fun g w9 ha h0 h => ?_) ?_
      · obtain ⟨q0, q7, q3⟩ := h.early (Or.inl h0)
        exact (HRo.out w9 (KM.out.below q3)).mono fun e w8 ⟨q1, q2⟩ => ⟨q1, by show LastC _ _ _ _ _ (upd g 7 _ 7) (upd g 7 _ 7) (g 8) _; rw [q0]; exact LastC.on (fun q => q) q3 q2⟩
      refine mv_call1 8 27 rfl (by kernel_rfl) (by kernel_rfl) (by kernel_rfl) rfl rfl eg_rmrec (args := #[.pointer (some ⟨n, 0, none⟩), recV ⟨3, 0, 0, 0, ce, 0, ⟨#[]⟩, na⟩, .int .i64 RO]) rfl (u := .int .i64 RE) (fun g w9 ha h0 h => ?_) ?_
      · simp only [h0] at h
        have h2 : Below v1.heap.size v1 w9 := h.2
        have h9 := h.1
        refine (HRR.out w9 (KM.out.below h2)).mono ?_
        rintro e w8 ⟨q1, rv', q2, q3⟩
        refine ⟨q1, ?_⟩
        show LastC _ _ _ _ _ (g 7) (g 7) (upd g 8 _ 8) _
        rw [upd_self]
        have hr2 : g 7 ≠ none := by have e := agree_on 7 ha (by kernel_rfl); rw [e]; exact fun q => by cases q
        exact ⟨⟨h9 hr2, hr2⟩, rv', q2, (Turn.of_below _ h2).trans q3⟩
      refine mv_read 9 hF (fun _ _ _ h => h) rfl (by kernel_rfl) (by kernel_rfl) (by kernel_rfl) (fun K hK => ?_)
      go_simp
      first | refine ⟨_, fun _ => rfl, hK _ _ ?_⟩ | refine hK _ _ ?_
      clear hK K
      refine mv_end (by kernel_rfl) ?_
      intro y8 hy8
      obtain ⟨-, rv', g1, g2⟩ : _ ∧ ∃ rv', RMd y8 n rv' vv RM ∧ Turn v1 y8 (FR n rv vv) (FR n rv' vv) := hy8
      have HF := Lib.hid (And.intro g1 ((Turn.of_below _ KT.out).trans g2))
      clear g1 g2 hF hFC ke kt kn
      go_wp2
      exact HR.out _ _ ⟨by rw [HZ.out.1] <;> rfl, rv', by rw [HZ.out.2]; exact HF.out.1, HF.out.2⟩
  have k7b : (ki == 7) = false := by simpa using k7
  have HK7 := Lib.hid k7
  clear k7
  go_wp2_with fail
  refine (HTh.out _ H2.out.2.1).mono ?_
  rintro en v1 ⟨rfl, hb⟩
  have H3 := Lib.hid (And.intro (H2.out.1.trans (hb.mono H2.out.1.size)) (And.intro (H2.out.2.1.below hb) (blk_on hb H2.out.2.2)))
  clear hb
  try clear hW1
  clear a0 a1 a2 a3 a4 a5 a6
  obtain ⟨a0, a1, a2, a3, a4, a5, a6⟩ := blk7c H3.out.2.2
  by_cases ht : TE = 0
  case neg =>
    have dt : (TE != 0) = true := by simpa using ht
    have HT := Lib.hid ht
    clear ht
    have HZ := Lib.hid (show SE = TE ∧ SM = m from (fun e => ⟨by rw [HS.out.1, e, if_pos HT.out], by rw [HS.out.2, e, if_pos HT.out]⟩) (show MEE = TE by rw [HMe.out, if_neg (fun q => q.1.elim HK7.out HK8.out), if_pos ⟨HK8.out, HT.out⟩]))
    skip
    go_wp2
    exact HR.out _ _ ⟨by rw [HZ.out.1] <;> rfl, rv, by rw [HZ.out.2]; exact H3.out.2.1, Turn.of_below _ H3.out.1⟩
  subst ht
  by_cases k6 : ki = 6
  case pos =>
    subst k6
    by_cases c1 : ti < 0
    case pos =>
      have d1 : decide (ti < 0) = true := decide_eq_true c1
      have HC1 := Lib.hid c1
      clear c1
      have HZ := Lib.hid (show SE = 2 ∧ SM = m from (fun e => ⟨by rw [HS.out.1, e, if_pos (by decide)], by rw [HS.out.2, e, if_pos (by decide)]⟩) (show MEE = 2 by rw [HMe.out, if_neg (fun q => q.1.elim HK7.out HK8.out), if_neg (fun q => q.2 rfl), if_pos ⟨rfl, Or.inl HC1.out⟩]))
      skip
      go_wp2
      exact HR.out _ _ ⟨by rw [HZ.out.1] <;> rfl, rv, by rw [HZ.out.2]; exact H3.out.2.1, Turn.of_below _ H3.out.1⟩
    have d1 : decide (ti < 0) = false := decide_eq_false c1
    by_cases c2 : 1099511627776 < ti
    case pos =>
      have d2 : decide (1099511627776 < ti) = true := decide_eq_true c2
      have HC1 := Lib.hid c2
      clear c2
      have HZ := Lib.hid (show SE = 2 ∧ SM = m from (fun e => ⟨by rw [HS.out.1, e, if_pos (by decide)], by rw [HS.out.2, e, if_pos (by decide)]⟩) (show MEE = 2 by rw [HMe.out, if_neg (fun q => q.1.elim HK7.out HK8.out), if_neg (fun q => q.2 rfl), if_pos ⟨rfl, Or.inr HC1.out⟩]))
      skip
      go_wp2
      exact HR.out _ _ ⟨by rw [HZ.out.1] <;> rfl, rv, by rw [HZ.out.2]; exact H3.out.2.1, Turn.of_below _ H3.out.1⟩
    have d2 : decide (1099511627776 < ti) = false := decide_eq_false c2
    have HC1 := Lib.hid (show ¬ (ti < 0 ∨ 1099511627776 < ti) by omega)
    clear c1 c2
    have hne : ¬ FR n rv vv w.heap.size := fun q => by have := HLo.out _ q; omega
    have HRR := Lib.hid (fun A (q : RMd A n rv vv m) => HRc.out ⟨2, 0, 0, 0, ce, ti, ⟨#[]⟩, ⟨#[]⟩⟩ A q)
    have HZ := Lib.hid (show SE = recordE m ⟨2, m.book.epoch, m.now, 0, ce, ti, ⟨#[]⟩, ⟨#[]⟩⟩ RO ∧ SM = recordM m ⟨2, m.book.epoch, m.now, 0, ce, ti, ⟨#[]⟩, ⟨#[]⟩⟩ RO from (fun e e2 => ⟨by rw [HS.out.1, e, if_neg (by decide), e2], by rw [HS.out.2, e, if_neg (by decide), e2]⟩) (show MEE = 0 by rw [HMe.out, if_neg (fun q => q.1.elim HK7.out HK8.out), if_neg (fun q => q.2 rfl), if_neg (fun q => by have := q.2; have := HC1.out; omega)]) (show MRR = ⟨2, m.book.epoch, m.now, 0, ce, ti, ⟨#[]⟩, ⟨#[]⟩⟩ by first | (rw [HMr.out, if_pos rfl]; done) | (rw [HMr.out]; simp)))
    simp only at HRR
    generalize recordE m ⟨2, m.book.epoch, m.now, 0, ce, ti, ⟨#[]⟩, ⟨#[]⟩⟩ RO = RE at *
    generalize recordM m ⟨2, m.book.epoch, m.now, 0, ce, ti, ⟨#[]⟩, ⟨#[]⟩⟩ RO = RM at *
    have KM := Lib.hid H3.out.2.1
    have KA := Lib.hid H3.out.2.2
    have KT := Lib.hid H3.out.1
    go_upto_region 12 with fail
    refine wp_region_mv (fun ft => LastC v1 n rv vv RM (ft 7) (ft 7) (ft 8)) (by kernel_rfl) ⟨fun q => absurd rfl q, drew_below v1⟩ ?_
    obtain ⟨S, F, hF, hFC⟩ := moved_class (fun ft => LastC v1 n rv vv RM (ft 7) (ft 7) (ft 8))
    have ke := fun s => (blk7c ((hFC s).choose_spec.blk KA.out hne)).2.2.1
    have kt := fun s => (blk7c ((hFC s).choose_spec.blk KA.out hne)).2.2.2.1
    have kn := fun s => (blk7c ((hFC s).choose_spec.blk KA.out hne)).2.2.2.2.2.1
    clear a0 a1 a2 a3 a4 a5 a6
    show wpAnyM _ _ _ _ _ 10 (Array.replicate 10 false) _ _
    refine mv_read 0 hF (fun _ _ _ h => h) rfl (by kernel_rfl) (by kernel_rfl) (by kernel_rfl) (fun K hK => ?_)
    go_simp
    first | refine ⟨_, fun _ => rfl, hK _ _ ?_⟩ | refine hK _ _ ?_
    clear hK K
    refine mv_read 1 hF (fun _ _ _ h => h) rfl (by kernel_rfl) (by kernel_rfl) (by kernel_rfl) (fun K hK => ?_)
    go_simp
    first | refine ⟨_, fun _ => rfl, hK _ _ ?_⟩ | refine hK _ _ ?_
    clear hK K
    refine mv_read 2 hF (fun _ _ _ h => h) rfl (by kernel_rfl) (by kernel_rfl) (by kernel_rfl) (fun K hK => ?_)
    go_simp
    first | refine ⟨_, fun _ => rfl, hK _ _ ?_⟩ | refine hK _ _ ?_
    clear hK K
    refine mv_read 3 hF (fun _ _ _ h => h) rfl (by kernel_rfl) (by kernel_rfl) (by kernel_rfl) (fun K hK => ?_)
    go_simp
    first | refine ⟨_, fun _ => rfl, hK _ _ ?_⟩ | refine hK _ _ ?_
    clear hK K
    refine mv_read 4 hF (fun _ _ _ h => h) rfl (by kernel_rfl) (by kernel_rfl) (by kernel_rfl) (fun K hK => ?_)
    go_simp
    first | refine ⟨_, fun _ => rfl, hK _ _ ?_⟩ | refine hK _ _ ?_
    clear hK K
    refine mv_read 5 hF (fun _ _ _ h => h) rfl (by kernel_rfl) (by kernel_rfl) (by kernel_rfl) (fun K hK => ?_)
    go_simp
    first | refine ⟨_, fun _ => rfl, hK _ _ ?_⟩ | refine hK _ _ ?_
    clear hK K
    refine mv_read 6 hF (fun _ _ _ h => h) rfl (by kernel_rfl) (by kernel_rfl) (by kernel_rfl) (fun K hK => ?_)
    go_simp
    first | refine ⟨_, fun _ => rfl, hK _ _ ?_⟩ | refine hK _ _ ?_
    clear hK K
    refine mv_call1 7 54 rfl (by kernel_rfl) (by kernel_rfl) (by kernel_rfl) rfl rfl eg_rmroom (args := #[.pointer (some ⟨n, 0, none⟩)]) rfl (u := .int .i64 RO) (fun g w9 ha h0 h => ?_) ?_
    · obtain ⟨q0, q7, q3⟩ := h.early (Or.inl h0)
      exact (HRo.out w9 (KM.out.below q3)).mono fun e w8 ⟨q1, q2⟩ => ⟨q1, by show LastC _ _ _ _ _ (upd g 7 _ 7) (upd g 7 _ 7) (g 8) _; rw [q0]; exact LastC.on (fun q => q) q3 q2⟩
    refine mv_call1 8 27 rfl (by kernel_rfl) (by kernel_rfl) (by kernel_rfl) rfl rfl eg_rmrec (args := #[.pointer (some ⟨n, 0, none⟩), recV ⟨2, 0, 0, 0, ce, ti, ⟨#[]⟩, ⟨#[]⟩⟩, .int .i64 RO]) rfl (u := .int .i64 RE) (fun g w9 ha h0 h => ?_) ?_
    · simp only [h0] at h
      have h2 : Below v1.heap.size v1 w9 := h.2
      have h9 := h.1
      refine (HRR.out w9 (KM.out.below h2)).mono ?_
      rintro e w8 ⟨q1, rv', q2, q3⟩
      refine ⟨q1, ?_⟩
      show LastC _ _ _ _ _ (g 7) (g 7) (upd g 8 _ 8) _
      rw [upd_self]
      have hr2 : g 7 ≠ none := by have e := agree_on 7 ha (by kernel_rfl); rw [e]; exact fun q => by cases q
      exact ⟨⟨h9 hr2, hr2⟩, rv', q2, (Turn.of_below _ h2).trans q3⟩
    refine mv_read 9 hF (fun _ _ _ h => h) rfl (by kernel_rfl) (by kernel_rfl) (by kernel_rfl) (fun K hK => ?_)
    go_simp
    first | refine ⟨_, fun _ => rfl, hK _ _ ?_⟩ | refine hK _ _ ?_
    clear hK K
    refine mv_end (by kernel_rfl) ?_
    intro y8 hy8
    obtain ⟨-, rv', g1, g2⟩ : _ ∧ ∃ rv', RMd y8 n rv' vv RM ∧ Turn v1 y8 (FR n rv vv) (FR n rv' vv) := hy8
    have HF := Lib.hid (And.intro g1 ((Turn.of_below _ KT.out).trans g2))
    clear g1 g2 hF hFC ke kt kn
    go_wp2
    exact HR.out _ _ ⟨by rw [HZ.out.1] <;> rfl, rv', by rw [HZ.out.2]; exact HF.out.1, HF.out.2⟩
  have k6b : (ki == 6) = false := by simpa using k6
  have HK6 := Lib.hid k6
  clear k6
  obtain ⟨UT, hUT⟩ : ∃ x, tillN m.book ce = x := ⟨_, rfl⟩
  rw [hUT] at HUn HMr
  clear hUT
  have hne : ¬ FR n rv vv w.heap.size := fun q => by have := HLo.out _ q; omega
  have HRR := Lib.hid (fun A (q : RMd A n rv vv m) => HRc.out ⟨5, 0, 0, 0, ce, UT, ⟨#[]⟩, ⟨#[]⟩⟩ A q)
  have HZ := Lib.hid (show SE = recordE m ⟨5, m.book.epoch, m.now, 0, ce, UT, ⟨#[]⟩, ⟨#[]⟩⟩ RO ∧ SM = recordM m ⟨5, m.book.epoch, m.now, 0, ce, UT, ⟨#[]⟩, ⟨#[]⟩⟩ RO from (fun e e2 => ⟨by rw [HS.out.1, e, if_neg (by decide), e2], by rw [HS.out.2, e, if_neg (by decide), e2]⟩) (show MEE = 0 by rw [HMe.out, if_neg (fun q => q.1.elim HK7.out HK8.out), if_neg (fun q => q.2 rfl), if_neg (fun q => HK6.out q.1)]) (show MRR = ⟨5, m.book.epoch, m.now, 0, ce, UT, ⟨#[]⟩, ⟨#[]⟩⟩ by first | (rw [HMr.out, if_neg HK6.out, if_neg HK7.out, if_neg HK8.out]; done) | (rw [HMr.out]; simp)))
  simp only at HRR
  generalize recordE m ⟨5, m.book.epoch, m.now, 0, ce, UT, ⟨#[]⟩, ⟨#[]⟩⟩ RO = RE at *
  generalize recordM m ⟨5, m.book.epoch, m.now, 0, ce, UT, ⟨#[]⟩, ⟨#[]⟩⟩ RO = RM at *
  have KM := Lib.hid H3.out.2.1
  have KA := Lib.hid H3.out.2.2
  have KT := Lib.hid H3.out.1
  go_upto_region 15 with fail
  refine wp_region_mv (fun ft => LastC v1 n rv vv RM (ft 8) (ft 11) (ft 12)) (by kernel_rfl) ⟨fun q => absurd rfl q, drew_below v1⟩ ?_
  obtain ⟨S, F, hF, hFC⟩ := moved_class (fun ft => LastC v1 n rv vv RM (ft 8) (ft 11) (ft 12))
  have ke := fun s => (blk7c ((hFC s).choose_spec.blk KA.out hne)).2.2.1
  have kt := fun s => (blk7c ((hFC s).choose_spec.blk KA.out hne)).2.2.2.1
  have kn := fun s => (blk7c ((hFC s).choose_spec.blk KA.out hne)).2.2.2.2.2.1
  clear a0 a1 a2 a3 a4 a5 a6
  show wpAnyM _ _ _ _ _ 14 (Array.replicate 14 false) _ _
  refine mv_read 0 hF (fun _ _ _ h => h) rfl (by kernel_rfl) (by kernel_rfl) (by kernel_rfl) (fun K hK => ?_)
  go_simp
  first | refine ⟨_, fun _ => rfl, hK _ _ ?_⟩ | refine hK _ _ ?_
  clear hK K
  refine mv_read 1 hF (fun _ _ _ h => h) rfl (by kernel_rfl) (by kernel_rfl) (by kernel_rfl) (fun K hK => ?_)
  go_simp
  first | refine ⟨_, fun _ => rfl, hK _ _ ?_⟩ | refine hK _ _ ?_
  clear hK K
  refine mv_read 2 hF (fun _ _ _ h => h) rfl (by kernel_rfl) (by kernel_rfl) (by kernel_rfl) (fun K hK => ?_)
  go_simp
  first | refine ⟨_, fun _ => rfl, hK _ _ ?_⟩ | refine hK _ _ ?_
  clear hK K
  refine mv_read 3 hF (fun _ _ _ h => h) rfl (by kernel_rfl) (by kernel_rfl) (by kernel_rfl) (fun K hK => ?_)
  go_simp
  first | refine ⟨_, fun _ => rfl, hK _ _ ?_⟩ | refine hK _ _ ?_
  clear hK K
  refine mv_read 4 hF (fun _ _ _ h => h) rfl (by kernel_rfl) (by kernel_rfl) (by kernel_rfl) (fun K hK => ?_)
  go_simp
  first | refine ⟨_, fun _ => rfl, hK _ _ ?_⟩ | refine hK _ _ ?_
  clear hK K
  refine mv_read 5 hF (fun _ _ _ h => h) rfl (by kernel_rfl) (by kernel_rfl) (by kernel_rfl) (fun K hK => ?_)
  go_simp
  first | refine ⟨_, fun _ => rfl, hK _ _ ?_⟩ | refine hK _ _ ?_
  clear hK K
  refine mv_read 6 hF (fun _ _ _ h => h) rfl (by kernel_rfl) (by kernel_rfl) (by kernel_rfl) (fun K hK => ?_)
  go_simp
  first | refine ⟨_, fun _ => rfl, hK _ _ ?_⟩ | refine hK _ _ ?_
  clear hK K
  refine mv_read 7 hF (fun _ _ _ h => h) rfl (by kernel_rfl) (by kernel_rfl) (by kernel_rfl) (fun K hK => ?_)
  go_simp
  first | refine ⟨_, fun _ => rfl, hK _ _ ?_⟩ | refine hK _ _ ?_
  clear hK K
  refine mv_call1 8 59 rfl (by kernel_rfl) (by kernel_rfl) (by kernel_rfl) rfl rfl eg_rbuntil (args := #[.pointer (some ⟨n, 5, none⟩), .int .i64 ce]) rfl (u := .int .i64 UT) (fun g w9 ha h0 h => ?_) ?_
  · obtain ⟨q0, q7, q3⟩ := h.early (Or.inl h0)
    exact (HUn.out w9 (KM.out.below q3)).mono fun e w8 ⟨q1, q2⟩ => ⟨q1, by show LastC _ _ _ _ _ (upd g 8 _ 8) (g 11) (g 12) _; rw [q0]; exact LastC.on (fun _ => by rw [upd_self]; exact fun q => by cases q) q3 q2⟩
  refine mv_read 9 hF (fun _ _ _ h => h) rfl (by kernel_rfl) (by kernel_rfl) (by kernel_rfl) (fun K hK => ?_)
  go_simp
  first | refine ⟨_, fun _ => rfl, hK _ _ ?_⟩ | refine hK _ _ ?_
  clear hK K
  refine mv_read 10 hF (fun _ _ _ h => h) rfl (by kernel_rfl) (by kernel_rfl) (by kernel_rfl) (fun K hK => ?_)
  go_simp
  first | refine ⟨_, fun _ => rfl, hK _ _ ?_⟩ | refine hK _ _ ?_
  clear hK K
  refine mv_call1 11 54 rfl (by kernel_rfl) (by kernel_rfl) (by kernel_rfl) rfl rfl eg_rmroom (args := #[.pointer (some ⟨n, 0, none⟩)]) rfl (u := .int .i64 RO) (fun g w9 ha h0 h => ?_) ?_
  · obtain ⟨q0, q7, q3⟩ := h.early (Or.inr h0)
    exact (HRo.out w9 (KM.out.below q3)).mono fun e w8 ⟨q1, q2⟩ => ⟨q1, by show LastC _ _ _ _ _ (g 8) (upd g 11 _ 11) (g 12) _; rw [q0]; exact LastC.on (fun _ => by have e := agree_on 8 ha (by kernel_rfl); rw [e]; exact fun q => by cases q) q3 q2⟩
  refine mv_call1 12 27 rfl (by kernel_rfl) (by kernel_rfl) (by kernel_rfl) rfl rfl eg_rmrec (args := #[.pointer (some ⟨n, 0, none⟩), recV ⟨5, 0, 0, 0, ce, UT, ⟨#[]⟩, ⟨#[]⟩⟩, .int .i64 RO]) rfl (u := .int .i64 RE) (fun g w9 ha h0 h => ?_) ?_
  · simp only [h0] at h
    have h2 : Below v1.heap.size v1 w9 := h.2
    have h9 := h.1
    refine (HRR.out w9 (KM.out.below h2)).mono ?_
    rintro e w8 ⟨q1, rv', q2, q3⟩
    refine ⟨q1, ?_⟩
    show LastC _ _ _ _ _ (g 8) (g 11) (upd g 12 _ 12) _
    rw [upd_self]
    have hr2 : g 11 ≠ none := by have e := agree_on 11 ha (by kernel_rfl); rw [e]; exact fun q => by cases q
    exact ⟨⟨h9 hr2, hr2⟩, rv', q2, (Turn.of_below _ h2).trans q3⟩
  refine mv_read 13 hF (fun _ _ _ h => h) rfl (by kernel_rfl) (by kernel_rfl) (by kernel_rfl) (fun K hK => ?_)
  go_simp
  first | refine ⟨_, fun _ => rfl, hK _ _ ?_⟩ | refine hK _ _ ?_
  clear hK K
  refine mv_end (by kernel_rfl) ?_
  intro y8 hy8
  obtain ⟨-, rv', g1, g2⟩ : _ ∧ ∃ rv', RMd y8 n rv' vv RM ∧ Turn v1 y8 (FR n rv vv) (FR n rv' vv) := hy8
  have HF := Lib.hid (And.intro g1 ((Turn.of_below _ KT.out).trans g2))
  clear g1 g2 hF hFC ke kt kn
  go_wp2
  exact HR.out _ _ ⟨by rw [HZ.out.1] <;> rfl, rv', by rw [HZ.out.2]; exact HF.out.1, HF.out.2⟩
end Go.Proofs.YtnkiokaeooopgaaGreat
/- What the reference's Noughts answers. -/
namespace Go.Proofs.YtnkiokaeooopgaaGreat
open Go.RowKit Ks
set_option linter.unusedVariables false

theorem Tryz.infoByteN : (Tryz.prog.info? 5).map (fun i => (i.zero, i.size, i.bytes)) = some (some (.int .u8 0), 1, 1) := by kernel_rfl

set_option maxHeartbeats 400000 in
theorem noughts_any (n : Int) (w : World) (hn : n ≤ 281474976710656) :
    Calls Tryz.prog 29 #[.int .i64 n] w fun e w' => e = .returned (.string (zerosS n)) ∧ Below w.heap.size w w' := by
  refine calls_by fun R HR => ?_
  by_cases h1 : n < 1
  · go_enter Tryz.func29, Tryz.ntmps29
    go_wp2
    refine HR.out _ _ ⟨?_, Below.refl _ _⟩
    rw [zerosS, show n.toNat = 0 by omega]
    rfl
  · obtain ⟨n, rfl⟩ := Int.eq_ofNat_of_zero_le (show 0 ≤ n by omega)
    have hmk := fun w => run_make_row' (P := Tryz.prog) 100 5 (.int .u8 0) 1 Tryz.underlying100 Tryz.infoByteN rfl .i64 .i64 n (by omega) (by omega) w
    have hconv := conv_row (P := Tryz.prog) (src := 100) (dst := 9) (cap := n) (List.replicate n 0) Tryz.underlying100 Tryz.underlying5 Tryz.underlying9 (World.rowIs_made w (.int .u8 0) n 5) (by simp) (by simp)
    go_enter Tryz.func29, Tryz.ntmps29
    go_wp2
    refine HR.out _ _ ⟨?_, (Below.refl _ _).alloc (Nat.le_refl _) _⟩
    rw [zerosS, show ((n : Int)).toNat = n by omega]
    simp

end Go.Proofs.YtnkiokaeooopgaaGreat
/- The document's model: any call. -/
set_option maxRecDepth 100000
namespace Go.Proofs.YtnkiokaeooopgaaGreat
open Go.RowKit Ks
set_option linter.unusedVariables false
set_option linter.unusedSimpArgs false
section
variable {w y : World} {F F' : Nat → Prop} {n r : Nat} {rv vv rv' vv' : Value} {m : ModT}
theorem turn_row_new (h : Turn w y F F') (hr : w.heap.size ≤ r) (C : Array Value) : Turn w (y.setRow r C) F F' := by
  have hb : Below w.heap.size y (y.setRow r C) := below_setRow (Below.refl _ _) hr _
  exact ⟨hb.os.trans h.os, hb.tape.trans h.tape, hb.output.trans h.output, Nat.le_trans h.size hb.size, fun k q1 q2 => (hb.block k q1).trans (h.block k q1 q2), h.foot⟩
theorem rmd_row (h : RMd y n rv vv m) (hn : ¬ FR n rv vv r) (C : Array Value) : RMd (y.setRow r C) n rv vv m :=
  ⟨(setRow_other _ _ _ _ (fun e => hn (Or.inl e.symm))).trans h.blk, h.recs.keep fun k e => setRow_other _ _ _ _ (fun q => hn (Or.inr (Or.inl (q ▸ e)))), h.vers.keep fun k e => setRow_other _ _ _ _ (fun q => hn (Or.inr (Or.inr (q ▸ e)))), h.ne, h.far⟩
end
theorem eg_rmread : ∀ args w, (callFunc 24 args).run Tryz.prog w = .ok (.enter 24 args) w := fun _ _ => rfl
/-- worlds of a region that reads, and stores an answer -/
structure StA (W : World) (r : Nat) (C : Array Value) (fs : Option Value) (y : World) : Prop where
  b : Below r W y
  z : y.heap[r]? = some (.cells (match fs with | none => #[.int .i64 0, .string ⟨#[]⟩, .int .i64 0, .int .i64 0, .int .i64 0, .int .i64 0, .int .i64 0, .int .i64 0] | some _ => C) 39 (0, 0))
  hs : r < W.heap.size
theorem StA.on {W y y' : World} {r : Nat} {C : Array Value} {fs : Option Value} (h : StA W r C fs y) (hb : Below y.heap.size y y') : StA W r C fs y' := ⟨h.b.trans (hb.mono (Nat.le_trans (Nat.le_of_lt h.hs) h.b.size)), blk_on hb h.z, h.hs⟩
theorem StA.stored {W y : World} {r : Nat} {C : Array Value} {v : Value} (h : StA W r C none y) : StA W r C (some v) (y.setRow r C) := ⟨below_setRow h.b (Nat.le_refl _) _, setRow_heap _ _ _ _ _ _ h.z, h.hs⟩
theorem record_close (m : ModT) (hi : ModI m) : recordE m (closeR m (zerosS 32)) 1 = 0 ∧ recordM m (closeR m (zerosS 32)) 1 = applyM m (closeR m (zerosS 32)) := by
  have h := close_may hi (zerosS_size 32) hi.epoch.2
  have e : recordE m (closeR m (zerosS 32)) 1 = 0 := by
    unfold recordE
    split
    · next q => exact absurd h q
    · rfl
  exact ⟨e, if_pos e⟩
set_option maxRecDepth 100000 in
set_option maxHeartbeats 16000000 in
theorem rdo_any {n : Nat} {rv vv : Value} {m : ModT} (ki lb ce ti : Int) (da na : ByteArray) (ka : Option Addr) (kn kc : Nat) (w : World) (h : RMd w n rv vv m) (hi : ModI m) (ht : Ks.Twin m) :
    Calls Tryz.prog 9 #[.pointer (some ⟨n, 0, none⟩), .agg #[.int .i64 ki, .int .i64 lb, .int .i64 ce, .int .i64 ti, .string da, .string na, .slice ka kn kc]] w fun e w' => e = .returned (.agg (ansC (doA m ⟨ki, lb, ce, ti, da, na⟩))) ∧ ∃ rv' vv', RMd w' n rv' vv' (doM (zerosS 32) m ⟨ki, lb, ce, ti, da, na⟩) ∧ Turn w w' (FR n rv vv) (FR n rv' vv') := by
  refine calls_by fun R HR => ?_
  have HD := Lib.hid h
  have HLo := Lib.hid h.lt
  have HIT := Lib.hid (And.intro hi ht)
  have HY : Hid (∀ rv' vv' w' A' M', doA m ⟨ki, lb, ce, ti, da, na⟩ = A' → doM (zerosS 32) m ⟨ki, lb, ce, ti, da, na⟩ = M' → RMd w' n rv' vv' M' → Turn w w' (FR n rv vv) (FR n rv' vv') → R (.returned (.agg (ansC A'))) w') := Lib.hid fun rv' vv' w' A' M' q1 q2 q3 q4 => HR.out _ _ ⟨by rw [q1], rv', vv', by rw [q2]; exact q3, q4⟩
  clear h hi ht HR
  have H1 := Lib.hid (And.intro (Below.refl w.heap.size w) (HD.out))
  obtain ⟨W1, hW1⟩ : ∃ W1, w.alloc (.cells #[.int .i64 ki, .int .i64 lb, .int .i64 ce, .int .i64 ti, .string da, .string na, .slice ka kn kc] 35) = W1 := ⟨_, rfl⟩
  have hbW1 : Below w.heap.size w W1 := by rw [← hW1]; exact alloc_below w _
  have kW1 : W1.heap[w.heap.size]? = some (.cells #[.int .i64 ki, .int .i64 lb, .int .i64 ce, .int .i64 ti, .string da, .string na, .slice ka kn kc] 35 (0, 0)) := by rw [← hW1]; exact alloc_new w _
  have EW1 := Lib.hid hW1
  have H2 := Lib.hid (And.intro (H1.out.1.trans (hbW1.mono H1.out.1.size)) (And.intro (H1.out.2.below hbW1) (kW1)))
  clear hbW1 kW1 hW1
  obtain ⟨W2, hW2⟩ : ∃ W2, W1.alloc (.cells #[.int .i64 0, .string ⟨#[]⟩, .int .i64 0, .int .i64 0, .int .i64 0, .int .i64 0, .int .i64 0, .int .i64 0] 39) = W2 := ⟨_, rfl⟩
  have hbW2 : Below W1.heap.size W1 W2 := by rw [← hW2]; exact alloc_below W1 _
  have kW2 : W2.heap[W1.heap.size]? = some (.cells #[.int .i64 0, .string ⟨#[]⟩, .int .i64 0, .int .i64 0, .int .i64 0, .int .i64 0, .int .i64 0, .int .i64 0] 39 (0, 0)) := by rw [← hW2]; exact alloc_new W1 _
  have EW2 := Lib.hid hW2
  have H3 := Lib.hid (And.intro (H2.out.1.trans (hbW2.mono H2.out.1.size)) (And.intro (H2.out.2.1.below hbW2) (And.intro (blk_on hbW2 H2.out.2.2) (kW2))))
  clear hbW2 kW2 hW2
  have HN1 := Lib.hid (show W1.heap.size = w.heap.size + 1 by rw [← EW1.out]; simp)
  have HN2 := Lib.hid (show W2.heap.size = w.heap.size + 2 by rw [← EW2.out]; simp [HN1.out])
  have hr0 := H3.out.2.2.2
  rw [HN1.out] at hr0
  have KR := Lib.hid hr0
  have KA := Lib.hid H3.out.2.2.1
  have KM := Lib.hid H3.out.2.1
  have KB := Lib.hid H3.out.1
  clear hr0
  obtain ⟨a0, a1, a2, a3, a4, a5, a6⟩ := blk7c KA.out
  obtain ⟨⟨z0, z1, z2, z3, z4, z5, z6, z7⟩, -⟩ := blkR KM.out.blk
  go_enter Tryz.func9, Tryz.ntmps9
  go_upto_region 2 with fail
  try rw [EW1.out]
  try rw [EW2.out]
  by_cases k1 : ki = 1
  case pos =>
    subst k1
    have HW := Lib.hid (rwrite_any 1 lb ce ti da na ka kn kc W2 KM.out HIT.out.1 HIT.out.2)
    go_wp2_with fail
    refine HW.out.mono ?_
    rintro en y1 ⟨rfl, vv2, hm, ht⟩
    have HT := Lib.hid (And.intro hm (And.intro ((Turn.of_below _ KB.out).trans ht) (And.intro ((ht.block _ (lt_of_block KR.out) (fun q => by have := HLo.out _ q; omega)).trans KR.out) (show ¬ FR n rv vv2 (w.heap.size + 1) from fun q => by rcases ht.foot _ q with q | q; (· have := HLo.out _ q; omega); (· have := HN2.out; omega)))))
    clear hm ht
    clear a0 a1 a2 a3 a4 a5 a6 z0 z1 z2 z3 z4 z5 z6 z7
    clear HW
    have HdA := Lib.hid (show doA m ⟨1, lb, ce, ti, da, na⟩ = errA (Ks.writeE m ⟨1, lb, ce, ti, da, na⟩) from rfl)
    have HdM := Lib.hid (show doM (zerosS 32) m ⟨1, lb, ce, ti, da, na⟩ = Ks.writeM m ⟨1, lb, ce, ti, da, na⟩ from rfl)
    generalize Ks.writeE m ⟨1, lb, ce, ti, da, na⟩ = EE at *
    generalize Ks.writeM m ⟨1, lb, ce, ti, da, na⟩ = MM at *
    obtain ⟨WR, hWR⟩ : ∃ W, y1.setRow (w.heap.size + 1) (ansC (errA (EE))) = W := ⟨_, rfl⟩
    have KE := Lib.hid (show WR.heap[w.heap.size + 1]? = some (.cells (ansC (errA (EE))) 39 (0, 0)) by rw [← hWR]; exact setRow_heap _ _ _ _ _ _ HT.out.2.2.1)
    have HFin := Lib.hid (show R (.returned (.agg (ansC (errA EE)))) WR from HY.out rv vv2 WR (errA EE) (MM) (HdA.out) (HdM.out) (by rw [← hWR]; exact rmd_row HT.out.1 HT.out.2.2.2 _) (by rw [← hWR]; exact turn_row_new HT.out.2.1 (Nat.le_succ _) _))
    go_wp2_with (refine wpList_store_blk rfl 39 (.tmp 4) (.tmp 82) rfl (w.heap.size + 1) 0 8 rfl #[.int .i64 0, .string ⟨#[]⟩, .int .i64 0, .int .i64 0, .int .i64 0, .int .i64 0, .int .i64 0, .int .i64 0] (ansC (errA (EE))) (ansC (errA (EE))) rfl 39 HT.out.2.2.1 rfl (Nat.le_refl 8) (by kernel_rfl) (ansc_one ⟨_, _, (_, _, _, _, _, _)⟩) (splice_all _ _ rfl) ?_; rw [hWR])
    obtain ⟨⟨y0, y1, y2, y3, y4, y5, y6, y7⟩, -⟩ := blkR KE.out
    try go_wp2
    refine bodyPost_ret (v := .agg (ansC (errA (EE)))) (by simp [results, Tryz.results9, go_sem, y0, y1, y2, y3, y4, y5, y6, y7]) rfl ?_
    exact HFin.out
  have k1b : (ki == 1) = false := by simpa using k1
  have HK1 := Lib.hid k1
  clear k1
  by_cases k2 : ki = 2
  case pos =>
    subst k2
    have HEp := Lib.hid (fun A (q : RMd A n rv vv m) => repoch_any A q HIT.out.1 HIT.out.2)
    have HRd := Lib.hid (fun A (q : RMd A n rv vv m) => rread_any lb m.book.epoch A q HIT.out.1 HIT.out.2)
    have HdA := Lib.hid (show doA m ⟨2, lb, ce, ti, da, na⟩ = readA m lb m.book.epoch from rfl)
    have HdM := Lib.hid (show doM (zerosS 32) m ⟨2, lb, ce, ti, da, na⟩ = m from rfl)
    generalize readA m lb m.book.epoch = RA at *
    generalize m.book.epoch = E at *
    go_upto_region 6 with fail
    refine wp_region_mv (fun ft => StA W2 (w.heap.size + 1) (ansC RA) (ft 8)) (by kernel_rfl) ⟨(drew_below W2).mono (by have := HN2.out; omega), blk_on (drew_below W2) KR.out, by have := HN2.out; omega⟩ ?_
    obtain ⟨S, F, hF, hFC⟩ := moved_class (fun ft => StA W2 (w.heap.size + 1) (ansC RA) (ft 8))
    have kl : ∀ s, (F s).cell? ⟨w.heap.size, 1, none⟩ = some (.int .i64 lb) := fun s => (blk7c (((hFC s).choose_spec.b.block _ (Nat.lt_succ_self _)).trans KA.out)).2.1
    have HLo2 := Lib.hid (fun k (q : FR n rv vv k) => Nat.lt_succ_of_lt (HLo.out k q))
    have kz := fun s => (blkR (rmd_low (hFC s).choose_spec.b KM.out HLo2.out).blk).1.1
    clear a0 a1 a2 a3 a4 a5 a6 z0 z1 z2 z3 z4 z5 z6 z7
    show wpAnyM _ _ _ _ _ 9 (Array.replicate 9 false) _ _
    refine mv_read 0 hF (fun _ _ _ h => h) rfl (by kernel_rfl) (by kernel_rfl) (by kernel_rfl) (fun K hK => ?_)
    go_simp
    first | refine ⟨_, fun _ => rfl, hK _ _ ?_⟩ | refine hK _ _ ?_
    clear hK K
    refine mv_read 1 hF (fun _ _ _ h => h) rfl (by kernel_rfl) (by kernel_rfl) (by kernel_rfl) (fun K hK => ?_)
    go_simp
    first | refine ⟨_, fun _ => rfl, hK _ _ ?_⟩ | refine hK _ _ ?_
    clear hK K
    refine mv_read 2 hF (fun _ _ _ h => h) rfl (by kernel_rfl) (by kernel_rfl) (by kernel_rfl) (fun K hK => ?_)
    go_simp
    first | refine ⟨_, fun _ => rfl, hK _ _ ?_⟩ | refine hK _ _ ?_
    clear hK K
    refine mv_read 3 hF (fun _ _ _ h => h) rfl (by kernel_rfl) (by kernel_rfl) (by kernel_rfl) (fun K hK => ?_)
    go_simp
    first | refine ⟨_, fun _ => rfl, hK _ _ ?_⟩ | refine hK _ _ ?_
    clear hK K
    refine mv_read 4 hF (fun _ _ _ h => h) rfl (by kernel_rfl) (by kernel_rfl) (by kernel_rfl) (fun K hK => ?_)
    go_simp
    first | refine ⟨_, fun _ => rfl, hK _ _ ?_⟩ | refine hK _ _ ?_
    clear hK K
    refine mv_read 5 hF (fun _ _ _ h => h) rfl (by kernel_rfl) (by kernel_rfl) (by kernel_rfl) (fun K hK => ?_)
    go_simp
    first | refine ⟨_, fun _ => rfl, hK _ _ ?_⟩ | refine hK _ _ ?_
    clear hK K
    refine mv_call1 6 25 rfl (by kernel_rfl) (by kernel_rfl) (by kernel_rfl) rfl rfl eg_rbepoch (args := #[.pointer (some ⟨n, 5, none⟩)]) rfl (u := .int .i64 E) (fun g w9 ha h0 h => (HEp.out w9 (rmd_low h.b KM.out HLo2.out)).mono fun e w8 ⟨q1, q2⟩ => ⟨q1, h.on q2⟩) ?_
    refine mv_call1 7 24 rfl (by kernel_rfl) (by kernel_rfl) (by kernel_rfl) rfl rfl eg_rmread (args := #[.pointer (some ⟨n, 0, none⟩), .int .i64 lb, .int .i64 E]) rfl (u := .agg (ansC RA)) (fun g w9 ha h0 h => (HRd.out w9 (rmd_low h.b KM.out HLo2.out)).mono fun e w8 ⟨q1, q2⟩ => ⟨q1, h.on q2⟩) ?_
    refine mv_store_blk 8 rfl (by kernel_rfl) rfl 39 (.tmp 4) (.tmp 22) rfl (w.heap.size + 1) 0 (ansC RA) rfl rfl (by kernel_rfl) (ansc_one _) (fun g w9 ha h0 h => ?_) ?_
    · simp only [h0] at h
      refine ⟨#[.int .i64 0, .string ⟨#[]⟩, .int .i64 0, .int .i64 0, .int .i64 0, .int .i64 0, .int .i64 0, .int .i64 0], 39, h.z, Nat.le_refl 8, ?_⟩
      rw [splice_all #[.int .i64 0, .string ⟨#[]⟩, .int .i64 0, .int .i64 0, .int .i64 0, .int .i64 0, .int .i64 0, .int .i64 0] (ansC RA) rfl]
      show StA _ _ _ (upd g 8 _ 8) _
      rw [upd_self]
      exact h.stored
    refine mv_end (by kernel_rfl) ?_
    intro y8 hy8
    have KE := Lib.hid (show y8.heap[w.heap.size + 1]? = some (.cells (ansC RA) 39 (0, 0)) from hy8.z)
    have hbw : Below w.heap.size w y8 := KB.out.trans (hy8.b.mono (Nat.le_succ _))
    have HFin := Lib.hid (show R (.returned (.agg (ansC RA))) y8 from HY.out rv vv y8 RA m HdA.out HdM.out (rmd_low hy8.b KM.out HLo2.out) (Turn.of_below _ hbw))
    clear hy8 hF hFC kl kz hbw
    obtain ⟨⟨y0, y1, y2, y3, y4, y5, y6, y7⟩, -⟩ := blkR KE.out
    try go_wp2
    refine bodyPost_ret (v := .agg (ansC RA)) (by simp [results, Tryz.results9, go_sem, y0, y1, y2, y3, y4, y5, y6, y7]) rfl ?_
    exact HFin.out
  have k2b : (ki == 2) = false := by simpa using k2
  have HK2 := Lib.hid k2
  clear k2
  by_cases k3 : ki = 3
  case pos =>
    subst k3
    have HRd := Lib.hid (rread_any lb ce W2 KM.out HIT.out.1 HIT.out.2)
    have HdA := Lib.hid (show doA m ⟨3, lb, ce, ti, da, na⟩ = readA m lb ce from rfl)
    have HdM := Lib.hid (show doM (zerosS 32) m ⟨3, lb, ce, ti, da, na⟩ = m from rfl)
    generalize readA m lb ce = RA at *
    go_wp2_with fail
    refine HRd.out.mono ?_
    rintro en y1 ⟨rfl, hb⟩
    have HT := Lib.hid (And.intro (KB.out.trans (hb.mono KB.out.size)) (And.intro (KM.out.below hb) (blk_on hb KR.out)))
    clear hb HRd
    clear a0 a1 a2 a3 a4 a5 a6 z0 z1 z2 z3 z4 z5 z6 z7
    obtain ⟨WR, hWR⟩ : ∃ W, y1.setRow (w.heap.size + 1) (ansC RA) = W := ⟨_, rfl⟩
    have KE := Lib.hid (show WR.heap[w.heap.size + 1]? = some (.cells (ansC RA) 39 (0, 0)) by rw [← hWR]; exact setRow_heap _ _ _ _ _ _ HT.out.2.2)
    have HFin := Lib.hid (show R (.returned (.agg (ansC (RA)))) WR from HY.out rv vv WR (RA) (m) (HdA.out) (HdM.out) (by rw [← hWR]; exact rmd_row HT.out.2.1 (fun q => by have := HLo.out _ q; omega) _) (by rw [← hWR]; exact turn_row_new (Turn.of_below _ HT.out.1) (Nat.le_succ _) _))
    go_wp2_with (refine wpList_store_blk rfl 39 (.tmp 4) (.tmp 30) rfl (w.heap.size + 1) 0 8 rfl #[.int .i64 0, .string ⟨#[]⟩, .int .i64 0, .int .i64 0, .int .i64 0, .int .i64 0, .int .i64 0, .int .i64 0] (ansC RA) (ansC RA) rfl 39 HT.out.2.2 rfl (Nat.le_refl 8) (by kernel_rfl) (ansc_one ⟨_, _, (_, _, _, _, _, _)⟩) (splice_all _ _ rfl) ?_; rw [hWR])
    obtain ⟨⟨y0, y1, y2, y3, y4, y5, y6, y7⟩, -⟩ := blkR KE.out
    try go_wp2
    refine bodyPost_ret (v := .agg (ansC RA)) (by simp [results, Tryz.results9, go_sem, y0, y1, y2, y3, y4, y5, y6, y7]) rfl ?_
    exact HFin.out
  have k3b : (ki == 3) = false := by simpa using k3
  have HK3 := Lib.hid k3
  clear k3
  by_cases k4 : ki = 4
  case pos =>
    subst k4
    have HdA := Lib.hid (show doA m ⟨4, lb, ce, ti, da, na⟩ = errA 0 from rfl)
    have HdM := Lib.hid (show doM (zerosS 32) m ⟨4, lb, ce, ti, da, na⟩ = m from rfl)
    obtain ⟨WR, hWR⟩ : ∃ W, W2.setRow (w.heap.size + 1) (ansC (errA (0))) = W := ⟨_, rfl⟩
    have KE := Lib.hid (show WR.heap[w.heap.size + 1]? = some (.cells (ansC (errA (0))) 39 (0, 0)) by rw [← hWR]; exact setRow_heap _ _ _ _ _ _ KR.out)
    have HFin := Lib.hid (show R (.returned (.agg (ansC (errA (0))))) WR from HY.out rv vv WR (errA (0)) (m) (HdA.out) (HdM.out) (by rw [← hWR]; exact rmd_row KM.out (fun q => by have := HLo.out _ q; omega) _) (by rw [← hWR]; exact turn_row_new (Turn.of_below _ KB.out) (Nat.le_succ _) _))
    go_wp2_with (refine wpList_store_blk rfl 39 (.tmp 4) (.tmp 82) rfl (w.heap.size + 1) 0 8 rfl #[.int .i64 0, .string ⟨#[]⟩, .int .i64 0, .int .i64 0, .int .i64 0, .int .i64 0, .int .i64 0, .int .i64 0] (ansC (errA (0))) (ansC (errA (0))) rfl 39 KR.out rfl (Nat.le_refl 8) (by kernel_rfl) (ansc_one ⟨_, _, (_, _, _, _, _, _)⟩) (splice_all _ _ rfl) ?_; rw [hWR])
    obtain ⟨⟨y0, y1, y2, y3, y4, y5, y6, y7⟩, -⟩ := blkR KE.out
    try go_wp2
    refine bodyPost_ret (v := .agg (ansC (errA (0)))) (by simp [results, Tryz.results9, go_sem, y0, y1, y2, y3, y4, y5, y6, y7]) rfl ?_
    exact HFin.out
  have k4b : (ki == 4) = false := by simpa using k4
  have HK4 := Lib.hid k4
  clear k4
  by_cases k5 : ki = 5
  case pos =>
    subst k5
    have HL := Lib.hid (mi_len HIT.out.1)
    have HEp := Lib.hid (fun A (q : RMd A n rv vv m) => repoch_any A q HIT.out.1 HIT.out.2)
    have HDa := Lib.hid (fun A => rgdata2_any m.geo.blocks m.geo.lbas m.geo.first A HIT.out.1.geo)
    have HGd : Hid (geoData m.geo = m.geo.blocks - 4) := Lib.hid HIT.out.1.data.1
    have HdA := Lib.hid (show doA m ⟨5, lb, ce, ti, da, na⟩ = errA (closeE m) from rfl)
    have HdM : Hid (doM (zerosS 32) m ⟨5, lb, ce, ti, da, na⟩ = if closeE m = 0 then applyM m (closeR m (zerosS 32)) else m) := Lib.hid rfl
    have HCE : Hid (closeE m = if 4294967295 ≤ m.book.epoch ∨ m.geo.blocks - 4 ≤ m.used then 6 else 0) := Lib.hid (by rw [← HGd.out]; rfl)
    have HPl := Lib.hid (fun A (q : RMd A n rv vv m) => rplaces_any m.book.epoch A q HIT.out.1 HIT.out.2)
    have HRE := Lib.hid (record_close m HIT.out.1)
    have HRc : Hid (∀ A, RMd A n rv vv m → Calls Tryz.prog 27 #[.pointer (some ⟨n, 0, none⟩), .agg #[.int .i64 1, .int .i64 0, .int .i64 0, .int .i64 (placesN m m.book.epoch : Nat), .int .i64 0, .int .i64 0, .string (zerosS 32), .string ⟨#[]⟩], .int .i64 1] A fun e w' => e = .returned (.int .i64 (0)) ∧ ∃ rv', RMd w' n rv' vv (applyM m (closeR m (zerosS 32))) ∧ Turn A w' (FR n rv vv) (FR n rv' vv)) := Lib.hid fun A q => by
      have h : Calls Tryz.prog 27 #[.pointer (some ⟨n, 0, none⟩), .agg #[.int .i64 1, .int .i64 0, .int .i64 0, .int .i64 (placesN m m.book.epoch : Nat), .int .i64 0, .int .i64 0, .string (zerosS 32), .string ⟨#[]⟩], .int .i64 1] A fun e w' => e = .returned (.int .i64 (recordE m (closeR m (zerosS 32)) 1)) ∧ ∃ rv', RMd w' n rv' vv (recordM m (closeR m (zerosS 32)) 1) ∧ Turn A w' (FR n rv vv) (FR n rv' vv) := rrecord_any ⟨1, 0, 0, (placesN m m.book.epoch : Nat), 0, 0, zerosS 32, ⟨#[]⟩⟩ 1 A q HIT.out.1 HIT.out.2
      rw [HRE.out.1, HRE.out.2] at h
      exact h
    clear HRE
    generalize applyM m (closeR m (zerosS 32)) = AM at *
    have cE := Lib.hid (fun p => calls_after (p := p) (HEp.out (After W2 p) (KM.out.below (after_below W2 p))))
    have cD := Lib.hid (fun p => calls_after (p := p) (HDa.out (After W2 p)))
    go_upto_region 13 with fail
    clear a0 a1 a2 a3 a4 a5 a6 z4 z5 z6 z7
    by_cases c1 : m.book.epoch < 4294967295
    case neg =>
      have d1 : decide (m.book.epoch < 4294967295) = false := decide_eq_false c1
      have HC6 := Lib.hid (show closeE m = 6 by rw [HCE.out, if_pos (Or.inl (by omega))])
      rw [HC6.out] at HdA HdM
      rw [if_neg (show ¬ (6 : Int) = 0 by decide)] at HdM
      have gz0 := fun p => after_cell z0 p
      have gz1 := fun p => after_cell z1 p
      have gz2 := fun p => after_cell z2 p
      have gz3 := fun p => after_cell z3 p
      refine wp_region_after (by kernel_rfl) (by kernel_rfl) ?_
      repeat (go_big_quiet_step (fail))
      go_big_quiet_step (exact cE.out _)
      repeat (go_big_quiet_step (fail))
      refine wpQuiet_nil ?_
      rintro q1 ⟨p9, rfl⟩
      have hb := after_below W2 p9
      generalize After W2 p9 = q1 at *
      have HT := Lib.hid (And.intro (KB.out.trans (hb.mono KB.out.size)) (And.intro (KM.out.below hb) (blk_on hb KR.out)))
      clear hb gz0 gz1 gz2 gz3 z0 z1 z2 z3
      obtain ⟨WR, hWR⟩ : ∃ W, q1.setRow (w.heap.size + 1) (ansC (errA (6))) = W := ⟨_, rfl⟩
      have KE := Lib.hid (show WR.heap[w.heap.size + 1]? = some (.cells (ansC (errA (6))) 39 (0, 0)) by rw [← hWR]; exact setRow_heap _ _ _ _ _ _ HT.out.2.2)
      have HFin := Lib.hid (show R (.returned (.agg (ansC (errA 6)))) WR from HY.out rv vv WR (errA 6) (m) (HdA.out) (HdM.out) (by rw [← hWR]; exact rmd_row HT.out.2.1 (fun q => by have := HLo.out _ q; omega) _) (by rw [← hWR]; exact turn_row_new (Turn.of_below _ HT.out.1) (Nat.le_succ _) _))
      go_wp2_with (refine wpList_store_blk rfl 39 (.tmp 4) (.tmp 82) rfl (w.heap.size + 1) 0 8 rfl #[.int .i64 0, .string ⟨#[]⟩, .int .i64 0, .int .i64 0, .int .i64 0, .int .i64 0, .int .i64 0, .int .i64 0] (ansC (errA (6))) (ansC (errA (6))) rfl 39 HT.out.2.2 rfl (Nat.le_refl 8) (by kernel_rfl) (ansc_one ⟨_, _, (_, _, _, _, _, _)⟩) (splice_all _ _ rfl) ?_; rw [hWR])
      obtain ⟨⟨y0, y1, y2, y3, y4, y5, y6, y7⟩, -⟩ := blkR KE.out
      try go_wp2
      refine bodyPost_ret (v := .agg (ansC (errA (6)))) (by simp [results, Tryz.results9, go_sem, y0, y1, y2, y3, y4, y5, y6, y7]) rfl ?_
      exact HFin.out
    have d1 : decide (m.book.epoch < 4294967295) = true := decide_eq_true c1
    by_cases c2 : m.used < m.geo.blocks - 4
    case neg =>
      have d2 : decide (m.used < m.geo.blocks - 4) = false := decide_eq_false c2
      have HC6 := Lib.hid (show closeE m = 6 by rw [HCE.out, if_pos (Or.inr (by omega))])
      rw [HC6.out] at HdA HdM
      rw [if_neg (show ¬ (6 : Int) = 0 by decide)] at HdM
      have gz0 := fun p => after_cell z0 p
      have gz1 := fun p => after_cell z1 p
      have gz2 := fun p => after_cell z2 p
      have gz3 := fun p => after_cell z3 p
      refine wp_region_after (by kernel_rfl) (by kernel_rfl) ?_
      repeat (go_big_quiet_step (fail))
      go_big_quiet_step (exact cE.out _)
      repeat (go_big_quiet_step (fail))
      go_big_quiet_step (exact cD.out _)
      repeat (go_big_quiet_step (fail))
      refine wpQuiet_nil ?_
      rintro q1 ⟨p9, rfl⟩
      have hb := after_below W2 p9
      generalize After W2 p9 = q1 at *
      have HT := Lib.hid (And.intro (KB.out.trans (hb.mono KB.out.size)) (And.intro (KM.out.below hb) (blk_on hb KR.out)))
      clear hb gz0 gz1 gz2 gz3 z0 z1 z2 z3
      obtain ⟨WR, hWR⟩ : ∃ W, q1.setRow (w.heap.size + 1) (ansC (errA (6))) = W := ⟨_, rfl⟩
      have KE := Lib.hid (show WR.heap[w.heap.size + 1]? = some (.cells (ansC (errA (6))) 39 (0, 0)) by rw [← hWR]; exact setRow_heap _ _ _ _ _ _ HT.out.2.2)
      have HFin := Lib.hid (show R (.returned (.agg (ansC (errA 6)))) WR from HY.out rv vv WR (errA 6) (m) (HdA.out) (HdM.out) (by rw [← hWR]; exact rmd_row HT.out.2.1 (fun q => by have := HLo.out _ q; omega) _) (by rw [← hWR]; exact turn_row_new (Turn.of_below _ HT.out.1) (Nat.le_succ _) _))
      go_wp2_with (refine wpList_store_blk rfl 39 (.tmp 4) (.tmp 82) rfl (w.heap.size + 1) 0 8 rfl #[.int .i64 0, .string ⟨#[]⟩, .int .i64 0, .int .i64 0, .int .i64 0, .int .i64 0, .int .i64 0, .int .i64 0] (ansC (errA (6))) (ansC (errA (6))) rfl 39 HT.out.2.2 rfl (Nat.le_refl 8) (by kernel_rfl) (ansc_one ⟨_, _, (_, _, _, _, _, _)⟩) (splice_all _ _ rfl) ?_; rw [hWR])
      obtain ⟨⟨y0, y1, y2, y3, y4, y5, y6, y7⟩, -⟩ := blkR KE.out
      try go_wp2
      refine bodyPost_ret (v := .agg (ansC (errA (6)))) (by simp [results, Tryz.results9, go_sem, y0, y1, y2, y3, y4, y5, y6, y7]) rfl ?_
      exact HFin.out
    have d2 : decide (m.used < m.geo.blocks - 4) = true := decide_eq_true c2
    have HC6 := Lib.hid (show closeE m = 0 by rw [HCE.out, if_neg (by omega)])
    rw [HC6.out] at HdA HdM
    rw [if_pos rfl] at HdM
    have gz0 := fun p => after_cell z0 p
    have gz1 := fun p => after_cell z1 p
    have gz2 := fun p => after_cell z2 p
    have gz3 := fun p => after_cell z3 p
    refine wp_region_after (by kernel_rfl) (by kernel_rfl) ?_
    repeat (go_big_quiet_step (fail))
    go_big_quiet_step (exact cE.out _)
    repeat (go_big_quiet_step (fail))
    go_big_quiet_step (exact cD.out _)
    repeat (go_big_quiet_step (fail))
    refine wpQuiet_nil ?_
    rintro q1 ⟨p9, rfl⟩
    have hb := after_below W2 p9
    generalize After W2 p9 = q1 at *
    have HT := Lib.hid (And.intro (KB.out.trans (hb.mono KB.out.size)) (And.intro (KM.out.below hb) (blk_on hb KR.out)))
    clear hb gz0 gz1 gz2 gz3 z0 z1 z2 z3
    clear cE cD c1 c2 d1 d2
    go_wp2_with fail
    refine (HEp.out q1 HT.out.2.1).mono ?_
    rintro en y1 ⟨rfl, hb⟩
    have HT := Lib.hid (And.intro (HT.out.1.trans (hb.mono HT.out.1.size)) (And.intro (HT.out.2.1.below hb) (blk_on hb HT.out.2.2)))
    clear hb
    go_wp2_with fail
    refine (HPl.out y1 HT.out.2.1).mono ?_
    rintro en y2 ⟨rfl, hb⟩
    have HT := Lib.hid (And.intro (HT.out.1.trans (hb.mono HT.out.1.size)) (And.intro (HT.out.2.1.below hb) (blk_on hb HT.out.2.2)))
    clear hb
    go_wp2_with fail
    refine (noughts_any 32 y2 (by decide)).mono ?_
    rintro en y3 ⟨rfl, hb⟩
    have HT := Lib.hid (And.intro (HT.out.1.trans (hb.mono HT.out.1.size)) (And.intro (HT.out.2.1.below hb) (blk_on hb HT.out.2.2)))
    clear hb
    go_wp2_with fail
    refine (HRc.out y3 HT.out.2.1).mono ?_
    rintro en y4 ⟨rfl, rv2, hm, ht⟩
    have HT := Lib.hid (And.intro hm (And.intro ((Turn.of_below _ HT.out.1).trans ht) (And.intro ((ht.block _ (lt_of_block HT.out.2.2) (fun q => by have := HLo.out _ q; omega)).trans HT.out.2.2) (show ¬ FR n rv2 vv (w.heap.size + 1) from fun q => by rcases ht.foot _ q with q | q; (· have := HLo.out _ q; omega); (· have := lt_of_block HT.out.2.2; omega)))))
    clear hm ht
    obtain ⟨WR, hWR⟩ : ∃ W, y4.setRow (w.heap.size + 1) (ansC (errA (0))) = W := ⟨_, rfl⟩
    have KE := Lib.hid (show WR.heap[w.heap.size + 1]? = some (.cells (ansC (errA (0))) 39 (0, 0)) by rw [← hWR]; exact setRow_heap _ _ _ _ _ _ HT.out.2.2.1)
    have HFin := Lib.hid (show R (.returned (.agg (ansC (errA 0)))) WR from HY.out rv2 vv WR (errA 0) (AM) (HdA.out) (HdM.out) (by rw [← hWR]; exact rmd_row HT.out.1 HT.out.2.2.2 _) (by rw [← hWR]; exact turn_row_new HT.out.2.1 (Nat.le_succ _) _))
    go_wp2_with (refine wpList_store_blk rfl 39 (.tmp 4) (.tmp 82) rfl (w.heap.size + 1) 0 8 rfl #[.int .i64 0, .string ⟨#[]⟩, .int .i64 0, .int .i64 0, .int .i64 0, .int .i64 0, .int .i64 0, .int .i64 0] (ansC (errA (0))) (ansC (errA (0))) rfl 39 HT.out.2.2.1 rfl (Nat.le_refl 8) (by kernel_rfl) (ansc_one ⟨_, _, (_, _, _, _, _, _)⟩) (splice_all _ _ rfl) ?_; rw [hWR])
    obtain ⟨⟨y0, y1, y2, y3, y4, y5, y6, y7⟩, -⟩ := blkR KE.out
    try go_wp2
    refine bodyPost_ret (v := .agg (ansC (errA (0)))) (by simp [results, Tryz.results9, go_sem, y0, y1, y2, y3, y4, y5, y6, y7]) rfl ?_
    exact HFin.out
  have k5b : (ki == 5) = false := by simpa using k5
  have HK5 := Lib.hid k5
  clear k5
  by_cases k6 : ki = 6
  case pos =>
    subst k6
    have HS := Lib.hid (rseal_any 6 lb ce ti da na ka kn kc W2 KM.out HIT.out.1 HIT.out.2 (by decide))
    have HdA := Lib.hid (show doA m ⟨6, lb, ce, ti, da, na⟩ = errA (sealE m ⟨6, lb, ce, ti, da, na⟩) from rfl)
    have HdM := Lib.hid (show doM (zerosS 32) m ⟨6, lb, ce, ti, da, na⟩ = sealM m ⟨6, lb, ce, ti, da, na⟩ from rfl)
    generalize sealE m ⟨6, lb, ce, ti, da, na⟩ = EE at *
    generalize sealM m ⟨6, lb, ce, ti, da, na⟩ = MM at *
    go_wp2_with fail
    refine HS.out.mono ?_
    rintro en y1 ⟨rfl, rv2, hm, ht⟩
    have HT := Lib.hid (And.intro hm (And.intro ((Turn.of_below _ KB.out).trans ht) (And.intro ((ht.block _ (lt_of_block KR.out) (fun q => by have := HLo.out _ q; omega)).trans KR.out) (show ¬ FR n rv2 vv (w.heap.size + 1) from fun q => by rcases ht.foot _ q with q | q; (· have := HLo.out _ q; omega); (· have := HN2.out; omega)))))
    clear hm ht
    clear a0 a1 a2 a3 a4 a5 a6 z0 z1 z2 z3 z4 z5 z6 z7
    clear HS
    obtain ⟨WR, hWR⟩ : ∃ W, y1.setRow (w.heap.size + 1) (ansC (errA (EE))) = W := ⟨_, rfl⟩
    have KE := Lib.hid (show WR.heap[w.heap.size + 1]? = some (.cells (ansC (errA (EE))) 39 (0, 0)) by rw [← hWR]; exact setRow_heap _ _ _ _ _ _ HT.out.2.2.1)
    have HFin := Lib.hid (show R (.returned (.agg (ansC (errA EE)))) WR from HY.out rv2 vv WR (errA EE) (MM) (HdA.out) (HdM.out) (by rw [← hWR]; exact rmd_row HT.out.1 HT.out.2.2.2 _) (by rw [← hWR]; exact turn_row_new HT.out.2.1 (Nat.le_succ _) _))
    go_wp2_with (refine wpList_store_blk rfl 39 (.tmp 4) (.tmp 82) rfl (w.heap.size + 1) 0 8 rfl #[.int .i64 0, .string ⟨#[]⟩, .int .i64 0, .int .i64 0, .int .i64 0, .int .i64 0, .int .i64 0, .int .i64 0] (ansC (errA (EE))) (ansC (errA (EE))) rfl 39 HT.out.2.2.1 rfl (Nat.le_refl 8) (by kernel_rfl) (ansc_one ⟨_, _, (_, _, _, _, _, _)⟩) (splice_all _ _ rfl) ?_; rw [hWR])
    obtain ⟨⟨y0, y1, y2, y3, y4, y5, y6, y7⟩, -⟩ := blkR KE.out
    try go_wp2
    refine bodyPost_ret (v := .agg (ansC (errA (EE)))) (by simp [results, Tryz.results9, go_sem, y0, y1, y2, y3, y4, y5, y6, y7]) rfl ?_
    exact HFin.out
  have k6b : (ki == 6) = false := by simpa using k6
  have HK6 := Lib.hid k6
  clear k6
  by_cases k7 : ki = 7
  case pos =>
    subst k7
    have HS := Lib.hid (rseal_any 7 lb ce ti da na ka kn kc W2 KM.out HIT.out.1 HIT.out.2 (by decide))
    have HdA := Lib.hid (show doA m ⟨7, lb, ce, ti, da, na⟩ = errA (sealE m ⟨7, lb, ce, ti, da, na⟩) from rfl)
    have HdM := Lib.hid (show doM (zerosS 32) m ⟨7, lb, ce, ti, da, na⟩ = sealM m ⟨7, lb, ce, ti, da, na⟩ from rfl)
    generalize sealE m ⟨7, lb, ce, ti, da, na⟩ = EE at *
    generalize sealM m ⟨7, lb, ce, ti, da, na⟩ = MM at *
    go_wp2_with fail
    refine HS.out.mono ?_
    rintro en y1 ⟨rfl, rv2, hm, ht⟩
    have HT := Lib.hid (And.intro hm (And.intro ((Turn.of_below _ KB.out).trans ht) (And.intro ((ht.block _ (lt_of_block KR.out) (fun q => by have := HLo.out _ q; omega)).trans KR.out) (show ¬ FR n rv2 vv (w.heap.size + 1) from fun q => by rcases ht.foot _ q with q | q; (· have := HLo.out _ q; omega); (· have := HN2.out; omega)))))
    clear hm ht
    clear a0 a1 a2 a3 a4 a5 a6 z0 z1 z2 z3 z4 z5 z6 z7
    clear HS
    obtain ⟨WR, hWR⟩ : ∃ W, y1.setRow (w.heap.size + 1) (ansC (errA (EE))) = W := ⟨_, rfl⟩
    have KE := Lib.hid (show WR.heap[w.heap.size + 1]? = some (.cells (ansC (errA (EE))) 39 (0, 0)) by rw [← hWR]; exact setRow_heap _ _ _ _ _ _ HT.out.2.2.1)
    have HFin := Lib.hid (show R (.returned (.agg (ansC (errA EE)))) WR from HY.out rv2 vv WR (errA EE) (MM) (HdA.out) (HdM.out) (by rw [← hWR]; exact rmd_row HT.out.1 HT.out.2.2.2 _) (by rw [← hWR]; exact turn_row_new HT.out.2.1 (Nat.le_succ _) _))
    go_wp2_with (refine wpList_store_blk rfl 39 (.tmp 4) (.tmp 82) rfl (w.heap.size + 1) 0 8 rfl #[.int .i64 0, .string ⟨#[]⟩, .int .i64 0, .int .i64 0, .int .i64 0, .int .i64 0, .int .i64 0, .int .i64 0] (ansC (errA (EE))) (ansC (errA (EE))) rfl 39 HT.out.2.2.1 rfl (Nat.le_refl 8) (by kernel_rfl) (ansc_one ⟨_, _, (_, _, _, _, _, _)⟩) (splice_all _ _ rfl) ?_; rw [hWR])
    obtain ⟨⟨y0, y1, y2, y3, y4, y5, y6, y7⟩, -⟩ := blkR KE.out
    try go_wp2
    refine bodyPost_ret (v := .agg (ansC (errA (EE)))) (by simp [results, Tryz.results9, go_sem, y0, y1, y2, y3, y4, y5, y6, y7]) rfl ?_
    exact HFin.out
  have k7b : (ki == 7) = false := by simpa using k7
  have HK7 := Lib.hid k7
  clear k7
  by_cases k8 : ki = 8
  case pos =>
    subst k8
    have HS := Lib.hid (rseal_any 8 lb ce ti da na ka kn kc W2 KM.out HIT.out.1 HIT.out.2 (by decide))
    have HdA := Lib.hid (show doA m ⟨8, lb, ce, ti, da, na⟩ = errA (sealE m ⟨8, lb, ce, ti, da, na⟩) from rfl)
    have HdM := Lib.hid (show doM (zerosS 32) m ⟨8, lb, ce, ti, da, na⟩ = sealM m ⟨8, lb, ce, ti, da, na⟩ from rfl)
    generalize sealE m ⟨8, lb, ce, ti, da, na⟩ = EE at *
    generalize sealM m ⟨8, lb, ce, ti, da, na⟩ = MM at *
    go_wp2_with fail
    refine HS.out.mono ?_
    rintro en y1 ⟨rfl, rv2, hm, ht⟩
    have HT := Lib.hid (And.intro hm (And.intro ((Turn.of_below _ KB.out).trans ht) (And.intro ((ht.block _ (lt_of_block KR.out) (fun q => by have := HLo.out _ q; omega)).trans KR.out) (show ¬ FR n rv2 vv (w.heap.size + 1) from fun q => by rcases ht.foot _ q with q | q; (· have := HLo.out _ q; omega); (· have := HN2.out; omega)))))
    clear hm ht
    clear a0 a1 a2 a3 a4 a5 a6 z0 z1 z2 z3 z4 z5 z6 z7
    clear HS
    obtain ⟨WR, hWR⟩ : ∃ W, y1.setRow (w.heap.size + 1) (ansC (errA (EE))) = W := ⟨_, rfl⟩
    have KE := Lib.hid (show WR.heap[w.heap.size + 1]? = some (.cells (ansC (errA (EE))) 39 (0, 0)) by rw [← hWR]; exact setRow_heap _ _ _ _ _ _ HT.out.2.2.1)
    have HFin := Lib.hid (show R (.returned (.agg (ansC (errA EE)))) WR from HY.out rv2 vv WR (errA EE) (MM) (HdA.out) (HdM.out) (by rw [← hWR]; exact rmd_row HT.out.1 HT.out.2.2.2 _) (by rw [← hWR]; exact turn_row_new HT.out.2.1 (Nat.le_succ _) _))
    go_wp2_with (refine wpList_store_blk rfl 39 (.tmp 4) (.tmp 82) rfl (w.heap.size + 1) 0 8 rfl #[.int .i64 0, .string ⟨#[]⟩, .int .i64 0, .int .i64 0, .int .i64 0, .int .i64 0, .int .i64 0, .int .i64 0] (ansC (errA (EE))) (ansC (errA (EE))) rfl 39 HT.out.2.2.1 rfl (Nat.le_refl 8) (by kernel_rfl) (ansc_one ⟨_, _, (_, _, _, _, _, _)⟩) (splice_all _ _ rfl) ?_; rw [hWR])
    obtain ⟨⟨y0, y1, y2, y3, y4, y5, y6, y7⟩, -⟩ := blkR KE.out
    try go_wp2
    refine bodyPost_ret (v := .agg (ansC (errA (EE)))) (by simp [results, Tryz.results9, go_sem, y0, y1, y2, y3, y4, y5, y6, y7]) rfl ?_
    exact HFin.out
  have k8b : (ki == 8) = false := by simpa using k8
  have HK8 := Lib.hid k8
  clear k8
  by_cases k9 : ki = 9
  case pos =>
    subst k9
    have HS := Lib.hid (rseal_any 9 lb ce ti da na ka kn kc W2 KM.out HIT.out.1 HIT.out.2 (by decide))
    have HdA := Lib.hid (show doA m ⟨9, lb, ce, ti, da, na⟩ = errA (sealE m ⟨9, lb, ce, ti, da, na⟩) from rfl)
    have HdM := Lib.hid (show doM (zerosS 32) m ⟨9, lb, ce, ti, da, na⟩ = sealM m ⟨9, lb, ce, ti, da, na⟩ from rfl)
    generalize sealE m ⟨9, lb, ce, ti, da, na⟩ = EE at *
    generalize sealM m ⟨9, lb, ce, ti, da, na⟩ = MM at *
    go_wp2_with fail
    refine HS.out.mono ?_
    rintro en y1 ⟨rfl, rv2, hm, ht⟩
    have HT := Lib.hid (And.intro hm (And.intro ((Turn.of_below _ KB.out).trans ht) (And.intro ((ht.block _ (lt_of_block KR.out) (fun q => by have := HLo.out _ q; omega)).trans KR.out) (show ¬ FR n rv2 vv (w.heap.size + 1) from fun q => by rcases ht.foot _ q with q | q; (· have := HLo.out _ q; omega); (· have := HN2.out; omega)))))
    clear hm ht
    clear a0 a1 a2 a3 a4 a5 a6 z0 z1 z2 z3 z4 z5 z6 z7
    clear HS
    obtain ⟨WR, hWR⟩ : ∃ W, y1.setRow (w.heap.size + 1) (ansC (errA (EE))) = W := ⟨_, rfl⟩
    have KE := Lib.hid (show WR.heap[w.heap.size + 1]? = some (.cells (ansC (errA (EE))) 39 (0, 0)) by rw [← hWR]; exact setRow_heap _ _ _ _ _ _ HT.out.2.2.1)
    have HFin := Lib.hid (show R (.returned (.agg (ansC (errA EE)))) WR from HY.out rv2 vv WR (errA EE) (MM) (HdA.out) (HdM.out) (by rw [← hWR]; exact rmd_row HT.out.1 HT.out.2.2.2 _) (by rw [← hWR]; exact turn_row_new HT.out.2.1 (Nat.le_succ _) _))
    go_wp2_with (refine wpList_store_blk rfl 39 (.tmp 4) (.tmp 82) rfl (w.heap.size + 1) 0 8 rfl #[.int .i64 0, .string ⟨#[]⟩, .int .i64 0, .int .i64 0, .int .i64 0, .int .i64 0, .int .i64 0, .int .i64 0] (ansC (errA (EE))) (ansC (errA (EE))) rfl 39 HT.out.2.2.1 rfl (Nat.le_refl 8) (by kernel_rfl) (ansc_one ⟨_, _, (_, _, _, _, _, _)⟩) (splice_all _ _ rfl) ?_; rw [hWR])
    obtain ⟨⟨y0, y1, y2, y3, y4, y5, y6, y7⟩, -⟩ := blkR KE.out
    try go_wp2
    refine bodyPost_ret (v := .agg (ansC (errA (EE)))) (by simp [results, Tryz.results9, go_sem, y0, y1, y2, y3, y4, y5, y6, y7]) rfl ?_
    exact HFin.out
  have k9b : (ki == 9) = false := by simpa using k9
  have HK9 := Lib.hid k9
  clear k9
  by_cases k10 : ki = 10
  case pos =>
    subst k10
    have HSt := Lib.hid (rstat_any W2 KM.out HIT.out.1 HIT.out.2)
    have HdA := Lib.hid (show doA m ⟨10, lb, ce, ti, da, na⟩ = statA m from rfl)
    have HdM := Lib.hid (show doM (zerosS 32) m ⟨10, lb, ce, ti, da, na⟩ = m from rfl)
    have HSA : Hid (statA m = ⟨0, ⟨#[]⟩, (m.book.epoch, m.now, roomM m, (m.recs.length : Nat), (placesN m m.geo.first : Nat), (m.book.holds.length : Nat))⟩) := Lib.hid rfl
    go_wp2_with fail
    refine HSt.out.mono ?_
    rintro en y1 ⟨rfl, hb⟩
    have HT := Lib.hid (And.intro (KB.out.trans (hb.mono KB.out.size)) (And.intro (KM.out.below hb) (blk_on hb KR.out)))
    clear hb HSt
    clear a0 a1 a2 a3 a4 a5 a6 z0 z1 z2 z3 z4 z5 z6 z7
    obtain ⟨WR, hWR⟩ : ∃ W, y1.setRow (w.heap.size + 1) (ansC (statA m)) = W := ⟨_, rfl⟩
    have KE := Lib.hid (show WR.heap[w.heap.size + 1]? = some (.cells (ansC (statA m)) 39 (0, 0)) by rw [← hWR]; exact setRow_heap _ _ _ _ _ _ HT.out.2.2)
    have HFin := Lib.hid (show R (.returned (.agg (ansC (statA m)))) WR from HY.out rv vv WR (statA m) (m) (HdA.out) (HdM.out) (by rw [← hWR]; exact rmd_row HT.out.2.1 (fun q => by have := HLo.out _ q; omega) _) (by rw [← hWR]; exact turn_row_new (Turn.of_below _ HT.out.1) (Nat.le_succ _) _))
    go_wp2_with (refine wpList_store_blk rfl 39 (.tmp 4) (.tmp 74) rfl (w.heap.size + 1) 0 8 rfl #[.int .i64 0, .string ⟨#[]⟩, .int .i64 0, .int .i64 0, .int .i64 0, .int .i64 0, .int .i64 0, .int .i64 0] (ansC (statA m)) (ansC (statA m)) rfl 39 HT.out.2.2 rfl (Nat.le_refl 8) (by kernel_rfl) (ansc_one ⟨_, _, (_, _, _, _, _, _)⟩) (splice_all _ _ rfl) ?_; rw [hWR])
    obtain ⟨⟨y0, y1, y2, y3, y4, y5, y6, y7⟩, -⟩ := blkR KE.out
    try go_wp2
    refine bodyPost_ret (v := .agg (ansC (statA m))) (by simp [results, Tryz.results9, go_sem, y0, y1, y2, y3, y4, y5, y6, y7]) rfl ?_
    exact HFin.out
  have k10b : (ki == 10) = false := by simpa using k10
  have HK10 := Lib.hid k10
  clear k10
  by_cases k11 : ki = 11
  case pos =>
    subst k11
    have HS := Lib.hid (rtick_any ti W2 KM.out)
    have HdA := Lib.hid (show doA m ⟨11, lb, ce, ti, da, na⟩ = errA (tickE m ti) from rfl)
    have HdM := Lib.hid (show doM (zerosS 32) m ⟨11, lb, ce, ti, da, na⟩ = tickM m ti from rfl)
    generalize tickE m ti = EE at *
    generalize tickM m ti = MM at *
    go_wp2_with fail
    refine HS.out.mono ?_
    rintro en y1 ⟨rfl, hm, ht⟩
    have HT := Lib.hid (And.intro hm (And.intro ((Turn.of_below _ KB.out).trans ht) (And.intro ((ht.block _ (lt_of_block KR.out) (fun q => by have := HLo.out _ q; omega)).trans KR.out) (show ¬ FR n rv vv (w.heap.size + 1) from fun q => by rcases ht.foot _ q with q | q; (· have := HLo.out _ q; omega); (· have := HN2.out; omega)))))
    clear hm ht
    clear a0 a1 a2 a3 a4 a5 a6 z0 z1 z2 z3 z4 z5 z6 z7
    clear HS
    obtain ⟨WR, hWR⟩ : ∃ W, y1.setRow (w.heap.size + 1) (ansC (errA (EE))) = W := ⟨_, rfl⟩
    have KE := Lib.hid (show WR.heap[w.heap.size + 1]? = some (.cells (ansC (errA (EE))) 39 (0, 0)) by rw [← hWR]; exact setRow_heap _ _ _ _ _ _ HT.out.2.2.1)
    have HFin := Lib.hid (show R (.returned (.agg (ansC (errA EE)))) WR from HY.out rv vv WR (errA EE) (MM) (HdA.out) (HdM.out) (by rw [← hWR]; exact rmd_row HT.out.1 HT.out.2.2.2 _) (by rw [← hWR]; exact turn_row_new HT.out.2.1 (Nat.le_succ _) _))
    go_wp2_with (refine wpList_store_blk rfl 39 (.tmp 4) (.tmp 82) rfl (w.heap.size + 1) 0 8 rfl #[.int .i64 0, .string ⟨#[]⟩, .int .i64 0, .int .i64 0, .int .i64 0, .int .i64 0, .int .i64 0, .int .i64 0] (ansC (errA (EE))) (ansC (errA (EE))) rfl 39 HT.out.2.2.1 rfl (Nat.le_refl 8) (by kernel_rfl) (ansc_one ⟨_, _, (_, _, _, _, _, _)⟩) (splice_all _ _ rfl) ?_; rw [hWR])
    obtain ⟨⟨y0, y1, y2, y3, y4, y5, y6, y7⟩, -⟩ := blkR KE.out
    try go_wp2
    refine bodyPost_ret (v := .agg (ansC (errA (EE)))) (by simp [results, Tryz.results9, go_sem, y0, y1, y2, y3, y4, y5, y6, y7]) rfl ?_
    exact HFin.out
  have k11b : (ki == 11) = false := by simpa using k11
  have HK11 := Lib.hid k11
  clear k11
  have hno : ¬ (6 ≤ ki ∧ ki ≤ 9) := by have := HK6.out; have := HK7.out; have := HK8.out; have := HK9.out; omega
  have HdA := Lib.hid (show doA m ⟨ki, lb, ce, ti, da, na⟩ = errA 2 by unfold doA; simp [hno, HK1.out, HK2.out, HK3.out, HK4.out, HK5.out, HK10.out, HK11.out])
  have HdM := Lib.hid (show doM (zerosS 32) m ⟨ki, lb, ce, ti, da, na⟩ = m by unfold doM; simp [hno, HK1.out, HK2.out, HK3.out, HK4.out, HK5.out, HK10.out, HK11.out])
  clear hno
  obtain ⟨WR, hWR⟩ : ∃ W, W2.setRow (w.heap.size + 1) (ansC (errA (2))) = W := ⟨_, rfl⟩
  have KE := Lib.hid (show WR.heap[w.heap.size + 1]? = some (.cells (ansC (errA (2))) 39 (0, 0)) by rw [← hWR]; exact setRow_heap _ _ _ _ _ _ KR.out)
  have HFin := Lib.hid (show R (.returned (.agg (ansC (errA (2))))) WR from HY.out rv vv WR (errA (2)) (m) (HdA.out) (HdM.out) (by rw [← hWR]; exact rmd_row KM.out (fun q => by have := HLo.out _ q; omega) _) (by rw [← hWR]; exact turn_row_new (Turn.of_below _ KB.out) (Nat.le_succ _) _))
  go_wp2_with (refine wpList_store_blk rfl 39 (.tmp 4) (.tmp 82) rfl (w.heap.size + 1) 0 8 rfl #[.int .i64 0, .string ⟨#[]⟩, .int .i64 0, .int .i64 0, .int .i64 0, .int .i64 0, .int .i64 0, .int .i64 0] (ansC (errA (2))) (ansC (errA (2))) rfl 39 KR.out rfl (Nat.le_refl 8) (by kernel_rfl) (ansc_one ⟨_, _, (_, _, _, _, _, _)⟩) (splice_all _ _ rfl) ?_; rw [hWR])
  obtain ⟨⟨y0, y1, y2, y3, y4, y5, y6, y7⟩, -⟩ := blkR KE.out
  try go_wp2
  refine bodyPost_ret (v := .agg (ansC (errA (2)))) (by simp [results, Tryz.results9, go_sem, y0, y1, y2, y3, y4, y5, y6, y7]) rfl ?_
  exact HFin.out
end Go.Proofs.YtnkiokaeooopgaaGreat
