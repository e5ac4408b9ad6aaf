/- The law JournalWiped: what its walk gives. -/
import Derived.Test.YteppfjgglelpbaaGreatHLaw25a
import Derived.Test.YteppfjgglelpbaaGreatM3
import Derived.Deep.CutBlock
set_option maxRecDepth 100000
namespace Go.Proofs.YteppfjgglelpbaaGreat
open Go.RowKit Ks
set_option linter.unusedVariables false
set_option linter.unusedSimpArgs false
theorem supf2 (g t e c b l f : Int) (w : World) : (Instr.field 29 (.agg #[.int .i64 g, .int .i64 t, .int .i64 e, .int .i64 c, .int .i64 b, .int .i64 l, .int .i64 f]) 2).run Tryz.prog w = .ok (.int .i64 e) w := by kernel_rfl
theorem rd_txt {w : World} {a : Option Addr} {n c : Nat} {l : List ByteArray} (h : Rd strE w (.slice a n c) l) (i : Nat) (hi : i < l.length) : ∃ b o, a = some ⟨b, o, none⟩ ∧ w.cell? ⟨b, o + i, none⟩ = some (.string (bl l i)) := by
  obtain ⟨b, o, h1, h2, h3⟩ := h.str i hi
  refine ⟨b, o, h1, ?_⟩
  rw [h3]
  simp [bl, hi]
set_option maxRecDepth 100000 in
set_option maxHeartbeats 8000000 in
theorem law_jwiped (a b : ByteArray) (n : Int) (kv : Value) (keep : List Int) (w : World) (hn : -9223372036854775808 ≤ n ∧ n ≤ 9223372036854775807) (hkv : RdI w kv keep) (hkl : keep.length ≤ maxLen) :
    Calls Tryz.prog 4 #[.string a, .string b, .int .i64 n, kv] w fun e w' => e = .returned (.bool true) ∧ Below w.heap.size w w' := by
  unfold maxLen at hkl
  refine calls_by fun R HR => ?_
  have HK := Lib.hid (And.intro hkv hkl)
  have hk9 := hkv
  obtain ⟨ak, ck, rfl, -⟩ := hk9
  have HN := Lib.hid hn
  clear hkv hkl hn
  by_cases c1 : a.size = 32
  case neg =>
    have f1 : ((a.size : Int) != 32) = true := by simp only [bne_iff_ne, ne_eq]; omega
    clear c1
    go_enter Tryz.func4, Tryz.ntmps4
    go_wp2_with fail
    refine (alive25_any _).mono ?_
    rintro en v5 ⟨rfl, hb⟩
    have B5 := Lib.hid hb
    clear hb
    go_wp2
    exact HR.out _ _ ⟨rfl, B5.out⟩
  have f1 : ((a.size : Int) != 32) = false := by rw [c1]; rfl
  have HC1 := Lib.hid c1
  clear c1
  by_cases c2 : b.size = 32
  case neg =>
    have f2 : ((b.size : Int) != 32) = true := by simp only [bne_iff_ne, ne_eq]; omega
    clear c2
    go_enter Tryz.func4, Tryz.ntmps4
    go_wp2_with fail
    refine (alive25_any _).mono ?_
    rintro en v5 ⟨rfl, hb⟩
    have B5 := Lib.hid hb
    clear hb
    go_wp2
    exact HR.out _ _ ⟨rfl, B5.out⟩
  have f2 : ((b.size : Int) != 32) = false := by rw [c2]; rfl
  have HC2 := Lib.hid c2
  clear c2
  by_cases c3 : a ≠ b
  case neg =>
    have f3 : (a.toList == b.toList) = true := by rw [Classical.not_not.1 c3]; simp
    clear c3
    go_enter Tryz.func4, Tryz.ntmps4
    go_wp2_with fail
    refine (alive25_any _).mono ?_
    rintro en v5 ⟨rfl, hb⟩
    have B5 := Lib.hid hb
    clear hb
    go_wp2
    exact HR.out _ _ ⟨rfl, B5.out⟩
  have f3 : (a.toList == b.toList) = false := text_ne c3
  have HC3 := Lib.hid c3
  clear c3
  by_cases c4 : 0 ≤ n
  case neg =>
    have f4 : n < 0 := by omega
    clear c4
    go_enter Tryz.func4, Tryz.ntmps4
    go_wp2_with fail
    refine (alive25_any _).mono ?_
    rintro en v5 ⟨rfl, hb⟩
    have B5 := Lib.hid hb
    clear hb
    go_wp2
    exact HR.out _ _ ⟨rfl, B5.out⟩
  have f4 : ¬ n < 0 := by omega
  have HC4 := Lib.hid c4
  clear c4
  by_cases c5 : n ≤ 100
  case neg =>
    have f5 : 100 < n := by omega
    clear c5
    go_enter Tryz.func4, Tryz.ntmps4
    go_wp2_with fail
    refine (alive25_any _).mono ?_
    rintro en v5 ⟨rfl, hb⟩
    have B5 := Lib.hid hb
    clear hb
    go_wp2
    exact HR.out _ _ ⟨rfl, B5.out⟩
  have f5 : ¬ 100 < n := by omega
  have HC5 := Lib.hid c5
  clear c5
  by_cases c6 : keep.length ≤ 200
  case neg =>
    have f6 : (200 : Int) < (keep.length : Int) := by omega
    clear c6
    go_enter Tryz.func4, Tryz.ntmps4
    go_wp2_with fail
    refine (alive25_any _).mono ?_
    rintro en v5 ⟨rfl, hb⟩
    have B5 := Lib.hid hb
    clear hb
    go_wp2
    exact HR.out _ _ ⟨rfl, B5.out⟩
  have f6 : ¬ (200 : Int) < (keep.length : Int) := by omega
  have HC6 := Lib.hid c6
  clear c6
  have HNw : Hid (∀ A : World, Calls Tryz.prog 18 #[.int .i64 9] A fun e w' => ∃ dn vb, e = .returned (.tuple #[.pointer (some ⟨dn, 0, none⟩), .int .i64 0]) ∧ OnD A.heap.size A w' dn vb (.slice none 0 0) (newD 9) ∧ Below A.heap.size A w' ∧ ∀ k, DF dn vb (.slice none 0 0) k → A.heap.size ≤ k) :=
    Lib.hid fun A => odnew_any 9 A A A.heap.size (Below.refl _ _) (Nat.le_refl _) (by decide) (by decide)
  go_enter Tryz.func4, Tryz.ntmps4
  go_wp2_with fail
  refine (HNw.out w).mono ?_
  rintro en v1 ⟨dn, vb, rfl, h1, -, -⟩
  have HF : Hid (Calls Tryz.prog 17 #[.pointer (some ⟨dn, 0, none⟩), geoV 9 1 0, .string a] v1 fun e w' => e = .returned (.int .i64 0) ∧ ∃ vc' d', OnD w.heap.size w w' dn vb vc' d' ∧ Turn v1 w' (DF dn vb (.slice none 0 0)) (DF dn vb vc') ∧ Ks.Clean d' (formS 9 1 0) a [] ∧ d'.left = 0) :=
    Lib.hid (odformat_any 9 1 a h1 (by decide) HC1.out)
  clear h1 HNw f1 f2 f3 f4 f5 f6
  go_wp2_with fail
  refine HF.out.mono ?_
  rintro en v2 ⟨rfl, vc, d, h2, -, hc, hl0⟩
  have HO : Hid (Calls Tryz.prog 10 #[.pointer (some ⟨dn, 0, none⟩)] v2 fun e w' => ∃ jn sn v vc', e = .returned (.tuple #[.pointer (some ⟨jn, 0, none⟩), v, .string a, .int .i64 0]) ∧ OnJ w.heap.size w w' jn sn dn vb vc' ⟨d, formS 9 1 0, 0, false⟩ ∧ RdO w' (FG (FL jn sn dn vb vc') (fun _ => False)) v [] ∧ Turn v2 w' (DF dn vb vc) (FL jn sn dn vb vc')) := Lib.hid (odopen_clean (fun _ => False) h2 hc (fun q h => h.elim))
  have HC := Lib.hid hc
  clear h2 hc HF hl0
  go_wp2_with fail
  refine HO.out.mono ?_
  rintro en v3 ⟨jn, sn, v, vc3, rfl, h3, -, -⟩
  have HAr : Hid (Calls Tryz.prog 19 #[.pointer (some ⟨dn, 0, none⟩), .int .i64 n] v3 fun e w' => e = .returned (.int .i64 0) ∧ OnJ w.heap.size w w' jn sn dn vb vc3 ⟨{ d with left := n.toNat }, formS 9 1 0, 0, false⟩) := Lib.hid ((ojarm_any n h3 HN.out.2).mono (by
      rintro e w' ⟨q1, q2, -⟩
      have q3 := arm_cases d n HC.out.rests.up HC4.out
      refine ⟨by rw [q1]; show Ending.returned (.int .i64 (armE d n)) = _; rw [q3.1], ?_⟩
      have q4 : OnJ w.heap.size w w' jn sn dn vb vc3 ⟨armD d n, formS 9 1 0, 0, false⟩ := q2
      rw [q3.2] at q4
      exact q4))
  clear h3 HO
  go_wp2_with fail
  refine HAr.out.mono ?_
  rintro en v4 ⟨rfl, h4⟩
  have H4 := Lib.hid h4
  clear h4 HAr
  go_wp2_with fail
  refine (full4_any _ _).mono ?_
  rintro en v5 ⟨rfl, hb⟩
  have H5 := Lib.hid (H4.out.below hb)
  clear hb H4
  have hz := full4_size ⟨#[120]⟩
  generalize full4 ⟨#[120]⟩ = F4 at *
  have HW := Lib.hid (fun keep => wiped_shut (b := b) HC.out hz n.toNat keep)
  have HL : Hid (Lives ⟨{ d with left := n.toNat }, formS 9 1 0, 0, false⟩ a [] [] 0) := Lib.hid ((clean_lives HC.out).left n.toNat)
  have HCl := Lib.hid (ojclose_any F4 b 3 H5.out HL.out)
  clear hz H5
  generalize shutE ⟨{ d with left := n.toNat }, formS 9 1 0, 0, false⟩ F4 b 3 = CE at *
  generalize shutI ⟨{ d with left := n.toNat }, formS 9 1 0, 0, false⟩ F4 b 3 = CI at *
  generalize shutJ ⟨{ d with left := n.toNat }, formS 9 1 0, 0, false⟩ F4 b 3 = CJ at *
  clear HL HC
  go_wp2_with fail
  refine HCl.out.mono ?_
  rintro en v6 ⟨rfl, vc6, h6, -⟩
  have H6 := Lib.hid h6
  clear h6 HCl
  go_upto_if 76 with fail
  go_cut [11, 14] (fun s11 s14 wx => ∃ jn sn vc j, s11 = .pointer (some ⟨jn, 0, none⟩) ∧ Hid (OnJ w.heap.size w wx jn sn dn vb vc j ∧ WOK j a b ∧ (CE ≠ 0 ∨ j.last.epoch = 1)))
  case first =>
    by_cases he : CE = 0
    case pos =>
      subst he
      go_wp2
      go_meet
      case rel => exact ⟨_, _, _, _, rfl, Lib.hid ⟨H6.out, ((HW.out keep).1 (by trivial)).1, Or.inr ((HW.out keep).1 (by trivial)).2⟩⟩
    have heb : (CE != 0) = true := by simpa using he
    have HE := Lib.hid he
    have HCr := Lib.hid (odcrash_any (.slice ak keep.length ck) keep H6.out.dsk (HK.out.1.below H6.out.b) (by have := HK.out.2; omega))
    go_wp2_with fail
    refine HCr.out.mono ?_
    rintro en v7 ⟨rfl, vc7, h7, -⟩
    have HBo := Lib.hid (odboot_any h7)
    clear h7 HCr
    go_wp2_with fail
    refine HBo.out.mono ?_
    rintro en v8 ⟨rfl, vc8, h8, -⟩
    obtain ⟨s8, k8, A8, hr8, hb8, ha8⟩ := (HW.out keep).2 HE.out
    have HOp := Lib.hid (odopen_any (fun _ => False) h8 hr8 (fun q h => h.elim))
    have HX := Lib.hid (And.intro hb8 ha8)
    skip
    clear h8 hb8 ha8 HBo heb he
    go_wp2_with fail
    refine HOp.out.mono ?_
    rintro en v9 (⟨rfl, q1⟩ | ⟨jn9, sn9, v9', vc9, d9, rfl, hc9, -, h9, -, -⟩)
    · exact absurd rfl q1.1
    have HQ := Lib.hid (And.intro h9 (wiped_clean hc9 HX.out.1 HX.out.2))
    clear h9 hc9 HOp hr8
    go_wp2
    go_meet
    case rel => exact ⟨_, _, _, _, rfl, Lib.hid ⟨HQ.out.1, HQ.out.2, Or.inl HE.out⟩⟩
  case rest =>
    obtain ⟨jn2, sn2, vc2, j2, rfl, hN⟩ := hcut
    have H7 := Lib.hid hN.out
    clear hN HW H6
    have HCE : Hid (CE ≠ 0 ∨ (CE = 0 ∧ j2.last.epoch = 1)) := Lib.hid (by have := H7.out.2.2; omega)
    have HSe := Lib.hid (dseize_any wc H7.out.1.jl.hd.dsk)
    go_wp2_with fail
    refine HSe.out.mono ?_
    rintro en x1 ⟨va, vd, rfl, hva, hvd, hb⟩
    have hlen := H7.out.2.1.len
    have hca := H7.out.2.1.cache
    rw [hca] at hvd
    obtain ⟨aa, ca, rfl, -⟩ := hva.shape
    obtain ⟨ad, cd, rfl, -⟩ := hvd.shape
    rw [hlen]
    obtain ⟨bb, ob, rfl, hx2⟩ := rd_txt hva 2 (by omega)
    obtain ⟨bb', ob', e9, hx3⟩ := rd_txt hva 3 (by omega)
    cases e9
    have hcap : 9 ≤ ca := by obtain ⟨a9, c9, e9, h9, -⟩ := hva.shape; cases e9; omega
    obtain ⟨W1, hW1⟩ : ∃ W, x1.alloc (.cells #[.slice (some ⟨bb, ob, none⟩) 9 ca, .slice ad 0 cd] 55) = W := ⟨_, rfl⟩
    have hbW : Below x1.heap.size x1 W1 := by rw [← hW1]; exact alloc_below _ _
    have kW : W1.heap[x1.heap.size]? = some (.cells #[.slice (some ⟨bb, ob, none⟩) 9 ca, .slice ad 0 cd] 55 (0, 0)) := by rw [← hW1]; exact alloc_new _ _
    have hxb := hb.trans (hbW.mono hb.size)
    have HX2 : Hid (W1.cell? ⟨bb, ob + 2, none⟩ = some (.string (bl j2.d.blocks 2)) ∧ W1.cell? ⟨bb, ob + 3, none⟩ = some (.string (bl j2.d.blocks 3))) := Lib.hid ⟨(cell_on hbW hx2).1, (cell_on hbW hx3).1⟩
    have H8 := Lib.hid (And.intro (H7.out.1.below hxb) (And.intro kW HX2.out))
    have HALT := Lib.hid H7.out.2.1.alt
    have EW := Lib.hid hW1
    have hcapi : (4 : Int) ≤ (ca : Int) := by omega
    have hcap4 : ¬ ca = 2 := by omega
    clear hW1 hb hbW kW hxb HX2 HSe hva hvd hlen hca hx2 hx3 H7
    generalize bl j2.d.blocks 2 = X2 at *
    generalize bl j2.d.blocks 3 = X3 at *
    go_upto_region 18 with fail
    try rw [EW.out]
    obtain ⟨z0, z1, -, -⟩ := blk2 H8.out.2.1
    have hc1 : ¬ ca < 4 := by omega
    go_wp2_with fail
    have HWi := Lib.hid (fun (s k : ByteArray) (A : World) => within_any s k A)
    have HSu := Lib.hid (fun (A : World) (q : Below W1.heap.size W1 A) => ojsuper_any (H8.out.1.below q))
    generalize j2.last = sl at *
    obtain ⟨lg, lt, le, lc, lb, ll, lf⟩ := sl
    have hf2 := supf2 lg lt le lc lb ll lf
    simp only at HALT HCE HSu
    clear z0 z1
    rcases HALT.out with ⟨rfl, hX2, hX3⟩ | ⟨rfl, hX2, hX3⟩
    · have hwa2 : withinB X2 a = true := by rw [hX2, within_slot 0 a a (slot_ok.2 ⟨by decide, by decide, HC1.out⟩)]; simp
      have hwa3 : withinB X3 a = false := by rw [hX3]; exact within_zeros a
      have hne : (X3.toList == X2.toList) = false := text_ne (by rw [hX2, hX3]; exact fun q => slot_nz 0 a (slot_ok.2 ⟨by decide, by decide, HC1.out⟩) q.symm)
      have heq : (X2.toList == X2.toList) = true := by simp
      have hce : (CE != 0) = true := by have := HCE.out; simp only [bne_iff_ne, ne_eq]; omega
      clear hX2 hX3
      go_loopw [107] (fun v wx => ∃ k : Nat, k ≤ 2 ∧ v = .int .i64 (k : Int) ∧ Hid (Below W1.heap.size W1 wx)) (fun v _ => 2 - (intOf v).toNat)
      case atStart => exact ⟨0, by omega, rfl, Lib.hid (Below.refl _ _)⟩
      case round =>
        obtain ⟨k, hk, rfl, hN⟩ := hrel
        have hk3 : k = 0 ∨ k = 1 ∨ k = 2 := by omega
        rcases hk3 with rfl | rfl | rfl
        · have hx2 := (cell_on hN.out H8.out.2.2.1).1
          have hx3 := (cell_on hN.out H8.out.2.2.2).1
          have hx3' : wr.cell? ⟨bb, ob + 2 + 1, none⟩ = some (.string X3) := hx3
          obtain ⟨z0, z1, -, -⟩ := blk2 (blk_on hN.out H8.out.2.1)
          go_wp2_with fail
          refine (HWi.out X2 a wr).mono ?_
          rintro en y9 ⟨rfl, hw⟩
          rw [hw, hwa2]
          clear hw y9
          go_wp2_with fail
          refine (HSu.out wr hN.out).mono ?_
          rintro en u1 ⟨rfl, hb⟩
          have Bu1 := Lib.hid (hN.out.trans (hb.mono hN.out.size))
          clear hb
          clear hx2 hx3 hx3' z0 z1
          have hx2 := (cell_on Bu1.out H8.out.2.2.1).1
          have hx3 := (cell_on Bu1.out H8.out.2.2.2).1
          have hx3' : u1.cell? ⟨bb, ob + 2 + 1, none⟩ = some (.string X3) := hx3
          obtain ⟨z0, z1, -, -⟩ := blk2 (blk_on Bu1.out H8.out.2.1)
          have hfw := hf2 u1
          go_wp2
          go_roundw
          case rel => exact ⟨1, by omega, by go_num, Bu1⟩
          case measure => simp [intOf]
        · have hx2 := (cell_on hN.out H8.out.2.2.1).1
          have hx3 := (cell_on hN.out H8.out.2.2.2).1
          have hx3' : wr.cell? ⟨bb, ob + 2 + 1, none⟩ = some (.string X3) := hx3
          obtain ⟨z0, z1, -, -⟩ := blk2 (blk_on hN.out H8.out.2.1)
          go_wp2_with fail
          refine (HWi.out X3 a wr).mono ?_
          rintro en y9 ⟨rfl, hw⟩
          rw [hw, hwa3]
          clear hw y9
          go_wp2_with fail
          refine (HSu.out wr hN.out).mono ?_
          rintro en u1 ⟨rfl, hb⟩
          have Bu1 := Lib.hid (hN.out.trans (hb.mono hN.out.size))
          clear hb
          clear hx2 hx3 hx3' z0 z1
          have hx2 := (cell_on Bu1.out H8.out.2.2.1).1
          have hx3 := (cell_on Bu1.out H8.out.2.2.2).1
          have hx3' : u1.cell? ⟨bb, ob + 2 + 1, none⟩ = some (.string X3) := hx3
          obtain ⟨z0, z1, -, -⟩ := blk2 (blk_on Bu1.out H8.out.2.1)
          have hfw := hf2 u1
          go_wp2
          go_roundw
          case rel => exact ⟨2, by omega, by go_num, Bu1⟩
          case measure => simp [intOf]
        skip
        have hx2 := (cell_on hN.out H8.out.2.2.1).1
        have hx3 := (cell_on hN.out H8.out.2.2.2).1
        have hx3' : wr.cell? ⟨bb, ob + 2 + 1, none⟩ = some (.string X3) := hx3
        obtain ⟨z0, z1, -, -⟩ := blk2 (blk_on hN.out H8.out.2.1)
        go_wp2_with fail
        refine (HSu.out wr hN.out).mono ?_
        rintro en u1 ⟨rfl, hb⟩
        have Bu1 := Lib.hid (hN.out.trans (hb.mono hN.out.size))
        clear hb
        clear hx2 hx3 hx3' z0 z1
        have hx2 := (cell_on Bu1.out H8.out.2.2.1).1
        have hx3 := (cell_on Bu1.out H8.out.2.2.2).1
        have hx3' : u1.cell? ⟨bb, ob + 2 + 1, none⟩ = some (.string X3) := hx3
        obtain ⟨z0, z1, -, -⟩ := blk2 (blk_on Bu1.out H8.out.2.1)
        have hfw := hf2 u1
        go_wp2_with fail
        refine (alive25_any u1).mono ?_
        rintro en u2 ⟨rfl, hb⟩
        have HZ := Lib.hid (H8.out.1.b.trans ((Bu1.out.trans (hb.mono Bu1.out.size)).mono H8.out.1.hB))
        clear hb
        go_wp2
        exact HR.out _ _ ⟨rfl, HZ.out⟩
    · have hwa2 : withinB X2 a = false := by rw [hX2]; exact within_zeros a
      have hwa3 : withinB X3 a = false := by rw [hX3, within_slot 1 b a (slot_ok.2 ⟨by decide, by decide, HC2.out⟩)]; exact decide_eq_false (fun q => HC3.out q.symm)
      have hwb : withinB X3 b = true := by rw [hX3, within_slot 1 b b (slot_ok.2 ⟨by decide, by decide, HC2.out⟩)]; simp
      clear hX2 hX3
      go_loopw [107] (fun v wx => ∃ k : Nat, k ≤ 2 ∧ v = .int .i64 (k : Int) ∧ Hid (Below W1.heap.size W1 wx)) (fun v _ => 2 - (intOf v).toNat)
      case atStart => exact ⟨0, by omega, rfl, Lib.hid (Below.refl _ _)⟩
      case round =>
        obtain ⟨k, hk, rfl, hN⟩ := hrel
        have hk3 : k = 0 ∨ k = 1 ∨ k = 2 := by omega
        rcases hk3 with rfl | rfl | rfl
        · have hx2 := (cell_on hN.out H8.out.2.2.1).1
          have hx3 := (cell_on hN.out H8.out.2.2.2).1
          have hx3' : wr.cell? ⟨bb, ob + 2 + 1, none⟩ = some (.string X3) := hx3
          obtain ⟨z0, z1, -, -⟩ := blk2 (blk_on hN.out H8.out.2.1)
          go_wp2_with fail
          refine (HWi.out X2 a wr).mono ?_
          rintro en y9 ⟨rfl, hw⟩
          rw [hw, hwa2]
          clear hw y9
          go_wp2_with fail
          refine (HSu.out wr hN.out).mono ?_
          rintro en u1 ⟨rfl, hb⟩
          have Bu1 := Lib.hid (hN.out.trans (hb.mono hN.out.size))
          clear hb
          clear hx2 hx3 hx3' z0 z1
          have hx2 := (cell_on Bu1.out H8.out.2.2.1).1
          have hx3 := (cell_on Bu1.out H8.out.2.2.2).1
          have hx3' : u1.cell? ⟨bb, ob + 2 + 1, none⟩ = some (.string X3) := hx3
          obtain ⟨z0, z1, -, -⟩ := blk2 (blk_on Bu1.out H8.out.2.1)
          have hfw := hf2 u1
          go_wp2
          go_roundw
          case rel => exact ⟨1, by omega, by go_num, Bu1⟩
          case measure => simp [intOf]
        · have hx2 := (cell_on hN.out H8.out.2.2.1).1
          have hx3 := (cell_on hN.out H8.out.2.2.2).1
          have hx3' : wr.cell? ⟨bb, ob + 2 + 1, none⟩ = some (.string X3) := hx3
          obtain ⟨z0, z1, -, -⟩ := blk2 (blk_on hN.out H8.out.2.1)
          go_wp2_with fail
          refine (HWi.out X3 a wr).mono ?_
          rintro en y9 ⟨rfl, hw⟩
          rw [hw, hwa3]
          clear hw y9
          go_wp2_with fail
          refine (HSu.out wr hN.out).mono ?_
          rintro en u1 ⟨rfl, hb⟩
          have Bu1 := Lib.hid (hN.out.trans (hb.mono hN.out.size))
          clear hb
          clear hx2 hx3 hx3' z0 z1
          have hx2 := (cell_on Bu1.out H8.out.2.2.1).1
          have hx3 := (cell_on Bu1.out H8.out.2.2.2).1
          have hx3' : u1.cell? ⟨bb, ob + 2 + 1, none⟩ = some (.string X3) := hx3
          obtain ⟨z0, z1, -, -⟩ := blk2 (blk_on Bu1.out H8.out.2.1)
          have hfw := hf2 u1
          go_wp2
          go_roundw
          case rel => exact ⟨2, by omega, by go_num, Bu1⟩
          case measure => simp [intOf]
        skip
        have hx2 := (cell_on hN.out H8.out.2.2.1).1
        have hx3 := (cell_on hN.out H8.out.2.2.2).1
        have hx3' : wr.cell? ⟨bb, ob + 2 + 1, none⟩ = some (.string X3) := hx3
        obtain ⟨z0, z1, -, -⟩ := blk2 (blk_on hN.out H8.out.2.1)
        go_wp2_with fail
        refine (HSu.out wr hN.out).mono ?_
        rintro en u1 ⟨rfl, hb⟩
        have Bu1 := Lib.hid (hN.out.trans (hb.mono hN.out.size))
        clear hb
        clear hx2 hx3 hx3' z0 z1
        have hx2 := (cell_on Bu1.out H8.out.2.2.1).1
        have hx3 := (cell_on Bu1.out H8.out.2.2.2).1
        have hx3' : u1.cell? ⟨bb, ob + 2 + 1, none⟩ = some (.string X3) := hx3
        obtain ⟨z0, z1, -, -⟩ := blk2 (blk_on Bu1.out H8.out.2.1)
        have hfw := hf2 u1
        go_wp2_with fail
        refine (HWi.out X3 b u1).mono ?_
        rintro en y9 ⟨rfl, hw⟩
        rw [hw, hwb]
        clear hw y9
        rcases HCE.out with hce | ⟨rfl, -⟩
        · have hce2 : (CE != 0) = true := by simpa using hce
          go_wp2_with fail
          refine (alive25_any u1).mono ?_
          rintro en u2 ⟨rfl, hb⟩
          have HZ := Lib.hid (H8.out.1.b.trans ((Bu1.out.trans (hb.mono Bu1.out.size)).mono H8.out.1.hB))
          clear hb
          go_wp2
          exact HR.out _ _ ⟨rfl, HZ.out⟩
        go_wp2_with fail
        refine (HSu.out u1 Bu1.out).mono ?_
        rintro en u2 ⟨rfl, hb⟩
        have Bu2 := Lib.hid (Bu1.out.trans (hb.mono Bu1.out.size))
        clear hb
        have hfx := hf2 u2
        go_wp2_with fail
        refine (alive25_any u2).mono ?_
        rintro en u3 ⟨rfl, hb⟩
        have HZ := Lib.hid (H8.out.1.b.trans ((Bu2.out.trans (hb.mono Bu2.out.size)).mono H8.out.1.hB))
        clear hb
        go_wp2
        exact HR.out _ _ ⟨rfl, HZ.out⟩
end Go.Proofs.YteppfjgglelpbaaGreat
