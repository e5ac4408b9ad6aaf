/- Chapter 25's example; the law JournalNil: what its walk gives. -/
import Derived.Test.YteppfjgglelpbaaGreatM13
import Derived.Test.YteppfjgglelpbaaGreatM3
import Derived.Test.YteppfjgglelpbaaGreatM9
set_option maxRecDepth 100000
namespace Go.Proofs.YteppfjgglelpbaaGreat
open Go.RowKit Ks
set_option linter.unusedVariables false
set_option linter.unusedSimpArgs false
theorem lawK_list : lawK.toList = [48, 49, 50, 51, 52, 53, 54, 55, 56, 57, 97, 98, 99, 100, 101, 102, 48, 49, 50, 51, 52, 53, 54, 55, 56, 57, 97, 98, 99, 100, 101, 102] := by rw [ByteArray.toList_eq]; rfl
theorem supf0 (g t e c b l f : Int) (w : World) : (Instr.field 29 (.agg #[.int .i64 g, .int .i64 t, .int .i64 e, .int .i64 c, .int .i64 b, .int .i64 l, .int .i64 f]) 0).run Tryz.prog w = .ok (.int .i64 g) w := by kernel_rfl
theorem ojroom_any {B : Nat} {w0 w : World} {jn sn dn : Nat} {vb vc : Value} {j : JrnT} (h : OnJ B w0 w jn sn dn vb vc j) (hb : 0 < j.last.b ∧ j.last.b ≤ 9223372036854775807) : Calls Tryz.prog 16 #[.pointer (some ⟨jn, 0, none⟩)] w fun e w' => e = .returned (.int .i64 (roomG j.last j.used)) ∧ Below w.heap.size w w' := jroom_any w h.jl hb
set_option maxRecDepth 100000 in
set_option maxHeartbeats 8000000 in
theorem alive25_any (w : World) : Calls Tryz.prog 6 #[] w fun e w' => e = .returned (.bool true) ∧ Below w.heap.size w w' := by
  refine calls_by fun R HR => ?_
  have hkl := lawK_list
  have hke : (lawK.toList == [48, 49, 50, 51, 52, 53, 54, 55, 56, 57, 97, 98, 99, 100, 101, 102, 48, 49, 50, 51, 52, 53, 54, 55, 56, 57, 97, 98, 99, 100, 101, 102]) = true := by rw [hkl]; rfl
  have HKL := Lib.hid (And.intro hkl hke)
  have HNw : Hid (∀ A : World, Calls Tryz.prog 18 #[.int .i64 8] A fun e w' => ∃ dn vb, e = .returned (.tuple #[.pointer (some ⟨dn, 0, none⟩), .int .i64 0]) ∧ OnD A.heap.size A w' dn vb (.slice none 0 0) (newD 8) ∧ Below A.heap.size A w' ∧ ∀ k, DF dn vb (.slice none 0 0) k → A.heap.size ≤ k) :=
    Lib.hid fun A => odnew_any 8 A A A.heap.size (Below.refl _ _) (Nat.le_refl _) (by decide) (by decide)
  clear hkl hke
  go_enter Tryz.func6, Tryz.ntmps6
  go_wp2_with fail
  refine (HNw.out w).mono ?_
  rintro en v1 ⟨dn, vb, rfl, h1, -, -⟩
  have HF : Hid (Calls Tryz.prog 17 #[.pointer (some ⟨dn, 0, none⟩), geoV 8 1 0, .string lawK] v1 fun e w' => e = .returned (.int .i64 0) ∧ ∃ vc' d', OnD w.heap.size w w' dn vb vc' d' ∧ Turn v1 w' (DF dn vb (.slice none 0 0)) (DF dn vb vc') ∧ Ks.Clean d' (formS 8 1 0) lawK [] ∧ d'.left = 0) :=
    Lib.hid (odformat_any 8 1 lawK h1 (by decide) lawK_size)
  clear h1 HNw
  go_wp2_with fail
  refine HF.out.mono ?_
  rintro en v2 ⟨rfl, vc, d, h2, -, hc, hl0⟩
  have HO := Lib.hid (odopen_clean (fun _ => False) h2 hc (fun q h => h.elim))
  have HL : Hid (Lives ⟨d, formS 8 1 0, 0, false⟩ lawK [] [] 0) := Lib.hid (clean_lives hc)
  have HL0 := Lib.hid hl0
  clear h2 hc HF hl0
  go_wp2_with fail
  refine HO.out.mono ?_
  rintro en v3 ⟨jn, sn, v, vc3, rfl, h3, hr, -⟩
  obtain ⟨a9, c9, rfl, -⟩ := hr.rd.shape
  have H3 : Hid (OnJ w.heap.size w v3 jn sn dn vb vc3 ⟨d, formS 8 1 0, 0, false⟩) := Lib.hid h3
  have HSu : Hid (∀ A, OnJ w.heap.size w A jn sn dn vb vc3 ⟨d, formS 8 1 0, 0, false⟩ → Calls Tryz.prog 14 #[.pointer (some ⟨jn, 0, none⟩)] A fun e w' => e = .returned (.agg #[.int .i64 1, .int .i64 0, .int .i64 0, .int .i64 0, .int .i64 8, .int .i64 1, .int .i64 0]) ∧ Below A.heap.size A w') := Lib.hid fun A h => ojsuper_any h
  obtain ⟨hk1, hk2⟩ := HKL.out
  clear h3 hr HO
  go_wp2_with fail
  refine (HSu.out v3 H3.out).mono ?_
  rintro en v4 ⟨rfl, hb⟩
  have H4 := Lib.hid (H3.out.below hb)
  clear hb HSu H3
  have hf0 := supf0 1 0 0 0 8 1 0 v4
  go_wp2_with fail
  refine (full4_any _ _).mono ?_
  rintro en v5 ⟨rfl, hb⟩
  have H5 := Lib.hid (H4.out.below hb)
  clear hb H4 hf0 hk1 hk2
  have hz := full4_size ⟨#[97]⟩
  generalize full4 ⟨#[97]⟩ = F4 at *
  have HA := Lib.hid (append_left HL.out F4 hz (by decide) (by show roomG (formS 8 1 0) 0 ≠ 0; decide) HL0.out)
  have HAp := Lib.hid (ojappend_any F4 H5.out HL.out)
  clear hz HL HL0
  have hE := HA.out.1
  have hI := HA.out.2.1
  rw [hE, hI] at HAp
  clear hE hI
  go_wp2_with fail
  refine HAp.out.mono ?_
  rintro en v6 ⟨rfl, vc6, h6, -⟩
  have HC := Lib.hid (com_left HA.out.2.2.1 5 (by unfold timeB; rw [HA.out.2.2.2.1]; decide) (by rw [HA.out.2.2.2.1]; unfold nextE; rw [if_pos (by rw [HA.out.2.2.1.tells.ok.symm, HA.out.2.2.2.1])]; decide) HA.out.2.2.2.2.2)
  have HCm := Lib.hid (ojcom_any 5 h6 HA.out.2.2.1)
  have hE := HC.out.1
  rw [hE] at HCm
  have HLs : Hid ((comJ (appendJ ⟨d, formS 8 1 0, 0, false⟩ F4) 5).last = ⟨2, 1, 0, 5, 8, 1, 0⟩ ∧ (comJ (appendJ ⟨d, formS 8 1 0, 0, false⟩ F4) 5).used = 1) := Lib.hid (by
    have e1 := HA.out.2.2.2.1
    have e2 := HA.out.2.2.2.2.1
    refine ⟨HC.out.2.2.1.trans ?_, HC.out.2.2.2.trans (e2.trans rfl)⟩
    unfold nextS
    rw [e1, e2]
    rfl)
  clear hE h6 HAp H5
  generalize comJ (appendJ ⟨d, formS 8 1 0, 0, false⟩ F4) 5 = J at *
  obtain ⟨jd, js, ju, jb⟩ := J
  obtain ⟨rfl, rfl⟩ := HLs.out
  clear HC HA HLs
  go_wp2_with fail
  refine HCm.out.mono ?_
  rintro en v7 ⟨rfl, vc7, h7, -⟩
  have H7 := Lib.hid h7
  have HSu := Lib.hid (ojsuper_any h7)
  clear h7 HCm
  go_wp2_with fail
  refine HSu.out.mono ?_
  rintro en v8 ⟨rfl, hb⟩
  have H8 := Lib.hid (H7.out.below hb)
  clear hb HSu H7
  obtain ⟨W1, hW1⟩ : ∃ W, v8.alloc (.cells #[.int .i64 2, .int .i64 1, .int .i64 0, .int .i64 5, .int .i64 8, .int .i64 1, .int .i64 0] 29) = W := ⟨_, rfl⟩
  have hb : Below v8.heap.size v8 W1 := by rw [← hW1]; exact alloc_below _ _
  have kW : W1.heap[v8.heap.size]? = some (.cells #[.int .i64 2, .int .i64 1, .int .i64 0, .int .i64 5, .int .i64 8, .int .i64 1, .int .i64 0] 29 (0, 0)) := by rw [← hW1]; exact alloc_new _ _
  obtain ⟨⟨x0, x1, x2, x3, x4, x5, x6⟩, -⟩ := blk7j kW
  have H9 := Lib.hid (H8.out.below hb)
  clear hb kW
  have HRm : Hid (Calls Tryz.prog 16 #[.pointer (some ⟨jn, 0, none⟩)] W1 fun e w' => e = .returned (.int .i64 2) ∧ Below W1.heap.size W1 w') := Lib.hid (ojroom_any H9.out (by show 0 < (8 : Int) ∧ (8 : Int) ≤ 9223372036854775807; decide))
  have EW := Lib.hid hW1
  clear hW1
  go_upto_region 9 with fail
  try rw [EW.out]
  go_wp2_with fail
  refine HRm.out.mono ?_
  rintro en v9 ⟨rfl, hb⟩
  have HZ := Lib.hid (H9.out.below hb).b
  clear hb
  go_wp2
  exact HR.out _ _ ⟨by first | rfl | simp, HZ.out⟩
set_option maxRecDepth 100000 in
set_option maxHeartbeats 4000000 in
theorem law_jnil (s : ByteArray) (n : Int) (th : Bool) (w : World) : Calls Tryz.prog 3 #[.string s, .int .i64 n, .bool th] w fun e w' => e = .returned (.bool true) ∧ Below w.heap.size w w' := by
  refine calls_by fun R HR => ?_
  by_cases hs : (10000 : Int) < (s.size : Int)
  · go_enter Tryz.func3, Tryz.ntmps3
    go_wp2_with fail
    refine (alive25_any _).mono ?_
    rintro en v5 ⟨rfl, hb⟩
    have B5 := Lib.hid hb
    clear hb
    go_wp2
    exact HR.out _ _ ⟨rfl, B5.out⟩
  cases th
  · go_enter Tryz.func3, Tryz.ntmps3
    have N1 := Lib.hid (show NoJ w (.pointer none) from Or.inl rfl)
    have B1 := Lib.hid (Below.refl w.heap.size w)
    go_wp2_with fail
    refine (noj_append s w N1.out).mono ?_
    rintro en y9 ⟨rfl, hw⟩
    rw [hw]
    clear hw y9
    go_wp2_with fail
    refine (noj_close s lawK n w N1.out).mono ?_
    rintro en y9 ⟨rfl, hw⟩
    rw [hw]
    clear hw y9
    go_wp2_with fail
    refine (noj_read n w N1.out).mono ?_
    rintro en y9 ⟨rfl, hw⟩
    rw [hw]
    clear hw y9
    go_wp2_with fail
    refine (jopen_no (.pointer none) w (Or.inl rfl)).mono ?_
    rintro en y9 ⟨rfl, hw⟩
    rw [hw]
    clear hw y9
    go_wp2_with fail
    refine (noj_commit n w N1.out).mono ?_
    rintro en y9 ⟨rfl, hw⟩
    rw [hw]
    clear hw y9
    go_wp2_with fail
    refine (noj_over n s w N1.out).mono ?_
    rintro en y9 ⟨rfl, hw⟩
    rw [hw]
    clear hw y9
    go_wp2_with fail
    refine (noj_flush w N1.out).mono ?_
    rintro en y9 ⟨rfl, hw⟩
    rw [hw]
    clear hw y9
    go_wp2_with fail
    refine (noj_super w N1.out).mono ?_
    rintro en v3 ⟨rfl, hb⟩
    have N3 := Lib.hid (N1.out.below hb)
    have B3 := Lib.hid (B1.out.trans (hb.mono B1.out.size))
    clear hb
    go_wp2_with fail
    refine (noj_used v3 N3.out).mono ?_
    rintro en y9 ⟨rfl, hw⟩
    rw [hw]
    clear hw y9
    go_wp2_with fail
    refine (noj_room v3 N3.out).mono ?_
    rintro en y9 ⟨rfl, hw⟩
    rw [hw]
    clear hw y9
    go_wp2_with fail
    refine (jformat_no 8 1 0 lawK v3 (by decide) lawK_size).mono ?_
    rintro en v4 ⟨rfl, hb⟩
    have B4 := Lib.hid (B3.out.trans (hb.mono B3.out.size))
    clear hb
    go_wp2_with fail
    refine (alive25_any v4).mono ?_
    rintro en v5 ⟨rfl, hb⟩
    have B5 := Lib.hid (B4.out.trans (hb.mono B4.out.size))
    clear hb
    go_wp2
    exact HR.out _ _ ⟨by first | rfl | simp, B5.out⟩
  · obtain ⟨W1, hW1⟩ : ∃ W, w.alloc (.cells #[.pointer none, .pointer none, .int .i64 0, .int .i64 0, .int .i64 0, .int .i64 0, .int .i64 0, .int .i64 0, .int .i64 0, .bool false] 31) = W := ⟨_, rfl⟩
    have hb : Below w.heap.size w W1 := by rw [← hW1]; exact alloc_below _ _
    have kW : W1.heap[w.heap.size]? = some (.cells #[.pointer none, .pointer none, .int .i64 0, .int .i64 0, .int .i64 0, .int .i64 0, .int .i64 0, .int .i64 0, .int .i64 0, .bool false] 31 (0, 0)) := by rw [← hW1]; exact alloc_new _ _
    have N0 : NoJ W1 (.pointer (some ⟨w.heap.size, 0, none⟩)) := Or.inr ⟨_, rfl, kW⟩
    go_enter Tryz.func3, Tryz.ntmps3
    have N1 := Lib.hid (N0)
    have B1 := Lib.hid (hb)
    go_wp2_with fail
    refine (noj_append s W1 N1.out).mono ?_
    rintro en y9 ⟨rfl, hw⟩
    rw [hw]
    clear hw y9
    go_wp2_with fail
    refine (noj_close s lawK n W1 N1.out).mono ?_
    rintro en y9 ⟨rfl, hw⟩
    rw [hw]
    clear hw y9
    go_wp2_with fail
    refine (noj_read n W1 N1.out).mono ?_
    rintro en y9 ⟨rfl, hw⟩
    rw [hw]
    clear hw y9
    go_wp2_with fail
    refine (jopen_no (.pointer none) W1 (Or.inl rfl)).mono ?_
    rintro en y9 ⟨rfl, hw⟩
    rw [hw]
    clear hw y9
    go_wp2_with fail
    refine (noj_commit n W1 N1.out).mono ?_
    rintro en y9 ⟨rfl, hw⟩
    rw [hw]
    clear hw y9
    go_wp2_with fail
    refine (noj_over n s W1 N1.out).mono ?_
    rintro en y9 ⟨rfl, hw⟩
    rw [hw]
    clear hw y9
    go_wp2_with fail
    refine (noj_flush W1 N1.out).mono ?_
    rintro en y9 ⟨rfl, hw⟩
    rw [hw]
    clear hw y9
    go_wp2_with fail
    refine (noj_super W1 N1.out).mono ?_
    rintro en v3 ⟨rfl, hb⟩
    have N3 := Lib.hid (N1.out.below hb)
    have B3 := Lib.hid (B1.out.trans (hb.mono B1.out.size))
    clear hb
    go_wp2_with fail
    refine (noj_used v3 N3.out).mono ?_
    rintro en y9 ⟨rfl, hw⟩
    rw [hw]
    clear hw y9
    go_wp2_with fail
    refine (noj_room v3 N3.out).mono ?_
    rintro en y9 ⟨rfl, hw⟩
    rw [hw]
    clear hw y9
    go_wp2_with fail
    refine (jformat_no 8 1 0 lawK v3 (by decide) lawK_size).mono ?_
    rintro en v4 ⟨rfl, hb⟩
    have B4 := Lib.hid (B3.out.trans (hb.mono B3.out.size))
    clear hb
    go_wp2_with fail
    refine (alive25_any v4).mono ?_
    rintro en v5 ⟨rfl, hb⟩
    have B5 := Lib.hid (B4.out.trans (hb.mono B4.out.size))
    clear hb
    go_wp2
    exact HR.out _ _ ⟨by first | rfl | simp, B5.out⟩
end Go.Proofs.YteppfjgglelpbaaGreat
