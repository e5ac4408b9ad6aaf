/- The law DiskLoads: what its walk gives. -/
import Derived.Test.YtielmlnbjliacaaLaw08b
import Derived.Test.YtielmlnbjliacaaRDiskFew
import Derived.Test.YtielmlnbjliacaaRDiskLoad
import Derived.Test.YtielmlnbjliacaaDiskLoad2
namespace Go.Proofs.Ytielmlnbjliacaa
open Go.RowKit Ks
set_option linter.unusedVariables false
variable {n m : Nat} {vb vc ub uc : Value} {s t : DS}
theorem does_eight {w0 w : World} (h : Alike w0 w n vb vc m ub uc s) : Calls Try.prog 12 #[.pointer (some ⟨n, 0, none⟩), .pointer (some ⟨m, 0, none⟩), .agg #[.int .i64 8, .int .i64 0, .int .i64 0, .string ⟨#[]⟩, .bool false, .slice none 0 0]] w fun e w' =>
    e = .returned (.bool true) ∧ ∃ vb vc ub uc s', Alike w0 w' n vb vc m ub uc s' := by
  refine (does_any ⟨8, 0, 0, ⟨#[]⟩, false, []⟩ none 0 0 w h.1 (RdI.nil _) (by decide) (by decide) (fun h => absurd rfl h)).mono ?_
  rintro e w' ⟨r, rfl, hr, vb1, vc1, ub1, uc1, q1, q2⟩
  rw [hr rfl]
  exact ⟨rfl, vb1, vc1, ub1, uc1, _, q1, h.2.1.trans (q2.below h.2.2 h.2.1.size), q2.low h.2.2 h.2.1.size⟩

set_option maxHeartbeats 4000000 in
set_option maxRecDepth 100000 in
theorem law_dloads (va vd : Value) (B : List ByteArray) (C : List PutT) (lv : Value) (l : List ActC) (w : World) (ha : Rd strE w va B) (hd : Rd pwE w vd C) (hBl : B.length ≤ maxLen) (hCl : C.length ≤ maxLen) (hl : Rd acE w lv l) (hlen : l.length ≤ maxLen) (hG : ∀ x ∈ l, ActG w x) :
    Calls Try.prog 6 #[.agg #[va, vd], lv] w fun e w' => e = .returned (.bool true) ∧ Below w.heap.size w w' := by
  refine calls_by fun R HR => ?_
  obtain ⟨ba, bc, hva, _⟩ := ha.shape
  obtain ⟨da, dc, hvd, _⟩ := hd.shape
  have HL := Lib.hid (And.intro hl (And.intro hG (And.intro ha hd)))
  have HF := Lib.hid (fun (W : World) (hb : Below w.heap.size w W) => lfew_any lv l W (hl.below hb) hlen)
  have HQ := Lib.hid (fun (W : World) (hb : Below w.heap.size w W) => rfew_any va vd B C W (ha.below hb) (hd.below hb) hBl hCl)
  obtain ⟨la, lc, hlv, _⟩ := hl.shape
  have HV := Lib.hid (And.intro hva (And.intro hvd hlv))
  obtain ⟨W1, hW1⟩ : ∃ W1, w.alloc (.cells #[va, vd] 40) = W1 := ⟨_, rfl⟩
  have hb1 : Below w.heap.size w W1 := by rw [← hW1]; exact alloc_below w _
  have k1 : W1.heap[w.heap.size]? = some (.cells #[va, vd] 40 (0, 0)) := by rw [← hW1]; exact alloc_new w _
  have H1 := Lib.hid (And.intro hb1 k1)
  obtain ⟨c0, c1, -, -⟩ := blk2 k1
  rw [hva] at c0
  rw [hvd] at c1
  subst hlv
  have HM := Lib.hid (And.intro hBl hCl)
  clear hl hlen hG hva hvd ha hd hb1 k1 hBl hCl
  rw [HV.out.1, HV.out.2.1] at hW1 ⊢
  go_enter Try.func6, Try.ntmps6
  go_wp2_with fail
  have hq := HQ.out W1 H1.out.1
  rw [HV.out.1, HV.out.2.1] at hq
  refine hq.mono ?_
  rintro e w2 ⟨b, rfl, hfew, hb⟩
  have H2 := Lib.hid (And.intro (H1.out.1.trans (hb.mono H1.out.1.size)) (And.intro (blk_on hb H1.out.2) hfew))
  clear hfew hb hq c0 c1
  cases b
  · go_wp2_with fail
    refine (alive_any _).mono ?_
    rintro e w3 ⟨rfl, hb3⟩
    have H3 := Lib.hid (H2.out.1.trans (hb3.mono H2.out.1.size))
    clear hb3
    go_wp2
    exact HR.out _ _ ⟨rfl, H3.out⟩
  · go_wp2_with fail
    refine (HF.out w2 H2.out.1).mono ?_
    rintro e w3 ⟨b, rfl, hfew, hb⟩
    have H3 := Lib.hid (And.intro (H2.out.1.trans (hb.mono H2.out.1.size)) (And.intro (blk_on hb H2.out.2.1) hfew))
    clear hfew hb
    cases b
    · go_wp2_with fail
      refine (alive_any _).mono ?_
      rintro e w4 ⟨rfl, hb4⟩
      have H4 := Lib.hid (H3.out.1.trans (hb4.mono H3.out.1.size))
      clear hb4
      go_wp2
      exact HR.out _ _ ⟨rfl, H4.out⟩
    · have hl60 := H3.out.2.2 (by first | rfl | trivial)
      by_cases h20 : (20 : Int) < l.length
      · go_wp2_with fail
        refine (alive_any _).mono ?_
        rintro e w4 ⟨rfl, hb4⟩
        have H4 := Lib.hid (H3.out.1.trans (hb4.mono H3.out.1.size))
        clear hb4
        go_wp2
        exact HR.out _ _ ⟨rfl, H4.out⟩
      · obtain ⟨c0, c1, -, -⟩ := blk2 H3.out.2.1
        rw [HV.out.1] at c0
        rw [HV.out.2.1] at c1
        have hsz := H2.out.2.2 (by first | rfl | trivial)
        have HSZ := Lib.hid hsz
        clear hsz
        go_wp2_with fail
        have hc := rcopy_any va vd B C w3 (HL.out.2.2.1.below H3.out.1) (HL.out.2.2.2.below H3.out.1) (by have := HSZ.out.1; omega) (by have := HSZ.out.2; omega)
        rw [HV.out.1, HV.out.2.1] at hc
        refine hc.mono ?_
        rintro e w4 ⟨ob, oc, rfl, ho1, ho2, ho3, hb4⟩
        obtain ⟨W5, hW5⟩ : ∃ W5, w4.alloc (.cells #[ob, oc] 40) = W5 := ⟨_, rfl⟩
        have hb5 : Below w4.heap.size w4 W5 := by rw [← hW5]; exact alloc_below w4 _
        have k5 : W5.heap[w4.heap.size]? = some (.cells #[ob, oc] 40 (0, 0)) := by rw [← hW5]; exact alloc_new w4 _
        have hb35 := hb4.trans (hb5.mono hb4.size)
        have H5 := Lib.hid (And.intro (H3.out.1.trans (hb35.mono H3.out.1.size)) (And.intro (blk_on hb35 H3.out.2.1) (And.intro k5 (And.intro (ho1.rd.below hb5) (ho2.rd.below hb5)))))
        obtain ⟨oa, on, ocp, rfl⟩ := ho1.any
        obtain ⟨pa, pn, pcp, rfl⟩ := ho2.any
        clear hc ho1 ho2 ho3 hb4 hb5 k5 hb35 c0 c1
        obtain ⟨d0, d1, -, -⟩ := blk2 H5.out.2.2.1
        have HW5 := Lib.hid hW5
        clear hW5
        go_wp2_with fail
        rw [HW5.out]
        obtain ⟨c0, c1, -, -⟩ := blk2 H5.out.2.1
        rw [HV.out.1] at c0
        rw [HV.out.2.1] at c1
        go_wp2_with fail
        refine (dload_any _ _ B C W5 H5.out.2.2.2.1 H5.out.2.2.2.2 HM.out.1 HM.out.2).mono ?_
        rintro e w6 ⟨⟨hno, hyes⟩, hb6⟩
        cases hmay : mayI B C
        · obtain rfl := hno hmay
          have H6 := Lib.hid (And.intro (H5.out.1.trans (hb6.mono H5.out.1.size)) (blk_on hb6 H5.out.2.1))
          clear hno hyes hb6 d0 d1 c0 c1
          obtain ⟨c0, c1, -, -⟩ := blk2 H6.out.2
          rw [HV.out.1] at c0
          rw [HV.out.2.1] at c1
          have HMAY := Lib.hid hmay
          clear hmay
          go_wp2_with fail
          have hr := rload_any va vd B C w6 (HL.out.2.2.1.below H6.out.1) (HL.out.2.2.2.below H6.out.1) HM.out.1 HM.out.2
          rw [HV.out.1, HV.out.2.1] at hr
          refine hr.mono ?_
          rintro e w7 ⟨⟨hno, hyes⟩, hb7⟩
          obtain rfl := hno HMAY.out
          have H7 := Lib.hid (H6.out.1.trans (hb7.mono H6.out.1.size))
          clear hr hno hyes hb7
          go_wp2_with fail
          refine (alive_any _).mono ?_
          rintro e w8 ⟨rfl, hb8⟩
          have H8 := Lib.hid (H7.out.trans (hb8.mono H7.out.size))
          clear hb8
          go_wp2
          exact HR.out _ _ ⟨rfl, H8.out⟩
        · obtain ⟨n, vb, vc, rfl, hD, hF⟩ := hyes hmay
          have H6 := Lib.hid (And.intro (H5.out.1.trans (hb6.mono H5.out.1.size)) (And.intro (blk_on hb6 H5.out.2.1) (And.intro hD (And.intro hF hb6))))
          clear hno hyes hb6 hD hF d0 d1 c0 c1
          obtain ⟨c0, c1, -, -⟩ := blk2 H6.out.2.1
          rw [HV.out.1] at c0
          rw [HV.out.2.1] at c1
          have HMAY := Lib.hid hmay
          clear hmay
          go_wp2_with fail
          have hr := rload_any va vd B C w6 (HL.out.2.2.1.below H6.out.1) (HL.out.2.2.2.below H6.out.1) HM.out.1 HM.out.2
          rw [HV.out.1, HV.out.2.1] at hr
          refine hr.mono ?_
          rintro e w7 ⟨⟨hno, hyes⟩, hb7⟩
          obtain ⟨m, ub, uc, rfl, hE, hF2⟩ := hyes HMAY.out
          have hA : Alike W5 w7 n vb vc m ub uc ⟨B, C, false, 0⟩ := by
            refine ⟨⟨H6.out.2.2.1.below hb7, hE, fun k h1 h2 => ?_⟩, H6.out.2.2.2.2.trans (hb7.mono H6.out.2.2.2.2.size), fun k hk => ?_⟩
            · have := H6.out.2.2.1.lt k h1; have := hF2 k h2; omega
            · rcases hk with hk | hk
              · exact H6.out.2.2.2.1 k hk
              · exact Nat.le_trans H6.out.2.2.2.2.size (hF2 k hk)
          have HA := Lib.hid hA
          clear hr hno hyes hb7 hE hF2 hA c0 c1
          go_wp2_with fail
          refine (does_eight HA.out).mono ?_
          rintro e w8 ⟨rfl, vb, vc, ub, uc, s8, hA⟩
          have H8 := Lib.hid hA
          clear hA
          have hl20 : l.length ≤ 20 := by omega
          clear h20
          go_wp2_with fail
          go_loopg [60] l.length (fun g i wr => ∃ (k : Nat) (vb vc ub uc : Value) (s : DS), k + g = l.length ∧ i = .int .i64 k ∧ Hid (Alike W5 wr n vb vc m ub uc s))
          case atStart => exact ⟨0, _, _, _, _, _, by omega, rfl, H8⟩
          case round =>
            obtain ⟨k, vb, vc, ub, uc, s, hk, rfl, hA⟩ := hrel
            by_cases hlt : k < l.length
            · obtain ⟨x, hx⟩ : ∃ x, l[k]? = some x := ⟨_, List.getElem?_eq_getElem hlt⟩
              obtain ⟨b, o, rfl, hb, c0, c1, c2, c3, c4, c5⟩ := ((HL.out.1.below H5.out.1).below hA.out.2.1).actAt k x hx
              have hAW : ∀ ob, Alike W5 (wr.alloc ob) n vb vc m ub uc s := fun ob => ⟨hA.out.1.below (alloc_below wr ob), hA.out.2.1.trans ((alloc_below wr ob).mono hA.out.2.1.size), hA.out.2.2⟩
              have HA := Lib.hid hAW
              have hGx : ActG W5 x := by
                obtain ⟨g1, g2, kl, g3, g4⟩ := HL.out.2.1 x (List.mem_of_getElem? hx)
                exact ⟨g1, g2, kl, g3.below H5.out.1, g4⟩
              have HX := Lib.hid hGx
              obtain ⟨kd, ia, ib, tx, raw, ka, kn, kc⟩ := x
              simp only [hdrV] at c0 c1 c2 c3 c4 c5
              have hki : (k : Int) < (l.length : Int) := by omega
              clear hx hAW hGx
              go_wp2_with fail
              refine (does_row (kd, ia, ib, tx, raw, ka, kn, kc) HX.out (HA.out _)).choose_spec.mono ?_
              rintro e w5 ⟨rfl, vb5, vc5, ub5, uc5, s5, h5⟩
              have H5 := Lib.hid h5
              clear h5 c0 c1 c2 c3 c4 c5
              go_wp2_with fail
              go_roundg (gk - 1)
              case rel => exact ⟨k + 1, _, _, _, _, _, by omega, by go_num, H5⟩
              case measure => omega
            · obtain rfl : k = l.length := by omega
              go_wp2_with fail
              refine (does_eight hA.out).mono ?_
              rintro e w9 ⟨rfl, vb, vc, ub, uc, s9, hA9⟩
              have HB9 := Lib.hid (And.intro (H5.out.1.trans (hA9.2.1.mono H5.out.1.size)) hA9.2.1)
              clear hA9
              obtain ⟨d0, d1, -, -⟩ := blk2 (blk_on HB9.out.2 H5.out.2.2.1)
              obtain ⟨c0, c1, -, -⟩ := blk2 (blk_on HB9.out.2 H5.out.2.1)
              rw [HV.out.1] at c0
              rw [HV.out.2.1] at c1
              go_wp2_with fail
              have hs := rsame_any _ _ va vd B B C C w9 (H5.out.2.2.2.1.below HB9.out.2) (H5.out.2.2.2.2.below HB9.out.2) (HL.out.2.2.1.below HB9.out.1) (HL.out.2.2.2.below HB9.out.1) HM.out.1 HM.out.1 HM.out.2 HM.out.2
              rw [HV.out.1, HV.out.2.1] at hs
              refine hs.mono ?_
              rintro e w10 ⟨r, rfl, hr, hb10⟩
              obtain rfl := hr.2 ⟨rfl, rfl⟩
              have H10 := Lib.hid (HB9.out.1.trans (hb10.mono HB9.out.1.size))
              clear hs hr hb10 c0 c1 d0 d1
              go_wp2_with fail
              refine (alive_any _).mono ?_
              rintro e w11 ⟨rfl, hb11⟩
              have H11 := Lib.hid (H10.out.trans (hb11.mono H10.out.size))
              clear hb11
              go_wp2
              exact HR.out _ _ ⟨rfl, H11.out⟩
end Go.Proofs.Ytielmlnbjliacaa
