/- The reference's: are two rows of texts the same? are two images? -/
import Derived.Test.YtielmlnbjliacaaRDiskFlush
import Derived.Test.YtielmlnbjliacaaSeqBoth
import Derived.Test.YtielmlnbjliacaaStepCall
namespace Ks
open Go
theorem text_ne {a b : ByteArray} (h : a ≠ b) : (a.toList == b.toList) = false := by
  rw [beq_eq_false_iff_ne]
  intro e
  rw [ByteArray.toList_eq, ByteArray.toList_eq] at e
  apply h
  obtain ⟨⟨x⟩⟩ := a
  obtain ⟨⟨y⟩⟩ := b
  have : x = y := e
  rw [this]
end Ks
namespace Go.Proofs.Ytielmlnbjliacaa
open Go.RowKit Ks
set_option linter.unusedVariables false

set_option maxHeartbeats 1000000 in
theorem texts_any (va vb : Value) (A B : List ByteArray) (w : World) (ha : Rd strE w va A) (hb : Rd strE w vb B) (hA : A.length ≤ maxLen) (hB : B.length ≤ maxLen) :
    Calls Try.prog 48 #[va, vb] w fun e w' => ∃ b, e = .returned (.bool b) ∧ (b = true ↔ A = B) ∧ Below w.heap.size w w' := by
  unfold maxLen at hA hB
  refine calls_by fun R HR => ?_
  obtain ⟨aa, ca, hva, _⟩ := ha.shape
  obtain ⟨ab, cb, hvb, _⟩ := hb.shape
  have HH := Lib.hid (And.intro ha hb)
  subst hva hvb
  clear ha hb
  by_cases hl : A.length = B.length
  · obtain ⟨ln, hln⟩ : ∃ ln, A.length = ln := ⟨_, rfl⟩
    have HL := Lib.hid (And.intro hln (hl.symm.trans hln))
    rw [← hl, hln]
    rw [hln] at hA
    clear hl hln hB
    go_enter Try.func48, Try.ntmps48
    go_wp2_with fail
    go_loopw [5] (fun i wx => ∃ k : Nat, k ≤ ln ∧ i = .int .i64 k ∧ Hid (A.take k = B.take k ∧ Below w.heap.size w wx)) (fun i _ => ln - (intOf i).toNat)
    case atStart => exact ⟨0, by omega, rfl, Lib.hid ⟨by simp, Below.refl _ _⟩⟩
    case round =>
      obtain ⟨k, hk, rfl, hN⟩ := hrel
      by_cases hlt : k < ln
      · have h1 : k < A.length := by rw [HL.out.1]; exact hlt
        have h2 : k < B.length := by rw [HL.out.2]; exact hlt
        have ra : Rd strE wr (.slice aa A.length ca) A := HH.out.1.below hN.out.2
        have rb : Rd strE wr (.slice ab B.length cb) B := HH.out.2.below hN.out.2
        obtain ⟨b1, o1, rfl, hb1, d1⟩ := ra.str k h1
        obtain ⟨b2, o2, rfl, hb2, d2⟩ := rb.str k h2
        have T1 := Lib.hid (show A.take (k + 1) = A.take k ++ [A[k]] from List.take_succ_eq_append_getElem h1)
        have T2 := Lib.hid (show B.take (k + 1) = B.take k ++ [B[k]] from List.take_succ_eq_append_getElem h2)
        have NE := Lib.hid (fun (h : A[k] ≠ B[k]) (e : A = B) => h (by subst e; rfl))
        generalize A[k] = x at *
        generalize B[k] = y at *
        have hki : (k : Int) < (ln : Int) := by omega
        have HB := Lib.hid (fun q => below_drewN hN.out.2 q)
        clear ra rb hb1 hb2 h1 h2
        by_cases hxy : x = y
        · subst hxy
          have HQ := Lib.hid (show A.take (k + 1) = B.take (k + 1) by rw [T1.out, T2.out, hN.out.1])
          go_wp2_with fail
          go_quiet (fail)
          go_wp2_with fail
          go_roundw
          case rel => exact ⟨k + 1, by omega, by go_num, Lib.hid ⟨HQ.out, HB.out _⟩⟩
          case measure => simp [intOf]; omega
        · have hne := text_ne hxy
          have hno := Lib.hid (NE.out hxy)
          clear hxy
          go_wp2
          go_quiet (fail)
          go_wp2
          exact HR.out _ _ ⟨false, rfl, by simp; exact hno.out, HB.out _⟩
      · obtain rfl : k = ln := by omega
        have HE := Lib.hid (show A = B by have := hN.out.1; rwa [List.take_of_length_le (by rw [HL.out.1]; exact Nat.le_refl _), List.take_of_length_le (by rw [HL.out.2]; exact Nat.le_refl _)] at this)
        go_wp2
        exact HR.out _ _ ⟨true, rfl, by simp; exact HE.out, hN.out.2⟩
  · have hne : ((A.length : Int) != (B.length : Int)) = true := by simp; omega
    have hno := Lib.hid (fun (e : A = B) => hl (by rw [e]))
    clear hl
    go_enter Try.func48, Try.ntmps48
    go_wp2
    exact HR.out _ _ ⟨false, rfl, by simp; exact hno.out, Below.refl _ _⟩

set_option maxRecDepth 20000 in
set_option maxHeartbeats 4000000 in
theorem rsame_any (va vc ua uc : Value) (A B : List ByteArray) (C D : List PutT) (w : World) (ha : Rd strE w va A) (hc : Rd pwE w vc C) (hb : Rd strE w ua B) (hd : Rd pwE w uc D) (hA : A.length ≤ maxLen) (hB : B.length ≤ maxLen) (hC : C.length ≤ maxLen) (hD : D.length ≤ maxLen) :
    Calls Try.prog 19 #[.agg #[va, vc], .agg #[ua, uc]] w fun e w' => ∃ b, e = .returned (.bool b) ∧ (b = true ↔ A = B ∧ C = D) ∧ Below w.heap.size w w' := by
  refine calls_by fun R HR => ?_
  have HT := Lib.hid (fun (W : World) (h : Below w.heap.size w W) => texts_any va ua A B W (ha.below h) (hb.below h) hA hB)
  unfold maxLen at hC hD
  obtain ⟨ac, cc, hvc, _⟩ := hc.shape
  obtain ⟨ad, cd, hvd, _⟩ := hd.shape
  have HH := Lib.hid (And.intro hc hd)
  subst hvc hvd
  clear ha hb hc hd hA hB
  go_enter Try.func19, Try.ntmps19
  go_wp2_with fail
  have hb0 : Below w.heap.size w ((w.alloc (.cells #[va, .slice ac C.length cc] 40)).alloc (.cells #[ua, .slice ad D.length cd] 40)) := (alloc_below w _).alloc (by simp) _
  have hk1 := (alloc2_heap w (.cells #[va, .slice ac C.length cc] 40) (.cells #[ua, .slice ad D.length cd] 40)).1
  have hk2 := (alloc2_heap w (.cells #[va, .slice ac C.length cc] 40) (.cells #[ua, .slice ad D.length cd] 40)).2
  have HW := Lib.hid (And.intro hb0 (And.intro hk1 hk2))
  clear hb0 hk1 hk2
  generalize (w.alloc (.cells #[va, .slice ac C.length cc] 40)).alloc (.cells #[ua, .slice ad D.length cd] 40) = W at *
  refine (HT.out W HW.out.1).mono ?_
  rintro e w1 ⟨b0, rfl, hb0, hb1⟩
  have HW1 := Lib.hid (And.intro (HW.out.1.trans (hb1.mono HW.out.1.size)) (And.intro (blk_on hb1 HW.out.2.1) (blk_on hb1 HW.out.2.2)))
  have HB0 := Lib.hid hb0
  obtain ⟨c0, c1, -, -⟩ := blk2 HW1.out.2.1
  obtain ⟨d0, d1, -, -⟩ := blk2 HW1.out.2.2
  clear hb1 hb0
  cases b0
  · have hno := Lib.hid (show ¬ (A = B ∧ C = D) from fun h => by have := HB0.out.2 h.1; cases this)
    go_wp2
    exact HR.out _ _ ⟨false, rfl, by simp; exact fun h1 h2 => hno.out ⟨h1, h2⟩, HW1.out.1⟩
  · by_cases hl : C.length = D.length
    · obtain ⟨ln, hln⟩ : ∃ ln, C.length = ln := ⟨_, rfl⟩
      have HL := Lib.hid (And.intro hln (hl.symm.trans hln))
      rw [hln] at c1 hC
      rw [← hl, hln] at d1
      clear hl hln hD
      go_wp2_with fail
      go_loopw [5] (fun i wx => ∃ k : Nat, k ≤ ln ∧ i = .int .i64 k ∧ Hid (C.take k = D.take k ∧ Below w1.heap.size w1 wx)) (fun i _ => ln - (intOf i).toNat)
      case atStart => exact ⟨0, by omega, rfl, Lib.hid ⟨by simp, Below.refl _ _⟩⟩
      case round =>
        obtain ⟨k, hk, rfl, hN⟩ := hrel
        clear c0 c1 d0 d1
        obtain ⟨c0, c1, -, -⟩ := blk2 (blk_on hN.out.2 HW1.out.2.1)
        obtain ⟨d0, d1, -, -⟩ := blk2 (blk_on hN.out.2 HW1.out.2.2)
        rw [HL.out.1] at c1
        rw [HL.out.2] at d1
        by_cases hlt : k < ln
        · have h1 : k < C.length := by rw [HL.out.1]; exact hlt
          have h2 : k < D.length := by rw [HL.out.2]; exact hlt
          have ra : Rd pwE wr (.slice ac C.length cc) C := (HH.out.1.below HW1.out.1).below hN.out.2
          have rb : Rd pwE wr (.slice ad D.length cd) D := (HH.out.2.below HW1.out.1).below hN.out.2
          obtain ⟨p, hp⟩ : ∃ p, C[k]? = some p := ⟨_, List.getElem?_eq_getElem h1⟩
          obtain ⟨q, hq⟩ : ∃ q, D[k]? = some q := ⟨_, List.getElem?_eq_getElem h2⟩
          obtain ⟨b1, o1, rfl, hb1, x0, x1⟩ := ra.putAt k p hp
          obtain ⟨b2, o2, rfl, hb2, y0, y1⟩ := rb.putAt k q hq
          have T1 := Lib.hid (show C.take (k + 1) = C.take k ++ [p] by rw [List.take_succ_eq_append_getElem h1, (List.getElem?_eq_some_iff.1 hp).2])
          have T2 := Lib.hid (show D.take (k + 1) = D.take k ++ [q] by rw [List.take_succ_eq_append_getElem h2, (List.getElem?_eq_some_iff.1 hq).2])
          have NE := Lib.hid (show p ≠ q → C ≠ D from fun h e => h (by subst e; rw [hp] at hq; exact Option.some.inj hq))
          obtain ⟨pa, pd⟩ := p
          obtain ⟨qa, qd⟩ := q
          simp only at x0 x1 y0 y1
          have hki : (k : Int) < (ln : Int) := by omega
          have HBB := Lib.hid (fun q => below_drewN hN.out.2 q)
          clear ra rb hb1 hb2 h1 h2 hp hq
          by_cases ha : pa = qa
          · subst ha
            by_cases hd : pd = qd
            · subst hd
              have HQ := Lib.hid (show C.take (k + 1) = D.take (k + 1) by rw [T1.out, T2.out, hN.out.1])
              go_wp2_with fail
              go_quiet (fail)
              go_wp2_with fail
              go_roundw
              case rel => exact ⟨k + 1, by omega, by go_num, Lib.hid ⟨HQ.out, HBB.out _⟩⟩
              case measure => simp [intOf]; omega
            · have hno := Lib.hid (NE.out fun e => hd (Prod.mk.inj e).2)
              have hne := text_ne hd
              clear hd
              go_wp2
              go_quiet (fail)
              go_wp2
              exact HR.out _ _ ⟨false, rfl, by simp; exact fun _ => hno.out, HW1.out.1.trans ((HBB.out _).mono HW1.out.1.size)⟩
          · have hno := Lib.hid (NE.out fun e => ha (Prod.mk.inj e).1)
            have hne : (pa == qa) = false := by rw [beq_eq_false_iff_ne]; exact ha
            clear ha
            go_wp2
            go_quiet (fail)
            go_wp2
            exact HR.out _ _ ⟨false, rfl, by simp; exact fun _ => hno.out, HW1.out.1.trans ((HBB.out _).mono HW1.out.1.size)⟩
        · obtain rfl : k = ln := by omega
          have HE := Lib.hid (show C = D by have := hN.out.1; rwa [List.take_of_length_le (by rw [HL.out.1]; exact Nat.le_refl _), List.take_of_length_le (by rw [HL.out.2]; exact Nat.le_refl _)] at this)
          go_wp2
          exact HR.out _ _ ⟨true, rfl, by simp; exact ⟨by first | exact HB0.out.1 rfl | exact HB0.out.1 trivial | (simpa using HB0.out), HE.out⟩, HW1.out.1.trans (hN.out.2.mono HW1.out.1.size)⟩
    · have hne : ((C.length : Int) != (D.length : Int)) = true := by simp; omega
      have hno := Lib.hid (fun (e : C = D) => hl (by rw [e]))
      clear hl
      go_wp2
      exact HR.out _ _ ⟨false, rfl, by simp; exact fun _ h => hno.out h, HW1.out.1⟩
end Go.Proofs.Ytielmlnbjliacaa
