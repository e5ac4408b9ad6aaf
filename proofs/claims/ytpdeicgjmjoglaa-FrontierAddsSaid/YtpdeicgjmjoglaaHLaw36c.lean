/- The law FrontierAdds: what its walk gives. -/
import Derived.Test.YtpdeicgjmjoglaaM7
import Derived.Test.YtpdeicgjmjoglaaHLaw36p
namespace Ks
open Go Go.RowKit
set_option linter.unusedVariables false
/-- a frontier and a row of the law's own -/
structure AddsAt (w wx : World) (TN T : TypeId) (n : Nat) (v r : Value) (l : List ByteArray) : Prop where
  own : FrontOwn w wx TN n v l
  row : Row strE wx w.heap.size T r l
  ne : r.ownBlock ≠ some n
  apart : ∀ b, r.ownBlock = some b → v.ownBlock ≠ some b
theorem AddsAt.keep {w wx w' : World} {TN T : TypeId} {n : Nat} {v r : Value} {l : List ByteArray} (h : AddsAt w wx TN T n v r l) (hb : Below wx.heap.size wx w') : AddsAt w w' TN T n v r l :=
  ⟨h.own.keep hb, h.row.below hb, h.ne, h.apart⟩
theorem AddsAt.added {w wx w1 w2 w3 : World} {TN T : TypeId} {n : Nat} {v r v' r' : Value} {l l' : List ByteArray} (h : AddsAt w wx TN T n v r l) (h1 : Below wx.heap.size wx w1) (hG : Grew strE w1 w2 w.heap.size T r r' l') (hf : FrontAt w3 TN n v' l') (hs : Solo w2 w3 n) (hv : ∀ b, v'.ownBlock = some b → w2.heap.size ≤ b ∧ b < w3.heap.size) : AddsAt w w3 TN T n v' r' l' := by
  have hlt := h.own.at_.lt
  have s1 := h1.size
  have hne : r'.ownBlock ≠ some n := by
    rcases hG.2.2.1 with e | e
    · rw [e]; exact h.ne
    · exact fun e2 => by have := e n e2; omega
  have h12 := hG.below (h.own.below.trans (h1.mono h.own.below.size)) (Nat.le_trans h.own.below.size s1) (fun b e => (h.row.lt e).1)
  refine ⟨⟨hf, h12.trans (hs.below h.own.ge h12.size), h.own.ge, fun b e => (hv b e).2⟩, hs.row hG.1 hne, hne, fun b e e2 => ?_⟩
  have q1 := (hv b e2).1
  have q2 := (hG.1.lt e).2
  omega
theorem AddsAt.front {w wx w1 w2 : World} {TN T : TypeId} {n : Nat} {v r r' : Value} {l l' : List ByteArray} (h : AddsAt w wx TN T n v r l) (h1 : Below wx.heap.size wx w1) (hG : Grew strE w1 w2 w.heap.size T r r' l') : FrontAt w2 TN n v l :=
  have h2 := h.own.at_.keep h1
  ⟨hG.block h2.blk h.ne, hG.rd h2.row fun b e e2 => h.apart b e2 e, h2.ne, h2.wide, h2.few⟩
end Ks
namespace Go.Proofs.Ytpdeicgjmjoglaa
open Go.RowKit Ks
set_option linter.unusedVariables false
set_option maxRecDepth 100000 in
set_option maxHeartbeats 8000000 in
theorem law_adds (lv : Value) (l : List ByteArray) (more : ByteArray) (w : World) (hl : Rd strE w lv l) :
    Calls Try.prog 4 #[lv, .string more] w fun e w' => e = .returned (.bool true) ∧ Below w.heap.size w w' := by
  refine calls_by fun R HR => ?_
  have HF := Lib.hid (few_any l lv w hl)
  obtain ⟨a, cap, rfl, hcap, -⟩ := hl.shape
  by_cases h1 : l.length ≤ 70 ∧ bytesN l ≤ 5000
  · rw [decide_eq_true h1] at HF
    have HL := Lib.hid (And.intro hl h1.1)
    have hl70 : l.length ≤ 70 := h1.1
    clear h1 hl hcap
    by_cases hm : (1000 : Int) < (more.size : Int)
    · go_enter Try.func4, Try.ntmps4
      go_wp2_with fail
      refine HF.out.mono ?_
      rintro e w1 ⟨rfl, hw⟩
      rw [hw]
      clear hw
      go_wp2_with fail
      refine (alive_any _).mono ?_
      rintro e w2 ⟨rfl, hb⟩
      have HB := Lib.hid hb
      clear hb
      go_wp2
      exact HR.out _ _ ⟨rfl, HB.out⟩
    · have HM := Lib.hid hm
      go_enter Try.func4, Try.ntmps4
      go_wp2_with fail
      refine HF.out.mono ?_
      rintro e w1 ⟨rfl, hw⟩
      subst hw
      go_wp2_with fail
      clear hm
      refine (fnew_any _).mono ?_
      rintro e w2 ⟨rfl, hf, hb⟩
      obtain ⟨n, hn⟩ : ∃ n, w1.heap.size = n := ⟨_, rfl⟩
      have hge : w1.heap.size ≤ n := by omega
      rw [hn] at hf
      have HO := Lib.hid (show AddsAt w1 w2 39 9 n (.slice none 0 0) (.slice none 0 0) (keepL (l.take 0)) from ⟨⟨by rw [List.take_zero]; exact hf, hb, hge, fun b e => by simp [Value.ownBlock] at e⟩, Row.nil _ _ _, (by simp [Value.ownBlock]), fun b e => by simp [Value.ownBlock] at e⟩)
      rw [hn]
      clear hf hb hge hn
      go_wp2_with fail
      go_loopw [6, 23] (fun r i wx => ∃ (k : Nat) (v : Value), k ≤ l.length ∧ i = .int .i64 k ∧ Hid (AddsAt w1 wx 39 9 n v r (keepL (l.take k)))) (fun _ i _ => l.length - (intOf i).toNat)
      case atStart => exact ⟨0, _, Nat.zero_le _, rfl, HO⟩
      case round =>
        obtain ⟨k, v, hk, rfl, hP⟩ := hrel
        by_cases hlt : k < l.length
        · obtain ⟨b, o, rfl, hb0, cx⟩ := (HL.out.1.below hP.out.own.below).str k hlt
          have hki : (k : Int) < (l.length : Int) := by omega
          have HX := Lib.hid (keep_take l k l[k] (List.getElem?_eq_getElem hlt))
          have hkl := keep_len l k
          have HK := Lib.hid (show (keepL (l.take k)).length < 1048576 by have := HL.out.2; omega)
          generalize l[k] = x at *
          clear hb0 hkl
          by_cases hx : x.size = 32
          · have HS := Lib.hid (And.intro hx (HX.out.trans (if_pos hx)))
            have hxi : (x.size : Int) = 32 := by omega
            obtain ⟨W3, hW3⟩ : ∃ W3, wr.alloc (.cells #[.string x] 9) = W3 := ⟨_, rfl⟩
            have hb3 : Below wr.heap.size wr W3 := by rw [← hW3]; exact alloc_below _ _
            have hr3 : Rd strE W3 (.slice (some ⟨wr.heap.size, 0, none⟩) 1 1) [x] := by rw [← hW3]; exact Rd.single (E := strE) x (alloc_new _ _) rfl
            have H3 := Lib.hid (And.intro hb3 (And.intro hr3 (hP.out.row.below hb3)))
            clear hx hb3 hr3
            go_wp2_with (at_builtin; refine wpList_append_row _ rfl _ _ 22 rfl strT w1.heap.size _ _ (keepL (l.take k)) [x] rfl rfl H3.out.2.2 H3.out.2.1 (Nat.le_trans hP.out.own.below.size H3.out.1.size) (by have := HK.out; simp; omega) (by decide) ?_)
            intro r4 w4 hG
            have HG := Lib.hid hG
            obtain ⟨ra, rn, rc, rfl⟩ : ∃ a n c, r4 = .slice a n c := by obtain ⟨a, c, e, _⟩ := hG.1.shape; exact ⟨a, _, c, e⟩
            clear hG hxi hW3 cx
            go_wp2_with fail
            refine (fadd_any n v _ x _ (hP.out.front H3.out.1 HG.out) HS.out.1 HK.out).mono ?_
            rintro e w5 ⟨rfl, v', hf, hs, hv⟩
            have HN := Lib.hid (hP.out.added H3.out.1 HG.out hf hs hv)
            clear hf hs hv
            go_wp2_with fail
            go_roundw
            case rel => exact ⟨k + 1, v', by omega, by go_num, Lib.hid (by rw [HS.out.2]; exact HN.out)⟩
            case measure => simp [intOf]; omega
          · have HS := Lib.hid (And.intro hx (HX.out.trans (if_neg hx)))
            have hxi : ¬ (x.size : Int) = 32 := by omega
            clear hx
            go_wp2_with fail
            refine (fadd_bad n v _ x _ hP.out.own.at_ (Or.inl HS.out.1)).mono ?_
            rintro e w3 ⟨rfl, hw⟩
            subst hw
            go_wp2_with fail
            go_roundw
            case rel => exact ⟨k + 1, v, by omega, by go_num, Lib.hid (by rw [HS.out.2]; exact hP.out)⟩
            case measure => simp [intOf]; omega
        · obtain rfl : k = l.length := by omega
          have hki : ¬ (l.length : Int) < (l.length : Int) := by omega
          have HP := Lib.hid (show AddsAt w1 wr 39 9 n v u6 (keepL l) by have := hP.out; rwa [List.take_length] at this)
          have HLN := Lib.hid (show (keepL l).length ≤ 70 by have h := keep_len l l.length; rw [List.take_length] at h; have := HL.out.2; omega)
          have HWK := Lib.hid (keep_is l)
          generalize keepL l = K at *
          obtain ⟨ra, rc, hr6, -⟩ := HP.out.row.shape
          subst hr6
          clear hP HO
          go_wp2_with fail
          refine (fcopy_live n v _ _ HP.out.own.at_).mono ?_
          rintro e w4 ⟨m, v2, rfl, hf, hm, hb⟩
          have H4 := Lib.hid (And.intro (HP.out.keep hb) (And.intro hf (show n < m ∧ wr.heap.size ≤ m ∧ (∀ b, v.ownBlock = some b → b < m) ∧ (∀ b, (Value.slice ra K.length rc).ownBlock = some b → b < m) ∧ w1.heap.size ≤ m from
            ⟨by have := HP.out.own.at_.lt; omega, hm, fun b e => by have := HP.out.own.lt b e; omega, fun b e => by have := (HP.out.row.lt e).2; omega, by have := HP.out.own.below.size; omega⟩)))
          clear hf hb hm
          go_wp2_with fail
          have hadd : Calls Try.prog 12 #[.pointer (some ⟨m, 0, none⟩), .string more] w4 fun e w' => (∃ i, e = .returned (.int .i64 i)) ∧ Solo w4 w' m := by
            by_cases h32 : more.size = 32
            · exact (fadd_any m v2 _ more _ H4.out.2.1 h32 (by have := HLN.out; omega)).mono fun e w' ⟨h, v', _, hs, _⟩ => ⟨⟨_, h⟩, hs⟩
            · exact (fadd_bad m v2 _ more _ H4.out.2.1 (Or.inl h32)).mono fun e w' ⟨h, hw⟩ => ⟨⟨_, h⟩, by rw [hw]; exact Solo.of_below (Below.refl _ _)⟩
          refine hadd.mono ?_
          rintro e w5 ⟨⟨i, rfl⟩, hs⟩
          have H5 := Lib.hid (show AddsAt w1 w5 39 9 n v (.slice ra K.length rc) K from
            ⟨H4.out.1.own.other hs (by have := H4.out.2.2.1; omega) (fun e => by have := H4.out.2.2.2.2.1 m e; omega) H4.out.2.2.2.2.2.2, hs.row H4.out.1.row (fun e => by have := H4.out.2.2.2.2.2.1 m e; omega), H4.out.1.ne, H4.out.1.apart⟩)
          clear hadd hs
          go_wp2_with fail
          refine (fcount_live n v _ _ H5.out.own.at_).mono ?_
          rintro e w6 ⟨rfl, hw⟩
          subst hw
          go_wp2_with fail
          refine (froot_live n v _ _ H5.out.own.at_).mono ?_
          rintro e w7 ⟨rfl, hb⟩
          have H7 := Lib.hid (H5.out.keep hb)
          clear hb
          go_wp2_with fail
          refine (rroot_any K.length K _ _ rfl (by have := HLN.out; omega) H7.out.row.rd HWK.out).mono ?_
          rintro e w8 ⟨rfl, hb⟩
          have H8 := Lib.hid (H7.out.keep hb)
          clear hb
          go_wp2_with fail
          refine (fpeaks_live n v _ _ H8.out.own.at_).mono ?_
          rintro e w9 ⟨pv, rfl, hrow, hb⟩
          have H9 := Lib.hid (And.intro (H8.out.keep hb) hrow)
          clear hb
          have HPL := Lib.hid (show (peaksB K).length ≤ 1000 by have := peaks_le K; have := HLN.out; omega)
          clear hrow
          go_wp2_with fail
          refine (rpeaks_any K.length K _ _ rfl (by have := HLN.out; omega) H9.out.1.row.rd HWK.out).mono ?_
          rintro e w10 ⟨qv, rfl, hrow, hb⟩
          have H10 := Lib.hid (And.intro (H9.out.1.own.below.trans (hb.mono H9.out.1.own.below.size)) (And.intro (H9.out.2.rd.below hb) hrow.rd))
          clear hb hrow
          go_wp2_with fail
          refine (texts_any _ _ (peaksB K) (peaksB K) _ H10.out.2.1 H10.out.2.2 (by have := HPL.out; simp [maxLen]; omega) (by have := HPL.out; simp [maxLen]; omega)).mono ?_
          rintro e w11 ⟨bb, rfl, hbb, hb⟩
          obtain rfl : bb = true := hbb.2 rfl
          have H11 := Lib.hid (H10.out.1.trans (hb.mono H10.out.1.size))
          clear hbb hb
          go_wp2_with fail
          refine (alive_any _).mono ?_
          rintro e w12 ⟨rfl, hb⟩
          have H12 := Lib.hid (H11.out.trans (hb.mono H11.out.size))
          clear hb
          go_wp2
          exact HR.out _ _ ⟨rfl, H12.out⟩
  · rw [decide_eq_false h1] at HF
    clear h1 hl hcap
    go_enter Try.func4, Try.ntmps4
    go_wp2_with fail
    refine HF.out.mono ?_
    rintro e w1 ⟨rfl, hw⟩
    rw [hw]
    clear hw
    go_wp2_with fail
    refine (alive_any _).mono ?_
    rintro e w2 ⟨rfl, hb⟩
    have HB := Lib.hid hb
    clear hb
    go_wp2
    exact HR.out _ _ ⟨rfl, HB.out⟩
end Go.Proofs.Ytpdeicgjmjoglaa
