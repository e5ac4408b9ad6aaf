/- The law FrontierAll: what its walk gives. -/
import Derived.Test.YtpdeicgjmjoglaaM7
import Derived.Test.YtpdeicgjmjoglaaHLaw36p
namespace Go.Proofs.Ytpdeicgjmjoglaa
open Go.RowKit Ks
set_option linter.unusedVariables false
set_option maxRecDepth 100000 in
set_option maxHeartbeats 8000000 in
theorem law_all (lv : Value) (l : List ByteArray) (w : World) (hl : Rd strE w lv l) :
    Calls Try.prog 3 #[lv] w fun e w' => e = .returned (.bool true) ∧ Below w.heap.size w w' := by
  refine calls_by fun R HR => ?_
  have HF := Lib.hid (few_any l lv w hl)
  obtain ⟨a, cap, rfl, hcap, -⟩ := hl.shape
  by_cases h1 : l.length ≤ 70 ∧ bytesN l ≤ 5000
  · rw [decide_eq_true h1] at HF
    have HL := Lib.hid (And.intro hl h1.1)
    have hl70 : l.length ≤ 70 := h1.1
    clear h1 hl hcap
    go_enter Try.func3, Try.ntmps3
    go_wp2_with fail
    refine HF.out.mono ?_
    rintro e w1 ⟨rfl, hw⟩
    subst hw
    go_wp2_with fail
    refine (fnew_any _).mono ?_
    rintro e w2 ⟨rfl, hf, hb⟩
    obtain ⟨n, hn⟩ : ∃ n, w1.heap.size = n := ⟨_, rfl⟩
    have hge : w1.heap.size ≤ n := by omega
    rw [hn] at hf
    have HO := Lib.hid (show FrontOwn w1 w2 39 n (.slice none 0 0) (keepL (l.take 0)) from ⟨by rw [List.take_zero]; exact hf, hb, hge, fun b e => by simp [Value.ownBlock] at e⟩)
    rw [hn]
    clear hf hb hge hn
    go_wp2_with fail
    go_loopw [17] (fun i wx => ∃ (k : Nat) (v : Value), k ≤ l.length ∧ i = .int .i64 k ∧ Hid (FrontOwn w1 wx 39 n v (keepL (l.take k)))) (fun i _ => l.length - (intOf i).toNat)
    case atStart => exact ⟨0, _, Nat.zero_le _, rfl, HO⟩
    case round =>
      obtain ⟨k, v, hk, rfl, hP⟩ := hrel
      by_cases hlt : k < l.length
      · obtain ⟨b, o, rfl, hb0, cx⟩ := (HL.out.1.below hP.out.below).str k hlt
        have hki : (k : Int) < (l.length : Int) := by omega
        have HX := Lib.hid (keep_take l k l[k] (List.getElem?_eq_getElem hlt))
        have hkl := keep_len l k
        have HK := Lib.hid (show (keepL (l.take k)).length < 1048576 by have := HL.out.2; omega)
        generalize l[k] = x at *
        clear hb0 hkl
        by_cases hx : x.size = 32
        · have HS := Lib.hid (And.intro hx (HX.out.trans (if_pos hx)))
          clear hx
          go_wp2_with fail
          refine (fadd_any n v _ x _ hP.out.at_ HS.out.1 HK.out).mono ?_
          rintro e w3 ⟨rfl, v', hf, hs, hv⟩
          have HN := Lib.hid (hP.out.added hf hs hv)
          clear hf hs hv
          go_wp2_with fail
          go_roundw
          case rel => exact ⟨k + 1, v', by omega, by go_num, Lib.hid (by rw [HS.out.2]; exact HN.out)⟩
          case measure => simp [intOf]; omega
        · have HS := Lib.hid (And.intro hx (HX.out.trans (if_neg hx)))
          clear hx
          go_wp2_with fail
          refine (fadd_bad n v _ x _ hP.out.at_ (Or.inl HS.out.1)).mono ?_
          rintro e w3 ⟨rfl, hw⟩
          subst hw
          go_wp2_with fail
          go_roundw
          case rel => exact ⟨k + 1, v, by omega, by go_num, Lib.hid (by rw [HS.out.2]; exact hP.out)⟩
          case measure => simp [intOf]; omega
      · obtain rfl : k = l.length := by omega
        have hki : ¬ (l.length : Int) < (l.length : Int) := by omega
        have HP := Lib.hid (show FrontOwn w1 wr 39 n v (keepL l) by have := hP.out; rwa [List.take_length] at this)
        have HLN := Lib.hid (show (keepL l).length ≤ 70 by have h := keep_len l l.length; rw [List.take_length] at h; have := HL.out.2; omega)
        clear hP HO
        go_wp2_with fail
        refine (root_any _ l _ (HL.out.1.below HP.out.below) (by omega)).mono ?_
        rintro e w4 ⟨rfl, hb⟩
        have H4 := Lib.hid (HP.out.keep hb)
        clear hb
        go_wp2_with fail
        refine (fcount_live n v _ _ H4.out.at_).mono ?_
        rintro e w5 ⟨rfl, hw⟩
        subst hw
        obtain ⟨c, hc⟩ : ∃ c, (keepL l).length = c := ⟨_, rfl⟩
        have hc70 : c ≤ 70 := by rw [← hc]; exact HLN.out
        have HC := Lib.hid hc
        rw [hc]
        clear hc
        go_wp2_with fail
        go_loop [8, 9] (fun u i => ∃ (q m : Nat), m ≤ 70 ∧ q ≤ 70 ∧ u = .int .i64 q ∧ i = .int .i64 m ∧ Hid (q + onesN m = onesN c)) (fun _ i => (intOf i).toNat)
        case atStart => exact ⟨0, c, hc70, by omega, rfl, rfl, Lib.hid (Nat.zero_add _)⟩
        case round =>
          obtain ⟨q, m, hm, hq, rfl, rfl, hQ⟩ := hrel
          by_cases hm0 : 0 < m
          · have hmi : (0 : Int) < (m : Int) := by omega
            have HQ := Lib.hid (show q + m % 2 + onesN (m / 2) = onesN c by have := hQ.out; rw [ones_half m] at this; omega)
            have e1 : wrap64 ((m : Int) / 2) = ((m / 2 : Nat) : Int) := wrap_hf m (by omega)
            have e2 : IntKind.i64.wrap ((q : Int) + (m : Int) % 2) = ((q + m % 2 : Nat) : Int) := by rw [IntKind.wrap_i64]; omega
            have hqc : q + m % 2 ≤ 70 := by have h1 := HQ.out; have h2 := ones_le c; omega
            go_wp2
            exact ⟨⟨q + m % 2, m / 2, by omega, hqc, congrArg (Value.int .i64) (by omega), congrArg (Value.int .i64) (by omega), HQ⟩, by show ((m : Int) / 2).toNat < (m : Int).toNat; omega⟩
          · obtain rfl : m = 0 := by omega
            have hq1 : q = onesN c := by have h := hQ.out; rw [show onesN 0 = 0 by simp [onesN]] at h; omega
            have hqp : (peaksB (keepL l)).length = q := by rw [hq1, ← HC.out]; exact peaks_ones _ _ rfl
            have HQ := Lib.hid hqp
            have hz : ¬ (0 : Int) < ((0 : Nat) : Int) := by omega
            clear hQ hq1 hqp
            by_cases hw : wholeL l = true
            · have HW := Lib.hid (And.intro (show rootV l = rootL l by rw [rootV, if_pos hw]) (And.intro (show wholeE l = 0 by rw [wholeE, if_pos hw]) (keep_whole l hw)))
              have hcl : (c : Int) = (l.length : Int) := by rw [← HC.out, HW.out.2.2]
              rw [HW.out.1, HW.out.2.1, hcl]
              clear hw
              go_wp2_with fail
              refine (froot_live n v _ _ H4.out.at_).mono ?_
              rintro e w6 ⟨rfl, hb⟩
              have H6 := Lib.hid (H4.out.keep hb)
              rw [HW.out.2.2]
              clear hb
              go_wp2_with fail
              refine (fcount_live n v _ _ H6.out.at_).mono ?_
              rintro e w7 ⟨rfl, hw7⟩
              rw [hw7, HW.out.2.2]
              clear hw7
              go_wp2_with fail
              refine (fpeaks_live n v _ _ H6.out.at_).mono ?_
              rintro e w8 ⟨pv, rfl, hrow, hb⟩
              obtain ⟨pa, pc, rfl, -⟩ := hrow.shape
              rw [HQ.out]
              have H8 := Lib.hid (H6.out.below.trans (hb.mono H6.out.below.size))
              clear hrow hb
              go_wp2_with fail
              refine (alive_any _).mono ?_
              rintro e w9 ⟨rfl, hb⟩
              have H9 := Lib.hid (H8.out.trans (hb.mono H8.out.size))
              clear hb
              go_wp2
              exact HR.out _ _ ⟨rfl, H9.out⟩
            · have HW := Lib.hid (show wholeE l = 2 by rw [wholeE, if_neg hw])
              rw [HW.out]
              clear hw
              go_wp2_with fail
              refine (fpeaks_live n v _ _ H4.out.at_).mono ?_
              rintro e w8 ⟨pv, rfl, hrow, hb⟩
              obtain ⟨pa, pc, rfl, -⟩ := hrow.shape
              rw [HQ.out]
              have H8 := Lib.hid (H4.out.below.trans (hb.mono H4.out.below.size))
              clear hrow hb
              go_wp2_with fail
              refine (alive_any _).mono ?_
              rintro e w9 ⟨rfl, hb⟩
              have H9 := Lib.hid (H8.out.trans (hb.mono H8.out.size))
              clear hb
              go_wp2
              exact HR.out _ _ ⟨rfl, H9.out⟩
  · rw [decide_eq_false h1] at HF
    clear h1 hl hcap
    go_enter Try.func3, Try.ntmps3
    go_wp2_with fail
    refine HF.out.mono ?_
    rintro e w1 ⟨rfl, hw⟩
    rw [hw]
    clear hw
    go_wp2_with fail
    refine (alive_any _).mono ?_
    rintro e w2 ⟨rfl, hb⟩
    have HB := Lib.hid hb
    clear hb
    go_wp2
    exact HR.out _ _ ⟨rfl, HB.out⟩
end Go.Proofs.Ytpdeicgjmjoglaa
