/- The law FrontierSound: what its walk gives. -/
import Derived.Test.YtpdeicgjmjoglaaM7
import Derived.Test.YtpdeicgjmjoglaaM8
namespace Go.Proofs.Ytpdeicgjmjoglaa
open Go.RowKit Ks
set_option linter.unusedVariables false
theorem fclash_sum (a b : ByteArray) (w : World) (h : a.size = 32) (h2 : b.size = 32) : Calls Try.prog 27 #[.slice (some ⟨w.heap.size, 0, none⟩) 1 1] (w.alloc (.cells #[.string (insideS a b)] 9)) fun e w' => e = .returned (.string (nodeS a b)) ∧ Below w.heap.size w w' :=
  (sum1_any (insideS a b) 9 w (by rw [inside_size]; omega))
set_option maxRecDepth 100000 in
set_option maxHeartbeats 8000000 in
theorem sound_many (lv pv : Value) (l path : List ByteArray) (m : Int) (old : ByteArray) (w : World) (hl : Rd strE w lv l) (hp : Rd strE w pv path) (hf : ¬ ((l.length ≤ 70 ∧ bytesN l ≤ 5000) ∧ (path.length ≤ 70 ∧ bytesN path ≤ 5000))) :
    Calls Try.prog 8 #[lv, .int .i64 m, .string old, pv] w fun e w' => e = .returned (.bool true) ∧ Below w.heap.size w w' := by
  refine calls_by fun R HR => ?_
  have HF := Lib.hid (few_any l lv w hl)
  have HG := Lib.hid (few_any path pv w hp)
  obtain ⟨a, cap, rfl, -⟩ := hl.shape
  obtain ⟨pa, pcap, rfl, -⟩ := hp.shape
  by_cases h1 : l.length ≤ 70 ∧ bytesN l ≤ 5000
  · have h2 : ¬ (path.length ≤ 70 ∧ bytesN path ≤ 5000) := fun h2 => hf ⟨h1, h2⟩
    rw [decide_eq_true h1] at HF
    rw [decide_eq_false h2] at HG
    clear h1 h2 hf hl hp
    go_enter Try.func8, Try.ntmps8
    go_wp2_with fail
    refine HF.out.mono ?_
    rintro e w1 ⟨rfl, hw⟩
    rw [hw]
    clear hw
    go_wp2_with fail
    refine HG.out.mono ?_
    rintro e w1 ⟨rfl, hw⟩
    rw [hw]
    clear hw
    go_wp2_with fail
    refine (alive_any _).mono ?_
    rintro e w99 ⟨rfl, hb⟩
    have HB := Lib.hid (hb)
    clear hb
    go_wp2
    exact HR.out _ _ ⟨rfl, HB.out⟩
  · rw [decide_eq_false h1] at HF
    clear h1 hf hl hp
    go_enter Try.func8, Try.ntmps8
    go_wp2_with fail
    refine HF.out.mono ?_
    rintro e w1 ⟨rfl, hw⟩
    rw [hw]
    clear hw
    go_wp2_with fail
    refine (alive_any _).mono ?_
    rintro e w99 ⟨rfl, hb⟩
    have HB := Lib.hid (hb)
    clear hb
    go_wp2
    exact HR.out _ _ ⟨rfl, HB.out⟩
set_option maxRecDepth 100000 in
set_option maxHeartbeats 8000000 in
theorem sound_no (lv pv : Value) (l path : List ByteArray) (m : Int) (old : ByteArray) (w : World) (hl : Rd strE w lv l) (hp : Rd strE w pv path) (f1 : l.length ≤ 70 ∧ bytesN l ≤ 5000) (f2 : path.length ≤ 70 ∧ bytesN path ≤ 5000) (h : ¬ clashOK l m old path) :
    Calls Try.prog 8 #[lv, .int .i64 m, .string old, pv] w fun e w' => e = .returned (.bool true) ∧ Below w.heap.size w w' := by
  refine calls_by fun R HR => ?_
  have HF := Lib.hid (few_any l lv w hl)
  have HG := Lib.hid (few_any path pv w hp)
  rw [decide_eq_true f1] at HF
  rw [decide_eq_true f2] at HG
  have cL := Lib.hid (fun (w2 : World) (h : Below w.heap.size w w2) => root_any lv l w2 (hl.below h) (by omega))
  have cC := Lib.hid (clash_no lv pv l path m old w hl hp (by omega) (by omega) h)
  rw [show clashV none = .tuple #[.string ⟨#[]⟩, .string ⟨#[]⟩, .bool false] from rfl] at cC
  have HRd := Lib.hid (And.intro hl hp)
  obtain ⟨a, cap, rfl, hcap, -⟩ := hl.shape
  obtain ⟨pa, pcap, rfl, -⟩ := hp.shape
  by_cases hw : wholeL l = true
  · rw [show rootV l = rootL l by rw [rootV, if_pos hw], show wholeE l = 0 by rw [wholeE, if_pos hw]] at cL
    by_cases h1 : m < 1
    · clear h hw hl hp f1 f2 hcap
      go_enter Try.func8, Try.ntmps8
      go_wp2_with fail
      refine HF.out.mono ?_
      rintro e w1 ⟨rfl, hw⟩
      rw [hw]
      clear hw
      go_wp2_with fail
      refine HG.out.mono ?_
      rintro e w1 ⟨rfl, hw⟩
      rw [hw]
      clear hw
      go_wp2_with fail
      refine cC.out.mono ?_
      rintro e w2 ⟨rfl, hb⟩
      have H2 := Lib.hid hb
      clear hb
      go_wp2_with fail
      refine (cL.out _ H2.out).mono ?_
      rintro e w3 ⟨rfl, hb⟩
      have H3 := Lib.hid (H2.out.trans (hb.mono H2.out.size))
      clear hb
      go_wp2_with fail
      refine (alive_any _).mono ?_
      rintro e w99 ⟨rfl, hb⟩
      have HB := Lib.hid (H3.out.trans (hb.mono H3.out.size))
      clear hb
      go_wp2
      exact HR.out _ _ ⟨rfl, HB.out⟩
    · by_cases h2 : (l.length : Int) < m
      · clear h hw hl hp f1 f2 hcap
        go_enter Try.func8, Try.ntmps8
        go_wp2_with fail
        refine HF.out.mono ?_
        rintro e w1 ⟨rfl, hw⟩
        rw [hw]
        clear hw
        go_wp2_with fail
        refine HG.out.mono ?_
        rintro e w1 ⟨rfl, hw⟩
        rw [hw]
        clear hw
        go_wp2_with fail
        refine cC.out.mono ?_
        rintro e w2 ⟨rfl, hb⟩
        have H2 := Lib.hid hb
        clear hb
        go_wp2_with fail
        refine (cL.out _ H2.out).mono ?_
        rintro e w3 ⟨rfl, hb⟩
        have H3 := Lib.hid (H2.out.trans (hb.mono H2.out.size))
        clear hb
        go_wp2_with fail
        refine (alive_any _).mono ?_
        rintro e w99 ⟨rfl, hb⟩
        have HB := Lib.hid (H3.out.trans (hb.mono H3.out.size))
        clear hb
        go_wp2
        exact HR.out _ _ ⟨rfl, HB.out⟩
      · obtain ⟨k, hk⟩ : ∃ k : Nat, m = k := ⟨m.toNat, by omega⟩
        subst hk
        obtain ⟨b, o, rfl, hb1, -⟩ := hl.str 0 (by omega)
        have hT := hl.take (k := k) (by omega) cap (by omega)
        have w1' : wholeL (l.take k) = true := wide_whole fun s hs => whole_wide hw s (List.mem_of_mem_take hs)
        have cT := Lib.hid (fun (w2 : World) (h : Below w.heap.size w w2) => root_any _ (l.take k) w2 (hT.below h) (by rw [List.length_take]; omega))
        rw [show rootV (l.take k) = rootL (l.take k) by rw [rootV, if_pos w1'], show wholeE (l.take k) = 0 by rw [wholeE, if_pos w1']] at cT
        have cG := Lib.hid (fun (w2 : World) (h : Below w.heap.size w w2) => fgrown_any (k : Int) l.length old (rootL l) _ path w2 (hp.below h) (by omega))
        have hk1 : (1 : Int) ≤ (k : Int) := by omega
        have hk2 : (k : Int) ≤ (cap : Int) := by omega
        have hk0 : (0 : Int) ≤ (k : Int) := by omega
        have hkl : ¬ l.length < k := by omega
        by_cases hg : grownB (k : Int) old l.length (rootL l) path = true
        · have ho : old = rootL (l.take k) := Classical.byContradiction fun ho => h ⟨hw, by omega, by omega, ho, hg⟩
          rw [hg] at cG
          rw [← ho] at cT
          generalize rootL l = yl at *
          clear h hw hl hp f1 f2 hcap hT w1' ho hg
          go_enter Try.func8, Try.ntmps8
          go_wp2_with fail
          refine HF.out.mono ?_
          rintro e w1 ⟨rfl, hw⟩
          rw [hw]
          clear hw
          go_wp2_with fail
          refine HG.out.mono ?_
          rintro e w1 ⟨rfl, hw⟩
          rw [hw]
          clear hw
          go_wp2_with fail
          refine cC.out.mono ?_
          rintro e w2 ⟨rfl, hb⟩
          have H2 := Lib.hid hb
          clear hb
          go_wp2_with fail
          refine (cL.out _ H2.out).mono ?_
          rintro e w3 ⟨rfl, hb⟩
          have H3 := Lib.hid (H2.out.trans (hb.mono H2.out.size))
          clear hb
          go_wp2_with fail
          refine (cG.out _ H3.out).mono ?_
          rintro e w4 ⟨rfl, hb⟩
          have H4 := Lib.hid (H3.out.trans (hb.mono H3.out.size))
          clear hb
          go_wp2_with fail
          refine (cT.out _ H4.out).mono ?_
          rintro e w5 ⟨rfl, hb⟩
          have H5 := Lib.hid (H4.out.trans (hb.mono H4.out.size))
          clear hb
          go_wp2_with fail
          refine (alive_any _).mono ?_
          rintro e w99 ⟨rfl, hb⟩
          have HB := Lib.hid (H5.out.trans (hb.mono H5.out.size))
          clear hb
          go_wp2
          exact HR.out _ _ ⟨rfl, HB.out⟩
        · rw [show grownB (k : Int) old l.length (rootL l) path = false by simpa using hg] at cG
          generalize rootL l = yl at *
          clear h hw hl hp f1 f2 hcap hT w1' hg
          go_enter Try.func8, Try.ntmps8
          go_wp2_with fail
          refine HF.out.mono ?_
          rintro e w1 ⟨rfl, hw⟩
          rw [hw]
          clear hw
          go_wp2_with fail
          refine HG.out.mono ?_
          rintro e w1 ⟨rfl, hw⟩
          rw [hw]
          clear hw
          go_wp2_with fail
          refine cC.out.mono ?_
          rintro e w2 ⟨rfl, hb⟩
          have H2 := Lib.hid hb
          clear hb
          go_wp2_with fail
          refine (cL.out _ H2.out).mono ?_
          rintro e w3 ⟨rfl, hb⟩
          have H3 := Lib.hid (H2.out.trans (hb.mono H2.out.size))
          clear hb
          go_wp2_with fail
          refine (cG.out _ H3.out).mono ?_
          rintro e w4 ⟨rfl, hb⟩
          have H4 := Lib.hid (H3.out.trans (hb.mono H3.out.size))
          clear hb
          go_wp2_with fail
          refine (alive_any _).mono ?_
          rintro e w99 ⟨rfl, hb⟩
          have HB := Lib.hid (H4.out.trans (hb.mono H4.out.size))
          clear hb
          go_wp2
          exact HR.out _ _ ⟨rfl, HB.out⟩
  · rw [show rootV l = ⟨#[]⟩ by rw [rootV, if_neg hw], show wholeE l = 2 by rw [wholeE, if_neg hw]] at cL
    clear h hw hl hp f1 f2 hcap
    go_enter Try.func8, Try.ntmps8
    go_wp2_with fail
    refine HF.out.mono ?_
    rintro e w1 ⟨rfl, hw⟩
    rw [hw]
    clear hw
    go_wp2_with fail
    refine HG.out.mono ?_
    rintro e w1 ⟨rfl, hw⟩
    rw [hw]
    clear hw
    go_wp2_with fail
    refine cC.out.mono ?_
    rintro e w2 ⟨rfl, hb⟩
    have H2 := Lib.hid hb
    clear hb
    go_wp2_with fail
    refine (cL.out _ H2.out).mono ?_
    rintro e w3 ⟨rfl, hb⟩
    have H3 := Lib.hid (H2.out.trans (hb.mono H2.out.size))
    clear hb
    go_wp2_with fail
    refine (alive_any _).mono ?_
    rintro e w99 ⟨rfl, hb⟩
    have HB := Lib.hid (H3.out.trans (hb.mono H3.out.size))
    clear hb
    go_wp2
    exact HR.out _ _ ⟨rfl, HB.out⟩
set_option maxRecDepth 100000 in
set_option maxHeartbeats 8000000 in
theorem sound_yes (lv pv : Value) (l path : List ByteArray) (m : Int) (old : ByteArray) (w : World) (hl : Rd strE w lv l) (hp : Rd strE w pv path) (f1 : l.length ≤ 70 ∧ bytesN l ≤ 5000) (f2 : path.length ≤ 70 ∧ bytesN path ≤ 5000) (h : clashOK l m old path) :
    Calls Try.prog 8 #[lv, .int .i64 m, .string old, pv] w fun e w' => e = .returned (.bool true) ∧ Below w.heap.size w w' := by
  refine calls_by fun R HR => ?_
  have HF := Lib.hid (few_any l lv w hl)
  have HG := Lib.hid (few_any path pv w hp)
  rw [decide_eq_true f1] at HF
  rw [decide_eq_true f2] at HG
  have cL := Lib.hid (fun (w2 : World) (h : Below w.heap.size w w2) => root_any lv l w2 (hl.below h) (by omega))
  have cC := Lib.hid (clash_yes lv pv l path m old w hl hp (by omega) (by omega) h)
  have HRd := Lib.hid (And.intro hl hp)
  obtain ⟨hw, h1, h2, ho, hg⟩ := h
  obtain ⟨k, hk⟩ : ∃ k : Nat, m = k := ⟨m.toNat, by omega⟩
  subst hk
  have hww := whole_wide hw
  rw [show rootV l = rootL l by rw [rootV, if_pos hw], show wholeE l = 0 by rw [wholeE, if_pos hw]] at cL
  have hg2 := hg
  rw [grownB, if_neg (by omega), Bool.and_eq_true, toldB, Bool.and_eq_true, decide_eq_true_iff, decide_eq_true_iff] at hg2
  simp only [Int.toNat_natCast] at hg2 cC
  obtain ⟨⟨⟨-, -, -, hold, hlen⟩, hpw⟩, hst, hrt⟩ := hg2
  have hpww := whole_wide hpw
  obtain ⟨p, q, r, s, hcl, hne, hsum, zp, zq, zr, zs⟩ := clash_tells l.length l k true old path rfl (by omega) (by omega) hold hpww hlen hww hrt (by rw [hst]; exact ho)
  rw [hcl] at cC
  have cA := Lib.hid (fun w => fclash_sum p q w zp zq)
  have cB := Lib.hid (fun w => fclash_sum r s w zr zs)
  rw [← hsum] at cB
  generalize insideS p q = t1 at *
  generalize insideS r s = t2 at *
  generalize nodeS p q = t3 at *
  rw [show clashV (some (t1, t2)) = .tuple #[.string t1, .string t2, .bool true] from rfl] at cC
  obtain ⟨a, cap, rfl, hcap, -⟩ := hl.shape
  obtain ⟨pa, pcap, rfl, -⟩ := hp.shape
  obtain ⟨b, o, rfl, hb1, -⟩ := hl.str 0 (by omega)
  have hT := hl.take (k := k) (by omega) cap (by omega)
  have w1' : wholeL (l.take k) = true := wide_whole fun s hs => hww s (List.mem_of_mem_take hs)
  have cT := Lib.hid (fun (w2 : World) (h : Below w.heap.size w w2) => root_any _ (l.take k) w2 (hT.below h) (by rw [List.length_take]; omega))
  rw [show rootV (l.take k) = rootL (l.take k) by rw [rootV, if_pos w1'], show wholeE (l.take k) = 0 by rw [wholeE, if_pos w1']] at cT
  have cG := Lib.hid (fun (w2 : World) (h : Below w.heap.size w w2) => fgrown_any (k : Int) l.length old (rootL l) _ path w2 (hp.below h) (by omega))
  rw [hg] at cG
  have hk1 : (1 : Int) ≤ (k : Int) := h1
  have hk2 : (k : Int) ≤ (cap : Int) := by omega
  have hk0 : (0 : Int) ≤ (k : Int) := by omega
  have hkl : ¬ l.length < k := by omega
  have hno := text_ne (show old ≠ rootL (l.take k) from ho)
  have hnt : (t1.toList == t2.toList) = false := text_ne hne
  generalize rootL (l.take k) = y1 at *
  generalize rootL l = yl at *
  clear hw h1 h2 ho hg hww hold hlen hpw hst hrt hpww hcl hne hsum zp zq zr zs hl hp hcap hT w1' f1 f2
  go_enter Try.func8, Try.ntmps8
  go_wp2_with fail
  refine HF.out.mono ?_
  rintro e w1 ⟨rfl, hw⟩
  rw [hw]
  clear hw
  go_wp2_with fail
  refine HG.out.mono ?_
  rintro e w1 ⟨rfl, hw⟩
  rw [hw]
  clear hw
  go_wp2_with fail
  refine cC.out.mono ?_
  rintro e w2 ⟨rfl, hb⟩
  have H2 := Lib.hid hb
  clear hb
  go_wp2_with fail
  refine (cL.out _ H2.out).mono ?_
  rintro e w3 ⟨rfl, hb⟩
  have H3 := Lib.hid (H2.out.trans (hb.mono H2.out.size))
  clear hb
  go_wp2_with fail
  refine (cG.out _ H3.out).mono ?_
  rintro e w4 ⟨rfl, hb⟩
  have H4 := Lib.hid (H3.out.trans (hb.mono H3.out.size))
  clear hb
  go_wp2_with fail
  refine (cT.out _ H4.out).mono ?_
  rintro e w5 ⟨rfl, hb⟩
  have H5 := Lib.hid (H4.out.trans (hb.mono H4.out.size))
  clear hb
  go_wp2_with fail
  refine (cA.out _).mono ?_
  rintro e w6 ⟨rfl, hb⟩
  have H6 := Lib.hid (H5.out.trans (hb.mono H5.out.size))
  clear hb
  go_wp2_with fail
  refine (cB.out _).mono ?_
  rintro e w7 ⟨rfl, hb⟩
  have H7 := Lib.hid (H6.out.trans (hb.mono H6.out.size))
  clear hb
  go_wp2_with fail
  refine (alive_any _).mono ?_
  rintro e w99 ⟨rfl, hb⟩
  have HB := Lib.hid (H7.out.trans (hb.mono H7.out.size))
  clear hb
  go_wp2
  exact HR.out _ _ ⟨rfl, HB.out⟩
theorem law_sound (lv : Value) (l : List ByteArray) (m : Int) (old : ByteArray) (pv : Value) (path : List ByteArray) (w : World) (hl : Rd strE w lv l) (hp : Rd strE w pv path) :
    Calls Try.prog 8 #[lv, .int .i64 m, .string old, pv] w fun e w' => e = .returned (.bool true) ∧ Below w.heap.size w w' := by
  by_cases h : (l.length ≤ 70 ∧ bytesN l ≤ 5000) ∧ (path.length ≤ 70 ∧ bytesN path ≤ 5000)
  · by_cases h2 : clashOK l m old path
    · exact sound_yes lv pv l path m old w hl hp h.1 h.2 h2
    · exact sound_no lv pv l path m old w hl hp h.1 h.2 h2
  · exact sound_many lv pv l path m old w hl hp h
end Go.Proofs.Ytpdeicgjmjoglaa
