/- The law FrontierGrows: what its walk gives. -/
import Derived.Test.YtpdeicgjmjoglaaM7
import Derived.Test.YtpdeicgjmjoglaaM8
namespace Go.Proofs.Ytpdeicgjmjoglaa
open Go.RowKit Ks
set_option linter.unusedVariables false
set_option maxRecDepth 100000 in
set_option maxHeartbeats 8000000 in
theorem grows_many (lv pv : Value) (l path : List ByteArray) (m n : Int) (old now : ByteArray) (w : World) (hl : Rd strE w lv l) (hp : Rd strE w pv path) (hf : ¬ ((l.length ≤ 70 ∧ bytesN l ≤ 5000) ∧ (path.length ≤ 70 ∧ bytesN path ≤ 5000))) :
    Calls Try.prog 6 #[lv, .int .i64 m, .int .i64 n, .string old, .string now, pv] w fun e w' => e = .returned (.bool true) ∧ Below w.heap.size w w' := by
  refine calls_by fun R HR => ?_
  have HF := Lib.hid (few_any l lv w hl)
  have HG := Lib.hid (few_any path pv w hp)
  obtain ⟨a, cap, rfl, -⟩ := hl.shape
  obtain ⟨pa, pcap, rfl, -⟩ := hp.shape
  by_cases h1 : l.length ≤ 70 ∧ bytesN l ≤ 5000
  · have h2 : ¬ (path.length ≤ 70 ∧ bytesN path ≤ 5000) := fun h2 => hf ⟨h1, h2⟩
    rw [decide_eq_true h1] at HF
    rw [decide_eq_false h2] at HG
    clear h1 h2 hf hl hp
    go_enter Try.func6, Try.ntmps6
    go_wp2_with fail
    refine HF.out.mono ?_
    rintro e w1 ⟨rfl, hw⟩
    rw [hw]
    clear hw
    go_wp2_with fail
    refine HG.out.mono ?_
    rintro e w1 ⟨rfl, hw⟩
    rw [hw]
    clear hw
    go_wp2_with fail
    refine (alive_any _).mono ?_
    rintro e w99 ⟨rfl, hb⟩
    have HB := Lib.hid (hb)
    clear hb
    go_wp2
    exact HR.out _ _ ⟨rfl, HB.out⟩
  · rw [decide_eq_false h1] at HF
    clear h1 hf hl hp
    go_enter Try.func6, Try.ntmps6
    go_wp2_with fail
    refine HF.out.mono ?_
    rintro e w1 ⟨rfl, hw⟩
    rw [hw]
    clear hw
    go_wp2_with fail
    refine (alive_any _).mono ?_
    rintro e w99 ⟨rfl, hb⟩
    have HB := Lib.hid (hb)
    clear hb
    go_wp2
    exact HR.out _ _ ⟨rfl, HB.out⟩
set_option maxRecDepth 100000 in
set_option maxHeartbeats 8000000 in
theorem grows_few (lv pv : Value) (l path : List ByteArray) (m n : Int) (old now : ByteArray) (w : World) (hl : Rd strE w lv l) (hp : Rd strE w pv path) (f1 : l.length ≤ 70 ∧ bytesN l ≤ 5000) (f2 : path.length ≤ 70 ∧ bytesN path ≤ 5000) :
    Calls Try.prog 6 #[lv, .int .i64 m, .int .i64 n, .string old, .string now, pv] w fun e w' => e = .returned (.bool true) ∧ Below w.heap.size w w' := by
  refine calls_by fun R HR => ?_
  have HF := Lib.hid (few_any l lv w hl)
  have HG := Lib.hid (few_any path pv w hp)
  rw [decide_eq_true f1] at HF
  rw [decide_eq_true f2] at HG
  have HL := Lib.hid (And.intro hl (And.intro hp (And.intro f1.1 f2.1)))
  have cGrow := Lib.hid (fgrow_any lv l m w hl (by omega))
  have cG1 := Lib.hid (fun (w2 : World) (h : Below w.heap.size w w2) => fgrown_any m n old now pv path w2 (hp.below h) (by omega))
  have cG2 := Lib.hid (fun (w2 : World) (h : Below w.heap.size w w2) => rgrown_any m n old now pv path w2 (hp.below h) (by omega))
  have cW := Lib.hid (fun (w2 : World) (h : Below w.heap.size w w2) => rwhole_any lv l w2 (hl.below h) (by omega))
  have hgl := grow_le l.length l m.toNat true rfl
  have HGL := Lib.hid (show (growV l m).length ≤ 1000 by unfold growV; split <;> first | omega | simp)
  obtain ⟨a, cap, rfl, hcap, -⟩ := hl.shape
  obtain ⟨pa, pcap, rfl, -⟩ := hp.shape
  generalize grownB m old n now path = gb at *
  have hbb : (gb != gb) = false := by cases gb <;> rfl
  by_cases hw : wholeL l = true
  · rw [hw] at cW
    by_cases h0 : m < 0
    · have HZ := Lib.hid (show growV l m = [] ∧ growE l m = 2 from ⟨by rw [growV, if_neg (by omega)], by rw [growE, if_neg (by omega)]⟩)
      clear hl hp f1 f2 hgl hcap hw
      go_enter Try.func6, Try.ntmps6
      go_wp2_with fail
      refine HF.out.mono ?_
      rintro e w1 ⟨rfl, hw⟩
      rw [hw]
      clear hw
      go_wp2_with fail
      refine HG.out.mono ?_
      rintro e w1 ⟨rfl, hw⟩
      rw [hw]
      clear hw
      go_wp2_with fail
      refine cGrow.out.mono ?_
      rintro e w2 ⟨gv, rfl, hrow, hb⟩
      rw [HZ.out.1] at hrow
      rw [HZ.out.2]
      have H2 := Lib.hid (And.intro hb hrow.rd)
      obtain ⟨ga, gc, rfl, -⟩ := hrow.shape
      clear hb hrow
      go_wp2_with fail
      refine (cG1.out _ H2.out.1).mono ?_
      rintro e w3 ⟨rfl, hb⟩
      have H3 := Lib.hid (And.intro (H2.out.1.trans (hb.mono H2.out.1.size)) (H2.out.2.below hb))
      clear hb
      go_wp2_with fail
      refine (cG2.out _ H3.out.1).mono ?_
      rintro e w4 ⟨rfl, hb⟩
      have H4 := Lib.hid (And.intro (H3.out.1.trans (hb.mono H3.out.1.size)) (H3.out.2.below hb))
      clear hb
      go_wp2_with fail
      refine (cW.out _ H4.out.1).mono ?_
      rintro e w5 ⟨rfl, hw⟩
      rw [hw]
      clear hw
      go_wp2_with fail
      refine (alive_any _).mono ?_
      rintro e w99 ⟨rfl, hb⟩
      have HB := Lib.hid (H4.out.1.trans (hb.mono H4.out.1.size))
      clear hb
      go_wp2
      exact HR.out _ _ ⟨rfl, HB.out⟩
    · by_cases h1 : (l.length : Int) < m
      · have HZ := Lib.hid (show growV l m = [] ∧ growE l m = 2 from ⟨by rw [growV, if_neg (by omega)], by rw [growE, if_neg (by omega)]⟩)
        clear hl hp f1 f2 hgl hcap hw
        go_enter Try.func6, Try.ntmps6
        go_wp2_with fail
        refine HF.out.mono ?_
        rintro e w1 ⟨rfl, hw⟩
        rw [hw]
        clear hw
        go_wp2_with fail
        refine HG.out.mono ?_
        rintro e w1 ⟨rfl, hw⟩
        rw [hw]
        clear hw
        go_wp2_with fail
        refine cGrow.out.mono ?_
        rintro e w2 ⟨gv, rfl, hrow, hb⟩
        rw [HZ.out.1] at hrow
        rw [HZ.out.2]
        have H2 := Lib.hid (And.intro hb hrow.rd)
        obtain ⟨ga, gc, rfl, -⟩ := hrow.shape
        clear hb hrow
        go_wp2_with fail
        refine (cG1.out _ H2.out.1).mono ?_
        rintro e w3 ⟨rfl, hb⟩
        have H3 := Lib.hid (And.intro (H2.out.1.trans (hb.mono H2.out.1.size)) (H2.out.2.below hb))
        clear hb
        go_wp2_with fail
        refine (cG2.out _ H3.out.1).mono ?_
        rintro e w4 ⟨rfl, hb⟩
        have H4 := Lib.hid (And.intro (H3.out.1.trans (hb.mono H3.out.1.size)) (H3.out.2.below hb))
        clear hb
        go_wp2_with fail
        refine (cW.out _ H4.out.1).mono ?_
        rintro e w5 ⟨rfl, hw⟩
        rw [hw]
        clear hw
        go_wp2_with fail
        refine (alive_any _).mono ?_
        rintro e w99 ⟨rfl, hb⟩
        have HB := Lib.hid (H4.out.1.trans (hb.mono H4.out.1.size))
        clear hb
        go_wp2
        exact HR.out _ _ ⟨rfl, HB.out⟩
      · by_cases h2 : m = 0
        · subst h2
          have HZ := Lib.hid (show growV l 0 = [] ∧ growE l 0 = 0 from ⟨by rw [growV, if_neg (by omega)], by rw [growE, if_pos ⟨hw, by omega, by omega⟩]⟩)
          clear hl hp f1 f2 hgl hcap hw
          go_enter Try.func6, Try.ntmps6
          go_wp2_with fail
          refine HF.out.mono ?_
          rintro e w1 ⟨rfl, hw⟩
          rw [hw]
          clear hw
          go_wp2_with fail
          refine HG.out.mono ?_
          rintro e w1 ⟨rfl, hw⟩
          rw [hw]
          clear hw
          go_wp2_with fail
          refine cGrow.out.mono ?_
          rintro e w2 ⟨gv, rfl, hrow, hb⟩
          rw [HZ.out.1] at hrow
          rw [HZ.out.2]
          have H2 := Lib.hid (And.intro hb hrow.rd)
          obtain ⟨ga, gc, rfl, -⟩ := hrow.shape
          clear hb hrow
          go_wp2_with fail
          refine (cG1.out _ H2.out.1).mono ?_
          rintro e w3 ⟨rfl, hb⟩
          have H3 := Lib.hid (And.intro (H2.out.1.trans (hb.mono H2.out.1.size)) (H2.out.2.below hb))
          clear hb
          go_wp2_with fail
          refine (cG2.out _ H3.out.1).mono ?_
          rintro e w4 ⟨rfl, hb⟩
          have H4 := Lib.hid (And.intro (H3.out.1.trans (hb.mono H3.out.1.size)) (H3.out.2.below hb))
          clear hb
          go_wp2_with fail
          refine (cW.out _ H4.out.1).mono ?_
          rintro e w5 ⟨rfl, hw⟩
          rw [hw]
          clear hw
          go_wp2_with fail
          refine (alive_any _).mono ?_
          rintro e w99 ⟨rfl, hb⟩
          have HB := Lib.hid (H4.out.1.trans (hb.mono H4.out.1.size))
          clear hb
          go_wp2
          exact HR.out _ _ ⟨rfl, HB.out⟩
        · obtain ⟨k, hk⟩ : ∃ k : Nat, m = k := ⟨m.toNat, by omega⟩
          subst hk
          have HZ := Lib.hid (show growV l k = growL l k true ∧ growE l k = 0 from ⟨by rw [growV, if_pos ⟨hw, by omega, by omega⟩]; rfl, by rw [growE, if_pos ⟨hw, by omega, by omega⟩]⟩)
          have cRG := Lib.hid (fun (w2 : World) (h : Below w.heap.size w w2) => rgrow_any l.length l k true _ w2 rfl (by omega) (by omega) (by omega) (hl.below h) hw)
          have hmi : ((k : Int) == 0) = false := by simp; omega
          have hkl : k ≤ l.length := by omega
          rw [HZ.out.1] at HGL
          clear hl hp f1 f2 hw h2 hgl hcap
          go_enter Try.func6, Try.ntmps6
          go_wp2_with fail
          refine HF.out.mono ?_
          rintro e w1 ⟨rfl, hw⟩
          rw [hw]
          clear hw
          go_wp2_with fail
          refine HG.out.mono ?_
          rintro e w1 ⟨rfl, hw⟩
          rw [hw]
          clear hw
          go_wp2_with fail
          refine cGrow.out.mono ?_
          rintro e w2 ⟨gv, rfl, hrow, hb⟩
          rw [HZ.out.1] at hrow
          rw [HZ.out.2]
          have H2 := Lib.hid (And.intro hb hrow.rd)
          obtain ⟨ga, gc, rfl, -⟩ := hrow.shape
          clear hb hrow
          go_wp2_with fail
          refine (cG1.out _ H2.out.1).mono ?_
          rintro e w3 ⟨rfl, hb⟩
          have H3 := Lib.hid (And.intro (H2.out.1.trans (hb.mono H2.out.1.size)) (H2.out.2.below hb))
          clear hb
          go_wp2_with fail
          refine (cG2.out _ H3.out.1).mono ?_
          rintro e w4 ⟨rfl, hb⟩
          have H4 := Lib.hid (And.intro (H3.out.1.trans (hb.mono H3.out.1.size)) (H3.out.2.below hb))
          clear hb
          go_wp2_with fail
          refine (cW.out _ H4.out.1).mono ?_
          rintro e w5 ⟨rfl, hw⟩
          rw [hw]
          clear hw
          go_wp2_with fail
          refine (cRG.out _ H4.out.1).mono ?_
          rintro e w6 ⟨qv, rfl, hq, hb⟩
          have H6 := Lib.hid (And.intro (H4.out.1.trans (hb.mono H4.out.1.size)) (And.intro (H4.out.2.below hb) hq.rd))
          clear hb hq
          go_wp2_with fail
          refine (texts_any _ _ (growL l k true) (growL l k true) _ H6.out.2.1 H6.out.2.2 (by have := HGL.out; simp [maxLen]; omega) (by have := HGL.out; simp [maxLen]; omega)).mono ?_
          rintro e w7 ⟨bb, rfl, hbt, hb⟩
          obtain rfl : bb = true := hbt.2 rfl
          have H7 := Lib.hid (H6.out.1.trans (hb.mono H6.out.1.size))
          clear hbt hb
          go_wp2_with fail
          refine (alive_any _).mono ?_
          rintro e w99 ⟨rfl, hb⟩
          have HB := Lib.hid (H7.out.trans (hb.mono H7.out.size))
          clear hb
          go_wp2
          exact HR.out _ _ ⟨rfl, HB.out⟩
  · rw [show wholeL l = false by simpa using hw] at cW
    have HZ := Lib.hid (show growV l m = [] ∧ growE l m = 2 from ⟨by rw [growV, if_neg fun h => hw h.1], by rw [growE, if_neg fun h => hw h.1]⟩)
    clear hl hp f1 f2 hgl hcap hw
    go_enter Try.func6, Try.ntmps6
    go_wp2_with fail
    refine HF.out.mono ?_
    rintro e w1 ⟨rfl, hw⟩
    rw [hw]
    clear hw
    go_wp2_with fail
    refine HG.out.mono ?_
    rintro e w1 ⟨rfl, hw⟩
    rw [hw]
    clear hw
    go_wp2_with fail
    refine cGrow.out.mono ?_
    rintro e w2 ⟨gv, rfl, hrow, hb⟩
    rw [HZ.out.1] at hrow
    rw [HZ.out.2]
    have H2 := Lib.hid (And.intro hb hrow.rd)
    obtain ⟨ga, gc, rfl, -⟩ := hrow.shape
    clear hb hrow
    go_wp2_with fail
    refine (cG1.out _ H2.out.1).mono ?_
    rintro e w3 ⟨rfl, hb⟩
    have H3 := Lib.hid (And.intro (H2.out.1.trans (hb.mono H2.out.1.size)) (H2.out.2.below hb))
    clear hb
    go_wp2_with fail
    refine (cG2.out _ H3.out.1).mono ?_
    rintro e w4 ⟨rfl, hb⟩
    have H4 := Lib.hid (And.intro (H3.out.1.trans (hb.mono H3.out.1.size)) (H3.out.2.below hb))
    clear hb
    go_wp2_with fail
    refine (cW.out _ H4.out.1).mono ?_
    rintro e w5 ⟨rfl, hw⟩
    rw [hw]
    clear hw
    go_wp2_with fail
    refine (alive_any _).mono ?_
    rintro e w99 ⟨rfl, hb⟩
    have HB := Lib.hid (H4.out.1.trans (hb.mono H4.out.1.size))
    clear hb
    go_wp2
    exact HR.out _ _ ⟨rfl, HB.out⟩
theorem law_grows (lv : Value) (l : List ByteArray) (m n : Int) (old now : ByteArray) (pv : Value) (path : List ByteArray) (w : World) (hl : Rd strE w lv l) (hp : Rd strE w pv path) :
    Calls Try.prog 6 #[lv, .int .i64 m, .int .i64 n, .string old, .string now, pv] w fun e w' => e = .returned (.bool true) ∧ Below w.heap.size w w' := by
  by_cases h : (l.length ≤ 70 ∧ bytesN l ≤ 5000) ∧ (path.length ≤ 70 ∧ bytesN path ≤ 5000)
  · exact grows_few lv pv l path m n old now w hl hp h.1 h.2
  · exact grows_many lv pv l path m n old now w hl hp h
end Go.Proofs.Ytpdeicgjmjoglaa
