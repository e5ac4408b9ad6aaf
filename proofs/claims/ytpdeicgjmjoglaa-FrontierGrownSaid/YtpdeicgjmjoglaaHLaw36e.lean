/- The law FrontierGrown: what its walk gives. -/
import Derived.Test.YtpdeicgjmjoglaaM7
import Derived.Test.YtpdeicgjmjoglaaM8
namespace Ks
open Go Go.RowKit
theorem grown_own {l : List ByteArray} {m : Nat} (hw : wholeL l = true) (hm : m ≤ l.length) (hl : l.length ≤ 1000000) : grownB (m : Int) (rootL (l.take m)) (l.length : Int) (rootL l) (growV l m) = true := by
  have hww : ∀ s ∈ l, s.size = 32 := by simpa [wholeL] using hw
  have hsz : (rootL l).size = 32 := by
    by_cases h : l = []
    · subst h; rw [root_nil]; exact sha1_size _
    · exact root_wide _ l rfl (List.length_pos_iff.2 h) hww
  by_cases h0 : m = 0
  · subst h0
    rw [grownB, if_pos (show ((0 : Nat) : Int) = 0 from rfl), List.take_zero, root_nil, growV, if_neg (by omega)]
    exact decide_eq_true ⟨by omega, by omega, hsz, rfl, rfl⟩
  · have e : growV l (m : Int) = growL l m true := by rw [growV, if_pos ⟨hw, by omega, by omega⟩]; rfl
    have hold : (rootL (l.take m)).size = 32 := root_wide _ (l.take m) rfl (by rw [List.length_take]; omega) fun s hs => hww s (List.mem_of_mem_take hs)
    have hld := grow_leads l.length l m true (rootL (l.take m)) rfl (by omega) hm (fun _ => rfl)
    have hgw : wholeL (growL l m true) = true := by
      simp only [wholeL, List.all_eq_true, beq_iff_eq]
      exact grow_wide l.length l m true rfl (by omega) hm hww
    rw [e, grownB_some (by omega) hm (by omega) hold hgw, decide_eq_true (grow_len l.length l m true rfl (by omega) hm), Bool.true_and]
    exact decide_eq_true ⟨hld.2, hld.1⟩
end Ks
namespace Go.Proofs.Ytpdeicgjmjoglaa
open Go.RowKit Ks
set_option linter.unusedVariables false
set_option maxRecDepth 100000 in
set_option maxHeartbeats 8000000 in
theorem law_grown (lv : Value) (l : List ByteArray) (m : Int) (w : World) (hl : Rd strE w lv l) :
    Calls Try.prog 7 #[lv, .int .i64 m] w fun e w' => e = .returned (.bool true) ∧ Below w.heap.size w w' := by
  refine calls_by fun R HR => ?_
  have HF := Lib.hid (few_any l lv w hl)
  by_cases h1 : l.length ≤ 70 ∧ bytesN l ≤ 5000
  · rw [decide_eq_true h1] at HF
    have cGrow := Lib.hid (fgrow_any lv l m w hl (by omega))
    have HL := Lib.hid (And.intro hl h1.1)
    obtain ⟨a, cap, rfl, hcap, hn⟩ := hl.shape
    by_cases hok : wholeL l = true ∧ 0 ≤ m ∧ m ≤ l.length
    · obtain ⟨k, hk⟩ : ∃ k : Nat, m = k := ⟨m.toNat, by omega⟩
      subst hk
      have HE := Lib.hid (show growE l k = 0 by rw [growE, if_pos hok])
      have hkl : k ≤ l.length := by omega
      have HG := Lib.hid (grown_own hok.1 hkl (by omega))
      have wT : wholeL (l.take k) = true := by
        have h := hok.1
        simp only [wholeL, List.all_eq_true] at h ⊢
        exact fun s hs => h s (List.mem_of_mem_take hs)
      have hT : Rd strE w (.slice a k cap) (l.take k) := by
        by_cases h0 : l = []
        · subst h0
          have : k = 0 := by simpa using hkl
          subst this
          exact ⟨a, cap, rfl, Nat.zero_le _, hn, fun i x hx => by simp at hx⟩
        · obtain ⟨b, o, rfl, -, -⟩ := hl.str 0 (List.length_pos_iff.2 h0)
          exact hl.take hkl cap (by omega)
      have cT := Lib.hid (fun (w2 : World) (h : Below w.heap.size w w2) => root_any _ (l.take k) w2 (hT.below h) (by rw [List.length_take]; omega))
      have cL := Lib.hid (fun (w2 : World) (h : Below w.heap.size w w2) => root_any _ l w2 (hl.below h) (by omega))
      rw [show rootV (l.take k) = rootL (l.take k) by rw [rootV, if_pos wT], show wholeE (l.take k) = 0 by rw [wholeE, if_pos wT]] at cT
      rw [show rootV l = rootL l by rw [rootV, if_pos hok.1], show wholeE l = 0 by rw [wholeE, if_pos hok.1]] at cL
      have cG := Lib.hid (fun (v : Value) (w2 : World) (h : Rd strE w2 v (growV l k)) (hq : (growV l k).length ≤ 1000) => fgrown_any (k : Int) l.length (rootL (l.take k)) (rootL l) v (growV l k) w2 h (by omega))
      rw [HG.out] at cG
      have HGL := Lib.hid (show (growV l k).length ≤ 1000 by
        have hgl := grow_le l.length l (k : Int).toNat true rfl
        unfold growV; split <;> first | omega | simp)
      have hk0 : (0 : Int) ≤ (k : Int) := by omega
      have hk1 : (k : Int) ≤ (l.length : Int) := by omega
      have hk2 : (k : Int) ≤ (cap : Int) := by omega
      generalize rootL (l.take k) = y1 at *
      generalize rootL l = y2 at *
      generalize growV l k = GV at *
      clear hl hok h1 hT wT hcap hn
      go_enter Try.func7, Try.ntmps7
      go_wp2_with fail
      refine HF.out.mono ?_
      rintro e w1 ⟨rfl, hw⟩
      rw [hw]
      clear hw
      go_wp2_with fail
      refine cGrow.out.mono ?_
      rintro e w2 ⟨gv, rfl, hrow, hb⟩
      rw [HE.out]
      have H2 := Lib.hid (And.intro hb hrow.rd)
      clear hb hrow
      go_wp2_with fail
      refine (cT.out _ H2.out.1).mono ?_
      rintro e w3 ⟨rfl, hb⟩
      have H3 := Lib.hid (And.intro (H2.out.1.trans (hb.mono H2.out.1.size)) (H2.out.2.below hb))
      clear hb
      go_wp2_with fail
      refine (cL.out _ H3.out.1).mono ?_
      rintro e w4 ⟨rfl, hb⟩
      have H4 := Lib.hid (And.intro (H3.out.1.trans (hb.mono H3.out.1.size)) (H3.out.2.below hb))
      clear hb
      go_wp2_with fail
      refine (cG.out _ _ H4.out.2 HGL.out).mono ?_
      rintro e w5 ⟨rfl, hb⟩
      have H5 := Lib.hid (H4.out.1.trans (hb.mono H4.out.1.size))
      clear hb
      go_wp2_with fail
      refine (alive_any _).mono ?_
      rintro e w99 ⟨rfl, hb⟩
      have HB := Lib.hid (H5.out.trans (hb.mono H5.out.size))
      clear hb
      go_wp2
      exact HR.out _ _ ⟨rfl, HB.out⟩
    · have HE := Lib.hid (show growE l m = 2 by rw [growE, if_neg hok])
      clear hl hok h1 hcap hn
      go_enter Try.func7, Try.ntmps7
      go_wp2_with fail
      refine HF.out.mono ?_
      rintro e w1 ⟨rfl, hw⟩
      rw [hw]
      clear hw
      go_wp2_with fail
      refine cGrow.out.mono ?_
      rintro e w2 ⟨gv, rfl, hrow, hb⟩
      rw [HE.out]
      have H2 := Lib.hid hb
      clear hb hrow
      go_wp2_with fail
      refine (alive_any _).mono ?_
      rintro e w99 ⟨rfl, hb⟩
      have HB := Lib.hid (H2.out.trans (hb.mono H2.out.size))
      clear hb
      go_wp2
      exact HR.out _ _ ⟨rfl, HB.out⟩
  · rw [decide_eq_false h1] at HF
    clear h1 hl
    go_enter Try.func7, Try.ntmps7
    go_wp2_with fail
    refine HF.out.mono ?_
    rintro e w1 ⟨rfl, hw⟩
    rw [hw]
    clear hw
    go_wp2_with fail
    refine (alive_any _).mono ?_
    rintro e w99 ⟨rfl, hb⟩
    have HB := Lib.hid (hb)
    clear hb
    go_wp2
    exact HR.out _ _ ⟨rfl, HB.out⟩
end Go.Proofs.Ytpdeicgjmjoglaa
