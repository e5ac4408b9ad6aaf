/- The law DiskPlays: what its walk gives. -/
import Derived.Test.YtielmlnbjliacaaDoes08b
import Derived.Test.YtielmlnbjliacaaFrameAct08
import Derived.Test.YtielmlnbjliacaaDiskNew
import Derived.Test.YtielmlnbjliacaaRDiskNew
namespace Go.Proofs.Ytielmlnbjliacaa
open Go.RowKit Ks
set_option linter.unusedVariables false
variable {n m : Nat} {vb vc ub uc : Value} {s t : DS}
/-- both disks the same, behind a world, and apart from what was there -/
def Alike (w0 w : World) (n : Nat) (vb vc : Value) (m : Nat) (ub uc : Value) (s : DS) : Prop :=
  Both w n vb vc s m ub uc s ∧ Below w0.heap.size w0 w ∧ ∀ k, FG n vb vc m ub uc k → w0.heap.size ≤ k
/-- an act of the law's row, done by both -/
theorem does_row {w0 w : World} (x : ActC) (hG : ActG w0 x) (h : Alike w0 w n vb vc m ub uc s) :
    ∃ keep : List Int, Calls Try.prog 12 #[.pointer (some ⟨n, 0, none⟩), .pointer (some ⟨m, 0, none⟩), .agg #[.int .i64 x.1, .int .i64 x.2.1, .int .i64 x.2.2.1, .string x.2.2.2.1, .bool x.2.2.2.2.1, .slice x.2.2.2.2.2.1 x.2.2.2.2.2.2.1 x.2.2.2.2.2.2.2]] w fun e w' =>
      e = .returned (.bool true) ∧ ∃ vb vc ub uc s', Alike w0 w' n vb vc m ub uc s' := by
  obtain ⟨kd, ia, ib, tx, raw, ka, kn, kc⟩ := x
  obtain ⟨h1, h2, keep, hk, hkl⟩ := hG
  obtain ⟨g1, g2, g3⟩ := h
  unfold maxLen at hkl
  refine ⟨keep, (does_any ⟨kd, ia, ib, tx, raw, keep⟩ ka kn kc w g1 (hk.below g2) (by show keep.length ≤ _; omega) h1 ?_).mono ?_⟩
  · intro h0 b o e hF
    subst e
    have h0' : 0 < keep.length := List.length_pos_iff.2 h0
    obtain ⟨b', o', e, hb, _⟩ := RdI.cell hk 0 h0'
    cases e
    have := g3 b (Or.inr hF)
    omega
  · rintro e w' ⟨r, rfl, hr, vb1, vc1, ub1, uc1, q1, q2⟩
    rw [hr rfl]
    exact ⟨rfl, vb1, vc1, ub1, uc1, _, q1, g2.trans (q2.below g3 g2.size), q2.low g3 g2.size⟩

set_option maxHeartbeats 4000000 in
set_option maxRecDepth 100000 in
theorem law_dplays (N : Int) (lv : Value) (l : List ActC) (w : World) (hl : Rd acE w lv l) (hlen : l.length ≤ maxLen) (hG : ∀ x ∈ l, ActG w x) :
    Calls Try.prog 3 #[.int .i64 N, lv] w fun e w' => e = .returned (.bool true) ∧ Below w.heap.size w w' := by
  refine calls_by fun R HR => ?_
  have HL := Lib.hid (And.intro hl hG)
  have HF := Lib.hid (lfew_any lv l w hl hlen)
  obtain ⟨la, lc, hlv, _⟩ := hl.shape
  subst hlv
  clear hl hlen hG
  by_cases hN : 60 < N ∧ N ≤ 1024
  · obtain ⟨h1, h2⟩ := hN
    go_enter Try.func3, Try.ntmps3
    go_wp2_with fail
    refine (alive_any _).mono ?_
    rintro e w1 ⟨rfl, hb⟩
    go_wp2
    exact HR.out _ _ ⟨rfl, hb⟩
  · have hN' : (decide (60 < N) && decide (N ≤ 1024)) = false := by rw [Bool.and_eq_false_iff, decide_eq_false_iff_not, decide_eq_false_iff_not]; omega
    have key : ∀ Q : Prop, (60 < N → ¬ N ≤ 1024 → Q) → (¬ 60 < N → Q) → Q := fun Q h1 h2 => by by_cases h : 60 < N; exact h1 h fun h3 => hN ⟨h, h3⟩; exact h2 h
    have main : 60 < N ∨ N ≤ 60 := by omega
    refine key _ (fun h1 h2 => ?_) (fun h1 => ?_)
    all_goals
      clear key main hN hN'
      go_enter Try.func3, Try.ntmps3
      go_wp2_with fail
      refine HF.out.mono ?_
      rintro e w1 ⟨b, rfl, hfew, hb⟩
      have H1 := Lib.hid (And.intro hb hfew)
      clear hfew hb
      cases b
      · go_wp2_with fail
        refine (alive_any _).mono ?_
        rintro e w2 ⟨rfl, hb2⟩
        have H2 := Lib.hid (H1.out.1.trans (hb2.mono H1.out.1.size))
        clear hb2
        go_wp2
        exact HR.out _ _ ⟨rfl, H2.out⟩
      · by_cases hbad : N < 8 ∨ 1024 < N
        · have HBAD := Lib.hid hbad
          clear hbad
          go_wp2_with fail
          refine (dnew_err N _ HBAD.out).mono ?_
          rintro e w2 ⟨rfl, rfl⟩
          go_wp2_with fail
          refine (rnew_no N _ HBAD.out).mono ?_
          rintro e w3 ⟨rfl, rfl⟩
          go_wp2_with fail
          refine (alive_any _).mono ?_
          rintro e w4 ⟨rfl, hb4⟩
          have H2 := Lib.hid (H1.out.1.trans (hb4.mono H1.out.1.size))
          clear hb4
          go_wp2
          exact HR.out _ _ ⟨rfl, H2.out⟩
        · by_cases hc : 60 < N
          · exfalso; omega
          obtain ⟨M, rfl⟩ : ∃ M : Nat, N = (M : Int) := Int.eq_ofNat_of_zero_le (by omega)
          have HM := Lib.hid (And.intro (show 8 ≤ M by omega) (show M ≤ 1024 by omega))
          have hl60 := H1.out.2 rfl
          clear hbad h1 hc
          go_wp2_with fail
          refine (dnew_any M _ HM.out.1 HM.out.2).mono ?_
          rintro e w2 ⟨n, vb, rfl, hd2, hb2, hf2⟩
          have H2 := Lib.hid (And.intro hd2 (And.intro hb2 hf2))
          clear hd2 hb2 hf2
          go_wp2_with fail
          refine (rnew_any M _ HM.out.1 HM.out.2).mono ?_
          rintro e w3 ⟨m, ub, rfl, hd3, hb3, hf3⟩
          have hB : Alike w w3 n vb (.slice none 0 0) m ub (.slice none 0 0) (newD M) := by
            refine ⟨⟨H2.out.1.below hb3, hd3, fun k h1 h2 => ?_⟩, H1.out.1.trans ((H2.out.2.1.trans (hb3.mono H2.out.2.1.size)).mono H1.out.1.size), fun k hk => ?_⟩
            · have := H2.out.1.lt k h1; have := hf3 k h2; omega
            · rcases hk with hk | hk
              · exact Nat.le_trans H1.out.1.size (H2.out.2.2 k hk)
              · exact Nat.le_trans H1.out.1.size (Nat.le_trans H2.out.2.1.size (hf3 k hk))
          have H3 := Lib.hid hB
          clear hd3 hb3 hf3 hB
          go_wp2_with fail
          go_loopg [48] l.length (fun g i wr => ∃ (k : Nat) (vb vc ub uc : Value) (s : DS), k + g = l.length ∧ i = .int .i64 k ∧ Hid (Alike w wr n vb vc m ub uc s))
          case atStart => exact ⟨0, _, _, _, _, _, by omega, rfl, H3⟩
          case round =>
            obtain ⟨k, vb, vc, ub, uc, s, hk, rfl, hA⟩ := hrel
            by_cases hlt : k < l.length
            · obtain ⟨x, hx⟩ : ∃ x, l[k]? = some x := ⟨_, List.getElem?_eq_getElem hlt⟩
              obtain ⟨b, o, rfl, hb, c0, c1, c2, c3, c4, c5⟩ := (HL.out.1.below hA.out.2.1).actAt k x hx
              have hAW : ∀ ob, Alike w (wr.alloc ob) n vb vc m ub uc s := fun ob => ⟨hA.out.1.below (alloc_below wr ob), hA.out.2.1.trans ((alloc_below wr ob).mono hA.out.2.1.size), hA.out.2.2⟩
              have HA := Lib.hid hAW
              have HX := Lib.hid (HL.out.2 x (List.mem_of_getElem? hx))
              obtain ⟨kd, ia, ib, tx, raw, ka, kn, kc⟩ := x
              simp only [hdrV] at c0 c1 c2 c3 c4 c5
              have hki : (k : Int) < (l.length : Int) := by omega
              clear hx hAW
              go_wp2_with fail
              refine (does_row (kd, ia, ib, tx, raw, ka, kn, kc) HX.out (HA.out _)).choose_spec.mono ?_
              rintro e w5 ⟨rfl, vb5, vc5, ub5, uc5, s5, h5⟩
              have H5 := Lib.hid h5
              clear h5 c0 c1 c2 c3 c4 c5
              go_wp2_with fail
              go_roundg (gk - 1)
              case rel => exact ⟨k + 1, _, _, _, _, _, by omega, by go_num, H5⟩
              case measure => omega
            · obtain rfl : k = l.length := by omega
              go_wp2_with fail
              refine (does_any ⟨8, 0, 0, ⟨#[]⟩, false, []⟩ none 0 0 _ hA.out.1 (RdI.nil _) (by decide) (by decide) (fun h => absurd rfl h)).mono ?_
              rintro e w5 ⟨r, rfl, hr, vb1, vc1, ub1, uc1, q1, q2⟩
              obtain rfl := hr rfl
              have H5 := Lib.hid (hA.out.2.1.trans (q2.below hA.out.2.2 hA.out.2.1.size))
              clear hr q1 q2
              go_wp2_with fail
              refine (alive_any _).mono ?_
              rintro e w6 ⟨rfl, hb6⟩
              have H6 := Lib.hid (H5.out.trans (hb6.mono H5.out.size))
              clear hb6
              go_wp2
              exact HR.out _ _ ⟨rfl, H6.out⟩
end Go.Proofs.Ytielmlnbjliacaa
