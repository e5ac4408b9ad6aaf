/- Trees of hashes: the levels, handed on by a function. -/
import Derived.Test.YtophfeapmmfppaaMerkleLow
import Derived.Test.YtophfeapmmfppaaRangeMoved
import Derived.Shelf.RegionOpen
import Derived.OwnWalkIn
import Derived.TacticsInMore
import Derived.LoopNIn
import Derived.LoopIn
import Derived.WalkMore
namespace Ks
open Go Go.RowKit
set_option linter.unusedVariables false
def levelsL (l : List ByteArray) : List (List ByteArray) :=
  if h : 2 ≤ l.length then l :: levelsL (aboveL l) else [l]
termination_by l.length
decreasing_by rw [above_length]; omega
theorem levels_two (l : List ByteArray) (h : 2 ≤ l.length) : levelsL l = l :: levelsL (aboveL l) := by rw [levelsL, dif_pos h]
theorem levels_low (l : List ByteArray) (h : ¬ 2 ≤ l.length) : levelsL l = [l] := by rw [levelsL, dif_neg h]
abbrev Lev := Value × List ByteArray
def levX (x : Lev) (w : World) : Prop := Rd strE w x.1 x.2
def levNew (l : List ByteArray) (T : TypeId) (pre : List Lev) (x : Lev) (A B : World) : Prop := Row strE B A.heap.size T x.1 x.2 ∧ ∃ t, pre.map Prod.snd ++ x.2 :: t = levelsL l
theorem levels_head (l : List ByteArray) : ∃ t, levelsL l = l :: t := by
  by_cases h : 2 ≤ l.length
  · exact ⟨_, levels_two l h⟩
  · exact ⟨[], levels_low l h⟩
def lenV : Value → Nat
  | .slice _ n _ => n
  | _ => 0
theorem above_whole (l : List ByteArray) (h : wholeL l = true) : wholeL (aboveL l) = true := by
  have key : ∀ n (l : List ByteArray), l.length ≤ n → wholeL l = true → wholeL (aboveL l) = true := by
    intro n
    induction n with
    | zero => intro l hn _; (obtain rfl : l = [] := List.length_eq_zero_iff.1 (by omega)); rfl
    | succ n ih =>
      intro l hn h
      match l, hn, h with
      | [], _, _ => rfl
      | [a], _, h => exact h
      | a :: b :: l, hn, h =>
        simp only [List.length_cons] at hn
        simp only [wholeL, List.all_cons, Bool.and_eq_true, beq_iff_eq] at h
        have := ih l (by omega) h.2.2
        simp only [aboveL, wholeL, List.all_cons, nodeS_size, Bool.and_eq_true, beq_iff_eq, true_and]
        exact this
  exact key _ l (Nat.le_refl _) h
theorem wpIn_scope_wide {P : Program} {n : Nat} {c : Code} {Q : Exit → Act → World → Prop} {a : Act} {w : World} (h : c.wpIn Fence.wide n P (Exit.noGoto Q) a w) : (Code.scope c).wpIn Fence.wide n P Q a w := wpIn_wide.2 (wp_scope_straight (wpIn_wide.1 h))
theorem wpIn_label_wide {P : Program} {n l : Nat} {Q : Exit → Act → World → Prop} {a : Act} {w : World} (h : Q .normal a w) : (Code.label l).wpIn Fence.wide n P Q a w := wpIn_wide.2 (wp_label h)
end Ks
namespace Go.Proofs.Ytophfeapmmfppaa
open Go.RowKit Ks
set_option linter.unusedVariables false
attribute [local go_sem] Oper.semAt_some
theorem levels_any (a : Option Addr) (k c : Nat) (w : World) : Calls Try.prog 26 #[.slice a k c] w fun e w' => e = .returned (.func (.func 36) #[] #[.pointer (some ⟨w.heap.size, 0, none⟩)]) ∧ w' = w.alloc (.cells #[.slice a k c] 22) := by
  refine calls_by fun R HR => ?_
  go_enter Try.func26, Try.ntmps26
  go_wp2
  exact HR.out _ _ ⟨rfl, rfl⟩
set_option maxRecDepth 100000 in
set_option maxHeartbeats 2000000 in
theorem levels_seen (n Bn : Nat) (lv : Value) (l : List ByteArray) (w : World) (hBn : Bn < w.heap.size) (hc : w.cell? ⟨Bn, 0, none⟩ = some lv) (hr : Rd strE w lv l) (hw : wholeL l = true) (hl : l.length ≤ 100000000) :
    SeenAll Fence.wide n Try.prog 36 #[.pointer (some ⟨Bn, 0, none⟩)] (fun x : Lev => #[x.1]) levX (levNew l 9) (lv, l) (fun xs => xs.map Prod.snd = levelsL l) w := by
  intro lp J M W hW hJ hM hY h0
  have hcW : W.cell? ⟨Bn, 0, none⟩ = some lv := (hW.cell (p := ⟨Bn, 0, none⟩) hBn).trans hc
  have HJ := Lib.hid hJ
  have HMn := Lib.hid hM
  have HY := Lib.hid hY
  have H0 := Lib.hid (h0 W (Below.refl _ _))
  have HS := Lib.hid (And.intro hw (And.intro hl hr))
  clear hJ hM hY h0 hw hl
  obtain ⟨a0, cap0, rfl, -⟩ := hr.shape
  clear hr hc
  refine callsIn_of_wp Try.func36 rfl trivial ?_ rfl
  simp only [Try.ntmps36, List.size_toArray, List.length_cons, List.length_nil, Nat.reduceAdd, Nat.reduceSub, Array.replicate_succ, Array.replicate_zero, List.push_toArray, List.append_toArray, List.nil_append, List.cons_append]
  gi_wp2
  refine wpIn_scope_wide ?_
  gi_wp2
  refine wpIn_label_wide ?_
  gi_wp2
  gi_loopw [3] (fun v wr => ∃ (pre : List Lev) (L : List ByteArray) (a : Option Addr) (c : Nat), .slice a L.length c = v ∧ Hid (M pre (.slice a L.length c, L) wr ∧ wholeL L = true ∧ L.length ≤ 100000000 ∧ pre.map Prod.snd ++ levelsL L = levelsL l)) (fun v _ => lenV v)
  case atStart => exact ⟨[], l, a0, cap0, rfl, Lib.hid ⟨H0.out, HS.out.1, HS.out.2.1, rfl⟩⟩
  case round =>
    obtain ⟨pre, L, a, c, rfl, hN⟩ := hrel
    obtain ⟨fn, tmps, assign, body, hy, hR⟩ := HY.out pre (.slice a L.length c, L) wr hN.out.1
    dsimp only at hy
    have HR3 := Lib.hid hR
    clear hR
    by_cases h2 : 2 ≤ L.length
    · have h2i : ¬ (L.length : Int) < 2 := by omega
      have HL := Lib.hid h2
      clear h2
      gi_wp2
      refine ⟨(fun e => by cases e), HR3.out.mono ?_⟩
      rintro e W3 ⟨rfl, hJ3, hX3⟩
      have H3 := Lib.hid (And.intro hJ3 hX3)
      clear hJ3 hX3
      gi_wp2
      refine ⟨trivial, (fun e => by cases e), (callsIn_wide.2 (above_any _ L W3 H3.out.2 hN.out.2.1 hN.out.2.2.1)).mono ?_⟩
      rintro e w4 ⟨v', rfl, hrow, hb⟩
      obtain ⟨a', c', hv', -⟩ := hrow.shape
      have H4 := Lib.hid (And.intro hrow hb)
      clear hrow hb
      subst hv'
      gi_wp2
      go_roundw
      case rel =>
        have hnext : (pre ++ [((.slice a L.length c, L) : Lev)]).map Prod.snd ++ levelsL (aboveL L) = levelsL l := by rw [← hN.out.2.2.2, levels_two L HL.out]; simp
        obtain ⟨t, ht⟩ := levels_head (aboveL L)
        refine ⟨pre ++ [(.slice a L.length c, L)], aboveL L, a', c', rfl, Lib.hid ⟨HMn.out _ _ W3 _ H3.out.1 H4.out.2 ⟨H4.out.1, t, by rw [← hnext, ht]⟩, above_whole L hN.out.2.1, ?_, hnext⟩⟩
        rw [above_length]; have := hN.out.2.2.1; omega
      case measure =>
        show lenV _ < lenV _
        simp only [lenV]
        rw [above_length]; have := HL.out; omega
    · have h2i : (L.length : Int) < 2 := by omega
      have HL := Lib.hid h2
      clear h2
      gi_wp2
      refine ⟨(fun e => by cases e), HR3.out.mono ?_⟩
      rintro e W3 ⟨rfl, hJ3, hX3⟩
      have H3 := Lib.hid (And.intro hJ3 hX3)
      clear hJ3 hX3
      gi_wp2
      simp only [Exit.noGoto]
      gi_wp2
      go_end0
      exact ⟨⟨_, rfl⟩, pre ++ [(.slice a L.length c, L)], by rw [← hN.out.2.2.2, levels_low L HL.out]; simp, H3.out.1⟩
end Go.Proofs.Ytophfeapmmfppaa
