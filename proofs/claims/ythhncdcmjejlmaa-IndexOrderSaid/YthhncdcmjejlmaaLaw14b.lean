/- The law IndexOrder: what its walk gives. -/
import Derived.Test.YthhncdcmjejlmaaIdxOf
import Derived.Test.YthhncdcmjejlmaaRIdxLow
namespace Ks
open Go Go.RowKit
theorem ofL_rev (l : List Ver) : ofL l = ofL l.reverse :=
  sorted_ext (ofL_sorted _) (ofL_sorted _) fun x => by rw [ofL_mem, ofL_mem, List.mem_reverse]
theorem drop_rev (l : List Ver) (k : Nat) (x : Ver) (h : l[k]? = some x) : (l.drop k).reverse = (l.drop (k + 1)).reverse ++ [x] := by
  obtain ⟨hk, rfl⟩ := List.getElem?_eq_some_iff.1 h
  rw [List.drop_eq_getElem_cons hk, List.reverse_cons]
theorem ofL_add (l : List Ver) (x : Ver) : ofL (l ++ [x]) = addL (ofL l) x := by rw [ofL, List.foldl_append]; rfl
end Ks
namespace Go.Proofs.Ythhncdcmjejlmaa
open Go.RowKit Ks
set_option linter.unusedVariables false

set_option maxHeartbeats 4000000 in
set_option maxRecDepth 100000 in
theorem law_order (lv : Value) (l : List Ver) (a b c : Int) (w : World) (hl : Rd verE w lv l) :
    Calls Try.prog 4 #[lv, .agg #[.int .i64 a, .int .i64 b, .int .i64 c]] w fun e w' => e = .returned (.bool true) ∧ Below w.heap.size w w' := by
  refine calls_by fun R HR => ?_
  have HL := Lib.hid hl
  obtain ⟨la, lcap, hv, hcap, -⟩ := hl.shape
  subst hv
  clear hl
  obtain ⟨W1, hW1⟩ : ∃ W1, w.alloc (.cells #[.int .i64 a, .int .i64 b, .int .i64 c] 27) = W1 := ⟨_, rfl⟩
  have hb1 : Below w.heap.size w W1 := by rw [← hW1]; exact alloc_below w _
  have k1 : W1.heap[w.heap.size]? = some (.cells #[.int .i64 a, .int .i64 b, .int .i64 c] 27 (0, 0)) := by rw [← hW1]; exact alloc_new w _
  have H1 := Lib.hid (And.intro hb1 k1)
  clear hb1 k1
  by_cases h200 : (200 : Int) < l.length
  · go_enter Try.func4, Try.ntmps4
    go_wp2_with fail
    refine (alive_any _).mono ?_
    rintro e w2 ⟨rfl, hb2⟩
    go_wp2
    exact HR.out _ _ ⟨rfl, H1.out.1.trans (hb2.mono H1.out.1.size)⟩
  · have hl2 : l.length ≤ 200 := by omega
    go_enter Try.func4, Try.ntmps4
    go_wp2_with fail
    refine (of_any _ l _ (HL.out.below H1.out.1) (by omega)).mono ?_
    rintro e w2 ⟨n, v, rfl, hO⟩
    have HO := Lib.hid hO
    clear hO
    go_wp2_with fail
    refine (new_any _).mono ?_
    rintro e w3 ⟨rfl, hw3⟩
    have HN0 := Lib.hid (own_new (TV := 27) hw3)
    clear hw3 hW1
    go_wp2
    go_loopg [7] l.length (fun g i wr => ∃ (k : Nat) (u : Value), k ≤ l.length ∧ k ≤ g ∧ i = .int .i64 ((k : Int) - 1) ∧ OwnIdx w2 wr 46 27 w2.heap.size u (ofL (l.drop k).reverse))
    case atStart => exact ⟨l.length, _, by omega, by omega, rfl, by rw [List.drop_length]; exact HN0.out⟩
    case round =>
      obtain ⟨k, u, hk, hkg, rfl, hY⟩ := hrel
      have hBw : Below w.heap.size w wr := (H1.out.1.trans (HO.out.below.mono H1.out.1.size)).trans (hY.below.mono (Nat.le_trans H1.out.1.size HO.out.below.size))
      by_cases hk0 : k = 0
      · subst hk0
        rw [List.drop_zero] at hY
        have HY := Lib.hid hY
        have HX := Lib.hid (HO.out.keep (w := W1) hY.below)
        have kB := (HX.out.below.block _ (lt_of_block H1.out.2)).trans H1.out.2
        obtain ⟨x0, x1, x2, -, -, -⟩ := blk3 kB
        have hlo := ofL_length l
        have HB := Lib.hid hBw
        clear hY hBw HO HN0 hkg hk
        go_wp2_with fail
        refine (copy_live n v _ _ HX.out.at_ (by omega)).mono ?_
        rintro e w4 ⟨n3, v3, rfl, hc, hn3, hv3, hb4⟩
        have HX4 := Lib.hid (HX.out.keep hb4)
        have HY4 := Lib.hid (HY.out.keep hb4)
        have HC := Lib.hid (And.intro hc (And.intro hn3 hv3))
        have HB4 := Lib.hid hb4
        clear hc hn3 hv3 hb4
        go_wp2_with fail
        refine (all_live n v _ _ HX4.out.at_ (by omega)).mono ?_
        rintro e w5 ⟨vw, rfl, hrw, hb5⟩
        have HX5 := Lib.hid (HX4.out.keep hb5)
        have HY5 := Lib.hid (HY4.out.keep hb5)
        have HW5 := Lib.hid (And.intro hrw hb5)
        have kB5 := (HX5.out.below.block _ (lt_of_block H1.out.2)).trans H1.out.2
        clear hrw hb5 x0 x1 x2 kB
        obtain ⟨x0, x1, x2, -, -, -⟩ := blk3 kB5
        clear kB5
        go_wp2_with fail
        refine (add_live n3 v3 _ (a, b, c) _ (HC.out.1.keep HW5.out.2) (by omega)).mono ?_
        rintro e w6 ⟨v3', rfl, hc6, hT⟩
        have hB6 : Below wr.heap.size wr w6 := (HB4.out.trans (HW5.out.2.mono HB4.out.size)).trans (hT.below HC.out.2.1 HC.out.2.2 (Nat.le_trans HB4.out.size HW5.out.2.size))
        have HX6 := Lib.hid (HX.out.keep hB6)
        have HY6 := Lib.hid (HY.out.keep hB6)
        have hrd : Rd verE w6 vw (ofL l) := HW5.out.1.rd.turned hT (fun e => by have := (HW5.out.1.lt e).1; have := HC.out.1.held.lt; omega) (fun b e e2 => by have := (HW5.out.1.lt e).1; have := (HC.out.1.held.own.lt e2).2; omega)
        have HW6 := Lib.hid hrd
        have HB6 := Lib.hid (HB.out.trans (hB6.mono HB.out.size))
        clear hc6 hT hB6 hrd x0 x1 x2
        go_wp2_with fail
        refine (all_live n v _ _ HX6.out.at_ (by omega)).mono ?_
        rintro e w7 ⟨va, rfl, hra, hb7⟩
        have HA7 := Lib.hid (And.intro hra.rd hb7)
        clear hra hb7
        have hlr : (ofL l.reverse).length ≤ 1000000 := by have := ofL_length l.reverse; rw [List.length_reverse] at this; omega
        go_wp2_with fail
        refine (all_live w2.heap.size u _ _ (HY6.out.at_.keep HA7.out.2) hlr).mono ?_
        rintro e w8 ⟨vb, rfl, hrb, hb8⟩
        have HA8 := Lib.hid (And.intro hrb.rd hb8)
        clear hrb hb8
        go_wp2_with fail
        refine (same_any va vb _ _ _ (HA7.out.1.below HA8.out.2) HA8.out.1 (by omega) hlr).mono ?_
        rintro e w9 ⟨rfl, hb9⟩
        rw [decide_eq_true (ofL_rev l)]
        have hB9 : Below w6.heap.size w6 w9 := (HA7.out.2.trans (HA8.out.2.mono HA7.out.2.size)).trans (hb9.mono (Nat.le_trans HA7.out.2.size HA8.out.2.size))
        have HB9 := Lib.hid hB9
        clear hb9 hB9 HA7 HA8
        go_wp2_with fail
        refine (all_live n v _ _ (HX6.out.at_.keep HB9.out) (by omega)).mono ?_
        rintro e w10 ⟨vc, rfl, hrc, hb10⟩
        have HA10 := Lib.hid (And.intro hrc.rd hb10)
        clear hrc hb10
        go_wp2_with fail
        refine (same_any vc vw _ _ _ HA10.out.1 ((HW6.out.below HB9.out).below HA10.out.2) (by omega) (by omega)).mono ?_
        rintro e w11 ⟨rfl, hb11⟩
        rw [decide_eq_true rfl]
        have hB11 : Below w6.heap.size w6 w11 := (HB9.out.trans (HA10.out.2.mono HB9.out.size)).trans (hb11.mono (Nat.le_trans HB9.out.size HA10.out.2.size))
        have HB11 := Lib.hid hB11
        clear hb11 hB11 HA10
        go_wp2_with fail
        refine (places_live n v _ _ (HX6.out.at_.keep HB11.out) (by omega)).mono ?_
        rintro e w12 ⟨rfl, hb12⟩
        have HB12 := Lib.hid (HB11.out.trans (hb12.mono HB11.out.size))
        clear hb12
        go_wp2_with fail
        refine (places_live w2.heap.size u _ _ (HY6.out.at_.keep HB12.out) hlr).mono ?_
        rintro e w13 ⟨rfl, hb13⟩
        rw [← ofL_rev l]
        have HB13 := Lib.hid (HB12.out.trans (hb13.mono HB12.out.size))
        clear hb13
        obtain ⟨P, hP⟩ : ∃ P, (plF (ofL l)).1 = P := ⟨_, rfl⟩
        rw [hP]
        clear hP
        have hpp : (P == P) = true := by simp
        go_wp2_with fail
        refine (alive_any _).mono ?_
        rintro e w14 ⟨rfl, hb14⟩
        go_wp2
        exact HR.out _ _ ⟨rfl, (HB6.out.trans (HB13.out.mono HB6.out.size)).trans (hb14.mono (Nat.le_trans HB6.out.size HB13.out.size))⟩
      · obtain ⟨j, rfl⟩ : ∃ j, k = j + 1 := ⟨k - 1, by omega⟩
        obtain ⟨x, hx⟩ : ∃ x, l[j]? = some x := ⟨_, List.getElem?_eq_getElem (by omega)⟩
        obtain ⟨b1, o1, h1, -, d⟩ := (HL.out.below hBw).at j x hx
        subst h1
        have HS := Lib.hid (show ofL (l.drop j).reverse = addL (ofL (l.drop (j + 1)).reverse) x by rw [drop_rev l j x hx, ofL_add])
        obtain ⟨x1, x2, x3⟩ := x
        have d0 : wr.cell? ⟨b1, o1 + j * 3, none⟩ = some (.int .i64 x1) := d 0 _ rfl
        have d1 : wr.cell? ⟨b1, o1 + j * 3 + 1, none⟩ = some (.int .i64 x2) := d 1 _ rfl
        have d2 : wr.cell? ⟨b1, o1 + j * 3 + 2, none⟩ = some (.int .i64 x3) := d 2 _ rfl
        have hj : ((j + 1 : Nat) : Int) - 1 = (j : Int) := by omega
        rw [hj]
        have hj0 : (0 : Int) ≤ (j : Int) := by omega
        have hj1 : (j : Int) < (l.length : Int) := by omega
        have hle := ofL_length (l.drop (j + 1)).reverse
        rw [List.length_reverse, List.length_drop] at hle
        have HY := Lib.hid hY
        clear d hx hY hj hBw
        go_wp2_with fail
        refine (add_live w2.heap.size u _ (x1, x2, x3) _ HY.out.at_ (by omega)).mono ?_
        rintro e w4 ⟨u', rfl, hi, hT⟩
        rw [← HS.out] at hi
        have HN := Lib.hid (HY.out.step (Below.refl _ _) hi hT)
        clear hi hT
        go_wp2
        go_roundg j
        case measure => omega
        case rel => exact ⟨j, u', by omega, by omega, by go_num, HN.out⟩

end Go.Proofs.Ythhncdcmjejlmaa
