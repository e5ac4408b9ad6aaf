/- The law NetCounts: what its walk gives. -/
import Derived.Test.YtpdnjhofmngfdaaLaw30q
import Derived.Deep.LoopGhost
import Derived.Deep.DeepCutAuto
import Derived.Deep.CutBlock
import Derived.Deep.QuietTactic
import Derived.BigQuiet
namespace Go.Proofs.Ytpdnjhofmngfdaa
open Go.RowKit Ks
set_option linter.unusedVariables false

set_option maxHeartbeats 8000000 in
set_option maxRecDepth 100000 in
theorem counts_any (lv : Value) (l : List ActD) (xt : Int) (xs : ByteArray) (w : World) (hl : RdA w lv l) (hlen : l.length ≤ maxLen) (hxs : xs.size ≤ maxLen) :
    Calls Try.prog 3 #[lv, .agg #[.int .i64 xt, .string xs]] w fun e w' => e = .returned (.bool true) ∧ Below w.heap.size w w' := by
  refine calls_by fun R HR => ?_
  unfold maxLen at hxs
  have hqe := eqL
  have HL := Lib.hid hl
  obtain ⟨a, cap, hlv, -⟩ := hl
  subst hlv
  obtain ⟨w0, hw0⟩ : ∃ w0, w.alloc (.cells #[.int .i64 xt, .string xs] 24) = w0 := ⟨_, rfl⟩
  have hbA : Below w.heap.size w w0 := by rw [← hw0]; exact (Below.refl _ _).alloc (Nat.le_refl _) _
  have bX : w0.heap[w.heap.size]? = some (.cells #[.int .i64 xt, .string xs] 24 (0, 0)) := by rw [← hw0]; exact heap_alloc_new w _
  have HL0 := Lib.hid (HL.out.below hbA)
  have H0 := Lib.hid (And.intro hbA bX)
  obtain ⟨x0, x1, f0, f1⟩ := cells2 bX
  clear hbA bX
  go_enter Try.func3, Try.ntmps3
  go_wp2_with fail
  refine (few_any _ l _ HL0.out hlen).mono ?_
  rintro e w1 ⟨bb, rfl, hfew, hb1⟩
  have k1 := (hb1.block _ (lt_of_block H0.out.2)).trans H0.out.2
  have hB1 := H0.out.1.trans (hb1.mono H0.out.1.size)
  clear x0 x1 f0 f1
  obtain ⟨x0, x1, f0, f1⟩ := cells2 k1
  clear k1
  by_cases hno : bb = false ∨ (20000 : Int) < xs.size
  · clear hfew
    cases bb
    case false =>
      clear hno
      go_wp2_with fail
      refine (alive_any _).mono ?_
      rintro e w2 ⟨rfl, hb2⟩
      go_wp2
      exact HR.out _ _ ⟨rfl, hB1.trans (hb2.mono hB1.size)⟩
    case true =>
      have hxs2 : (20000 : Int) < xs.size := by simpa using hno
      clear hno
      go_wp2_with fail
      refine (alive_any _).mono ?_
      rintro e w2 ⟨rfl, hb2⟩
      go_wp2
      exact HR.out _ _ ⟨rfl, hB1.trans (hb2.mono hB1.size)⟩
  · obtain rfl : bb = true := by cases bb <;> simp_all
    have hxs2 : ¬ (20000 : Int) < xs.size := fun h => hno (Or.inr h)
    obtain ⟨h60, h80⟩ := hfew rfl
    have H80 := Lib.hid h80
    clear h80 hfew hlen hno
    go_wp2_with fail
    refine (new_any _).mono ?_
    rintro e w2 ⟨rfl, hw2⟩
    have hA : Below w1.heap.size w1 w2 := by rw [hw2]; exact (Below.refl _ _).alloc (Nat.le_refl _) _
    have bN : w2.heap[w1.heap.size]? = some (.cells #[.bool true, .slice none 0 0] 45 (0, 0)) := by rw [hw2]; exact heap_alloc_new w1 _
    have hP0 : CountsAt w0 w2 45 24 w1.heap.size (.slice none 0 0) [] (xt, xs) 0 false :=
      ⟨⟨bN, Own.nil _ _, by simp [Value.ownBlock], by simp⟩, hb1.trans (hA.mono hb1.size), hb1.size, fun b e => by simp [Value.ownBlock] at e, rfl, fun h => by simp [cnt] at h⟩
    have HP0 := Lib.hid hP0
    clear hP0 hw2 bN hA hB1 x0 x1 f0 f1 hw0
    generalize w1.heap.size = n at *
    clear hb1
    go_wp2
    go_loopg [32, 6, 7] l.length (fun g i c s wr => ∃ (k : Nat) (L : List Let) (v : Value) (cc : Int) (ss : Bool), k + g = l.length ∧ i = .int .i64 k ∧ c = .int .i64 cc ∧ s = .bool ss ∧ CountsAt w0 wr 45 24 n v L (xt, xs) cc ss)
    case atStart => exact ⟨0, [], _, 0, false, by omega, rfl, rfl, rfl, HP0.out⟩
    case round =>
      obtain ⟨k, L, v, cc, ss, hk, rfl, rfl, rfl, hP⟩ := hrel
      by_cases hlt : k < l.length
      · obtain ⟨x, hx⟩ : ∃ x, l[k]? = some x := ⟨_, List.getElem?_eq_getElem hlt⟩
        have hx80 := H80.out k x hx
        obtain ⟨b, o, ha, hb, c0, c1, c2, hrd, -, -⟩ := (HL0.out.below hP.below).at k x hx
        subst ha
        obtain ⟨kk, m, xlv, ls⟩ := x
        simp only at c0 c1 c2 hrd hx80
        obtain ⟨xa, xcap, hxl, -⟩ := id hrd
        subst hxl
        have hrd0 : RdL w0 (.slice xa ls.length xcap) ls := by obtain ⟨_, _, _, _, _, _, _, h, -, -⟩ := HL0.out.at k _ hx; exact h
        have HRD0 := Lib.hid hrd0
        clear hx hrd0
        have kx := (hP.below.block _ (lt_of_block H0.out.2)).trans H0.out.2
        have HP := Lib.hid hP
        have h64 := hP.net.len
        obtain ⟨WA, hWA⟩ : ∃ WA, wr.alloc (.cells #[.int .i64 kk, .int .i64 m, (.slice xa ls.length xcap)] 31) = WA := ⟨_, rfl⟩
        have hbA : Below wr.heap.size wr WA := by rw [← hWA]; exact (Below.refl _ _).alloc (Nat.le_refl _) _
        have bA : WA.heap[wr.heap.size]? = some (.cells #[.int .i64 kk, .int .i64 m, (.slice xa ls.length xcap)] 31 (0, 0)) := by rw [← hWA]; exact heap_alloc_new wr _
        have HRD := Lib.hid hrd
        have HA := Lib.hid (And.intro hbA (And.intro bA kx))
        clear hP hrd hbA bA kx
        go_wp2_with fail
        refine (all_live n v L _ (HP.out.net.keep HA.out.1)).mono ?_
        rintro e w5 ⟨av, rfl, hown, hb5⟩
        clear c0 c1 c2
        have hb05 := HA.out.1.trans (hb5.mono HA.out.1.size)
        have kA := (hb5.block _ (lt_of_block HA.out.2.1)).trans HA.out.2.1
        have kx := (hb05.block _ (lt_of_block HA.out.2.2)).trans HA.out.2.2
        obtain ⟨aa, acap, hav, -⟩ := id (ownsRow_rd hown)
        subst hav
        have HR5 := Lib.hid (rd_of (ownsRow_rd hown))
        obtain ⟨x0, x1, -, -⟩ := cells2 kx
        obtain ⟨a0, a1, a2⟩ := cells3 kA
        have H5 := Lib.hid (And.intro hb05 (And.intro kA kx))
        clear hown hb5 hb05 kA kx hWA
        go_upto_region 9 with fail
        go_cut [11] (fun s wx => s = .bool (isB L m (xt, xs)) ∧ Below w5.heap.size w5 wx)
        case first =>
          by_cases hm0 : m < 0
          · have Q := Lib.hid (show isB L m (xt, xs) = false by rw [isB, if_pos (Or.inl hm0)])
            have hd0 : decide ((0 : Int) ≤ m) = false := by simp; omega
            go_quiet (fail)
            go_wp2
            go_meet
            exact ⟨by rw [Q.out], below_drewN (Below.refl _ _) _⟩
          · by_cases hm1 : (L.length : Int) ≤ m
            · have Q := Lib.hid (show isB L m (xt, xs) = false by rw [isB, if_pos (Or.inr hm1)])
              have hd : decide (m < (L.length : Int)) = false := by simp; omega
              have hd0 : (0 : Int) ≤ m := by omega
              go_quiet (fail)
              go_wp2
              go_meet
              exact ⟨by rw [Q.out], below_drewN (Below.refl _ _) _⟩
            · have hd : m < (L.length : Int) := by omega
              obtain ⟨j, rfl⟩ : ∃ j : Nat, m = j := ⟨m.toNat, by omega⟩
              obtain ⟨y, hy⟩ : ∃ y, L[j]? = some y := ⟨_, List.getElem?_eq_getElem (by omega)⟩
              have Q := Lib.hid (show isB L j (xt, xs) = eqB y (xt, xs) by rw [isB, if_neg (by omega)]; simp [letD, List.getD, hy])
              obtain ⟨ba, oa, haa, hba, ee⟩ := HR5.out.at j _ hy
              subst haa
              obtain ⟨yt, ys⟩ := y
              have d0 : w5.cell? ⟨ba, oa + j * 2, none⟩ = some (.int .i64 yt) := ee 0 _ rfl
              have d1 : w5.cell? ⟨ba, oa + j * 2 + 1, none⟩ = some (.string ys) := ee 1 _ rfl
              clear ee hy hm1
              have hj0 : (0 : Int) ≤ (j : Int) := by omega
              go_quiet (fail)
              go_wp2
              go_meet
              exact ⟨by rw [Q.out], below_drewN (Below.refl _ _) _⟩
        case rest =>
          obtain ⟨rfl, hbc⟩ := hcut
          have hb4 := H5.out.1.trans (hbc.mono H5.out.1.size)
          have kA := (hbc.block _ (lt_of_block H5.out.2.1)).trans H5.out.2.1
          have kx := (hbc.block _ (lt_of_block H5.out.2.2)).trans H5.out.2.2
          clear x0 x1 a0 a1 a2
          obtain ⟨x0, x1, -, -⟩ := cells2 kx
          obtain ⟨a0, a1, a2⟩ := cells3 kA
          have hN4 := HP.out.net.keep hb4
          have HR4 := Lib.hid (HRD.out.below hb4)
          have H4 := Lib.hid (And.intro hb4 (And.intro hN4 (And.intro kx kA)))
          clear hbc hb4 kA kx hN4 HR5 H5 HA HRD
          obtain ⟨isv, hisv⟩ : ∃ isv, isB L m (xt, xs) = isv := ⟨_, rfl⟩
          rw [hisv]
          have HIS := Lib.hid hisv
          clear hisv
          obtain ⟨w4, rfl⟩ : ∃ w4 : World, w4 = wc := ⟨_, rfl⟩
          go_upto_block 2 with fail
          go_cut [6, 7] (fun c s wx => ∃ (L' : List Let) (v' : Value) (cc' : Int) (ss' : Bool), c = .int .i64 cc' ∧ s = .bool ss' ∧ CountsAt w0 wx 45 24 n v' L' (xt, xs) cc' ss')
          case first =>
            by_cases h1 : kk = 1
            · subst h1
              go_wp2_with fail
              refine (send_live n v _ L ls _ H4.out.2.1 HR4.out (by omega)).mono ?_
              rintro e wx ⟨v', rfl, hN, hT⟩
              have hlow4 := Nat.le_trans HP.out.below.size H4.out.1.size
              have hbx := (HP.out.below.trans (H4.out.1.mono HP.out.below.size)).trans (hT.below HP.out.nlow HP.out.vlow hlow4)
              obtain ⟨F, hF⟩ : ∃ F, sendE L ls = F := ⟨_, rfl⟩
              rw [hF]
              by_cases h0 : F = 0
              · subst h0
                have hsl : sendL L ls = L ++ ls := by rw [sendL, if_pos hF]
                rw [hsl] at hN
                have HNT := Lib.hid (And.intro hN hT)
                have kx := (hbx.block _ (lt_of_block H0.out.2)).trans H0.out.2
                have hrx := (rd_of HRD0.out).below hbx
                have HX := Lib.hid (And.intro hbx (And.intro kx hrx))
                have hcL : (cc : Int) = cnt (xt, xs) L := HP.out.cnt
                have hcL2 := cnt_le (xt, xs) L
                have hcc : 0 ≤ cc ∧ cc ≤ 64 := by omega
                have kA := (hT.block wr.heap.size (lt_of_block H4.out.2.2.2) (by have := HP.out.net.lt; omega) (fun e => by have := HP.out.net.own.lt e; omega)).trans H4.out.2.2.2
                clear hN hT hF hsl hbx kx hrx x0 x1 a0 a1 a2 hcL hcL2
                obtain ⟨a0, a1, a2⟩ := cells3 kA
                clear kA
                go_wp2_with fail
                go_loopg [91, 6, 7] ls.length (fun g i c s wz => ∃ (k2 : Nat) (c2 : Int) (s2 : Bool), k2 + g = ls.length ∧ i = .int .i64 k2 ∧ c = .int .i64 c2 ∧ s = .bool s2 ∧ CntIn cc ss (xt, xs) ls k2 c2 s2 ∧ Below wx.heap.size wx wz)
                case atStart => exact ⟨0, cc, ss, by omega, rfl, rfl, rfl, ⟨by simp [cnt], fun h => by simpa [cnt] using h⟩, Below.refl _ _⟩
                case round =>
                  obtain ⟨k2, c2, s2, hk2, rfl, rfl, rfl, hC, hbz⟩ := hrel
                  have hc2 : 0 ≤ c2 ∧ c2 ≤ 200 := by
                    have h1 := hC.1
                    have h2 := cnt_le (xt, xs) (ls.take k2)
                    rw [List.length_take] at h2
                    omega
                  have HC := Lib.hid hC
                  clear hC
                  by_cases hlt2 : k2 < ls.length
                  · obtain ⟨y, hy⟩ : ∃ y, ls[k2]? = some y := ⟨_, List.getElem?_eq_getElem hlt2⟩
                    have hs := cnt_snoc (xt, xs) ls k2 y hy
                    have HS := Lib.hid hs
                    obtain ⟨by', oy, hay, hby, ee⟩ := HX.out.2.2.at k2 _ hy
                    subst hay
                    obtain ⟨yt, ys⟩ := y
                    have d0 : wr.cell? ⟨by', oy + k2 * 2, none⟩ = some (.int .i64 yt) := (hbz.cell (p := ⟨by', oy + k2 * 2, none⟩) hby).trans (ee 0 _ rfl)
                    have d1 : wr.cell? ⟨by', oy + k2 * 2 + 1, none⟩ = some (.string ys) := (hbz.cell (p := ⟨by', oy + k2 * 2 + 1, none⟩) hby).trans (ee 1 _ rfl)
                    have kx := (hbz.block _ (lt_of_block HX.out.2.1)).trans HX.out.2.1
                    have hbz2 := hbz.alloc hbz.size (.cells #[.int .i64 yt, .string ys] 24)
                    have kx2 := (((Below.refl wr.heap.size wr).alloc (Nat.le_refl _) (.cells #[.int .i64 yt, .string ys] 24)).block _ (lt_of_block kx)).trans kx
                    obtain ⟨x0, x1, -, -⟩ := cells2 kx2
                    have HBZ := Lib.hid hbz2
                    clear ee hy hs kx kx2 hbz2
                    cases he : eqB (yt, ys) (xt, xs)
                    case true =>
                      have HS2 := Lib.hid (show cnt (xt, xs) (ls.take (k2 + 1)) = cnt (xt, xs) (ls.take k2) + 1 by rw [HS.out, if_pos he])
                      go_wp2
                      go_roundg (gk - 1)
                      case measure => omega
                      case rel => exact ⟨k2 + 1, c2 + 1, true, by omega, by go_num, by go_num, rfl, ⟨by rw [HS2.out, HC.out.1]; omega, fun _ => rfl⟩, HBZ.out⟩
                    case false =>
                      have HS2 := Lib.hid (show cnt (xt, xs) (ls.take (k2 + 1)) = cnt (xt, xs) (ls.take k2) by rw [HS.out, if_neg (by rw [he]; decide)]; rfl)
                      go_wp2
                      go_roundg (gk - 1)
                      case measure => omega
                      case rel => exact ⟨k2 + 1, c2, s2, by omega, by go_num, rfl, rfl, ⟨by rw [HS2.out, HC.out.1], fun h => HC.out.2 (by rwa [HS2.out] at h)⟩, HBZ.out⟩
                  · obtain rfl : k2 = ls.length := by omega
                    go_wp2_with fail
                    go_meet
                    refine ⟨L ++ ls, v', c2, s2, rfl, rfl, (HP.out.step H4.out.1 HNT.out.1 HNT.out.2 ?_ ?_).keep hbz⟩
                    · rw [HC.out.1, List.take_length, HP.out.cnt, cnt_append]; omega
                    · intro h
                      rw [cnt_append] at h
                      refine HC.out.2 ?_
                      rw [List.take_length]
                      rcases Nat.eq_zero_or_pos (cnt (xt, xs) ls) with h1 | h1
                      · exact Or.inl (HP.out.sent (by omega))
                      · exact Or.inr h1
              · have hsl : sendL L ls = L := by rw [sendL, if_neg (by rw [hF]; exact h0)]
                rw [hsl] at hN
                have HNT := Lib.hid (And.intro hN hT)
                have hf0 : (F == 0) = false := by simpa using h0
                clear hN hT hF hsl hbx h0
                go_wp2_with fail
                go_meet
                exact ⟨L, v', cc, ss, rfl, rfl, HP.out.step H4.out.1 HNT.out.1 HNT.out.2 HP.out.cnt HP.out.sent⟩
            · have h1' : (kk == 1) = false := by simpa using h1
              have hcL : (cc : Int) = cnt (xt, xs) L := HP.out.cnt
              have hcL2 := cnt_le (xt, xs) L
              have hcc : 0 ≤ cc ∧ cc ≤ 64 := by omega
              clear hcL hcL2
              by_cases h4 : kk = 4
              · subst h4
                go_wp2_with fail
                refine (twice_live n v L m _ H4.out.2.1).mono ?_
                rintro e wx ⟨v', rfl, hN, hT⟩
                obtain ⟨F, hF⟩ : ∃ F, twiceE L m = F := ⟨_, rfl⟩
                rw [hF]
                by_cases h0 : F = 0
                · subst h0
                  have hm : ¬ (m < 0 ∨ (L.length : Int) ≤ m) := fun h => by rw [twiceE, atE, if_pos h, if_pos rfl] at hF; omega
                  have hsl : twiceL L m = L ++ [letD L m] := by rw [twiceL, if_pos hF]; rfl
                  have hi : eqB (letD L m) (xt, xs) = isv := by rw [← HIS.out, isB, if_neg hm]
                  rw [hsl] at hN
                  have HNT := Lib.hid (And.intro hN (And.intro hT hi))
                  have HM := Lib.hid hm
                  clear hN hT hF hsl hm hi
                  cases isv
                  case true =>
                    go_wp2_with fail
                    go_meet
                    refine ⟨L ++ [letD L m], v', cc + 1, ss, by go_num, rfl, HP.out.step H4.out.1 HNT.out.1 HNT.out.2.1 ?_ ?_⟩
                    · rw [cnt_append, cnt_one, if_pos HNT.out.2.2, HP.out.cnt]; omega
                    · intro _
                      refine HP.out.sent (cnt_of_mem _ _ ?_)
                      have e : letD L m = (xt, xs) := by have := HNT.out.2.2; simpa [eqB] using this
                      have hi : m.toNat < L.length := by have := HM.out; omega
                      have e2 : letD L m = L[m.toNat] := by simp [letD, List.getD, List.getElem?_eq_getElem hi]
                      rw [← e, e2]
                      exact List.getElem_mem hi
                  case false =>
                    go_wp2_with fail
                    go_meet
                    have hz : cnt (xt, xs) (L ++ [letD L m]) = cnt (xt, xs) L := by rw [cnt_append, cnt_one, if_neg (by rw [HNT.out.2.2]; decide)]; rfl
                    exact ⟨L ++ [letD L m], v', cc, ss, rfl, rfl, HP.out.step H4.out.1 HNT.out.1 HNT.out.2.1 (by rw [hz]; exact HP.out.cnt) (by rw [hz]; exact HP.out.sent)⟩
                · have hsl : twiceL L m = L := by rw [twiceL, if_neg (by rw [hF]; exact h0)]
                  rw [hsl] at hN
                  have HNT := Lib.hid (And.intro hN hT)
                  have hf0 : (F == 0) = false := by simpa using h0
                  clear hN hT hF hsl h0
                  go_wp2_with fail
                  go_meet
                  exact ⟨L, v', cc, ss, rfl, rfl, HP.out.step H4.out.1 HNT.out.1 HNT.out.2 HP.out.cnt HP.out.sent⟩
              · have h4' : (kk == 4) = false := by simpa using h4
                go_wp2_with fail
                refine (take_live n v L m _ H4.out.2.1).mono ?_
                rintro e wx ⟨v', rfl, hN, hT⟩
                have hlow4 := Nat.le_trans HP.out.below.size H4.out.1.size
                have hbx := (HP.out.below.trans (H4.out.1.mono HP.out.below.size)).trans (hT.below HP.out.nlow HP.out.vlow hlow4)
                have kx := (hbx.block _ (lt_of_block H0.out.2)).trans H0.out.2
                obtain ⟨y, hy⟩ : ∃ y, takeX L m = y := ⟨_, rfl⟩
                rw [hy]
                obtain ⟨yt, ys⟩ := y
                have hA : Below wx.heap.size wx (wx.alloc (.cells #[.int .i64 yt, .string ys] 24)) := (Below.refl _ _).alloc (Nat.le_refl _) _
                have kx2 := (hA.block _ (lt_of_block kx)).trans kx
                clear x0 x1 a0 a1 a2 hbx
                obtain ⟨x0, x1, -, -⟩ := cells2 kx2
                have HAX := Lib.hid hA
                clear kx kx2 hA
                by_cases hm : m < 0 ∨ (L.length : Int) ≤ m
                · have hF : atE L m = 7 := by rw [atE, if_pos hm]
                  have hsl : takeR L m = L := by rw [takeR, if_pos hF]
                  rw [hsl] at hN
                  rw [hF]
                  have HNT := Lib.hid (And.intro hN hT)
                  clear hN hT hF hsl hy hm
                  go_wp2_with fail
                  go_meet
                  exact ⟨L, v', cc, ss, rfl, rfl, (HP.out.step H4.out.1 HNT.out.1 HNT.out.2 HP.out.cnt HP.out.sent).keep HAX.out⟩
                · have hF : atE L m = 0 := by rw [atE, if_neg hm]
                  obtain ⟨j, rfl⟩ : ∃ j : Nat, m = j := ⟨m.toNat, by omega⟩
                  have hyd : letD L j = (yt, ys) := by rw [← hy, takeX, hF, if_neg (by decide)]; rfl
                  have hi : eqB (yt, ys) (xt, xs) = isv := by rw [← HIS.out, isB, if_neg hm, hyd]
                  have hLj : L[j]? = some (yt, ys) := by
                    rw [← hyd, letD, Int.toNat_natCast, List.getD, List.getElem?_eq_getElem (show j < L.length by omega)]; rfl
                  have hcut := cnt_cut (xt, xs) L j _ hLj
                  have hsl : takeR L j = L.take j ++ L.drop (j + 1) := by rw [takeR, hF, if_neg (by decide)]; rfl
                  rw [hsl] at hN
                  rw [hF]
                  have HNT := Lib.hid (And.intro hN (And.intro hT hcut))
                  clear hN hT hF hsl hy hm hyd hLj hcut
                  cases isv
                  case true =>
                    have hss : ss = true := HP.out.sent (by rw [HNT.out.2.2, if_pos hi]; omega)
                    subst hss
                    have HI := Lib.hid hi
                    go_wp2_with fail
                    go_meet
                    refine ⟨L.take j ++ L.drop (j + 1), v', cc - 1, true, by go_num, rfl, (HP.out.step H4.out.1 HNT.out.1 HNT.out.2.1 ?_ fun _ => rfl).keep HAX.out⟩
                    rw [HP.out.cnt, HNT.out.2.2, if_pos HI.out]; omega
                  case false =>
                    have HI := Lib.hid hi
                    go_wp2_with fail
                    go_meet
                    have hz : cnt (xt, xs) L = cnt (xt, xs) (L.take j ++ L.drop (j + 1)) := by rw [HNT.out.2.2, if_neg (by rw [HI.out]; decide)]; rfl
                    exact ⟨_, v', cc, ss, rfl, rfl, (HP.out.step H4.out.1 HNT.out.1 HNT.out.2.1 (by rw [← hz]; exact HP.out.cnt) (by rw [← hz]; exact HP.out.sent)).keep HAX.out⟩
          case rest =>
            obtain ⟨L', v', cc', ss', rfl, rfl, hP'⟩ := hcut
            have h64' := hP'.net.len
            have hcl := cnt_le (xt, xs) L'
            have HP' := Lib.hid hP'
            obtain rfl : cc' = (cnt (xt, xs) L' : Nat) := hP'.cnt
            clear hP' x0 x1 a0 a1 a2 HR4 H4 HIS HRD0 HP HP0
            go_wp2_with fail
            refine (all_live n v' L' _ HP'.out.net).mono ?_
            rintro e w6 ⟨av, rfl, hown, hb6⟩
            have HP6 := Lib.hid (HP'.out.keep hb6)
            have kx := (HP6.out.below.block _ (lt_of_block H0.out.2)).trans H0.out.2
            obtain ⟨aa2, acap2, hav, -⟩ := id (ownsRow_rd hown)
            subst hav
            have HR6 := Lib.hid (And.intro (rd_of (ownsRow_rd hown)) kx)
            clear hown hb6 kx HP'
            go_wp2_with fail
            go_loopg [116, 16] L'.length (fun g i c wz => ∃ (k2 : Nat), k2 + g = L'.length ∧ i = .int .i64 k2 ∧ c = .int .i64 (cnt (xt, xs) (L'.take k2) : Nat) ∧ Below w6.heap.size w6 wz)
            case atStart => exact ⟨0, by omega, rfl, rfl, Below.refl _ _⟩
            case round =>
              obtain ⟨k2, hk2, rfl, rfl, hbz⟩ := hrel
              have hcl2 := cnt_le (xt, xs) (L'.take k2)
              rw [List.length_take] at hcl2
              by_cases hlt2 : k2 < L'.length
              · obtain ⟨y, hy⟩ : ∃ y, L'[k2]? = some y := ⟨_, List.getElem?_eq_getElem hlt2⟩
                have HS := Lib.hid (cnt_snoc (xt, xs) L' k2 y hy)
                have hc80 : cnt (xt, xs) (L'.take k2) ≤ 64 := by omega
                obtain ⟨by', oy, hay, hby, ee⟩ := HR6.out.1.at k2 _ hy
                subst hay
                obtain ⟨yt, ys⟩ := y
                have d0 : wr.cell? ⟨by', oy + k2 * 2, none⟩ = some (.int .i64 yt) := (hbz.cell (p := ⟨by', oy + k2 * 2, none⟩) hby).trans (ee 0 _ rfl)
                have d1 : wr.cell? ⟨by', oy + k2 * 2 + 1, none⟩ = some (.string ys) := (hbz.cell (p := ⟨by', oy + k2 * 2 + 1, none⟩) hby).trans (ee 1 _ rfl)
                have kx := (hbz.block _ (lt_of_block HR6.out.2)).trans HR6.out.2
                have hbz2 := hbz.alloc hbz.size (.cells #[.int .i64 yt, .string ys] 24)
                have kx2 := (((Below.refl wr.heap.size wr).alloc (Nat.le_refl _) (.cells #[.int .i64 yt, .string ys] 24)).block _ (lt_of_block kx)).trans kx
                obtain ⟨x0, x1, -, -⟩ := cells2 kx2
                have HBZ := Lib.hid hbz2
                clear ee hy kx kx2 hbz2 hcl2
                cases he : eqB (yt, ys) (xt, xs)
                case true =>
                  have HS2 := Lib.hid (show cnt (xt, xs) (L'.take (k2 + 1)) = cnt (xt, xs) (L'.take k2) + 1 by rw [HS.out, if_pos he])
                  go_wp2
                  go_roundg (gk - 1)
                  case measure => omega
                  case rel => exact ⟨k2 + 1, by omega, by go_num, by rw [HS2.out]; go_num, HBZ.out⟩
                case false =>
                  have HS2 := Lib.hid (show cnt (xt, xs) (L'.take (k2 + 1)) = cnt (xt, xs) (L'.take k2) by rw [HS.out, if_neg (by rw [he]; decide)]; rfl)
                  go_wp2
                  go_roundg (gk - 1)
                  case measure => omega
                  case rel => exact ⟨k2 + 1, by omega, by go_num, by rw [HS2.out], HBZ.out⟩
              · obtain rfl : k2 = L'.length := by omega
                rw [List.take_length]
                have HPZ := Lib.hid (HP6.out.keep hbz)
                have hne : (((cnt (xt, xs) L' : Nat) : Int) != ((cnt (xt, xs) L' : Nat) : Int)) = false := by simp
                clear hcl2 HR6 HP6
                go_wp2
                go_roundg (l.length - (k + 1))
                case measure => omega
                case rel => exact ⟨k + 1, L', v', _, ss', by omega, by go_num, rfl, rfl, HPZ.out⟩
      · have hPb := H0.out.1.trans (hP.below.mono H0.out.1.size)
        clear HP0
        go_wp2_with fail
        refine (alive_any _).mono ?_
        rintro e w9 ⟨rfl, hb9⟩
        go_wp2
        exact HR.out _ _ ⟨rfl, hPb.trans (hb9.mono hPb.size)⟩

end Go.Proofs.Ytpdnjhofmngfdaa
