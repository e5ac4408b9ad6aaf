/- Texts that the claim rests on, part 3: GeoTake, GeoRef, SuperPlain, SuperBlk, SuperActs, SuperRight, ShaLow, ArrRow, ShaText, ShaWords, ShaConst. -/
import Derived.Test.YtgaoammkegcdcaaProg
import Derived.Deep.WholeRow
import Derived.Laws.CopyOwn
import Derived.BigQuiet
import Derived.Deep.DeepCutAuto
import Derived.StillTailTactics
import Derived.Test.YtgaoammkegcdcaaM2
/- The shape of bytes: geom.Take and the reference's Put, Take. -/
namespace Ks
open Go Go.RowKit
set_option linter.unusedVariables false
theorem RdI.three {w : World} {v : Value} {x0 x1 x2 : Int} (h : RdI w v [x0, x1, x2]) : ∃ b o cap, v = .slice (some ⟨b, o, none⟩) 3 cap ∧ b < w.heap.size ∧
    w.cell? ⟨b, o, none⟩ = some (.int .i64 x0) ∧ w.cell? ⟨b, o + 1, none⟩ = some (.int .i64 x1) ∧ w.cell? ⟨b, o + 2, none⟩ = some (.int .i64 x2) := by
  obtain ⟨a, cap, rfl, _, h⟩ := h
  obtain ⟨⟨b, o, rfl, hb, h0⟩, _⟩ := h 0 x0 rfl
  obtain ⟨⟨b1, o1, e1, _, h1⟩, _⟩ := h 1 x1 rfl
  obtain ⟨⟨b2, o2, e2, _, h2⟩, _⟩ := h 2 x2 rfl
  cases e1; cases e2
  exact ⟨b, o, cap, rfl, hb, h0, h1, h2⟩
def gN0 (s : ByteArray) : Int := if geoT s then (numAt s 0 4 : Int) else 0
def gN1 (s : ByteArray) : Int := if geoT s then (numAt s 4 4 : Int) else 0
def gN2 (s : ByteArray) : Int := if geoT s then (numAt s 8 4 : Int) else 0
def gTE (s : ByteArray) : Int := if geoT s then 0 else 3
theorem geoT_no {s : ByteArray} (h : ¬ geoT s = true) : gN0 s = 0 ∧ gN1 s = 0 ∧ gN2 s = 0 ∧ gTE s = 3 ∧ geoT s = false := ⟨by rw [gN0, if_neg h], by rw [gN1, if_neg h], by rw [gN2, if_neg h], by rw [gTE, if_neg h], by simpa using h⟩
theorem geoT_yes {s : ByteArray} (h : geoT s = true) : gN0 s = numAt s 0 4 ∧ gN1 s = numAt s 4 4 ∧ gN2 s = numAt s 8 4 ∧ gTE s = 0 := ⟨by rw [gN0, if_pos h], by rw [gN1, if_pos h], by rw [gN2, if_pos h], by rw [gTE, if_pos h]⟩
end Ks
namespace Go.Proofs.Ytgaoammkegcdcaa
open Go.RowKit Ks
set_option linter.unusedVariables false
set_option maxHeartbeats 2000000 in
set_option maxRecDepth 100000 in
theorem gtake_any (s : ByteArray) (w : World) (hs : s.size ≤ 9223372036854775807) :
    Calls Try.prog 19 #[.string s] w fun e w' => e = .returned (.tuple #[geoV (gN0 s) (gN1 s) (gN2 s), .int .i64 (gTE s)]) ∧ Below w.heap.size w w' := by
  refine calls_by fun R HR => ?_
  obtain ⟨W, hW⟩ : ∃ W, w.alloc (.cells #[.int .i64 0, .int .i64 0, .int .i64 0] 24) = W := ⟨_, rfl⟩
  have HW := Lib.hid (And.intro (show Below w.heap.size w W by rw [← hW]; exact alloc_below w _) (show W.heap[w.heap.size]? = some (.cells #[.int .i64 0, .int .i64 0, .int .i64 0] 24 (0, 0)) by rw [← hW]; exact alloc_new w _))
  have HU := Lib.hid (fun (w1 : World) (h : RdI w1 (.slice (some ⟨W.heap.size, 0, none⟩) 3 3) [4, 4, 4]) => unpack_any (.slice (some ⟨W.heap.size, 0, none⟩) 3 3) [4, 4, 4] s w1 h (by decide) hs)
  rcases geo_unpack s with ⟨hz, hE, hL⟩ | ⟨hz, hE⟩
  · simp only [hE, hL] at HU
    go_enter Try.func19, Try.ntmps19
    go_wp2_with fail
    refine (gwidths_any _).mono ?_
    rintro e w1 ⟨rfl, rfl⟩
    go_wp2_with fail
    refine (HU.out _ (RdI.block _ 93 (0, 0) 3 rfl (by decide) (alloc_new W _))).mono ?_
    rintro e w2 ⟨v, rfl, hr, hb2⟩
    have hbW := (alloc_below W (.cells #[.int .i64 4, .int .i64 4, .int .i64 4] 93)).trans (hb2.mono (by simp))
    have H2 := Lib.hid (And.intro (HW.out.1.trans (hbW.mono HW.out.1.size)) (And.intro ((hbW.block _ (lt_of_block HW.out.2)).trans HW.out.2) (lt_of_block HW.out.2)))
    obtain ⟨bL, oL, cL, rfl, hbL, l0, l1, l2⟩ := hr.three
    have hz2 : w.heap.size < w2.heap.size := Nat.lt_of_lt_of_le H2.out.2.2 hbW.size
    clear hr hb2 hbW hW
    go_wp2_with fail
    go_region_held3 (fun w' => w'.cell? ⟨bL, oL, none⟩ = some (.int .i64 (numAt s 0 4 : Int)) ∧ w'.cell? ⟨bL, oL + 1, none⟩ = some (.int .i64 (numAt s 4 4 : Int)) ∧ w'.cell? ⟨bL, oL + 2, none⟩ = some (.int .i64 (numAt s 8 4 : Int)))
      (first | go_keep)
      (first | fail)
    all_goals
      rename_i hHeld
      clear hHeld
      have hT : geoT s = geoOk (numAt s 0 4) (numAt s 4 4) (numAt s 8 4) := by unfold geoT; rw [Bool.eq_iff_iff, decide_eq_true_iff]; exact ⟨fun h => h.2, fun h => ⟨hz, h⟩⟩
      have HBK := Lib.hid (geo_back s)
      have hlt0 := numAt_lt s 0
      have hlt1 := numAt_lt s 4
      have hlt2 := numAt_lt s 8
      have HYN := Lib.hid (And.intro (@geoT_no s) (@geoT_yes s))
      obtain ⟨n0, hn0⟩ : ∃ n0, numAt s 0 4 = n0 := ⟨_, rfl⟩
      obtain ⟨n1, hn1⟩ : ∃ n1, numAt s 4 4 = n1 := ⟨_, rfl⟩
      obtain ⟨n2, hn2⟩ : ∃ n2, numAt s 8 4 = n2 := ⟨_, rfl⟩
      rw [hn0] at hlt0 hT HBK HYN
      rw [hn1] at hlt1 hT HBK HYN
      rw [hn2] at hlt2 hT HBK HYN
      simp only [hn0, hn1, hn2]
      clear l0 l1 l2 hn0 hn1 hn2
      obtain ⟨W3, hW3⟩ : ∃ W3, (w2.alloc (.cells #[.int .i64 (n0 : Int), .int .i64 (n1 : Int), .int .i64 (n2 : Int)] 24)).drew = W3 := ⟨_, rfl⟩
      have hb3 : Below w2.heap.size w2 W3 := by rw [← hW3]; exact (alloc_below w2 _).drew
      have k3 : W3.heap[w2.heap.size]? = some (.cells #[.int .i64 (n0 : Int), .int .i64 (n1 : Int), .int .i64 (n2 : Int)] 24 (0, 0)) := by rw [← hW3]; exact alloc_new w2 _
      rw [hW3]
      have H3 := Lib.hid (And.intro (H2.out.1.trans (hb3.mono H2.out.1.size)) (And.intro ((hb3.block _ (lt_of_block H2.out.2.1)).trans H2.out.2.1) k3))
      obtain ⟨y0, y1, y2, -, -, -⟩ := blk3 k3
      have HLT := Lib.hid (And.intro hlt0 (And.intro hlt1 hlt2))
      clear hb3 k3 hW3 hlt0 hlt1 hlt2
      go_wp2_with fail
      refine (gput_any n0 n1 n2 W3 (by have := HLT.out; omega) (by have := HLT.out; omega) (by have := HLT.out; omega)).mono ?_
      rintro e w4 ⟨rfl, hb4⟩
      have H4 := Lib.hid (And.intro (H3.out.1.trans (hb4.mono H3.out.1.size)) (And.intro ((hb4.block _ (lt_of_block H3.out.2.1)).trans H3.out.2.1) ((hb4.block _ (lt_of_block H3.out.2.2)).trans H3.out.2.2)))
      clear hb4 y0 y1 y2
      obtain ⟨y0, y1, y2, -, -, -⟩ := blk3 H4.out.2.2
      obtain ⟨z0, z1, z2, f0, f1, f2⟩ := blk3 H4.out.2.1
      cases h : geoOk (n0 : Int) n1 n2
      · rw [h] at hT
        rw [(geo_no h).2.1]
        have HV := Lib.hid (HYN.out.1 (by rw [hT]; exact Bool.false_ne_true))
        clear h hT
        go_wp2
        refine bodyPost_ret (v := .tuple #[geoV 0 0 0, .int .i64 3]) (by simp [results, Try.results19, go_sem, geoV, z0, z1, z2]) rfl ?_
        exact HR.out _ _ ⟨by rw [HV.out.1, HV.out.2.1, HV.out.2.2.1, HV.out.2.2.2.1], ((H4.out.1.setCell (Nat.le_refl _) _).setCell (Nat.le_refl _) _).setCell (Nat.le_refl _) _⟩
      · rw [h] at hT
        have hok := geo_ok.1 h
        have h8 : ((n0 : Int) == 0) = false := by rw [beq_eq_false_iff_ne]; omega
        have h8' : ¬ (n0 : Int) = 0 := by omega
        rw [(geo_yes h).1, HBK.out hT]
        have HV := Lib.hid (HYN.out.2 hT)
        clear h hT hok
        go_wp2
        refine bodyPost_ret (v := .tuple #[geoV n0 n1 n2, .int .i64 0]) (by simp [results, Try.results19, go_sem, geoV, z0, z1, z2]) rfl ?_
        exact HR.out _ _ ⟨by rw [HV.out.1, HV.out.2.1, HV.out.2.2.1, HV.out.2.2.2], ((H4.out.1.setCell (Nat.le_refl _) _).setCell (Nat.le_refl _) _).setCell (Nat.le_refl _) _⟩
  · simp only [hE] at HU
    have hno : ¬ geoT s = true := by simp only [geoT, decide_eq_true_eq]; exact fun h => hz h.1
    have HV := Lib.hid (geoT_no hno)
    clear hno hz hE
    go_enter Try.func19, Try.ntmps19
    go_wp2_with fail
    refine (gwidths_any _).mono ?_
    rintro e w1 ⟨rfl, rfl⟩
    go_wp2_with fail
    refine (HU.out _ (RdI.block _ 93 (0, 0) 3 rfl (by decide) (alloc_new W _))).mono ?_
    rintro e w2 ⟨v, rfl, hr, hb2⟩
    have hbW := (alloc_below W (.cells #[.int .i64 4, .int .i64 4, .int .i64 4] 93)).trans (hb2.mono (by simp))
    have H2 := Lib.hid (And.intro (HW.out.1.trans (hbW.mono HW.out.1.size)) ((hbW.block _ (lt_of_block HW.out.2)).trans HW.out.2))
    obtain ⟨z0, z1, z2, f0, f1, f2⟩ := blk3 H2.out.2
    clear hr hb2 hbW hW
    go_wp2
    refine bodyPost_ret (v := .tuple #[geoV 0 0 0, .int .i64 3]) (by simp [results, Try.results19, go_sem, geoV, z0, z1, z2]) rfl ?_
    exact HR.out _ _ ⟨by rw [HV.out.1, HV.out.2.1, HV.out.2.2.1, HV.out.2.2.2.1], ((H2.out.1.setCell (Nat.le_refl _) _).setCell (Nat.le_refl _) _).setCell (Nat.le_refl _) _⟩
end Go.Proofs.Ytgaoammkegcdcaa
/- A shape's bytes, and the shape of bytes: the reference's. -/
namespace Go.Proofs.Ytgaoammkegcdcaa
open Go.RowKit Ks
set_option linter.unusedVariables false
set_option maxHeartbeats 1000000 in
set_option maxRecDepth 100000 in
theorem rgput_any (b l f : Int) (w : World) (hb : -9223372036854775808 ≤ b ∧ b ≤ 9223372036854775807) (hl : -9223372036854775808 ≤ l ∧ l ≤ 9223372036854775807) (hf : -9223372036854775808 ≤ f ∧ f ≤ 9223372036854775807) :
    Calls Try.prog 30 #[geoV b l f] w fun e w' => e = .returned (.tuple #[.string (geoS b l f), .bool (geoOk b l f)]) ∧ Below w.heap.size w w' := by
  refine calls_by fun R HR => ?_
  have HC := Lib.hid (fun w => gright_any b l f w)
  obtain ⟨W, hW⟩ : ∃ W, w.alloc (.cells #[.int .i64 b, .int .i64 l, .int .i64 f] 24) = W := ⟨_, rfl⟩
  have HW := Lib.hid (And.intro (show Below w.heap.size w W by rw [← hW]; exact alloc_below w _) (show W.heap[w.heap.size]? = some (.cells #[.int .i64 b, .int .i64 l, .int .i64 f] 24 (0, 0)) by rw [← hW]; exact alloc_new w _))
  obtain ⟨c0, c1, c2, -, -, -⟩ := blk3 HW.out.2
  cases h : geoOk b l f
  · have HV := Lib.hid (And.intro (geo_no h).1 h)
    simp only [h] at HC
    clear h
    go_enter Try.func30, Try.ntmps30
    go_wp2_with fail
    refine (HC.out _).mono ?_
    rintro e w1 ⟨rfl, hb1⟩
    have H1 := Lib.hid (HW.out.1.trans (hb1.mono HW.out.1.size))
    clear hb1
    go_wp2
    exact HR.out _ _ ⟨by rw [HV.out.1, HV.out.2] <;> rfl, H1.out⟩
  · have HV := Lib.hid (And.intro (geo_cat b l f h) h)
    obtain ⟨g1, g2, g3, g4, g5, g6⟩ := geo_ok.1 h
    have z0 : (putS b 4).size = 4 := by rw [putS4 b (by omega) (by omega)]; exact putL_length 4 _
    have z1 : (putS l 4).size = 4 := by rw [putS4 l (by omega) (by omega)]; exact putL_length 4 _
    have z2 : (putS f 4).size = 4 := by rw [putS4 f (by omega) (by omega)]; exact putL_length 4 _
    have HP := Lib.hid (And.intro (fun w => rput_any b 4 w hb.2) (And.intro (fun w => rput_any l 4 w hl.2) (fun w => rput_any f 4 w hf.2)))
    simp only [h] at HC
    clear h
    go_enter Try.func30, Try.ntmps30
    go_wp2_with fail
    refine (HC.out _).mono ?_
    rintro e w1 ⟨rfl, hb1⟩
    have H1 := Lib.hid (And.intro (HW.out.1.trans (hb1.mono HW.out.1.size)) ((hb1.block _ (lt_of_block HW.out.2)).trans HW.out.2))
    clear hb1 c0 c1 c2
    obtain ⟨c0, c1, c2, -, -, -⟩ := blk3 H1.out.2
    go_wp2_with fail
    refine (HP.out.1 _).mono ?_
    rintro e w2 ⟨rfl, hb2⟩
    have H2 := Lib.hid (And.intro (H1.out.1.trans (hb2.mono H1.out.1.size)) ((hb2.block _ (lt_of_block H1.out.2)).trans H1.out.2))
    clear hb2 c0 c1 c2
    obtain ⟨c0, c1, c2, -, -, -⟩ := blk3 H2.out.2
    go_wp2_with fail
    refine (HP.out.2.1 _).mono ?_
    rintro e w3 ⟨rfl, hb3⟩
    have H3 := Lib.hid (And.intro (H2.out.1.trans (hb3.mono H2.out.1.size)) ((hb3.block _ (lt_of_block H2.out.2)).trans H2.out.2))
    clear hb3 c0 c1 c2
    obtain ⟨c0, c1, c2, -, -, -⟩ := blk3 H3.out.2
    go_wp2_with fail
    refine (HP.out.2.2 _).mono ?_
    rintro e w4 ⟨rfl, hb4⟩
    have H4 := Lib.hid (H3.out.1.trans (hb4.mono H3.out.1.size))
    clear hb4 c0 c1 c2
    go_wp2
    exact HR.out _ _ ⟨by rw [← HV.out.1, HV.out.2] <;> rfl, H4.out⟩
set_option maxHeartbeats 1000000 in
set_option maxRecDepth 100000 in
theorem rgtake_any (s : ByteArray) (w : World) :
    Calls Try.prog 21 #[.string s] w fun e w' => e = .returned (.tuple #[geoV (gN0 s) (gN1 s) (gN2 s), .bool (geoT s)]) ∧ Below w.heap.size w w' := by
  refine calls_by fun R HR => ?_
  obtain ⟨W, hW⟩ : ∃ W, w.alloc (.cells #[.int .i64 0, .int .i64 0, .int .i64 0] 24) = W := ⟨_, rfl⟩
  have HW := Lib.hid (And.intro (show Below w.heap.size w W by rw [← hW]; exact alloc_below w _) (show W.heap[w.heap.size]? = some (.cells #[.int .i64 0, .int .i64 0, .int .i64 0] 24 (0, 0)) by rw [← hW]; exact alloc_new w _))
  obtain ⟨z0, z1, z2, f0, f1, f2⟩ := blk3 HW.out.2
  by_cases hz : s.size = 12
  · have hzb : ((s.size : Int) != 12) = false := by rw [hz]; rfl
    have g0 : getV (s.extract 0 4) = (numAt s 0 4 : Int) := (getV_at s 0 4 (by decide) (by decide) (by omega)).1
    have g1 : getV (s.extract 4 8) = (numAt s 4 4 : Int) := (getV_at s 4 8 (by decide) (by decide) (by omega)).1
    have g2 : getV (s.extract 8 s.size) = (numAt s 8 4 : Int) := by rw [hz]; exact (getV_at s 8 12 (by decide) (by decide) (by omega)).1
    have HG := Lib.hid (And.intro g0 (And.intro g1 g2))
    have hT : geoT s = geoOk (numAt s 0 4) (numAt s 4 4) (numAt s 8 4) := by unfold geoT; rw [Bool.eq_iff_iff, decide_eq_true_iff]; exact ⟨fun h => h.2, fun h => ⟨hz, h⟩⟩
    have h4 : (4 : Int) ≤ (s.size : Int) := by omega
    have h8 : (8 : Int) ≤ (s.size : Int) := by omega
    have h4n : 4 ≤ s.size := by omega
    have h8n : 8 ≤ s.size := by omega
    have HYN := Lib.hid (And.intro (@geoT_no s) (@geoT_yes s))
    clear hz g0 g1 g2 z0 z1 z2 f0 f1 f2
    go_enter Try.func21, Try.ntmps21
    go_wp2_with fail
    refine (rget_any _ _).mono ?_
    rintro e w1 ⟨rfl, rfl⟩
    rw [HG.out.1]
    go_wp2_with fail
    refine (rget_any _ _).mono ?_
    rintro e w1 ⟨rfl, rfl⟩
    rw [HG.out.2.1]
    go_wp2_with fail
    refine (rget_any _ _).mono ?_
    rintro e w1 ⟨rfl, rfl⟩
    rw [HG.out.2.2]
    obtain ⟨n0, hn0⟩ : ∃ n0, numAt s 0 4 = n0 := ⟨_, rfl⟩
    obtain ⟨n1, hn1⟩ : ∃ n1, numAt s 4 4 = n1 := ⟨_, rfl⟩
    obtain ⟨n2, hn2⟩ : ∃ n2, numAt s 8 4 = n2 := ⟨_, rfl⟩
    rw [hn0, hn1, hn2] at hT HYN
    rw [hn0, hn1, hn2]
    clear hn0 hn1 hn2 HG
    go_wp2_with fail
    have HC := Lib.hid (fun w => gright_any n0 n1 n2 w)
    refine (HC.out _).mono ?_
    rintro e w3 ⟨rfl, hb3⟩
    have hA3 := (alloc_below W (.cells #[.int .i64 (n0 : Int), .int .i64 (n1 : Int), .int .i64 (n2 : Int)] 24)).trans (hb3.mono (by simp))
    have k3 := (hb3.block _ (by simp)).trans (alloc_new W (.cells #[.int .i64 (n0 : Int), .int .i64 (n1 : Int), .int .i64 (n2 : Int)] 24))
    have H3 := Lib.hid (And.intro (HW.out.1.trans (hA3.mono HW.out.1.size)) (And.intro ((hA3.block _ (lt_of_block HW.out.2)).trans HW.out.2) k3))
    clear hb3 hA3 k3 HC
    obtain ⟨y0, y1, y2, -, -, -⟩ := blk3 H3.out.2.2
    obtain ⟨z0, z1, z2, f0, f1, f2⟩ := blk3 H3.out.2.1
    cases h : geoOk (n0 : Int) n1 n2
    · rw [h] at hT
      have HV := Lib.hid (HYN.out.1 (by rw [hT]; exact Bool.false_ne_true))
      clear h hT
      go_wp2
      refine bodyPost_ret (v := .tuple #[geoV 0 0 0, .bool false]) (by simp [results, Try.results21, go_sem, geoV, z0, z1, z2]) rfl ?_
      exact HR.out _ _ ⟨by rw [HV.out.1, HV.out.2.1, HV.out.2.2.1, HV.out.2.2.2.2], ((H3.out.1.setCell (Nat.le_refl _) _).setCell (Nat.le_refl _) _).setCell (Nat.le_refl _) _⟩
    · rw [h] at hT
      have HV := Lib.hid (And.intro (HYN.out.2 hT) hT)
      clear h hT
      go_wp2
      refine bodyPost_ret (v := .tuple #[geoV n0 n1 n2, .bool true]) (by simp [results, Try.results21, go_sem, geoV, z0, z1, z2]) rfl ?_
      exact HR.out _ _ ⟨by rw [HV.out.1.1, HV.out.1.2.1, HV.out.1.2.2.1, HV.out.2], ((H3.out.1.setCell (Nat.le_refl _) _).setCell (Nat.le_refl _) _).setCell (Nat.le_refl _) _⟩
  · have hzb : ((s.size : Int) != 12) = true := by rw [bne_iff_ne]; omega
    have hno : ¬ geoT s = true := by simp only [geoT, decide_eq_true_eq]; exact fun h => hz h.1
    have HV := Lib.hid (geoT_no hno)
    clear hno hz
    go_enter Try.func21, Try.ntmps21
    go_wp2
    refine bodyPost_ret (v := .tuple #[geoV 0 0 0, .bool false]) (by simp [results, Try.results21, go_sem, geoV, z0, z1, z2]) rfl ?_
    exact HR.out _ _ ⟨by rw [HV.out.1, HV.out.2.1, HV.out.2.2.1, HV.out.2.2.2.2], ((HW.out.1.setCell (Nat.le_refl _) _).setCell (Nat.le_refl _) _).setCell (Nat.le_refl _) _⟩
end Go.Proofs.Ytgaoammkegcdcaa
/- Superblocks: plain. -/
namespace Ks
open Go Go.RowKit
set_option linter.unusedVariables false
def supOk (g t e c b l f : Int) : Bool := geoOk b l f && decide (1 ≤ g ∧ g ≤ 1152921504606846976 ∧ 0 ≤ t ∧ t ≤ b - 4 ∧ f ≤ e ∧ e ≤ 4294967295 ∧ 0 ≤ c ∧ c ≤ 1099511627776)
theorem sup_ok {g t e c b l f : Int} : supOk g t e c b l f = true ↔ geoOk b l f = true ∧ 1 ≤ g ∧ g ≤ 1152921504606846976 ∧ 0 ≤ t ∧ t ≤ b - 4 ∧ f ≤ e ∧ e ≤ 4294967295 ∧ 0 ≤ c ∧ c ≤ 1099511627776 := by simp [supOk]
def supE (g t e c b l f : Int) : Int := if supOk g t e c b l f then 0 else 2
def markL : List UInt8 := [107, 101, 101, 112, 115, 97, 107, 101, 49]
def supN (g t e c : Int) : List UInt8 := putL 8 g.toNat ++ putL 4 t.toNat ++ putL 4 e.toNat ++ putL 8 c.toNat
def supL (g t e c b l f : Int) : List UInt8 := markL ++ supN g t e c ++ geoL b l f
def supB (g t e c b l f : Int) : List UInt8 := supL g t e c b l f ++ (shaL (supL g t e c b l f) ++ List.replicate 4019 0)
def supS (g t e c b l f : Int) : ByteArray := if supOk g t e c b l f then ⟨(supB g t e c b l f).toArray⟩ else ⟨#[]⟩
theorem supN_length (g t e c : Int) : (supN g t e c).length = 24 := by simp [supN]
theorem supL_length (g t e c b l f : Int) : (supL g t e c b l f).length = 45 := by rw [supL, List.length_append, List.length_append, supN_length, geoL_length]; rfl
theorem sup_no {g t e c b l f : Int} (h : supOk g t e c b l f = false) : supS g t e c b l f = ⟨#[]⟩ ∧ supE g t e c b l f = 2 := by
  have h' : ¬ supOk g t e c b l f = true := by rw [h]; exact Bool.false_ne_true
  exact ⟨by rw [supS, if_neg h'], by rw [supE, if_neg h']⟩
theorem sup_yes {g t e c b l f : Int} (h : supOk g t e c b l f = true) : supE g t e c b l f = 0 := by rw [supE, if_pos h]
/-- either bad in one of nine ways, or right -/
theorem sup_cases (g t e c b l f : Int) : (geoOk b l f = false ∧ supOk g t e c b l f = false) ∨ (geoOk b l f = true ∧ (
    (g < 1 ∧ supOk g t e c b l f = false) ∨ (1 ≤ g ∧ 1152921504606846976 < g ∧ supOk g t e c b l f = false) ∨ (1 ≤ g ∧ g ≤ 1152921504606846976 ∧ t < 0 ∧ supOk g t e c b l f = false) ∨
    (1 ≤ g ∧ g ≤ 1152921504606846976 ∧ 0 ≤ t ∧ b - 4 < t ∧ supOk g t e c b l f = false) ∨ (1 ≤ g ∧ g ≤ 1152921504606846976 ∧ 0 ≤ t ∧ t ≤ b - 4 ∧ (
      (e < f ∧ supOk g t e c b l f = false) ∨ (f ≤ e ∧ 4294967295 < e ∧ supOk g t e c b l f = false) ∨ (f ≤ e ∧ e ≤ 4294967295 ∧ c < 0 ∧ supOk g t e c b l f = false) ∨ (f ≤ e ∧ e ≤ 4294967295 ∧ 0 ≤ c ∧ 1099511627776 < c ∧ supOk g t e c b l f = false) ∨
      (f ≤ e ∧ e ≤ 4294967295 ∧ 0 ≤ c ∧ c ≤ 1099511627776 ∧ supOk g t e c b l f = true))))) := by
  have e0 : supOk g t e c b l f = (geoOk b l f && decide (1 ≤ g ∧ g ≤ 1152921504606846976 ∧ 0 ≤ t ∧ t ≤ b - 4 ∧ f ≤ e ∧ e ≤ 4294967295 ∧ 0 ≤ c ∧ c ≤ 1099511627776)) := rfl
  rw [e0]
  cases geoOk b l f
  · left; exact ⟨rfl, rfl⟩
  · right
    refine ⟨rfl, ?_⟩
    simp only [Bool.true_and, decide_eq_false_iff_not, decide_eq_true_eq]
    omega
theorem putOk8 (n : Int) (h0 : 0 ≤ n) : putOk n 8 = true := by
  simp only [putOk, decide_eq_true_eq]
  exact ⟨by omega, by omega, h0, fun h => absurd h (by decide)⟩
theorem putS8 (n : Int) (h0 : 0 ≤ n) : putS n 8 = ⟨(putL 8 n.toNat).toArray⟩ := by rw [putS, if_pos (putOk8 n h0)]; rfl
theorem sup_pack (g t e c : Int) (h1 : 0 ≤ g) (h2 : 0 ≤ t ∧ t ≤ 4294967295) (h3 : 0 ≤ e ∧ e ≤ 4294967295) (h4 : 0 ≤ c) : packE [8, 4, 4, 8] [g, t, e, c] = 0 ∧ packS [8, 4, 4, 8] [g, t, e, c] = ⟨(supN g t e c).toArray⟩ := by
  have hp : packOk [8, 4, 4, 8] [g, t, e, c] = true := by
    simp only [packOk, decide_eq_true_eq]
    refine ⟨rfl, fun i hi => ?_⟩
    match i, hi with
    | 0, _ => exact putOk8 g h1
    | 1, _ => exact putOk4 t h2.1 h2.2
    | 2, _ => exact putOk4 e h3.1 h3.2
    | 3, _ => exact putOk8 c h4
    | n + 4, hi => exact absurd hi (by simp)
  refine ⟨by rw [packE, if_pos hp], ?_⟩
  rw [packS, if_pos hp, supN]
  simp [packTo]
def markB : ByteArray := ⟨#[107, 101, 101, 112, 115, 97, 107, 101, 49]⟩
theorem sup_cat (g t e c b l f : Int) (h : supOk g t e c b l f = true) : (⟨(supN g t e c).toArray⟩ : ByteArray).size = 24 ∧ (markB ++ (⟨(supN g t e c).toArray⟩ : ByteArray) ++ geoS b l f).data.toList = supL g t e c b l f ∧ (markB ++ (⟨(supN g t e c).toArray⟩ : ByteArray) ++ geoS b l f).size = 45 ∧
    (markB ++ (⟨(supN g t e c).toArray⟩ : ByteArray) ++ geoS b l f ++ (⟨(shaL (supL g t e c b l f)).toArray⟩ : ByteArray)).size = 77 ∧
    fillS (markB ++ (⟨(supN g t e c).toArray⟩ : ByteArray) ++ geoS b l f ++ (⟨(shaL (supL g t e c b l f)).toArray⟩ : ByteArray)) 4096 = supS g t e c b l f ∧ fillE (markB ++ (⟨(supN g t e c).toArray⟩ : ByteArray) ++ geoS b l f ++ (⟨(shaL (supL g t e c b l f)).toArray⟩ : ByteArray)) 4096 = 0 ∧
    markB ++ (⟨(supN g t e c).toArray⟩ : ByteArray) ++ geoS b l f ++ (⟨(shaL (supL g t e c b l f)).toArray⟩ : ByteArray) ++ zerosS 4019 = supS g t e c b l f := by
  have hg := (sup_ok.1 h).1
  have e1 : markB ++ (⟨(supN g t e c).toArray⟩ : ByteArray) ++ geoS b l f = ⟨(supL g t e c b l f).toArray⟩ := by
    rw [geoS, if_pos hg, show markB = ⟨markL.toArray⟩ from rfl, ByteArray.mk_append_mk, ByteArray.mk_append_mk, supL]
  have e2 : markB ++ (⟨(supN g t e c).toArray⟩ : ByteArray) ++ geoS b l f ++ (⟨(shaL (supL g t e c b l f)).toArray⟩ : ByteArray) = ⟨(supL g t e c b l f ++ shaL (supL g t e c b l f)).toArray⟩ := by rw [e1, ByteArray.mk_append_mk]
  have hz : (markB ++ (⟨(supN g t e c).toArray⟩ : ByteArray) ++ geoS b l f ++ (⟨(shaL (supL g t e c b l f)).toArray⟩ : ByteArray)).size = 77 := by
    rw [e2]
    show (supL g t e c b l f ++ shaL (supL g t e c b l f)).length = _
    rw [List.length_append, supL_length, shaL_length]
  have hR : markB ++ (⟨(supN g t e c).toArray⟩ : ByteArray) ++ geoS b l f ++ (⟨(shaL (supL g t e c b l f)).toArray⟩ : ByteArray) ++ zerosS 4019 = supS g t e c b l f := by
    rw [e2, zerosS, ByteArray.mk_append_mk, supS, if_pos h, supB, List.append_assoc]
    rfl
  refine ⟨supN_length g t e c, by rw [e1], by rw [e1]; exact supL_length g t e c b l f, hz, ?_, ?_, hR⟩
  · rw [fillS, if_pos (by simp only [fillOk, decide_eq_true_eq]; rw [hz]; omega), hz]
    exact hR
  · rw [fillE, if_pos (by simp only [fillOk, decide_eq_true_eq]; rw [hz]; omega)]
theorem supN_eq (g t e c : Int) (h1 : 0 ≤ g) (h2 : 0 ≤ t ∧ t ≤ 4294967295) (h3 : 0 ≤ e ∧ e ≤ 4294967295) (h4 : 0 ≤ c) : markB ++ putS g 8 ++ putS t 4 ++ putS e 4 ++ putS c 8 = markB ++ (⟨(supN g t e c).toArray⟩ : ByteArray) := by
  rw [putS8 g h1, putS4 t h2.1 h2.2, putS4 e h3.1 h3.2, putS8 c h4, show markB = ⟨markL.toArray⟩ from rfl, ByteArray.mk_append_mk, ByteArray.mk_append_mk, ByteArray.mk_append_mk, ByteArray.mk_append_mk, ByteArray.mk_append_mk, supN]
  simp
end Ks
/- A superblock as a value, and as cells. -/
namespace Ks
open Go Go.RowKit
theorem blk7 {w : World} {b : Nat} {c0 c1 c2 c3 c4 c5 c6 : Value} {T : TypeId} (h : w.heap[b]? = some (.cells #[c0, c1, c2, c3, c4, c5, c6] T (0, 0))) : w.cell? ⟨b, 0, none⟩ = some c0 ∧ w.cell? ⟨b, 1, none⟩ = some c1 ∧ w.cell? ⟨b, 2, none⟩ = some c2 ∧ w.cell? ⟨b, 3, none⟩ = some c3 ∧ w.cell? ⟨b, 4, none⟩ = some c4 ∧ w.cell? ⟨b, 5, none⟩ = some c5 ∧ w.cell? ⟨b, 6, none⟩ = some c6 :=
  ⟨by rw [cell_of_row w b 0 _ _ _ h]; rfl, by rw [cell_of_row w b 1 _ _ _ h]; rfl, by rw [cell_of_row w b 2 _ _ _ h]; rfl, by rw [cell_of_row w b 3 _ _ _ h]; rfl, by rw [cell_of_row w b 4 _ _ _ h]; rfl, by rw [cell_of_row w b 5 _ _ _ h]; rfl, by rw [cell_of_row w b 6 _ _ _ h]; rfl⟩
end Ks
namespace Go.Proofs.Ytgaoammkegcdcaa
open Go.RowKit Ks
abbrev supV (g t e c b l f : Int) : Value := .agg #[.int .i64 g, .int .i64 t, .int .i64 e, .int .i64 c, .int .i64 b, .int .i64 l, .int .i64 f]
end Go.Proofs.Ytgaoammkegcdcaa
/- A superblock: super.Check and the reference's Right. -/
namespace Go.Proofs.Ytgaoammkegcdcaa
open Go.RowKit Ks
set_option linter.unusedVariables false
set_option maxHeartbeats 4000000 in
set_option maxRecDepth 100000 in
theorem scheck_any (g t e c b l f : Int) (w : World) (hb : -9223372036854775808 ≤ b ∧ b ≤ 9223372036854775807) : Calls Try.prog 13 #[supV g t e c b l f] w fun e' w' => e' = .returned (.int .i64 (supE g t e c b l f)) ∧ Below w.heap.size w w' := by
  refine calls_by fun R HR => ?_
  have HC := Lib.hid (fun w => gcheck_any b l f w)
  have HD := Lib.hid (fun w => gdata_any b l f w hb)
  obtain ⟨W, hW⟩ : ∃ W, w.alloc (.cells #[.int .i64 g, .int .i64 t, .int .i64 e, .int .i64 c, .int .i64 b, .int .i64 l, .int .i64 f] 26) = W := ⟨_, rfl⟩
  have HW := Lib.hid (And.intro (show Below w.heap.size w W by rw [← hW]; exact alloc_below w _) (show W.heap[w.heap.size]? = some (.cells #[.int .i64 g, .int .i64 t, .int .i64 e, .int .i64 c, .int .i64 b, .int .i64 l, .int .i64 f] 26 (0, 0)) by rw [← hW]; exact alloc_new w _))
  obtain ⟨c0, c1, c2, c3, c4, c5, c6⟩ := blk7 HW.out.2
  rcases sup_cases g t e c b l f with ⟨h0, h⟩ | ⟨h0, h⟩
  · have HV := Lib.hid (sup_no h).2
    rw [(geo_no h0).2.1] at HC
    clear h h0 HD hb
    go_enter Try.func13, Try.ntmps13
    go_wp2_with fail
    refine (HC.out _).mono ?_
    rintro en w1 ⟨rfl, hb1⟩
    have H1 := Lib.hid (HW.out.1.trans (hb1.mono HW.out.1.size))
    clear hb1 c0 c1 c2 c3 c4 c5 c6
    go_wp2
    exact HR.out _ _ ⟨by rw [HV.out] <;> rfl, H1.out⟩
  · rw [(geo_yes h0).1] at HC
    rw [(geo_yes h0).2] at HD
    have hg := geo_ok.1 h0
    have hb4 : 0 ≤ b - 4 ∧ b - 4 ≤ 9223372036854775807 := by omega
    clear hg h0
    rcases h with ⟨k1, h⟩ | ⟨k1, k2, h⟩ | ⟨k1, k2, k3, h⟩ | ⟨k1, k2, k3, k4, h⟩ | ⟨k1, k2, k3, k4, h⟩
    iterate 3
      · have HV := Lib.hid (sup_no h).2
        clear h
        go_enter Try.func13, Try.ntmps13
        go_wp2_with fail
        refine (HC.out _).mono ?_
        rintro en w1 ⟨rfl, hb1⟩
        have H1 := Lib.hid (And.intro (HW.out.1.trans (hb1.mono HW.out.1.size)) ((hb1.block _ (lt_of_block HW.out.2)).trans HW.out.2))
        clear hb1 c0 c1 c2 c3 c4 c5 c6
        obtain ⟨c0, c1, c2, c3, c4, c5, c6⟩ := blk7 H1.out.2
        go_wp2_with go_quiet (fail)
        exact HR.out _ _ ⟨by rw [HV.out] <;> rfl, H1.out.1.trans ⟨rfl, rfl, rfl, Nat.le_refl _, fun _ _ => rfl⟩⟩
    · have HV := Lib.hid (sup_no h).2
      clear h
      all_goals
        go_enter Try.func13, Try.ntmps13
        go_wp2_with fail
        refine (HC.out _).mono ?_
        rintro en w1 ⟨rfl, hb1⟩
        have H1 := Lib.hid (And.intro (HW.out.1.trans (hb1.mono HW.out.1.size)) ((hb1.block _ (lt_of_block HW.out.2)).trans HW.out.2))
        clear hb1 c0 c1 c2 c3 c4 c5 c6
        obtain ⟨c0, c1, c2, c3, c4, c5, c6⟩ := blk7 H1.out.2
        have x0 := after_cell c0
        have x1 := after_cell c1
        have x2 := after_cell c2
        have x3 := after_cell c3
        have x4 := after_cell c4
        have x5 := after_cell c5
        have x6 := after_cell c6
        have cD := fun q => calls_after (HD.out (After w1 q))
        go_wp2_with fail
        refine wp_region_after (by kernel_rfl) (by kernel_rfl) ?_
        repeat (quiet_step (exact cD _))
        refine wpQuiet_nil ?_
        rintro w2 ⟨q, rfl⟩
        have hb2 := after_below w1 q
        have H2 := Lib.hid (And.intro (H1.out.1.trans (hb2.mono H1.out.1.size)) ((hb2.block _ (lt_of_block H1.out.2)).trans H1.out.2))
        generalize After w1 q = w2 at *
        clear hb2 x0 x1 x2 x3 x4 x5 x6 cD c0 c1 c2 c3 c4 c5 c6
        obtain ⟨c0, c1, c2, c3, c4, c5, c6⟩ := blk7 H2.out.2
        go_wp2
        exact HR.out _ _ ⟨by rw [HV.out] <;> rfl, H2.out.1⟩
    · rcases h with ⟨m1, h⟩ | ⟨m1, m2, h⟩ | ⟨m1, m2, m3, h⟩ | ⟨m1, m2, m3, m4, h⟩ | ⟨m1, m2, m3, m4, h⟩
      all_goals
        have HV : Hid (supE g t e c b l f = (if supOk g t e c b l f then 0 else 2)) := Lib.hid rfl
        rw [h] at HV
        clear h
        go_enter Try.func13, Try.ntmps13
        go_wp2_with fail
        refine (HC.out _).mono ?_
        rintro en w1 ⟨rfl, hb1⟩
        have H1 := Lib.hid (And.intro (HW.out.1.trans (hb1.mono HW.out.1.size)) ((hb1.block _ (lt_of_block HW.out.2)).trans HW.out.2))
        clear hb1 c0 c1 c2 c3 c4 c5 c6
        obtain ⟨c0, c1, c2, c3, c4, c5, c6⟩ := blk7 H1.out.2
        have x0 := after_cell c0
        have x1 := after_cell c1
        have x2 := after_cell c2
        have x3 := after_cell c3
        have x4 := after_cell c4
        have x5 := after_cell c5
        have x6 := after_cell c6
        have cD := fun q => calls_after (HD.out (After w1 q))
        go_wp2_with fail
        refine wp_region_after (by kernel_rfl) (by kernel_rfl) ?_
        repeat (quiet_step (exact cD _))
        refine wpQuiet_nil ?_
        rintro w2 ⟨q, rfl⟩
        have hb2 := after_below w1 q
        have H2 := Lib.hid (And.intro (H1.out.1.trans (hb2.mono H1.out.1.size)) ((hb2.block _ (lt_of_block H1.out.2)).trans H1.out.2))
        generalize After w1 q = w2 at *
        clear hb2 x0 x1 x2 x3 x4 x5 x6 cD c0 c1 c2 c3 c4 c5 c6
        obtain ⟨c0, c1, c2, c3, c4, c5, c6⟩ := blk7 H2.out.2
        go_wp2
        exact HR.out _ _ ⟨by rw [HV.out] <;> rfl, H2.out.1⟩
end Go.Proofs.Ytgaoammkegcdcaa
/- A superblock: the reference's Right. -/
namespace Go.Proofs.Ytgaoammkegcdcaa
open Go.RowKit Ks
set_option linter.unusedVariables false
set_option maxHeartbeats 4000000 in
set_option maxRecDepth 100000 in
theorem sright_any (g t e c b l f : Int) (w : World) (hb : -9223372036854775808 ≤ b ∧ b ≤ 9223372036854775807) : Calls Try.prog 28 #[supV g t e c b l f] w fun e' w' => e' = .returned (.bool (supOk g t e c b l f)) ∧ Below w.heap.size w w' := by
  refine calls_by fun R HR => ?_
  have HC := Lib.hid (fun w => gright_any b l f w)
  have HD := Lib.hid (fun w => rgdata_any b l f w hb)
  obtain ⟨W, hW⟩ : ∃ W, w.alloc (.cells #[.int .i64 g, .int .i64 t, .int .i64 e, .int .i64 c, .int .i64 b, .int .i64 l, .int .i64 f] 26) = W := ⟨_, rfl⟩
  have HW := Lib.hid (And.intro (show Below w.heap.size w W by rw [← hW]; exact alloc_below w _) (show W.heap[w.heap.size]? = some (.cells #[.int .i64 g, .int .i64 t, .int .i64 e, .int .i64 c, .int .i64 b, .int .i64 l, .int .i64 f] 26 (0, 0)) by rw [← hW]; exact alloc_new w _))
  obtain ⟨c0, c1, c2, c3, c4, c5, c6⟩ := blk7 HW.out.2
  have x0 := after_cell c0
  have x1 := after_cell c1
  have x2 := after_cell c2
  have x3 := after_cell c3
  have x4 := after_cell c4
  have x5 := after_cell c5
  have x6 := after_cell c6
  rcases sup_cases g t e c b l f with ⟨h0, h⟩ | ⟨h0, h | h | h | h | ⟨k1, k2, k3, k4, h | h | h | h | h⟩⟩
  all_goals
    first
      | obtain ⟨k1, k2, k3, k4, h⟩ := h
      | obtain ⟨k1, k2, k3, h⟩ := h
      | obtain ⟨k1, k2, h⟩ := h
      | obtain ⟨k1, h⟩ := h
      | skip
    have HV := Lib.hid h
    first
      | (rw [(geo_yes h0).2] at HD; have hg := geo_ok.1 h0; have hb4 : 0 ≤ b - 4 ∧ b - 4 ≤ 9223372036854775807 := by omega)
      | skip
    try clear hg
    simp only [h0] at HC
    try have n1 : decide (1 ≤ g) = false := by rw [decide_eq_false_iff_not]; omega
    try have n2 : decide (g ≤ 1152921504606846976) = false := by rw [decide_eq_false_iff_not]; omega
    try have n3 : decide (0 ≤ t) = false := by rw [decide_eq_false_iff_not]; omega
    try have n4 : decide (t ≤ b - 4) = false := by rw [decide_eq_false_iff_not]; omega
    try have n5 : decide (f ≤ e) = false := by rw [decide_eq_false_iff_not]; omega
    try have n6 : decide (e ≤ 4294967295) = false := by rw [decide_eq_false_iff_not]; omega
    try have n7 : decide (0 ≤ c) = false := by rw [decide_eq_false_iff_not]; omega
    try have n8 : decide (c ≤ 1099511627776) = false := by rw [decide_eq_false_iff_not]; omega
    clear h h0 hb c0 c1 c2 c3 c4 c5 c6
    have cC := fun q => calls_after (HC.out (After W q))
    have cD := fun q => calls_after (HD.out (After W q))
    go_enter Try.func28, Try.ntmps28
    go_wp2_with fail
    refine wp_region_after (by kernel_rfl) (by kernel_rfl) ?_
    repeat (quiet_step (first | exact cC _ | exact cD _))
    refine wpQuiet_nil ?_
    rintro w2 ⟨q, rfl⟩
    have H2 := Lib.hid (HW.out.1.trans ((after_below W q).mono HW.out.1.size))
    generalize After W q = w2 at *
    clear x0 x1 x2 x3 x4 x5 x6 cC cD
    go_wp2
    exact HR.out _ _ ⟨by rw [HV.out] <;> rfl, H2.out⟩
end Go.Proofs.Ytgaoammkegcdcaa
/- The digest's small functions: a number turned, three of them, a number of four bytes; the reference's turn. -/
namespace Ks
open Go Go.RowKit
theorem num_or (a b c d : Nat) (ha : a < 256) (hb : b < 256) (hc : c < 256) (hd : d < 256) :
    bits .or .u32 (bits .or .u32 (bits .or .u32 ((a : Int) % 4294967296 * 16777216 % 4294967296) ((b : Int) % 4294967296 * 65536 % 4294967296)) ((c : Int) % 4294967296 * 256 % 4294967296)) ((d : Int) % 4294967296)
      = ((((a * 256 + b) * 256 + c) * 256 + d : Nat) : Int) := by
  have e1 : ((a : Int) % 4294967296 * 16777216 % 4294967296) = (a : Int) * 16777216 := by omega
  have e2 : ((b : Int) % 4294967296 * 65536 % 4294967296) = (b : Int) * 65536 := by omega
  have e3 : ((c : Int) % 4294967296 * 256 % 4294967296) = (c : Int) * 256 := by omega
  have e4 : ((d : Int) % 4294967296) = (d : Int) := by omega
  have p32 : (2 : Int) ^ 32 = 4294967296 := by decide
  have p24 : (2 : Int) ^ 24 = 16777216 := by decide
  have p16 : (2 : Int) ^ 16 = 65536 := by decide
  have p8 : (2 : Int) ^ 8 = 256 := by decide
  have j1 := bits_join .u32 32 (by decide) wraps_u32 24 ((a : Int) * 16777216) ((b : Int) * 65536) (by omega) (by rw [p24]; omega) (by rw [p32]; omega) (by omega) (by rw [p24]; omega) (by rw [p32]; omega)
  have j2 := bits_join .u32 32 (by decide) wraps_u32 16 ((a : Int) * 16777216 + (b : Int) * 65536) ((c : Int) * 256) (by omega) (by rw [p16]; omega) (by rw [p32]; omega) (by omega) (by rw [p16]; omega) (by rw [p32]; omega)
  have j3 := bits_join .u32 32 (by decide) wraps_u32 8 ((a : Int) * 16777216 + (b : Int) * 65536 + (c : Int) * 256) (d : Int) (by omega) (by rw [p8]; omega) (by rw [p32]; omega) (by omega) (by rw [p8]; omega) (by rw [p32]; omega)
  rw [e1, e2, e3, e4, j1, j2, j3]
  omega
theorem num_bytes (s : ByteArray) (h : 4 ≤ s.size) : getN (s.data.toList.take 4) = (((s[0]).toNat * 256 + (s[1]).toNat) * 256 + (s[2]).toNat) * 256 + (s[3]).toNat := by
  rw [take_snoc s 3 (by omega), getN_snoc, take_snoc s 2 (by omega), getN_snoc, take_snoc s 1 (by omega), getN_snoc, take_snoc s 0 (by omega), getN_snoc]
  simp [getN]
end Ks
namespace Go.Proofs.Ytgaoammkegcdcaa
open Go.RowKit Ks
set_option linter.unusedVariables false

set_option maxHeartbeats 1000000 in
theorem rot_any (x n : Nat) (w : World) (hx : x < 4294967296) (h1 : 1 ≤ n) (h2 : n ≤ 31) :
    Calls Try.prog 72 #[.int .u32 x, .int .i64 (-(n : Int))] w fun e w' => e = .returned (.int .u32 (rotr x n : Nat)) ∧ w' = w := by
  refine calls_by fun R HR => ?_
  have hw : IntKind.u64.wrap (-(n : Int)) = 18446744073709551616 - n := by simp [IntKind.wrap, IntKind.bits, IntKind.signed]; omega
  have hb : bits .and .u64 (18446744073709551616 - (n : Int)) 31 = 32 - n := by
    have e := bits_mask .u64 64 (by decide) (fun m h0 h1 => by rw [show (2 : Int) ^ 64 = 18446744073709551616 from by decide] at h1; simp [IntKind.wrap, IntKind.bits, IntKind.signed]; omega) 5 (by decide) (18446744073709551616 - (n : Int)) (by omega) (by rw [show (2 : Int) ^ 64 = 18446744073709551616 from by decide]; omega)
    rw [show (2 : Int) ^ 5 - 1 = 31 from by decide, show (2 : Int) ^ 5 = 32 from by decide] at e
    rw [e]; omega
  have h0 : (0 : Int) ≤ 32 - n := by omega
  go_enter Try.func72, Try.ntmps72
  go_wp2
  refine HR.out _ _ ⟨?_, rfl⟩
  show Ending.returned (Value.int .u32 (bits .or .u32 ((x : Int) * 2 ^ (32 - n) % 4294967296) ((x : Int) / 2 ^ (32 - (32 - n))))) = _
  rw [← rot_parts x n hx, ← or_u32 _ _ (Nat.mod_lt _ (by decide)) (shr_lt hx n), show 32 - (32 - n) = n by omega, Nat.shiftLeft_eq, Nat.shiftRight_eq_div_pow]
  simp only [Int.natCast_emod, Int.natCast_mul, Int.natCast_pow, Int.natCast_ediv]
  rfl

set_option maxHeartbeats 1000000 in
theorem number_any (s : ByteArray) (w : World) (h : 4 ≤ s.size) :
    Calls Try.prog 71 #[.string s] w fun e w' => e = .returned (.int .u32 (getN (s.data.toList.take 4) : Nat)) ∧ Below w.heap.size w w' := by
  refine calls_by fun R HR => ?_
  have k0 : 0 < s.size := by omega
  have k1 : (1 : Int) < (s.size : Int) := by omega
  have k2 : (2 : Int) < (s.size : Int) := by omega
  have k3 : (3 : Int) < (s.size : Int) := by omega
  go_enter Try.func71, Try.ntmps71
  go_wp2_with fail
  go_quiet (fail)
  go_wp2
  refine HR.out _ _ ⟨?_, below_drewN (Below.refl _ _) _⟩
  rw [num_bytes s h, ← num_or _ _ _ _ (s[0]).toNat_lt (s[1]).toNat_lt (s[2]).toNat_lt (s[3]).toNat_lt]
  rfl

set_option maxHeartbeats 1000000 in
theorem turn_any (x n : Nat) (w : World) (hx : x < 4294967296) (h1 : 1 ≤ n) (h2 : n ≤ 31) :
    Calls Try.prog 60 #[.int .i64 x, .int .i64 n] w fun e w' => e = .returned (.int .i64 (rotr x n : Nat)) ∧ Below w.heap.size w w' := by
  refine calls_by fun R HR => ?_
  go_enter Try.func60, Try.ntmps60
  go_wp2_with fail
  go_quiet (fail)
  go_wp2
  refine HR.out _ _ ⟨?_, below_drewN (Below.refl _ _) _⟩
  show Ending.returned (Value.int .i64 ((bits .or .i64 ((x : Int) / 2 ^ n) (wrap64 ((x : Int) * 2 ^ (32 - n)))).tmod 4294967296)) = _
  have hp : 2 ^ (32 - n) ≤ 2 ^ 31 := Nat.pow_le_pow_right (by decide) (by omega)
  rw [show (2:Nat) ^ 31 = 2147483648 from by decide] at hp
  have hm : x * 2 ^ (32 - n) < 9223372036854775808 := Nat.lt_of_le_of_lt (Nat.mul_le_mul (show x ≤ 4294967295 by omega) hp) (by decide)
  have hw : wrap64 ((x : Int) * 2 ^ (32 - n)) = ((x * 2 ^ (32 - n) : Nat) : Int) := by
    have : ((x * 2 ^ (32 - n) : Nat) : Int) < 9223372036854775808 := by omega
    simp only [Int.natCast_mul, Int.natCast_pow] at this ⊢
    change (x : Int) * 2 ^ (32 - n) < _ at this
    change _ = (x : Int) * 2 ^ (32 - n)
    have h0 : (0 : Int) ≤ (x : Int) * 2 ^ (32 - n) := Int.mul_nonneg (by omega) (Int.pow_nonneg (by decide))
    rw [wrap64]; omega
  have h63 : (2 : Nat) ^ 63 = 9223372036854775808 := by decide
  rw [hw, show (x : Int) / 2 ^ n = ((x / 2 ^ n : Nat) : Int) by simp only [Int.natCast_ediv, Int.natCast_pow]; rfl, or_i64 _ _ (by rw [h63]; exact Nat.lt_of_le_of_lt (Nat.div_le_self _ _) (by omega)) (by rw [h63]; exact hm), rotr, Nat.shiftLeft_eq, Nat.shiftRight_eq_div_pow]
  rw [Int.tmod_eq_emod_of_nonneg (by omega)]
  simp only [Int.natCast_emod]
  rfl

set_option maxHeartbeats 1000000 in
theorem three_shift (x a b c : Nat) (w : World) (hx : x < 4294967296) (ha : 1 ≤ a ∧ a ≤ 31) (hb : 1 ≤ b ∧ b ≤ 31) (hc : 1 ≤ c ∧ c ≤ 31) :
    Calls Try.prog 68 #[.int .u32 x, .int .i64 a, .int .i64 b, .int .i64 c, .bool true] w fun e w' => e = .returned (.int .u32 (sigS x a b c : Nat)) ∧ w' = w := by
  refine calls_by fun R HR => ?_
  obtain ⟨a1, a2⟩ := ha
  obtain ⟨b1, b2⟩ := hb
  obtain ⟨c1, c2⟩ := hc
  go_enter Try.func68, Try.ntmps68
  go_wp2_with fail
  refine (rot_any x c _ hx c1 c2).mono ?_
  rintro e w1 ⟨rfl, rfl⟩
  go_wp2_with fail
  refine (rot_any x a _ hx a1 a2).mono ?_
  rintro e w1 ⟨rfl, rfl⟩
  go_wp2_with fail
  refine (rot_any x b _ hx b1 b2).mono ?_
  rintro e w1 ⟨rfl, rfl⟩
  go_wp2_with fail
  refine HR.out _ _ ⟨?_, rfl⟩
  rw [sigS, ← xor_u32 _ _ (xor32 (rotr_lt _ _) (rotr_lt _ _)) (shr_lt hx c), ← xor_u32 _ _ (rotr_lt _ _) (rotr_lt _ _), Nat.shiftRight_eq_div_pow]
  simp only [Int.natCast_pow, Int.natCast_ediv]
  rfl
set_option maxHeartbeats 1000000 in
theorem three_turn (x a b c : Nat) (w : World) (hx : x < 4294967296) (ha : 1 ≤ a ∧ a ≤ 31) (hb : 1 ≤ b ∧ b ≤ 31) (hc : 1 ≤ c ∧ c ≤ 31) :
    Calls Try.prog 68 #[.int .u32 x, .int .i64 a, .int .i64 b, .int .i64 c, .bool false] w fun e w' => e = .returned (.int .u32 (sigR x a b c : Nat)) ∧ w' = w := by
  refine calls_by fun R HR => ?_
  obtain ⟨a1, a2⟩ := ha
  obtain ⟨b1, b2⟩ := hb
  obtain ⟨c1, c2⟩ := hc
  go_enter Try.func68, Try.ntmps68
  go_wp2_with fail
  refine (rot_any x c _ hx c1 c2).mono ?_
  rintro e w1 ⟨rfl, rfl⟩
  go_wp2_with fail
  refine (rot_any x a _ hx a1 a2).mono ?_
  rintro e w1 ⟨rfl, rfl⟩
  go_wp2_with fail
  refine (rot_any x b _ hx b1 b2).mono ?_
  rintro e w1 ⟨rfl, rfl⟩
  go_wp2_with fail
  refine HR.out _ _ ⟨?_, rfl⟩
  rw [sigR, ← xor_u32 _ _ (xor32 (rotr_lt _ _) (rotr_lt _ _)) (rotr_lt _ _), ← xor_u32 _ _ (rotr_lt _ _) (rotr_lt _ _)]
  rfl
end Go.Proofs.Ytgaoammkegcdcaa
/- Whole arrays out of and into their blocks, by law: no program is in sight. -/
namespace Ks
open Go Go.RowKit
set_option linter.unusedVariables false
/-- numbers, as an array's cells -/
def u32s (l : List Nat) : Array Value := (l.map fun (n : Nat) => Value.int .u32 (n : Int)).toArray
def i64s (l : List Nat) : Array Value := (l.map fun (n : Nat) => Value.int .i64 (n : Int)).toArray
@[simp] theorem u32s_size (l : List Nat) : (u32s l).size = l.length := by simp [u32s]
@[simp] theorem i64s_size (l : List Nat) : (i64s l).size = l.length := by simp [i64s]
theorem u32s_one (l : List Nat) : (u32s l).all (·.oneCell') = true := by simp [u32s]; intro a _; rfl
theorem i64s_one (l : List Nat) : (i64s l).all (·.oneCell') = true := by simp [i64s]; intro a _; rfl
theorem u32s_set (l : List Nat) (i x : Nat) : (u32s l).setIfInBounds i (.int .u32 (x : Int)) = u32s (l.set i x) := by simp [u32s, List.map_set]
theorem i64s_set (l : List Nat) (i x : Nat) : (i64s l).setIfInBounds i (.int .i64 (x : Int)) = i64s (l.set i x) := by simp [i64s, List.map_set]
theorem u32s_get (l : List Nat) (i : Nat) (h : i < l.length) : (u32s l)[i]? = some (.int .u32 ((l.getD i 0 : Nat) : Int)) := by simp [u32s, h]
theorem i64s_get (l : List Nat) (i : Nat) (h : i < l.length) : (i64s l)[i]? = some (.int .i64 ((l.getD i 0 : Nat) : Int)) := by simp [i64s, h]

theorem blk_keep {w : World} {b : Nat} {o : Obj} (h : w.heap[b]? = some o) (o' : Obj) : (w.alloc o').heap[b]? = some o :=
  ((alloc_below w o').block b (Array.getElem?_eq_some_iff.1 h).1).trans h
theorem alloc_new2 (w : World) (o o' : Obj) : ((w.alloc o).alloc o').heap[w.heap.size + 1]? = some o' := by
  rw [← World.size_alloc (w := w) (o := o)]; exact alloc_new _ _
theorem code_cut {P : Program} {c : Code} {Q : Exit → Act → World → Prop} {a : Act} {w : World} (F : World → Prop) (hF : F w) (h : ∀ w', F w' → c.wp P Q a w') : c.wp P Q a w := h w hF
variable {P : Program}
theorem results_one {fn : Func} {p : Tmp} {ty : TypeId} (h : fn.results = #[.cell p ty]) {tmps : Array Value} {w : World} {a : Addr} {v : Value}
    (hp : tmps.getD p undef = .pointer (some a)) (hl : (loadVar ty a).run P w = .ok v w) : (results fn tmps).run P w = .ok v w := by
  simp only [results, h]
  simp only [Array.mapM_eq_mapM_toList, List.mapM_cons, List.mapM_nil, hp]
  simp [asAddr, hl]
/-- a result that lies in a variable of its own: an array's cells, known whole -/
theorem ret_arr {fn : Func} {R : Ending → World → Prop} {a : Act} {w : World} {p : Tmp} {ty t e : TypeId} {n b N : Nat} {C : Array Value} (h : fn.results = #[.cell p ty])
    (hp : a.tmps.getD p undef = .pointer (some ⟨b, 0, none⟩)) (hb : w.heap[b]? = some (.cells C t (0, 0))) (hu : P.underlying ty = some (.array n e)) (hi : (P.info? ty).map (·.size) = some N) (hn : C.size = N)
    (hd : a.defers = []) (hR : R (.returned (.agg C)) w) : bodyPost P fn R .ret a w :=
  bodyPost_ret (results_one h hp (run_loadVar_row _ _ t ty C (0, 0) _ hb hu rfl (by rw [hi, hn]))) hd hR

theorem wp_storeA {op : Oper} {a : Act} {w : World} {K : Act → World → Prop} {Q : Exit → Act → World → Prop} (ty : TypeId) (x y : Operand) (ho : op.op = .store ty x y)
    (b : Nat) (t : TypeId) (old C : Array Value) (N : Nat) (hx : a.eval x = .pointer (some ⟨b, 0, none⟩)) (hy : a.eval y = .agg C) (hb : w.heap[b]? = some (.cells old t (0, 0)))
    (hi : (P.info? ty).map (·.size) = some N) (hn : C.size = N) (hs : old.size = N) (h1 : C.all (·.oneCell') = true)
    (h : K (a.put op.dst undef) (w.setRow b C)) : op.wp P a w K Q := by
  unfold Oper.wp execOp
  simp only [ho, hx, hy, Instr.storeAt, Instr.sureAddr, Sem.run_bind, Sem.run_pure, Result.andThen_ok, run_storeVar_row w b t ty old C hb (by rw [hi, hn]) (by rw [hs, hn]) h1]
  exact h
theorem wpList_storeA {ops : Array Oper} {rest : List Oper} {op : Oper} {a : Act} {w : World} {Q : Exit → Act → World → Prop} (hgd : op.guard = none) (ty : TypeId) (x y : Operand) (ho : op.op = .store ty x y)
    (b : Nat) (t : TypeId) (old C : Array Value) (N : Nat) (hx : a.eval x = .pointer (some ⟨b, 0, none⟩)) (hy : a.eval y = .agg C) (hb : w.heap[b]? = some (.cells old t (0, 0)))
    (hi : (P.info? ty).map (·.size) = some N) (hn : C.size = N) (hs : old.size = N) (h1 : C.all (·.oneCell') = true)
    (h : wpList P ops Q rest (a.put op.dst undef) (w.setRow b C)) : wpList P ops Q (op :: rest) a w :=
  wpList_plain hgd fun _ hK => wp_storeA ty x y ho b t old C N hx hy hb hi hn hs h1 (hK _ _ h)
/-- into the block that was made last -/
theorem wpList_storeN {ops : Array Oper} {rest : List Oper} {op : Oper} {a : Act} {w : World} {Q : Exit → Act → World → Prop} (hgd : op.guard = none) (ty : TypeId) (x y : Operand) (ho : op.op = .store ty x y)
    (t : TypeId) (old C : Array Value) (N : Nat) (hx : a.eval x = .pointer (some ⟨w.heap.size, 0, none⟩)) (hy : a.eval y = .agg C)
    (hi : (P.info? ty).map (·.size) = some N) (hn : C.size = N) (hs : old.size = N) (h1 : C.all (·.oneCell') = true)
    (h : wpList P ops Q rest (a.put op.dst undef) (w.alloc (.cells C t))) : wpList P ops Q (op :: rest) a (w.alloc (.cells old t)) :=
  wpList_storeA hgd ty x y ho _ t old C N hx hy (alloc_new _ _) hi hn hs h1 (by rw [World.setRow_alloc_new]; exact h)
theorem wp_loadA {op : Oper} {a : Act} {w : World} {K : Act → World → Prop} {Q : Exit → Act → World → Prop} (ty : TypeId) (x : Operand) (ho : op.op = .load ty x)
    (b : Nat) (t e : TypeId) (C : Array Value) (n N : Nat) (hx : a.eval x = .pointer (some ⟨b, 0, none⟩)) (hb : w.heap[b]? = some (.cells C t (0, 0))) (hu : P.underlying ty = some (.array n e))
    (hi : (P.info? ty).map (·.size) = some N) (hn : C.size = N) (h : K (a.put op.dst (.agg C)) w) : op.wp P a w K Q := by
  unfold Oper.wp execOp
  simp only [ho, hx, Instr.loadAt, Instr.sureAddr, Sem.run_bind, Sem.run_pure, Result.andThen_ok, run_loadVar_row w b t ty C (0, 0) _ hb hu rfl (by rw [hi, hn])]
  exact h
theorem wpList_loadA {ops : Array Oper} {rest : List Oper} {op : Oper} {a : Act} {w : World} {Q : Exit → Act → World → Prop} (hgd : op.guard = none) (ty : TypeId) (x : Operand) (ho : op.op = .load ty x)
    (b : Nat) (t e : TypeId) (C : Array Value) (n N : Nat) (hx : a.eval x = .pointer (some ⟨b, 0, none⟩)) (hb : w.heap[b]? = some (.cells C t (0, 0))) (hu : P.underlying ty = some (.array n e))
    (hi : (P.info? ty).map (·.size) = some N) (hn : C.size = N) (h : wpList P ops Q rest (a.put op.dst (.agg C)) w) : wpList P ops Q (op :: rest) a w :=
  wpList_plain hgd fun _ hK => wp_loadA ty x ho b t e C n N hx hb hu hi hn (hK _ _ h)
end Ks
/- A state's bytes: the program's text. -/
namespace Ks
open Go Go.RowKit
def u8s (l : List UInt8) : Array Value := (l.map fun b => Value.int .u8 (b.toNat : Int)).toArray
@[simp] theorem u8s_size (l : List UInt8) : (u8s l).size = l.length := by simp [u8s]
theorem u8s_set (l : List UInt8) (i : Nat) (b : UInt8) : (u8s l).setIfInBounds i (.int .u8 (b.toNat : Int)) = u8s (l.set i b) := by simp [u8s, List.map_set]
theorem set4 {α : Type} (A : List α) (z : α) (m n : Nat) (b0 b1 b2 b3 : α) (hA : A.length = n) :
    ((((A ++ List.replicate (m + 4) z).set n b0).set (n + 1) b1).set (n + 2) b2).set (n + 3) b3 = (A ++ [b0, b1, b2, b3]) ++ List.replicate m z := by
  subst hA
  simp [List.replicate_succ, List.set_append_right]
theorem putL4 (n : Nat) : putL 4 n = [UInt8.ofNat (n / 16777216), UInt8.ofNat (n / 65536), UInt8.ofNat (n / 256), UInt8.ofNat n] := by
  simp [putL, Nat.div_div_eq_div_mul]
def textTo (s : St) (k : Nat) : List UInt8 := (s.list.take k).flatMap (putL 4)
theorem run_index_agg {P : Program} {t e : TypeId} {n : Nat} {C : Array Value} {k : Nat} {v : Value} {ik : IntKind} (ht : P.underlying t = some (.array n e)) (he : P.underlying e = some (.int ik)) (hs : (P.info? e).map (·.size) = some 1)
    (hk : k < n) (hv : C[k]? = some v) (w : World) : (Instr.index t (.agg C) (.int .i64 (k : Int))).run P w = .ok v w := by
  have hz : (Go.sizeOf e).run P w = .ok 1 w := by
    cases hq : P.info? e with
    | none => simp [hq] at hs
    | some i =>
      simp [hq] at hs
      simp [Go.sizeOf, typeInfo, hq, hs]
  have hp : (part e C k).run P w = .ok v w := by simp [part, isAgg, run_underlying he, hv]
  have h1 : (0 : Int) ≤ (k : Int) ∧ (k : Int) < (n : Int) := by omega
  unfold Instr.index
  simp [run_underlying ht, asIntOf, h1, hz, hp, hk]
theorem textTo_length (s : St) (k : Nat) (hk : k ≤ 8) : (textTo s k).length = 4 * k := by
  have : ∀ l : List Nat, (l.flatMap (putL 4)).length = 4 * l.length := by
    intro l
    induction l with
    | nil => rfl
    | cons x l ih => simp only [List.flatMap_cons, List.length_append, ih, List.length_cons, putL4, List.length_nil]; omega
  rw [textTo, this, List.length_take]
  show 4 * min k 8 = _
  omega
theorem textTo_pad (s : St) (k : Nat) (hk : k ≤ 8) : (textTo s k ++ List.replicate (32 - 4 * k) (0 : UInt8)).length = 32 := by
  rw [List.length_append, textTo_length s k hk, List.length_replicate]; omega
theorem st_lt {s : St} (hs : s.ok) (k : Nat) : s.list.getD k 0 < 4294967296 := by
  obtain ⟨h1, h2, h3, h4, h5, h6, h7, h8⟩ := hs
  refine getD_lt ?_ k
  intro x hx
  simp only [St.list, List.mem_cons, List.not_mem_nil, or_false] at hx
  rcases hx with rfl | rfl | rfl | rfl | rfl | rfl | rfl | rfl <;> assumption
theorem textTo_succ (s : St) (k : Nat) (hk : k < 8) : textTo s (k + 1) = textTo s k ++ putL 4 (s.list.getD k 0) := by
  have h : k < s.list.length := hk
  rw [textTo, textTo, List.take_add_one, List.getElem?_eq_getElem h, List.flatMap_append, List.getD_eq_getElem?_getD, List.getElem?_eq_getElem h]
  simp
theorem text_step (s : St) (k : Nat) (hk : k < 8) :
    (((((textTo s k ++ List.replicate (32 - 4 * k) 0).set (4 * k) (UInt8.ofNat (s.list.getD k 0 / 16777216))).set (4 * k + 1) (UInt8.ofNat (s.list.getD k 0 / 65536))).set (4 * k + 2) (UInt8.ofNat (s.list.getD k 0 / 256))).set (4 * k + 3) (UInt8.ofNat (s.list.getD k 0))
      = textTo s (k + 1) ++ List.replicate (32 - 4 * (k + 1)) (0 : UInt8)) := by
  rw [show 32 - 4 * k = 32 - 4 * (k + 1) + 4 by omega, set4 _ _ _ _ _ _ _ _ (textTo_length s k (by omega)), textTo_succ s k hk, putL4]
theorem byteV (n : Nat) : (UInt8.ofNat n).toNat = n % 256 := by simp
theorem conv_u8s {P : Program} {src dst e : TypeId} {cap : Nat} (w : World) (t : TypeId) (l : List UInt8) (hs : P.underlying src = some (.slice e)) (he : P.underlying e = some (.int .u8)) (hd : P.underlying dst = some .string) :
    (convert src dst (.slice (some ⟨w.heap.size, 0, none⟩) l.length cap)).run P (w.alloc (.cells (u8s l) t)) = .ok (.string ⟨l.toArray⟩) (w.alloc (.cells (u8s l) t)) := by
  refine run_convert_bytes_back _ src dst e _ cap l hs he hd (fun j hj => ?_)
  have hadd : (⟨w.heap.size, 0, none⟩ : Addr).add j = ⟨w.heap.size, j, none⟩ := by unfold Addr.add; split <;> simp_all
  rw [hadd, cell_of_row _ _ j (u8s l) t (0, 0) (alloc_new _ _)]
  simp [u8s, hj]
theorem textTo_all (s : St) : textTo s 8 = textL s := by
  simp [textTo, St.list, textL]
end Ks
namespace Go.Proofs.Ytgaoammkegcdcaa
open Go.RowKit Ks
set_option linter.unusedVariables false

set_option maxRecDepth 20000 in
set_option maxHeartbeats 1000000 in
theorem text_any (s : St) (w : World) (hs : s.ok) : Calls Try.prog 59 #[.agg (u32s s.list)] w fun e w' => e = .returned (.string ⟨(textL s).toArray⟩) ∧ Below w.heap.size w w' := by
  refine calls_by fun R HR => ?_
  obtain ⟨C, hC⟩ : ∃ C, u32s s.list = C := ⟨_, rfl⟩
  rw [hC]
  go_enter Try.func59, Try.ntmps59
  go_wp2_with (refine wpList_loadA rfl 101 _ rfl _ 101 _ C 8 8 rfl (blk_keep (alloc_new _ _) _) Try.underlying101 (by kernel_rfl) (by rw [← hC]; rfl) ?_)
  go_loopw [7] (fun i wx => ∃ k L, k ≤ 8 ∧ i = .int .i64 (k : Nat) ∧ wx = (w.alloc (.cells C 101)).alloc (.cells (u8s L) 119) ∧ Hid (L = textTo s k ++ List.replicate (32 - 4 * k) 0)) (fun i _ => 8 - (intOf i).toNat)
  case atStart => exact ⟨0, List.replicate 32 0, by omega, rfl, rfl, Lib.hid rfl⟩
  case round =>
    obtain ⟨k, L, hk, rfl, rfl, hL⟩ := hrel
    have hlen : L.length = 32 := by rw [hL.out]; exact textTo_pad s k hk
    by_cases hlt : k < 8
    · obtain ⟨n, hn⟩ : ∃ n, s.list.getD k 0 = n := ⟨_, rfl⟩
      have hn1 : n < 4294967296 := by rw [← hn]; exact st_lt hs k
      have hCk : C[k]? = some (.int .u32 (n : Int)) := by rw [← hC, ← hn]; exact u32s_get _ _ hlt
      have hn' := Lib.hid hn
      have hix := fun w => run_index_agg (P := Try.prog) Try.underlying101 Try.underlying99 (by kernel_rfl) hlt hCk w
      obtain ⟨D, hD⟩ : ∃ D, u8s L = D := ⟨_, rfl⟩
      have hDs : D.size = 32 := by rw [← hD, u8s_size, hlen]
      have hD' := Lib.hid hD
      rw [hD]
      have HC := Lib.hid hC
      have HS := Lib.hid hs
      obtain ⟨z0, hz0⟩ : ∃ z, D[4 * k]? = some z := ⟨_, Array.getElem?_eq_getElem (by omega)⟩
      obtain ⟨z1, hz1⟩ : ∃ z, D[4 * k + 1]? = some z := ⟨_, Array.getElem?_eq_getElem (by omega)⟩
      obtain ⟨z2, hz2⟩ : ∃ z, D[4 * k + 2]? = some z := ⟨_, Array.getElem?_eq_getElem (by omega)⟩
      obtain ⟨z3, hz3⟩ : ∃ z, D[4 * k + 3]? = some z := ⟨_, Array.getElem?_eq_getElem (by omega)⟩
      clear hD hn hC hs hlen hCk
      go_wp2
      go_round
      case rel =>
        refine ⟨k + 1, textTo s (k + 1) ++ List.replicate (32 - 4 * (k + 1)) 0, by omega, by go_num, ?_, Lib.hid rfl⟩
        rw [← text_step s k hlt, hn'.out, ← hL.out, ← u8s_set, ← u8s_set, ← u8s_set, ← u8s_set, hD'.out, byteV (n / 16777216), byteV (n / 65536), byteV (n / 256), byteV n, Nat.mod_eq_of_lt (show n / 16777216 < 256 by omega)]
        rfl
      case measure => simp [intOf]; omega
    · obtain rfl : k = 8 := by omega
      clear hC hs hk hlt
      have hconv := conv_u8s (P := Try.prog) (src := 67) (dst := 9) (cap := 32) (w.alloc (.cells C 101)) 119 L Try.underlying67 Try.underlying5 Try.underlying9
      simp only [World.size_alloc] at hconv
      rw [hlen] at hconv
      go_wp2
      refine HR.out _ _ ⟨?_, ((alloc_below w _).alloc (by simp) _)⟩
      rw [← textTo_all, hL.out]
      simp
end Go.Proofs.Ytgaoammkegcdcaa
/- A block's numbers: the program's words. -/
namespace Ks
open Go Go.RowKit
theorem wpad_length (B : List UInt8) (k : Nat) (hk : k ≤ 64) : (wordsN B k ++ List.replicate (64 - k) 0).length = 64 := by
  rw [List.length_append, wordsN_length, List.length_replicate]; omega
theorem wpad_set (B : List UInt8) (k x : Nat) (hk : k < 64) (hx : (if k < 16 then num4 B k else wNext (wordsN B k)) = x) :
    (wordsN B k ++ List.replicate (64 - k) 0).set k x = wordsN B (k + 1) ++ List.replicate (64 - (k + 1)) 0 := by
  have h1 := List.set_append_right (s := wordsN B k) (t := 0 :: List.replicate (64 - (k + 1)) 0) k x (by rw [wordsN_length]; omega)
  rw [show 64 - k = 64 - (k + 1) + 1 by omega, List.replicate_succ, h1, wordsN_length, Nat.sub_self, wordsN, hx]
  simp
theorem wpad_get (B : List UInt8) (k j : Nat) (hj : j < k) : (wordsN B k ++ List.replicate (64 - k) 0).getD j 0 = (wordsN B k).getD j 0 := by
  rw [List.getD_eq_getElem?_getD, List.getD_eq_getElem?_getD, List.getElem?_append_left (by rw [wordsN_length]; omega)]
theorem wpad_lt (B : List UInt8) (k : Nat) : ∀ x ∈ wordsN B k ++ List.replicate (64 - k) 0, x < 4294967296 := by
  intro x hx
  rcases List.mem_append.1 hx with hx | hx
  · exact wordsN_lt B k x hx
  · rw [List.eq_of_mem_replicate hx]; decide
theorem num4_extract (s : ByteArray) (k : Nat) (h : s.size = 64) : getN ((s.extract (4 * k) 64).data.toList.take 4) = num4 s.data.toList k := by
  have hl : s.data.toList.length = 64 := by rw [data_length, h]
  rw [num4]
  congr 2
  rw [ByteArray.data_extract, Array.toList_extract, List.extract_eq_take_drop]
  rw [List.take_of_length_le]
  rw [List.length_drop]; omega
theorem wrap_u32_mod (n : Int) : IntKind.u32.wrap n = n % 4294967296 := by simp [IntKind.wrap, IntKind.bits, IntKind.signed]
/-- an array of numbers in a block -/
structure Nums (w : World) (b : Nat) (t : TypeId) (L : List Nat) : Prop where
  blk : w.heap[b]? = some (.cells (u32s L) t (0, 0))
theorem Nums.cell {w : World} {b : Nat} {t : TypeId} {L : List Nat} (h : Nums w b t L) (j : Nat) (hj : j < L.length) : w.cell? ⟨b, j, none⟩ = some (.int .u32 ((L.getD j 0 : Nat) : Int)) := by
  rw [cell_of_row w b j _ _ _ h.blk, u32s_get L j hj]
theorem Nums.frozen {w : World} {b : Nat} {t : TypeId} {L : List Nat} (h : Nums w b t L) (j : Nat) : w.frozen? ⟨b, j, none⟩ = false := frozen_of_row w b j _ _ h.blk
theorem Nums.lt {w : World} {b : Nat} {t : TypeId} {L : List Nat} (h : Nums w b t L) : b < w.heap.size := lt_of_block h.blk
theorem Nums.keep {w w' : World} {b : Nat} {t : TypeId} {L : List Nat} (h : Nums w b t L) (hb : Below w.heap.size w w') : Nums w' b t L := ⟨(hb.block b h.lt).trans h.blk⟩
theorem Nums.set {w : World} {b : Nat} {t : TypeId} {L : List Nat} (h : Nums w b t L) (j x : Nat) : Nums (w.setCell ⟨b, j, none⟩ (.int .u32 (x : Int))) b t (L.set j x) :=
  ⟨by rw [setCell_eq_setRow w b j _ _ _ _ h.blk, setRow_heap w b _ _ _ _ h.blk, u32s_set]⟩
theorem Nums.other {w : World} {b c : Nat} {t : TypeId} {L : List Nat} (h : Nums w b t L) (j : Nat) (v : Value) (hc : b ≠ c) : Nums (w.setCell ⟨c, j, none⟩ v) b t L := ⟨(set_ne v hc).trans h.blk⟩
end Ks
namespace Go.Proofs.Ytgaoammkegcdcaa
open Go.RowKit Ks
set_option linter.unusedVariables false

set_option maxRecDepth 20000 in
set_option maxHeartbeats 4000000 in
theorem words_any (s : ByteArray) (w : World) (h : s.size = 64) : Calls Try.prog 66 #[.string s] w fun e w' => e = .returned (.agg (u32s (wordsN s.data.toList 64))) ∧ Below w.heap.size w w' := by
  refine calls_by fun R HR => ?_
  go_enter Try.func66, Try.ntmps66
  go_wp2_with fail
  obtain ⟨W, hW⟩ : ∃ W, (w.alloc (.cells (u32s (List.replicate 64 0)) 115)).alloc (.cells (u32s (List.replicate 64 0)) 115) = W := ⟨_, rfl⟩
  have k2 : Nums W w.heap.size 115 (List.replicate 64 0) := ⟨by rw [← hW]; exact blk_keep (alloc_new _ _) _⟩
  have k3 : Nums W (w.heap.size + 1) 115 (List.replicate 64 0) := ⟨by rw [← hW, ← World.size_alloc (w := w) (o := .cells (u32s (List.replicate 64 0)) 115)]; exact alloc_new _ _⟩
  have kb : Below w.heap.size w W := by rw [← hW]; exact (alloc_below w _).alloc (by simp) _
  change Code.wp _ _ _ _ ((w.alloc (.cells (u32s (List.replicate 64 0)) 115)).alloc (.cells (u32s (List.replicate 64 0)) 115))
  rw [hW]
  have hk2 := Lib.hid k2
  have hk3 := Lib.hid k3
  have hkb := Lib.hid kb
  clear hW k2 k3 kb
  go_loopw [5] (fun i wx => ∃ k L, k ≤ 64 ∧ i = .int .i64 (k : Nat) ∧ Hid (L = wordsN s.data.toList k ++ List.replicate (64 - k) 0) ∧ Hid (Nums wx (w.heap.size + 1) 115 L ∧ Nums wx w.heap.size 115 (List.replicate 64 0) ∧ Below w.heap.size w wx)) (fun i _ => 64 - (intOf i).toNat)
  case atStart => exact ⟨0, _, by omega, rfl, Lib.hid rfl, Lib.hid ⟨hk3.out, hk2.out, hkb.out⟩⟩
  case round =>
    obtain ⟨k, L, hk, rfl, hL, hN⟩ := hrel
    have hlen : L.length = 64 := by rw [hL.out]; exact wpad_length _ k hk
    by_cases hlt : k < 64
    · by_cases h16 : k < 16
      · have hx := Lib.hid (wpad_set s.data.toList k (num4 s.data.toList k) hlt (if_pos h16))
        go_wp2_with fail
        refine (number_any (s.extract (4 * k) 64) _ (by rw [ByteArray.size_extract]; omega)).mono ?_
        rintro e w1 ⟨rfl, hb⟩
        rw [num4_extract s k h]
        obtain ⟨n3, n2, nb⟩ := hN.out
        have n3' := n3.keep hb
        have n2' := n2.keep hb
        have c1 := n3'.cell k (by omega)
        have f1 := n3'.frozen k
        have hM := Lib.hid (And.intro n3' (And.intro n2' (nb.trans (hb.mono nb.size))))
        clear n3 n2 nb n3' n2' hb hN
        go_wp2
        go_round
        case rel =>
          refine ⟨k + 1, _, by omega, by go_num, Lib.hid rfl, Lib.hid ⟨?_, hM.out.2.1.other _ _ (by omega), hM.out.2.2.setCell (by simp) _⟩⟩
          rw [← hx.out, ← hL.out]
          exact hM.out.1.set _ _
        case measure => simp [intOf]; omega
      · have hx := Lib.hid (wpad_set s.data.toList k (wNext (wordsN s.data.toList k)) hlt (if_neg h16))
        go_wp2_with fail
        obtain ⟨n3, n2, nb⟩ := hN.out
        obtain ⟨y16, h16'⟩ : ∃ y, L.getD (k - 16) 0 = y := ⟨_, rfl⟩
        obtain ⟨y15, h15'⟩ : ∃ y, L.getD (k - 15) 0 = y := ⟨_, rfl⟩
        obtain ⟨y7, h7'⟩ : ∃ y, L.getD (k - 7) 0 = y := ⟨_, rfl⟩
        obtain ⟨y2, h2'⟩ : ∃ y, L.getD (k - 2) 0 = y := ⟨_, rfl⟩
        have c16 := n3.cell (k - 16) (by omega)
        have c15 := n3.cell (k - 15) (by omega)
        have c7 := n3.cell (k - 7) (by omega)
        have c2 := n3.cell (k - 2) (by omega)
        rw [h16'] at c16
        rw [h15'] at c15
        rw [h7'] at c7
        rw [h2'] at c2
        have hl : ∀ j, L.getD j 0 < 4294967296 := fun j => by rw [hL.out]; exact getD_lt (wpad_lt s.data.toList k) j
        have l15 : y15 < 4294967296 := by rw [← h15']; exact hl _
        have l2 : y2 < 4294967296 := by rw [← h2']; exact hl _
        have hV : Hid ((y16 + sigS y15 7 18 3 + y7 + sigS y2 17 19 10) % 4294967296 = wNext (wordsN s.data.toList k)) := Lib.hid (by
          rw [wNext, wordsN_length, ← wpad_get _ k (k - 16) (by omega), ← wpad_get _ k (k - 15) (by omega), ← wpad_get _ k (k - 7) (by omega), ← wpad_get _ k (k - 2) (by omega), ← hL.out, h16', h15', h7', h2'])
        have n3f := n3.frozen k
        have n3c := n3.cell k (by omega)
        clear h16' h15' h7' h2' hl n2 nb n3
        obtain ⟨j16, r16⟩ : ∃ j, k - 16 = j := ⟨_, rfl⟩
        obtain ⟨j15, r15⟩ : ∃ j, k - 15 = j := ⟨_, rfl⟩
        obtain ⟨j7, r7⟩ : ∃ j, k - 7 = j := ⟨_, rfl⟩
        obtain ⟨j2, r2⟩ : ∃ j, k - 2 = j := ⟨_, rfl⟩
        rw [r16] at c16
        rw [r15] at c15
        rw [r7] at c7
        rw [r2] at c2
        have w16 : IntKind.i64.wrap ((k : Int) - 16) = (j16 : Int) := by rw [IntKind.wrap_i64]; omega
        have w15 : IntKind.i64.wrap ((k : Int) - 15) = (j15 : Int) := by rw [IntKind.wrap_i64]; omega
        have w7 : IntKind.i64.wrap ((k : Int) - 7) = (j7 : Int) := by rw [IntKind.wrap_i64]; omega
        have w2 : IntKind.i64.wrap ((k : Int) - 2) = (j2 : Int) := by rw [IntKind.wrap_i64]; omega
        have b16 : (j16 : Int) < 64 := by omega
        have b15 : (j15 : Int) < 64 := by omega
        have b7 : (j7 : Int) < 64 := by omega
        have b2 : (j2 : Int) < 64 := by omega
        clear r16 r15 r7 r2
        have t15 : ∀ w : World, Calls Try.prog 68 #[.int .u32 y15, .int .i64 7, .int .i64 18, .int .i64 3, .bool true] w fun e w' => e = .returned (.int .u32 (sigS y15 7 18 3 : Nat)) ∧ w' = w :=
          fun w => three_shift y15 7 18 3 w l15 (by decide) (by decide) (by decide)
        have t2 : ∀ w : World, Calls Try.prog 68 #[.int .u32 y2, .int .i64 17, .int .i64 19, .int .i64 10, .bool true] w fun e w' => e = .returned (.int .u32 (sigS y2 17 19 10 : Nat)) ∧ w' = w :=
          fun w => three_shift y2 17 19 10 w l2 (by decide) (by decide) (by decide)
        obtain ⟨A, hA⟩ : ∃ A, sigS y15 7 18 3 = A := ⟨_, rfl⟩
        obtain ⟨E, hE⟩ : ∃ E, sigS y2 17 19 10 = E := ⟨_, rfl⟩
        rw [hA] at t15 hV
        rw [hE] at t2 hV
        have T15 := Lib.hid t15
        have T2 := Lib.hid t2
        clear hA hE t15 t2 l15 l2
        refine wp_region_still_tail 22 (by kernel_rfl) (by kernel_rfl) ?_
        simp only [List.take_succ_cons, List.take_zero, List.drop_succ_cons, List.drop_zero]
        repeat still_step
        still_call (T15.out _)
        repeat still_step
        still_call (T2.out _)
        repeat still_step
        refine wpStill_nil ?_
        change wpList _ _ _ _ _ wr.drew
        obtain ⟨V, hVV⟩ : ∃ V, wNext (wordsN s.data.toList k) = V := ⟨_, rfl⟩
        have hw : IntKind.u32.wrap (IntKind.u32.wrap (IntKind.u32.wrap ((y16 : Int) + A) + y7) + E) = (V : Int) := by
          have := hV.out
          simp only [wrap_u32_mod]
          omega
        rw [hw]
        have hbd := drew_below wr
        have hM := Lib.hid (And.intro (hN.out.1.keep hbd) (And.intro (hN.out.2.1.keep hbd) (hN.out.2.2.trans (hbd.mono hN.out.2.2.size))))
        rw [hVV] at hx
        clear hVV hw hV hbd hN c16 c15 c7 c2 w16 w15 w7 w2 b16 b15 b7 b2 n3c n3f
        generalize wr.drew = w1 at *
        have c1 := hM.out.1.cell k (by omega)
        have f1 := hM.out.1.frozen k
        go_wp2
        go_round
        case rel =>
          refine ⟨k + 1, _, by omega, by go_num, Lib.hid rfl, Lib.hid ⟨?_, hM.out.2.1.other _ _ (by omega), hM.out.2.2.setCell (by simp) _⟩⟩
          rw [← hx.out, ← hL.out]
          exact hM.out.1.set _ _
        case measure => simp [intOf]; omega
    · obtain rfl : k = 64 := by omega
      obtain ⟨n3, n2, nb⟩ := hN.out
      have e1 := Lib.hid n3.blk
      have e2 := Lib.hid n2.blk
      have e3 := Lib.hid nb
      have e4 := Lib.hid (show (u32s L).size = 64 by rw [u32s_size, hlen])
      have e5 := Lib.hid (show L = wordsN s.data.toList 64 by rw [hL.out]; simp)
      clear n3 n2 nb hN hL hlen
      go_wp2_with (first
        | refine wpList_loadA rfl 115 _ rfl _ 115 _ _ 64 64 rfl e1.out Try.underlying115 (by kernel_rfl) e4.out ?_
        | refine wpList_storeA rfl 115 _ _ rfl _ 115 _ _ 64 rfl rfl e2.out (by kernel_rfl) e4.out (by simp) (u32s_one _) ?_)
      exact ret_arr (N := 64) (C := u32s L) Try.results66 rfl (setRow_heap _ _ _ _ _ _ e2.out) Try.underlying115 (by kernel_rfl) e4.out rfl (HR.out _ _ ⟨by rw [e5.out], below_setRow e3.out (Nat.le_refl _) _⟩)
end Go.Proofs.Ytgaoammkegcdcaa
/- The digest's constants: the first state, the rounds' numbers; the reference's. -/
namespace Go.Proofs.Ytgaoammkegcdcaa
open Go.RowKit Ks
set_option linter.unusedVariables false

set_option maxHeartbeats 1000000 in
theorem first_any (w : World) : Calls Try.prog 54 #[] w fun e w' => e = .returned (.agg (u32s st0.list)) ∧ Below w.heap.size w w' := by
  refine calls_by fun R HR => ?_
  go_enter Try.func54, Try.ntmps54
  go_wp2_with fail
  exact ret_arr (N := 8) (C := u32s st0.list) Try.results54 rfl (alloc_new _ _) Try.underlying101 (by kernel_rfl) rfl rfl (HR.out _ _ ⟨rfl, alloc_below _ _⟩)
set_option maxHeartbeats 4000000 in
set_option maxRecDepth 100000 in
theorem constants_any (w : World) : Calls Try.prog 67 #[] w fun e w' => e = .returned (.agg (u32s kays)) ∧ Below w.heap.size w w' := by
  refine calls_by fun R HR => ?_
  go_enter Try.func67, Try.ntmps67
  go_wp2_with (refine wpList_storeN rfl 115 _ _ rfl 115 _ (u32s kays) 64 rfl rfl (by kernel_rfl) rfl rfl (u32s_one _) ?_)
  exact ret_arr (N := 64) (C := u32s kays) Try.results67 rfl (alloc_new _ _) Try.underlying115 (by kernel_rfl) rfl rfl (HR.out _ _ ⟨rfl, alloc_below _ _⟩)
set_option maxHeartbeats 1000000 in
theorem begin_any (w : World) : Calls Try.prog 45 #[] w fun e w' => e = .returned (.agg (i64s st0.list)) ∧ Below w.heap.size w w' := by
  refine calls_by fun R HR => ?_
  go_enter Try.func45, Try.ntmps45
  go_wp2_with fail
  exact ret_arr (N := 8) (C := i64s st0.list) Try.results45 rfl (alloc_new _ _) Try.underlying86 (by kernel_rfl) rfl rfl (HR.out _ _ ⟨rfl, alloc_below _ _⟩)
set_option maxHeartbeats 4000000 in
set_option maxRecDepth 100000 in
theorem rounds_any (w : World) : Calls Try.prog 46 #[] w fun e w' => e = .returned (.agg (i64s kays)) ∧ Below w.heap.size w w' := by
  refine calls_by fun R HR => ?_
  go_enter Try.func46, Try.ntmps46
  go_wp2_with (refine wpList_storeN rfl 88 _ _ rfl 88 _ (i64s kays) 64 rfl rfl (by kernel_rfl) rfl rfl (i64s_one _) ?_)
  exact ret_arr (N := 64) (C := i64s kays) Try.results46 rfl (alloc_new _ _) Try.underlying88 (by kernel_rfl) rfl rfl (HR.out _ _ ⟨rfl, alloc_below _ _⟩)
end Go.Proofs.Ytgaoammkegcdcaa
