/- The law MerkleClash: what its walk gives. -/
import Derived.Test.YtophfeapmmfppaaHLaw15c
import Derived.Test.YtophfeapmmfppaaM7
namespace Go.Proofs.Ytophfeapmmfppaa
open Go.RowKit Ks
set_option linter.unusedVariables false
theorem clash_not {l : List ByteArray} {i : Int} {x : ByteArray} {ps : List ByteArray} {w w' : World} {e : Ending} (hn : ¬ (wholeL l = true ∧ 0 ≤ i ∧ i < l.length ∧ l[i.toNat]? ≠ some x ∧ isV (rootL l) l.length i x ps = true))
    (h : (if wholeL l = true ∧ 0 ≤ i ∧ i < l.length ∧ l[i.toNat]? ≠ some x ∧ isV (rootL l) l.length i x ps = true then clashY e else clashN e) ∧ Below w.heap.size w w') : e = .returned (.tuple #[.string ⟨#[]⟩, .string ⟨#[]⟩, .bool false]) ∧ Below w.heap.size w w' := by
  rw [if_neg hn] at h
  exact h
theorem clash_is {l : List ByteArray} {i : Int} {x : ByteArray} {ps : List ByteArray} {w w' : World} {e : Ending} (hn : wholeL l = true ∧ 0 ≤ i ∧ i < l.length ∧ l[i.toNat]? ≠ some x ∧ isV (rootL l) l.length i x ps = true)
    (h : (if wholeL l = true ∧ 0 ≤ i ∧ i < l.length ∧ l[i.toNat]? ≠ some x ∧ isV (rootL l) l.length i x ps = true then clashY e else clashN e) ∧ Below w.heap.size w w') : (∃ a b : ByteArray, e = .returned (.tuple #[.string a, .string b, .bool true]) ∧ Unlike a b) ∧ Below w.heap.size w w' := by
  rw [if_pos hn] at h
  exact h
set_option maxRecDepth 100000 in
set_option maxHeartbeats 4000000 in
theorem clash_few (lv : Value) (l : List ByteArray) (i : Int) (x : ByteArray) (pv : Value) (ps : List ByteArray) (w : World) (hl : Rd strE w lv l) (hp : Rd strE w pv ps) (hf : ¬ ((l.length ≤ 70 ∧ bytesN l ≤ 5000) ∧ (ps.length ≤ 70 ∧ bytesN ps ≤ 5000) ∧ x.size ≤ 1000)) :
    Calls Try.prog 6 #[lv, .int .i64 i, .string x, pv] w fun e w' => e = .returned (.bool true) ∧ Below w.heap.size w w' := by
  refine calls_by fun R HR => ?_
  have HF := Lib.hid (few_any l lv w hl)
  have HG := Lib.hid (few_any ps pv w hp)
  obtain ⟨a, cap, rfl, -⟩ := hl.shape
  obtain ⟨pa, pc, rfl, -⟩ := hp.shape
  have HL0 := Lib.hid (And.intro hl hp)
  by_cases h1 : l.length ≤ 70 ∧ bytesN l ≤ 5000
  · rw [decide_eq_true h1] at HF
    by_cases h2 : ps.length ≤ 70 ∧ bytesN ps ≤ 5000
    · rw [decide_eq_true h2] at HG
      have hs1 : (1000 : Int) < (x.size : Int) := by
        have : ¬ x.size ≤ 1000 := fun h => hf ⟨h1, h2, h⟩
        omega
      clear h1 h2 hf hl hp
      have H1 := Lib.hid ((Below.refl w.heap.size w))
      go_enter Try.func6, Try.ntmps6
      go_wp2_with fail
      refine (HF.out).mono ?_
      rintro en v2 ⟨rfl, hw⟩
      rw [hw]
      clear hw
      go_wp2_with fail
      refine (HG.out).mono ?_
      rintro en v2 ⟨rfl, hw⟩
      rw [hw]
      clear hw
      go_wp2_with fail
      refine (alive_any _).mono ?_
      rintro en v2 ⟨rfl, hb⟩
      have H2 := Lib.hid ((H1.out.trans (hb.mono H1.out.size)))
      clear hb
      go_wp2
      exact HR.out _ _ ⟨rfl, H2.out⟩
    · rw [decide_eq_false h2] at HG
      clear h1 h2 hf hl hp
      have H1 := Lib.hid ((Below.refl w.heap.size w))
      go_enter Try.func6, Try.ntmps6
      go_wp2_with fail
      refine (HF.out).mono ?_
      rintro en v2 ⟨rfl, hw⟩
      rw [hw]
      clear hw
      go_wp2_with fail
      refine (HG.out).mono ?_
      rintro en v2 ⟨rfl, hw⟩
      rw [hw]
      clear hw
      go_wp2_with fail
      refine (alive_any _).mono ?_
      rintro en v2 ⟨rfl, hb⟩
      have H2 := Lib.hid ((H1.out.trans (hb.mono H1.out.size)))
      clear hb
      go_wp2
      exact HR.out _ _ ⟨rfl, H2.out⟩
  · rw [decide_eq_false h1] at HF
    clear h1 hf hl hp
    have H1 := Lib.hid ((Below.refl w.heap.size w))
    go_enter Try.func6, Try.ntmps6
    go_wp2_with fail
    refine (HF.out).mono ?_
    rintro en v2 ⟨rfl, hw⟩
    rw [hw]
    clear hw
    go_wp2_with fail
    refine (alive_any _).mono ?_
    rintro en v2 ⟨rfl, hb⟩
    have H2 := Lib.hid ((H1.out.trans (hb.mono H1.out.size)))
    clear hb
    go_wp2
    exact HR.out _ _ ⟨rfl, H2.out⟩
set_option maxRecDepth 100000 in
set_option maxHeartbeats 4000000 in
theorem clash_l1 (lv : Value) (l : List ByteArray) (i : Int) (x : ByteArray) (pv : Value) (ps : List ByteArray) (w : World) (hl : Rd strE w lv l) (hp : Rd strE w pv ps) (f1 : l.length ≤ 70 ∧ bytesN l ≤ 5000) (f2 : ps.length ≤ 70 ∧ bytesN ps ≤ 5000) (f3 : x.size ≤ 1000) (hw : wholeL l = false) :
    Calls Try.prog 6 #[lv, .int .i64 i, .string x, pv] w fun e w' => e = .returned (.bool true) ∧ Below w.heap.size w w' := by
  refine calls_by fun R HR => ?_
  have HF := Lib.hid (few_any l lv w hl)
  have HG := Lib.hid (few_any ps pv w hp)
  obtain ⟨a, cap, rfl, -⟩ := hl.shape
  obtain ⟨pa, pc, rfl, -⟩ := hp.shape
  have HL0 := Lib.hid (And.intro hl hp)
  rw [decide_eq_true f1] at HF
  rw [decide_eq_true f2] at HG
  have hs1 : ¬ (1000 : Int) < (x.size : Int) := by omega
  have g1 : l.length ≤ 1048576 := by omega
  have g2 : ps.length ≤ 100000000 := by omega
  have HRt := Lib.hid (fun w (h : Rd strE w (.slice a l.length cap) l) => root_any _ l w h (bytes_len f1.1))
  have HCl := Lib.hid (fun w (h : Rd strE w (.slice a l.length cap) l) (h2 : Rd strE w (.slice pa ps.length pc) ps) => clash_any _ l i x _ ps w h h2 g1 g2)
  have hv := root_nowhole hw
  simp only [hv] at HRt
  have HNC := Lib.hid (show ¬ (wholeL l = true ∧ 0 ≤ i ∧ i < l.length ∧ l[i.toNat]? ≠ some x ∧ isV (rootL l) l.length i x ps = true) from fun h => by rw [hw] at h; cases h.1)
  clear f1 f2 f3 g1 g2 hl hp hw hv
  have H1 := Lib.hid (And.intro (Below.refl w.heap.size w) (And.intro HL0.out.1 HL0.out.2))
  go_enter Try.func6, Try.ntmps6
  go_wp2_with fail
  refine (HF.out).mono ?_
  rintro en v2 ⟨rfl, hw⟩
  rw [hw]
  clear hw
  go_wp2_with fail
  refine (HG.out).mono ?_
  rintro en v2 ⟨rfl, hw⟩
  rw [hw]
  clear hw
  go_wp2_with fail
  refine ((HCl.out _ H1.out.2.1 H1.out.2.2).mono (fun en w' h => clash_not HNC.out h)).mono ?_
  rintro en v2 ⟨rfl, hb⟩
  have H2 := Lib.hid (And.intro (H1.out.1.trans (hb.mono H1.out.1.size)) (And.intro (H1.out.2.1.below hb) (H1.out.2.2.below hb)))
  clear hb
  go_wp2_with fail
  refine (HRt.out _ H2.out.2.1).mono ?_
  rintro en v3 ⟨rfl, hb⟩
  have H3 := Lib.hid (And.intro (H2.out.1.trans (hb.mono H2.out.1.size)) (And.intro (H2.out.2.1.below hb) (H2.out.2.2.below hb)))
  clear hb
  go_wp2_with fail
  refine (alive_any _).mono ?_
  rintro en v4 ⟨rfl, hb⟩
  have H4 := Lib.hid (And.intro (H3.out.1.trans (hb.mono H3.out.1.size)) (And.intro (H3.out.2.1.below hb) (H3.out.2.2.below hb)))
  clear hb
  go_wp2
  exact HR.out _ _ ⟨rfl, H4.out.1⟩
set_option maxRecDepth 100000 in
set_option maxHeartbeats 4000000 in
theorem clash_l2 (lv : Value) (l : List ByteArray) (i : Int) (x : ByteArray) (pv : Value) (ps : List ByteArray) (w : World) (hl : Rd strE w lv l) (hp : Rd strE w pv ps) (f1 : l.length ≤ 70 ∧ bytesN l ≤ 5000) (f2 : ps.length ≤ 70 ∧ bytesN ps ≤ 5000) (f3 : x.size ≤ 1000) (hw : wholeL l = true) (ho : i < 0 ∨ (¬ i < 0 ∧ (l.length : Int) ≤ i)) :
    Calls Try.prog 6 #[lv, .int .i64 i, .string x, pv] w fun e w' => e = .returned (.bool true) ∧ Below w.heap.size w w' := by
  refine calls_by fun R HR => ?_
  have HF := Lib.hid (few_any l lv w hl)
  have HG := Lib.hid (few_any ps pv w hp)
  obtain ⟨a, cap, rfl, -⟩ := hl.shape
  obtain ⟨pa, pc, rfl, -⟩ := hp.shape
  have HL0 := Lib.hid (And.intro hl hp)
  rw [decide_eq_true f1] at HF
  rw [decide_eq_true f2] at HG
  have hs1 : ¬ (1000 : Int) < (x.size : Int) := by omega
  have g1 : l.length ≤ 1048576 := by omega
  have g2 : ps.length ≤ 100000000 := by omega
  have HRt := Lib.hid (fun w (h : Rd strE w (.slice a l.length cap) l) => root_any _ l w h (bytes_len f1.1))
  have HCl := Lib.hid (fun w (h : Rd strE w (.slice a l.length cap) l) (h2 : Rd strE w (.slice pa ps.length pc) ps) => clash_any _ l i x _ ps w h h2 g1 g2)
  have hv := root_whole hw
  simp only [hv] at HRt
  have HNC := Lib.hid (show ¬ (wholeL l = true ∧ 0 ≤ i ∧ i < l.length ∧ l[i.toNat]? ≠ some x ∧ isV (rootL l) l.length i x ps = true) from fun h => by have := h.2.1; have := h.2.2.1; omega)
  clear f1 f2 f3 g1 g2 hl hp hw hv
  rcases ho with h1 | ⟨h1, h2⟩
  all_goals
    have H1 := Lib.hid (And.intro (Below.refl w.heap.size w) (And.intro HL0.out.1 HL0.out.2))
    go_enter Try.func6, Try.ntmps6
    go_wp2_with fail
    refine (HF.out).mono ?_
    rintro en v2 ⟨rfl, hw⟩
    rw [hw]
    clear hw
    go_wp2_with fail
    refine (HG.out).mono ?_
    rintro en v2 ⟨rfl, hw⟩
    rw [hw]
    clear hw
    go_wp2_with fail
    refine ((HCl.out _ H1.out.2.1 H1.out.2.2).mono (fun en w' h => clash_not HNC.out h)).mono ?_
    rintro en v2 ⟨rfl, hb⟩
    have H2 := Lib.hid (And.intro (H1.out.1.trans (hb.mono H1.out.1.size)) (And.intro (H1.out.2.1.below hb) (H1.out.2.2.below hb)))
    clear hb
    go_wp2_with fail
    refine (HRt.out _ H2.out.2.1).mono ?_
    rintro en v3 ⟨rfl, hb⟩
    have H3 := Lib.hid (And.intro (H2.out.1.trans (hb.mono H2.out.1.size)) (And.intro (H2.out.2.1.below hb) (H2.out.2.2.below hb)))
    clear hb
    go_wp2_with fail
    refine (alive_any _).mono ?_
    rintro en v4 ⟨rfl, hb⟩
    have H4 := Lib.hid (And.intro (H3.out.1.trans (hb.mono H3.out.1.size)) (And.intro (H3.out.2.1.below hb) (H3.out.2.2.below hb)))
    clear hb
    go_wp2
    exact HR.out _ _ ⟨rfl, H4.out.1⟩
set_option maxRecDepth 100000 in
set_option maxHeartbeats 4000000 in
theorem clash_l3 (lv : Value) (l : List ByteArray) (j : Nat) (x : ByteArray) (pv : Value) (ps : List ByteArray) (w : World) (hl : Rd strE w lv l) (hp : Rd strE w pv ps) (f1 : l.length ≤ 70 ∧ bytesN l ≤ 5000) (f2 : ps.length ≤ 70 ∧ bytesN ps ≤ 5000) (f3 : x.size ≤ 1000) (hw : wholeL l = true) (hj : j < l.length) (he : l[j] = x) :
    Calls Try.prog 6 #[lv, .int .i64 (j : Nat), .string x, pv] w fun e w' => e = .returned (.bool true) ∧ Below w.heap.size w w' := by
  refine calls_by fun R HR => ?_
  have HF := Lib.hid (few_any l lv w hl)
  have HG := Lib.hid (few_any ps pv w hp)
  obtain ⟨a, cap, rfl, -⟩ := hl.shape
  obtain ⟨pa, pc, rfl, -⟩ := hp.shape
  have HL0 := Lib.hid (And.intro hl hp)
  rw [decide_eq_true f1] at HF
  rw [decide_eq_true f2] at HG
  have hs1 : ¬ (1000 : Int) < (x.size : Int) := by omega
  have g1 : l.length ≤ 1048576 := by omega
  have g2 : ps.length ≤ 100000000 := by omega
  have HRt := Lib.hid (fun w (h : Rd strE w (.slice a l.length cap) l) => root_any _ l w h (bytes_len f1.1))
  have HCl := Lib.hid (fun w (h : Rd strE w (.slice a l.length cap) l) (h2 : Rd strE w (.slice pa ps.length pc) ps) => clash_any _ l (j : Int) x _ ps w h h2 g1 g2)
  have hv := root_whole hw
  simp only [hv] at HRt
  have h1 : ¬ (j : Int) < 0 := by omega
  have h2 : ¬ (l.length : Int) ≤ (j : Int) := by omega
  have h2' : (j : Int) < (l.length : Int) := by omega
  obtain ⟨b, o, rfl, hb0, c0⟩ := hl.str j hj
  have HL1 := Lib.hid (fun (w1 : World) (h : Below w.heap.size w w1) => (h.cell (p := ⟨b, o + j, none⟩) hb0).trans c0)
  have HNC := Lib.hid (show ¬ (wholeL l = true ∧ 0 ≤ (j : Int) ∧ (j : Int) < l.length ∧ l[(j : Int).toNat]? ≠ some x ∧ isV (rootL l) l.length j x ps = true) from fun h => by have h9 := h.2.2.2.1; rw [Int.toNat_natCast, List.getElem?_eq_getElem hj, he] at h9; exact h9 rfl)
  rw [he] at HL1
  clear f1 f2 f3 g1 g2 hl hp hw hv hj he c0 hb0
  have H1 := Lib.hid (And.intro (Below.refl w.heap.size w) (And.intro HL0.out.1 HL0.out.2))
  go_enter Try.func6, Try.ntmps6
  go_wp2_with fail
  refine (HF.out).mono ?_
  rintro en v2 ⟨rfl, hw⟩
  rw [hw]
  clear hw
  go_wp2_with fail
  refine (HG.out).mono ?_
  rintro en v2 ⟨rfl, hw⟩
  rw [hw]
  clear hw
  go_wp2_with fail
  refine ((HCl.out _ H1.out.2.1 H1.out.2.2).mono (fun en w' h => clash_not HNC.out h)).mono ?_
  rintro en v2 ⟨rfl, hb⟩
  have H2 := Lib.hid (And.intro (H1.out.1.trans (hb.mono H1.out.1.size)) (And.intro (H1.out.2.1.below hb) (H1.out.2.2.below hb)))
  clear hb
  go_wp2_with fail
  refine (HRt.out _ H2.out.2.1).mono ?_
  rintro en v3 ⟨rfl, hb⟩
  have H3 := Lib.hid (And.intro (H2.out.1.trans (hb.mono H2.out.1.size)) (And.intro (H2.out.2.1.below hb) (H2.out.2.2.below hb)))
  clear hb
  have cc := HL1.out _ H3.out.1
  go_wp2_with fail
  refine (alive_any _).mono ?_
  rintro en v4 ⟨rfl, hb⟩
  have H4 := Lib.hid (And.intro (H3.out.1.trans (hb.mono H3.out.1.size)) (And.intro (H3.out.2.1.below hb) (H3.out.2.2.below hb)))
  clear cc
  clear hb
  go_wp2
  exact HR.out _ _ ⟨rfl, H4.out.1⟩
set_option maxRecDepth 100000 in
set_option maxHeartbeats 4000000 in
theorem clash_l4 (lv : Value) (l : List ByteArray) (j : Nat) (x : ByteArray) (pv : Value) (ps : List ByteArray) (w : World) (hl : Rd strE w lv l) (hp : Rd strE w pv ps) (f1 : l.length ≤ 70 ∧ bytesN l ≤ 5000) (f2 : ps.length ≤ 70 ∧ bytesN ps ≤ 5000) (f3 : x.size ≤ 1000) (hw : wholeL l = true) (hj : j < l.length) (he : ¬ x = l[j]) (hc : isV (rootL l) l.length j x ps = false) :
    Calls Try.prog 6 #[lv, .int .i64 (j : Nat), .string x, pv] w fun e w' => e = .returned (.bool true) ∧ Below w.heap.size w w' := by
  refine calls_by fun R HR => ?_
  have HF := Lib.hid (few_any l lv w hl)
  have HG := Lib.hid (few_any ps pv w hp)
  obtain ⟨a, cap, rfl, -⟩ := hl.shape
  obtain ⟨pa, pc, rfl, -⟩ := hp.shape
  have HL0 := Lib.hid (And.intro hl hp)
  rw [decide_eq_true f1] at HF
  rw [decide_eq_true f2] at HG
  have hs1 : ¬ (1000 : Int) < (x.size : Int) := by omega
  have g1 : l.length ≤ 1048576 := by omega
  have g2 : ps.length ≤ 100000000 := by omega
  have HRt := Lib.hid (fun w (h : Rd strE w (.slice a l.length cap) l) => root_any _ l w h (bytes_len f1.1))
  have HCl := Lib.hid (fun w (h : Rd strE w (.slice a l.length cap) l) (h2 : Rd strE w (.slice pa ps.length pc) ps) => clash_any _ l (j : Int) x _ ps w h h2 g1 g2)
  have hv := root_whole hw
  simp only [hv] at HRt
  have h1 : ¬ (j : Int) < 0 := by omega
  have h2 : ¬ (l.length : Int) ≤ (j : Int) := by omega
  have h2' : (j : Int) < (l.length : Int) := by omega
  obtain ⟨b, o, rfl, hb0, c0⟩ := hl.str j hj
  have HL1 := Lib.hid (fun (w1 : World) (h : Below w.heap.size w w1) => (h.cell (p := ⟨b, o + j, none⟩) hb0).trans c0)
  have HNC := Lib.hid (show ¬ (wholeL l = true ∧ 0 ≤ (j : Int) ∧ (j : Int) < l.length ∧ l[(j : Int).toNat]? ≠ some x ∧ isV (rootL l) l.length j x ps = true) from fun h => by have h9 := h.2.2.2.2; rw [hc] at h9; cases h9)
  have HC := Lib.hid (fun w1 (h : Rd strE w1 (.slice pa ps.length pc) ps) => check_any (rootL l) l.length j x ps _ w1 g2 h)
  simp only [hc] at HC
  have hne := text_ne he
  generalize l[j] = y at *
  clear f1 f2 f3 g1 g2 hl hp hw hv hj he c0 hb0 hc
  have H1 := Lib.hid (And.intro (Below.refl w.heap.size w) (And.intro HL0.out.1 HL0.out.2))
  go_enter Try.func6, Try.ntmps6
  go_wp2_with fail
  refine (HF.out).mono ?_
  rintro en v2 ⟨rfl, hw⟩
  rw [hw]
  clear hw
  go_wp2_with fail
  refine (HG.out).mono ?_
  rintro en v2 ⟨rfl, hw⟩
  rw [hw]
  clear hw
  go_wp2_with fail
  refine ((HCl.out _ H1.out.2.1 H1.out.2.2).mono (fun en w' h => clash_not HNC.out h)).mono ?_
  rintro en v2 ⟨rfl, hb⟩
  have H2 := Lib.hid (And.intro (H1.out.1.trans (hb.mono H1.out.1.size)) (And.intro (H1.out.2.1.below hb) (H1.out.2.2.below hb)))
  clear hb
  go_wp2_with fail
  refine (HRt.out _ H2.out.2.1).mono ?_
  rintro en v3 ⟨rfl, hb⟩
  have H3 := Lib.hid (And.intro (H2.out.1.trans (hb.mono H2.out.1.size)) (And.intro (H2.out.2.1.below hb) (H2.out.2.2.below hb)))
  clear hb
  have cc := HL1.out _ H3.out.1
  go_wp2_with fail
  refine (HC.out _ H3.out.2.2).mono ?_
  rintro en v4 ⟨rfl, hb⟩
  have H4 := Lib.hid (And.intro (H3.out.1.trans (hb.mono H3.out.1.size)) (And.intro (H3.out.2.1.below hb) (H3.out.2.2.below hb)))
  clear cc
  clear hb
  go_wp2_with fail
  refine (alive_any _).mono ?_
  rintro en v5 ⟨rfl, hb⟩
  have H5 := Lib.hid (And.intro (H4.out.1.trans (hb.mono H4.out.1.size)) (And.intro (H4.out.2.1.below hb) (H4.out.2.2.below hb)))
  clear hb
  go_wp2
  exact HR.out _ _ ⟨rfl, H5.out.1⟩
set_option maxRecDepth 100000 in
set_option maxHeartbeats 4000000 in
theorem clash_l5 (lv : Value) (l : List ByteArray) (j : Nat) (x : ByteArray) (pv : Value) (ps : List ByteArray) (w : World) (hl : Rd strE w lv l) (hp : Rd strE w pv ps) (f1 : l.length ≤ 70 ∧ bytesN l ≤ 5000) (f2 : ps.length ≤ 70 ∧ bytesN ps ≤ 5000) (f3 : x.size ≤ 1000) (hw : wholeL l = true) (hj : j < l.length) (he : ¬ x = l[j]) (hc : isV (rootL l) l.length j x ps = true) :
    Calls Try.prog 6 #[lv, .int .i64 (j : Nat), .string x, pv] w fun e w' => e = .returned (.bool true) ∧ Below w.heap.size w w' := by
  refine calls_by fun R HR => ?_
  have HF := Lib.hid (few_any l lv w hl)
  have HG := Lib.hid (few_any ps pv w hp)
  obtain ⟨a, cap, rfl, -⟩ := hl.shape
  obtain ⟨pa, pc, rfl, -⟩ := hp.shape
  have HL0 := Lib.hid (And.intro hl hp)
  rw [decide_eq_true f1] at HF
  rw [decide_eq_true f2] at HG
  have hs1 : ¬ (1000 : Int) < (x.size : Int) := by omega
  have g1 : l.length ≤ 1048576 := by omega
  have g2 : ps.length ≤ 100000000 := by omega
  have HRt := Lib.hid (fun w (h : Rd strE w (.slice a l.length cap) l) => root_any _ l w h (bytes_len f1.1))
  have HCl := Lib.hid (fun w (h : Rd strE w (.slice a l.length cap) l) (h2 : Rd strE w (.slice pa ps.length pc) ps) => clash_any _ l (j : Int) x _ ps w h h2 g1 g2)
  have hv := root_whole hw
  simp only [hv] at HRt
  have h1 : ¬ (j : Int) < 0 := by omega
  have h2 : ¬ (l.length : Int) ≤ (j : Int) := by omega
  have h2' : (j : Int) < (l.length : Int) := by omega
  obtain ⟨b, o, rfl, hb0, c0⟩ := hl.str j hj
  have HL1 := Lib.hid (fun (w1 : World) (h : Below w.heap.size w w1) => (h.cell (p := ⟨b, o + j, none⟩) hb0).trans c0)
  have HNC := Lib.hid (show wholeL l = true ∧ 0 ≤ (j : Int) ∧ (j : Int) < l.length ∧ l[(j : Int).toNat]? ≠ some x ∧ isV (rootL l) l.length j x ps = true from ⟨hw, by omega, by omega, (fun h => by rw [Int.toNat_natCast, List.getElem?_eq_getElem hj] at h; exact he (by simpa using h.symm)), hc⟩)
  have HC := Lib.hid (fun w1 (h : Rd strE w1 (.slice pa ps.length pc) ps) => check_any (rootL l) l.length j x ps _ w1 g2 h)
  simp only [hc] at HC
  have hne := text_ne he
  generalize l[j] = y at *
  clear f1 f2 f3 g1 g2 hl hp hw hv hj he c0 hb0 hc
  have H1 := Lib.hid (And.intro (Below.refl w.heap.size w) (And.intro HL0.out.1 HL0.out.2))
  go_enter Try.func6, Try.ntmps6
  go_wp2_with fail
  refine (HF.out).mono ?_
  rintro en v2 ⟨rfl, hw⟩
  rw [hw]
  clear hw
  go_wp2_with fail
  refine (HG.out).mono ?_
  rintro en v2 ⟨rfl, hw⟩
  rw [hw]
  clear hw
  go_wp2_with fail
  refine ((HCl.out _ H1.out.2.1 H1.out.2.2).mono (fun en w' h => clash_is HNC.out h)).mono ?_
  rintro en v2 ⟨⟨ua, ub, rfl, hun⟩, hb⟩
  have H2 := Lib.hid (And.intro (H1.out.1.trans (hb.mono H1.out.1.size)) (And.intro (H1.out.2.1.below hb) (H1.out.2.2.below hb)))
  have HUN := Lib.hid hun
  clear hun
  clear hb
  go_wp2_with fail
  refine (HRt.out _ H2.out.2.1).mono ?_
  rintro en v3 ⟨rfl, hb⟩
  have H3 := Lib.hid (And.intro (H2.out.1.trans (hb.mono H2.out.1.size)) (And.intro (H2.out.2.1.below hb) (H2.out.2.2.below hb)))
  clear hb
  have cc := HL1.out _ H3.out.1
  go_wp2_with fail
  refine (HC.out _ H3.out.2.2).mono ?_
  rintro en v4 ⟨rfl, hb⟩
  have H4 := Lib.hid (And.intro (H3.out.1.trans (hb.mono H3.out.1.size)) (And.intro (H3.out.2.1.below hb) (H3.out.2.2.below hb)))
  clear cc
  clear hb
  have hab := text_ne HUN.out.1
  have HSA := Lib.hid (fun w => sum1_any ua 9 w (by have := HUN.out.2.2.1; omega))
  have HSB := Lib.hid (fun w => sum1_any ub 9 w (by have := HUN.out.2.2.2; omega))
  simp only [← HUN.out.2.1] at HSB
  generalize shaS ua.data.toList = Q at *
  go_wp2_with fail
  refine (HSA.out _).mono ?_
  rintro en v5 ⟨rfl, hb⟩
  have H5 := Lib.hid (And.intro (H4.out.1.trans (hb.mono H4.out.1.size)) (And.intro (H4.out.2.1.below hb) (H4.out.2.2.below hb)))
  clear hb
  go_wp2_with fail
  refine (HSB.out _).mono ?_
  rintro en v6 ⟨rfl, hb⟩
  have H6 := Lib.hid (And.intro (H5.out.1.trans (hb.mono H5.out.1.size)) (And.intro (H5.out.2.1.below hb) (H5.out.2.2.below hb)))
  clear hb
  go_wp2_with fail
  refine (alive_any _).mono ?_
  rintro en v7 ⟨rfl, hb⟩
  have H7 := Lib.hid (And.intro (H6.out.1.trans (hb.mono H6.out.1.size)) (And.intro (H6.out.2.1.below hb) (H6.out.2.2.below hb)))
  clear hb
  go_wp2
  exact HR.out _ _ ⟨rfl, H7.out.1⟩
theorem law_clash (lv : Value) (l : List ByteArray) (i : Int) (x : ByteArray) (pv : Value) (ps : List ByteArray) (w : World) (hl : Rd strE w lv l) (hp : Rd strE w pv ps) :
    Calls Try.prog 6 #[lv, .int .i64 i, .string x, pv] w fun e w' => e = .returned (.bool true) ∧ Below w.heap.size w w' := by
  by_cases hf : (l.length ≤ 70 ∧ bytesN l ≤ 5000) ∧ (ps.length ≤ 70 ∧ bytesN ps ≤ 5000) ∧ x.size ≤ 1000
  · obtain ⟨f1, f2, f3⟩ := hf
    cases hw : wholeL l
    · exact clash_l1 lv l i x pv ps w hl hp f1 f2 f3 hw
    by_cases h0 : i < 0
    · exact clash_l2 lv l i x pv ps w hl hp f1 f2 f3 hw (.inl h0)
    by_cases h1 : (l.length : Int) ≤ i
    · exact clash_l2 lv l i x pv ps w hl hp f1 f2 f3 hw (.inr ⟨h0, h1⟩)
    obtain ⟨j, rfl⟩ : ∃ j : Nat, i = (j : Int) := ⟨i.toNat, by omega⟩
    have hj : j < l.length := by omega
    by_cases he : l[j] = x
    · exact clash_l3 lv l j x pv ps w hl hp f1 f2 f3 hw hj he
    have he' : ¬ x = l[j] := fun h => he h.symm
    cases hc : isV (rootL l) l.length j x ps
    · exact clash_l4 lv l j x pv ps w hl hp f1 f2 f3 hw hj he' hc
    · exact clash_l5 lv l j x pv ps w hl hp f1 f2 f3 hw hj he' hc
  · exact clash_few lv l i x pv ps w hl hp hf
end Go.Proofs.Ytophfeapmmfppaa
