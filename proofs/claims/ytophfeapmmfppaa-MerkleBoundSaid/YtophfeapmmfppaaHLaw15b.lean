/- The laws MerkleUps, MerkleProves: what their walks give. -/
import Derived.Test.YtophfeapmmfppaaHLaw15a
import Derived.Test.YtophfeapmmfppaaM6
namespace Go.Proofs.Ytophfeapmmfppaa
open Go.RowKit Ks
set_option linter.unusedVariables false
set_option maxRecDepth 100000 in
set_option maxHeartbeats 4000000 in
theorem ups_few (c i : Int) (x : ByteArray) (pv : Value) (ps : List ByteArray) (root : ByteArray) (w : World) (hp : Rd strE w pv ps) (hf : ¬ (ps.length ≤ 70 ∧ bytesN ps ≤ 5000 ∧ x.size ≤ 1000)) :
    Calls Try.prog 4 #[.int .i64 c, .int .i64 i, .string x, pv, .string root] w fun e w' => e = .returned (.bool true) ∧ Below w.heap.size w w' := by
  refine calls_by fun R HR => ?_
  have HF := Lib.hid (few_any ps pv w hp)
  obtain ⟨pa, pc, rfl, -⟩ := hp.shape
  have HP0 := Lib.hid hp
  by_cases h1 : ps.length ≤ 70 ∧ bytesN ps ≤ 5000
  · rw [decide_eq_true h1] at HF
    have hs1 : (1000 : Int) < (x.size : Int) := by
      have : ¬ x.size ≤ 1000 := fun h => hf ⟨h1.1, h1.2, h⟩
      omega
    clear h1 hf hp
    have H1 := Lib.hid ((Below.refl w.heap.size w))
    go_enter Try.func4, Try.ntmps4
    go_wp2_with fail
    refine (HF.out).mono ?_
    rintro en v2 ⟨rfl, hw⟩
    rw [hw]
    clear hw
    go_wp2_with fail
    refine (alive_any _).mono ?_
    rintro en v2 ⟨rfl, hb⟩
    have H2 := Lib.hid ((H1.out.trans (hb.mono H1.out.size)))
    clear hb
    go_wp2
    exact HR.out _ _ ⟨rfl, H2.out⟩
  · rw [decide_eq_false h1] at HF
    clear h1 hf hp
    have H1 := Lib.hid ((Below.refl w.heap.size w))
    go_enter Try.func4, Try.ntmps4
    go_wp2_with fail
    refine (HF.out).mono ?_
    rintro en v2 ⟨rfl, hw⟩
    rw [hw]
    clear hw
    go_wp2_with fail
    refine (alive_any _).mono ?_
    rintro en v2 ⟨rfl, hb⟩
    have H2 := Lib.hid ((H1.out.trans (hb.mono H1.out.size)))
    clear hb
    go_wp2
    exact HR.out _ _ ⟨rfl, H2.out⟩
set_option maxRecDepth 100000 in
set_option maxHeartbeats 4000000 in
theorem ups_bad (c i : Int) (x : ByteArray) (pv : Value) (ps : List ByteArray) (root : ByteArray) (w : World) (hp : Rd strE w pv ps) (f1 : ps.length ≤ 70) (f2 : bytesN ps ≤ 5000) (f3 : x.size ≤ 1000) (h : c < 1 ∨ 1048576 < c ∨ i < 0 ∨ c ≤ i) :
    Calls Try.prog 4 #[.int .i64 c, .int .i64 i, .string x, pv, .string root] w fun e w' => e = .returned (.bool true) ∧ Below w.heap.size w w' := by
  refine calls_by fun R HR => ?_
  have HF := Lib.hid (few_any ps pv w hp)
  obtain ⟨pa, pc, rfl, -⟩ := hp.shape
  have HP0 := Lib.hid hp
  have hd : decide (ps.length ≤ 70 ∧ bytesN ps ≤ 5000) = true := decide_eq_true ⟨f1, f2⟩
  rw [hd] at HF
  have hs1 : ¬ (1000 : Int) < (x.size : Int) := by omega
  have HU := Lib.hid (fun w (h : Rd strE w (.slice pa ps.length pc) ps) => up_any c i x ps _ w (bytes_len f1) h)
  have HC := Lib.hid (fun w (h : Rd strE w (.slice pa ps.length pc) ps) => check_any root c i x ps _ w (bytes_len f1) h)
  have HW := Lib.hid (fun w (h : Rd strE w (.slice pa ps.length pc) ps) => rwhole_any _ ps w h (by omega))
  have hv := up_bad (x := x) (ps := ps) h
  have hi0 : isV root c i x ps = false := by unfold isV; rw [hv.2]; simp
  simp only [hv.1, hv.2] at HU
  simp only [hi0] at HC
  have hc : c < 1 ∨ (¬ c < 1 ∧ 1048576 < c) ∨ (¬ c < 1 ∧ ¬ 1048576 < c ∧ i < 0) ∨ (¬ c < 1 ∧ ¬ 1048576 < c ∧ ¬ i < 0 ∧ c ≤ i) := by omega
  clear h hv hi0 f1 f2 f3 hd hp
  rcases hc with h1 | ⟨h1, h2⟩ | ⟨h1, h2, h3⟩ | ⟨h1, h2, h3, h4⟩
  all_goals
    have H1 := Lib.hid (And.intro (Below.refl w.heap.size w) HP0.out)
    go_enter Try.func4, Try.ntmps4
    go_wp2_with fail
    refine (HF.out).mono ?_
    rintro en v2 ⟨rfl, hw⟩
    rw [hw]
    clear hw
    go_wp2_with fail
    refine (HU.out _ H1.out.2).mono ?_
    rintro en v2 ⟨rfl, hb⟩
    have H2 := Lib.hid (And.intro (H1.out.1.trans (hb.mono H1.out.1.size)) (H1.out.2.below hb))
    clear hb
    go_wp2_with fail
    refine (HC.out _ H2.out.2).mono ?_
    rintro en v3 ⟨rfl, hb⟩
    have H3 := Lib.hid (And.intro (H2.out.1.trans (hb.mono H2.out.1.size)) (H2.out.2.below hb))
    clear hb
    go_wp2_with fail
    refine (alive_any _).mono ?_
    rintro en v4 ⟨rfl, hb⟩
    have H4 := Lib.hid (And.intro (H3.out.1.trans (hb.mono H3.out.1.size)) (H3.out.2.below hb))
    clear hb
    go_wp2
    exact HR.out _ _ ⟨rfl, H4.out.1⟩
set_option maxRecDepth 100000 in
set_option maxHeartbeats 4000000 in
theorem ups_leaf (c i : Int) (x : ByteArray) (pv : Value) (ps : List ByteArray) (root : ByteArray) (w : World) (hp : Rd strE w pv ps) (f1 : ps.length ≤ 70) (f2 : bytesN ps ≤ 5000) (f3 : x.size ≤ 1000) (h1 : ¬ c < 1) (h2 : ¬ 1048576 < c) (h3 : ¬ i < 0) (h4 : ¬ c ≤ i) (hx : ¬ x.size = 32) :
    Calls Try.prog 4 #[.int .i64 c, .int .i64 i, .string x, pv, .string root] w fun e w' => e = .returned (.bool true) ∧ Below w.heap.size w w' := by
  refine calls_by fun R HR => ?_
  have HF := Lib.hid (few_any ps pv w hp)
  obtain ⟨pa, pc, rfl, -⟩ := hp.shape
  have HP0 := Lib.hid hp
  have hd : decide (ps.length ≤ 70 ∧ bytesN ps ≤ 5000) = true := decide_eq_true ⟨f1, f2⟩
  rw [hd] at HF
  have hs1 : ¬ (1000 : Int) < (x.size : Int) := by omega
  have HU := Lib.hid (fun w (h : Rd strE w (.slice pa ps.length pc) ps) => up_any c i x ps _ w (bytes_len f1) h)
  have HC := Lib.hid (fun w (h : Rd strE w (.slice pa ps.length pc) ps) => check_any root c i x ps _ w (bytes_len f1) h)
  have HW := Lib.hid (fun w (h : Rd strE w (.slice pa ps.length pc) ps) => rwhole_any _ ps w h (by omega))
  have hb : ¬ (c < 1 ∨ 1048576 < c ∨ i < 0 ∨ c ≤ i) := by omega
  have hv := up_no (ps := ps) hb (fun h => hx h.1)
  have hi0 : isV root c i x ps = false := by unfold isV; rw [hv.2]; simp
  simp only [hv.1, hv.2] at HU
  simp only [hi0] at HC
  have hxb : ((x.size : Int) != 32) = true := by rw [bne_iff_ne]; omega
  clear hb hv hi0 f1 f2 f3 hd hp hx
  have H1 := Lib.hid (And.intro (Below.refl w.heap.size w) HP0.out)
  go_enter Try.func4, Try.ntmps4
  go_wp2_with fail
  refine (HF.out).mono ?_
  rintro en v2 ⟨rfl, hw⟩
  rw [hw]
  clear hw
  go_wp2_with fail
  refine (HU.out _ H1.out.2).mono ?_
  rintro en v2 ⟨rfl, hb⟩
  have H2 := Lib.hid (And.intro (H1.out.1.trans (hb.mono H1.out.1.size)) (H1.out.2.below hb))
  clear hb
  go_wp2_with fail
  refine (HC.out _ H2.out.2).mono ?_
  rintro en v3 ⟨rfl, hb⟩
  have H3 := Lib.hid (And.intro (H2.out.1.trans (hb.mono H2.out.1.size)) (H2.out.2.below hb))
  clear hb
  go_wp2_with fail
  refine (alive_any _).mono ?_
  rintro en v4 ⟨rfl, hb⟩
  have H4 := Lib.hid (And.intro (H3.out.1.trans (hb.mono H3.out.1.size)) (H3.out.2.below hb))
  clear hb
  go_wp2
  exact HR.out _ _ ⟨rfl, H4.out.1⟩
set_option maxRecDepth 100000 in
set_option maxHeartbeats 4000000 in
theorem ups_path (c i : Int) (x : ByteArray) (pv : Value) (ps : List ByteArray) (root : ByteArray) (w : World) (hp : Rd strE w pv ps) (f1 : ps.length ≤ 70) (f2 : bytesN ps ≤ 5000) (f3 : x.size ≤ 1000) (h1 : ¬ c < 1) (h2 : ¬ 1048576 < c) (h3 : ¬ i < 0) (h4 : ¬ c ≤ i) (hx : x.size = 32) (hw : wholeL ps = false) :
    Calls Try.prog 4 #[.int .i64 c, .int .i64 i, .string x, pv, .string root] w fun e w' => e = .returned (.bool true) ∧ Below w.heap.size w w' := by
  refine calls_by fun R HR => ?_
  have HF := Lib.hid (few_any ps pv w hp)
  obtain ⟨pa, pc, rfl, -⟩ := hp.shape
  have HP0 := Lib.hid hp
  have hd : decide (ps.length ≤ 70 ∧ bytesN ps ≤ 5000) = true := decide_eq_true ⟨f1, f2⟩
  rw [hd] at HF
  have hs1 : ¬ (1000 : Int) < (x.size : Int) := by omega
  have HU := Lib.hid (fun w (h : Rd strE w (.slice pa ps.length pc) ps) => up_any c i x ps _ w (bytes_len f1) h)
  have HC := Lib.hid (fun w (h : Rd strE w (.slice pa ps.length pc) ps) => check_any root c i x ps _ w (bytes_len f1) h)
  have HW := Lib.hid (fun w (h : Rd strE w (.slice pa ps.length pc) ps) => rwhole_any _ ps w h (by omega))
  have hb : ¬ (c < 1 ∨ 1048576 < c ∨ i < 0 ∨ c ≤ i) := by omega
  have hv := up_no (x := x) hb (fun h => by rw [hw] at h; cases h.2.1)
  have hi0 : isV root c i x ps = false := by unfold isV; rw [hv.2]; simp
  simp only [hv.1, hv.2] at HU
  simp only [hi0] at HC
  simp only [hw] at HW
  have hxb : ((x.size : Int) != 32) = false := by rw [hx]; rfl
  clear hb hv hi0 f1 f2 f3 hd hp hx hw
  have H1 := Lib.hid (And.intro (Below.refl w.heap.size w) HP0.out)
  go_enter Try.func4, Try.ntmps4
  go_wp2_with fail
  refine (HF.out).mono ?_
  rintro en v2 ⟨rfl, hw⟩
  rw [hw]
  clear hw
  go_wp2_with fail
  refine (HU.out _ H1.out.2).mono ?_
  rintro en v2 ⟨rfl, hb⟩
  have H2 := Lib.hid (And.intro (H1.out.1.trans (hb.mono H1.out.1.size)) (H1.out.2.below hb))
  clear hb
  go_wp2_with fail
  refine (HC.out _ H2.out.2).mono ?_
  rintro en v3 ⟨rfl, hb⟩
  have H3 := Lib.hid (And.intro (H2.out.1.trans (hb.mono H2.out.1.size)) (H2.out.2.below hb))
  clear hb
  go_wp2_with fail
  refine (HW.out _ H3.out.2).mono ?_
  rintro en v4 ⟨rfl, hw⟩
  rw [hw]
  clear hw
  go_wp2_with fail
  refine (alive_any _).mono ?_
  rintro en v4 ⟨rfl, hb⟩
  have H4 := Lib.hid (And.intro (H3.out.1.trans (hb.mono H3.out.1.size)) (H3.out.2.below hb))
  clear hb
  go_wp2
  exact HR.out _ _ ⟨rfl, H4.out.1⟩
set_option maxRecDepth 100000 in
set_option maxHeartbeats 4000000 in
theorem ups_long (c i : Int) (x : ByteArray) (pv : Value) (ps : List ByteArray) (root : ByteArray) (w : World) (hp : Rd strE w pv ps) (f1 : ps.length ≤ 70) (f2 : bytesN ps ≤ 5000) (f3 : x.size ≤ 1000) (h1 : ¬ c < 1) (h2 : ¬ 1048576 < c) (h3 : ¬ i < 0) (h4 : ¬ c ≤ i) (hx : x.size = 32) (hw : wholeL ps = true) (hl : ¬ ps.length = (sidesH c.toNat i.toNat).length) :
    Calls Try.prog 4 #[.int .i64 c, .int .i64 i, .string x, pv, .string root] w fun e w' => e = .returned (.bool true) ∧ Below w.heap.size w w' := by
  refine calls_by fun R HR => ?_
  have HF := Lib.hid (few_any ps pv w hp)
  obtain ⟨pa, pc, rfl, -⟩ := hp.shape
  have HP0 := Lib.hid hp
  have hd : decide (ps.length ≤ 70 ∧ bytesN ps ≤ 5000) = true := decide_eq_true ⟨f1, f2⟩
  rw [hd] at HF
  have hs1 : ¬ (1000 : Int) < (x.size : Int) := by omega
  have HU := Lib.hid (fun w (h : Rd strE w (.slice pa ps.length pc) ps) => up_any c i x ps _ w (bytes_len f1) h)
  have HC := Lib.hid (fun w (h : Rd strE w (.slice pa ps.length pc) ps) => check_any root c i x ps _ w (bytes_len f1) h)
  have HW := Lib.hid (fun w (h : Rd strE w (.slice pa ps.length pc) ps) => rwhole_any _ ps w h (by omega))
  have hb : ¬ (c < 1 ∨ 1048576 < c ∨ i < 0 ∨ c ≤ i) := by omega
  have hv := up_no (x := x) hb (fun h => hl h.2.2)
  have hi0 : isV root c i x ps = false := by unfold isV; rw [hv.2]; simp
  simp only [hv.1, hv.2] at HU
  simp only [hi0] at HC
  simp only [hw] at HW
  have hxb : ((x.size : Int) != 32) = false := by rw [hx]; rfl
  obtain ⟨n, rfl⟩ : ∃ n : Nat, c = (n : Int) := ⟨c.toNat, by omega⟩
  obtain ⟨j, rfl⟩ : ∃ j : Nat, i = (j : Int) := ⟨i.toNat, by omega⟩
  have HG := Lib.hid (fun w => rlong_any n j w (by omega) (by omega))
  simp only [Int.toNat_natCast] at hl
  have hlb : ((ps.length : Int) != ((sidesH n j).length : Int)) = true := by rw [bne_iff_ne]; omega
  generalize (sidesH n j).length = q at *
  clear hb hv hi0 f1 f2 f3 hd hp hx hw hl
  have H1 := Lib.hid (And.intro (Below.refl w.heap.size w) HP0.out)
  go_enter Try.func4, Try.ntmps4
  go_wp2_with fail
  refine (HF.out).mono ?_
  rintro en v2 ⟨rfl, hw⟩
  rw [hw]
  clear hw
  go_wp2_with fail
  refine (HU.out _ H1.out.2).mono ?_
  rintro en v2 ⟨rfl, hb⟩
  have H2 := Lib.hid (And.intro (H1.out.1.trans (hb.mono H1.out.1.size)) (H1.out.2.below hb))
  clear hb
  go_wp2_with fail
  refine (HC.out _ H2.out.2).mono ?_
  rintro en v3 ⟨rfl, hb⟩
  have H3 := Lib.hid (And.intro (H2.out.1.trans (hb.mono H2.out.1.size)) (H2.out.2.below hb))
  clear hb
  go_wp2_with fail
  refine (HW.out _ H3.out.2).mono ?_
  rintro en v4 ⟨rfl, hw⟩
  rw [hw]
  clear hw
  go_wp2_with fail
  refine (HG.out _).mono ?_
  rintro en v4 ⟨rfl, hw⟩
  rw [hw]
  clear hw
  go_wp2_with fail
  refine (alive_any _).mono ?_
  rintro en v4 ⟨rfl, hb⟩
  have H4 := Lib.hid (And.intro (H3.out.1.trans (hb.mono H3.out.1.size)) (H3.out.2.below hb))
  clear hb
  go_wp2
  exact HR.out _ _ ⟨rfl, H4.out.1⟩
set_option maxRecDepth 100000 in
set_option maxHeartbeats 4000000 in
theorem ups_yes (c i : Int) (x : ByteArray) (pv : Value) (ps : List ByteArray) (root : ByteArray) (w : World) (hp : Rd strE w pv ps) (f1 : ps.length ≤ 70) (f2 : bytesN ps ≤ 5000) (f3 : x.size ≤ 1000) (h1 : ¬ c < 1) (h2 : ¬ 1048576 < c) (h3 : ¬ i < 0) (h4 : ¬ c ≤ i) (hx : x.size = 32) (hw : wholeL ps = true) (hl : ps.length = (sidesH c.toNat i.toNat).length) :
    Calls Try.prog 4 #[.int .i64 c, .int .i64 i, .string x, pv, .string root] w fun e w' => e = .returned (.bool true) ∧ Below w.heap.size w w' := by
  refine calls_by fun R HR => ?_
  have HF := Lib.hid (few_any ps pv w hp)
  obtain ⟨pa, pc, rfl, -⟩ := hp.shape
  have HP0 := Lib.hid hp
  have hd : decide (ps.length ≤ 70 ∧ bytesN ps ≤ 5000) = true := decide_eq_true ⟨f1, f2⟩
  rw [hd] at HF
  have hs1 : ¬ (1000 : Int) < (x.size : Int) := by omega
  have HU := Lib.hid (fun w (h : Rd strE w (.slice pa ps.length pc) ps) => up_any c i x ps _ w (bytes_len f1) h)
  have HC := Lib.hid (fun w (h : Rd strE w (.slice pa ps.length pc) ps) => check_any root c i x ps _ w (bytes_len f1) h)
  have HW := Lib.hid (fun w (h : Rd strE w (.slice pa ps.length pc) ps) => rwhole_any _ ps w h (by omega))
  have hb : ¬ (c < 1 ∨ 1048576 < c ∨ i < 0 ∨ c ≤ i) := by omega
  have hv := up_yes hb ⟨hx, hw, hl⟩
  have hi0 : isV root c i x ps = decide (root = upS c.toNat i.toNat x ps) := by
    unfold isV
    rw [hv.1, hv.2, decide_eq_decide]
    exact ⟨fun h => h.2.symm, fun h => ⟨rfl, h.symm⟩⟩
  simp only [hv.1, hv.2] at HU
  simp only [hw] at HW
  have hxb : ((x.size : Int) != 32) = false := by rw [hx]; rfl
  obtain ⟨n, rfl⟩ : ∃ n : Nat, c = (n : Int) := ⟨c.toNat, by omega⟩
  obtain ⟨j, rfl⟩ : ∃ j : Nat, i = (j : Int) := ⟨i.toNat, by omega⟩
  have HG := Lib.hid (fun w => rlong_any n j w (by omega) (by omega))
  simp only [Int.toNat_natCast] at hl HU hi0
  have HRU := Lib.hid (fun w (h : Rd strE w (.slice pa ps.length pc) ps) => rup_any n j x ps _ w (by omega) (by omega) hx hw hl h)
  have hlb : ((ps.length : Int) != ((sidesH n j).length : Int)) = false := by rw [bne_eq_false_iff_eq]; omega
  generalize (sidesH n j).length = q at *
  clear hb hv f1 f2 f3 hd hp hx hw hl
  by_cases hz : root = upS n j x ps
  · simp only [hi0, decide_eq_true hz] at HC
    clear hi0
    rw [← hz] at HU HRU
    clear hz
    have H1 := Lib.hid (And.intro (Below.refl w.heap.size w) HP0.out)
    go_enter Try.func4, Try.ntmps4
    go_wp2_with fail
    refine (HF.out).mono ?_
    rintro en v2 ⟨rfl, hw⟩
    rw [hw]
    clear hw
    go_wp2_with fail
    refine (HU.out _ H1.out.2).mono ?_
    rintro en v2 ⟨rfl, hb⟩
    have H2 := Lib.hid (And.intro (H1.out.1.trans (hb.mono H1.out.1.size)) (H1.out.2.below hb))
    clear hb
    go_wp2_with fail
    refine (HC.out _ H2.out.2).mono ?_
    rintro en v3 ⟨rfl, hb⟩
    have H3 := Lib.hid (And.intro (H2.out.1.trans (hb.mono H2.out.1.size)) (H2.out.2.below hb))
    clear hb
    go_wp2_with fail
    refine (HW.out _ H3.out.2).mono ?_
    rintro en v4 ⟨rfl, hw⟩
    rw [hw]
    clear hw
    go_wp2_with fail
    refine (HG.out _).mono ?_
    rintro en v4 ⟨rfl, hw⟩
    rw [hw]
    clear hw
    go_wp2_with fail
    refine (HRU.out _ H3.out.2).mono ?_
    rintro en v4 ⟨rfl, hb⟩
    have H4 := Lib.hid (And.intro (H3.out.1.trans (hb.mono H3.out.1.size)) (H3.out.2.below hb))
    clear hb
    go_wp2_with fail
    refine (alive_any _).mono ?_
    rintro en v5 ⟨rfl, hb⟩
    have H5 := Lib.hid (And.intro (H4.out.1.trans (hb.mono H4.out.1.size)) (H4.out.2.below hb))
    clear hb
    go_wp2
    exact HR.out _ _ ⟨rfl, H5.out.1⟩
  · have hzb := text_ne hz
    simp only [hi0, decide_eq_false hz] at HC
    clear hz hi0
    generalize upS n j x ps = Z at *
    have H1 := Lib.hid (And.intro (Below.refl w.heap.size w) HP0.out)
    go_enter Try.func4, Try.ntmps4
    go_wp2_with fail
    refine (HF.out).mono ?_
    rintro en v2 ⟨rfl, hw⟩
    rw [hw]
    clear hw
    go_wp2_with fail
    refine (HU.out _ H1.out.2).mono ?_
    rintro en v2 ⟨rfl, hb⟩
    have H2 := Lib.hid (And.intro (H1.out.1.trans (hb.mono H1.out.1.size)) (H1.out.2.below hb))
    clear hb
    go_wp2_with fail
    refine (HC.out _ H2.out.2).mono ?_
    rintro en v3 ⟨rfl, hb⟩
    have H3 := Lib.hid (And.intro (H2.out.1.trans (hb.mono H2.out.1.size)) (H2.out.2.below hb))
    clear hb
    go_wp2_with fail
    refine (HW.out _ H3.out.2).mono ?_
    rintro en v4 ⟨rfl, hw⟩
    rw [hw]
    clear hw
    go_wp2_with fail
    refine (HG.out _).mono ?_
    rintro en v4 ⟨rfl, hw⟩
    rw [hw]
    clear hw
    go_wp2_with fail
    refine (HRU.out _ H3.out.2).mono ?_
    rintro en v4 ⟨rfl, hb⟩
    have H4 := Lib.hid (And.intro (H3.out.1.trans (hb.mono H3.out.1.size)) (H3.out.2.below hb))
    clear hb
    go_wp2_with fail
    refine (alive_any _).mono ?_
    rintro en v5 ⟨rfl, hb⟩
    have H5 := Lib.hid (And.intro (H4.out.1.trans (hb.mono H4.out.1.size)) (H4.out.2.below hb))
    clear hb
    go_wp2
    exact HR.out _ _ ⟨rfl, H5.out.1⟩
theorem law_ups (c i : Int) (x : ByteArray) (pv : Value) (ps : List ByteArray) (root : ByteArray) (w : World) (hp : Rd strE w pv ps) :
    Calls Try.prog 4 #[.int .i64 c, .int .i64 i, .string x, pv, .string root] w fun e w' => e = .returned (.bool true) ∧ Below w.heap.size w w' := by
  by_cases hf : ps.length ≤ 70 ∧ bytesN ps ≤ 5000 ∧ x.size ≤ 1000
  · obtain ⟨f1, f2, f3⟩ := hf
    by_cases h : c < 1 ∨ 1048576 < c ∨ i < 0 ∨ c ≤ i
    · exact ups_bad c i x pv ps root w hp f1 f2 f3 h
    have h1 : ¬ c < 1 := by omega
    have h2 : ¬ 1048576 < c := by omega
    have h3 : ¬ i < 0 := by omega
    have h4 : ¬ c ≤ i := by omega
    by_cases hx : x.size = 32
    · cases hw : wholeL ps
      · exact ups_path c i x pv ps root w hp f1 f2 f3 h1 h2 h3 h4 hx hw
      · by_cases hl : ps.length = (sidesH c.toNat i.toNat).length
        · exact ups_yes c i x pv ps root w hp f1 f2 f3 h1 h2 h3 h4 hx hw hl
        · exact ups_long c i x pv ps root w hp f1 f2 f3 h1 h2 h3 h4 hx hw hl
    · exact ups_leaf c i x pv ps root w hp f1 f2 f3 h1 h2 h3 h4 hx
  · exact ups_few c i x pv ps root w hp hf
end Go.Proofs.Ytophfeapmmfppaa
