/- The law MerkleBound: what its walk gives. -/
import Derived.Test.YtophfeapmmfppaaHLaw15d
import Derived.Test.YtophfeapmmfppaaM5
import Derived.BigQuiet
namespace Ks
open Go Go.RowKit
/-- a class of worlds behind one, where two slices may have been made -/
def Pair {α : Type} (E : Enc α) (w0 : World) (A B : List α) (s u : Option Value) (w : World) : Prop :=
  Below w0.heap.size w0 w ∧ (∀ v, s = some v → Rd E w v A) ∧ (∀ v, u = some v → Rd E w v B)
section
variable {α : Type} {E : Enc α} {w0 w w' : World} {A B : List α} {s u : Option Value}
theorem Pair.start (hb : Below w0.heap.size w0 w) : Pair E w0 A B none none w := ⟨hb, (fun v h => by cases h), (fun v h => by cases h)⟩
theorem Pair.on (h : Pair E w0 A B s u w) (hb : Below w.heap.size w w') : Pair E w0 A B s u w' := ⟨h.1.trans (hb.mono h.1.size), (fun v e => (h.2.1 v e).below hb), (fun v e => (h.2.2 v e).below hb)⟩
theorem Pair.made1 (h : Pair E w0 A B none u w) (cs : Array Value) (e : cs.toList = E.cs A) (fr : Nat × Nat := (0, 0)) (T : TypeId) : Pair E w0 A B (some (.slice (some ⟨w.heap.size, 0, none⟩) A.length A.length)) u (w.alloc (.cells cs T fr)) := by
  have hb := alloc_below w (.cells cs T fr)
  exact ⟨h.1.trans (hb.mono h.1.size), (fun x e2 => by cases e2; exact Rd.block (alloc_new w _) e), (fun v e => (h.2.2 v e).below hb)⟩
theorem Pair.made2 (h : Pair E w0 A B s none w) (cs : Array Value) (e : cs.toList = E.cs B) (fr : Nat × Nat := (0, 0)) (T : TypeId) : Pair E w0 A B s (some (.slice (some ⟨w.heap.size, 0, none⟩) B.length B.length)) (w.alloc (.cells cs T fr)) := by
  have hb := alloc_below w (.cells cs T fr)
  exact ⟨h.1.trans (hb.mono h.1.size), (fun v e => (h.2.1 v e).below hb), (fun x e2 => by cases e2; exact Rd.block (alloc_new w _) e)⟩
end
end Ks
namespace Go.Proofs.Ytophfeapmmfppaa
open Go.RowKit Ks
set_option linter.unusedVariables false
theorem eg_sum : ∀ args w, (callFunc 13 args).run Try.prog w = .ok (.enter 13 args) w := fun _ _ => rfl
theorem sumR_any (s : ByteArray) (v : Value) (w : World) (hv : Rd strE w v [s]) (h : s.size ≤ 50000000000) : Calls Try.prog 13 #[v] w fun e w' => e = .returned (.string (shaS s.data.toList)) ∧ Below w.heap.size w w' := by
  refine (sumv_any [s] v w hv (by rw [join_one]; exact h) (by simp)).mono fun e w' ⟨he, hb⟩ => ⟨?_, hb⟩
  rw [join_one] at he
  exact he
set_option maxRecDepth 100000 in
set_option maxHeartbeats 4000000 in
theorem bound_few (lv : Value) (l : List ByteArray) (i : Int) (j : Int) (w : World) (hl : Rd strE w lv l) (hf : ¬ (l.length ≤ 70 ∧ bytesN l ≤ 5000)) :
    Calls Try.prog 7 #[lv, .int .i64 (i), .int .i64 (j)] w fun e w' => e = .returned (.bool true) ∧ Below w.heap.size w w' := by
  refine calls_by fun R HR => ?_
  have HF := Lib.hid (few_any l lv w hl)
  obtain ⟨a, cap, rfl, -⟩ := hl.shape
  have HL0 := Lib.hid hl
  rw [decide_eq_false hf] at HF
  clear hf hl
  have H1 := Lib.hid ((Below.refl w.heap.size w))
  go_enter Try.func7, Try.ntmps7
  go_wp2_with fail
  refine (HF.out).mono ?_
  rintro en v2 ⟨rfl, hw⟩
  rw [hw]
  clear hw
  go_wp2_with fail
  refine (alive_any _).mono ?_
  rintro en v2 ⟨rfl, hb⟩
  have H2 := Lib.hid ((H1.out.trans (hb.mono H1.out.size)))
  clear hb
  go_wp2
  exact HR.out _ _ ⟨rfl, H2.out⟩
set_option maxRecDepth 100000 in
set_option maxHeartbeats 4000000 in
theorem bound_out (lv : Value) (l : List ByteArray) (i : Int) (j : Int) (w : World) (hl : Rd strE w lv l) (hf : l.length ≤ 70 ∧ bytesN l ≤ 5000) (ho : j < 0 ∨ (¬ j < 0 ∧ (l.length : Int) ≤ j)) :
    Calls Try.prog 7 #[lv, .int .i64 (i), .int .i64 (j)] w fun e w' => e = .returned (.bool true) ∧ Below w.heap.size w w' := by
  refine calls_by fun R HR => ?_
  have HF := Lib.hid (few_any l lv w hl)
  obtain ⟨a, cap, rfl, -⟩ := hl.shape
  have HL0 := Lib.hid hl
  rw [decide_eq_true hf] at HF
  clear hf hl
  rcases ho with h1 | ⟨h1, h2⟩
  all_goals
    have H1 := Lib.hid ((Below.refl w.heap.size w))
    go_enter Try.func7, Try.ntmps7
    go_wp2_with fail
    refine (HF.out).mono ?_
    rintro en v2 ⟨rfl, hw⟩
    rw [hw]
    clear hw
    go_wp2_with fail
    refine (alive_any _).mono ?_
    rintro en v2 ⟨rfl, hb⟩
    have H2 := Lib.hid ((H1.out.trans (hb.mono H1.out.size)))
    clear hb
    go_wp2
    exact HR.out _ _ ⟨rfl, H2.out⟩
set_option maxRecDepth 100000 in
set_option maxHeartbeats 4000000 in
theorem bound_no (lv : Value) (l : List ByteArray) (i : Int) (j : Int) (w : World) (hl : Rd strE w lv l) (hf : l.length ≤ 70 ∧ bytesN l ≤ 5000) (h1 : ¬ j < 0) (h2 : ¬ (l.length : Int) ≤ j) (ho : ¬ (wholeL l = true ∧ 0 ≤ i ∧ i < l.length)) :
    Calls Try.prog 7 #[lv, .int .i64 (i), .int .i64 (j)] w fun e w' => e = .returned (.bool true) ∧ Below w.heap.size w w' := by
  refine calls_by fun R HR => ?_
  have HF := Lib.hid (few_any l lv w hl)
  obtain ⟨a, cap, rfl, -⟩ := hl.shape
  have HL0 := Lib.hid hl
  rw [decide_eq_true hf] at HF
  have f1 := hf.1
  have HRt := Lib.hid (fun w (h : Rd strE w (.slice a l.length cap) l) => root_any _ l w h (bytes_len f1))
  have HPt := Lib.hid (fun w (h : Rd strE w (.slice a l.length cap) l) => path_any _ l i w h (bytes_len f1))
  have hp := path_out ho
  simp only [hp] at HPt
  have hwe : wholeE l = 0 ∨ wholeE l = 2 := by unfold wholeE; split <;> simp
  generalize rootV l = Z at *
  generalize wholeE l = we at *
  clear hp ho hf f1 hl
  rcases hwe with rfl | rfl
  all_goals
    have H1 := Lib.hid (And.intro (Below.refl w.heap.size w) HL0.out)
    go_enter Try.func7, Try.ntmps7
    go_wp2_with fail
    refine (HF.out).mono ?_
    rintro en v2 ⟨rfl, hw⟩
    rw [hw]
    clear hw
    go_wp2_with fail
    refine (HRt.out _ H1.out.2).mono ?_
    rintro en v2 ⟨rfl, hb⟩
    have H2 := Lib.hid (And.intro (H1.out.1.trans (hb.mono H1.out.1.size)) (H1.out.2.below hb))
    clear hb
    go_wp2_with fail
    refine (HPt.out _ H2.out.2).mono ?_
    rintro en v3 ⟨pv, rfl, hrow, hb⟩
    have H3 := Lib.hid (And.intro (H2.out.1.trans (hb.mono H2.out.1.size)) (And.intro (H2.out.2.below hb) hrow.rd))
    obtain ⟨pa, pc, rfl, -⟩ := hrow.shape
    clear hrow
    clear hb
    go_wp2_with fail
    refine (alive_any _).mono ?_
    rintro en v4 ⟨rfl, hb⟩
    have H4 := Lib.hid (And.intro (H3.out.1.trans (hb.mono H3.out.1.size)) (And.intro (H3.out.2.1.below hb) (H3.out.2.2.below hb)))
    clear hb
    go_wp2
    exact HR.out _ _ ⟨rfl, H4.out.1⟩
set_option maxRecDepth 100000 in
set_option maxHeartbeats 4000000 in
theorem bound_chk (lv : Value) (l : List ByteArray) (i : Nat) (j : Nat) (w : World) (hl : Rd strE w lv l) (hf : l.length ≤ 70 ∧ bytesN l ≤ 5000) (hw : wholeL l = true) (hj : j < l.length) (hi : i < l.length) (hc : isV (rootL l) l.length j l[i] (pathL l i) = false) :
    Calls Try.prog 7 #[lv, .int .i64 (i : Nat), .int .i64 (j : Nat)] w fun e w' => e = .returned (.bool true) ∧ Below w.heap.size w w' := by
  refine calls_by fun R HR => ?_
  have HF := Lib.hid (few_any l lv w hl)
  obtain ⟨a, cap, rfl, -⟩ := hl.shape
  have HL0 := Lib.hid hl
  rw [decide_eq_true hf] at HF
  have f1 := hf.1
  have g1 : l.length ≤ 1048576 := by omega
  have HRt := Lib.hid (fun w (h : Rd strE w (.slice a l.length cap) l) => root_any _ l w h (bytes_len f1))
  have HPt := Lib.hid (fun w (h : Rd strE w (.slice a l.length cap) l) => path_any _ l (i : Int) w h (bytes_len f1))
  have hp := path_in hw hi
  have hv := root_whole hw
  simp only [hp] at HPt
  simp only [hv] at HRt
  have hpb : (pathL l i).length ≤ 100000000 := by
    have := path_len l.length l i rfl
    omega
  have hzx : l[i].size = 32 := whole_get hw i _ (List.getElem?_eq_getElem hi)
  have h1 : ¬ (j : Int) < 0 := by omega
  have h2 : ¬ (l.length : Int) ≤ (j : Int) := by omega
  have h2' : (j : Int) < (l.length : Int) := by omega
  have k1 : ¬ (i : Int) < 0 := by omega
  have k2' : (i : Int) < (l.length : Int) := by omega
  have hjx := List.getElem?_eq_getElem hj
  obtain ⟨b, o, rfl, hb0, c0⟩ := hl.str i hi
  obtain ⟨b', o', eb, hb1, c1⟩ := hl.str j hj
  cases eb
  have HLI := Lib.hid (fun (w1 : World) (h : Below w.heap.size w w1) => (h.cell (p := ⟨b, o + i, none⟩) hb0).trans c0)
  have HLJ := Lib.hid (fun (w1 : World) (h : Below w.heap.size w w1) => (h.cell (p := ⟨b, o + j, none⟩) hb1).trans c1)
  have HC := Lib.hid (fun pv w1 (h : Rd strE w1 pv (pathL l i)) => check_any (rootL l) l.length j l[i] (pathL l i) pv w1 hpb h)
  have HCl := Lib.hid (fun w pv (h : Rd strE w (.slice (some ⟨b, o, none⟩) l.length cap) l) (h2 : Rd strE w pv (pathL l i)) => clash_any _ l (j : Int) l[i] pv (pathL l i) w h h2 g1 hpb)
  simp only [hc] at HC
  clear hc
  clear hp hv hpb hf f1 g1 hl hw hzx c0 c1 hb0 hb1
  clear hjx
  generalize l[j] = y at *
  generalize l[i] = x at *
  generalize pathL l i = P at *
  clear hi hj
  have H1 := Lib.hid (And.intro (Below.refl w.heap.size w) HL0.out)
  go_enter Try.func7, Try.ntmps7
  go_wp2_with fail
  refine (HF.out).mono ?_
  rintro en v2 ⟨rfl, hw⟩
  rw [hw]
  clear hw
  go_wp2_with fail
  refine (HRt.out _ H1.out.2).mono ?_
  rintro en v2 ⟨rfl, hb⟩
  have H2 := Lib.hid (And.intro (H1.out.1.trans (hb.mono H1.out.1.size)) (H1.out.2.below hb))
  clear hb
  go_wp2_with fail
  refine (HPt.out _ H2.out.2).mono ?_
  rintro en v3 ⟨pv, rfl, hrow, hb⟩
  have H3 := Lib.hid (And.intro (H2.out.1.trans (hb.mono H2.out.1.size)) (And.intro (H2.out.2.below hb) hrow.rd))
  obtain ⟨pa, pc, rfl, -⟩ := hrow.shape
  clear hrow
  clear hb
  have cc := HLI.out _ H3.out.1
  go_wp2_with fail
  refine (HC.out _ _ H3.out.2.2).mono ?_
  rintro en v4 ⟨rfl, hb⟩
  have H4 := Lib.hid (And.intro (H3.out.1.trans (hb.mono H3.out.1.size)) (And.intro (H3.out.2.1.below hb) (H3.out.2.2.below hb)))
  clear hb
  clear cc
  go_wp2_with fail
  refine (alive_any _).mono ?_
  rintro en v5 ⟨rfl, hb⟩
  have H5 := Lib.hid (And.intro (H4.out.1.trans (hb.mono H4.out.1.size)) (And.intro (H4.out.2.1.below hb) (H4.out.2.2.below hb)))
  clear hb
  go_wp2
  exact HR.out _ _ ⟨rfl, H5.out.1⟩
set_option maxRecDepth 100000 in
set_option maxHeartbeats 4000000 in
theorem bound_same (lv : Value) (l : List ByteArray) (i : Nat) (j : Nat) (w : World) (hl : Rd strE w lv l) (hf : l.length ≤ 70 ∧ bytesN l ≤ 5000) (hw : wholeL l = true) (hj : j < l.length) (hi : i < l.length) (hc : isV (rootL l) l.length j l[i] (pathL l i) = true) (he : l[j] = l[i]) :
    Calls Try.prog 7 #[lv, .int .i64 (i : Nat), .int .i64 (j : Nat)] w fun e w' => e = .returned (.bool true) ∧ Below w.heap.size w w' := by
  refine calls_by fun R HR => ?_
  have HF := Lib.hid (few_any l lv w hl)
  obtain ⟨a, cap, rfl, -⟩ := hl.shape
  have HL0 := Lib.hid hl
  rw [decide_eq_true hf] at HF
  have f1 := hf.1
  have g1 : l.length ≤ 1048576 := by omega
  have HRt := Lib.hid (fun w (h : Rd strE w (.slice a l.length cap) l) => root_any _ l w h (bytes_len f1))
  have HPt := Lib.hid (fun w (h : Rd strE w (.slice a l.length cap) l) => path_any _ l (i : Int) w h (bytes_len f1))
  have hp := path_in hw hi
  have hv := root_whole hw
  simp only [hp] at HPt
  simp only [hv] at HRt
  have hpb : (pathL l i).length ≤ 100000000 := by
    have := path_len l.length l i rfl
    omega
  have hzx : l[i].size = 32 := whole_get hw i _ (List.getElem?_eq_getElem hi)
  have h1 : ¬ (j : Int) < 0 := by omega
  have h2 : ¬ (l.length : Int) ≤ (j : Int) := by omega
  have h2' : (j : Int) < (l.length : Int) := by omega
  have k1 : ¬ (i : Int) < 0 := by omega
  have k2' : (i : Int) < (l.length : Int) := by omega
  have hjx := List.getElem?_eq_getElem hj
  obtain ⟨b, o, rfl, hb0, c0⟩ := hl.str i hi
  obtain ⟨b', o', eb, hb1, c1⟩ := hl.str j hj
  cases eb
  have HLI := Lib.hid (fun (w1 : World) (h : Below w.heap.size w w1) => (h.cell (p := ⟨b, o + i, none⟩) hb0).trans c0)
  have HLJ := Lib.hid (fun (w1 : World) (h : Below w.heap.size w w1) => (h.cell (p := ⟨b, o + j, none⟩) hb1).trans c1)
  have HC := Lib.hid (fun pv w1 (h : Rd strE w1 pv (pathL l i)) => check_any (rootL l) l.length j l[i] (pathL l i) pv w1 hpb h)
  have HCl := Lib.hid (fun w pv (h : Rd strE w (.slice (some ⟨b, o, none⟩) l.length cap) l) (h2 : Rd strE w pv (pathL l i)) => clash_any _ l (j : Int) l[i] pv (pathL l i) w h h2 g1 hpb)
  simp only [hc] at HC
  have HNC := Lib.hid (show ¬ (wholeL l = true ∧ 0 ≤ (j : Int) ∧ (j : Int) < l.length ∧ l[(j : Int).toNat]? ≠ some l[i] ∧ isV (rootL l) l.length j l[i] (pathL l i) = true) from fun h => by have h9 := h.2.2.2.1; rw [Int.toNat_natCast, hjx, he] at h9; exact h9 rfl)
  rw [he] at HLJ
  clear he hc hjx
  clear hp hv hpb hf f1 g1 hl hw hzx c0 c1 hb0 hb1
  generalize l[i] = x at *
  generalize pathL l i = P at *
  clear hi hj
  have H1 := Lib.hid (And.intro (Below.refl w.heap.size w) HL0.out)
  go_enter Try.func7, Try.ntmps7
  go_wp2_with fail
  refine (HF.out).mono ?_
  rintro en v2 ⟨rfl, hw⟩
  rw [hw]
  clear hw
  go_wp2_with fail
  refine (HRt.out _ H1.out.2).mono ?_
  rintro en v2 ⟨rfl, hb⟩
  have H2 := Lib.hid (And.intro (H1.out.1.trans (hb.mono H1.out.1.size)) (H1.out.2.below hb))
  clear hb
  go_wp2_with fail
  refine (HPt.out _ H2.out.2).mono ?_
  rintro en v3 ⟨pv, rfl, hrow, hb⟩
  have H3 := Lib.hid (And.intro (H2.out.1.trans (hb.mono H2.out.1.size)) (And.intro (H2.out.2.below hb) hrow.rd))
  obtain ⟨pa, pc, rfl, -⟩ := hrow.shape
  clear hrow
  clear hb
  have cc := HLI.out _ H3.out.1
  go_wp2_with fail
  refine (HC.out _ _ H3.out.2.2).mono ?_
  rintro en v4 ⟨rfl, hb⟩
  have H4 := Lib.hid (And.intro (H3.out.1.trans (hb.mono H3.out.1.size)) (And.intro (H3.out.2.1.below hb) (H3.out.2.2.below hb)))
  clear hb
  clear cc
  have cc := HLI.out _ H4.out.1
  go_wp2_with fail
  refine ((HCl.out _ _ H4.out.2.1 H4.out.2.2).mono (fun en w' h => clash_not HNC.out h)).mono ?_
  rintro en v5 ⟨rfl, hb⟩
  have H5 := Lib.hid (And.intro (H4.out.1.trans (hb.mono H4.out.1.size)) (And.intro (H4.out.2.1.below hb) (H4.out.2.2.below hb)))
  clear hb
  clear cc
  go_wp2_with fail
  have c1 := HLI.out _ H5.out.1
  have c2 := HLJ.out _ H5.out.1
  refine wp_region_after (by kernel_rfl) (by kernel_rfl) ?_
  have d1 := fun p => after_cell c1 p
  have d2 := fun p => after_cell c2 p
  clear c1 c2
  have cA := fun p => calls_after (alive_any (After v5 p))
  repeat (go_big_quiet_step (exact cA _))
  trace_state
  refine wpQuiet_nil ?_
  rintro w1 ⟨p, rfl⟩
  have hb := after_below v5 p
  go_wp2
  exact HR.out _ _ ⟨rfl, H5.out.1.trans (hb.mono H5.out.1.size)⟩
set_option maxRecDepth 100000 in
set_option maxHeartbeats 4000000 in
theorem bound_unlike (lv : Value) (l : List ByteArray) (i : Nat) (j : Nat) (w : World) (hl : Rd strE w lv l) (hf : l.length ≤ 70 ∧ bytesN l ≤ 5000) (hw : wholeL l = true) (hj : j < l.length) (hi : i < l.length) (hc : isV (rootL l) l.length j l[i] (pathL l i) = true) (he : ¬ l[i] = l[j]) :
    Calls Try.prog 7 #[lv, .int .i64 (i : Nat), .int .i64 (j : Nat)] w fun e w' => e = .returned (.bool true) ∧ Below w.heap.size w w' := by
  refine calls_by fun R HR => ?_
  have HF := Lib.hid (few_any l lv w hl)
  obtain ⟨a, cap, rfl, -⟩ := hl.shape
  have HL0 := Lib.hid hl
  rw [decide_eq_true hf] at HF
  have f1 := hf.1
  have g1 : l.length ≤ 1048576 := by omega
  have HRt := Lib.hid (fun w (h : Rd strE w (.slice a l.length cap) l) => root_any _ l w h (bytes_len f1))
  have HPt := Lib.hid (fun w (h : Rd strE w (.slice a l.length cap) l) => path_any _ l (i : Int) w h (bytes_len f1))
  have hp := path_in hw hi
  have hv := root_whole hw
  simp only [hp] at HPt
  simp only [hv] at HRt
  have hpb : (pathL l i).length ≤ 100000000 := by
    have := path_len l.length l i rfl
    omega
  have hzx : l[i].size = 32 := whole_get hw i _ (List.getElem?_eq_getElem hi)
  have h1 : ¬ (j : Int) < 0 := by omega
  have h2 : ¬ (l.length : Int) ≤ (j : Int) := by omega
  have h2' : (j : Int) < (l.length : Int) := by omega
  have k1 : ¬ (i : Int) < 0 := by omega
  have k2' : (i : Int) < (l.length : Int) := by omega
  have hjx := List.getElem?_eq_getElem hj
  obtain ⟨b, o, rfl, hb0, c0⟩ := hl.str i hi
  obtain ⟨b', o', eb, hb1, c1⟩ := hl.str j hj
  cases eb
  have HLI := Lib.hid (fun (w1 : World) (h : Below w.heap.size w w1) => (h.cell (p := ⟨b, o + i, none⟩) hb0).trans c0)
  have HLJ := Lib.hid (fun (w1 : World) (h : Below w.heap.size w w1) => (h.cell (p := ⟨b, o + j, none⟩) hb1).trans c1)
  have HC := Lib.hid (fun pv w1 (h : Rd strE w1 pv (pathL l i)) => check_any (rootL l) l.length j l[i] (pathL l i) pv w1 hpb h)
  have HCl := Lib.hid (fun w pv (h : Rd strE w (.slice (some ⟨b, o, none⟩) l.length cap) l) (h2 : Rd strE w pv (pathL l i)) => clash_any _ l (j : Int) l[i] pv (pathL l i) w h h2 g1 hpb)
  simp only [hc] at HC
  have HNC := Lib.hid (show wholeL l = true ∧ 0 ≤ (j : Int) ∧ (j : Int) < l.length ∧ l[(j : Int).toNat]? ≠ some l[i] ∧ isV (rootL l) l.length j l[i] (pathL l i) = true from ⟨hw, by omega, by omega, (fun h => by rw [Int.toNat_natCast, hjx] at h; exact he (by simpa using h.symm)), hc⟩)
  have hne := text_ne he
  clear he hc hjx
  clear hp hv hpb hf f1 g1 hl hw hzx c0 c1 hb0 hb1
  generalize l[j] = y at *
  generalize l[i] = x at *
  generalize pathL l i = P at *
  clear hi hj
  have H1 := Lib.hid (And.intro (Below.refl w.heap.size w) HL0.out)
  go_enter Try.func7, Try.ntmps7
  go_wp2_with fail
  refine (HF.out).mono ?_
  rintro en v2 ⟨rfl, hw⟩
  rw [hw]
  clear hw
  go_wp2_with fail
  refine (HRt.out _ H1.out.2).mono ?_
  rintro en v2 ⟨rfl, hb⟩
  have H2 := Lib.hid (And.intro (H1.out.1.trans (hb.mono H1.out.1.size)) (H1.out.2.below hb))
  clear hb
  go_wp2_with fail
  refine (HPt.out _ H2.out.2).mono ?_
  rintro en v3 ⟨pv, rfl, hrow, hb⟩
  have H3 := Lib.hid (And.intro (H2.out.1.trans (hb.mono H2.out.1.size)) (And.intro (H2.out.2.below hb) hrow.rd))
  obtain ⟨pa, pc, rfl, -⟩ := hrow.shape
  clear hrow
  clear hb
  have cc := HLI.out _ H3.out.1
  go_wp2_with fail
  refine (HC.out _ _ H3.out.2.2).mono ?_
  rintro en v4 ⟨rfl, hb⟩
  have H4 := Lib.hid (And.intro (H3.out.1.trans (hb.mono H3.out.1.size)) (And.intro (H3.out.2.1.below hb) (H3.out.2.2.below hb)))
  clear hb
  clear cc
  have cc := HLI.out _ H4.out.1
  go_wp2_with fail
  refine ((HCl.out _ _ H4.out.2.1 H4.out.2.2).mono (fun en w' h => clash_is HNC.out h)).mono ?_
  rintro en v5 ⟨⟨ua, ub, rfl, hun⟩, hb⟩
  have H5 := Lib.hid (And.intro (H4.out.1.trans (hb.mono H4.out.1.size)) (And.intro (H4.out.2.1.below hb) (H4.out.2.2.below hb)))
  have HUN := Lib.hid hun
  clear hun
  clear hb
  clear cc
  have hab := text_ne HUN.out.1
  have HSA := Lib.hid (fun v w h => sumR_any ua v w h (by have := HUN.out.2.2.1; omega))
  have HSB := Lib.hid (fun v w h => sumR_any ub v w h (by have := HUN.out.2.2.2; omega))
  simp only [← HUN.out.2.1] at HSB
  generalize shaS ua.data.toList = Q at *
  go_wp2_with fail
  have HB := Lib.hid H5.out.1
  have HKI := Lib.hid (fun w1 (h : Below v5.heap.size v5 w1) => HLI.out w1 (HB.out.trans (h.mono HB.out.size)))
  have HKJ := Lib.hid (fun w1 (h : Below v5.heap.size v5 w1) => HLJ.out w1 (HB.out.trans (h.mono HB.out.size)))
  refine wp_region_mv (fun f => Pair strE v5 [ua] [ub] (f 18) (f 21)) (by kernel_rfl) (Pair.start (drew_below v5)) ?_
  obtain ⟨S, F, hF, hFC⟩ := moved_class (fun f => Pair strE v5 [ua] [ub] (f 18) (f 21))
  have k0 : ∀ s, (F s).cell? ⟨b, o + i, none⟩ = some (.string x) := fun s => by
    obtain ⟨f, hf⟩ := hFC s
    exact HKI.out _ hf.1
  have k1 : ∀ s, (F s).cell? ⟨b, o + j, none⟩ = some (.string y) := fun s => by
    obtain ⟨f, hf⟩ := hFC s
    exact HKJ.out _ hf.1
  show wpAnyM _ _ _ _ _ 30 (Array.replicate 30 false) _ _
  refine mv_read 0 hF (fun _ _ _ h => h) rfl (by kernel_rfl) (by kernel_rfl) (by kernel_rfl) (fun K hK => ?_)
  go_simp
  first | refine ⟨_, fun _ => rfl, hK _ _ ?_⟩ | refine hK _ _ ?_
  clear hK K
  refine mv_read 1 hF (fun _ _ _ h => h) rfl (by kernel_rfl) (by kernel_rfl) (by kernel_rfl) (fun K hK => ?_)
  go_simp
  first | refine ⟨_, fun _ => rfl, hK _ _ ?_⟩ | refine hK _ _ ?_
  clear hK K
  refine mv_read 2 hF (fun _ _ _ h => h) rfl (by kernel_rfl) (by kernel_rfl) (by kernel_rfl) (fun K hK => ?_)
  go_simp
  first | refine ⟨_, fun _ => rfl, hK _ _ ?_⟩ | refine hK _ _ ?_
  clear hK K
  refine mv_read 3 hF (fun _ _ _ h => h) rfl (by kernel_rfl) (by kernel_rfl) (by kernel_rfl) (fun K hK => ?_)
  go_simp
  first | refine ⟨_, fun _ => rfl, hK _ _ ?_⟩ | refine hK _ _ ?_
  clear hK K
  refine mv_read 4 hF (fun _ _ _ h => h) rfl (by kernel_rfl) (by kernel_rfl) (by kernel_rfl) (fun K hK => ?_)
  go_simp
  first | refine ⟨_, fun _ => rfl, hK _ _ ?_⟩ | refine hK _ _ ?_
  clear hK K
  refine mv_read 5 hF (fun _ _ _ h => h) rfl (by kernel_rfl) (by kernel_rfl) (by kernel_rfl) (fun K hK => ?_)
  go_simp
  first | refine ⟨_, fun _ => rfl, hK _ _ ?_⟩ | refine hK _ _ ?_
  clear hK K
  refine mv_read 6 hF (fun _ _ _ h => h) rfl (by kernel_rfl) (by kernel_rfl) (by kernel_rfl) (fun K hK => ?_)
  go_simp
  first | refine ⟨_, fun _ => rfl, hK _ _ ?_⟩ | refine hK _ _ ?_
  clear hK K
  refine mv_read 7 hF (fun _ _ _ h => h) rfl (by kernel_rfl) (by kernel_rfl) (by kernel_rfl) (fun K hK => ?_)
  go_simp
  first | refine ⟨_, fun _ => rfl, hK _ _ ?_⟩ | refine hK _ _ ?_
  clear hK K
  refine mv_read 8 hF (fun _ _ _ h => h) rfl (by kernel_rfl) (by kernel_rfl) (by kernel_rfl) (fun K hK => ?_)
  go_simp
  first | refine ⟨_, fun _ => rfl, hK _ _ ?_⟩ | refine hK _ _ ?_
  clear hK K
  refine mv_read 9 hF (fun _ _ _ h => h) rfl (by kernel_rfl) (by kernel_rfl) (by kernel_rfl) (fun K hK => ?_)
  go_simp
  first | refine ⟨_, fun _ => rfl, hK _ _ ?_⟩ | refine hK _ _ ?_
  clear hK K
  refine mv_read 10 hF (fun _ _ _ h => h) rfl (by kernel_rfl) (by kernel_rfl) (by kernel_rfl) (fun K hK => ?_)
  go_simp
  first | refine ⟨_, fun _ => rfl, hK _ _ ?_⟩ | refine hK _ _ ?_
  clear hK K
  refine mv_read 11 hF (fun _ _ _ h => h) rfl (by kernel_rfl) (by kernel_rfl) (by kernel_rfl) (fun K hK => ?_)
  go_simp
  first | refine ⟨_, fun _ => rfl, hK _ _ ?_⟩ | refine hK _ _ ?_
  clear hK K
  refine mv_read 12 hF (fun _ _ _ h => h) rfl (by kernel_rfl) (by kernel_rfl) (by kernel_rfl) (fun K hK => ?_)
  go_simp
  first | refine ⟨_, fun _ => rfl, hK _ _ ?_⟩ | refine hK _ _ ?_
  clear hK K
  refine mv_read 13 hF (fun _ _ _ h => h) rfl (by kernel_rfl) (by kernel_rfl) (by kernel_rfl) (fun K hK => ?_)
  go_simp
  first | refine ⟨_, fun _ => rfl, hK _ _ ?_⟩ | refine hK _ _ ?_
  clear hK K
  refine mv_read 14 hF (fun _ _ _ h => h) rfl (by kernel_rfl) (by kernel_rfl) (by kernel_rfl) (fun K hK => ?_)
  go_simp
  first | refine ⟨_, fun _ => rfl, hK _ _ ?_⟩ | refine hK _ _ ?_
  clear hK K
  refine mv_read 15 hF (fun _ _ _ h => h) rfl (by kernel_rfl) (by kernel_rfl) (by kernel_rfl) (fun K hK => ?_)
  go_simp
  first | refine ⟨_, fun _ => rfl, hK _ _ ?_⟩ | refine hK _ _ ?_
  clear hK K
  refine mv_read 16 hF (fun _ _ _ h => h) rfl (by kernel_rfl) (by kernel_rfl) (by kernel_rfl) (fun K hK => ?_)
  go_simp
  first | refine ⟨_, fun _ => rfl, hK _ _ ?_⟩ | refine hK _ _ ?_
  clear hK K
  refine mv_read 17 hF (fun _ _ _ h => h) rfl (by kernel_rfl) (by kernel_rfl) (by kernel_rfl) (fun K hK => ?_)
  go_simp
  first | refine ⟨_, fun _ => rfl, hK _ _ ?_⟩ | refine hK _ _ ?_
  clear hK K
  refine mv_read 20 hF (fun _ _ _ h => h) rfl (by kernel_rfl) (by kernel_rfl) (by kernel_rfl) (fun K hK => ?_)
  go_simp
  first | refine ⟨_, fun _ => rfl, hK _ _ ?_⟩ | refine hK _ _ ?_
  clear hK K
  refine mv_fork 18 21 (by kernel_rfl) ?_ ?_
  · refine mOp_alone 18 rfl rfl (fun v => ∃ g, v = .slice (some ⟨g, 0, none⟩) 1 1) (fun g w1 ha h0 h D hD => by
      simp only [h0] at h
      have h8 := h.made1 #[.string ua] rfl (T := 9)
      clear h
      go_simp
      exact hD _ _ ⟨_, rfl⟩ h8) ?_
    rintro _ ⟨gs, rfl⟩
    refine mv_fork 19 21 (by kernel_rfl) ?_ ?_
    · refine mOp_call 19 13 rfl rfl rfl eg_sum (args := #[.slice (some ⟨gs, 0, none⟩) 1 1]) rfl (fun v => v = .string Q) (fun g w1 ha h0 h => by
      have e1 : g 18 = some (.slice (some ⟨gs, 0, none⟩) 1 1) := (agree_on 18 ha (by kernel_rfl)).trans rfl
      refine (HSA.out _ w1 (h.2.1 _ e1)).mono fun e w' ⟨q1, q2⟩ => ⟨_, q1, rfl, ?_⟩
      exact h.on q2) ?_
      rintro _ rfl
      refine mv_alone 21 rfl (by kernel_rfl) rfl (fun v => ∃ g, v = .slice (some ⟨g, 0, none⟩) 1 1) (fun g w1 ha h0 h D hD => by
      simp only [h0] at h
      have h8 := h.made2 #[.string ub] rfl (T := 9)
      clear h
      go_simp
      exact hD _ _ ⟨_, rfl⟩ h8) ?_
      rintro _ ⟨gu, rfl⟩
      refine mv_call 22 13 rfl (by kernel_rfl) rfl rfl eg_sum (args := #[.slice (some ⟨gu, 0, none⟩) 1 1]) rfl (fun v => v = .string Q) (fun g w1 ha h0 h => by
      have e1 : g 21 = some (.slice (some ⟨gu, 0, none⟩) 1 1) := (agree_on 21 ha (by kernel_rfl)).trans rfl
      refine (HSB.out _ w1 (h.2.2 _ e1)).mono fun e w' ⟨q1, q2⟩ => ⟨_, q1, rfl, ?_⟩
      exact h.on q2) ?_
      rintro _ rfl
      refine mv_read 23 hF (fun _ _ _ h => h) rfl (by kernel_rfl) (by kernel_rfl) (by kernel_rfl) (fun K hK => ?_)
      go_simp
      first | refine ⟨_, fun _ => rfl, hK _ _ ?_⟩ | refine hK _ _ ?_
      clear hK K
      refine mv_read 24 hF (fun _ _ _ h => h) rfl (by kernel_rfl) (by kernel_rfl) (by kernel_rfl) (fun K hK => ?_)
      go_simp
      first | refine ⟨_, fun _ => rfl, hK _ _ ?_⟩ | refine hK _ _ ?_
      clear hK K
      refine mv_read 25 hF (fun _ _ _ h => h) rfl (by kernel_rfl) (by kernel_rfl) (by kernel_rfl) (fun K hK => ?_)
      go_simp
      first | refine ⟨_, fun _ => rfl, hK _ _ ?_⟩ | refine hK _ _ ?_
      clear hK K
      refine mv_read 26 hF (fun _ _ _ h => h) rfl (by kernel_rfl) (by kernel_rfl) (by kernel_rfl) (fun K hK => ?_)
      go_simp
      first | refine ⟨_, fun _ => rfl, hK _ _ ?_⟩ | refine hK _ _ ?_
      clear hK K
      refine mv_call1 27 9 rfl (by kernel_rfl) (by kernel_rfl) (by kernel_rfl) rfl rfl eg_alive (args := #[]) rfl (u := .bool true) (fun g w _ _ h => (alive_any _).mono fun e w' ⟨h1, h2⟩ => ⟨h1, h.on h2⟩) ?_
      refine mv_read 28 hF (fun _ _ _ h => h) rfl (by kernel_rfl) (by kernel_rfl) (by kernel_rfl) (fun K hK => ?_)
      go_simp
      first | refine ⟨_, fun _ => rfl, hK _ _ ?_⟩ | refine hK _ _ ?_
      clear hK K
      refine mv_read 29 hF (fun _ _ _ h => h) rfl (by kernel_rfl) (by kernel_rfl) (by kernel_rfl) (fun K hK => ?_)
      go_simp
      first | refine ⟨_, fun _ => rfl, hK _ _ ?_⟩ | refine hK _ _ ?_
      clear hK K
      refine mv_end (by kernel_rfl) ?_
      intro w2 hw2
      have hb9 : Below v5.heap.size v5 w2 := hw2.1
      clear hw2 hF hFC k0 k1
      go_wp2
      exact HR.out _ _ ⟨rfl, HB.out.trans (hb9.mono HB.out.size)⟩
    · refine mOp_alone 21 rfl rfl (fun v => ∃ g, v = .slice (some ⟨g, 0, none⟩) 1 1) (fun g w1 ha h0 h D hD => by
      simp only [h0] at h
      have h8 := h.made2 #[.string ub] rfl (T := 9)
      clear h
      go_simp
      exact hD _ _ ⟨_, rfl⟩ h8) ?_
      rintro _ ⟨gu, rfl⟩
      refine mv_call 19 13 rfl (by kernel_rfl) rfl rfl eg_sum (args := #[.slice (some ⟨gs, 0, none⟩) 1 1]) rfl (fun v => v = .string Q) (fun g w1 ha h0 h => by
      have e1 : g 18 = some (.slice (some ⟨gs, 0, none⟩) 1 1) := (agree_on 18 ha (by kernel_rfl)).trans rfl
      refine (HSA.out _ w1 (h.2.1 _ e1)).mono fun e w' ⟨q1, q2⟩ => ⟨_, q1, rfl, ?_⟩
      exact h.on q2) ?_
      rintro _ rfl
      refine mv_call 22 13 rfl (by kernel_rfl) rfl rfl eg_sum (args := #[.slice (some ⟨gu, 0, none⟩) 1 1]) rfl (fun v => v = .string Q) (fun g w1 ha h0 h => by
      have e1 : g 21 = some (.slice (some ⟨gu, 0, none⟩) 1 1) := (agree_on 21 ha (by kernel_rfl)).trans rfl
      refine (HSB.out _ w1 (h.2.2 _ e1)).mono fun e w' ⟨q1, q2⟩ => ⟨_, q1, rfl, ?_⟩
      exact h.on q2) ?_
      rintro _ rfl
      refine mv_read 23 hF (fun _ _ _ h => h) rfl (by kernel_rfl) (by kernel_rfl) (by kernel_rfl) (fun K hK => ?_)
      go_simp
      first | refine ⟨_, fun _ => rfl, hK _ _ ?_⟩ | refine hK _ _ ?_
      clear hK K
      refine mv_read 24 hF (fun _ _ _ h => h) rfl (by kernel_rfl) (by kernel_rfl) (by kernel_rfl) (fun K hK => ?_)
      go_simp
      first | refine ⟨_, fun _ => rfl, hK _ _ ?_⟩ | refine hK _ _ ?_
      clear hK K
      refine mv_read 25 hF (fun _ _ _ h => h) rfl (by kernel_rfl) (by kernel_rfl) (by kernel_rfl) (fun K hK => ?_)
      go_simp
      first | refine ⟨_, fun _ => rfl, hK _ _ ?_⟩ | refine hK _ _ ?_
      clear hK K
      refine mv_read 26 hF (fun _ _ _ h => h) rfl (by kernel_rfl) (by kernel_rfl) (by kernel_rfl) (fun K hK => ?_)
      go_simp
      first | refine ⟨_, fun _ => rfl, hK _ _ ?_⟩ | refine hK _ _ ?_
      clear hK K
      refine mv_call1 27 9 rfl (by kernel_rfl) (by kernel_rfl) (by kernel_rfl) rfl rfl eg_alive (args := #[]) rfl (u := .bool true) (fun g w _ _ h => (alive_any _).mono fun e w' ⟨h1, h2⟩ => ⟨h1, h.on h2⟩) ?_
      refine mv_read 28 hF (fun _ _ _ h => h) rfl (by kernel_rfl) (by kernel_rfl) (by kernel_rfl) (fun K hK => ?_)
      go_simp
      first | refine ⟨_, fun _ => rfl, hK _ _ ?_⟩ | refine hK _ _ ?_
      clear hK K
      refine mv_read 29 hF (fun _ _ _ h => h) rfl (by kernel_rfl) (by kernel_rfl) (by kernel_rfl) (fun K hK => ?_)
      go_simp
      first | refine ⟨_, fun _ => rfl, hK _ _ ?_⟩ | refine hK _ _ ?_
      clear hK K
      refine mv_end (by kernel_rfl) ?_
      intro w2 hw2
      have hb9 : Below v5.heap.size v5 w2 := hw2.1
      clear hw2 hF hFC k0 k1
      go_wp2
      exact HR.out _ _ ⟨rfl, HB.out.trans (hb9.mono HB.out.size)⟩
  · refine mOp_alone 21 rfl rfl (fun v => ∃ g, v = .slice (some ⟨g, 0, none⟩) 1 1) (fun g w1 ha h0 h D hD => by
      simp only [h0] at h
      have h8 := h.made2 #[.string ub] rfl (T := 9)
      clear h
      go_simp
      exact hD _ _ ⟨_, rfl⟩ h8) ?_
    rintro _ ⟨gu, rfl⟩
    refine mv_alone 18 rfl (by kernel_rfl) rfl (fun v => ∃ g, v = .slice (some ⟨g, 0, none⟩) 1 1) (fun g w1 ha h0 h D hD => by
      simp only [h0] at h
      have h8 := h.made1 #[.string ua] rfl (T := 9)
      clear h
      go_simp
      exact hD _ _ ⟨_, rfl⟩ h8) ?_
    rintro _ ⟨gs, rfl⟩
    refine mv_call 19 13 rfl (by kernel_rfl) rfl rfl eg_sum (args := #[.slice (some ⟨gs, 0, none⟩) 1 1]) rfl (fun v => v = .string Q) (fun g w1 ha h0 h => by
      have e1 : g 18 = some (.slice (some ⟨gs, 0, none⟩) 1 1) := (agree_on 18 ha (by kernel_rfl)).trans rfl
      refine (HSA.out _ w1 (h.2.1 _ e1)).mono fun e w' ⟨q1, q2⟩ => ⟨_, q1, rfl, ?_⟩
      exact h.on q2) ?_
    rintro _ rfl
    refine mv_call 22 13 rfl (by kernel_rfl) rfl rfl eg_sum (args := #[.slice (some ⟨gu, 0, none⟩) 1 1]) rfl (fun v => v = .string Q) (fun g w1 ha h0 h => by
      have e1 : g 21 = some (.slice (some ⟨gu, 0, none⟩) 1 1) := (agree_on 21 ha (by kernel_rfl)).trans rfl
      refine (HSB.out _ w1 (h.2.2 _ e1)).mono fun e w' ⟨q1, q2⟩ => ⟨_, q1, rfl, ?_⟩
      exact h.on q2) ?_
    rintro _ rfl
    refine mv_read 23 hF (fun _ _ _ h => h) rfl (by kernel_rfl) (by kernel_rfl) (by kernel_rfl) (fun K hK => ?_)
    go_simp
    first | refine ⟨_, fun _ => rfl, hK _ _ ?_⟩ | refine hK _ _ ?_
    clear hK K
    refine mv_read 24 hF (fun _ _ _ h => h) rfl (by kernel_rfl) (by kernel_rfl) (by kernel_rfl) (fun K hK => ?_)
    go_simp
    first | refine ⟨_, fun _ => rfl, hK _ _ ?_⟩ | refine hK _ _ ?_
    clear hK K
    refine mv_read 25 hF (fun _ _ _ h => h) rfl (by kernel_rfl) (by kernel_rfl) (by kernel_rfl) (fun K hK => ?_)
    go_simp
    first | refine ⟨_, fun _ => rfl, hK _ _ ?_⟩ | refine hK _ _ ?_
    clear hK K
    refine mv_read 26 hF (fun _ _ _ h => h) rfl (by kernel_rfl) (by kernel_rfl) (by kernel_rfl) (fun K hK => ?_)
    go_simp
    first | refine ⟨_, fun _ => rfl, hK _ _ ?_⟩ | refine hK _ _ ?_
    clear hK K
    refine mv_call1 27 9 rfl (by kernel_rfl) (by kernel_rfl) (by kernel_rfl) rfl rfl eg_alive (args := #[]) rfl (u := .bool true) (fun g w _ _ h => (alive_any _).mono fun e w' ⟨h1, h2⟩ => ⟨h1, h.on h2⟩) ?_
    refine mv_read 28 hF (fun _ _ _ h => h) rfl (by kernel_rfl) (by kernel_rfl) (by kernel_rfl) (fun K hK => ?_)
    go_simp
    first | refine ⟨_, fun _ => rfl, hK _ _ ?_⟩ | refine hK _ _ ?_
    clear hK K
    refine mv_read 29 hF (fun _ _ _ h => h) rfl (by kernel_rfl) (by kernel_rfl) (by kernel_rfl) (fun K hK => ?_)
    go_simp
    first | refine ⟨_, fun _ => rfl, hK _ _ ?_⟩ | refine hK _ _ ?_
    clear hK K
    refine mv_end (by kernel_rfl) ?_
    intro w2 hw2
    have hb9 : Below v5.heap.size v5 w2 := hw2.1
    clear hw2 hF hFC k0 k1
    go_wp2
    exact HR.out _ _ ⟨rfl, HB.out.trans (hb9.mono HB.out.size)⟩
theorem law_bound (lv : Value) (l : List ByteArray) (i : Int) (j : Int) (w : World) (hl : Rd strE w lv l) :
    Calls Try.prog 7 #[lv, .int .i64 (i), .int .i64 (j)] w fun e w' => e = .returned (.bool true) ∧ Below w.heap.size w w' := by
  by_cases hf : l.length ≤ 70 ∧ bytesN l ≤ 5000
  · by_cases h0 : j < 0
    · exact bound_out lv l i j w hl hf (.inl h0)
    by_cases h1 : (l.length : Int) ≤ j
    · exact bound_out lv l i j w hl hf (.inr ⟨h0, h1⟩)
    by_cases ho : wholeL l = true ∧ 0 ≤ i ∧ i < l.length
    · obtain ⟨hw, hi0, hi1⟩ := ho
      obtain ⟨n, rfl⟩ : ∃ n : Nat, i = (n : Int) := ⟨i.toNat, by omega⟩
      obtain ⟨m, rfl⟩ : ∃ m : Nat, j = (m : Int) := ⟨j.toNat, by omega⟩
      have hi : n < l.length := by omega
      have hj : m < l.length := by omega
      cases hc : isV (rootL l) l.length m l[n] (pathL l n)
      · exact bound_chk lv l n m w hl hf hw hj hi hc
      by_cases he : l[m] = l[n]
      · exact bound_same lv l n m w hl hf hw hj hi hc he
      · exact bound_unlike lv l n m w hl hf hw hj hi hc (fun h => he h.symm)
    · exact bound_no lv l i j w hl hf h0 h1 ho
  · exact bound_few lv l i j w hl hf
end Go.Proofs.Ytophfeapmmfppaa
