/- The chapter's example; so few hashes. -/
import Derived.Test.YtophfeapmmfppaaMerklePath
import Derived.Test.YtophfeapmmfppaaStrBytes
namespace Ks
open Go
theorem alive15 (a b c : ByteArray) (ha : a.size = 32) (hb : b.size = 32) (hc : c.size = 32) : rootV [a, b, c] = nodeS (nodeS a b) c ∧ wholeE [a, b, c] = 0 ∧ pathV [a, b, c] 2 = [nodeS a b] ∧ pathE [a, b, c] 2 = 0 := by
  have hw : wholeL [a, b, c] = true := by simp [wholeL, ha, hb, hc]
  have h3 : halfN 3 = 2 := by decide
  have h2 : halfN 2 = 1 := by decide
  have r2 : rootL [a, b] = nodeS a b := by
    rw [root_two _ (by simp)]
    show nodeS (rootL (List.take (halfN 2) [a, b])) (rootL (List.drop (halfN 2) [a, b])) = _
    rw [h2]
    show nodeS (rootL [a]) (rootL [b]) = _
    rw [root_one, root_one]
  have r3 : rootL [a, b, c] = nodeS (nodeS a b) c := by
    rw [root_two _ (by simp)]
    show nodeS (rootL (List.take (halfN 3) [a, b, c])) (rootL (List.drop (halfN 3) [a, b, c])) = _
    rw [h3]
    show nodeS (rootL [a, b]) (rootL [c]) = _
    rw [r2, root_one]
  have p3 : pathL [a, b, c] 2 = [nodeS a b] := by
    rw [path_two _ _ (by simp)]
    show (if 2 < halfN 3 then _ else pathL (List.drop (halfN 3) [a, b, c]) (2 - halfN 3) ++ [rootL (List.take (halfN 3) [a, b, c])]) = _
    rw [h3, if_neg (by omega)]
    show pathL [c] 0 ++ [rootL [a, b]] = _
    rw [path_low _ _ (by simp), r2]; rfl
  have hc : wholeL [a, b, c] = true ∧ (0 : Int) ≤ 2 ∧ (2 : Int) < (([a, b, c] : List ByteArray).length : Int) := ⟨hw, by decide, by simp⟩
  exact ⟨by rw [rootV, if_pos hw, r3], by rw [wholeE, if_pos hw], by rw [pathV, if_pos hc]; exact p3, by rw [pathE, if_pos hc]⟩
end Ks
namespace Go.Proofs.Ytophfeapmmfppaa
open Go.RowKit Ks
set_option linter.unusedVariables false
theorem few_any (l : List ByteArray) (v : Value) (w : World) (hv : Rd strE w v l) : Calls Try.prog 8 #[v] w fun e w' => (e = .returned (.bool (decide (l.length ≤ 70 ∧ bytesN l ≤ 5000)))) ∧ w' = w := by
  refine calls_by fun R HR => ?_
  have HB := Lib.hid (bytes_any l v w hv)
  obtain ⟨a, cap, rfl, -⟩ := hv.shape
  by_cases h1 : l.length ≤ 70
  · have h1i : (l.length : Int) ≤ 70 := by omega
    obtain ⟨q, hq⟩ : ∃ q, bytesN l = q := ⟨_, rfl⟩
    rw [hq] at HB
    have hd : decide (l.length ≤ 70 ∧ bytesN l ≤ 5000) = decide ((q : Int) ≤ 5000) := by rw [hq, decide_eq_decide]; omega
    have HD := Lib.hid hd
    clear hd hq hv h1
    go_enter Try.func8, Try.ntmps8
    go_wp2_with fail
    refine HB.out.mono ?_
    rintro e w1 ⟨rfl, hw⟩
    subst hw
    go_wp2
    exact HR.out _ _ ⟨by rw [HD.out]; rfl, rfl⟩
  · have h1i : ¬ (l.length : Int) ≤ 70 := by omega
    have HD := Lib.hid (show decide (l.length ≤ 70 ∧ bytesN l ≤ 5000) = false from decide_eq_false fun h => h1 h.1)
    clear hv h1
    go_enter Try.func8, Try.ntmps8
    go_wp2
    exact HR.out _ _ ⟨by rw [HD.out], rfl⟩
theorem eg_alive : ∀ args w, (callFunc 9 args).run Try.prog w = .ok (.enter 9 args) w := fun _ _ => rfl
set_option maxRecDepth 100000 in
set_option maxHeartbeats 4000000 in
theorem alive_any (w : World) : Calls Try.prog 9 #[] w fun e w' => e = .returned (.bool true) ∧ Below w.heap.size w w' := by
  refine calls_by fun R HR => ?_
  obtain ⟨A, hA⟩ : ∃ A, leafS ⟨#[97]⟩ = A := ⟨_, rfl⟩
  obtain ⟨B, hB⟩ : ∃ B, leafS ⟨#[98]⟩ = B := ⟨_, rfl⟩
  obtain ⟨C, hC⟩ : ∃ C, leafS ⟨#[99]⟩ = C := ⟨_, rfl⟩
  have zA : A.size = 32 := by rw [← hA]; exact leafS_size _
  have zB : B.size = 32 := by rw [← hB]; exact leafS_size _
  have zC : C.size = 32 := by rw [← hC]; exact leafS_size _
  obtain ⟨r1, r2, r3, r4⟩ := alive15 A B C zA zB zC
  have HA := Lib.hid (fun w => leaf_any ⟨#[97]⟩ w (by decide))
  have HB := Lib.hid (fun w => leaf_any ⟨#[98]⟩ w (by decide))
  have HC := Lib.hid (fun w => leaf_any ⟨#[99]⟩ w (by decide))
  have HN := Lib.hid (fun w => node_any A B w (by omega) (by omega))
  have zN : (nodeS A B).size = 32 := nodeS_size _ _
  have HM := Lib.hid (fun w => node_any (nodeS A B) C w (by omega) (by omega))
  simp only [hA] at HA
  simp only [hB] at HB
  simp only [hC] at HC
  have HRo := Lib.hid (And.intro r1 (And.intro r2 (And.intro r3 r4)))
  clear hA hB hC zA zB zC r1 r2 r3 r4 zN
  go_enter Try.func9, Try.ntmps9
  go_wp2_with fail
  refine (HA.out _).mono ?_
  rintro e w1 ⟨rfl, hb1⟩
  have H1 := Lib.hid hb1
  clear hb1
  go_wp2_with fail
  refine (HB.out _).mono ?_
  rintro e w2 ⟨rfl, hb⟩
  have H2 := Lib.hid (H1.out.trans (hb.mono H1.out.size))
  clear hb
  go_wp2_with fail
  refine (HC.out _).mono ?_
  rintro e w3 ⟨rfl, hb⟩
  have H3 := Lib.hid (H2.out.trans (hb.mono H2.out.size))
  clear hb
  obtain ⟨W, hW⟩ : ∃ W, w3.alloc (.cells #[.string A, .string B, .string C] 9) = W := ⟨_, rfl⟩
  have hbW : Below w3.heap.size w3 W := by rw [← hW]; exact alloc_below w3 _
  have kW : W.heap[w3.heap.size]? = some (.cells #[.string A, .string B, .string C] 9 (0, 0)) := by rw [← hW]; exact alloc_new w3 _
  have HW := Lib.hid (And.intro (H3.out.trans (hbW.mono H3.out.size)) (And.intro kW (Rd.block (E := strE) (l := [A, B, C]) kW rfl)))
  clear hbW kW
  go_wp2_with fail
  refine (root_any _ [A, B, C] _ HW.out.2.2 (by simp)).mono ?_
  rintro e w4 ⟨rfl, hb⟩
  rw [HRo.out.1, HRo.out.2.1]
  have H4 := Lib.hid (And.intro (HW.out.1.trans (hb.mono HW.out.1.size)) (And.intro (blk_on hb HW.out.2.1) (HW.out.2.2.below hb)))
  clear hb hW
  go_wp2_with fail
  refine (path_any _ [A, B, C] 2 _ H4.out.2.2 (by simp)).mono ?_
  rintro e w5 ⟨pv, rfl, hrow, hb⟩
  rw [HRo.out.2.2.1] at hrow
  rw [HRo.out.2.2.2]
  obtain ⟨g, pc, hpv, -, -, hg, -⟩ := hrow.pos (by simp)
  have H5 := Lib.hid (And.intro (H4.out.1.trans (hb.mono H4.out.1.size)) (blk_on hb H4.out.2.1))
  obtain ⟨b9, o9, e9, hb9, cp⟩ := (hpv ▸ hrow.rd).str 0 (by simp)
  cases e9
  subst hpv
  obtain ⟨c0, c1, c2, -⟩ := blk3 H5.out.2
  have d0 := fun p => after_cell c0 p
  have d1 := fun p => after_cell c1 p
  have d2 := fun p => after_cell c2 p
  have d3 := fun p => after_cell cp p
  have cN := Lib.hid (fun p => calls_after (p := p) (HN.out (After w5 p)))
  have cM := Lib.hid (fun p => calls_after (p := p) (HM.out (After w5 p)))
  clear hrow hb
  simp only [List.length_cons, List.length_nil, Nat.reduceAdd] at *
  simp only [List.getElem_cons_zero] at d3
  go_wp2_with fail
  refine wp_region_after (by kernel_rfl) (by kernel_rfl) ?_
  repeat (quiet_step (fail))
  quiet_step (exact cN.out _)
  repeat (quiet_step (fail))
  quiet_step (exact cM.out _)
  repeat (quiet_step (fail))
  quiet_step (exact cN.out _)
  repeat (quiet_step (fail))
  refine wpQuiet_nil ?_
  rintro w6 ⟨q, rfl⟩
  have H6 := Lib.hid (H5.out.1.trans ((after_below w5 q).mono H5.out.1.size))
  generalize After w5 q = w6 at *
  clear cN cM c0 c1 c2 cp d0 d1 d2 d3
  go_wp2
  exact HR.out _ _ ⟨rfl, H6.out⟩
end Go.Proofs.Ytophfeapmmfppaa
