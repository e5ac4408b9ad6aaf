/- Texts that the claim rests on, part 8: FrontRead, FrontRRoots, FrontTold, FrontGrown, FrontRGrown, FrontClash. -/
import Derived.Test.YtpdeicgjmjoglaaM7
/- The tree that a path tells: frontier.read. -/
namespace Ks
open Go Go.RowKit
set_option linter.unusedVariables false
theorem last_path {path : List ByteArray} {q : Nat} (h : path.length = q + 1) : ∃ p z, path = p ++ [z] ∧ p.length = q := by
  have hne : path ≠ [] := fun e => by rw [e] at h; simp at h
  refine ⟨_, _, (List.dropLast_concat_getLast hne).symm, ?_⟩
  rw [List.length_dropLast]; omega
theorem PathAt.lt {w : World} {TP : TypeId} {pb : Nat} {v : Value} {p : List ByteArray} (h : PathAt w TP pb v p) : pb < w.heap.size := lt_of_block h.blk
theorem Solo.keep {w w' : World} {n k : Nat} {o : Obj} (h : Solo w w' n) (hk : w.heap[k]? = some o) (hne : k ≠ n) : w'.heap[k]? = some o := (h.block k (lt_of_block hk) hne).trans hk
end Ks
namespace Go.Proofs.Ytpdeicgjmjoglaa
open Go.RowKit Ks
set_option linter.unusedVariables false
set_option maxRecDepth 100000 in
set_option maxHeartbeats 8000000 in
theorem fread_any : ∀ (n m : Nat) (first : Bool) (old : ByteArray) (pb : Nat) (pv : Value) (p1 p2 : List ByteArray) (w : World), 1 ≤ m → m ≤ n → n ≤ 1048576 → old.size = 32 → (∀ s ∈ p1, s.size = 32) → p1.length = longN m n first → p1.length + p2.length ≤ 5000000 →
    PathAt w 41 pb pv (p1 ++ p2) → Calls Try.prog 57 #[.int .i64 (m : Nat), .int .i64 (n : Nat), .bool first, .string old, .pointer (some ⟨pb, 0, none⟩)] w fun e w' => ∃ v, e = .returned v ∧ TreeAt w' 64 v (treeL m n first old p1) ∧ ∃ pv', PathAt w' 41 pb pv' p2 ∧ Solo w w' pb := by
  intro n
  induction n using Nat.strongRecOn with
  | ind n ih =>
  intro m first old pb pv p1 p2 w h1 hmn hn ho hp1 hl hl2 hP
  refine calls_by fun R HR => ?_
  have HPA := Lib.hid hP
  have HO := Lib.hid (And.intro ho (And.intro hp1 hl2))
  obtain ⟨W1, hW1⟩ : ∃ W1, w.alloc (.cells #[.pointer (some ⟨pb, 0, none⟩)] 81) = W1 := ⟨_, rfl⟩
  have b1 : Below w.heap.size w W1 := by rw [← hW1]; exact alloc_below w _
  have n1 : W1.heap[w.heap.size]? = some (.cells #[.pointer (some ⟨pb, 0, none⟩)] 81 (0, 0)) := by rw [← hW1]; exact alloc_new w _
  obtain ⟨bx, hbx⟩ : ∃ bx, w.heap.size = bx := ⟨_, rfl⟩
  have hne : bx ≠ pb := by have := hP.lt; omega
  rw [hbx] at n1
  obtain ⟨x0, -⟩ := blk1 n1
  have H1 := Lib.hid (And.intro (hP.keep b1) (And.intro b1 (And.intro n1 hne)))
  clear hP b1 n1 ho hp1 hl2 hne
  by_cases e : m = n
  · subst e
    cases first with
    | true =>
      rw [long_all] at hl
      obtain rfl : p1 = [] := List.length_eq_zero_iff.1 hl
      have HZ := Lib.hid (tree_first m old [])
      clear ih h1 hmn hn hl
      go_enter Try.func57, Try.ntmps57
      go_wp2
      refine HR.out _ _ ⟨_, rfl, ?_, pv, H1.out.1.keep (alloc_below W1 _), (Solo.of_below H1.out.2.1).then (Solo.of_below (alloc_below W1 _))⟩
      rw [HZ.out]
      exact ⟨_, rfl, alloc_new W1 _⟩
    | false =>
      rw [long_all] at hl
      obtain ⟨x, rfl⟩ : ∃ x, p1 = [x] := by
        match p1, hl with
        | [x], _ => exact ⟨x, rfl⟩
      have HZ := Lib.hid (tree_other m old x)
      clear ih h1 hmn hn hl
      go_enter Try.func57, Try.ntmps57
      go_wp2_with fail
      refine (ftake_any bx pb pv x p2 _ H1.out.2.2.1 H1.out.1 (by have := HO.out.2.2; omega)).mono ?_
      rintro e w2 ⟨rfl, pv2, hp, hs⟩
      have H2 := Lib.hid (And.intro hp ((Solo.of_below H1.out.2.1).then hs))
      clear hp hs
      go_wp2
      refine HR.out _ _ ⟨_, rfl, ?_, pv2, H2.out.1.keep (alloc_below w2 _), H2.out.2.then (Solo.of_below (alloc_below w2 _))⟩
      rw [HZ.out]
      exact ⟨_, rfl, alloc_new w2 _⟩
  · have h2 : 2 ≤ n := by omega
    have hh := half_lt n h2
    have HH := Lib.hid (fun w => fhalf_any n w h2 (by omega))
    have hme : ((m : Int) == (n : Int)) = false := by simp; omega
    by_cases hm : m ≤ halfN n
    · rw [long_left m n first e h2 hm] at hl
      obtain ⟨p, z, rfl, hpl⟩ := last_path hl
      have HZ := Lib.hid (tree_left m n first old p z e h2 hm)
      have hpw : ∀ s ∈ p, s.size = 32 := fun s hs => HO.out.2.1 s (by simp [hs])
      have HT := Lib.hid (And.intro (tree_wide (halfN n) m first old p h1 hm HO.out.1 hpw hpl) (HO.out.2.1 z (by simp)))
      have cR := Lib.hid (fun (w2 : World) (v2 : Value) (h : PathAt w2 41 pb v2 (p ++ (z :: p2))) => ih (halfN n) hh.2 m first old pb v2 p (z :: p2) w2 h1 hm (by omega) HO.out.1 hpw hpl (by have := HO.out.2.2; simp at this ⊢; omega) h)
      have hmk : (m : Int) ≤ ((halfN n : Nat) : Int) := by omega
      rw [List.append_assoc] at H1
      generalize treeL m (halfN n) first old p = X at *
      generalize halfN n = k at *
      clear ih h1 hmn hn hl hpl hpw hm h2 hh e
      go_enter Try.func57, Try.ntmps57
      go_wp2_with fail
      refine (HH.out _).mono ?_
      rintro e w3 ⟨rfl, hw3⟩
      rw [hw3]
      clear hw3
      go_wp2_with fail
      refine (cR.out _ _ H1.out.1).mono ?_
      rintro e w2 ⟨vx, rfl, ht, pv2, hp, hs⟩
      have H2 := Lib.hid (And.intro ht (And.intro hp (And.intro (hs.keep H1.out.2.2.1 H1.out.2.2.2) ((Solo.of_below H1.out.2.1).then hs))))
      clear ht hp hs x0
      go_wp2_with fail
      refine (ftake_any bx pb pv2 z p2 _ H2.out.2.2.1 H2.out.2.1 (by have := HO.out.2.2; omega)).mono ?_
      rintro e w4 ⟨rfl, pv4, hp, hs⟩
      obtain ⟨W5, hW5⟩ : ∃ W5, w4.alloc (.cells #[.string z, .string ⟨#[]⟩, .pointer none, .pointer none] 64) = W5 := ⟨_, rfl⟩
      have b5 : Below w4.heap.size w4 W5 := by rw [← hW5]; exact alloc_below w4 _
      have n5 : W5.heap[w4.heap.size]? = some (.cells #[.string z, .string ⟨#[]⟩, .pointer none, .pointer none] 64 (0, 0)) := by rw [← hW5]; exact alloc_new w4 _
      obtain ⟨by_, hby⟩ : ∃ b, w4.heap.size = b := ⟨_, rfl⟩
      rw [hby] at n5
      have H5 := Lib.hid (And.intro ((H2.out.1.solo hs H2.out.2.1.blk (by decide)).below b5) (And.intro (show TreeAt W5 64 (.pointer (some ⟨by_, 0, none⟩)) (.leaf z noS) from ⟨_, rfl, n5⟩) (And.intro (hp.keep b5) ((H2.out.2.2.2.then hs).then (Solo.of_below b5)))))
      obtain ⟨xn, xl, xr, rfl, kx⟩ := H5.out.1.top
      obtain ⟨c0, c1, -, -⟩ := blk4 kx
      obtain ⟨d0, d1, -, -⟩ := blk4 n5
      clear hp hs b5 n5 kx
      have d0a := fun p => after_cell d0 p
      have c0a := fun p => after_cell c0 p
      have c1a := fun p => after_cell c1 p
      have cN := Lib.hid (fun p => calls_after (p := p) (node_any X.root z (After W5 p) (by have := HT.out.1.1; omega) (by have := HT.out.2; omega)))
      go_wp2_with fail
      clear c0 c1 d0 d1
      refine wp_region_after_tail 16 (by kernel_rfl) (by kernel_rfl) ?_
      simp only [List.take_succ_cons, List.take_zero, List.drop_succ_cons, List.drop_zero]
      repeat (quiet_step (fail))
      quiet_step (exact cN.out _)
      repeat (quiet_step (fail))
      refine wpQuiet_nil ?_
      rintro w6 ⟨q, rfl⟩
      have hb6 := after_below W5 q
      have H6 := Lib.hid (And.intro (H5.out.1.below hb6) (And.intro (H5.out.2.1.below hb6) (And.intro (H5.out.2.2.1.keep hb6) (H5.out.2.2.2.then (Solo.of_below hb6)))))
      generalize After W5 q = w6 at *
      clear hb6 c0a c1a d0a cN
      go_wp2
      have hbn := alloc_below w6 (.cells #[.string (nodeS X.root z), .string X.start, .pointer (some ⟨xn, 0, none⟩), .pointer (some ⟨by_, 0, none⟩)] 64)
      refine HR.out _ _ ⟨_, rfl, ?_, pv4, H6.out.2.2.1.keep hbn, H6.out.2.2.2.then (Solo.of_below hbn)⟩
      rw [HZ.out]
      exact ⟨_, _, _, rfl, alloc_new w6 _, H6.out.1.below hbn, H6.out.2.1.below hbn⟩
    · rw [long_right m n first e h2 hm] at hl
      obtain ⟨p, z, rfl, hpl⟩ := last_path hl
      have HZ := Lib.hid (tree_right m n first old p z e h2 hm)
      have hpw : ∀ s ∈ p, s.size = 32 := fun s hs => HO.out.2.1 s (by simp [hs])
      have HT := Lib.hid (And.intro (tree_wide (n - halfN n) (m - halfN n) false old p (by omega) (by omega) HO.out.1 hpw hpl) (HO.out.2.1 z (by simp)))
      have cR := Lib.hid (fun (w2 : World) (v2 : Value) (h : PathAt w2 41 pb v2 (p ++ (z :: p2))) => ih (n - halfN n) (by omega) (m - halfN n) false old pb v2 p (z :: p2) w2 (by omega) (by omega) (by omega) HO.out.1 hpw hpl (by have := HO.out.2.2; simp at this ⊢; omega) h)
      have hmk : ¬ (m : Int) ≤ ((halfN n : Nat) : Int) := by omega
      have e1 : (m : Int) - ((halfN n : Nat) : Int) = ((m - halfN n : Nat) : Int) := by omega
      have e2 : (n : Int) - ((halfN n : Nat) : Int) = ((n - halfN n : Nat) : Int) := by omega
      have w1 : m - halfN n ≤ 2000000 := by omega
      have w2 : n - halfN n ≤ 2000000 := by omega
      rw [List.append_assoc] at H1
      generalize treeL (m - halfN n) (n - halfN n) false old p = X at *
      generalize m - halfN n = i at *
      generalize n - halfN n = j at *
      generalize halfN n = k at *
      clear ih h1 hmn hn hl hpl hpw hm h2 hh e
      go_enter Try.func57, Try.ntmps57
      go_wp2_with fail
      refine (HH.out _).mono ?_
      rintro e w3 ⟨rfl, hw3⟩
      rw [hw3]
      clear hw3
      go_wp2_with fail
      refine (cR.out _ _ H1.out.1).mono ?_
      rintro e w2 ⟨vx, rfl, ht, pv2, hp, hs⟩
      have H2 := Lib.hid (And.intro ht (And.intro hp (And.intro (hs.keep H1.out.2.2.1 H1.out.2.2.2) ((Solo.of_below H1.out.2.1).then hs))))
      clear ht hp hs x0
      go_wp2_with fail
      refine (ftake_any bx pb pv2 z p2 _ H2.out.2.2.1 H2.out.2.1 (by have := HO.out.2.2; omega)).mono ?_
      rintro e w4 ⟨rfl, pv4, hp, hs⟩
      obtain ⟨W5, hW5⟩ : ∃ W5, w4.alloc (.cells #[.string z, .string ⟨#[]⟩, .pointer none, .pointer none] 64) = W5 := ⟨_, rfl⟩
      have b5 : Below w4.heap.size w4 W5 := by rw [← hW5]; exact alloc_below w4 _
      have n5 : W5.heap[w4.heap.size]? = some (.cells #[.string z, .string ⟨#[]⟩, .pointer none, .pointer none] 64 (0, 0)) := by rw [← hW5]; exact alloc_new w4 _
      obtain ⟨by_, hby⟩ : ∃ b, w4.heap.size = b := ⟨_, rfl⟩
      rw [hby] at n5
      have H5 := Lib.hid (And.intro ((H2.out.1.solo hs H2.out.2.1.blk (by decide)).below b5) (And.intro (show TreeAt W5 64 (.pointer (some ⟨by_, 0, none⟩)) (.leaf z noS) from ⟨_, rfl, n5⟩) (And.intro (hp.keep b5) ((H2.out.2.2.2.then hs).then (Solo.of_below b5)))))
      obtain ⟨xn, xl, xr, rfl, kx⟩ := H5.out.1.top
      obtain ⟨c0, c1, -, -⟩ := blk4 kx
      obtain ⟨d0, d1, -, -⟩ := blk4 n5
      have d0a := fun p => after_cell d0 p
      have c0a := fun p => after_cell c0 p
      have c1a := fun p => after_cell c1 p
      have cN := Lib.hid (fun p => calls_after (p := p) (node_any z X.root (After W5 p) (by have := HT.out.2; omega) (by have := HT.out.1.1; omega)))
      have cM := Lib.hid (fun p => calls_after (p := p) (node_any z X.start (After W5 p) (by have := HT.out.2; omega) (by have := HT.out.1.2; omega)))
      clear hp hs b5 n5 kx e1 e2
      go_wp2_with fail
      clear c0 c1 d0 d1
      refine wp_region_after_tail 21 (by kernel_rfl) (by kernel_rfl) ?_
      simp only [List.take_succ_cons, List.take_zero, List.drop_succ_cons, List.drop_zero]
      repeat (quiet_step (fail))
      quiet_step (exact cN.out _)
      repeat (quiet_step (fail))
      quiet_step (exact cM.out _)
      repeat (quiet_step (fail))
      refine wpQuiet_nil ?_
      rintro w6 ⟨q, rfl⟩
      have hb6 := after_below W5 q
      have H6 := Lib.hid (And.intro (H5.out.1.below hb6) (And.intro (H5.out.2.1.below hb6) (And.intro (H5.out.2.2.1.keep hb6) (H5.out.2.2.2.then (Solo.of_below hb6)))))
      generalize After W5 q = w6 at *
      clear hb6 c0a c1a d0a cN cM
      go_wp2
      have hbn := alloc_below w6 (.cells #[.string (nodeS z X.root), .string (nodeS z X.start), .pointer (some ⟨by_, 0, none⟩), .pointer (some ⟨xn, 0, none⟩)] 64)
      refine HR.out _ _ ⟨_, rfl, ?_, pv4, H6.out.2.2.1.keep hbn, H6.out.2.2.2.then (Solo.of_below hbn)⟩
      rw [HZ.out]
      exact ⟨_, _, _, rfl, alloc_new w6 _, H6.out.2.1.below hbn, H6.out.1.below hbn⟩
end Go.Proofs.Ytpdeicgjmjoglaa
/- To which roots a path leads: of the reference. -/
namespace Go.Proofs.Ytpdeicgjmjoglaa
open Go.RowKit Ks
set_option linter.unusedVariables false
theorem drewn_low (w : World) (n : Nat) : Below w.heap.size w (w.drewN n) := ⟨rfl, rfl, rfl, Nat.le_refl _, fun _ _ => rfl⟩
set_option maxRecDepth 100000 in
set_option maxHeartbeats 8000000 in
theorem rroots_any : ∀ (n m : Nat) (first : Bool) (old : ByteArray) (pv : Value) (path : List ByteArray) (w : World), 1 ≤ m → m ≤ n → n ≤ 1048576 → old.size = 32 → (∀ s ∈ path, s.size = 32) → path.length = longN m n first → path.length ≤ 1000000 → Rd strE w pv path →
    Calls Try.prog 42 #[.int .i64 (m : Nat), .int .i64 (n : Nat), .bool first, .string old, pv] w fun e w' => e = .returned (.tuple #[.string (treeL m n first old path).start, .string (treeL m n first old path).root]) ∧ Below w.heap.size w w' := by
  intro n
  induction n using Nat.strongRecOn with
  | ind n ih =>
  intro m first old pv path w h1 hmn hn ho hp hl hlen hr
  refine calls_by fun R HR => ?_
  have HRd := Lib.hid hr
  obtain ⟨a, cap, rfl, hcap, -⟩ := hr.shape
  by_cases e : m = n
  · subst e
    cases first with
    | true =>
      have HZ := Lib.hid (tree_first m old path)
      clear ih h1 hmn hn hl hp ho hlen hr hcap
      go_enter Try.func42, Try.ntmps42
      go_wp2
      exact HR.out _ _ ⟨by rw [HZ.out]; rfl, Below.refl _ _⟩
    | false =>
      rw [long_all] at hl
      obtain ⟨x, rfl⟩ : ∃ x, path = [x] := by
        match path, hl with
        | [x], _ => exact ⟨x, rfl⟩
      have HZ := Lib.hid (tree_other m old x)
      obtain ⟨b, o, rfl, hb1, cz⟩ := hr.str 0 (by simp)
      rw [List.length_singleton] at HRd
      simp only [List.getElem_cons_zero, Nat.add_zero] at cz
      clear ih h1 hmn hn hl hp ho hlen hr hcap
      go_enter Try.func42, Try.ntmps42
      go_wp2_with fail
      go_quiet (fail)
      go_wp2
      exact HR.out _ _ ⟨by rw [HZ.out]; rfl, drewn_low w _⟩
  · have h2 : 2 ≤ n := by omega
    have hh := half_lt n h2
    have HH := Lib.hid (fun w => rhalf_any n w h2 (by omega))
    have hme : ((m : Int) == (n : Int)) = false := by simp; omega
    by_cases hm : m ≤ halfN n
    · rw [long_left m n first e h2 hm] at hl
      obtain ⟨p, z, rfl, hpl⟩ := last_path hl
      obtain ⟨q, hq⟩ : ∃ q, p.length = q := ⟨_, rfl⟩
      have hlq : (p ++ [z]).length = q + 1 := by simp [hq]
      have HZ := Lib.hid (tree_left m n first old p z e h2 hm)
      have hpw : ∀ s ∈ p, s.size = 32 := fun s hs => hp s (by simp [hs])
      have hz := hp z (by simp)
      have HT := Lib.hid (And.intro (tree_wide (halfN n) m first old p h1 hm ho hpw hpl) hz)
      obtain ⟨b, o, rfl, hb1, cz⟩ := hr.str q (by omega)
      have ez : ∀ h, (p ++ [z])[q]'h = z := by
        intro h
        subst hq
        simp
      rw [ez] at cz
      have hT := hr.take (k := q) (by omega) cap (by omega)
      rw [show (p ++ [z]).take q = p from List.take_left' hq] at hT
      have cR := Lib.hid (ih (halfN n) hh.2 m first old _ p w h1 hm (by omega) ho hpw hpl (by omega) hT)
      have cN := Lib.hid (fun w => rnode_any (treeL m (halfN n) first old p).root z w (by have := HT.out.1.1; omega) (by omega))
      have hmk : (m : Int) ≤ ((halfN n : Nat) : Int) := by omega
      have hsz := HT.out.1.1
      generalize treeL m (halfN n) first old p = X at *
      generalize halfN n = k at *
      rw [hlq] at HRd hcap ⊢
      have hk0 : (0 : Int) ≤ (q : Int) := by omega
      have hk1 : (q : Int) < (q : Int) + 1 := by omega
      have hk2 : (q : Int) ≤ (cap : Int) := by omega
      have hk3 : (q : Int) ≤ 1000000 := by omega
      have hz2 : ¬ 9223372036854775807 < 1 + X.root.size := by omega
      have hz3 : ¬ 9223372036854775807 < 1 + X.root.size + z.size := by omega
      have hwk : wrap64 (q : Int) = (q : Int) := by rw [wrap64]; omega
      clear ih h1 hmn hn hl hpl hpw hm h2 hh e hT hr hp ho hlen ez hlq hq hcap hsz hz
      go_enter Try.func42, Try.ntmps42
      go_wp2_with fail
      refine (HH.out _).mono ?_
      rintro e w3 ⟨rfl, hw3⟩
      rw [hw3]
      clear hw3
      go_wp2_with fail
      refine cR.out.mono ?_
      rintro e w2 ⟨rfl, hb⟩
      have H2 := Lib.hid hb
      have cz2 := (hb.cell (p := ⟨b, o + q, none⟩) hb1).trans cz
      clear hb cz
      go_wp2_with fail
      refine (cN.out _).mono ?_
      rintro e w3 ⟨rfl, hb⟩
      have H3 := Lib.hid (H2.out.trans (hb.mono H2.out.size))
      clear hb cz2 cN
      go_wp2
      exact HR.out _ _ ⟨by rw [HZ.out]; rfl, H3.out⟩
    · rw [long_right m n first e h2 hm] at hl
      obtain ⟨p, z, rfl, hpl⟩ := last_path hl
      obtain ⟨q, hq⟩ : ∃ q, p.length = q := ⟨_, rfl⟩
      have hlq : (p ++ [z]).length = q + 1 := by simp [hq]
      have HZ := Lib.hid (tree_right m n first old p z e h2 hm)
      have hpw : ∀ s ∈ p, s.size = 32 := fun s hs => hp s (by simp [hs])
      have hz := hp z (by simp)
      have HT := Lib.hid (And.intro (tree_wide (n - halfN n) (m - halfN n) false old p (by omega) (by omega) ho hpw hpl) hz)
      obtain ⟨b, o, rfl, hb1, cz⟩ := hr.str q (by omega)
      have ez : ∀ h, (p ++ [z])[q]'h = z := by
        intro h
        subst hq
        simp
      rw [ez] at cz
      have hT := hr.take (k := q) (by omega) cap (by omega)
      rw [show (p ++ [z]).take q = p from List.take_left' hq] at hT
      have cR := Lib.hid (ih (n - halfN n) (by omega) (m - halfN n) false old _ p w (by omega) (by omega) (by omega) ho hpw hpl (by omega) hT)
      have cN := Lib.hid (fun w => rnode_any z (treeL (m - halfN n) (n - halfN n) false old p).root w (by omega) (by have := HT.out.1.1; omega))
      have cM := Lib.hid (fun w => rnode_any z (treeL (m - halfN n) (n - halfN n) false old p).start w (by omega) (by have := HT.out.1.2; omega))
      have e1 : (m : Int) - ((halfN n : Nat) : Int) = ((m - halfN n : Nat) : Int) := by omega
      have e2 : (n : Int) - ((halfN n : Nat) : Int) = ((n - halfN n : Nat) : Int) := by omega
      have w1 : m - halfN n ≤ 2000000 := by omega
      have w2 : n - halfN n ≤ 2000000 := by omega
      have hsz2 := HT.out.1.2
      have hmk : ¬ (m : Int) ≤ ((halfN n : Nat) : Int) := by omega
      have hsz := HT.out.1.1
      generalize treeL (m - halfN n) (n - halfN n) false old p = X at *
      generalize m - halfN n = i at *
      generalize n - halfN n = j at *
      generalize halfN n = k at *
      rw [hlq] at HRd hcap ⊢
      have hk0 : (0 : Int) ≤ (q : Int) := by omega
      have hk1 : (q : Int) < (q : Int) + 1 := by omega
      have hk2 : (q : Int) ≤ (cap : Int) := by omega
      have hk3 : (q : Int) ≤ 1000000 := by omega
      have hz2 : ¬ 9223372036854775807 < 1 + z.size := by omega
      have hz3 : ¬ 9223372036854775807 < 1 + z.size + X.root.size := by omega
      have hz4 : ¬ 9223372036854775807 < 1 + z.size + X.start.size := by omega
      have hwk : wrap64 (q : Int) = (q : Int) := by rw [wrap64]; omega
      clear ih h1 hmn hn hl hpl hpw hm h2 hh e hT hr hp ho hlen ez hlq hq hcap hsz hz hsz2
      go_enter Try.func42, Try.ntmps42
      go_wp2_with fail
      refine (HH.out _).mono ?_
      rintro e w3 ⟨rfl, hw3⟩
      rw [hw3]
      clear hw3
      go_wp2_with fail
      refine cR.out.mono ?_
      rintro e w4 ⟨rfl, hb⟩
      have H2 := Lib.hid hb
      have cz2 := fun p => after_cell ((hb.cell (p := ⟨b, o + q, none⟩) hb1).trans cz) p
      have dN := Lib.hid (fun p => calls_after (p := p) (cN.out (After w4 p)))
      have dM := Lib.hid (fun p => calls_after (p := p) (cM.out (After w4 p)))
      clear hb cz e1 e2
      go_wp2_with fail
      refine wp_region_after (by kernel_rfl) (by kernel_rfl) ?_
      repeat (quiet_step (fail))
      quiet_step (with_reducible exact dM.out _)
      repeat (quiet_step (fail))
      quiet_step (with_reducible exact dN.out _)
      repeat (quiet_step (fail))
      refine wpQuiet_nil ?_
      rintro w5 ⟨pp, rfl⟩
      have H5 := Lib.hid (H2.out.trans ((after_below w4 pp).mono H2.out.size))
      generalize After w4 pp = w5 at *
      clear cz2 dN dM cN cM
      go_wp2
      exact HR.out _ _ ⟨by rw [HZ.out]; rfl, H5.out⟩
end Go.Proofs.Ytpdeicgjmjoglaa
/- The tree that a path tells, if it is one: frontier.told; frontier.Grown. -/
namespace Ks
open Go Go.RowKit
set_option linter.unusedVariables false
/-- does a path tell a tree? -/
def toldB (m : Int) (old : ByteArray) (n : Int) (path : List ByteArray) : Bool := decide (1 ≤ m ∧ m ≤ n ∧ n ≤ 1048576 ∧ old.size = 32 ∧ path.length = longN m.toNat n.toNat true) && wholeL path
theorem take_wide {l : List ByteArray} {k : Nat} {x : ByteArray} (h : ∀ s ∈ l.take k, s.size = 32) (hx : l[k]? = some x) (h2 : x.size = 32) : ∀ s ∈ l.take (k + 1), s.size = 32 := by
  have e : l.take (k + 1) = l.take k ++ [x] := by rw [List.take_add_one, hx]; rfl
  intro s hs
  rw [e] at hs
  rcases List.mem_append.1 hs with q | q
  · exact h s q
  · rw [List.mem_singleton.1 q]; exact h2
end Ks
namespace Go.Proofs.Ytpdeicgjmjoglaa
open Go.RowKit Ks
set_option linter.unusedVariables false
set_option maxRecDepth 100000 in
set_option maxHeartbeats 4000000 in
theorem told_no (m n : Int) (old : ByteArray) (pv : Value) (path : List ByteArray) (w : World) (hr : Rd strE w pv path) (hl : path.length ≤ 1000000) (h : ¬ (1 ≤ m ∧ m ≤ n ∧ n ≤ 1048576 ∧ old.size = 32)) :
    Calls Try.prog 40 #[.int .i64 m, .string old, .int .i64 n, pv] w fun e w' => e = .returned (.pointer none) ∧ Below w.heap.size w w' := by
  refine calls_by fun R HR => ?_
  obtain ⟨W1, hW1⟩ : ∃ W1, w.alloc (.cells #[pv] 41) = W1 := ⟨_, rfl⟩
  have b1 : Below w.heap.size w W1 := by rw [← hW1]; exact alloc_below w _
  have n1 : W1.heap[w.heap.size]? = some (.cells #[pv] 41 (0, 0)) := by rw [← hW1]; exact alloc_new w _
  obtain ⟨bx, hbx⟩ : ∃ bx, w.heap.size = bx := ⟨_, rfl⟩
  obtain ⟨a, cap, rfl, -, -⟩ := hr.shape
  have H1 := Lib.hid b1
  rw [hbx] at n1
  obtain ⟨x0, -⟩ := blk1 n1
  have hc : m < 1 ∨ (¬ m < 1 ∧ n < m) ∨ (¬ m < 1 ∧ ¬ n < m ∧ 1048576 < n) ∨ (¬ m < 1 ∧ ¬ n < m ∧ ¬ 1048576 < n ∧ ¬ (old.size : Int) = 32) := by omega
  clear h hr hl b1 n1
  rcases hc with h | ⟨h1, h⟩ | ⟨h1, h2, h⟩ | ⟨h1, h2, h3, h⟩
  all_goals
    go_enter Try.func40, Try.ntmps40
    go_wp2_with fail
    go_quiet (fail)
    go_wp2
    exact HR.out _ _ ⟨rfl, H1.out.trans (drewN_under _ _ |>.mono H1.out.size)⟩
set_option maxRecDepth 100000 in
set_option maxHeartbeats 4000000 in
theorem told_in (m n : Nat) (old : ByteArray) (pv : Value) (path : List ByteArray) (w : World) (hr : Rd strE w pv path) (hl : path.length ≤ 1000000) (h1 : 1 ≤ m) (h2 : m ≤ n) (h3 : n ≤ 1048576) (h4 : old.size = 32) :
    Calls Try.prog 40 #[.int .i64 (m : Nat), .string old, .int .i64 (n : Nat), pv] w fun e w' => ∃ v, e = .returned v ∧ Below w.heap.size w w' ∧ if path.length = longN m n true ∧ wholeL path = true then TreeAt w' 64 v (treeL m n true old path) else v = .pointer none := by
  refine calls_by fun R HR => ?_
  have HP := Lib.hid (And.intro hr hl)
  obtain ⟨W1, hW1⟩ : ∃ W1, w.alloc (.cells #[pv] 41) = W1 := ⟨_, rfl⟩
  have b1 : Below w.heap.size w W1 := by rw [← hW1]; exact alloc_below w _
  have n1 : W1.heap[w.heap.size]? = some (.cells #[pv] 41 (0, 0)) := by rw [← hW1]; exact alloc_new w _
  obtain ⟨bx, hbx⟩ : ∃ bx, w.heap.size = bx := ⟨_, rfl⟩
  obtain ⟨a, cap, rfl, hcap, -⟩ := hr.shape
  have H1 := Lib.hid b1
  rw [hbx] at n1
  have hPA : PathAt W1 41 bx (.slice a path.length cap) path := ⟨n1, hr.below b1, fun hne e => by have := hr.lt' hne e; omega⟩
  obtain ⟨x0, -⟩ := blk1 n1
  have x0a := fun p => after_cell x0 p
  have hi1 : ¬ (m : Int) < 1 := by omega
  have hi2 : ¬ (n : Int) < (m : Int) := by omega
  have hi3 : ¬ (1048576 : Int) < (n : Int) := by omega
  have hi4 : (old.size : Int) = 32 := by omega
  have HM := Lib.hid (And.intro h1 (And.intro h2 (And.intro h3 h4)))
  have cL := Lib.hid (fun p => calls_after_same (p := p) ((flong_any n m true (After W1 p) h1 h2 h3).mono fun e w' ⟨q1, q2⟩ => ⟨q1, q2.symm⟩))
  obtain ⟨L, hL⟩ : ∃ L, longN m n true = L := ⟨_, rfl⟩
  rw [hL] at cL HR
  have HL := Lib.hid hL
  have HPA := Lib.hid hPA
  have hmn : m ≤ n := h2
  clear hr hl b1 n1 hPA h1 h2 h3 h4 hL hcap
  by_cases hpl : path.length = L
  · have HPL := Lib.hid hpl
    have hpli : ((path.length : Int) != (L : Int)) = false := by rw [hpl]; simp
    clear hpl
    go_enter Try.func40, Try.ntmps40
    go_wp2_with fail
    refine wp_region_after (by kernel_rfl) (by kernel_rfl) ?_
    repeat (quiet_step (fail))
    quiet_step (exact cL.out _)
    repeat (quiet_step (fail))
    refine wpQuiet_nil ?_
    rintro w2 ⟨q, rfl⟩
    have hb2 := after_below W1 q
    have H2 := Lib.hid (And.intro (HPA.out.keep hb2) (H1.out.trans (hb2.mono H1.out.size)))
    obtain ⟨y0, -⟩ := blk1 H2.out.1.blk
    generalize After W1 q = w2 at *
    clear hb2 x0a x0 cL
    go_wp2_with fail
    go_loopw [37] (fun i wx => ∃ (k : Nat), k ≤ path.length ∧ i = .int .i64 k ∧ Hid (∀ s ∈ path.take k, s.size = 32) ∧ wx = w2) (fun i _ => path.length - (intOf i).toNat)
    case atStart => exact ⟨0, Nat.zero_le _, rfl, Lib.hid (by simp), rfl⟩
    case round =>
      obtain ⟨k, hk, rfl, hN, rfl⟩ := hrel
      by_cases hlt : k < path.length
      · obtain ⟨b, o, rfl, hb0, cx⟩ := H2.out.1.row.str k hlt
        have hki : (k : Int) < (path.length : Int) := by omega
        have hpl2 : (path.length : Int) ≤ 1000000 := by have := HP.out.2; omega
        have HX := Lib.hid (And.intro (List.getElem?_eq_getElem hlt) (List.getElem_mem hlt))
        generalize path[k] = x at *
        clear hb0
        by_cases hx : x.size = 32
        · have hxi : (x.size : Int) = 32 := by omega
          have HN := Lib.hid (take_wide hN.out HX.out.1 hx)
          clear hx hN
          go_wp2_with fail
          go_roundw
          case rel => exact ⟨k + 1, by omega, by go_num, HN, trivial⟩
          case measure => simp [intOf]; omega
        · have hxi : ¬ (x.size : Int) = 32 := by omega
          have HZ := Lib.hid (show ¬ (path.length = L ∧ wholeL path = true) from fun h => hx (by
            have h2 := h.2
            simp only [wholeL, List.all_eq_true, beq_iff_eq] at h2
            exact h2 x HX.out.2))
          clear hx hN
          go_wp2
          exact HR.out _ _ ⟨_, rfl, H2.out.2, by rw [if_neg HZ.out]; rfl⟩
      · obtain rfl : k = path.length := by omega
        have hki : ¬ (path.length : Int) < (path.length : Int) := by omega
        have hw := hN.out
        rw [List.take_length] at hw
        have HZ := Lib.hid (And.intro (show path.length = L ∧ wholeL path = true from ⟨HPL.out, by simp only [wholeL, List.all_eq_true, beq_iff_eq]; exact hw⟩) hw)
        clear hw hN
        go_wp2_with fail
        refine (fread_any n m true old bx _ path [] _ HM.out.1 HM.out.2.1 HM.out.2.2.1 HM.out.2.2.2 HZ.out.2 (by rw [HL.out]; exact HPL.out) (by have := HP.out.2; simp; omega) (by rw [List.append_nil]; exact H2.out.1)).mono ?_
        rintro e w3 ⟨v, rfl, ht, pv3, hp3, hs⟩
        have H3 := Lib.hid (And.intro ht (H2.out.2.trans (hs.below (B := w.heap.size) (by omega) H2.out.2.size)))
        clear ht hp3 hs
        go_wp2
        exact HR.out _ _ ⟨v, rfl, H3.out.2, by rw [if_pos HZ.out.1]; exact H3.out.1⟩
  · have HZ := Lib.hid (show ¬ (path.length = L ∧ wholeL path = true) from fun h => hpl h.1)
    have hpli : ((path.length : Int) != (L : Int)) = true := by rw [bne_iff_ne]; omega
    clear hpl
    go_enter Try.func40, Try.ntmps40
    go_wp2_with fail
    refine wp_region_after (by kernel_rfl) (by kernel_rfl) ?_
    repeat (quiet_step (fail))
    quiet_step (exact cL.out _)
    repeat (quiet_step (fail))
    refine wpQuiet_nil ?_
    rintro w2 ⟨q, rfl⟩
    have hb2 := after_below W1 q
    have H2 := Lib.hid (H1.out.trans (hb2.mono H1.out.size))
    generalize After W1 q = w2 at *
    clear hb2 x0a x0 cL
    go_wp2
    exact HR.out _ _ ⟨_, rfl, H2.out, by rw [if_neg HZ.out]; rfl⟩
theorem ftold_any (m n : Int) (old : ByteArray) (pv : Value) (path : List ByteArray) (w : World) (hr : Rd strE w pv path) (hl : path.length ≤ 1000000) :
    Calls Try.prog 40 #[.int .i64 m, .string old, .int .i64 n, pv] w fun e w' => ∃ v, e = .returned v ∧ Below w.heap.size w w' ∧ if toldB m old n path = true then TreeAt w' 64 v (treeL m.toNat n.toNat true old path) else v = .pointer none := by
  by_cases h : 1 ≤ m ∧ m ≤ n ∧ n ≤ 1048576 ∧ old.size = 32
  · obtain ⟨a, ha⟩ : ∃ a : Nat, m = a := ⟨m.toNat, by omega⟩
    obtain ⟨b, hb⟩ : ∃ b : Nat, n = b := ⟨n.toNat, by omega⟩
    subst ha hb
    refine (told_in a b old pv path w hr hl (by omega) (by omega) (by omega) h.2.2.2).mono ?_
    rintro e w' ⟨v, he, hbl, hv⟩
    refine ⟨v, he, hbl, ?_⟩
    have hB : (toldB (a : Int) old (b : Int) path = true) ↔ (path.length = longN a b true ∧ wholeL path = true) := by
      rw [toldB, Bool.and_eq_true, decide_eq_true_iff]
      exact ⟨fun q => ⟨q.1.2.2.2.2, q.2⟩, fun q => ⟨⟨h.1, h.2.1, h.2.2.1, h.2.2.2, q.1⟩, q.2⟩⟩
    by_cases hc : path.length = longN a b true ∧ wholeL path = true
    · rw [if_pos hc] at hv
      rw [if_pos (hB.2 hc)]
      exact hv
    · rw [if_neg hc] at hv
      rw [if_neg fun q => hc (hB.1 q)]
      exact hv
  · refine (told_no m n old pv path w hr hl h).mono ?_
    rintro e w' ⟨he, hb⟩
    refine ⟨_, he, hb, ?_⟩
    have hB : ¬ toldB m old n path = true := by
      rw [toldB, Bool.and_eq_true, decide_eq_true_iff]
      exact fun q => h ⟨q.1.1, q.1.2.1, q.1.2.2.1, q.1.2.2.2.1⟩
    rw [if_neg hB]
end Go.Proofs.Ytpdeicgjmjoglaa
/- Does a tree begin with an earlier one? frontier.Grown. -/
namespace Ks
open Go Go.RowKit
set_option linter.unusedVariables false
def grownB (m : Int) (old : ByteArray) (n : Int) (now : ByteArray) (path : List ByteArray) : Bool :=
  if m = 0 then decide (0 ≤ n ∧ n ≤ 1048576 ∧ now.size = 32 ∧ old = sha1 [] ∧ path.length = 0)
  else toldB m old n path && decide ((treeL m.toNat n.toNat true old path).start = old ∧ (treeL m.toNat n.toNat true old path).root = now)
end Ks
namespace Go.Proofs.Ytpdeicgjmjoglaa
open Go.RowKit Ks
set_option linter.unusedVariables false
set_option maxRecDepth 100000 in
set_option maxHeartbeats 4000000 in
theorem grown_zero (n : Int) (old now : ByteArray) (pv : Value) (path : List ByteArray) (w : World) (hr : Rd strE w pv path) :
    Calls Try.prog 22 #[.int .i64 0, .string old, .int .i64 n, .string now, pv] w fun e w' => e = .returned (.bool (grownB 0 old n now path)) ∧ Below w.heap.size w w' := by
  refine calls_by fun R HR => ?_
  obtain ⟨a, cap, rfl, -, -⟩ := hr.shape
  have HZ := Lib.hid (show grownB 0 old n now path = decide (0 ≤ n ∧ n ≤ 1048576 ∧ now.size = 32 ∧ old = sha1 [] ∧ path.length = 0) by rw [grownB, if_pos rfl])
  obtain ⟨S, hS⟩ : ∃ S, sha1 [] = S := ⟨_, rfl⟩
  have HS := Lib.hid (fun w => (show Calls Try.prog 27 #[.slice none 0 0] w fun e w' => e = .returned (.string (sha1 [])) ∧ Below w.heap.size w w' from sum0_any w))
  rw [hS] at HZ HS
  clear hr hS
  by_cases hA : 0 ≤ n ∧ n ≤ 1048576 ∧ now.size = 32
  · obtain ⟨h1, h2, h3⟩ := hA
    have h3i : (now.size : Int) = 32 := by omega
    by_cases ho : old = S
    · subst ho
      by_cases hp : path.length = 0
      · have HV := Lib.hid (HZ.out.trans (decide_eq_true ⟨h1, h2, h3, rfl, hp⟩))
        rw [hp]
        clear h3
        go_enter Try.func22, Try.ntmps22
        go_wp2_with fail
        refine (HS.out _).mono ?_
        rintro e w1 ⟨rfl, hb⟩
        have H1 := Lib.hid hb
        clear hb
        go_wp2
        exact HR.out _ _ ⟨by rw [HV.out]; rfl, H1.out⟩
      · have HV := Lib.hid (HZ.out.trans (decide_eq_false fun h => hp h.2.2.2.2))
        have hpi : ((path.length : Int) == 0) = false := by simpa using hp
        clear h3 hp
        go_enter Try.func22, Try.ntmps22
        go_wp2_with fail
        refine (HS.out _).mono ?_
        rintro e w1 ⟨rfl, hb⟩
        have H1 := Lib.hid hb
        clear hb
        go_wp2
        exact HR.out _ _ ⟨by rw [HV.out]; rfl, H1.out⟩
    · have HV := Lib.hid (HZ.out.trans (decide_eq_false fun h => ho h.2.2.2.1))
      have hne := text_ne ho
      clear h3 ho
      go_enter Try.func22, Try.ntmps22
      go_wp2_with fail
      refine (HS.out _).mono ?_
      rintro e w1 ⟨rfl, hb⟩
      have H1 := Lib.hid hb
      clear hb
      go_wp2
      exact HR.out _ _ ⟨by rw [HV.out]; rfl, H1.out⟩
  · have HV := Lib.hid (HZ.out.trans (decide_eq_false fun h => hA ⟨h.1, h.2.1, h.2.2.1⟩))
    have hc : ¬ 0 ≤ n ∨ (0 ≤ n ∧ ¬ n ≤ 1048576) ∨ (0 ≤ n ∧ n ≤ 1048576 ∧ ((now.size : Int) == 32) = false) := by
      by_cases h1 : 0 ≤ n
      · by_cases h2 : n ≤ 1048576
        · exact Or.inr (Or.inr ⟨h1, h2, by simp; have : ¬ now.size = 32 := fun h3 => hA ⟨h1, h2, h3⟩; omega⟩)
        · exact Or.inr (Or.inl ⟨h1, h2⟩)
      · exact Or.inl h1
    clear hA
    rcases hc with h | ⟨h1, h⟩ | ⟨h1, h2, h⟩
    all_goals
      go_enter Try.func22, Try.ntmps22
      go_wp2
      exact HR.out _ _ ⟨by first | (rw [HV.out]; done) | (rw [HV.out]; rfl), Below.refl _ _⟩
set_option maxRecDepth 100000 in
set_option maxHeartbeats 4000000 in
theorem grown_some (m n : Int) (old now : ByteArray) (pv : Value) (path : List ByteArray) (w : World) (hr : Rd strE w pv path) (hl : path.length ≤ 1000000) (hm : ¬ m = 0) :
    Calls Try.prog 22 #[.int .i64 m, .string old, .int .i64 n, .string now, pv] w fun e w' => e = .returned (.bool (grownB m old n now path)) ∧ Below w.heap.size w w' := by
  refine calls_by fun R HR => ?_
  have HT := Lib.hid (ftold_any m n old pv path w hr hl)
  obtain ⟨a, cap, rfl, -, -⟩ := hr.shape
  have HZ := Lib.hid (show grownB m old n now path = (toldB m old n path && decide ((treeL m.toNat n.toNat true old path).start = old ∧ (treeL m.toNat n.toNat true old path).root = now)) by rw [grownB, if_neg hm])
  have hmi : (m == 0) = false := by simpa using hm
  clear hr hl
  go_enter Try.func22, Try.ntmps22
  go_wp2_with fail
  refine HT.out.mono ?_
  rintro e w1 ⟨v, rfl, hb, hv⟩
  have H1 := Lib.hid hb
  clear hb HT
  by_cases hB : toldB m old n path = true
  · rw [if_pos hB] at hv
    rw [hB, Bool.true_and] at HZ
    generalize treeL m.toNat n.toNat true old path = X at *
    obtain ⟨xn, xl, xr, rfl, kx⟩ := hv.top
    obtain ⟨c0, c1, -, -⟩ := blk4 kx
    obtain ⟨R0, hR0⟩ : ∃ r, X.root = r := ⟨_, rfl⟩
    obtain ⟨S0, hS0⟩ : ∃ r, X.start = r := ⟨_, rfl⟩
    rw [hR0] at c0 HZ
    rw [hS0] at c1 HZ
    clear kx hv hB hR0 hS0
    by_cases h1 : S0 = old
    · subst h1
      by_cases h2 : R0 = now
      · subst h2
        have HV := Lib.hid (HZ.out.trans (decide_eq_true ⟨rfl, rfl⟩))
        go_wp2
        exact HR.out _ _ ⟨by rw [HV.out]; rfl, H1.out⟩
      · have HV := Lib.hid (HZ.out.trans (decide_eq_false fun h => h2 h.2))
        have hne := text_ne h2
        clear h2
        go_wp2
        exact HR.out _ _ ⟨by rw [HV.out]; rfl, H1.out⟩
    · have HV := Lib.hid (HZ.out.trans (decide_eq_false fun h => h1 h.1))
      have hne := text_ne h1
      clear h1
      go_wp2
      exact HR.out _ _ ⟨by rw [HV.out]; rfl, H1.out⟩
  · rw [if_neg hB] at hv
    subst hv
    have HV := Lib.hid (show grownB m old n now path = false by rw [HZ.out]; simp [hB])
    clear hB
    go_wp2
    exact HR.out _ _ ⟨by rw [HV.out]; rfl, H1.out⟩
theorem fgrown_any (m n : Int) (old now : ByteArray) (pv : Value) (path : List ByteArray) (w : World) (hr : Rd strE w pv path) (hl : path.length ≤ 1000000) :
    Calls Try.prog 22 #[.int .i64 m, .string old, .int .i64 n, .string now, pv] w fun e w' => e = .returned (.bool (grownB m old n now path)) ∧ Below w.heap.size w w' := by
  by_cases hm : m = 0
  · subst hm; exact grown_zero n old now pv path w hr
  · exact grown_some m n old now pv path w hr hl hm
end Go.Proofs.Ytpdeicgjmjoglaa
/- Does a tree begin with an earlier one? Of the reference. -/
namespace Ks
open Go Go.RowKit
set_option linter.unusedVariables false
theorem grownB_no {m n : Int} {old now : ByteArray} {path : List ByteArray} (h : ¬ (0 ≤ m ∧ m ≤ n ∧ n ≤ 1048576 ∧ old.size = 32 ∧ now.size = 32 ∧ wholeL path = true)) : grownB m old n now path = false := by
  rw [grownB]
  by_cases hm : m = 0
  · rw [if_pos hm]
    refine decide_eq_false fun q => h ?_
    obtain ⟨q1, q2, q3, q4, q5⟩ := q
    refine ⟨by omega, by omega, q2, by rw [q4]; exact sha1_size _, q3, ?_⟩
    rw [List.length_eq_zero_iff.1 q5]; rfl
  · rw [if_neg hm, ← Bool.not_eq_true]
    intro q
    rw [Bool.and_eq_true, decide_eq_true_iff, toldB, Bool.and_eq_true, decide_eq_true_iff] at q
    obtain ⟨⟨⟨q1, q2, q3, q4, q5⟩, q6⟩, q7, q8⟩ := q
    refine h ⟨by omega, q2, q3, q4, ?_, q6⟩
    rw [← q8]
    have hw : ∀ s ∈ path, s.size = 32 := by simpa [wholeL] using q6
    exact (tree_wide n.toNat m.toNat true old path (by omega) (by omega) q4 hw q5).1
theorem grownB_zero {n : Int} {old now : ByteArray} {path : List ByteArray} (h : 0 ≤ n ∧ n ≤ 1048576 ∧ now.size = 32) : grownB 0 old n now path = decide (old = sha1 [] ∧ path.length = 0) := by
  rw [grownB, if_pos rfl, decide_eq_decide]
  exact ⟨fun q => q.2.2.2, fun q => ⟨h.1, h.2.1, h.2.2, q⟩⟩
theorem grownB_some {m n : Nat} {old now : ByteArray} {path : List ByteArray} (h1 : 1 ≤ m) (h2 : m ≤ n) (h3 : n ≤ 1048576) (h4 : old.size = 32) (h5 : wholeL path = true) :
    grownB (m : Int) old (n : Int) now path = (decide (path.length = longN m n true) && decide ((treeL m n true old path).start = old ∧ (treeL m n true old path).root = now)) := by
  rw [grownB, if_neg (by omega), toldB, h5, Bool.and_true]
  congr 1
  rw [decide_eq_decide]
  exact ⟨fun q => q.2.2.2.2, fun q => ⟨by omega, by omega, by omega, h4, q⟩⟩
end Ks
namespace Go.Proofs.Ytpdeicgjmjoglaa
open Go.RowKit Ks
set_option linter.unusedVariables false
set_option maxRecDepth 100000 in
set_option maxHeartbeats 4000000 in
theorem rgrown_any (m n : Int) (old now : ByteArray) (pv : Value) (path : List ByteArray) (w : World) (hr : Rd strE w pv path) (hl : path.length ≤ 1000000) :
    Calls Try.prog 23 #[.int .i64 m, .string old, .int .i64 n, .string now, pv] w fun e w' => e = .returned (.bool (grownB m old n now path)) ∧ Below w.heap.size w w' := by
  refine calls_by fun R HR => ?_
  have HRd := Lib.hid hr
  have HW := Lib.hid (rwhole_any pv path w hr (by omega))
  obtain ⟨a, cap, rfl, -, -⟩ := hr.shape
  by_cases hA : 0 ≤ m ∧ m ≤ n ∧ n ≤ 1048576 ∧ old.size = 32 ∧ now.size = 32
  · obtain ⟨h1, h2, h3, h4, h5⟩ := hA
    have i1 : ¬ m < 0 := by omega
    have i2 : ¬ n < m := by omega
    have i3 : ¬ 1048576 < n := by omega
    have i4 : ((old.size : Int) != 32) = false := by rw [h4]; rfl
    have i5 : ((now.size : Int) != 32) = false := by rw [h5]; rfl
    by_cases hw : wholeL path = true
    · rw [hw] at HW
      by_cases hm : m = 0
      · subst hm
        have HZ := Lib.hid (grownB_zero (old := old) (path := path) ⟨h2, h3, h5⟩)
        obtain ⟨S, hS⟩ : ∃ S, sha1 [] = S := ⟨_, rfl⟩
        have HS := Lib.hid (fun w => (show Calls Try.prog 35 #[.string ⟨#[]⟩] w fun e w' => e = .returned (.string (sha1 [])) ∧ Below w.heap.size w w' from rsumS_any ⟨#[]⟩ w (by decide)))
        rw [hS] at HZ HS
        clear hS hr hl h1 h2 h3 h4 h5 hw
        by_cases ho : old = S
        · subst ho
          by_cases hp : path.length = 0
          · have HV := Lib.hid (HZ.out.trans (decide_eq_true ⟨rfl, hp⟩))
            rw [hp] at HW ⊢
            clear hp
            go_enter Try.func23, Try.ntmps23
            go_wp2_with fail
            refine HW.out.mono ?_
            rintro e w1 ⟨rfl, hw1⟩
            rw [hw1]
            clear hw1
            go_wp2_with fail
            refine (HS.out _).mono ?_
            rintro e w1 ⟨rfl, hb⟩
            have H1 := Lib.hid hb
            clear hb
            go_wp2
            exact HR.out _ _ ⟨by rw [HV.out]; rfl, H1.out⟩
          · have HV := Lib.hid (HZ.out.trans (decide_eq_false fun h => hp h.2))
            have hpi : ((path.length : Int) == 0) = false := by simpa using hp
            clear hp
            go_enter Try.func23, Try.ntmps23
            go_wp2_with fail
            refine HW.out.mono ?_
            rintro e w1 ⟨rfl, hw1⟩
            rw [hw1]
            clear hw1
            go_wp2_with fail
            refine (HS.out _).mono ?_
            rintro e w1 ⟨rfl, hb⟩
            have H1 := Lib.hid hb
            clear hb
            go_wp2
            exact HR.out _ _ ⟨by rw [HV.out]; rfl, H1.out⟩
        · have HV := Lib.hid (HZ.out.trans (decide_eq_false fun h => ho h.1))
          have hne := text_ne ho
          clear ho
          go_enter Try.func23, Try.ntmps23
          go_wp2_with fail
          refine HW.out.mono ?_
          rintro e w1 ⟨rfl, hw1⟩
          rw [hw1]
          clear hw1
          go_wp2_with fail
          refine (HS.out _).mono ?_
          rintro e w1 ⟨rfl, hb⟩
          have H1 := Lib.hid hb
          clear hb
          go_wp2
          exact HR.out _ _ ⟨by rw [HV.out]; rfl, H1.out⟩
      · obtain ⟨x, hx⟩ : ∃ a : Nat, m = a := ⟨m.toNat, by omega⟩
        obtain ⟨y, hy⟩ : ∃ b : Nat, n = b := ⟨n.toNat, by omega⟩
        subst hx hy
        have HZ := Lib.hid (grownB_some (m := x) (n := y) (now := now) (path := path) (by omega) (by omega) (by omega) h4 hw)
        have HL := Lib.hid (rlong_any36 y x true w (by omega) (by omega) (by omega))
        have hmi : ((x : Int) == 0) = false := by simpa using hm
        have hmn : x ≤ y := by omega
        have hwp : ∀ s ∈ path, s.size = 32 := by simpa [wholeL] using hw
        by_cases hpl : path.length = longN x y true
        · have HT := Lib.hid (rroots_any y x true old _ path w (by omega) (by omega) (by omega) h4 hwp hpl hl hr)
          rw [decide_eq_true hpl, Bool.true_and] at HZ
          generalize longN x y true = L at *
          have hpi : ((path.length : Int) != (L : Int)) = false := by rw [hpl]; simp
          generalize treeL x y true old path = X at *
          obtain ⟨R0, hR0⟩ : ∃ r, X.root = r := ⟨_, rfl⟩
          obtain ⟨S0, hS0⟩ : ∃ r, X.start = r := ⟨_, rfl⟩
          rw [hR0, hS0] at HT HZ
          clear hR0 hS0 hr hl h1 h2 h3 h4 h5 hw hm hpl hwp
          by_cases g1 : S0 = old
          · subst g1
            by_cases g2 : R0 = now
            · subst g2
              have HV := Lib.hid (HZ.out.trans (decide_eq_true ⟨rfl, rfl⟩))
              go_enter Try.func23, Try.ntmps23
              go_wp2_with fail
              refine HW.out.mono ?_
              rintro e w1 ⟨rfl, hw1⟩
              rw [hw1]
              clear hw1
              go_wp2_with fail
              refine HL.out.mono ?_
              rintro e w1 ⟨rfl, hw1⟩
              rw [hw1]
              clear hw1
              go_wp2_with fail
              refine HT.out.mono ?_
              rintro e w1 ⟨rfl, hb⟩
              have H1 := Lib.hid hb
              clear hb
              go_wp2
              exact HR.out _ _ ⟨by rw [HV.out]; rfl, H1.out⟩
            · have HV := Lib.hid (HZ.out.trans (decide_eq_false fun h => g2 h.2))
              have hne := text_ne g2
              clear g2
              go_enter Try.func23, Try.ntmps23
              go_wp2_with fail
              refine HW.out.mono ?_
              rintro e w1 ⟨rfl, hw1⟩
              rw [hw1]
              clear hw1
              go_wp2_with fail
              refine HL.out.mono ?_
              rintro e w1 ⟨rfl, hw1⟩
              rw [hw1]
              clear hw1
              go_wp2_with fail
              refine HT.out.mono ?_
              rintro e w1 ⟨rfl, hb⟩
              have H1 := Lib.hid hb
              clear hb
              go_wp2
              exact HR.out _ _ ⟨by rw [HV.out]; rfl, H1.out⟩
          · have HV := Lib.hid (HZ.out.trans (decide_eq_false fun h => g1 h.1))
            have hne := text_ne g1
            clear g1
            go_enter Try.func23, Try.ntmps23
            go_wp2_with fail
            refine HW.out.mono ?_
            rintro e w1 ⟨rfl, hw1⟩
            rw [hw1]
            clear hw1
            go_wp2_with fail
            refine HL.out.mono ?_
            rintro e w1 ⟨rfl, hw1⟩
            rw [hw1]
            clear hw1
            go_wp2_with fail
            refine HT.out.mono ?_
            rintro e w1 ⟨rfl, hb⟩
            have H1 := Lib.hid hb
            clear hb
            go_wp2
            exact HR.out _ _ ⟨by rw [HV.out]; rfl, H1.out⟩
        · rw [decide_eq_false hpl, Bool.false_and] at HZ
          generalize longN x y true = L at *
          have hpi : ((path.length : Int) != (L : Int)) = true := by rw [bne_iff_ne]; omega
          clear hr hl h1 h2 h3 h4 h5 hw hm hpl hwp
          go_enter Try.func23, Try.ntmps23
          go_wp2_with fail
          refine HW.out.mono ?_
          rintro e w1 ⟨rfl, hw1⟩
          rw [hw1]
          clear hw1
          go_wp2_with fail
          refine HL.out.mono ?_
          rintro e w1 ⟨rfl, hw1⟩
          rw [hw1]
          clear hw1
          go_wp2
          exact HR.out _ _ ⟨by rw [HZ.out]; rfl, Below.refl _ _⟩
    · have HV := Lib.hid (grownB_no (m := m) (n := n) (old := old) (now := now) (path := path) fun h => hw h.2.2.2.2.2)
      rw [show wholeL path = false by simpa using hw] at HW
      clear hr hl h1 h2 h3 h4 h5 hw
      go_enter Try.func23, Try.ntmps23
      go_wp2_with fail
      refine HW.out.mono ?_
      rintro e w1 ⟨rfl, hw1⟩
      rw [hw1]
      clear hw1
      go_wp2
      exact HR.out _ _ ⟨by rw [HV.out]; rfl, Below.refl _ _⟩
  · have HV := Lib.hid (grownB_no (m := m) (n := n) (old := old) (now := now) (path := path) fun h => hA ⟨h.1, h.2.1, h.2.2.1, h.2.2.2.1, h.2.2.2.2.1⟩)
    have hc : m < 0 ∨ (¬ m < 0 ∧ n < m) ∨ (¬ m < 0 ∧ ¬ n < m ∧ 1048576 < n) ∨ (¬ m < 0 ∧ ¬ n < m ∧ ¬ 1048576 < n ∧ ((old.size : Int) != 32) = true) ∨ (¬ m < 0 ∧ ¬ n < m ∧ ¬ 1048576 < n ∧ ((old.size : Int) != 32) = false ∧ ((now.size : Int) != 32) = true) := by
      rw [bne_iff_ne, bne_iff_ne, bne_eq_false_iff_eq]
      omega
    clear hA hr hl
    rcases hc with h | ⟨g1, h⟩ | ⟨g1, g2, h⟩ | ⟨g1, g2, g3, h⟩ | ⟨g1, g2, g3, g4, h⟩
    all_goals
      go_enter Try.func23, Try.ntmps23
      go_wp2
      exact HR.out _ _ ⟨by first | (rw [HV.out]; done) | (rw [HV.out]; rfl), Below.refl _ _⟩
end Go.Proofs.Ytpdeicgjmjoglaa
/- Two unlike texts with one sum, where a tree is said to begin with one that it does not: frontier.Clash. -/
namespace Ks
open Go Go.RowKit
set_option linter.unusedVariables false
def clashOK (l : List ByteArray) (m : Int) (old : ByteArray) (path : List ByteArray) : Prop := wholeL l = true ∧ 1 ≤ m ∧ m ≤ l.length ∧ old ≠ rootL (l.take m.toNat) ∧ grownB m old l.length (rootL l) path = true
/-- what is told -/
def clashV (o : Option (ByteArray × ByteArray)) : Value := match o with
  | some (a, b) => .tuple #[.string a, .string b, .bool true]
  | none => .tuple #[.string noS, .string noS, .bool false]
/-- on the way down -/
structure ClashAt (w wx : World) (TN : TypeId) (old : ByteArray) (v lv : Value) (L : List ByteArray) (T : Tr) (R : Option (ByteArray × ByteArray)) : Prop where
  tree : TreeAt wx TN v T
  row : Rd strE wx lv L
  below : Below w.heap.size w wx
  same : clashT L T = R
  whole : wholeL L = true
  is : ∃ m first path, T = treeL m L.length first old path ∧ 1 ≤ m ∧ m ≤ L.length ∧ old.size = 32 ∧ (∀ s ∈ path, s.size = 32) ∧ path.length = longN m L.length first
theorem TreeAt.left {w : World} {TN : TypeId} {v : Value} {r b : ByteArray} {X Y : Tr} (h : TreeAt w TN v (.node r b X Y)) : ∃ n nx xl xr ny yl yr, v = .pointer (some ⟨n, 0, none⟩) ∧ w.heap[n]? = some (.cells #[.string r, .string b, .pointer (some ⟨nx, 0, none⟩), .pointer (some ⟨ny, 0, none⟩)] TN (0, 0)) ∧
    w.heap[nx]? = some (.cells #[.string X.root, .string X.start, xl, xr] TN (0, 0)) ∧ w.heap[ny]? = some (.cells #[.string Y.root, .string Y.start, yl, yr] TN (0, 0)) ∧ TreeAt w TN (.pointer (some ⟨nx, 0, none⟩)) X ∧ TreeAt w TN (.pointer (some ⟨ny, 0, none⟩)) Y ∧
    (if X.isNode = true then ∃ a, xl = .pointer (some ⟨a, 0, none⟩) else xl = .pointer none) := by
  obtain ⟨n, vx, vy, rfl, h1, hx, hy⟩ := h
  cases X with
  | leaf rx bx =>
    obtain ⟨nx, rfl, kx⟩ := hx
    obtain ⟨ny, yl, yr, rfl, ky⟩ := hy.top
    exact ⟨n, nx, _, _, ny, yl, yr, rfl, h1, kx, ky, ⟨nx, rfl, kx⟩, hy, by simp [Tr.isNode]⟩
  | node rx bx XX XY =>
    obtain ⟨nx, xl, xr, rfl, kx, hxx, hxy⟩ := hx
    obtain ⟨ny, yl, yr, rfl, ky⟩ := hy.top
    obtain ⟨a, _, _, rfl, _⟩ := hxx.top
    exact ⟨n, nx, _, _, ny, yl, yr, rfl, h1, kx, ky, ⟨nx, _, _, rfl, kx, hxx, hxy⟩, hy, by simp [Tr.isNode]⟩
theorem TreeAt.lone {w : World} {TN : TypeId} {v : Value} {r b : ByteArray} (h : TreeAt w TN v (.leaf r b)) : ∃ n, v = .pointer (some ⟨n, 0, none⟩) ∧ w.heap[n]? = some (.cells #[.string r, .string b, .pointer none, .pointer none] TN (0, 0)) := h
theorem whole_wide {l : List ByteArray} (h : wholeL l = true) : ∀ s ∈ l, s.size = 32 := by simpa [wholeL] using h
theorem wide_whole {l : List ByteArray} (h : ∀ s ∈ l, s.size = 32) : wholeL l = true := by simp only [wholeL, List.all_eq_true, beq_iff_eq]; exact h
/-- the tree is a leaf, or goes on to the left, or to the right -/
theorem ClashAt.step {w wx : World} {TN : TypeId} {old : ByteArray} {v lv : Value} {L : List ByteArray} {T : Tr} {R : Option (ByteArray × ByteArray)} (h : ClashAt w wx TN old v lv L T R) :
    (∃ r b, T = .leaf r b ∧ R = none) ∨
    (2 ≤ L.length ∧ ∃ r b X Y, T = .node r b X Y ∧ X.root.size = 32 ∧ Y.root.size = 32 ∧ (rootL (L.take (halfN L.length))).size = 32 ∧ (rootL (L.drop (halfN L.length))).size = 32 ∧ wholeL (L.take (halfN L.length)) = true ∧ wholeL (L.drop (halfN L.length)) = true ∧
      (((X.isNode = true ∨ X.start ≠ noS) ∧ ∃ m first path, X = treeL m (L.take (halfN L.length)).length first old path ∧ 1 ≤ m ∧ m ≤ (L.take (halfN L.length)).length ∧ old.size = 32 ∧ (∀ s ∈ path, s.size = 32) ∧ path.length = longN m (L.take (halfN L.length)).length first) ∨
       (X.isNode = false ∧ X.start = noS ∧ ∃ m first path, Y = treeL m (L.drop (halfN L.length)).length first old path ∧ 1 ≤ m ∧ m ≤ (L.drop (halfN L.length)).length ∧ old.size = 32 ∧ (∀ s ∈ path, s.size = 32) ∧ path.length = longN m (L.drop (halfN L.length)).length first))) := by
  obtain ⟨m, first, path, hT, h1, hmn, ho, hp, hl⟩ := h.is
  by_cases e : m = L.length
  · left
    have hs := h.same
    rw [e] at hT hl
    cases first with
    | true => rw [tree_first] at hT; subst hT; exact ⟨_, _, rfl, by rw [← hs]; rfl⟩
    | false =>
      rw [long_all] at hl
      match path, hl with
      | [x], _ => rw [tree_other] at hT; subst hT; exact ⟨_, _, rfl, by rw [← hs]; rfl⟩
  · right
    have h2 : 2 ≤ L.length := by omega
    have hh := half_lt L.length h2
    have hw := whole_wide h.whole
    have w1 : ∀ s ∈ L.take (halfN L.length), s.size = 32 := fun s h => hw s (List.mem_of_mem_take h)
    have w2 : ∀ s ∈ L.drop (halfN L.length), s.size = 32 := fun s h => hw s (List.mem_of_mem_drop h)
    have l1 : (L.take (halfN L.length)).length = halfN L.length := by rw [List.length_take]; omega
    have l2 : (L.drop (halfN L.length)).length = L.length - halfN L.length := by rw [List.length_drop]
    have s1 := root_wide _ (L.take (halfN L.length)) rfl (by omega) w1
    have s2 := root_wide _ (L.drop (halfN L.length)) rfl (by omega) w2
    refine ⟨h2, ?_⟩
    rw [l1, l2]
    by_cases hm : m ≤ halfN L.length
    · rw [long_left m _ first e h2 hm] at hl
      obtain ⟨p, z, rfl, hpl⟩ := last_path hl
      rw [tree_left m _ first old p z e h2 hm] at hT
      have hpw : ∀ s ∈ p, s.size = 32 := fun s hs => hp s (by simp [hs])
      have ht := tree_wide (halfN L.length) m first old p h1 hm ho hpw hpl
      exact ⟨_, _, _, _, hT, ht.1, hp z (by simp), s1, s2, wide_whole w1, wide_whole w2, Or.inl ⟨Or.inr fun e => by have h9 := ht.2; rw [e] at h9; exact absurd h9 (by decide), m, first, p, rfl, h1, hm, ho, hpw, hpl⟩⟩
    · rw [long_right m _ first e h2 hm] at hl
      obtain ⟨p, z, rfl, hpl⟩ := last_path hl
      rw [tree_right m _ first old p z e h2 hm] at hT
      have hpw : ∀ s ∈ p, s.size = 32 := fun s hs => hp s (by simp [hs])
      have ht := tree_wide (L.length - halfN L.length) (m - halfN L.length) false old p (by omega) (by omega) ho hpw hpl
      exact ⟨_, _, _, _, hT, hp z (by simp), ht.1, s1, s2, wide_whole w1, wide_whole w2, Or.inr ⟨rfl, rfl, m - halfN L.length, false, p, rfl, by omega, by omega, ho, hpw, hpl⟩⟩
theorem clash_steps {L : List ByteArray} {r b : ByteArray} {X Y : Tr} {R : Option (ByteArray × ByteArray)} (h : clashT L (.node r b X Y) = R) :
    (rootL (L.take (halfN L.length)) ≠ X.root ∨ rootL (L.drop (halfN L.length)) ≠ Y.root → R = some (insideS (rootL (L.take (halfN L.length))) (rootL (L.drop (halfN L.length))), insideS X.root Y.root)) ∧
    (rootL (L.take (halfN L.length)) = X.root → rootL (L.drop (halfN L.length)) = Y.root → (X.isNode = true ∨ X.start ≠ noS) → clashT (L.take (halfN L.length)) X = R) ∧
    (rootL (L.take (halfN L.length)) = X.root → rootL (L.drop (halfN L.length)) = Y.root → X.isNode = false → X.start = noS → clashT (L.drop (halfN L.length)) Y = R) := by
  rw [clashT] at h
  refine ⟨fun q => ?_, fun q1 q2 q3 => ?_, fun q1 q2 q3 q4 => ?_⟩
  · rw [if_pos q] at h; exact h.symm
  · rw [if_neg (fun q => q.elim (fun q => q q1) fun q => q q2), if_pos q3] at h; exact h
  · rw [if_neg (fun q => q.elim (fun q => q q1) fun q => q q2), if_neg (fun q => q.elim (fun q => by rw [q3] at q; cases q) fun q => q q4)] at h; exact h
end Ks
namespace Go.Proofs.Ytpdeicgjmjoglaa
open Go.RowKit Ks
set_option linter.unusedVariables false
theorem not_empty {a : ByteArray} (h : a ≠ noS) : (!a.toList.isEmpty) = true := by
  have h2 := text_ne h
  have e : noS.toList = [] := by rw [ByteArray.toList_eq]; rfl
  rw [e] at h2
  cases ha : a.toList with
  | nil => rw [ha] at h2; cases h2
  | cons x l => rfl
theorem drewn_under (w : World) (n : Nat) : Below w.heap.size w (w.drewN n) := ⟨rfl, rfl, rfl, Nat.le_refl _, fun _ _ => rfl⟩
set_option maxRecDepth 100000 in
set_option maxHeartbeats 8000000 in
theorem clash_no (lv pv : Value) (l path : List ByteArray) (m : Int) (old : ByteArray) (w : World) (hr : Rd strE w lv l) (hp : Rd strE w pv path) (hl : l.length ≤ 1000000) (hpl : path.length ≤ 1000000) (h : ¬ clashOK l m old path) :
    Calls Try.prog 26 #[lv, .int .i64 m, .string old, pv] w fun e w' => e = .returned (clashV none) ∧ Below w.heap.size w w' := by
  refine calls_by fun R HR => ?_
  have HRt := Lib.hid (root_any lv l w hr (by omega))
  have HRd := Lib.hid (And.intro hr hp)
  obtain ⟨a, cap, rfl, hcap, -⟩ := hr.shape
  obtain ⟨pa, pcap, rfl, -, -⟩ := hp.shape
  by_cases hw : wholeL l = true
  · rw [show rootV l = rootL l by rw [rootV, if_pos hw], show wholeE l = 0 by rw [wholeE, if_pos hw]] at HRt
    by_cases h1 : m < 1
    · clear h hw hr hp hl hpl hcap
      go_enter Try.func26, Try.ntmps26
      go_wp2_with fail
      refine HRt.out.mono ?_
      rintro e w1 ⟨rfl, hb⟩
      have H1 := Lib.hid hb
      clear hb
      go_wp2
      go_ret3
      exact HR.out _ _ ⟨rfl, H1.out⟩
    · by_cases h2 : (l.length : Int) < m
      · clear h hw hr hp hl hpl hcap
        go_enter Try.func26, Try.ntmps26
        go_wp2_with fail
        refine HRt.out.mono ?_
        rintro e w1 ⟨rfl, hb⟩
        have H1 := Lib.hid hb
        clear hb
        go_wp2
        go_ret3
        exact HR.out _ _ ⟨rfl, H1.out⟩
      · obtain ⟨k, hk⟩ : ∃ k : Nat, m = k := ⟨m.toNat, by omega⟩
        subst hk
        obtain ⟨b, o, rfl, hb1, -⟩ := hr.str 0 (by omega)
        have hT := hr.take (k := k) (by omega) cap (by omega)
        have w1' : wholeL (l.take k) = true := wide_whole fun s hs => whole_wide hw s (List.mem_of_mem_take hs)
        have cR := Lib.hid (fun (w2 : World) (h : Below w.heap.size w w2) => froot_any _ (l.take k) w2 (hT.below h) (by rw [List.length_take]; omega))
        rw [show rootV (l.take k) = rootL (l.take k) by rw [rootV, if_pos w1']] at cR
        have cG := Lib.hid (fun (w2 : World) (h : Below w.heap.size w w2) => fgrown_any (k : Int) l.length old (rootL l) _ path w2 (hp.below h) hpl)
        have hk2 : (k : Int) ≤ (cap : Int) := by omega
        have hk0 : (0 : Int) ≤ (k : Int) := by omega
        have hkl : ¬ l.length < k := by omega
        by_cases ho : old = rootL (l.take k)
        · rw [← ho] at cR
          clear h hw hr hp hl hpl hcap cG hT w1' ho
          go_enter Try.func26, Try.ntmps26
          go_wp2_with fail
          refine HRt.out.mono ?_
          rintro e w1 ⟨rfl, hb⟩
          have H1 := Lib.hid hb
          clear hb
          go_wp2_with fail
          refine (cR.out _ H1.out).mono ?_
          rintro e w2 ⟨rfl, hb⟩
          have H2 := Lib.hid (H1.out.trans (hb.mono H1.out.size))
          clear hb
          go_wp2
          go_ret3
          exact HR.out _ _ ⟨rfl, H2.out⟩
        · have hne := text_ne ho
          have hG : grownB (k : Int) old l.length (rootL l) path = false := by
            rw [← Bool.not_eq_true]
            exact fun hg => h ⟨hw, by omega, by omega, ho, hg⟩
          rw [hG] at cG
          generalize rootL (l.take k) = y at *
          clear h hw hr hp hl hpl hcap hT w1' ho hG
          go_enter Try.func26, Try.ntmps26
          go_wp2_with fail
          refine HRt.out.mono ?_
          rintro e w1 ⟨rfl, hb⟩
          have H1 := Lib.hid hb
          clear hb
          go_wp2_with fail
          refine (cR.out _ H1.out).mono ?_
          rintro e w2 ⟨rfl, hb⟩
          have H2 := Lib.hid (H1.out.trans (hb.mono H1.out.size))
          clear hb
          go_wp2_with fail
          refine (cG.out _ H2.out).mono ?_
          rintro e w3 ⟨rfl, hb⟩
          have H3 := Lib.hid (H2.out.trans (hb.mono H2.out.size))
          clear hb
          go_wp2
          go_ret3
          exact HR.out _ _ ⟨rfl, H3.out⟩
  · rw [show rootV l = ⟨#[]⟩ by rw [rootV, if_neg hw], show wholeE l = 2 by rw [wholeE, if_neg hw]] at HRt
    clear h hw hr hp hl hpl hcap
    go_enter Try.func26, Try.ntmps26
    go_wp2_with fail
    refine HRt.out.mono ?_
    rintro e w1 ⟨rfl, hb⟩
    have H1 := Lib.hid hb
    clear hb
    go_wp2
    go_ret3
    exact HR.out _ _ ⟨rfl, H1.out⟩
set_option maxRecDepth 100000 in
set_option maxHeartbeats 8000000 in
theorem clash_yes (lv pv : Value) (l path : List ByteArray) (m : Int) (old : ByteArray) (w : World) (hr : Rd strE w lv l) (hp : Rd strE w pv path) (hl : l.length ≤ 1000000) (hpl : path.length ≤ 1000000) (h : clashOK l m old path) :
    Calls Try.prog 26 #[lv, .int .i64 m, .string old, pv] w fun e w' => e = .returned (clashV (clashT l (treeL m.toNat l.length true old path))) ∧ Below w.heap.size w w' := by
  refine calls_by fun R HR => ?_
  obtain ⟨hw, h1, h2, ho, hg⟩ := h
  obtain ⟨k, hk⟩ : ∃ k : Nat, m = k := ⟨m.toNat, by omega⟩
  subst hk
  have HRt := Lib.hid (root_any lv l w hr (by omega))
  rw [show rootV l = rootL l by rw [rootV, if_pos hw], show wholeE l = 0 by rw [wholeE, if_pos hw]] at HRt
  have HRd := Lib.hid (And.intro hr (And.intro hp hw))
  have htB : toldB (k : Int) old l.length path = true := by
    rw [grownB, if_neg (by omega), Bool.and_eq_true] at hg
    exact hg.1
  have hIs : ∃ m first pth, treeL k l.length true old path = treeL m l.length first old pth ∧ 1 ≤ m ∧ m ≤ l.length ∧ old.size = 32 ∧ (∀ s ∈ pth, s.size = 32) ∧ pth.length = longN m l.length first := by
    rw [toldB, Bool.and_eq_true, decide_eq_true_iff] at htB
    exact ⟨k, true, path, rfl, by omega, by omega, htB.1.2.2.2.1, whole_wide htB.2, htB.1.2.2.2.2⟩
  have HIs := Lib.hid hIs
  obtain ⟨a, cap, rfl, hcap, -⟩ := hr.shape
  obtain ⟨b, o, rfl, hb1, -⟩ := hr.str 0 (by omega)
  have hT := hr.take (k := k) (by omega) cap (by omega)
  have w1' : wholeL (l.take k) = true := wide_whole fun s hs => whole_wide hw s (List.mem_of_mem_take hs)
  have cR := Lib.hid (fun (w2 : World) (h : Below w.heap.size w w2) => froot_any _ (l.take k) w2 (hT.below h) (by rw [List.length_take]; omega))
  rw [show rootV (l.take k) = rootL (l.take k) by rw [rootV, if_pos w1']] at cR
  have cG := Lib.hid (fun (w2 : World) (h : Below w.heap.size w w2) => fgrown_any (k : Int) l.length old (rootL l) _ path w2 (hp.below h) hpl)
  rw [hg] at cG
  have cT := Lib.hid (fun (w2 : World) (h : Below w.heap.size w w2) => ftold_any (k : Int) l.length old _ path w2 (hp.below h) hpl)
  simp only [htB, ↓reduceIte, Int.toNat_natCast] at cT
  have hk2 : (k : Int) ≤ (cap : Int) := by omega
  have hk0 : (0 : Int) ≤ (k : Int) := by omega
  have hkl : ¬ l.length < k := by omega
  have hne := text_ne (show old ≠ rootL (l.take k) from ho)
  have HL := Lib.hid hl
  obtain ⟨pa, pcap, rfl, -, -⟩ := hp.shape
  simp only [Int.toNat_natCast] at HR
  obtain ⟨T0, hT0⟩ : ∃ T, treeL k l.length true old path = T := ⟨_, rfl⟩
  obtain ⟨RR, hRR⟩ : ∃ r, clashT l T0 = r := ⟨_, rfl⟩
  rw [hT0] at HR HIs cT
  rw [hRR] at HR
  have HRR := Lib.hid hRR
  generalize rootL (l.take k) = y at *
  generalize rootL l = yl at *
  have hk1 : (1 : Int) ≤ (k : Int) := by omega
  clear hw hr hp hl hpl hcap hT w1' ho hg htB hIs hT0 hRR h1 h2
  go_enter Try.func26, Try.ntmps26
  go_wp2_with fail
  refine HRt.out.mono ?_
  rintro e w1 ⟨rfl, hb⟩
  have H1 := Lib.hid hb
  clear hb
  go_wp2_with fail
  refine (cR.out _ H1.out).mono ?_
  rintro e w2 ⟨rfl, hb⟩
  have H2 := Lib.hid (H1.out.trans (hb.mono H1.out.size))
  clear hb
  go_wp2_with fail
  refine (cG.out _ H2.out).mono ?_
  rintro e w3 ⟨rfl, hb⟩
  have H3 := Lib.hid (H2.out.trans (hb.mono H2.out.size))
  clear hb
  go_wp2_with fail
  refine (cT.out _ H3.out).mono ?_
  rintro e w4 ⟨v4, rfl, hb, ht⟩
  have H4 := Lib.hid (show ClashAt w w4 64 old v4 (.slice (some ⟨b, o, none⟩) l.length cap) l T0 RR from ⟨ht, HRd.out.1.below (H3.out.trans (hb.mono H3.out.size)), H3.out.trans (hb.mono H3.out.size), HRR.out, HRd.out.2.2, HIs.out⟩)
  clear hb ht cG cT cR hne hk2 hk0 hkl hk1
  go_wp2_with fail
  go_loopg [13, 14] l.length (fun g v lv wx => ∃ (L : List ByteArray) (T : Tr), L.length = g ∧ g ≤ 1000000 ∧ Hid (ClashAt w wx 64 old v lv L T RR))
  case atStart => exact ⟨l, T0, rfl, HL.out, H4⟩
  case round =>
    obtain ⟨L, T, hLg, hg6, hC⟩ := hrel
    have HLg := Lib.hid (And.intro hLg hg6)
    have hg7 : L.length ≤ 1000000 := by omega
    clear hLg hg6
    rcases hC.out.step with ⟨r0, b0, rfl, hR⟩ | ⟨h2, r0, b0, X, Y, rfl, zX, zY, zA, zB, wA, wB, hnext⟩
    · have HN := Lib.hid hR
      obtain ⟨n0, e0, kx⟩ := hC.out.tree.lone
      subst e0
      obtain ⟨c0, c1, c2, c3⟩ := blk4 kx
      clear hR kx
      go_wp2
      go_ret3
      exact HR.out _ _ ⟨by rw [HN.out]; rfl, hC.out.below⟩
    · obtain ⟨n0, nx, xl, xr, ny, yl2, yr2, e0, k0, kx, ky, tX, tY, hxl⟩ := hC.out.tree.left
      subst e0
      have HN := Lib.hid (And.intro hnext (And.intro wA (And.intro wB (clash_steps hC.out.same))))
      have hh := half_lt L.length h2
      obtain ⟨la, lc, e14, hlc, -⟩ := hC.out.row.shape
      subst e14
      obtain ⟨lb, lo, rfl, hb2, -⟩ := hC.out.row.str 0 (by omega)
      have hT := hC.out.row.take (k := halfN L.length) (by omega) lc (by omega)
      have hD := hC.out.row.drop (k := halfN L.length) (by omega) (some ⟨lb, lo + halfN L.length, none⟩) (fun _ => by simp [strE]) (by simp) (lc - halfN L.length) (by omega)
      have HH := Lib.hid (fhalf_any L.length wr h2 (by omega))
      have dA := Lib.hid (fun p => calls_after (p := p) (froot_any _ (L.take (halfN L.length)) (After wr p) (hT.below (after_below wr p)) (by rw [List.length_take]; omega)))
      have dB := Lib.hid (fun p => calls_after (p := p) (froot_any _ (L.drop (halfN L.length)) (After wr p) (hD.below (after_below wr p)) (by rw [List.length_drop]; omega)))
      rw [show rootV (L.take (halfN L.length)) = rootL (L.take (halfN L.length)) by rw [rootV, if_pos wA]] at dA
      rw [show rootV (L.drop (halfN L.length)) = rootL (L.drop (halfN L.length)) by rw [rootV, if_pos wB]] at dB
      have HTD := Lib.hid (And.intro hT (And.intro hD (show (L.take (halfN L.length)).length = halfN L.length ∧ (L.drop (halfN L.length)).length = L.length - halfN L.length ∧ 0 < halfN L.length ∧ halfN L.length < L.length from ⟨by rw [List.length_take]; omega, by rw [List.length_drop], hh.1, hh.2⟩)))
      have HK := Lib.hid (And.intro k0 (And.intro kx (And.intro ky (And.intro tX tY))))
      obtain ⟨c0, c1, c2, c3⟩ := blk4 k0
      have hk1 : ((halfN L.length : Nat) : Int) < (L.length : Int) := by omega
      have hk0 : (0 : Int) < ((halfN L.length : Nat) : Int) := by omega
      have hk2 : ((halfN L.length : Nat) : Int) ≤ (lc : Int) := by omega
      have hk3 : ¬ lc = halfN L.length := by omega
      have hk4 : ((halfN L.length : Nat) : Int) ≤ (L.length : Int) := by omega
      have hk5 : (L.length : Int) ≤ (lc : Int) := by omega
      obtain ⟨A, hA⟩ : ∃ A, rootL (L.take (halfN L.length)) = A := ⟨_, rfl⟩
      obtain ⟨B, hB⟩ : ∃ B, rootL (L.drop (halfN L.length)) = B := ⟨_, rfl⟩
      obtain ⟨xr0, hxr0⟩ : ∃ B, X.root = B := ⟨_, rfl⟩
      obtain ⟨yr0, hyr0⟩ : ∃ B, Y.root = B := ⟨_, rfl⟩
      obtain ⟨xs0, hxs0⟩ : ∃ B, X.start = B := ⟨_, rfl⟩
      rw [hA] at dA HN zA
      rw [hB] at dB HN zB
      rw [hxr0] at HN HK zX
      rw [hyr0] at HN HK zY
      rw [hxs0] at HN HK
      generalize halfN L.length = kk at *
      have z1 : ¬ 9223372036854775807 < 1 + A.size := by omega
      have z2 : ¬ 9223372036854775807 < 1 + A.size + B.size := by omega
      have z3 : ¬ 9223372036854775807 < 1 + xr0.size := by omega
      have z4 : ¬ 9223372036854775807 < 1 + xr0.size + yr0.size := by omega
      clear hA hB hxr0 hyr0 hxs0 k0 kx ky tX tY hT hD wA wB hnext hlc zX zY zA zB hh h2
      go_wp2_with fail
      refine HH.out.mono ?_
      rintro e w5 ⟨rfl, hw5⟩
      rw [hw5]
      clear hw5
      go_wp2_with fail
      refine wp_region_after (by kernel_rfl) (by kernel_rfl) ?_
      repeat (quiet_step (fail))
      quiet_step (with_reducible exact dA.out _)
      repeat (quiet_step (fail))
      quiet_step (with_reducible exact dB.out _)
      repeat (quiet_step (fail))
      refine wpQuiet_nil ?_
      rintro w6 ⟨q, rfl⟩
      have hb6 := after_below wr q
      have H6 := Lib.hid (And.intro (hC.out.below.trans (hb6.mono hC.out.below.size)) (And.intro (blk_on hb6 HK.out.1) (And.intro (blk_on hb6 HK.out.2.1) (And.intro (blk_on hb6 HK.out.2.2.1) (And.intro (HK.out.2.2.2.1.below hb6) (And.intro (HK.out.2.2.2.2.below hb6) (And.intro (HTD.out.1.below hb6) (HTD.out.2.1.below hb6))))))))
      generalize After wr q = w6 at *
      clear hb6 dA dB c0 c1 c2 c3
      obtain ⟨c0, c1, c2, c3⟩ := blk4 H6.out.2.1
      obtain ⟨d0, d1, d2, d3⟩ := blk4 H6.out.2.2.1
      obtain ⟨g0, g1, g2, g3⟩ := blk4 H6.out.2.2.2.1
      by_cases hAX : A = xr0
      · by_cases hBY : B = yr0
        · subst hAX hBY
          rcases HN.out.1 with ⟨hor, hnx⟩ | ⟨hno, hns, hnx⟩
          · have HQ := Lib.hid (And.intro hnx (HN.out.2.2.2.2.1 rfl rfl hor))
            clear hnx
            have hcase : (∃ a, xl = .pointer (some ⟨a, 0, none⟩)) ∨ (xl = .pointer none ∧ (!xs0.toList.isEmpty) = true) := by
              by_cases hX : X.isNode = true
              · rw [if_pos hX] at hxl; exact Or.inl hxl
              · rw [if_neg hX] at hxl
                exact Or.inr ⟨hxl, not_empty (hor.resolve_left hX)⟩
            clear hor hxl
            rcases hcase with ⟨xa, rfl⟩ | ⟨rfl, hxs⟩
            all_goals
              go_wp2_with fail
              go_quiet (fail)
              go_wp2_with fail
              go_roundg kk
              case rel => exact ⟨L.take kk, X, HTD.out.2.2.1, by have := HTD.out.2.2.2.2.2; have := HLg.out; omega, Lib.hid ⟨H6.out.2.2.2.2.1.below (drewn_under _ _), H6.out.2.2.2.2.2.2.1.below (drewn_under _ _), H6.out.1.trans ((drewn_under _ _).mono H6.out.1.size), HQ.out.2, HN.out.2.1, HQ.out.1⟩⟩
              case measure => have := HTD.out.2.2.2.2.2; have := HLg.out.1; omega
          · have HQ := Lib.hid (And.intro hnx (HN.out.2.2.2.2.2 rfl rfl hno hns))
            rw [if_neg (by rw [hno]; decide)] at hxl
            subst hns hxl
            simp only [noS] at d1
            clear hnx hno
            go_wp2_with fail
            go_quiet (fail)
            go_wp2_with fail
            go_roundg (L.length - kk)
            case rel => exact ⟨L.drop kk, Y, HTD.out.2.2.2.1, by have := HTD.out.2.2.2.2.2; have := HLg.out; omega, Lib.hid ⟨H6.out.2.2.2.2.2.1.below (drewn_under _ _), H6.out.2.2.2.2.2.2.2.below (drewn_under _ _), H6.out.1.trans ((drewn_under _ _).mono H6.out.1.size), HQ.out.2, HN.out.2.2.1, HQ.out.1⟩⟩
            case measure => have := HTD.out.2.2.2.2; have := HLg.out.1; omega
        · have HQ := Lib.hid (HN.out.2.2.2.1 (Or.inr hBY))
          have hnb := text_ne hBY
          clear hBY
          subst hAX
          go_wp2_with fail
          go_quiet (fail)
          go_wp2
          go_ret3
          exact HR.out _ _ ⟨by rw [HQ.out, clashV, ← inside_cat, ← inside_cat]; rfl, H6.out.1.trans ((drewn_under _ _).mono H6.out.1.size)⟩
      · have HQ := Lib.hid (HN.out.2.2.2.1 (Or.inl hAX))
        have hna := text_ne hAX
        clear hAX
        go_wp2_with fail
        go_quiet (fail)
        go_wp2
        go_ret3
        exact HR.out _ _ ⟨by rw [HQ.out, clashV, ← inside_cat, ← inside_cat]; rfl, H6.out.1.trans ((drewn_under _ _).mono H6.out.1.size)⟩
end Go.Proofs.Ytpdeicgjmjoglaa
