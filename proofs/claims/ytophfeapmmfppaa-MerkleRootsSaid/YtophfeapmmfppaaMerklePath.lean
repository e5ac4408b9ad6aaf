/- Trees of hashes: a leaf's path. -/
import Derived.Test.YtophfeapmmfppaaMerkleRoot
import Derived.Test.YtophfeapmmfppaaStepCall
namespace Ks
open Go Go.RowKit
set_option linter.unusedVariables false
def pathS : List (List ByteArray) → Nat → List ByteArray
  | [], _ => []
  | l :: ls, i => sibL l i ++ pathS ls (i / 2)
theorem pathS_snoc (ls : List (List ByteArray)) (l : List ByteArray) (i : Nat) : pathS (ls ++ [l]) i = pathS ls i ++ sibL l (i / 2 ^ ls.length) := by
  induction ls generalizing i with
  | nil => simp [pathS]
  | cons x ls ih =>
    show sibL x i ++ pathS (ls ++ [l]) (i / 2) = sibL x i ++ pathS ls (i / 2) ++ sibL l (i / 2 ^ (ls.length + 1))
    rw [ih, List.append_assoc, Nat.div_div_eq_div_mul, Nat.pow_succ, Nat.mul_comm]
theorem path_levels : ∀ (m : Nat) (l : List ByteArray) (i : Nat), i < l.length → l.length ≤ 2 ^ m → pathS (levelsL l) i = pathM m l i := by
  intro m
  induction m with
  | zero =>
    intro l i hi h
    rw [Nat.pow_zero] at h
    match l, hi, h with
    | [a], hi, _ =>
      obtain rfl : i = 0 := by simpa using hi
      rw [levels_low _ (by simp)]; rfl
  | succ m ih =>
    intro l i hi h
    by_cases h2 : 2 ≤ l.length
    · rw [levels_two l h2]
      show sibL l i ++ pathS (levelsL (aboveL l)) (i / 2) = sibL l i ++ pathM m (aboveL l) (i / 2)
      rw [ih _ _ (by rw [above_length]; omega) (by rw [above_length]; rw [Nat.pow_succ] at h; omega)]
    · match l, hi, h2 with
      | [a], hi, _ =>
        obtain rfl : i = 0 := by simpa using hi
        rw [levels_low _ (by simp), pathM_one]; rfl
      | a :: b :: l, _, h2 => simp at h2
theorem path_levels_eq (l : List ByteArray) (i : Nat) (hi : i < l.length) : pathS (levelsL l) i = pathL l i := by
  have h : l.length ≤ 2 ^ l.length := Nat.le_of_lt Nat.lt_two_pow_self
  rw [path_levels l.length l i hi h, pathM_eq l.length l l.length i rfl hi h]
theorem pathS_len (ls : List (List ByteArray)) (i : Nat) : (pathS ls i).length ≤ ls.length := by
  induction ls generalizing i with
  | nil => simp [pathS]
  | cons l ls ih =>
    have := ih (i / 2)
    have h2 : (sibL l i).length ≤ 1 := by unfold sibL; split <;> simp
    simp only [pathS, List.length_append, List.length_cons]
    omega
theorem levels_len : ∀ (m : Nat) (l : List ByteArray), l.length ≤ 2 ^ m → (levelsL l).length ≤ m + 1 := by
  intro m
  induction m with
  | zero =>
    intro l h
    rw [levels_low l (by rw [Nat.pow_zero] at h; omega)]; simp
  | succ m ih =>
    intro l h
    by_cases h2 : 2 ≤ l.length
    · rw [levels_two l h2]
      have := ih (aboveL l) (by rw [above_length]; rw [Nat.pow_succ] at h; omega)
      simp; omega
    · rw [levels_low l h2]; simp
theorem row_own {T : TypeId} {B : Nat} : Own (fun (x : Lev) W => Row strE W B T x.1 x.2) := by
  intro s W W' row hs hg hr
  refine Row.keep hs fun b e => hg.block b (hs.lt e).2 fun e2 => ?_
  obtain ⟨o, h1, h2⟩ := hr b e2.symm
  rcases hs.2 with ⟨h, _⟩ | ⟨g, cap, cur, h, _, hh, _⟩
  · rw [h] at e; simp [Value.ownBlock] at e
  · rw [h] at e
    simp only [Value.ownBlock, Option.some.injEq] at e
    subst e
    rw [hh] at h1
    cases h1
    cases h2
def downN (i k : Nat) : Nat := i / 2 ^ k
theorem down_zero (i : Nat) : downN i 0 = i := by simp [downN]
theorem down_succ (i k : Nat) : downN i (k + 1) = downN i k / 2 := by rw [downN, downN, Nat.div_div_eq_div_mul, Nat.pow_succ]
theorem tdivTwo (a : Nat) : ((a : Nat) : Int).tdiv 2 = ((a / 2 : Nat) : Int) := by rw [Int.tdiv_eq_ediv_of_nonneg (by omega)]; exact (Int.natCast_ediv _ _).symm
theorem xor_beside (j : Nat) : j ^^^ 1 = besideN j := by
  have h1 : (j ^^^ 1) / 2 = j / 2 := by rw [Nat.xor_div_two]; simp
  have h2 : (j ^^^ 1) % 2 = (j + 1) % 2 := by
    rcases Nat.mod_two_eq_zero_or_one j with h | h
    · have := (Nat.xor_mod_two_eq_one (a := j) (b := 1)).2 (by omega)
      omega
    · have h3 : ¬ (j ^^^ 1) % 2 = 1 := fun h4 => by
        have := (Nat.xor_mod_two_eq_one (a := j) (b := 1)).1 h4
        omega
      omega
  unfold besideN
  split <;> omega
theorem xor_one (j : Nat) (h : j < 1000000000) : bits .xor .i64 (j : Int) 1 = ((besideN j : Nat) : Int) := by
  have e : (2 : Nat) ^ 63 = 9223372036854775808 := by decide
  have := xor_i64 j 1 (by rw [e]; omega) (by rw [e]; omega)
  rw [xor_beside] at this
  exact this
def pathE (l : List ByteArray) (i : Int) : Int := if wholeL l = true ∧ 0 ≤ i ∧ i < l.length then 0 else 2
def pathV (l : List ByteArray) (i : Int) : List ByteArray := if wholeL l = true ∧ 0 ≤ i ∧ i < l.length then pathL l i.toNat else []
end Ks
namespace Go.Proofs.Ytophfeapmmfppaa
open Go.RowKit Ks
set_option linter.unusedVariables false
attribute [local go_sem] Oper.semAt_some
theorem pathT : ElemT Try.prog 28 9 strE.k 16 := elemT_of Try.underlying28 Try.infoS rfl
set_option maxRecDepth 100000 in
set_option maxHeartbeats 2000000 in
theorem path_no (lv : Value) (l : List ByteArray) (i : Int) (w : World) (hr : Rd strE w lv l) (hl : l.length ≤ 100000000) (hno : wholeL l = false ∨ i < 0 ∨ l.length ≤ i) :
    Calls Try.prog 11 #[lv, .int .i64 i] w fun e w' => e = .returned (.tuple #[.slice none 0 0, .int .i64 2]) ∧ Below w.heap.size w w' := by
  obtain ⟨a, cap, rfl, -⟩ := hr.shape
  obtain ⟨W, hW⟩ : ∃ W, w.alloc (.cells #[.int .i64 i] 3) = W := ⟨_, rfl⟩
  have hb0 : Below w.heap.size w W := by rw [← hW]; exact alloc_below w _
  have hk : W.heap[w.heap.size]? = some (.cells #[.int .i64 i] 3 (0, 0)) := by rw [← hW]; exact alloc_new w _
  have HW := whole_any _ l W (hr.below hb0) (by omega)
  have HA := Lib.hid (And.intro hb0 hk)
  clear hb0 hk hr hl
  obtain ⟨b, hb⟩ : ∃ b, wholeL l = b := ⟨_, rfl⟩
  rw [hb] at HW hno
  have HW := Lib.hid HW
  clear hb
  refine (callsIn_wide (n := 5)).1 ?_
  refine callsIn_of_wp_marks Try.func11 rfl trivial ?_ rfl
  simp only [Try.ntmps11, List.size_toArray, List.length_cons, List.length_nil, Nat.reduceAdd, Nat.reduceSub, Array.replicate_succ, Array.replicate_zero, List.push_toArray, List.append_toArray, List.nil_append, List.cons_append]
  cases b
  · gi_wp2
    refine ⟨trivial, (callsIn_wide.2 HW.out).mono ?_⟩
    rintro e w1 ⟨rfl, hb⟩
    have HB := Lib.hid (HA.out.1.trans (hb.mono HA.out.1.size))
    clear hb hW
    gi_wp2
    exact ⟨_, results_tmp2 rfl _ _ _, rfl, HB.out⟩
  · have hno : i < 0 ∨ (l.length : Int) ≤ i := hno.elim (fun h => by cases h) id
    by_cases h0 : i < 0
    all_goals
      first | (have h0' : (l.length : Int) ≤ i := by omega) | skip
      gi_wp2
      refine ⟨trivial, (callsIn_wide.2 HW.out).mono ?_⟩
      rintro e w1 ⟨rfl, hb⟩
      have HB := Lib.hid (HA.out.1.trans (hb.mono HA.out.1.size))
      obtain ⟨c0, -⟩ := blk1 (blk_on hb HA.out.2)
      clear hb hW
      gi_wp2
      exact ⟨_, results_tmp2 rfl _ _ _, rfl, HB.out⟩
set_option maxRecDepth 100000 in
set_option maxHeartbeats 2000000 in
theorem path_yes (lv : Value) (l : List ByteArray) (i : Nat) (w : World) (hr : Rd strE w lv l) (hl : l.length ≤ 100000000) (hw : wholeL l = true) (hi : i < l.length) :
    Calls Try.prog 11 #[lv, .int .i64 (i : Nat)] w fun e w' => ∃ v, e = .returned (.tuple #[v, .int .i64 0]) ∧ Row strE w' w.heap.size 9 v (pathL l i) ∧ Below w.heap.size w w' := by
  obtain ⟨a, cap, rfl, -⟩ := hr.shape
  obtain ⟨W, hW⟩ : ∃ W, w.alloc (.cells #[.int .i64 (i : Nat)] 3) = W := ⟨_, rfl⟩
  have hb0 : Below w.heap.size w W := by rw [← hW]; exact alloc_below w _
  have hk : W.heap[w.heap.size]? = some (.cells #[.int .i64 (i : Nat)] 3 (0, 0)) := by rw [← hW]; exact alloc_new w _
  have HW := whole_any _ l W (hr.below hb0) (by omega)
  rw [hw] at HW
  have HW := Lib.hid HW
  have HS := Lib.hid (And.intro hr (And.intro hl hw))
  have HA := Lib.hid (And.intro hb0 hk)
  have h0 : ¬ (i : Int) < 0 := by omega
  have h1 : ¬ (l.length : Int) ≤ (i : Int) := by omega
  have HI := Lib.hid hi
  clear hr hl hw hb0 hk hi
  refine (callsIn_wide (n := 5)).1 ?_
  refine callsIn_of_wp_marks Try.func11 rfl trivial ?_ rfl
  simp only [Try.ntmps11, List.size_toArray, List.length_cons, List.length_nil, Nat.reduceAdd, Nat.reduceSub, Array.replicate_succ, Array.replicate_zero, List.push_toArray, List.append_toArray, List.nil_append, List.cons_append]
  gi_wp2
  refine ⟨trivial, (callsIn_wide.2 HW.out).mono ?_⟩
  rintro e w1 ⟨rfl, hb⟩
  have HB := Lib.hid (And.intro (HA.out.1.trans (hb.mono HA.out.1.size)) (blk_on hb HA.out.2))
  obtain ⟨c0, -⟩ := blk1 HB.out.2
  clear hb hW
  gi_wp2
  refine ⟨trivial, (callsIn_wide.2 (levels_any a l.length cap _)).mono ?_⟩
  rintro e w4 ⟨rfl, rfl⟩
  obtain ⟨V, hV⟩ : ∃ V, (w1.alloc (.cells #[.slice none 0 0] 28)).alloc (.cells #[.slice a l.length cap] 22) = V := ⟨_, rfl⟩
  have hVs : V.heap.size = w1.heap.size + 2 := by rw [← hV]; simp
  have k1 : V.heap[w1.heap.size]? = some (.cells #[.slice none 0 0] 28 (0, 0)) := by rw [← hV]; exact blk_on (alloc_below _ _) (alloc_new _ _)
  have k2 : V.heap[w1.heap.size + 1]? = some (.cells #[.slice a l.length cap] 22 (0, 0)) := by
    rw [← hV]
    have := alloc_new (w1.alloc (.cells #[.slice none 0 0] 28)) (.cells #[.slice a l.length cap] 22)
    rwa [World.size_alloc] at this
  have hbV : Below w1.heap.size w1 V := by rw [← hV]; exact (alloc_below w1 _).trans ((alloc_below _ _).mono (by simp))
  have HV := Lib.hid (And.intro (HB.out.1.trans (hbV.mono HB.out.1.size)) (And.intro (blk_on hbV HB.out.2) (And.intro k1 (And.intro k2 hVs))))
  have HLV := Lib.hid (path_levels_eq l i HI.out)
  have HLL := Lib.hid (levels_len 27 l (Nat.le_trans HS.out.2.1 (by decide)))
  have hwlt : w.heap.size < w1.heap.size := lt_of_block HB.out.2
  clear k1 k2 hbV
  gi_wp2
  have hI : OwnFrom V.heap.size (fun (pre : List Lev) W => (W.cell? ⟨w.heap.size, 0, none⟩ = some (.int .i64 ((downN i pre.length : Nat) : Int)) ∧ W.frozen? ⟨w.heap.size, 0, none⟩ = false) ∧ (∃ v, W.cell? ⟨w1.heap.size, 0, none⟩ = some v ∧ W.frozen? ⟨w1.heap.size, 0, none⟩ = false ∧ Row strE W (w1.heap.size + 2) 9 v (pathS (pre.map Prod.snd) i)) ∧ Below w.heap.size w W) := by
    rintro pre A B row ⟨⟨h1, h2⟩, ⟨v, h3, h4, h5⟩, h6⟩ hg hr
    have hr' := fun r e => (hr r e).2
    exact ⟨⟨cell_kept h1 hg hr', (frozen_kept h1 hg hr').trans h2⟩, ⟨v, cell_kept h3 hg hr', (frozen_kept h3 hg hr').trans h4, row_own (v, _) A B row h5 hg hr'⟩, h6.grown hg h6.size (fun k e => by have := (hr k e).1; omega)⟩
  have hM : OwnFrom V.heap.size (fun (s : List Lev × Lev) W => (((W.cell? ⟨w.heap.size, 0, none⟩ = some (.int .i64 ((downN i s.1.length : Nat) : Int)) ∧ W.frozen? ⟨w.heap.size, 0, none⟩ = false) ∧ (∃ v, W.cell? ⟨w1.heap.size, 0, none⟩ = some v ∧ W.frozen? ⟨w1.heap.size, 0, none⟩ = false ∧ Row strE W (w1.heap.size + 2) 9 v (pathS (s.1.map Prod.snd) i) ∧ (s.2.2 ≠ [] → ∀ b, v.ownBlock = some b → s.2.1.ownBlock ≠ some b)) ∧ Below w.heap.size w W) ∧ levX s.2 W) ∧ (s.2.2 ≠ [] → s.2.1.ownBlock ≠ some w1.heap.size ∧ s.2.1.ownBlock ≠ some w.heap.size) ∧ s.1.length ≤ 40) := by
    rintro ⟨pre, x⟩ A B row ⟨⟨⟨⟨h1, h2⟩, ⟨v, h3, h4, h5, h5'⟩, h6⟩, h7⟩, h8⟩ hg hr
    have hr' := fun r e => (hr r e).2
    exact ⟨⟨⟨⟨cell_kept h1 hg hr', (frozen_kept h1 hg hr').trans h2⟩, ⟨v, cell_kept h3 hg hr', (frozen_kept h3 hg hr').trans h4, row_own (v, _) A B row h5 hg hr', h5'⟩, h6.grown hg h6.size (fun k e => by have := (hr k e).1; omega)⟩, rd_own x A B row h7 hg hr'⟩, h8⟩
  refine wpIn_range_seen (α := Lev) rfl (by omega) (gf := 36) (lb := #[.pointer (some ⟨w1.heap.size + 1, 0, none⟩)]) rfl trivial (enters_of Try.func36 (by kernel_rfl) rfl)
    (levels_seen _ (w1.heap.size + 1) _ l _ (by omega) (blk1 HV.out.2.2.2.1).1 (HS.out.1.below HV.out.1) HS.out.2.2 HS.out.2.1) (fun _ => rfl)
    (fun pre W => (W.cell? ⟨w.heap.size, 0, none⟩ = some (.int .i64 ((downN i pre.length : Nat) : Int)) ∧ W.frozen? ⟨w.heap.size, 0, none⟩ = false) ∧ (∃ v, W.cell? ⟨w1.heap.size, 0, none⟩ = some v ∧ W.frozen? ⟨w1.heap.size, 0, none⟩ = false ∧ Row strE W (w1.heap.size + 2) 9 v (pathS (pre.map Prod.snd) i)) ∧ Below w.heap.size w W)
    (fun pre x W => (((W.cell? ⟨w.heap.size, 0, none⟩ = some (.int .i64 ((downN i pre.length : Nat) : Int)) ∧ W.frozen? ⟨w.heap.size, 0, none⟩ = false) ∧ (∃ v, W.cell? ⟨w1.heap.size, 0, none⟩ = some v ∧ W.frozen? ⟨w1.heap.size, 0, none⟩ = false ∧ Row strE W (w1.heap.size + 2) 9 v (pathS (pre.map Prod.snd) i) ∧ (x.2 ≠ [] → ∀ b, v.ownBlock = some b → x.1.ownBlock ≠ some b)) ∧ Below w.heap.size w W) ∧ levX x W) ∧ (x.2 ≠ [] → x.1.ownBlock ≠ some w1.heap.size ∧ x.1.ownBlock ≠ some w.heap.size) ∧ pre.length ≤ 40)
    hI hM
    (Own.from rd_own _)
    ?hIB ?hIM ?h0
    (fun x => { tmps := #[.slice a l.length cap, .int .i64 (i : Nat), undef, .pointer (some ⟨w.heap.size, 0, none⟩), .slice none 0 0, .int .i64 0, .pointer (some ⟨w1.heap.size, 0, none⟩), x.1, undef, .slice a l.length cap, .bool true, .bool false, .bool false, .int .i64 (i : Nat), .bool (decide ((i : Int) < 0)), .bool (decide ((i : Int) < 0)), .bool (decide ((i : Int) < 0)), .int .i64 (i : Nat), .slice a l.length cap, .int .i64 (l.length : Nat), .bool false, .bool (decide ((i : Int) < 0)), .slice a l.length cap, .func (.func 36) #[] #[.pointer (some ⟨w1.heap.size + 1, 0, none⟩)], x.1, undef, undef, undef, undef, undef, undef, undef, undef, undef, undef, undef, undef, undef, undef, undef, undef], defers := [] }) ?assign ?body ?done
  case hIB =>
    rintro pre A B ⟨⟨h1, h2⟩, ⟨v, h3, h4, h5⟩, h6⟩ hA hb
    rw [hVs] at hA
    exact ⟨⟨(hb.cell (p := ⟨w.heap.size, 0, none⟩) (by simp; omega)).trans h1, (hb.frozen (p := ⟨w.heap.size, 0, none⟩) (by simp; omega)).trans h2⟩, ⟨v, (hb.cell (p := ⟨w1.heap.size, 0, none⟩) (by simp; omega)).trans h3, (hb.frozen (p := ⟨w1.heap.size, 0, none⟩) (by simp; omega)).trans h4, h5.below hb⟩, h6.trans (hb.mono h6.size)⟩
  case hIM =>
    rintro pre x A B ⟨⟨h1, h2⟩, ⟨v, h3, h4, h5⟩, h6⟩ hA hb hn
    rw [hVs] at hA
    refine ⟨⟨⟨⟨(hb.cell (p := ⟨w.heap.size, 0, none⟩) (by simp; omega)).trans h1, (hb.frozen (p := ⟨w.heap.size, 0, none⟩) (by simp; omega)).trans h2⟩, ⟨v, (hb.cell (p := ⟨w1.heap.size, 0, none⟩) (by simp; omega)).trans h3, (hb.frozen (p := ⟨w1.heap.size, 0, none⟩) (by simp; omega)).trans h4, h5.below hb, fun _ b e e2 => ?_⟩, h6.trans (hb.mono h6.size)⟩, hn.1.rd⟩, fun _ => ⟨fun e => ?_, fun e => ?_⟩, ?_⟩
    · have := (hn.1.lt e2).1
      have := (h5.lt e).2
      omega
    · have := (hn.1.lt e).1
      omega
    · have := (hn.1.lt e).1
      omega
    · obtain ⟨t, ht⟩ := hn.2
      have h9 := congrArg List.length ht
      have h10 := HLL.out
      simp only [List.length_append, List.length_map, List.length_cons] at h9
      omega
  case h0 =>
    intro A hb
    have hbA := HV.out.1.trans (hb.mono HV.out.1.size)
    refine ⟨⟨⟨⟨by rw [List.length_nil, down_zero]; exact (blk1 (blk_on hb HV.out.2.1)).1, (blk1 (blk_on hb HV.out.2.1)).2⟩, ⟨_, (blk1 (blk_on hb HV.out.2.2.1)).1, (blk1 (blk_on hb HV.out.2.2.1)).2, Row.nil _ _ _, fun _ b e => by simp [Value.ownBlock] at e⟩, hbA⟩, HS.out.1.below hbA⟩, fun hl => ⟨HS.out.1.low HB.out.1.size hl, HS.out.1.low (Nat.le_refl _) hl⟩, by simp⟩
  case assign =>
    intro lp x W K hK
    gi_wp2
    exact hK
  case body =>
    rintro lp pre ⟨xv, L⟩ W hsz ⟨⟨⟨⟨h1, h2⟩, ⟨v, h3, h4, h5, h6⟩, h7⟩, hx⟩, hne, hlen⟩
    rw [hVs] at hsz
    change Rd strE W xv L at hx
    obtain ⟨a', c', rfl, -⟩ := hx.shape
    obtain ⟨j, hj⟩ : ∃ j, downN i pre.length = j := ⟨_, rfl⟩
    have HP := Lib.hid (pathS_snoc (pre.map Prod.snd) L i)
    have hjb : j < 1000000000 := by
      rw [← hj, downN]
      have := Nat.div_le_self i (2 ^ pre.length)
      have := HI.out
      have := HS.out.2.1
      omega
    have HJ := Lib.hid (show downN i (pre ++ [((.slice a' L.length c', L) : Lev)]).length = j / 2 by rw [List.length_append, List.length_singleton, down_succ, hj])
    rw [List.length_map, show i / 2 ^ pre.length = j from hj] at HP
    rw [hj] at h1
    have hxor := xor_one j hjb
    obtain ⟨j2, hj2⟩ : ∃ j2, j / 2 = j2 := ⟨_, rfl⟩
    rw [hj2] at HJ
    have hdv : wrap64 ((j : Int) / 2) = ((j2 : Nat) : Int) := by rw [wrap64, ← hj2]; omega
    clear hj2
    have HX := Lib.hid (And.intro hx (And.intro h7 (And.intro hne (And.intro h5 h6))))
    have HC := Lib.hid (And.intro h1 (And.intro h2 (And.intro h3 h4)))
    have HSZ := Lib.hid hsz
    have hvo : v.ownBlock ≠ some w1.heap.size := fun e => by have := (h5.lt e).1; omega
    have hvi : v.ownBlock ≠ some w.heap.size := fun e => by have := (h5.lt e).1; omega
    have HNE := Lib.hid (And.intro hvo hvi)
    have hPL := (show (pathS (pre.map Prod.snd) i).length ≤ 1000000 by have := pathS_len (pre.map Prod.snd) i; rw [List.length_map] at this; change pre.length ≤ 40 at hlen; omega)
    obtain ⟨P, hP⟩ : ∃ P, pathS (pre.map Prod.snd) i = P := ⟨_, rfl⟩
    rw [hP] at h5 HP hPL
    have hPL := Lib.hid hPL
    clear hj hjb h6 h7 hne hsz hlen
    by_cases hbes : besideN j < L.length
    · have hbi : ((besideN j : Nat) : Int) < (L.length : Int) := by omega
      obtain ⟨b, o, rfl, hbW, c1⟩ := hx.str _ hbes
      have HSB := Lib.hid (show sibL L j = [L[besideN j]] by rw [sibL, if_pos hbes, List.getD_eq_getElem?_getD, List.getElem?_eq_getElem hbes]; rfl)
      have hL : L ≠ [] := fun e => by subst e; simp at hbes
      have hbo : b ≠ w1.heap.size := fun e => by have := (HX.out.2.2.1 hL).1; rw [e] at this; exact this rfl
      have hbi2 : b ≠ w.heap.size := fun e => by have := (HX.out.2.2.1 hL).2; rw [e] at this; exact this rfl
      have hbv : v.ownBlock ≠ some b := fun e => by have := HX.out.2.2.2.2 hL b e; exact this rfl
      generalize besideN j = k0 at *
      generalize L[k0] = y at *
      have HB5 := Lib.hid (And.intro h5 (And.intro hbo (And.intro hbi2 (And.intro hbv hbW))))
      have HT := Lib.hid (And.intro hL hbes)
      clear hL hbes hx hvi hP
      gi_wp2
      refine wpIn_region_mv (fun f => AppStore strE (w1.heap.size + 2) W 9 v P [y] w1.heap.size (f 0) (f 5) (f 6) (f 7)) (by kernel_rfl) (by kernel_rfl) (AppStore.start h5 (drew_below W)) ?_
      obtain ⟨S, F, hF, hFC⟩ := moved_class (fun f => AppStore strE (w1.heap.size + 2) W 9 v P [y] w1.heap.size (f 0) (f 5) (f 6) (f 7))
      obtain ⟨S0, F0, hF0, hFC0⟩ := moved_classN (fun f => AppStore strE (w1.heap.size + 2) W 9 v P [y] w1.heap.size (f 0) (f 5) (f 6) (f 7)) 0
      have k0c : ∀ s, (F s).cell? ⟨b, o + k0, none⟩ = some (.string y) := fun s => (hFC s).choose_spec.cell c1 hbv hbo
      have k1c : ∀ s, (F0 s).cell? ⟨w1.heap.size, 0, none⟩ = some v := fun s => by
        have h := (hFC0 s).choose_spec
        have h2 := h.2
        simp only [h.1] at h2
        exact h2.box HC.out.2.2.1 hvo
      clear h5 c1 h1 h3 h4
      show wpAnyM _ _ _ _ _ 8 (Array.replicate 8 false) _ _
      refine mv_readN 0 hF0 (fun f w v _ h => h.read v) rfl (by kernel_rfl) (by kernel_rfl) (by kernel_rfl) (fun K hK => ?_)
      go_simp
      first | refine ⟨_, fun _ => rfl, hK _ _ ?_⟩ | refine hK _ _ ?_
      clear hK K
      refine mv_read 1 hF (fun _ _ _ h => h) rfl (by kernel_rfl) (by kernel_rfl) (by kernel_rfl) (fun K hK => ?_)
      go_simp
      first | refine ⟨_, fun _ => rfl, hK _ _ ?_⟩ | refine hK _ _ ?_
      clear hK K
      refine mv_read 2 hF (fun _ _ _ h => h) rfl (by kernel_rfl) (by kernel_rfl) (by kernel_rfl) (fun K hK => ?_)
      go_simp
      first | refine ⟨_, fun _ => rfl, hK _ _ ?_⟩ | refine hK _ _ ?_
      clear hK K
      refine mv_read 3 hF (fun _ _ _ h => h) rfl (by kernel_rfl) (by kernel_rfl) (by kernel_rfl) (fun K hK => ?_)
      go_simp
      first | refine ⟨_, fun _ => rfl, hK _ _ ?_⟩ | refine hK _ _ ?_
      clear hK K
      refine mv_read 4 hF (fun _ _ _ h => h) rfl (by kernel_rfl) (by kernel_rfl) (by kernel_rfl) (fun K hK => ?_)
      go_simp
      first | refine ⟨_, fun _ => rfl, hK _ _ ?_⟩ | refine hK _ _ ?_
      clear hK K
      refine mv_alone 5 rfl (by kernel_rfl) rfl (fun v => ∃ g, v = .slice (some ⟨g, 0, none⟩) 1 1) (fun g w _ h0 h D hD => ?_) ?_
      · have h9 := h
        simp only [h0] at h9
        have h8 := h9.made #[.string y] rfl
        clear h h9
        go_simp
        exact hD _ _ ⟨_, rfl⟩ h8
      rintro _ ⟨gs, rfl⟩
      refine mv_append 6 rfl (by kernel_rfl) rfl (.tmp 31) (.tmp 36) 28 rfl pathT (w1.heap.size + 2) _ _ P [y] rfl rfl (by have := hPL.out; simp; omega) (by decide) (fun g w ha h0 h => ?_) (fun v' => ∃ a n c, v' = .slice a n c) (fun g w v' w' ha h0 h hG => ?_) ?_
      · have e1 : g 5 = some (.slice (some ⟨gs, 0, none⟩) 1 1) := (agree_on 5 ha (by kernel_rfl)).trans rfl
        simp only [e1, h0] at h
        exact h.rows (by have := HSZ.out; omega)
      · have e1 : g 5 = some (.slice (some ⟨gs, 0, none⟩) 1 1) := (agree_on 5 ha (by kernel_rfl)).trans rfl
        have e2 : g 0 = some v := (agree_on 0 ha (by kernel_rfl)).trans rfl
        simp only [e1, e2, h0] at h
        obtain ⟨a9, c9, e9, -⟩ := hG.1.shape
        refine ⟨⟨_, _, _, e9⟩, ?_⟩
        show AppStore _ _ _ _ _ _ _ _ (g 0) (g 5) _ _ _
        rw [e1, e2]
        exact h.grew hG
      rintro _ ⟨az, nz, cz, rfl⟩
      refine mv_alone 7 rfl (by kernel_rfl) rfl (fun _ => True) (fun g w ha h0 h D hD => ?_) ?_
      · have e1 : g 6 = some (.slice az nz cz) := (agree_on 6 ha (by kernel_rfl)).trans rfl
        simp only [e1, h0] at h
        have q1 := h.1.cell HC.out.2.2.1 hvo
        have q2 := h.1.frozen HC.out.2.2.1 HC.out.2.2.2 hvo
        have hD2 := hD undef (w.setCell ⟨w1.heap.size, 0, none⟩ (.slice az nz cz)) trivial (by show AppStore _ _ _ _ _ _ _ _ (g 0) (g 5) (g 6) _ _; rw [e1]; exact h.stored)
        clear hD h
        go_simp
        exact hD2
      rintro vs -
      refine mv_end (by kernel_rfl) ?_
      intro w2 hw2
      have HG : AppStore strE (w1.heap.size + 2) W 9 v P [y] w1.heap.size (some v) (some (.slice (some ⟨gs, 0, none⟩) 1 1)) (some (.slice az nz cz)) (some vs) w2 := hw2
      obtain ⟨w3, g1, g2, rfl⟩ := HG.done
      have hsz3 := g1.size
      have hblk : ∀ k, k < W.heap.size → v.ownBlock ≠ some k → w3.heap[k]? = W.heap[k]? := fun k hk hv => g1.block k hk fun e => hv e.symm
      have hWi : w.heap.size < W.heap.size := by have := HSZ.out; omega
      have hWo : w1.heap.size < W.heap.size := by have := HSZ.out; omega
      have q1 : (w3.setCell ⟨w1.heap.size, 0, none⟩ (.slice az nz cz)).cell? ⟨w.heap.size, 0, none⟩ = some (.int .i64 (j : Nat)) := by
        rw [World.cell?_of_block (w := W) (by show (w3.setCell ⟨w1.heap.size, 0, none⟩ (.slice az nz cz)).heap[w.heap.size]? = _; rw [set_ne _ (by omega)]; exact hblk _ hWi HNE.out.2)]
        exact HC.out.1
      have q2 : (w3.setCell ⟨w1.heap.size, 0, none⟩ (.slice az nz cz)).frozen? ⟨w.heap.size, 0, none⟩ = false := by
        rw [World.frozen?_of_block (w := W) (by show (w3.setCell ⟨w1.heap.size, 0, none⟩ (.slice az nz cz)).heap[w.heap.size]? = _; rw [set_ne _ (by omega)]; exact hblk _ hWi HNE.out.2)]
        exact HC.out.2.1
      have q3 : w3.cell? ⟨w1.heap.size, 0, none⟩ = some v := by
        rw [World.cell?_of_block (w := W) (hblk _ hWo HNE.out.1)]; exact HC.out.2.2.1
      have q4 : w3.frozen? ⟨w1.heap.size, 0, none⟩ = false := by
        rw [World.frozen?_of_block (w := W) (hblk _ hWo HNE.out.1)]; exact HC.out.2.2.2
      have HQ := Lib.hid (And.intro q3 (And.intro q4 (And.intro g2 (And.intro hsz3 (And.intro hblk (And.intro g1 (And.intro hWi hWo)))))))
      clear hw2 HG hF hFC hF0 hFC0 k0c k1c q3 q4 g2 hsz3 hblk g1 hWi hWo
      gi_wp2
      have hrowlt := fun bb e => (HQ.out.2.2.1.lt (b := bb) e).1
      have hbk : ∀ k, k < W.heap.size → v.ownBlock ≠ some k → k ≠ w.heap.size → k ≠ w1.heap.size → ((w3.setCell ⟨w1.heap.size, 0, none⟩ (.slice az nz cz)).setCell ⟨w.heap.size, 0, none⟩ (.int .i64 ((j2 : Nat) : Int))).heap[k]? = W.heap[k]? := fun k hk hv n1 n2 => by
        rw [set_ne _ n1, set_ne _ n2]; exact HQ.out.2.2.2.2.1 k hk hv
      refine ⟨⟨by simp; have := HQ.out.2.2.2.1; omega, fun k ob hB hk ho => ?_⟩, ⟨⟨?_, ?_⟩, ⟨(.slice az nz cz), ?_, ?_, ?_⟩, ?_⟩, ?_⟩
      · rw [hbk k (lt_of_block hk) (fun e => ?_) (by omega) (by omega)]
        · exact hk
        · rcases HB5.out.1.2 with ⟨h, _⟩ | ⟨g, cap, cur, h, _, hh, _⟩
          · rw [h] at e; simp [Value.ownBlock] at e
          · rw [h] at e
            simp only [Value.ownBlock, Option.some.injEq] at e
            subst e
            rw [hh] at hk
            cases hk
            cases ho
      · rw [HJ.out]
        exact World.cell?_setCell_same' _ _ _ (by rw [q1]; rfl)
      · rw [World.frozen?_setCell]; exact q2
      · rw [World.cell?_of_block (w := w3.setCell ⟨w1.heap.size, 0, none⟩ (.slice az nz cz)) (set_ne _ (by show w1.heap.size ≠ w.heap.size; omega))]
        exact World.cell?_setCell_same' _ _ _ (by rw [HQ.out.1]; rfl)
      · rw [World.frozen?_setCell, World.frozen?_setCell]; exact HQ.out.2.1
      · rw [List.map_append, show [((.slice (some ⟨b, o, none⟩) L.length c', L) : Lev)].map Prod.snd = [L] from rfl, HP.out, HSB.out]
        refine HQ.out.2.2.1.keep fun bb e => ?_
        have := hrowlt bb e
        rw [set_ne _ (by omega), set_ne _ (by omega)]
      · exact ((HX.out.2.1.grown HQ.out.2.2.2.2.2.1 HX.out.2.1.size (fun bb e => by have := (HB5.out.1.lt e).1; omega)).setCell (p := ⟨w1.heap.size, 0, none⟩) (by simp; omega) _).setCell (p := ⟨w.heap.size, 0, none⟩) (Nat.le_refl _) _
      · refine HX.out.1.keep (by simp; exact HQ.out.2.2.2.1) fun bb e => ?_
        simp only [Value.ownBlock, Option.some.injEq] at e
        subst e
        exact hbk b HB5.out.2.2.2.2 HB5.out.2.2.2.1 HB5.out.2.2.1 HB5.out.2.1
    · have hbi : ¬ ((besideN j : Nat) : Int) < (L.length : Int) := by omega
      have HSB := Lib.hid (show sibL L j = [] by rw [sibL, if_neg hbes])
      generalize besideN j = k0 at *
      have HB5 := Lib.hid h5
      clear hbes hx hvi hvo h5 h3 h4 hP
      gi_wp2
      refine ⟨(KeepsOthers.setCell _ _ _).from _, ⟨⟨?_, ?_⟩, ⟨v, ?_, ?_, ?_⟩, ?_⟩, ?_⟩
      · rw [HJ.out]
        exact World.cell?_setCell_same' _ _ _ (by rw [HC.out.1]; rfl)
      · rw [World.frozen?_setCell]; exact HC.out.2.1
      · rw [World.cell?_of_block (w := W) (set_ne _ (by show w1.heap.size ≠ w.heap.size; omega))]; exact HC.out.2.2.1
      · rw [World.frozen?_setCell]; exact HC.out.2.2.2
      · rw [List.map_append, show [((.slice a' L.length c', L) : Lev)].map Prod.snd = [L] from rfl, HP.out, HSB.out, List.append_nil]
        refine HB5.out.keep fun bb e => set_ne _ ?_
        have := (HB5.out.lt e).1
        omega
      · exact HX.out.2.1.setCell (p := ⟨w.heap.size, 0, none⟩) (Nat.le_refl _) _
      · exact Rd.put' HX.out.1 _ fun hl => (HX.out.2.2.1 hl).2
  case done =>
    rintro D xs W hD hS ⟨⟨h1, h2⟩, ⟨v, h3, h4, h5⟩, h6⟩ hK
    rw [hS, HLV.out] at h5
    gi_wp2
    refine ⟨by simp, .inl ⟨_, _, rfl, run_takeDeferred hK, ?_⟩⟩
    refine ⟨_, results_tmp2 rfl _ _ _, v, rfl, ?_, h6.trans (belowK_b (w := w) (Nat.le_refl _) W D _ _ (by have := HB.out.1.size; omega) hK rfl rfl)⟩
    refine (row_own (v, _) W _ (some D) h5 (grownBy_putObj' _ D (.deferred none)) (fun r e => by cases e; exact ⟨_, hK, rfl⟩)).down (by have := HB.out.1.size; omega)
theorem path_any (lv : Value) (l : List ByteArray) (i : Int) (w : World) (hr : Rd strE w lv l) (hl : l.length ≤ 100000000) :
    Calls Try.prog 11 #[lv, .int .i64 i] w fun e w' => ∃ v, e = .returned (.tuple #[v, .int .i64 (pathE l i)]) ∧ Row strE w' w.heap.size 9 v (pathV l i) ∧ Below w.heap.size w w' := by
  unfold pathE pathV
  by_cases h : wholeL l = true ∧ 0 ≤ i ∧ i < l.length
  · rw [if_pos h, if_pos h]
    have e : i = ((i.toNat : Nat) : Int) := by omega
    have := path_yes lv l i.toNat w hr hl h.1 (by omega)
    rw [← e] at this
    exact this
  · rw [if_neg h, if_neg h]
    refine (path_no lv l i w hr hl ?_).mono fun e w' ⟨h1, h2⟩ => ⟨_, h1, Row.nil _ _ _, h2⟩
    cases hw : wholeL l
    · exact .inl rfl
    · exact .inr (by by_cases h0 : i < 0; exact .inl h0; exact .inr (by rcases Int.lt_or_le i l.length with h2 | h2; exact absurd ⟨hw, by omega, h2⟩ h; exact h2))
end Go.Proofs.Ytophfeapmmfppaa
