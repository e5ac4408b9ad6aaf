/- Texts that the claim rests on, part 7: MerklePath, MerkleClimb, SeqBoth, Texts, MerkleUp. -/
import Derived.Deep.DeepCutAuto
import Derived.Test.YtdbabkkmdlkjaaaProg
import Derived.BigQuiet
import Derived.Test.YtdbabkkmdlkjaaaM6
/- Trees of hashes: a leaf's path. -/
namespace Ks
open Go Go.RowKit
set_option linter.unusedVariables false
def pathS : List (List ByteArray) → Nat → List ByteArray
  | [], _ => []
  | l :: ls, i => sibL l i ++ pathS ls (i / 2)
theorem pathS_snoc (ls : List (List ByteArray)) (l : List ByteArray) (i : Nat) : pathS (ls ++ [l]) i = pathS ls i ++ sibL l (i / 2 ^ ls.length) := by
  induction ls generalizing i with
  | nil => simp [pathS]
  | cons x ls ih =>
    show sibL x i ++ pathS (ls ++ [l]) (i / 2) = sibL x i ++ pathS ls (i / 2) ++ sibL l (i / 2 ^ (ls.length + 1))
    rw [ih, List.append_assoc, Nat.div_div_eq_div_mul, Nat.pow_succ, Nat.mul_comm]
theorem path_levels : ∀ (m : Nat) (l : List ByteArray) (i : Nat), i < l.length → l.length ≤ 2 ^ m → pathS (levelsL l) i = pathM m l i := by
  intro m
  induction m with
  | zero =>
    intro l i hi h
    rw [Nat.pow_zero] at h
    match l, hi, h with
    | [a], hi, _ =>
      obtain rfl : i = 0 := by simpa using hi
      rw [levels_low _ (by simp)]; rfl
  | succ m ih =>
    intro l i hi h
    by_cases h2 : 2 ≤ l.length
    · rw [levels_two l h2]
      show sibL l i ++ pathS (levelsL (aboveL l)) (i / 2) = sibL l i ++ pathM m (aboveL l) (i / 2)
      rw [ih _ _ (by rw [above_length]; omega) (by rw [above_length]; rw [Nat.pow_succ] at h; omega)]
    · match l, hi, h2 with
      | [a], hi, _ =>
        obtain rfl : i = 0 := by simpa using hi
        rw [levels_low _ (by simp), pathM_one]; rfl
      | a :: b :: l, _, h2 => simp at h2
theorem path_levels_eq (l : List ByteArray) (i : Nat) (hi : i < l.length) : pathS (levelsL l) i = pathL l i := by
  have h : l.length ≤ 2 ^ l.length := Nat.le_of_lt Nat.lt_two_pow_self
  rw [path_levels l.length l i hi h, pathM_eq l.length l l.length i rfl hi h]
theorem pathS_len (ls : List (List ByteArray)) (i : Nat) : (pathS ls i).length ≤ ls.length := by
  induction ls generalizing i with
  | nil => simp [pathS]
  | cons l ls ih =>
    have := ih (i / 2)
    have h2 : (sibL l i).length ≤ 1 := by unfold sibL; split <;> simp
    simp only [pathS, List.length_append, List.length_cons]
    omega
theorem levels_len : ∀ (m : Nat) (l : List ByteArray), l.length ≤ 2 ^ m → (levelsL l).length ≤ m + 1 := by
  intro m
  induction m with
  | zero =>
    intro l h
    rw [levels_low l (by rw [Nat.pow_zero] at h; omega)]; simp
  | succ m ih =>
    intro l h
    by_cases h2 : 2 ≤ l.length
    · rw [levels_two l h2]
      have := ih (aboveL l) (by rw [above_length]; rw [Nat.pow_succ] at h; omega)
      simp; omega
    · rw [levels_low l h2]; simp
theorem row_own {T : TypeId} {B : Nat} : Own (fun (x : Lev) W => Row strE W B T x.1 x.2) := by
  intro s W W' row hs hg hr
  refine Row.keep hs fun b e => hg.block b (hs.lt e).2 fun e2 => ?_
  obtain ⟨o, h1, h2⟩ := hr b e2.symm
  rcases hs.2 with ⟨h, _⟩ | ⟨g, cap, cur, h, _, hh, _⟩
  · rw [h] at e; simp [Value.ownBlock] at e
  · rw [h] at e
    simp only [Value.ownBlock, Option.some.injEq] at e
    subst e
    rw [hh] at h1
    cases h1
    cases h2
def downN (i k : Nat) : Nat := i / 2 ^ k
theorem down_zero (i : Nat) : downN i 0 = i := by simp [downN]
theorem down_succ (i k : Nat) : downN i (k + 1) = downN i k / 2 := by rw [downN, downN, Nat.div_div_eq_div_mul, Nat.pow_succ]
theorem tdivTwo (a : Nat) : ((a : Nat) : Int).tdiv 2 = ((a / 2 : Nat) : Int) := by rw [Int.tdiv_eq_ediv_of_nonneg (by omega)]; exact (Int.natCast_ediv _ _).symm
theorem xor_beside (j : Nat) : j ^^^ 1 = besideN j := by
  have h1 : (j ^^^ 1) / 2 = j / 2 := by rw [Nat.xor_div_two]; simp
  have h2 : (j ^^^ 1) % 2 = (j + 1) % 2 := by
    rcases Nat.mod_two_eq_zero_or_one j with h | h
    · have := (Nat.xor_mod_two_eq_one (a := j) (b := 1)).2 (by omega)
      omega
    · have h3 : ¬ (j ^^^ 1) % 2 = 1 := fun h4 => by
        have := (Nat.xor_mod_two_eq_one (a := j) (b := 1)).1 h4
        omega
      omega
  unfold besideN
  split <;> omega
theorem xor_one (j : Nat) (h : j < 1000000000) : bits .xor .i64 (j : Int) 1 = ((besideN j : Nat) : Int) := by
  have e : (2 : Nat) ^ 63 = 9223372036854775808 := by decide
  have := xor_i64 j 1 (by rw [e]; omega) (by rw [e]; omega)
  rw [xor_beside] at this
  exact this
def pathE (l : List ByteArray) (i : Int) : Int := if wholeL l = true ∧ 0 ≤ i ∧ i < l.length then 0 else 2
def pathV (l : List ByteArray) (i : Int) : List ByteArray := if wholeL l = true ∧ 0 ≤ i ∧ i < l.length then pathL l i.toNat else []
end Ks
namespace Go.Proofs.Ytdbabkkmdlkjaaa
open Go.RowKit Ks
set_option linter.unusedVariables false
attribute [local go_sem] Oper.semAt_some
theorem pathT : ElemT Try.prog 46 9 strE.k 16 := elemT_of Try.underlying46 Try.infoS rfl
set_option maxRecDepth 100000 in
set_option maxHeartbeats 2000000 in
theorem path_no (lv : Value) (l : List ByteArray) (i : Int) (w : World) (hr : Rd strE w lv l) (hl : l.length ≤ 100000000) (hno : wholeL l = false ∨ i < 0 ∨ l.length ≤ i) :
    Calls Try.prog 49 #[lv, .int .i64 i] w fun e w' => e = .returned (.tuple #[.slice none 0 0, .int .i64 2]) ∧ Below w.heap.size w w' := by
  obtain ⟨a, cap, rfl, -⟩ := hr.shape
  obtain ⟨W, hW⟩ : ∃ W, w.alloc (.cells #[.int .i64 i] 3) = W := ⟨_, rfl⟩
  have hb0 : Below w.heap.size w W := by rw [← hW]; exact alloc_below w _
  have hk : W.heap[w.heap.size]? = some (.cells #[.int .i64 i] 3 (0, 0)) := by rw [← hW]; exact alloc_new w _
  have HW := whole_any _ l W (hr.below hb0) (by omega)
  have HA := Lib.hid (And.intro hb0 hk)
  clear hb0 hk hr hl
  obtain ⟨b, hb⟩ : ∃ b, wholeL l = b := ⟨_, rfl⟩
  rw [hb] at HW hno
  have HW := Lib.hid HW
  clear hb
  refine (callsIn_wide (n := 5)).1 ?_
  refine callsIn_of_wp_marks Try.func49 rfl trivial ?_ rfl
  simp only [Try.ntmps49, List.size_toArray, List.length_cons, List.length_nil, Nat.reduceAdd, Nat.reduceSub, Array.replicate_succ, Array.replicate_zero, List.push_toArray, List.append_toArray, List.nil_append, List.cons_append]
  cases b
  · gi_wp2
    refine ⟨trivial, (callsIn_wide.2 HW.out).mono ?_⟩
    rintro e w1 ⟨rfl, hb⟩
    have HB := Lib.hid (HA.out.1.trans (hb.mono HA.out.1.size))
    clear hb hW
    gi_wp2
    exact ⟨_, results_tmp2 rfl _ _ _, rfl, HB.out⟩
  · have hno : i < 0 ∨ (l.length : Int) ≤ i := hno.elim (fun h => by cases h) id
    by_cases h0 : i < 0
    all_goals
      first | (have h0' : (l.length : Int) ≤ i := by omega) | skip
      gi_wp2
      refine ⟨trivial, (callsIn_wide.2 HW.out).mono ?_⟩
      rintro e w1 ⟨rfl, hb⟩
      have HB := Lib.hid (HA.out.1.trans (hb.mono HA.out.1.size))
      obtain ⟨c0, -⟩ := blk1 (blk_on hb HA.out.2)
      clear hb hW
      gi_wp2
      exact ⟨_, results_tmp2 rfl _ _ _, rfl, HB.out⟩
set_option maxRecDepth 100000 in
set_option maxHeartbeats 2000000 in
theorem path_yes (lv : Value) (l : List ByteArray) (i : Nat) (w : World) (hr : Rd strE w lv l) (hl : l.length ≤ 100000000) (hw : wholeL l = true) (hi : i < l.length) :
    Calls Try.prog 49 #[lv, .int .i64 (i : Nat)] w fun e w' => ∃ v, e = .returned (.tuple #[v, .int .i64 0]) ∧ Row strE w' w.heap.size 9 v (pathL l i) ∧ Below w.heap.size w w' := by
  obtain ⟨a, cap, rfl, -⟩ := hr.shape
  obtain ⟨W, hW⟩ : ∃ W, w.alloc (.cells #[.int .i64 (i : Nat)] 3) = W := ⟨_, rfl⟩
  have hb0 : Below w.heap.size w W := by rw [← hW]; exact alloc_below w _
  have hk : W.heap[w.heap.size]? = some (.cells #[.int .i64 (i : Nat)] 3 (0, 0)) := by rw [← hW]; exact alloc_new w _
  have HW := whole_any _ l W (hr.below hb0) (by omega)
  rw [hw] at HW
  have HW := Lib.hid HW
  have HS := Lib.hid (And.intro hr (And.intro hl hw))
  have HA := Lib.hid (And.intro hb0 hk)
  have h0 : ¬ (i : Int) < 0 := by omega
  have h1 : ¬ (l.length : Int) ≤ (i : Int) := by omega
  have HI := Lib.hid hi
  clear hr hl hw hb0 hk hi
  refine (callsIn_wide (n := 5)).1 ?_
  refine callsIn_of_wp_marks Try.func49 rfl trivial ?_ rfl
  simp only [Try.ntmps49, List.size_toArray, List.length_cons, List.length_nil, Nat.reduceAdd, Nat.reduceSub, Array.replicate_succ, Array.replicate_zero, List.push_toArray, List.append_toArray, List.nil_append, List.cons_append]
  gi_wp2
  refine ⟨trivial, (callsIn_wide.2 HW.out).mono ?_⟩
  rintro e w1 ⟨rfl, hb⟩
  have HB := Lib.hid (And.intro (HA.out.1.trans (hb.mono HA.out.1.size)) (blk_on hb HA.out.2))
  obtain ⟨c0, -⟩ := blk1 HB.out.2
  clear hb hW
  gi_wp2
  refine ⟨trivial, (callsIn_wide.2 (levels_any a l.length cap _)).mono ?_⟩
  rintro e w4 ⟨rfl, rfl⟩
  obtain ⟨V, hV⟩ : ∃ V, (w1.alloc (.cells #[.slice none 0 0] 46)).alloc (.cells #[.slice a l.length cap] 42) = V := ⟨_, rfl⟩
  have hVs : V.heap.size = w1.heap.size + 2 := by rw [← hV]; simp
  have k1 : V.heap[w1.heap.size]? = some (.cells #[.slice none 0 0] 46 (0, 0)) := by rw [← hV]; exact blk_on (alloc_below _ _) (alloc_new _ _)
  have k2 : V.heap[w1.heap.size + 1]? = some (.cells #[.slice a l.length cap] 42 (0, 0)) := by
    rw [← hV]
    have := alloc_new (w1.alloc (.cells #[.slice none 0 0] 46)) (.cells #[.slice a l.length cap] 42)
    rwa [World.size_alloc] at this
  have hbV : Below w1.heap.size w1 V := by rw [← hV]; exact (alloc_below w1 _).trans ((alloc_below _ _).mono (by simp))
  have HV := Lib.hid (And.intro (HB.out.1.trans (hbV.mono HB.out.1.size)) (And.intro (blk_on hbV HB.out.2) (And.intro k1 (And.intro k2 hVs))))
  have HLV := Lib.hid (path_levels_eq l i HI.out)
  have HLL := Lib.hid (levels_len 27 l (Nat.le_trans HS.out.2.1 (by decide)))
  have hwlt : w.heap.size < w1.heap.size := lt_of_block HB.out.2
  clear k1 k2 hbV
  gi_wp2
  have hI : OwnFrom V.heap.size (fun (pre : List Lev) W => (W.cell? ⟨w.heap.size, 0, none⟩ = some (.int .i64 ((downN i pre.length : Nat) : Int)) ∧ W.frozen? ⟨w.heap.size, 0, none⟩ = false) ∧ (∃ v, W.cell? ⟨w1.heap.size, 0, none⟩ = some v ∧ W.frozen? ⟨w1.heap.size, 0, none⟩ = false ∧ Row strE W (w1.heap.size + 2) 9 v (pathS (pre.map Prod.snd) i)) ∧ Below w.heap.size w W) := by
    rintro pre A B row ⟨⟨h1, h2⟩, ⟨v, h3, h4, h5⟩, h6⟩ hg hr
    have hr' := fun r e => (hr r e).2
    exact ⟨⟨cell_kept h1 hg hr', (frozen_kept h1 hg hr').trans h2⟩, ⟨v, cell_kept h3 hg hr', (frozen_kept h3 hg hr').trans h4, row_own (v, _) A B row h5 hg hr'⟩, h6.grown hg h6.size (fun k e => by have := (hr k e).1; omega)⟩
  have hM : OwnFrom V.heap.size (fun (s : List Lev × Lev) W => (((W.cell? ⟨w.heap.size, 0, none⟩ = some (.int .i64 ((downN i s.1.length : Nat) : Int)) ∧ W.frozen? ⟨w.heap.size, 0, none⟩ = false) ∧ (∃ v, W.cell? ⟨w1.heap.size, 0, none⟩ = some v ∧ W.frozen? ⟨w1.heap.size, 0, none⟩ = false ∧ Row strE W (w1.heap.size + 2) 9 v (pathS (s.1.map Prod.snd) i) ∧ (s.2.2 ≠ [] → ∀ b, v.ownBlock = some b → s.2.1.ownBlock ≠ some b)) ∧ Below w.heap.size w W) ∧ levX s.2 W) ∧ (s.2.2 ≠ [] → s.2.1.ownBlock ≠ some w1.heap.size ∧ s.2.1.ownBlock ≠ some w.heap.size) ∧ s.1.length ≤ 40) := by
    rintro ⟨pre, x⟩ A B row ⟨⟨⟨⟨h1, h2⟩, ⟨v, h3, h4, h5, h5'⟩, h6⟩, h7⟩, h8⟩ hg hr
    have hr' := fun r e => (hr r e).2
    exact ⟨⟨⟨⟨cell_kept h1 hg hr', (frozen_kept h1 hg hr').trans h2⟩, ⟨v, cell_kept h3 hg hr', (frozen_kept h3 hg hr').trans h4, row_own (v, _) A B row h5 hg hr', h5'⟩, h6.grown hg h6.size (fun k e => by have := (hr k e).1; omega)⟩, rd_own x A B row h7 hg hr'⟩, h8⟩
  refine wpIn_range_seen (α := Lev) rfl (by omega) (gf := 77) (lb := #[.pointer (some ⟨w1.heap.size + 1, 0, none⟩)]) rfl trivial (enters_of Try.func77 (by kernel_rfl) rfl)
    (levels_seen _ (w1.heap.size + 1) _ l _ (by omega) (blk1 HV.out.2.2.2.1).1 (HS.out.1.below HV.out.1) HS.out.2.2 HS.out.2.1) (fun _ => rfl)
    (fun pre W => (W.cell? ⟨w.heap.size, 0, none⟩ = some (.int .i64 ((downN i pre.length : Nat) : Int)) ∧ W.frozen? ⟨w.heap.size, 0, none⟩ = false) ∧ (∃ v, W.cell? ⟨w1.heap.size, 0, none⟩ = some v ∧ W.frozen? ⟨w1.heap.size, 0, none⟩ = false ∧ Row strE W (w1.heap.size + 2) 9 v (pathS (pre.map Prod.snd) i)) ∧ Below w.heap.size w W)
    (fun pre x W => (((W.cell? ⟨w.heap.size, 0, none⟩ = some (.int .i64 ((downN i pre.length : Nat) : Int)) ∧ W.frozen? ⟨w.heap.size, 0, none⟩ = false) ∧ (∃ v, W.cell? ⟨w1.heap.size, 0, none⟩ = some v ∧ W.frozen? ⟨w1.heap.size, 0, none⟩ = false ∧ Row strE W (w1.heap.size + 2) 9 v (pathS (pre.map Prod.snd) i) ∧ (x.2 ≠ [] → ∀ b, v.ownBlock = some b → x.1.ownBlock ≠ some b)) ∧ Below w.heap.size w W) ∧ levX x W) ∧ (x.2 ≠ [] → x.1.ownBlock ≠ some w1.heap.size ∧ x.1.ownBlock ≠ some w.heap.size) ∧ pre.length ≤ 40)
    hI hM
    (Own.from rd_own _)
    ?hIB ?hIM ?h0
    (fun x => { tmps := #[.slice a l.length cap, .int .i64 (i : Nat), undef, .pointer (some ⟨w.heap.size, 0, none⟩), .slice none 0 0, .int .i64 0, .pointer (some ⟨w1.heap.size, 0, none⟩), x.1, undef, .slice a l.length cap, .bool true, .bool false, .bool false, .int .i64 (i : Nat), .bool (decide ((i : Int) < 0)), .bool (decide ((i : Int) < 0)), .bool (decide ((i : Int) < 0)), .int .i64 (i : Nat), .slice a l.length cap, .int .i64 (l.length : Nat), .bool false, .bool (decide ((i : Int) < 0)), .slice a l.length cap, .func (.func 77) #[] #[.pointer (some ⟨w1.heap.size + 1, 0, none⟩)], x.1, undef, undef, undef, undef, undef, undef, undef, undef, undef, undef, undef, undef, undef, undef, undef, undef], defers := [] }) ?assign ?body ?done
  case hIB =>
    rintro pre A B ⟨⟨h1, h2⟩, ⟨v, h3, h4, h5⟩, h6⟩ hA hb
    rw [hVs] at hA
    exact ⟨⟨(hb.cell (p := ⟨w.heap.size, 0, none⟩) (by simp; omega)).trans h1, (hb.frozen (p := ⟨w.heap.size, 0, none⟩) (by simp; omega)).trans h2⟩, ⟨v, (hb.cell (p := ⟨w1.heap.size, 0, none⟩) (by simp; omega)).trans h3, (hb.frozen (p := ⟨w1.heap.size, 0, none⟩) (by simp; omega)).trans h4, h5.below hb⟩, h6.trans (hb.mono h6.size)⟩
  case hIM =>
    rintro pre x A B ⟨⟨h1, h2⟩, ⟨v, h3, h4, h5⟩, h6⟩ hA hb hn
    rw [hVs] at hA
    refine ⟨⟨⟨⟨(hb.cell (p := ⟨w.heap.size, 0, none⟩) (by simp; omega)).trans h1, (hb.frozen (p := ⟨w.heap.size, 0, none⟩) (by simp; omega)).trans h2⟩, ⟨v, (hb.cell (p := ⟨w1.heap.size, 0, none⟩) (by simp; omega)).trans h3, (hb.frozen (p := ⟨w1.heap.size, 0, none⟩) (by simp; omega)).trans h4, h5.below hb, fun _ b e e2 => ?_⟩, h6.trans (hb.mono h6.size)⟩, hn.1.rd⟩, fun _ => ⟨fun e => ?_, fun e => ?_⟩, ?_⟩
    · have := (hn.1.lt e2).1
      have := (h5.lt e).2
      omega
    · have := (hn.1.lt e).1
      omega
    · have := (hn.1.lt e).1
      omega
    · obtain ⟨t, ht⟩ := hn.2
      have h9 := congrArg List.length ht
      have h10 := HLL.out
      simp only [List.length_append, List.length_map, List.length_cons] at h9
      omega
  case h0 =>
    intro A hb
    have hbA := HV.out.1.trans (hb.mono HV.out.1.size)
    refine ⟨⟨⟨⟨by rw [List.length_nil, down_zero]; exact (blk1 (blk_on hb HV.out.2.1)).1, (blk1 (blk_on hb HV.out.2.1)).2⟩, ⟨_, (blk1 (blk_on hb HV.out.2.2.1)).1, (blk1 (blk_on hb HV.out.2.2.1)).2, Row.nil _ _ _, fun _ b e => by simp [Value.ownBlock] at e⟩, hbA⟩, HS.out.1.below hbA⟩, fun hl => ⟨HS.out.1.low HB.out.1.size hl, HS.out.1.low (Nat.le_refl _) hl⟩, by simp⟩
  case assign =>
    intro lp x W K hK
    gi_wp2
    exact hK
  case body =>
    rintro lp pre ⟨xv, L⟩ W hsz ⟨⟨⟨⟨h1, h2⟩, ⟨v, h3, h4, h5, h6⟩, h7⟩, hx⟩, hne, hlen⟩
    rw [hVs] at hsz
    change Rd strE W xv L at hx
    obtain ⟨a', c', rfl, -⟩ := hx.shape
    obtain ⟨j, hj⟩ : ∃ j, downN i pre.length = j := ⟨_, rfl⟩
    have HP := Lib.hid (pathS_snoc (pre.map Prod.snd) L i)
    have hjb : j < 1000000000 := by
      rw [← hj, downN]
      have := Nat.div_le_self i (2 ^ pre.length)
      have := HI.out
      have := HS.out.2.1
      omega
    have HJ := Lib.hid (show downN i (pre ++ [((.slice a' L.length c', L) : Lev)]).length = j / 2 by rw [List.length_append, List.length_singleton, down_succ, hj])
    rw [List.length_map, show i / 2 ^ pre.length = j from hj] at HP
    rw [hj] at h1
    have hxor := xor_one j hjb
    obtain ⟨j2, hj2⟩ : ∃ j2, j / 2 = j2 := ⟨_, rfl⟩
    rw [hj2] at HJ
    have hdv : wrap64 ((j : Int) / 2) = ((j2 : Nat) : Int) := by rw [wrap64, ← hj2]; omega
    clear hj2
    have HX := Lib.hid (And.intro hx (And.intro h7 (And.intro hne (And.intro h5 h6))))
    have HC := Lib.hid (And.intro h1 (And.intro h2 (And.intro h3 h4)))
    have HSZ := Lib.hid hsz
    have hvo : v.ownBlock ≠ some w1.heap.size := fun e => by have := (h5.lt e).1; omega
    have hvi : v.ownBlock ≠ some w.heap.size := fun e => by have := (h5.lt e).1; omega
    have HNE := Lib.hid (And.intro hvo hvi)
    have hPL := (show (pathS (pre.map Prod.snd) i).length ≤ 1000000 by have := pathS_len (pre.map Prod.snd) i; rw [List.length_map] at this; change pre.length ≤ 40 at hlen; omega)
    obtain ⟨P, hP⟩ : ∃ P, pathS (pre.map Prod.snd) i = P := ⟨_, rfl⟩
    rw [hP] at h5 HP hPL
    have hPL := Lib.hid hPL
    clear hj hjb h6 h7 hne hsz hlen
    by_cases hbes : besideN j < L.length
    · have hbi : ((besideN j : Nat) : Int) < (L.length : Int) := by omega
      obtain ⟨b, o, rfl, hbW, c1⟩ := hx.str _ hbes
      have HSB := Lib.hid (show sibL L j = [L[besideN j]] by rw [sibL, if_pos hbes, List.getD_eq_getElem?_getD, List.getElem?_eq_getElem hbes]; rfl)
      have hL : L ≠ [] := fun e => by subst e; simp at hbes
      have hbo : b ≠ w1.heap.size := fun e => by have := (HX.out.2.2.1 hL).1; rw [e] at this; exact this rfl
      have hbi2 : b ≠ w.heap.size := fun e => by have := (HX.out.2.2.1 hL).2; rw [e] at this; exact this rfl
      have hbv : v.ownBlock ≠ some b := fun e => by have := HX.out.2.2.2.2 hL b e; exact this rfl
      generalize besideN j = k0 at *
      generalize L[k0] = y at *
      have HB5 := Lib.hid (And.intro h5 (And.intro hbo (And.intro hbi2 (And.intro hbv hbW))))
      have HT := Lib.hid (And.intro hL hbes)
      clear hL hbes hx hvi hP
      gi_wp2
      refine wpIn_region_mv (fun f => AppStore strE (w1.heap.size + 2) W 9 v P [y] w1.heap.size (f 0) (f 5) (f 6) (f 7)) (by kernel_rfl) (by kernel_rfl) (AppStore.start h5 (drew_below W)) ?_
      obtain ⟨S, F, hF, hFC⟩ := moved_class (fun f => AppStore strE (w1.heap.size + 2) W 9 v P [y] w1.heap.size (f 0) (f 5) (f 6) (f 7))
      obtain ⟨S0, F0, hF0, hFC0⟩ := moved_classN (fun f => AppStore strE (w1.heap.size + 2) W 9 v P [y] w1.heap.size (f 0) (f 5) (f 6) (f 7)) 0
      have k0c : ∀ s, (F s).cell? ⟨b, o + k0, none⟩ = some (.string y) := fun s => (hFC s).choose_spec.cell c1 hbv hbo
      have k1c : ∀ s, (F0 s).cell? ⟨w1.heap.size, 0, none⟩ = some v := fun s => by
        have h := (hFC0 s).choose_spec
        have h2 := h.2
        simp only [h.1] at h2
        exact h2.box HC.out.2.2.1 hvo
      clear h5 c1 h1 h3 h4
      show wpAnyM _ _ _ _ _ 8 (Array.replicate 8 false) _ _
      refine mv_readN 0 hF0 (fun f w v _ h => h.read v) rfl (by kernel_rfl) (by kernel_rfl) (by kernel_rfl) (fun K hK => ?_)
      go_simp
      first | refine ⟨_, fun _ => rfl, hK _ _ ?_⟩ | refine hK _ _ ?_
      clear hK K
      refine mv_read 1 hF (fun _ _ _ h => h) rfl (by kernel_rfl) (by kernel_rfl) (by kernel_rfl) (fun K hK => ?_)
      go_simp
      first | refine ⟨_, fun _ => rfl, hK _ _ ?_⟩ | refine hK _ _ ?_
      clear hK K
      refine mv_read 2 hF (fun _ _ _ h => h) rfl (by kernel_rfl) (by kernel_rfl) (by kernel_rfl) (fun K hK => ?_)
      go_simp
      first | refine ⟨_, fun _ => rfl, hK _ _ ?_⟩ | refine hK _ _ ?_
      clear hK K
      refine mv_read 3 hF (fun _ _ _ h => h) rfl (by kernel_rfl) (by kernel_rfl) (by kernel_rfl) (fun K hK => ?_)
      go_simp
      first | refine ⟨_, fun _ => rfl, hK _ _ ?_⟩ | refine hK _ _ ?_
      clear hK K
      refine mv_read 4 hF (fun _ _ _ h => h) rfl (by kernel_rfl) (by kernel_rfl) (by kernel_rfl) (fun K hK => ?_)
      go_simp
      first | refine ⟨_, fun _ => rfl, hK _ _ ?_⟩ | refine hK _ _ ?_
      clear hK K
      refine mv_alone 5 rfl (by kernel_rfl) rfl (fun v => ∃ g, v = .slice (some ⟨g, 0, none⟩) 1 1) (fun g w _ h0 h D hD => ?_) ?_
      · have h9 := h
        simp only [h0] at h9
        have h8 := h9.made #[.string y] rfl
        clear h h9
        go_simp
        exact hD _ _ ⟨_, rfl⟩ h8
      rintro _ ⟨gs, rfl⟩
      refine mv_append 6 rfl (by kernel_rfl) rfl (.tmp 31) (.tmp 36) 46 rfl pathT (w1.heap.size + 2) _ _ P [y] rfl rfl (by have := hPL.out; simp; omega) (by decide) (fun g w ha h0 h => ?_) (fun v' => ∃ a n c, v' = .slice a n c) (fun g w v' w' ha h0 h hG => ?_) ?_
      · have e1 : g 5 = some (.slice (some ⟨gs, 0, none⟩) 1 1) := (agree_on 5 ha (by kernel_rfl)).trans rfl
        simp only [e1, h0] at h
        exact h.rows (by have := HSZ.out; omega)
      · have e1 : g 5 = some (.slice (some ⟨gs, 0, none⟩) 1 1) := (agree_on 5 ha (by kernel_rfl)).trans rfl
        have e2 : g 0 = some v := (agree_on 0 ha (by kernel_rfl)).trans rfl
        simp only [e1, e2, h0] at h
        obtain ⟨a9, c9, e9, -⟩ := hG.1.shape
        refine ⟨⟨_, _, _, e9⟩, ?_⟩
        show AppStore _ _ _ _ _ _ _ _ (g 0) (g 5) _ _ _
        rw [e1, e2]
        exact h.grew hG
      rintro _ ⟨az, nz, cz, rfl⟩
      refine mv_alone 7 rfl (by kernel_rfl) rfl (fun _ => True) (fun g w ha h0 h D hD => ?_) ?_
      · have e1 : g 6 = some (.slice az nz cz) := (agree_on 6 ha (by kernel_rfl)).trans rfl
        simp only [e1, h0] at h
        have q1 := h.1.cell HC.out.2.2.1 hvo
        have q2 := h.1.frozen HC.out.2.2.1 HC.out.2.2.2 hvo
        have hD2 := hD undef (w.setCell ⟨w1.heap.size, 0, none⟩ (.slice az nz cz)) trivial (by show AppStore _ _ _ _ _ _ _ _ (g 0) (g 5) (g 6) _ _; rw [e1]; exact h.stored)
        clear hD h
        go_simp
        exact hD2
      rintro vs -
      refine mv_end (by kernel_rfl) ?_
      intro w2 hw2
      have HG : AppStore strE (w1.heap.size + 2) W 9 v P [y] w1.heap.size (some v) (some (.slice (some ⟨gs, 0, none⟩) 1 1)) (some (.slice az nz cz)) (some vs) w2 := hw2
      obtain ⟨w3, g1, g2, rfl⟩ := HG.done
      have hsz3 := g1.size
      have hblk : ∀ k, k < W.heap.size → v.ownBlock ≠ some k → w3.heap[k]? = W.heap[k]? := fun k hk hv => g1.block k hk fun e => hv e.symm
      have hWi : w.heap.size < W.heap.size := by have := HSZ.out; omega
      have hWo : w1.heap.size < W.heap.size := by have := HSZ.out; omega
      have q1 : (w3.setCell ⟨w1.heap.size, 0, none⟩ (.slice az nz cz)).cell? ⟨w.heap.size, 0, none⟩ = some (.int .i64 (j : Nat)) := by
        rw [World.cell?_of_block (w := W) (by show (w3.setCell ⟨w1.heap.size, 0, none⟩ (.slice az nz cz)).heap[w.heap.size]? = _; rw [set_ne _ (by omega)]; exact hblk _ hWi HNE.out.2)]
        exact HC.out.1
      have q2 : (w3.setCell ⟨w1.heap.size, 0, none⟩ (.slice az nz cz)).frozen? ⟨w.heap.size, 0, none⟩ = false := by
        rw [World.frozen?_of_block (w := W) (by show (w3.setCell ⟨w1.heap.size, 0, none⟩ (.slice az nz cz)).heap[w.heap.size]? = _; rw [set_ne _ (by omega)]; exact hblk _ hWi HNE.out.2)]
        exact HC.out.2.1
      have q3 : w3.cell? ⟨w1.heap.size, 0, none⟩ = some v := by
        rw [World.cell?_of_block (w := W) (hblk _ hWo HNE.out.1)]; exact HC.out.2.2.1
      have q4 : w3.frozen? ⟨w1.heap.size, 0, none⟩ = false := by
        rw [World.frozen?_of_block (w := W) (hblk _ hWo HNE.out.1)]; exact HC.out.2.2.2
      have HQ := Lib.hid (And.intro q3 (And.intro q4 (And.intro g2 (And.intro hsz3 (And.intro hblk (And.intro g1 (And.intro hWi hWo)))))))
      clear hw2 HG hF hFC hF0 hFC0 k0c k1c q3 q4 g2 hsz3 hblk g1 hWi hWo
      gi_wp2
      have hrowlt := fun bb e => (HQ.out.2.2.1.lt (b := bb) e).1
      have hbk : ∀ k, k < W.heap.size → v.ownBlock ≠ some k → k ≠ w.heap.size → k ≠ w1.heap.size → ((w3.setCell ⟨w1.heap.size, 0, none⟩ (.slice az nz cz)).setCell ⟨w.heap.size, 0, none⟩ (.int .i64 ((j2 : Nat) : Int))).heap[k]? = W.heap[k]? := fun k hk hv n1 n2 => by
        rw [set_ne _ n1, set_ne _ n2]; exact HQ.out.2.2.2.2.1 k hk hv
      refine ⟨⟨by simp; have := HQ.out.2.2.2.1; omega, fun k ob hB hk ho => ?_⟩, ⟨⟨?_, ?_⟩, ⟨(.slice az nz cz), ?_, ?_, ?_⟩, ?_⟩, ?_⟩
      · rw [hbk k (lt_of_block hk) (fun e => ?_) (by omega) (by omega)]
        · exact hk
        · rcases HB5.out.1.2 with ⟨h, _⟩ | ⟨g, cap, cur, h, _, hh, _⟩
          · rw [h] at e; simp [Value.ownBlock] at e
          · rw [h] at e
            simp only [Value.ownBlock, Option.some.injEq] at e
            subst e
            rw [hh] at hk
            cases hk
            cases ho
      · rw [HJ.out]
        exact World.cell?_setCell_same' _ _ _ (by rw [q1]; rfl)
      · rw [World.frozen?_setCell]; exact q2
      · rw [World.cell?_of_block (w := w3.setCell ⟨w1.heap.size, 0, none⟩ (.slice az nz cz)) (set_ne _ (by show w1.heap.size ≠ w.heap.size; omega))]
        exact World.cell?_setCell_same' _ _ _ (by rw [HQ.out.1]; rfl)
      · rw [World.frozen?_setCell, World.frozen?_setCell]; exact HQ.out.2.1
      · rw [List.map_append, show [((.slice (some ⟨b, o, none⟩) L.length c', L) : Lev)].map Prod.snd = [L] from rfl, HP.out, HSB.out]
        refine HQ.out.2.2.1.keep fun bb e => ?_
        have := hrowlt bb e
        rw [set_ne _ (by omega), set_ne _ (by omega)]
      · exact ((HX.out.2.1.grown HQ.out.2.2.2.2.2.1 HX.out.2.1.size (fun bb e => by have := (HB5.out.1.lt e).1; omega)).setCell (p := ⟨w1.heap.size, 0, none⟩) (by simp; omega) _).setCell (p := ⟨w.heap.size, 0, none⟩) (Nat.le_refl _) _
      · refine HX.out.1.keep (by simp; exact HQ.out.2.2.2.1) fun bb e => ?_
        simp only [Value.ownBlock, Option.some.injEq] at e
        subst e
        exact hbk b HB5.out.2.2.2.2 HB5.out.2.2.2.1 HB5.out.2.2.1 HB5.out.2.1
    · have hbi : ¬ ((besideN j : Nat) : Int) < (L.length : Int) := by omega
      have HSB := Lib.hid (show sibL L j = [] by rw [sibL, if_neg hbes])
      generalize besideN j = k0 at *
      have HB5 := Lib.hid h5
      clear hbes hx hvi hvo h5 h3 h4 hP
      gi_wp2
      refine ⟨(KeepsOthers.setCell _ _ _).from _, ⟨⟨?_, ?_⟩, ⟨v, ?_, ?_, ?_⟩, ?_⟩, ?_⟩
      · rw [HJ.out]
        exact World.cell?_setCell_same' _ _ _ (by rw [HC.out.1]; rfl)
      · rw [World.frozen?_setCell]; exact HC.out.2.1
      · rw [World.cell?_of_block (w := W) (set_ne _ (by show w1.heap.size ≠ w.heap.size; omega))]; exact HC.out.2.2.1
      · rw [World.frozen?_setCell]; exact HC.out.2.2.2
      · rw [List.map_append, show [((.slice a' L.length c', L) : Lev)].map Prod.snd = [L] from rfl, HP.out, HSB.out, List.append_nil]
        refine HB5.out.keep fun bb e => set_ne _ ?_
        have := (HB5.out.lt e).1
        omega
      · exact HX.out.2.1.setCell (p := ⟨w.heap.size, 0, none⟩) (Nat.le_refl _) _
      · exact Rd.put' HX.out.1 _ fun hl => (HX.out.2.2.1 hl).2
  case done =>
    rintro D xs W hD hS ⟨⟨h1, h2⟩, ⟨v, h3, h4, h5⟩, h6⟩ hK
    rw [hS, HLV.out] at h5
    gi_wp2
    refine ⟨by simp, .inl ⟨_, _, rfl, run_takeDeferred hK, ?_⟩⟩
    refine ⟨_, results_tmp2 rfl _ _ _, v, rfl, ?_, h6.trans (belowK_b (w := w) (Nat.le_refl _) W D _ _ (by have := HB.out.1.size; omega) hK rfl rfl)⟩
    refine (row_own (v, _) W _ (some D) h5 (grownBy_putObj' _ D (.deferred none)) (fun r e => by cases e; exact ⟨_, hK, rfl⟩)).down (by have := HB.out.1.size; omega)
theorem path_any (lv : Value) (l : List ByteArray) (i : Int) (w : World) (hr : Rd strE w lv l) (hl : l.length ≤ 100000000) :
    Calls Try.prog 49 #[lv, .int .i64 i] w fun e w' => ∃ v, e = .returned (.tuple #[v, .int .i64 (pathE l i)]) ∧ Row strE w' w.heap.size 9 v (pathV l i) ∧ Below w.heap.size w w' := by
  unfold pathE pathV
  by_cases h : wholeL l = true ∧ 0 ≤ i ∧ i < l.length
  · rw [if_pos h, if_pos h]
    have e : i = ((i.toNat : Nat) : Int) := by omega
    have := path_yes lv l i.toNat w hr hl h.1 (by omega)
    rw [← e] at this
    exact this
  · rw [if_neg h, if_neg h]
    refine (path_no lv l i w hr hl ?_).mono fun e w' ⟨h1, h2⟩ => ⟨_, h1, Row.nil _ _ _, h2⟩
    cases hw : wholeL l
    · exact .inl rfl
    · exact .inr (by by_cases h0 : i < 0; exact .inl h0; exact .inr (by rcases Int.lt_or_le i l.length with h2 | h2; exact absurd ⟨hw, by omega, h2⟩ h; exact h2))
end Go.Proofs.Ytdbabkkmdlkjaaa
/- Trees of hashes: the steps up from a leaf. -/
namespace Ks
open Go Go.RowKit
set_option linter.unusedVariables false
def stepE : Enc StepG := ⟨4, fun s => [.int .i64 (s.i : Nat), .int .i64 (s.n : Nat), .string s.a, .string s.b], fun _ => rfl, fun x u hu => by simp only [List.mem_cons, List.not_mem_nil, or_false] at hu; rcases hu with rfl | rfl | rfl | rfl <;> rfl, by decide⟩
/-- so far, and what is left to be done -/
def Climbs (m n i : Nat) (x : ByteArray) (ps : List ByteArray) (mm nk ik : Nat) (xk : ByteArray) (pk : List ByteArray) (out : List StepG) : Prop :=
  climbO m n i x ps = (climbO mm nk ik xk pk).map fun r => (out ++ r.1, r.2)
theorem Climbs.start (m n i : Nat) (x : ByteArray) (ps : List ByteArray) : Climbs m n i x ps m n i x ps [] := by
  unfold Climbs
  cases climbO m n i x ps <;> rfl
section
variable {m n i mm nk ik : Nat} {x xk p : ByteArray} {ps pk : List ByteArray} {out : List StepG} {s : Bool}
theorem Climbs.goN (h : Climbs m n i x ps (mm + 1) nk ik xk pk out) (h1 : ¬ nk ≤ 1) (hd : dirN nk ik = none) : Climbs m n i x ps mm ((nk + 1) / 2) (ik / 2) xk pk (out ++ [⟨ik, nk, ⟨#[]⟩, ⟨#[]⟩⟩]) := by
  unfold Climbs at *
  rw [h, climb_none h1 hd]
  cases climbO mm ((nk + 1) / 2) (ik / 2) xk pk with
  | none => rfl
  | some r => simp
theorem Climbs.goS (h : Climbs m n i x ps (mm + 1) nk ik xk (p :: pk) out) (h1 : ¬ nk ≤ 1) (hd : dirN nk ik = some s) : Climbs m n i x ps mm ((nk + 1) / 2) (ik / 2) (nodeS (pairS s xk p).1 (pairS s xk p).2) pk (out ++ [⟨ik, nk, (pairS s xk p).1, (pairS s xk p).2⟩]) := by
  unfold Climbs at *
  rw [h, climb_some h1 hd]
  cases climbO mm ((nk + 1) / 2) (ik / 2) (nodeS (pairS s xk p).1 (pairS s xk p).2) pk with
  | none => rfl
  | some r => simp
theorem Climbs.stop (h : Climbs m n i x ps (mm + 1) nk ik xk [] out) (h1 : ¬ nk ≤ 1) (hd : dirN nk ik = some s) : climbO m n i x ps = none := by
  unfold Climbs at *
  rw [h, climb_nil h1 hd]; rfl
theorem Climbs.done (h : Climbs m n i x ps mm nk ik xk pk out) (h1 : nk ≤ 1) : climbO m n i x ps = some (out, xk, pk) := by
  unfold Climbs at *
  rw [h]
  cases mm with
  | zero => simp [climbO]
  | succ mm => rw [climb_low h1]; simp
end
theorem Grew.rd' {α β : Type} {E : Enc α} {E' : Enc β} {w w' : World} {B : Nat} {e : TypeId} {v v' u : Value} {l : List α} {m : List β} (h : Grew E w w' B e v v' l) (hr : Rd E' w u m) (hv : m ≠ [] → ∀ b, u.ownBlock = some b → v.ownBlock ≠ some b) : Rd E' w' u m := by
  cases m with
  | nil => exact hr.empty w'
  | cons x m => exact h.rd hr (hv (by simp))
theorem blk4 {w : World} {b : Nat} {c0 c1 c2 c3 : Value} {T : TypeId} (h : w.heap[b]? = some (.cells #[c0, c1, c2, c3] T (0, 0))) : w.cell? ⟨b, 0, none⟩ = some c0 ∧ w.cell? ⟨b, 1, none⟩ = some c1 ∧ w.cell? ⟨b, 2, none⟩ = some c2 ∧ w.cell? ⟨b, 3, none⟩ = some c3 ∧ w.frozen? ⟨b, 2, none⟩ = false ∧ w.frozen? ⟨b, 3, none⟩ = false := by
  refine ⟨?_, ?_, ?_, ?_, frozen_of_row w b 2 _ _ h, frozen_of_row w b 3 _ _ h⟩
  all_goals (rw [cell_of_row w b _ _ _ _ h]; rfl)
theorem wrap_half (k j : Nat) (h : k / 2 = j) (hb : k ≤ 1000000000) : wrap64 ((k : Int) / 2) = ((j : Nat) : Int) := by
  have e : (k : Int) / 2 = ((j : Nat) : Int) := by omega
  rw [e, wrap64]; omega
theorem wrap_half1 (k j : Nat) (h : (k + 1) / 2 = j) (hb : k ≤ 1000000000) : wrap64 (((k : Int) + 1) / 2) = ((j : Nat) : Int) := by
  have e : ((k : Int) + 1) / 2 = ((j : Nat) : Int) := by omega
  rw [e, wrap64]; omega
theorem dir_none {n i : Nat} (h : ¬ besideN i < n) : dirN n i = none := by rw [dirN, if_neg h]
theorem dir_left {n i : Nat} (h : besideN i < n) (h2 : ¬ besideN i < i) : dirN n i = some true := by
  rw [dirN, if_pos h]
  have : i % 2 = 0 := by
    unfold besideN at h2
    split at h2 <;> omega
  rw [decide_eq_true this]
theorem dir_right {n i : Nat} (h : besideN i < n) (h2 : besideN i < i) : dirN n i = some false := by
  rw [dirN, if_pos h]
  have : ¬ i % 2 = 0 := by
    unfold besideN at h2
    split at h2 <;> omega
  rw [decide_eq_false this]
end Ks
namespace Go.Proofs.Ytdbabkkmdlkjaaa
open Go.RowKit Ks
set_option linter.unusedVariables false
theorem Try.infoStep : (Try.prog.info? 157).map (fun i => (i.zero, i.size, i.bytes)) = some (some (.agg #[.int .i64 0, .int .i64 0, .string ⟨#[]⟩, .string ⟨#[]⟩]), 4, 48) := by kernel_rfl
theorem stepT : ElemT Try.prog 148 157 stepE.k 48 := elemT_of Try.underlying148 Try.infoStep rfl
/-- what climb hands back -/
def climbR (w : World) (c : Option (List StepG × ByteArray × List ByteArray)) (e : Ending) (w' : World) : Prop :=
  match c with
  | none => e = .returned (.tuple #[.slice none 0 0, .string ⟨#[]⟩, .bool false])
  | some r => ∃ v, e = .returned (.tuple #[v, .string r.2.1, .bool ((r.2.2.length : Int) == 0)]) ∧ Row stepE w' w.heap.size 157 v r.1
set_option maxRecDepth 100000 in
set_option maxHeartbeats 2000000 in
theorem climb_any (m n i : Nat) (x : ByteArray) (ps : List ByteArray) (pv : Value) (w : World) (hi : i < n) (hn : n ≤ 2 ^ m) (hm : n ≤ 100000000) (hmm : m ≤ 1000) (hx : x.size = 32) (hw : wholeL ps = true) (hp : ps.length ≤ 100000000) (hr : Rd strE w pv ps) :
    Calls Try.prog 95 #[.int .i64 (n : Nat), .int .i64 (i : Nat), .string x, pv] w fun e w' => climbR w (climbO m n i x ps) e w' ∧ Below w.heap.size w w' := by
  refine calls_by fun R HR => ?_
  obtain ⟨a, cap, rfl, hcap, -⟩ := hr.shape
  have HS := Lib.hid (And.intro hn (And.intro hx (And.intro hw hr)))
  have HI := Lib.hid (And.intro hi (And.intro hm hmm))
  have HPL := Lib.hid hp
  clear hn hx hw hr hi hm hp hmm
  go_enter Try.func95, Try.ntmps95
  go_wp2_with fail
  go_loopw [0, 1, 2, 3, 11] (fun c0 c1 c2 c3 c11 wr => ∃ (mm nk ik : Nat) (xk : ByteArray) (pk : List ByteArray) (ak : Option Addr) (ck : Nat) (out : List StepG) (ov : Value), c0 = .int .i64 nk ∧ c1 = .int .i64 ik ∧ c2 = .string xk ∧ c3 = .slice ak pk.length ck ∧ ov = c11 ∧ ik < nk ∧ nk ≤ 100000000 ∧
      Hid (Climbs m n i x ps mm nk ik xk pk out ∧ nk ≤ 2 ^ mm ∧ xk.size = 32 ∧ wholeL pk = true ∧ Rd strE wr (.slice ak pk.length ck) pk ∧ Row stepE wr w.heap.size 157 ov out ∧ Below w.heap.size w wr ∧ out.length + mm ≤ m ∧ pk.length ≤ 100000000 ∧ pk.length ≤ ck ∧ (∀ b, (Value.slice ak pk.length ck).ownBlock = some b → pk ≠ [] → b < w.heap.size))) (fun c0 _ _ _ _ _ => (intOf c0).toNat)
  case atStart =>
    refine ⟨m, n, i, x, ps, a, cap, [], _, rfl, rfl, rfl, rfl, rfl, HI.out.1, HI.out.2.1, Lib.hid ⟨Climbs.start _ _ _ _ _, HS.out.1, HS.out.2.1, HS.out.2.2.1, HS.out.2.2.2, Row.nil _ _ _, Below.refl _ _, by simp, HPL.out, hcap, fun b e h => ?_⟩⟩
    exact HS.out.2.2.2.lt' h e
  case round =>
    obtain ⟨mm, nk, ik, xk, pk, ak, ck, out, ov, rfl, rfl, rfl, rfl, rfl, hik, hnk, hN⟩ := hrel
    by_cases h1 : nk ≤ 1
    · have h1i : ¬ (1 : Int) < (nk : Int) := by omega
      have HC := Lib.hid (Climbs.done hN.out.1 h1)
      clear h1
      go_wp2
      go_ret3
      refine HR.out _ _ ⟨?_, hN.out.2.2.2.2.2.2.1⟩
      rw [HC.out]
      exact ⟨_, rfl, hN.out.2.2.2.2.2.1⟩
    · have h1i : (1 : Int) < (nk : Int) := by omega
      obtain ⟨mm, rfl⟩ : ∃ m', mm = m' + 1 := by
        cases mm with
        | zero => have := hN.out.2.1; rw [Nat.pow_zero] at this; omega
        | succ m' => exact ⟨m', rfl⟩
      have hxor := xor_one ik (by omega)
      obtain ⟨ik2, hik2⟩ : ∃ ik2, ik / 2 = ik2 := ⟨_, rfl⟩
      obtain ⟨nk2, hnk2⟩ : ∃ nk2, (nk + 1) / 2 = nk2 := ⟨_, rfl⟩
      have HK := Lib.hid (show ik2 < nk2 ∧ nk2 ≤ 100000000 ∧ nk2 ≤ 2 ^ mm ∧ nk2 < nk by
        have := hN.out.2.1
        rw [Nat.pow_succ] at this
        omega)
      have hdi : wrap64 ((ik : Int) / 2) = ((ik2 : Nat) : Int) := wrap_half ik ik2 hik2 (by omega)
      have hdn : wrap64 (((nk : Int) + 1) / 2) = ((nk2 : Nat) : Int) := wrap_half1 nk nk2 hnk2 (by omega)
      have HE := Lib.hid (And.intro h1 (And.intro hik2 hnk2))
      obtain ⟨W1, hW1⟩ : ∃ W1, wr.alloc (.cells #[.int .i64 (ik : Nat), .int .i64 (nk : Nat), .string ⟨#[]⟩, .string ⟨#[]⟩] 157) = W1 := ⟨_, rfl⟩
      have hb1 : Below wr.heap.size wr W1 := by rw [← hW1]; exact alloc_below wr _
      have k1 : W1.heap[wr.heap.size]? = some (.cells #[.int .i64 (ik : Nat), .int .i64 (nk : Nat), .string ⟨#[]⟩, .string ⟨#[]⟩] 157 (0, 0)) := by rw [← hW1]; exact alloc_new wr _
      have H1 := Lib.hid (And.intro hb1 k1)
      have HW1 := Lib.hid hW1
      clear h1 hik2 hnk2 hb1 k1 hW1
      go_upto_region 5 with fail
      rw [HW1.out]
      clear HW1
      by_cases hbes : besideN ik < nk
      · have hbi : ((besideN ik : Nat) : Int) < (nk : Int) := by omega
        match pk with
        | [] =>
          have HC := Lib.hid (show climbO m n i x ps = none by
            by_cases h2 : besideN ik < ik
            · exact Climbs.stop hN.out.1 HE.out.1 (dir_right hbes h2)
            · exact Climbs.stop hN.out.1 HE.out.1 (dir_left hbes h2))
          have HB := Lib.hid (hN.out.2.2.2.2.2.2.1.trans (H1.out.1.mono hN.out.2.2.2.2.2.2.1.size))
          generalize besideN ik = bs at *
          clear hbes
          simp only [List.length_nil]
          go_wp2
          go_ret3
          exact HR.out _ _ ⟨by rw [HC.out]; rfl, HB.out⟩
        | p :: pk =>
          have hrd := hN.out.2.2.2.2.1
          obtain ⟨b, o, hae, hb, c0⟩ := hrd.str 0 (by simp)
          subst hae
          simp only [Nat.add_zero, List.getElem_cons_zero] at c0
          obtain ⟨L, hL⟩ : ∃ L, pk.length = L := ⟨_, rfl⟩
          rw [List.length_cons, hL]
          have hl0 : (((L : Int) + 1) == 0) = false := by rw [beq_eq_false_iff_ne]; omega
          have hl1 : (0 : Int) < (L : Int) + 1 := by omega
          have hl2 : (1 : Int) ≤ (L : Int) + 1 := by omega
          have hl3 : (1 : Int) ≤ (ck : Int) := by have := hN.out.2.2.2.2.2.2.2.2.2.1; simp at this; omega
          have hl4 : (L : Int) + 1 ≤ (ck : Int) := by have := hN.out.2.2.2.2.2.2.2.2.2.1; simp at this; omega
          have c0' : W1.cell? ⟨b, o, none⟩ = some (.string p) := (H1.out.1.cell (p := ⟨b, o, none⟩) hb).trans c0
          obtain ⟨d0, d1, d2, d3, d4, d5⟩ := blk4 H1.out.2
          have hne : ¬ b = wr.heap.size := by omega
          have HL := Lib.hid (And.intro hL hb)
          have hwp : p.size = 32 ∧ wholeL pk = true := by
            have := hN.out.2.2.2.1
            simp only [wholeL, List.all_cons, Bool.and_eq_true, beq_iff_eq] at this
            exact this
          have HW := Lib.hid hwp
          clear hrd c0 hL hb hwp
          go_wp2
          go_region
          obtain ⟨W2, hW2⟩ : ∃ W2, ((W1.setCell ⟨wr.heap.size, 2, none⟩ (.string xk)).setCell ⟨wr.heap.size, 3, none⟩ (.string p)).drew = W2 := ⟨_, rfl⟩
          have hb2 : Below wr.heap.size wr W2 := by rw [← hW2]; exact ((H1.out.1.setCell (p := ⟨wr.heap.size, 2, none⟩) (Nat.le_refl _) _).setCell (p := ⟨wr.heap.size, 3, none⟩) (Nat.le_refl _) _).drew
          have k2 : W2.heap[wr.heap.size]? = some (.cells #[.int .i64 (ik : Nat), .int .i64 (nk : Nat), .string xk, .string p] 157 (0, 0)) := by
            rw [← hW2]
            exact set_blk (set_blk H1.out.2 2 (.string xk)) 3 (.string p)
          rw [hW2]
          have H2 := Lib.hid (And.intro hb2 k2)
          clear hW2 hb2 k2 c0' d0 d1 d2 d3 d4 d5 H1
          have c2' : W2.cell? ⟨b, o, none⟩ = some (.string p) := by
            obtain ⟨b', o', e, hb', c0⟩ := hN.out.2.2.2.2.1.str 0 (by simp)
            cases e
            exact (H2.out.1.cell (p := ⟨b, o, none⟩) hb').trans (by simpa using c0)
          have hz1 : xk.size ≤ 10000000000 := by have := hN.out.2.2.1; omega
          have hz2 : p.size ≤ 10000000000 := by have := HW.out.1; omega
          have HZ := Lib.hid (And.intro hz1 hz2)
          clear hz1 hz2
          by_cases h2 : besideN ik < ik
          · have h2i : ((besideN ik : Nat) : Int) < (ik : Int) := by omega
            by_cases hck : ck = 1
            · have HC := Lib.hid (Climbs.goS hN.out.1 HE.out.1 (dir_right hbes h2))
              simp only [HE.out.2.1, HE.out.2.2] at HC
              generalize hbs : besideN ik = bs at *
              clear hbes h2 hbs
              obtain ⟨d0, d1, d2, d3, d4, d5⟩ := blk4 H2.out.2
              go_upto_region 12 with fail
              obtain ⟨W3, hW3⟩ : ∃ W3, (W2.setCell ⟨wr.heap.size, 2, none⟩ (.string p)).setCell ⟨wr.heap.size, 3, none⟩ (.string xk) = W3 := ⟨_, rfl⟩
              have hb3 : Below wr.heap.size wr W3 := by rw [← hW3]; exact (H2.out.1.setCell (p := ⟨wr.heap.size, 2, none⟩) (Nat.le_refl _) _).setCell (p := ⟨wr.heap.size, 3, none⟩) (Nat.le_refl _) _
              have k3 : W3.heap[wr.heap.size]? = some (.cells #[.int .i64 (ik : Nat), .int .i64 (nk : Nat), .string p, .string xk] 157 (0, 0)) := by
                rw [← hW3]
                exact set_blk (set_blk H2.out.2 2 (.string p)) 3 (.string xk)
              rw [hW3]
              have H3 := Lib.hid (And.intro hb3 k3)
              clear hW3 hb3 k3 d0 d1 d2 d3 d4 d5 H2 c2'
              obtain ⟨d0, d1, d2, d3, -, -⟩ := blk4 H3.out.2
              have f2 := fun p => after_cell d2 p
              have f3 := fun p => after_cell d3 p
              have cN := Lib.hid (fun q => calls_after (p := q) (node_any p xk (After W3 q) HZ.out.2 HZ.out.1))
              refine wp_region_after (by kernel_rfl) (by kernel_rfl) ?_
              quiet_step (fail)
              quiet_step (fail)
              quiet_step (fail)
              quiet_step (fail)
              quiet_step (exact cN.out _)
              quiet_step (fail)
              quiet_step (fail)
              quiet_step (fail)
              quiet_step (fail)
              refine wpQuiet_nil ?_
              rintro w5 ⟨q, rfl⟩
              have hb5 := after_below W3 q
              have HX := Lib.hid (And.intro (H3.out.1.trans (hb5.mono H3.out.1.size)) (blk_on hb5 H3.out.2))
              have HPR := Lib.hid (show Rd strE (After W3 q) (.slice (some ⟨b, o, none⟩) pk.length 0) pk ∧ (∀ b', (Value.slice (some ⟨b, o, none⟩) pk.length 0).ownBlock = some b' → pk ≠ [] → b' < w.heap.size) by
                have h9 := (hN.out.2.2.2.2.1.below HX.out.1).drop (k := 1) (by simp) (some ⟨b, o, none⟩) (fun h => by have := hN.out.2.2.2.2.2.2.2.2.2.1; simp at this h; omega) (by simp) 0 (by have := hN.out.2.2.2.2.2.2.2.2.2.1; simp only [List.length_cons] at this ⊢; omega)
                simp only [List.length_cons, Nat.add_sub_cancel, List.drop_succ_cons, List.drop_zero] at h9
                refine ⟨h9, fun b' e hne' => ?_⟩
                simp only [Value.ownBlock, Option.some.injEq] at e
                subst e
                exact hN.out.2.2.2.2.2.2.2.2.2.2 b rfl (by simp))
              generalize After W3 q = w5 at *
              clear cN f2 f3 d0 d1 d2 d3 hb5 H3
              rw [← HL.out.1]
              obtain ⟨e0, e1, e2, e3, -, -⟩ := blk4 HX.out.2
              go_wp2_with (at_builtin; refine wpList_append_row _ rfl _ _ 148 rfl stepT w.heap.size _ _ out [(⟨ik, nk, p, xk⟩ : StepG)] rfl rfl ((hN.out.2.2.2.2.2.1.below HX.out.1).below (alloc_below w5 _)) (Rd.single (E := stepE) (⟨ik, nk, p, xk⟩ : StepG) (alloc_new w5 _) rfl) (by have h1 := hN.out.2.2.2.2.2.2.1.size; have h2 := HX.out.1.size; simp; omega) (by have h1 := hN.out.2.2.2.2.2.2.2.1; have h2 := HI.out.2.2; simp; omega) (by decide) ?_)
              intro v' w6 hG
              have HG := Lib.hid (And.intro hG.1 (And.intro (hG.below ((hN.out.2.2.2.2.2.2.1.trans (HX.out.1.mono hN.out.2.2.2.2.2.2.1.size)).trans ((alloc_below w5 _).mono (by have h1 := hN.out.2.2.2.2.2.2.1.size; have h2 := HX.out.1.size; omega))) (by have h1 := hN.out.2.2.2.2.2.2.1.size; have h2 := HX.out.1.size; simp; omega) (fun b hb => (hN.out.2.2.2.2.2.1.lt hb).1)) (Grew.rd' hG (HPR.out.1.below (alloc_below w5 _)) (fun hne b e e2 => by have h1 := HPR.out.2 b e hne; have h2 := (hN.out.2.2.2.2.2.1.lt e2).1; omega))))
              clear hG e0 e1 e2 e3
              go_wp2_with fail
              go_roundw
              case rel =>
                refine ⟨mm, nk2, ik2, (nodeS p xk), pk, (some ⟨b, o, none⟩), 0, out ++ [(⟨ik, nk, p, xk⟩ : StepG)], v', (by first | rfl | rw [show ((nk : Int) + 1) / 2 = ((nk2 : Nat) : Int) by have := HE.out.2.2; omega]), (by first | rfl | rw [show (ik : Int) / 2 = ((ik2 : Nat) : Int) by have := HE.out.2.1; omega]), rfl, rfl, rfl, HK.out.1, HK.out.2.1, Lib.hid ⟨HC.out, HK.out.2.2.1, nodeS_size _ _, HW.out.2, HG.out.2.2, HG.out.1, HG.out.2.1, by have := hN.out.2.2.2.2.2.2.2.1; simp; omega, by have := hN.out.2.2.2.2.2.2.2.2.1; simp at this; omega, by have := hN.out.2.2.2.2.2.2.2.2.2.1; simp at this; omega, HPR.out.2⟩⟩
              case measure =>
                have := HK.out.2.2.2
                simp [intOf]; omega
            · have HC := Lib.hid (Climbs.goS hN.out.1 HE.out.1 (dir_right hbes h2))
              simp only [HE.out.2.1, HE.out.2.2] at HC
              generalize hbs : besideN ik = bs at *
              clear hbes h2 hbs
              obtain ⟨d0, d1, d2, d3, d4, d5⟩ := blk4 H2.out.2
              go_upto_region 12 with fail
              obtain ⟨W3, hW3⟩ : ∃ W3, (W2.setCell ⟨wr.heap.size, 2, none⟩ (.string p)).setCell ⟨wr.heap.size, 3, none⟩ (.string xk) = W3 := ⟨_, rfl⟩
              have hb3 : Below wr.heap.size wr W3 := by rw [← hW3]; exact (H2.out.1.setCell (p := ⟨wr.heap.size, 2, none⟩) (Nat.le_refl _) _).setCell (p := ⟨wr.heap.size, 3, none⟩) (Nat.le_refl _) _
              have k3 : W3.heap[wr.heap.size]? = some (.cells #[.int .i64 (ik : Nat), .int .i64 (nk : Nat), .string p, .string xk] 157 (0, 0)) := by
                rw [← hW3]
                exact set_blk (set_blk H2.out.2 2 (.string p)) 3 (.string xk)
              rw [hW3]
              have H3 := Lib.hid (And.intro hb3 k3)
              clear hW3 hb3 k3 d0 d1 d2 d3 d4 d5 H2 c2'
              obtain ⟨d0, d1, d2, d3, -, -⟩ := blk4 H3.out.2
              have f2 := fun p => after_cell d2 p
              have f3 := fun p => after_cell d3 p
              have cN := Lib.hid (fun q => calls_after (p := q) (node_any p xk (After W3 q) HZ.out.2 HZ.out.1))
              refine wp_region_after (by kernel_rfl) (by kernel_rfl) ?_
              quiet_step (fail)
              quiet_step (fail)
              quiet_step (fail)
              quiet_step (fail)
              quiet_step (exact cN.out _)
              quiet_step (fail)
              quiet_step (fail)
              quiet_step (fail)
              quiet_step (fail)
              refine wpQuiet_nil ?_
              rintro w5 ⟨q, rfl⟩
              have hb5 := after_below W3 q
              have HX := Lib.hid (And.intro (H3.out.1.trans (hb5.mono H3.out.1.size)) (blk_on hb5 H3.out.2))
              have HPR := Lib.hid (show Rd strE (After W3 q) (.slice (some ⟨b, o + 1, none⟩) pk.length (ck - 1)) pk ∧ (∀ b', (Value.slice (some ⟨b, o + 1, none⟩) pk.length (ck - 1)).ownBlock = some b' → pk ≠ [] → b' < w.heap.size) by
                have h9 := (hN.out.2.2.2.2.1.below HX.out.1).drop (k := 1) (by simp) (some ⟨b, o + 1, none⟩) (fun h => by simp [strE]) (by simp) (ck - 1) (by have := hN.out.2.2.2.2.2.2.2.2.2.1; simp only [List.length_cons] at this ⊢; omega)
                simp only [List.length_cons, Nat.add_sub_cancel, List.drop_succ_cons, List.drop_zero] at h9
                refine ⟨h9, fun b' e hne' => ?_⟩
                simp only [Value.ownBlock, Option.some.injEq] at e
                subst e
                exact hN.out.2.2.2.2.2.2.2.2.2.2 b rfl (by simp))
              generalize After W3 q = w5 at *
              clear cN f2 f3 d0 d1 d2 d3 hb5 H3
              rw [← HL.out.1]
              obtain ⟨e0, e1, e2, e3, -, -⟩ := blk4 HX.out.2
              go_wp2_with (at_builtin; refine wpList_append_row _ rfl _ _ 148 rfl stepT w.heap.size _ _ out [(⟨ik, nk, p, xk⟩ : StepG)] rfl rfl ((hN.out.2.2.2.2.2.1.below HX.out.1).below (alloc_below w5 _)) (Rd.single (E := stepE) (⟨ik, nk, p, xk⟩ : StepG) (alloc_new w5 _) rfl) (by have h1 := hN.out.2.2.2.2.2.2.1.size; have h2 := HX.out.1.size; simp; omega) (by have h1 := hN.out.2.2.2.2.2.2.2.1; have h2 := HI.out.2.2; simp; omega) (by decide) ?_)
              intro v' w6 hG
              have HG := Lib.hid (And.intro hG.1 (And.intro (hG.below ((hN.out.2.2.2.2.2.2.1.trans (HX.out.1.mono hN.out.2.2.2.2.2.2.1.size)).trans ((alloc_below w5 _).mono (by have h1 := hN.out.2.2.2.2.2.2.1.size; have h2 := HX.out.1.size; omega))) (by have h1 := hN.out.2.2.2.2.2.2.1.size; have h2 := HX.out.1.size; simp; omega) (fun b hb => (hN.out.2.2.2.2.2.1.lt hb).1)) (Grew.rd' hG (HPR.out.1.below (alloc_below w5 _)) (fun hne b e e2 => by have h1 := HPR.out.2 b e hne; have h2 := (hN.out.2.2.2.2.2.1.lt e2).1; omega))))
              clear hG e0 e1 e2 e3
              go_wp2_with fail
              go_roundw
              case rel =>
                refine ⟨mm, nk2, ik2, (nodeS p xk), pk, (some ⟨b, o + 1, none⟩), (ck - 1), out ++ [(⟨ik, nk, p, xk⟩ : StepG)], v', (by first | rfl | rw [show ((nk : Int) + 1) / 2 = ((nk2 : Nat) : Int) by have := HE.out.2.2; omega]), (by first | rfl | rw [show (ik : Int) / 2 = ((ik2 : Nat) : Int) by have := HE.out.2.1; omega]), rfl, rfl, rfl, HK.out.1, HK.out.2.1, Lib.hid ⟨HC.out, HK.out.2.2.1, nodeS_size _ _, HW.out.2, HG.out.2.2, HG.out.1, HG.out.2.1, by have := hN.out.2.2.2.2.2.2.2.1; simp; omega, by have := hN.out.2.2.2.2.2.2.2.2.1; simp at this; omega, by have := hN.out.2.2.2.2.2.2.2.2.2.1; simp at this; omega, HPR.out.2⟩⟩
              case measure =>
                have := HK.out.2.2.2
                simp [intOf]; omega
          · have h2i : ¬ ((besideN ik : Nat) : Int) < (ik : Int) := by omega
            by_cases hck : ck = 1
            · have HC := Lib.hid (Climbs.goS hN.out.1 HE.out.1 (dir_left hbes h2))
              simp only [HE.out.2.1, HE.out.2.2] at HC
              generalize hbs : besideN ik = bs at *
              clear hbes h2 hbs
              go_upto_region 12 with fail
              obtain ⟨W3, rfl⟩ : ∃ W3, W3 = W2 := ⟨_, rfl⟩
              have H3 := H2
              clear H2 c2'
              obtain ⟨d0, d1, d2, d3, -, -⟩ := blk4 H3.out.2
              have f2 := fun p => after_cell d2 p
              have f3 := fun p => after_cell d3 p
              have cN := Lib.hid (fun q => calls_after (p := q) (node_any xk p (After W3 q) HZ.out.1 HZ.out.2))
              refine wp_region_after (by kernel_rfl) (by kernel_rfl) ?_
              quiet_step (fail)
              quiet_step (fail)
              quiet_step (fail)
              quiet_step (fail)
              quiet_step (exact cN.out _)
              quiet_step (fail)
              quiet_step (fail)
              quiet_step (fail)
              quiet_step (fail)
              refine wpQuiet_nil ?_
              rintro w5 ⟨q, rfl⟩
              have hb5 := after_below W3 q
              have HX := Lib.hid (And.intro (H3.out.1.trans (hb5.mono H3.out.1.size)) (blk_on hb5 H3.out.2))
              have HPR := Lib.hid (show Rd strE (After W3 q) (.slice (some ⟨b, o, none⟩) pk.length 0) pk ∧ (∀ b', (Value.slice (some ⟨b, o, none⟩) pk.length 0).ownBlock = some b' → pk ≠ [] → b' < w.heap.size) by
                have h9 := (hN.out.2.2.2.2.1.below HX.out.1).drop (k := 1) (by simp) (some ⟨b, o, none⟩) (fun h => by have := hN.out.2.2.2.2.2.2.2.2.2.1; simp at this h; omega) (by simp) 0 (by have := hN.out.2.2.2.2.2.2.2.2.2.1; simp only [List.length_cons] at this ⊢; omega)
                simp only [List.length_cons, Nat.add_sub_cancel, List.drop_succ_cons, List.drop_zero] at h9
                refine ⟨h9, fun b' e hne' => ?_⟩
                simp only [Value.ownBlock, Option.some.injEq] at e
                subst e
                exact hN.out.2.2.2.2.2.2.2.2.2.2 b rfl (by simp))
              generalize After W3 q = w5 at *
              clear cN f2 f3 d0 d1 d2 d3 hb5 H3
              rw [← HL.out.1]
              obtain ⟨e0, e1, e2, e3, -, -⟩ := blk4 HX.out.2
              go_wp2_with (at_builtin; refine wpList_append_row _ rfl _ _ 148 rfl stepT w.heap.size _ _ out [(⟨ik, nk, xk, p⟩ : StepG)] rfl rfl ((hN.out.2.2.2.2.2.1.below HX.out.1).below (alloc_below w5 _)) (Rd.single (E := stepE) (⟨ik, nk, xk, p⟩ : StepG) (alloc_new w5 _) rfl) (by have h1 := hN.out.2.2.2.2.2.2.1.size; have h2 := HX.out.1.size; simp; omega) (by have h1 := hN.out.2.2.2.2.2.2.2.1; have h2 := HI.out.2.2; simp; omega) (by decide) ?_)
              intro v' w6 hG
              have HG := Lib.hid (And.intro hG.1 (And.intro (hG.below ((hN.out.2.2.2.2.2.2.1.trans (HX.out.1.mono hN.out.2.2.2.2.2.2.1.size)).trans ((alloc_below w5 _).mono (by have h1 := hN.out.2.2.2.2.2.2.1.size; have h2 := HX.out.1.size; omega))) (by have h1 := hN.out.2.2.2.2.2.2.1.size; have h2 := HX.out.1.size; simp; omega) (fun b hb => (hN.out.2.2.2.2.2.1.lt hb).1)) (Grew.rd' hG (HPR.out.1.below (alloc_below w5 _)) (fun hne b e e2 => by have h1 := HPR.out.2 b e hne; have h2 := (hN.out.2.2.2.2.2.1.lt e2).1; omega))))
              clear hG e0 e1 e2 e3
              go_wp2_with fail
              go_roundw
              case rel =>
                refine ⟨mm, nk2, ik2, (nodeS xk p), pk, (some ⟨b, o, none⟩), 0, out ++ [(⟨ik, nk, xk, p⟩ : StepG)], v', (by first | rfl | rw [show ((nk : Int) + 1) / 2 = ((nk2 : Nat) : Int) by have := HE.out.2.2; omega]), (by first | rfl | rw [show (ik : Int) / 2 = ((ik2 : Nat) : Int) by have := HE.out.2.1; omega]), rfl, rfl, rfl, HK.out.1, HK.out.2.1, Lib.hid ⟨HC.out, HK.out.2.2.1, nodeS_size _ _, HW.out.2, HG.out.2.2, HG.out.1, HG.out.2.1, by have := hN.out.2.2.2.2.2.2.2.1; simp; omega, by have := hN.out.2.2.2.2.2.2.2.2.1; simp at this; omega, by have := hN.out.2.2.2.2.2.2.2.2.2.1; simp at this; omega, HPR.out.2⟩⟩
              case measure =>
                have := HK.out.2.2.2
                simp [intOf]; omega
            · have HC := Lib.hid (Climbs.goS hN.out.1 HE.out.1 (dir_left hbes h2))
              simp only [HE.out.2.1, HE.out.2.2] at HC
              generalize hbs : besideN ik = bs at *
              clear hbes h2 hbs
              go_upto_region 12 with fail
              obtain ⟨W3, rfl⟩ : ∃ W3, W3 = W2 := ⟨_, rfl⟩
              have H3 := H2
              clear H2 c2'
              obtain ⟨d0, d1, d2, d3, -, -⟩ := blk4 H3.out.2
              have f2 := fun p => after_cell d2 p
              have f3 := fun p => after_cell d3 p
              have cN := Lib.hid (fun q => calls_after (p := q) (node_any xk p (After W3 q) HZ.out.1 HZ.out.2))
              refine wp_region_after (by kernel_rfl) (by kernel_rfl) ?_
              quiet_step (fail)
              quiet_step (fail)
              quiet_step (fail)
              quiet_step (fail)
              quiet_step (exact cN.out _)
              quiet_step (fail)
              quiet_step (fail)
              quiet_step (fail)
              quiet_step (fail)
              refine wpQuiet_nil ?_
              rintro w5 ⟨q, rfl⟩
              have hb5 := after_below W3 q
              have HX := Lib.hid (And.intro (H3.out.1.trans (hb5.mono H3.out.1.size)) (blk_on hb5 H3.out.2))
              have HPR := Lib.hid (show Rd strE (After W3 q) (.slice (some ⟨b, o + 1, none⟩) pk.length (ck - 1)) pk ∧ (∀ b', (Value.slice (some ⟨b, o + 1, none⟩) pk.length (ck - 1)).ownBlock = some b' → pk ≠ [] → b' < w.heap.size) by
                have h9 := (hN.out.2.2.2.2.1.below HX.out.1).drop (k := 1) (by simp) (some ⟨b, o + 1, none⟩) (fun h => by simp [strE]) (by simp) (ck - 1) (by have := hN.out.2.2.2.2.2.2.2.2.2.1; simp only [List.length_cons] at this ⊢; omega)
                simp only [List.length_cons, Nat.add_sub_cancel, List.drop_succ_cons, List.drop_zero] at h9
                refine ⟨h9, fun b' e hne' => ?_⟩
                simp only [Value.ownBlock, Option.some.injEq] at e
                subst e
                exact hN.out.2.2.2.2.2.2.2.2.2.2 b rfl (by simp))
              generalize After W3 q = w5 at *
              clear cN f2 f3 d0 d1 d2 d3 hb5 H3
              rw [← HL.out.1]
              obtain ⟨e0, e1, e2, e3, -, -⟩ := blk4 HX.out.2
              go_wp2_with (at_builtin; refine wpList_append_row _ rfl _ _ 148 rfl stepT w.heap.size _ _ out [(⟨ik, nk, xk, p⟩ : StepG)] rfl rfl ((hN.out.2.2.2.2.2.1.below HX.out.1).below (alloc_below w5 _)) (Rd.single (E := stepE) (⟨ik, nk, xk, p⟩ : StepG) (alloc_new w5 _) rfl) (by have h1 := hN.out.2.2.2.2.2.2.1.size; have h2 := HX.out.1.size; simp; omega) (by have h1 := hN.out.2.2.2.2.2.2.2.1; have h2 := HI.out.2.2; simp; omega) (by decide) ?_)
              intro v' w6 hG
              have HG := Lib.hid (And.intro hG.1 (And.intro (hG.below ((hN.out.2.2.2.2.2.2.1.trans (HX.out.1.mono hN.out.2.2.2.2.2.2.1.size)).trans ((alloc_below w5 _).mono (by have h1 := hN.out.2.2.2.2.2.2.1.size; have h2 := HX.out.1.size; omega))) (by have h1 := hN.out.2.2.2.2.2.2.1.size; have h2 := HX.out.1.size; simp; omega) (fun b hb => (hN.out.2.2.2.2.2.1.lt hb).1)) (Grew.rd' hG (HPR.out.1.below (alloc_below w5 _)) (fun hne b e e2 => by have h1 := HPR.out.2 b e hne; have h2 := (hN.out.2.2.2.2.2.1.lt e2).1; omega))))
              clear hG e0 e1 e2 e3
              go_wp2_with fail
              go_roundw
              case rel =>
                refine ⟨mm, nk2, ik2, (nodeS xk p), pk, (some ⟨b, o + 1, none⟩), (ck - 1), out ++ [(⟨ik, nk, xk, p⟩ : StepG)], v', (by first | rfl | rw [show ((nk : Int) + 1) / 2 = ((nk2 : Nat) : Int) by have := HE.out.2.2; omega]), (by first | rfl | rw [show (ik : Int) / 2 = ((ik2 : Nat) : Int) by have := HE.out.2.1; omega]), rfl, rfl, rfl, HK.out.1, HK.out.2.1, Lib.hid ⟨HC.out, HK.out.2.2.1, nodeS_size _ _, HW.out.2, HG.out.2.2, HG.out.1, HG.out.2.1, by have := hN.out.2.2.2.2.2.2.2.1; simp; omega, by have := hN.out.2.2.2.2.2.2.2.2.1; simp at this; omega, by have := hN.out.2.2.2.2.2.2.2.2.2.1; simp at this; omega, HPR.out.2⟩⟩
              case measure =>
                have := HK.out.2.2.2
                simp [intOf]; omega
      · have hbi : ¬ ((besideN ik : Nat) : Int) < (nk : Int) := by omega
        have HC := Lib.hid (Climbs.goN hN.out.1 HE.out.1 (dir_none hbes))
        simp only [HE.out.2.1, HE.out.2.2] at HC
        generalize hbs : besideN ik = bs at *
        clear hbes hbs
        have HX := H1
        have HPR := Lib.hid (And.intro (hN.out.2.2.2.2.1.below H1.out.1) hN.out.2.2.2.2.2.2.2.2.2.2)
        obtain ⟨e0, e1, e2, e3, -, -⟩ := blk4 HX.out.2
        go_wp2_with (at_builtin; refine wpList_append_row _ rfl _ _ 148 rfl stepT w.heap.size _ _ out [(⟨ik, nk, ⟨#[]⟩, ⟨#[]⟩⟩ : StepG)] rfl rfl ((hN.out.2.2.2.2.2.1.below HX.out.1).below (alloc_below W1 _)) (Rd.single (E := stepE) (⟨ik, nk, ⟨#[]⟩, ⟨#[]⟩⟩ : StepG) (alloc_new W1 _) rfl) (by have h1 := hN.out.2.2.2.2.2.2.1.size; have h2 := HX.out.1.size; simp; omega) (by have h1 := hN.out.2.2.2.2.2.2.2.1; have h2 := HI.out.2.2; simp; omega) (by decide) ?_)
        intro v' w6 hG
        have HG := Lib.hid (And.intro hG.1 (And.intro (hG.below ((hN.out.2.2.2.2.2.2.1.trans (HX.out.1.mono hN.out.2.2.2.2.2.2.1.size)).trans ((alloc_below W1 _).mono (by have h1 := hN.out.2.2.2.2.2.2.1.size; have h2 := HX.out.1.size; omega))) (by have h1 := hN.out.2.2.2.2.2.2.1.size; have h2 := HX.out.1.size; simp; omega) (fun b hb => (hN.out.2.2.2.2.2.1.lt hb).1)) (Grew.rd' hG (HPR.out.1.below (alloc_below W1 _)) (fun hne b e e2 => by have h1 := HPR.out.2 b e hne; have h2 := (hN.out.2.2.2.2.2.1.lt e2).1; omega))))
        clear hG e0 e1 e2 e3
        go_wp2_with fail
        go_roundw
        case rel =>
          refine ⟨mm, nk2, ik2, xk, pk, ak, ck, out ++ [(⟨ik, nk, ⟨#[]⟩, ⟨#[]⟩⟩ : StepG)], v', (by first | rfl | rw [show ((nk : Int) + 1) / 2 = ((nk2 : Nat) : Int) by have := HE.out.2.2; omega]), (by first | rfl | rw [show (ik : Int) / 2 = ((ik2 : Nat) : Int) by have := HE.out.2.1; omega]), rfl, rfl, rfl, HK.out.1, HK.out.2.1, Lib.hid ⟨HC.out, HK.out.2.2.1, hN.out.2.2.1, hN.out.2.2.2.1, HG.out.2.2, HG.out.1, HG.out.2.1, by have := hN.out.2.2.2.2.2.2.2.1; simp; omega, hN.out.2.2.2.2.2.2.2.2.1, hN.out.2.2.2.2.2.2.2.2.2.1, HPR.out.2⟩⟩
        case measure =>
          have := HK.out.2.2.2
          simp [intOf]; omega
end Go.Proofs.Ytdbabkkmdlkjaaa
/- A row copied by append, and one more behind it, in a statement that draws its order: what each order runs to. Plain. No program is in sight. -/
namespace Ks
open Go Go.RowKit
set_option linter.unusedVariables false

variable {α : Type} {E : Enc α}

theorem alloc2_heap (w : World) (o o' : Obj) : ((w.alloc o).alloc o').heap[w.heap.size]? = some o ∧ ((w.alloc o).alloc o').heap[w.heap.size + 1]? = some o' := by
  refine ⟨by rw [Below.heap_alloc _ _ _ (by simp)]; exact heap_alloc_new w o, ?_⟩
  have := heap_alloc_new (w.alloc o) o'
  rw [show (w.alloc o).heap.size = w.heap.size + 1 by simp] at this
  exact this
theorem row_fresh {w : World} {B g : Nat} {e : TypeId} (h : w.heap[g]? = some (.cells #[] e (0, 0))) (hB : B ≤ g) : Row E w B e (.slice (some ⟨g, 0, none⟩) 0 0) [] :=
  ⟨by simp [Enc.cs_nil], Or.inr ⟨g, 0, #[], rfl, hB, h, Nat.le_refl _, Nat.zero_le _, by simp, by simp [Enc.cs_nil]⟩⟩

/-- what two appends leave -/
def Two {P : Program} (E : Enc α) (t e : TypeId) (w Wa : World) (s lv u : Value) (L : List α) (x : α) : Prop :=
  ∃ a1 n1 c1 w5 a2 n2 c2 w6, (Builtin.append_ #[t, t] t #[s, lv]).run P Wa = .ok (.slice a1 n1 c1) w5 ∧ (Builtin.append_ #[t, t] t #[.slice a1 n1 c1, u]).run P w5 = .ok (.slice a2 n2 c2) w6 ∧
    Row E w6 w.heap.size e (.slice a2 n2 c2) (L ++ [x]) ∧ Below w.heap.size w w5 ∧ Below w.heap.size w w6

theorem append_two {P : Program} {t e : TypeId} {bytes : Nat} (T : ElemT P t e E.k bytes) (w : World) (lv : Value) (L : List α) (x : α) (X : Array Value) (hX : X.toList = E.enc x) (hl : Rd E w lv L) (b1 : L.length ≤ 1000000) (b2 : bytes ≤ 1000) :
    (∃ a1 n1 c1 w5 a2 n2 c2 w6, (Builtin.append_ #[t, t] t #[.slice (some ⟨w.heap.size, 0, none⟩) 0 0, lv]).run P (w.alloc (.cells #[] e)) = .ok (.slice a1 n1 c1) w5 ∧
      (Builtin.append_ #[t, t] t #[.slice a1 n1 c1, .slice (some ⟨w5.heap.size, 0, none⟩) 1 1]).run P (w5.alloc (.cells X e)) = .ok (.slice a2 n2 c2) w6 ∧ Row E w6 w.heap.size e (.slice a2 n2 c2) (L ++ [x]) ∧ Below w.heap.size w w5 ∧ Below w.heap.size w w6) ∧
    Two (P := P) E t e w ((w.alloc (.cells #[] e)).alloc (.cells X e)) (.slice (some ⟨w.heap.size, 0, none⟩) 0 0) lv (.slice (some ⟨w.heap.size + 1, 0, none⟩) 1 1) L x ∧
    Two (P := P) E t e w ((w.alloc (.cells X e)).alloc (.cells #[] e)) (.slice (some ⟨w.heap.size + 1, 0, none⟩) 0 0) lv (.slice (some ⟨w.heap.size, 0, none⟩) 1 1) L x := by
  have hA := alloc_below w (.cells #[] e)
  have hAX : Below w.heap.size w ((w.alloc (.cells #[] e)).alloc (.cells X e)) := hA.alloc hA.size _
  have hX1 := alloc_below w (.cells X e)
  have hXA : Below w.heap.size w ((w.alloc (.cells X e)).alloc (.cells #[] e)) := hX1.alloc hX1.size _
  have shape : ∀ {w' : World} {B : Nat} {v : Value} {l : List α}, Row E w' B e v l → ∃ a n c, v = .slice a n c := fun h => by
    obtain ⟨a, c, e, _⟩ := h.shape
    exact ⟨a, _, c, e⟩
  refine ⟨?_, ?_, ?_⟩
  · obtain ⟨v1, w5, hr1, hG1⟩ := run_append_row (ty := t) T (w.alloc (.cells #[] e)) w.heap.size _ _ [] L (row_fresh (alloc_new w _) (Nat.le_refl _)) (hl.below hA) hA.size (by simp; omega) b2
    have hB5 : Below w.heap.size w w5 := hG1.below hA hA.size fun b hb => by simp [Value.ownBlock] at hb; omega
    have hX5 := alloc_below w5 (.cells X e)
    rw [List.nil_append] at hG1
    obtain ⟨v2, w6, hr2, hG2⟩ := run_append_row (ty := t) T (w5.alloc (.cells X e)) w.heap.size _ _ L [x] (hG1.1.below hX5) (Rd.single x (alloc_new w5 _) hX) (Nat.le_trans hB5.size hX5.size) (by simp; omega) b2
    obtain ⟨a1, n1, c1, rfl⟩ := shape hG1.1
    obtain ⟨a2, n2, c2, rfl⟩ := shape hG2.1
    exact ⟨a1, n1, c1, w5, a2, n2, c2, w6, hr1, hr2, hG2.1, hB5, hG2.below (hB5.trans (hX5.mono hB5.size)) (Nat.le_trans hB5.size hX5.size) fun b hb => (hG1.1.lt hb).1⟩
  · obtain ⟨k1, k2⟩ := alloc2_heap w (.cells #[] e) (.cells X e)
    obtain ⟨v1, w5, hr1, hG1⟩ := run_append_row (ty := t) T ((w.alloc (.cells #[] e)).alloc (.cells X e)) w.heap.size _ _ [] L (row_fresh k1 (Nat.le_refl _)) (hl.below hAX) hAX.size (by simp; omega) b2
    have hB5 : Below w.heap.size w w5 := hG1.below hAX hAX.size fun b hb => by simp [Value.ownBlock] at hb; omega
    rw [List.nil_append] at hG1
    have kx := hG1.block k2 (by simp [Value.ownBlock])
    obtain ⟨v2, w6, hr2, hG2⟩ := run_append_row (ty := t) T w5 w.heap.size _ _ L [x] hG1.1 (Rd.single x kx hX) hB5.size (by simp; omega) b2
    obtain ⟨a1, n1, c1, rfl⟩ := shape hG1.1
    obtain ⟨a2, n2, c2, rfl⟩ := shape hG2.1
    exact ⟨a1, n1, c1, w5, a2, n2, c2, w6, hr1, hr2, hG2.1, hB5, hG2.below hB5 hB5.size fun b hb => (hG1.1.lt hb).1⟩
  · obtain ⟨k1, k2⟩ := alloc2_heap w (.cells X e) (.cells #[] e)
    obtain ⟨v1, w5, hr1, hG1⟩ := run_append_row (ty := t) T ((w.alloc (.cells X e)).alloc (.cells #[] e)) w.heap.size _ _ [] L (row_fresh k2 (by omega)) (hl.below hXA) hXA.size (by simp; omega) b2
    have hB5 : Below w.heap.size w w5 := hG1.below hXA hXA.size fun b hb => by simp [Value.ownBlock] at hb; omega
    rw [List.nil_append] at hG1
    have kx := hG1.block k1 (by simp [Value.ownBlock])
    obtain ⟨v2, w6, hr2, hG2⟩ := run_append_row (ty := t) T w5 w.heap.size _ _ L [x] hG1.1 (Rd.single x kx hX) hB5.size (by simp; omega) b2
    obtain ⟨a1, n1, c1, rfl⟩ := shape hG1.1
    obtain ⟨a2, n2, c2, rfl⟩ := shape hG2.1
    exact ⟨a1, n1, c1, w5, a2, n2, c2, w6, hr1, hr2, hG2.1, hB5, hG2.below hB5 hB5.size fun b hb => (hG1.1.lt hb).1⟩
end Ks
/- Are two rows of texts the same? The reference's answer. -/
namespace Ks
open Go
theorem text_ne {a b : ByteArray} (h : a ≠ b) : (a.toList == b.toList) = false := by
  rw [beq_eq_false_iff_ne]
  intro e
  rw [ByteArray.toList_eq, ByteArray.toList_eq] at e
  apply h
  obtain ⟨⟨x⟩⟩ := a
  obtain ⟨⟨y⟩⟩ := b
  have : x = y := e
  rw [this]
end Ks
namespace Go.Proofs.Ytdbabkkmdlkjaaa
open Go.RowKit Ks
set_option linter.unusedVariables false

set_option maxHeartbeats 1000000 in
theorem texts_any (va vb : Value) (A B : List ByteArray) (w : World) (ha : Rd strE w va A) (hb : Rd strE w vb B) (hA : A.length ≤ maxLen) (hB : B.length ≤ maxLen) :
    Calls Try.prog 30 #[va, vb] w fun e w' => ∃ b, e = .returned (.bool b) ∧ (b = true ↔ A = B) ∧ Below w.heap.size w w' := by
  unfold maxLen at hA hB
  refine calls_by fun R HR => ?_
  obtain ⟨aa, ca, hva, _⟩ := ha.shape
  obtain ⟨ab, cb, hvb, _⟩ := hb.shape
  have HH := Lib.hid (And.intro ha hb)
  subst hva hvb
  clear ha hb
  by_cases hl : A.length = B.length
  · obtain ⟨ln, hln⟩ : ∃ ln, A.length = ln := ⟨_, rfl⟩
    have HL := Lib.hid (And.intro hln (hl.symm.trans hln))
    rw [← hl, hln]
    rw [hln] at hA
    clear hl hln hB
    go_enter Try.func30, Try.ntmps30
    go_wp2_with fail
    go_loopw [5] (fun i wx => ∃ k : Nat, k ≤ ln ∧ i = .int .i64 k ∧ Hid (A.take k = B.take k ∧ Below w.heap.size w wx)) (fun i _ => ln - (intOf i).toNat)
    case atStart => exact ⟨0, by omega, rfl, Lib.hid ⟨by simp, Below.refl _ _⟩⟩
    case round =>
      obtain ⟨k, hk, rfl, hN⟩ := hrel
      by_cases hlt : k < ln
      · have h1 : k < A.length := by rw [HL.out.1]; exact hlt
        have h2 : k < B.length := by rw [HL.out.2]; exact hlt
        have ra : Rd strE wr (.slice aa A.length ca) A := HH.out.1.below hN.out.2
        have rb : Rd strE wr (.slice ab B.length cb) B := HH.out.2.below hN.out.2
        obtain ⟨b1, o1, rfl, hb1, d1⟩ := ra.str k h1
        obtain ⟨b2, o2, rfl, hb2, d2⟩ := rb.str k h2
        have T1 := Lib.hid (show A.take (k + 1) = A.take k ++ [A[k]] from List.take_succ_eq_append_getElem h1)
        have T2 := Lib.hid (show B.take (k + 1) = B.take k ++ [B[k]] from List.take_succ_eq_append_getElem h2)
        have NE := Lib.hid (fun (h : A[k] ≠ B[k]) (e : A = B) => h (by subst e; rfl))
        generalize A[k] = x at *
        generalize B[k] = y at *
        have hki : (k : Int) < (ln : Int) := by omega
        have HB := Lib.hid (fun q => below_drewN hN.out.2 q)
        clear ra rb hb1 hb2 h1 h2
        by_cases hxy : x = y
        · subst hxy
          have HQ := Lib.hid (show A.take (k + 1) = B.take (k + 1) by rw [T1.out, T2.out, hN.out.1])
          go_wp2_with fail
          go_quiet (fail)
          go_wp2_with fail
          go_roundw
          case rel => exact ⟨k + 1, by omega, by go_num, Lib.hid ⟨HQ.out, HB.out _⟩⟩
          case measure => simp [intOf]; omega
        · have hne := text_ne hxy
          have hno := Lib.hid (NE.out hxy)
          clear hxy
          go_wp2
          go_quiet (fail)
          go_wp2
          exact HR.out _ _ ⟨false, rfl, by simp; exact hno.out, HB.out _⟩
      · obtain rfl : k = ln := by omega
        have HE := Lib.hid (show A = B by have := hN.out.1; rwa [List.take_of_length_le (by rw [HL.out.1]; exact Nat.le_refl _), List.take_of_length_le (by rw [HL.out.2]; exact Nat.le_refl _)] at this)
        go_wp2
        exact HR.out _ _ ⟨true, rfl, by simp; exact HE.out, hN.out.2⟩
  · have hne : ((A.length : Int) != (B.length : Int)) = true := by simp; omega
    have hno := Lib.hid (fun (e : A = B) => hl (by rw [e]))
    clear hl
    go_enter Try.func30, Try.ntmps30
    go_wp2
    exact HR.out _ _ ⟨false, rfl, by simp; exact hno.out, Below.refl _ _⟩

end Go.Proofs.Ytdbabkkmdlkjaaa
/- Trees of hashes: to which root a path leads a leaf. -/
namespace Ks
open Go Go.RowKit
set_option linter.unusedVariables false
def upBad (c i : Int) : Prop := c < 1 ∨ 1048576 < c ∨ i < 0 ∨ c ≤ i
def upV (c i : Int) (x : ByteArray) (ps : List ByteArray) : ByteArray := if c < 1 ∨ 1048576 < c ∨ i < 0 ∨ c ≤ i then ⟨#[]⟩ else if x.size = 32 ∧ wholeL ps = true ∧ ps.length = (sidesH c.toNat i.toNat).length then upS c.toNat i.toNat x ps else ⟨#[]⟩
def upE (c i : Int) (x : ByteArray) (ps : List ByteArray) : Int := if c < 1 ∨ 1048576 < c ∨ i < 0 ∨ c ≤ i then 2 else if x.size = 32 ∧ wholeL ps = true ∧ ps.length = (sidesH c.toNat i.toNat).length then 0 else 17
theorem up_bad {c i : Int} {x : ByteArray} {ps : List ByteArray} (h : c < 1 ∨ 1048576 < c ∨ i < 0 ∨ c ≤ i) : upV c i x ps = ⟨#[]⟩ ∧ upE c i x ps = 2 := ⟨by rw [upV, if_pos h], by rw [upE, if_pos h]⟩
theorem up_no {c i : Int} {x : ByteArray} {ps : List ByteArray} (h : ¬ (c < 1 ∨ 1048576 < c ∨ i < 0 ∨ c ≤ i)) (h2 : ¬ (x.size = 32 ∧ wholeL ps = true ∧ ps.length = (sidesH c.toNat i.toNat).length)) : upV c i x ps = ⟨#[]⟩ ∧ upE c i x ps = 17 := ⟨by rw [upV, if_neg h, if_neg h2], by rw [upE, if_neg h, if_neg h2]⟩
theorem up_yes {c i : Int} {x : ByteArray} {ps : List ByteArray} (h : ¬ (c < 1 ∨ 1048576 < c ∨ i < 0 ∨ c ≤ i)) (h2 : x.size = 32 ∧ wholeL ps = true ∧ ps.length = (sidesH c.toNat i.toNat).length) : upV c i x ps = upS c.toNat i.toNat x ps ∧ upE c i x ps = 0 := ⟨by rw [upV, if_neg h, if_pos h2], by rw [upE, if_neg h, if_pos h2]⟩
theorem up_cases (c i : Int) (x : ByteArray) (ps : List ByteArray) : upE c i x ps = 0 ∨ upE c i x ps = 2 ∨ upE c i x ps = 17 := by
  unfold upE
  split
  · exact .inr (.inl rfl)
  · split
    · exact .inl rfl
    · exact .inr (.inr rfl)
/-- what climb tells of a path -/
theorem climb_twenty (n i : Nat) (x : ByteArray) (ps : List ByteArray) (hi : i < n) (hn : n ≤ 1048576) :
    (ps.length < (sidesH n i).length ∧ climbO 20 n i x ps = none) ∨ ((sidesH n i).length ≤ ps.length ∧ ∃ st, climbO 20 n i x ps = some (st, upS n i x ps, ps.drop (sidesH n i).length)) := by
  have he := sidesM_eq n 20 i hi hn
  obtain ⟨a, b⟩ := climb_spec 20 n i x ps hi
  rw [he] at a b
  rcases Nat.lt_or_ge ps.length (sidesH n i).length with h | h
  · exact .inl ⟨h, a h⟩
  · exact .inr ⟨h, b h⟩
end Ks
namespace Go.Proofs.Ytdbabkkmdlkjaaa
open Go.RowKit Ks
set_option linter.unusedVariables false
theorem whole_one (x : ByteArray) (w : World) : Calls Try.prog 60 #[.slice (some ⟨w.heap.size, 0, none⟩) 1 1] (w.alloc (.cells #[.string x] 9)) fun e w' => e = .returned (.bool (decide (x.size = 32))) ∧ Below w.heap.size w w' := by
  refine (whole_any _ [x] _ (Rd.one w x 9) (by simp)).mono fun e w' ⟨h1, h2⟩ => ⟨?_, (alloc_below w _).trans (h2.mono (by simp))⟩
  rw [h1]
  congr 2
  simp [wholeL, Bool.beq_eq_decide_eq]
set_option maxRecDepth 100000 in
set_option maxHeartbeats 2000000 in
theorem up_bad_any (c i : Int) (x : ByteArray) (pa : Option Addr) (pl pc : Nat) (w : World) (h : c < 1 ∨ 1048576 < c ∨ i < 0 ∨ c ≤ i) :
    Calls Try.prog 86 #[.int .i64 c, .int .i64 i, .string x, .slice pa pl pc] w fun e w' => e = .returned (.tuple #[.string ⟨#[]⟩, .int .i64 2]) ∧ Below w.heap.size w w' := by
  refine calls_by fun R HR => ?_
  have hc : c < 1 ∨ (¬ c < 1 ∧ 1048576 < c) ∨ (¬ c < 1 ∧ ¬ 1048576 < c ∧ i < 0) ∨ (¬ c < 1 ∧ ¬ 1048576 < c ∧ ¬ i < 0 ∧ c ≤ i) := by omega
  clear h
  rcases hc with h1 | ⟨h1, h2⟩ | ⟨h1, h2, h3⟩ | ⟨h1, h2, h3, h4⟩
  all_goals
    go_enter Try.func86, Try.ntmps86
    go_wp2
    exact HR.out _ _ ⟨rfl, Below.refl _ _⟩
set_option maxRecDepth 100000 in
set_option maxHeartbeats 2000000 in
theorem up_good_any (n i : Nat) (x : ByteArray) (ps : List ByteArray) (pv : Value) (w : World) (hi : i < n) (hn : n ≤ 1048576) (hp : ps.length ≤ 100000000) (hr : Rd strE w pv ps) :
    Calls Try.prog 86 #[.int .i64 (n : Nat), .int .i64 (i : Nat), .string x, pv] w fun e w' => e = .returned (.tuple #[.string (upV n i x ps), .int .i64 (upE n i x ps)]) ∧ Below w.heap.size w w' := by
  refine calls_by fun R HR => ?_
  obtain ⟨pa, pc, rfl, -⟩ := hr.shape
  have hb : ¬ ((n : Int) < 1 ∨ 1048576 < (n : Int) ∨ (i : Int) < 0 ∨ (n : Int) ≤ (i : Int)) := by omega
  have h1 : ¬ (n : Int) < 1 := by omega
  have h2 : ¬ (1048576 : Int) < (n : Int) := by omega
  have h3 : ¬ (i : Int) < 0 := by omega
  have h4 : ¬ (n : Int) ≤ (i : Int) := by omega
  have HO := Lib.hid (whole_one x w)
  have HR0 := Lib.hid hr
  by_cases hx : x.size = 32
  · rw [decide_eq_true hx] at HO
    cases hw : wholeL ps
    · have HV := Lib.hid (up_no (x := x) hb (fun h => by rw [hw] at h; cases h.2.1))
      have HP := Lib.hid (fun w1 (h : Below w.heap.size w w1) => whole_any _ ps w1 (hr.below h) (by omega))
      rw [hw] at HP
      clear hb hx hw hr hi hn hp
      go_enter Try.func86, Try.ntmps86
      go_wp2_with fail
      refine HO.out.mono ?_
      rintro e w1 ⟨rfl, hb⟩
      have HB := Lib.hid hb
      clear hb
      go_wp2_with fail
      refine (HP.out w1 HB.out).mono ?_
      rintro e w2 ⟨rfl, hb⟩
      have HB2 := Lib.hid (HB.out.trans (hb.mono HB.out.size))
      clear hb
      go_wp2
      exact HR.out _ _ ⟨by rw [HV.out.1, HV.out.2]; rfl, HB2.out⟩
    · have HP := Lib.hid (fun w1 (h : Below w.heap.size w w1) => whole_any _ ps w1 (hr.below h) (by omega))
      have HC := Lib.hid (fun w1 (h : Below w.heap.size w w1) => climb_any 20 n i x ps _ w1 hi hn (by omega) (by omega) hx hw hp (hr.below h))
      rw [hw] at HP
      rcases climb_twenty n i x ps hi hn with ⟨hl, hc⟩ | ⟨hl, st, hc⟩
      · have hno : ¬ (x.size = 32 ∧ wholeL ps = true ∧ ps.length = (sidesH (n : Int).toNat (i : Int).toNat).length) := fun h => by
          have h9 := h.2.2
          rw [Int.toNat_natCast, Int.toNat_natCast] at h9
          omega
        have HV := Lib.hid (up_no (x := x) hb hno)
        clear hno
        rw [hc] at HC
        clear hb hx hw hr hi hn hp hl hc
        go_enter Try.func86, Try.ntmps86
        go_wp2_with fail
        refine HO.out.mono ?_
        rintro e w1 ⟨rfl, hb⟩
        have HB := Lib.hid hb
        clear hb
        go_wp2_with fail
        refine (HP.out w1 HB.out).mono ?_
        rintro e w2 ⟨rfl, hb⟩
        have HB2 := Lib.hid (HB.out.trans (hb.mono HB.out.size))
        clear hb
        go_wp2_with fail
        refine (HC.out w2 HB2.out).mono ?_
        rintro e w3 ⟨rfl, hb⟩
        have HB3 := Lib.hid (HB2.out.trans (hb.mono HB2.out.size))
        clear hb
        go_wp2
        exact HR.out _ _ ⟨by rw [HV.out.1, HV.out.2]; rfl, HB3.out⟩
      · obtain ⟨S, hS⟩ : ∃ S, upS n i x ps = S := ⟨_, rfl⟩
        rw [hc, hS] at HC
        by_cases he : ps.length = (sidesH n i).length
        · have HV := Lib.hid (up_yes (x := x) hb ⟨hx, hw, by simpa using he⟩)
          simp only [Int.toNat_natCast, hS] at HV
          have hq : (((ps.drop (sidesH n i).length).length : Int) == 0) = true := by rw [beq_iff_eq, List.length_drop]; omega
          generalize ps.drop (sidesH n i).length = rest at *
          clear hb hx hw hr hi hn hp hl hc he hS
          go_enter Try.func86, Try.ntmps86
          go_wp2_with fail
          refine HO.out.mono ?_
          rintro e w1 ⟨rfl, hb⟩
          have HB := Lib.hid hb
          clear hb
          go_wp2_with fail
          refine (HP.out w1 HB.out).mono ?_
          rintro e w2 ⟨rfl, hb⟩
          have HB2 := Lib.hid (HB.out.trans (hb.mono HB.out.size))
          clear hb
          go_wp2_with fail
          refine (HC.out w2 HB2.out).mono ?_
          rintro e w3 ⟨⟨v, rfl, hrow⟩, hb⟩
          have HB3 := Lib.hid (HB2.out.trans (hb.mono HB2.out.size))
          obtain ⟨va, vc, rfl, -⟩ := hrow.shape
          clear hb hrow
          simp only [hq]
          go_wp2
          exact HR.out _ _ ⟨by rw [HV.out.1, HV.out.2]; rfl, HB3.out⟩
        · have HV := Lib.hid (up_no (x := x) hb (fun h => he (by have := h.2.2; simpa using this)))
          have hq : (((ps.drop (sidesH n i).length).length : Int) == 0) = false := by rw [beq_eq_false_iff_ne, List.length_drop]; omega
          generalize ps.drop (sidesH n i).length = rest at *
          clear hb hx hw hr hi hn hp hl hc he hS
          go_enter Try.func86, Try.ntmps86
          go_wp2_with fail
          refine HO.out.mono ?_
          rintro e w1 ⟨rfl, hb⟩
          have HB := Lib.hid hb
          clear hb
          go_wp2_with fail
          refine (HP.out w1 HB.out).mono ?_
          rintro e w2 ⟨rfl, hb⟩
          have HB2 := Lib.hid (HB.out.trans (hb.mono HB.out.size))
          clear hb
          go_wp2_with fail
          refine (HC.out w2 HB2.out).mono ?_
          rintro e w3 ⟨⟨v, rfl, hrow⟩, hb⟩
          have HB3 := Lib.hid (HB2.out.trans (hb.mono HB2.out.size))
          obtain ⟨va, vc, rfl, -⟩ := hrow.shape
          clear hb hrow
          simp only [hq]
          go_wp2
          exact HR.out _ _ ⟨by rw [HV.out.1, HV.out.2]; rfl, HB3.out⟩
  · rw [decide_eq_false hx] at HO
    have HV := Lib.hid (up_no (ps := ps) hb (fun h => hx h.1))
    clear hb hx hr hi hn hp
    go_enter Try.func86, Try.ntmps86
    go_wp2_with fail
    refine HO.out.mono ?_
    rintro e w1 ⟨rfl, hb⟩
    have HB := Lib.hid hb
    clear hb
    go_wp2
    exact HR.out _ _ ⟨by rw [HV.out.1, HV.out.2]; rfl, HB.out⟩
theorem up_any (c i : Int) (x : ByteArray) (ps : List ByteArray) (pv : Value) (w : World) (hp : ps.length ≤ 100000000) (hr : Rd strE w pv ps) :
    Calls Try.prog 86 #[.int .i64 c, .int .i64 i, .string x, pv] w fun e w' => e = .returned (.tuple #[.string (upV c i x ps), .int .i64 (upE c i x ps)]) ∧ Below w.heap.size w w' := by
  by_cases h : c < 1 ∨ 1048576 < c ∨ i < 0 ∨ c ≤ i
  · obtain ⟨pa, pc, rfl, -⟩ := hr.shape
    rw [(up_bad h).1, (up_bad h).2]
    exact up_bad_any c i x pa _ pc w h
  · have e1 : c = ((c.toNat : Nat) : Int) := by omega
    have e2 : i = ((i.toNat : Nat) : Int) := by omega
    have := up_good_any c.toNat i.toNat x ps pv w (by omega) (by omega) hp hr
    rw [← e1, ← e2] at this
    exact this
def isV (root : ByteArray) (c i : Int) (x : ByteArray) (ps : List ByteArray) : Bool := decide (upE c i x ps = 0 ∧ upV c i x ps = root)
theorem check_any (root : ByteArray) (c i : Int) (x : ByteArray) (ps : List ByteArray) (pv : Value) (w : World) (hp : ps.length ≤ 100000000) (hr : Rd strE w pv ps) :
    Calls Try.prog 74 #[.string root, .int .i64 c, .int .i64 i, .string x, pv] w fun e w' => e = .returned (.bool (isV root c i x ps)) ∧ Below w.heap.size w w' := by
  refine calls_by fun R HR => ?_
  have HU := Lib.hid (up_any c i x ps pv w hp hr)
  obtain ⟨pa, pc, rfl, -⟩ := hr.shape
  have hc := up_cases c i x ps
  have HI := Lib.hid (show isV root c i x ps = decide (upE c i x ps = 0 ∧ upV c i x ps = root) from rfl)
  generalize upE c i x ps = e at *
  generalize upV c i x ps = v at *
  generalize isV root c i x ps = is at *
  clear hr hp
  rcases hc with rfl | rfl | rfl
  · by_cases hv : v = root
    · subst hv
      have HI2 := Lib.hid (show is = true by rw [HI.out]; simp)
      go_enter Try.func74, Try.ntmps74
      go_wp2_with fail
      refine HU.out.mono ?_
      rintro e w1 ⟨rfl, hb⟩
      have HB := Lib.hid hb
      clear hb
      go_wp2
      exact HR.out _ _ ⟨by rw [HI2.out]; rfl, HB.out⟩
    · have HI2 := Lib.hid (show is = false by rw [HI.out]; simp [hv])
      have hvb := text_ne hv
      clear hv
      go_enter Try.func74, Try.ntmps74
      go_wp2_with fail
      refine HU.out.mono ?_
      rintro e w1 ⟨rfl, hb⟩
      have HB := Lib.hid hb
      clear hb
      go_wp2
      exact HR.out _ _ ⟨by rw [HI2.out]; rfl, HB.out⟩
  all_goals
    have HI2 := Lib.hid (show is = false by rw [HI.out]; simp)
    go_enter Try.func74, Try.ntmps74
    go_wp2_with fail
    refine HU.out.mono ?_
    rintro e w1 ⟨rfl, hb⟩
    have HB := Lib.hid hb
    clear hb
    go_wp2
    exact HR.out _ _ ⟨by rw [HI2.out]; rfl, HB.out⟩
end Go.Proofs.Ytdbabkkmdlkjaaa
