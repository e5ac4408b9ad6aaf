/- Texts that the claim rests on, part 5: MerklePath, StrBytes, Alive15, MerkleUpPlain, MerkleRef, MerkleRef2, MovedFork. -/
import Derived.Test.YtophfeapmmfppaaProg
import Derived.WalkLawsBesides
import Derived.Test.YtophfeapmmfppaaM4
/- Trees of hashes: a leaf's path. -/
namespace Ks
open Go Go.RowKit
set_option linter.unusedVariables false
def pathS : List (List ByteArray) → Nat → List ByteArray
  | [], _ => []
  | l :: ls, i => sibL l i ++ pathS ls (i / 2)
theorem pathS_snoc (ls : List (List ByteArray)) (l : List ByteArray) (i : Nat) : pathS (ls ++ [l]) i = pathS ls i ++ sibL l (i / 2 ^ ls.length) := by
  induction ls generalizing i with
  | nil => simp [pathS]
  | cons x ls ih =>
    show sibL x i ++ pathS (ls ++ [l]) (i / 2) = sibL x i ++ pathS ls (i / 2) ++ sibL l (i / 2 ^ (ls.length + 1))
    rw [ih, List.append_assoc, Nat.div_div_eq_div_mul, Nat.pow_succ, Nat.mul_comm]
theorem path_levels : ∀ (m : Nat) (l : List ByteArray) (i : Nat), i < l.length → l.length ≤ 2 ^ m → pathS (levelsL l) i = pathM m l i := by
  intro m
  induction m with
  | zero =>
    intro l i hi h
    rw [Nat.pow_zero] at h
    match l, hi, h with
    | [a], hi, _ =>
      obtain rfl : i = 0 := by simpa using hi
      rw [levels_low _ (by simp)]; rfl
  | succ m ih =>
    intro l i hi h
    by_cases h2 : 2 ≤ l.length
    · rw [levels_two l h2]
      show sibL l i ++ pathS (levelsL (aboveL l)) (i / 2) = sibL l i ++ pathM m (aboveL l) (i / 2)
      rw [ih _ _ (by rw [above_length]; omega) (by rw [above_length]; rw [Nat.pow_succ] at h; omega)]
    · match l, hi, h2 with
      | [a], hi, _ =>
        obtain rfl : i = 0 := by simpa using hi
        rw [levels_low _ (by simp), pathM_one]; rfl
      | a :: b :: l, _, h2 => simp at h2
theorem path_levels_eq (l : List ByteArray) (i : Nat) (hi : i < l.length) : pathS (levelsL l) i = pathL l i := by
  have h : l.length ≤ 2 ^ l.length := Nat.le_of_lt Nat.lt_two_pow_self
  rw [path_levels l.length l i hi h, pathM_eq l.length l l.length i rfl hi h]
theorem pathS_len (ls : List (List ByteArray)) (i : Nat) : (pathS ls i).length ≤ ls.length := by
  induction ls generalizing i with
  | nil => simp [pathS]
  | cons l ls ih =>
    have := ih (i / 2)
    have h2 : (sibL l i).length ≤ 1 := by unfold sibL; split <;> simp
    simp only [pathS, List.length_append, List.length_cons]
    omega
theorem levels_len : ∀ (m : Nat) (l : List ByteArray), l.length ≤ 2 ^ m → (levelsL l).length ≤ m + 1 := by
  intro m
  induction m with
  | zero =>
    intro l h
    rw [levels_low l (by rw [Nat.pow_zero] at h; omega)]; simp
  | succ m ih =>
    intro l h
    by_cases h2 : 2 ≤ l.length
    · rw [levels_two l h2]
      have := ih (aboveL l) (by rw [above_length]; rw [Nat.pow_succ] at h; omega)
      simp; omega
    · rw [levels_low l h2]; simp
theorem row_own {T : TypeId} {B : Nat} : Own (fun (x : Lev) W => Row strE W B T x.1 x.2) := by
  intro s W W' row hs hg hr
  refine Row.keep hs fun b e => hg.block b (hs.lt e).2 fun e2 => ?_
  obtain ⟨o, h1, h2⟩ := hr b e2.symm
  rcases hs.2 with ⟨h, _⟩ | ⟨g, cap, cur, h, _, hh, _⟩
  · rw [h] at e; simp [Value.ownBlock] at e
  · rw [h] at e
    simp only [Value.ownBlock, Option.some.injEq] at e
    subst e
    rw [hh] at h1
    cases h1
    cases h2
def downN (i k : Nat) : Nat := i / 2 ^ k
theorem down_zero (i : Nat) : downN i 0 = i := by simp [downN]
theorem down_succ (i k : Nat) : downN i (k + 1) = downN i k / 2 := by rw [downN, downN, Nat.div_div_eq_div_mul, Nat.pow_succ]
theorem tdivTwo (a : Nat) : ((a : Nat) : Int).tdiv 2 = ((a / 2 : Nat) : Int) := by rw [Int.tdiv_eq_ediv_of_nonneg (by omega)]; exact (Int.natCast_ediv _ _).symm
theorem xor_beside (j : Nat) : j ^^^ 1 = besideN j := by
  have h1 : (j ^^^ 1) / 2 = j / 2 := by rw [Nat.xor_div_two]; simp
  have h2 : (j ^^^ 1) % 2 = (j + 1) % 2 := by
    rcases Nat.mod_two_eq_zero_or_one j with h | h
    · have := (Nat.xor_mod_two_eq_one (a := j) (b := 1)).2 (by omega)
      omega
    · have h3 : ¬ (j ^^^ 1) % 2 = 1 := fun h4 => by
        have := (Nat.xor_mod_two_eq_one (a := j) (b := 1)).1 h4
        omega
      omega
  unfold besideN
  split <;> omega
theorem xor_one (j : Nat) (h : j < 1000000000) : bits .xor .i64 (j : Int) 1 = ((besideN j : Nat) : Int) := by
  have e : (2 : Nat) ^ 63 = 9223372036854775808 := by decide
  have := xor_i64 j 1 (by rw [e]; omega) (by rw [e]; omega)
  rw [xor_beside] at this
  exact this
def pathE (l : List ByteArray) (i : Int) : Int := if wholeL l = true ∧ 0 ≤ i ∧ i < l.length then 0 else 2
def pathV (l : List ByteArray) (i : Int) : List ByteArray := if wholeL l = true ∧ 0 ≤ i ∧ i < l.length then pathL l i.toNat else []
end Ks
namespace Go.Proofs.Ytophfeapmmfppaa
open Go.RowKit Ks
set_option linter.unusedVariables false
attribute [local go_sem] Oper.semAt_some
theorem pathT : ElemT Try.prog 28 9 strE.k 16 := elemT_of Try.underlying28 Try.infoS rfl
set_option maxRecDepth 100000 in
set_option maxHeartbeats 2000000 in
theorem path_no (lv : Value) (l : List ByteArray) (i : Int) (w : World) (hr : Rd strE w lv l) (hl : l.length ≤ 100000000) (hno : wholeL l = false ∨ i < 0 ∨ l.length ≤ i) :
    Calls Try.prog 11 #[lv, .int .i64 i] w fun e w' => e = .returned (.tuple #[.slice none 0 0, .int .i64 2]) ∧ Below w.heap.size w w' := by
  obtain ⟨a, cap, rfl, -⟩ := hr.shape
  obtain ⟨W, hW⟩ : ∃ W, w.alloc (.cells #[.int .i64 i] 3) = W := ⟨_, rfl⟩
  have hb0 : Below w.heap.size w W := by rw [← hW]; exact alloc_below w _
  have hk : W.heap[w.heap.size]? = some (.cells #[.int .i64 i] 3 (0, 0)) := by rw [← hW]; exact alloc_new w _
  have HW := whole_any _ l W (hr.below hb0) (by omega)
  have HA := Lib.hid (And.intro hb0 hk)
  clear hb0 hk hr hl
  obtain ⟨b, hb⟩ : ∃ b, wholeL l = b := ⟨_, rfl⟩
  rw [hb] at HW hno
  have HW := Lib.hid HW
  clear hb
  refine (callsIn_wide (n := 5)).1 ?_
  refine callsIn_of_wp_marks Try.func11 rfl trivial ?_ rfl
  simp only [Try.ntmps11, List.size_toArray, List.length_cons, List.length_nil, Nat.reduceAdd, Nat.reduceSub, Array.replicate_succ, Array.replicate_zero, List.push_toArray, List.append_toArray, List.nil_append, List.cons_append]
  cases b
  · gi_wp2
    refine ⟨trivial, (callsIn_wide.2 HW.out).mono ?_⟩
    rintro e w1 ⟨rfl, hb⟩
    have HB := Lib.hid (HA.out.1.trans (hb.mono HA.out.1.size))
    clear hb hW
    gi_wp2
    exact ⟨_, results_tmp2 rfl _ _ _, rfl, HB.out⟩
  · have hno : i < 0 ∨ (l.length : Int) ≤ i := hno.elim (fun h => by cases h) id
    by_cases h0 : i < 0
    all_goals
      first | (have h0' : (l.length : Int) ≤ i := by omega) | skip
      gi_wp2
      refine ⟨trivial, (callsIn_wide.2 HW.out).mono ?_⟩
      rintro e w1 ⟨rfl, hb⟩
      have HB := Lib.hid (HA.out.1.trans (hb.mono HA.out.1.size))
      obtain ⟨c0, -⟩ := blk1 (blk_on hb HA.out.2)
      clear hb hW
      gi_wp2
      exact ⟨_, results_tmp2 rfl _ _ _, rfl, HB.out⟩
set_option maxRecDepth 100000 in
set_option maxHeartbeats 2000000 in
theorem path_yes (lv : Value) (l : List ByteArray) (i : Nat) (w : World) (hr : Rd strE w lv l) (hl : l.length ≤ 100000000) (hw : wholeL l = true) (hi : i < l.length) :
    Calls Try.prog 11 #[lv, .int .i64 (i : Nat)] w fun e w' => ∃ v, e = .returned (.tuple #[v, .int .i64 0]) ∧ Row strE w' w.heap.size 9 v (pathL l i) ∧ Below w.heap.size w w' := by
  obtain ⟨a, cap, rfl, -⟩ := hr.shape
  obtain ⟨W, hW⟩ : ∃ W, w.alloc (.cells #[.int .i64 (i : Nat)] 3) = W := ⟨_, rfl⟩
  have hb0 : Below w.heap.size w W := by rw [← hW]; exact alloc_below w _
  have hk : W.heap[w.heap.size]? = some (.cells #[.int .i64 (i : Nat)] 3 (0, 0)) := by rw [← hW]; exact alloc_new w _
  have HW := whole_any _ l W (hr.below hb0) (by omega)
  rw [hw] at HW
  have HW := Lib.hid HW
  have HS := Lib.hid (And.intro hr (And.intro hl hw))
  have HA := Lib.hid (And.intro hb0 hk)
  have h0 : ¬ (i : Int) < 0 := by omega
  have h1 : ¬ (l.length : Int) ≤ (i : Int) := by omega
  have HI := Lib.hid hi
  clear hr hl hw hb0 hk hi
  refine (callsIn_wide (n := 5)).1 ?_
  refine callsIn_of_wp_marks Try.func11 rfl trivial ?_ rfl
  simp only [Try.ntmps11, List.size_toArray, List.length_cons, List.length_nil, Nat.reduceAdd, Nat.reduceSub, Array.replicate_succ, Array.replicate_zero, List.push_toArray, List.append_toArray, List.nil_append, List.cons_append]
  gi_wp2
  refine ⟨trivial, (callsIn_wide.2 HW.out).mono ?_⟩
  rintro e w1 ⟨rfl, hb⟩
  have HB := Lib.hid (And.intro (HA.out.1.trans (hb.mono HA.out.1.size)) (blk_on hb HA.out.2))
  obtain ⟨c0, -⟩ := blk1 HB.out.2
  clear hb hW
  gi_wp2
  refine ⟨trivial, (callsIn_wide.2 (levels_any a l.length cap _)).mono ?_⟩
  rintro e w4 ⟨rfl, rfl⟩
  obtain ⟨V, hV⟩ : ∃ V, (w1.alloc (.cells #[.slice none 0 0] 28)).alloc (.cells #[.slice a l.length cap] 22) = V := ⟨_, rfl⟩
  have hVs : V.heap.size = w1.heap.size + 2 := by rw [← hV]; simp
  have k1 : V.heap[w1.heap.size]? = some (.cells #[.slice none 0 0] 28 (0, 0)) := by rw [← hV]; exact blk_on (alloc_below _ _) (alloc_new _ _)
  have k2 : V.heap[w1.heap.size + 1]? = some (.cells #[.slice a l.length cap] 22 (0, 0)) := by
    rw [← hV]
    have := alloc_new (w1.alloc (.cells #[.slice none 0 0] 28)) (.cells #[.slice a l.length cap] 22)
    rwa [World.size_alloc] at this
  have hbV : Below w1.heap.size w1 V := by rw [← hV]; exact (alloc_below w1 _).trans ((alloc_below _ _).mono (by simp))
  have HV := Lib.hid (And.intro (HB.out.1.trans (hbV.mono HB.out.1.size)) (And.intro (blk_on hbV HB.out.2) (And.intro k1 (And.intro k2 hVs))))
  have HLV := Lib.hid (path_levels_eq l i HI.out)
  have HLL := Lib.hid (levels_len 27 l (Nat.le_trans HS.out.2.1 (by decide)))
  have hwlt : w.heap.size < w1.heap.size := lt_of_block HB.out.2
  clear k1 k2 hbV
  gi_wp2
  have hI : OwnFrom V.heap.size (fun (pre : List Lev) W => (W.cell? ⟨w.heap.size, 0, none⟩ = some (.int .i64 ((downN i pre.length : Nat) : Int)) ∧ W.frozen? ⟨w.heap.size, 0, none⟩ = false) ∧ (∃ v, W.cell? ⟨w1.heap.size, 0, none⟩ = some v ∧ W.frozen? ⟨w1.heap.size, 0, none⟩ = false ∧ Row strE W (w1.heap.size + 2) 9 v (pathS (pre.map Prod.snd) i)) ∧ Below w.heap.size w W) := by
    rintro pre A B row ⟨⟨h1, h2⟩, ⟨v, h3, h4, h5⟩, h6⟩ hg hr
    have hr' := fun r e => (hr r e).2
    exact ⟨⟨cell_kept h1 hg hr', (frozen_kept h1 hg hr').trans h2⟩, ⟨v, cell_kept h3 hg hr', (frozen_kept h3 hg hr').trans h4, row_own (v, _) A B row h5 hg hr'⟩, h6.grown hg h6.size (fun k e => by have := (hr k e).1; omega)⟩
  have hM : OwnFrom V.heap.size (fun (s : List Lev × Lev) W => (((W.cell? ⟨w.heap.size, 0, none⟩ = some (.int .i64 ((downN i s.1.length : Nat) : Int)) ∧ W.frozen? ⟨w.heap.size, 0, none⟩ = false) ∧ (∃ v, W.cell? ⟨w1.heap.size, 0, none⟩ = some v ∧ W.frozen? ⟨w1.heap.size, 0, none⟩ = false ∧ Row strE W (w1.heap.size + 2) 9 v (pathS (s.1.map Prod.snd) i) ∧ (s.2.2 ≠ [] → ∀ b, v.ownBlock = some b → s.2.1.ownBlock ≠ some b)) ∧ Below w.heap.size w W) ∧ levX s.2 W) ∧ (s.2.2 ≠ [] → s.2.1.ownBlock ≠ some w1.heap.size ∧ s.2.1.ownBlock ≠ some w.heap.size) ∧ s.1.length ≤ 40) := by
    rintro ⟨pre, x⟩ A B row ⟨⟨⟨⟨h1, h2⟩, ⟨v, h3, h4, h5, h5'⟩, h6⟩, h7⟩, h8⟩ hg hr
    have hr' := fun r e => (hr r e).2
    exact ⟨⟨⟨⟨cell_kept h1 hg hr', (frozen_kept h1 hg hr').trans h2⟩, ⟨v, cell_kept h3 hg hr', (frozen_kept h3 hg hr').trans h4, row_own (v, _) A B row h5 hg hr', h5'⟩, h6.grown hg h6.size (fun k e => by have := (hr k e).1; omega)⟩, rd_own x A B row h7 hg hr'⟩, h8⟩
  refine wpIn_range_seen (α := Lev) rfl (by omega) (gf := 36) (lb := #[.pointer (some ⟨w1.heap.size + 1, 0, none⟩)]) rfl trivial (enters_of Try.func36 (by kernel_rfl) rfl)
    (levels_seen _ (w1.heap.size + 1) _ l _ (by omega) (blk1 HV.out.2.2.2.1).1 (HS.out.1.below HV.out.1) HS.out.2.2 HS.out.2.1) (fun _ => rfl)
    (fun pre W => (W.cell? ⟨w.heap.size, 0, none⟩ = some (.int .i64 ((downN i pre.length : Nat) : Int)) ∧ W.frozen? ⟨w.heap.size, 0, none⟩ = false) ∧ (∃ v, W.cell? ⟨w1.heap.size, 0, none⟩ = some v ∧ W.frozen? ⟨w1.heap.size, 0, none⟩ = false ∧ Row strE W (w1.heap.size + 2) 9 v (pathS (pre.map Prod.snd) i)) ∧ Below w.heap.size w W)
    (fun pre x W => (((W.cell? ⟨w.heap.size, 0, none⟩ = some (.int .i64 ((downN i pre.length : Nat) : Int)) ∧ W.frozen? ⟨w.heap.size, 0, none⟩ = false) ∧ (∃ v, W.cell? ⟨w1.heap.size, 0, none⟩ = some v ∧ W.frozen? ⟨w1.heap.size, 0, none⟩ = false ∧ Row strE W (w1.heap.size + 2) 9 v (pathS (pre.map Prod.snd) i) ∧ (x.2 ≠ [] → ∀ b, v.ownBlock = some b → x.1.ownBlock ≠ some b)) ∧ Below w.heap.size w W) ∧ levX x W) ∧ (x.2 ≠ [] → x.1.ownBlock ≠ some w1.heap.size ∧ x.1.ownBlock ≠ some w.heap.size) ∧ pre.length ≤ 40)
    hI hM
    (Own.from rd_own _)
    ?hIB ?hIM ?h0
    (fun x => { tmps := #[.slice a l.length cap, .int .i64 (i : Nat), undef, .pointer (some ⟨w.heap.size, 0, none⟩), .slice none 0 0, .int .i64 0, .pointer (some ⟨w1.heap.size, 0, none⟩), x.1, undef, .slice a l.length cap, .bool true, .bool false, .bool false, .int .i64 (i : Nat), .bool (decide ((i : Int) < 0)), .bool (decide ((i : Int) < 0)), .bool (decide ((i : Int) < 0)), .int .i64 (i : Nat), .slice a l.length cap, .int .i64 (l.length : Nat), .bool false, .bool (decide ((i : Int) < 0)), .slice a l.length cap, .func (.func 36) #[] #[.pointer (some ⟨w1.heap.size + 1, 0, none⟩)], x.1, undef, undef, undef, undef, undef, undef, undef, undef, undef, undef, undef, undef, undef, undef, undef, undef], defers := [] }) ?assign ?body ?done
  case hIB =>
    rintro pre A B ⟨⟨h1, h2⟩, ⟨v, h3, h4, h5⟩, h6⟩ hA hb
    rw [hVs] at hA
    exact ⟨⟨(hb.cell (p := ⟨w.heap.size, 0, none⟩) (by simp; omega)).trans h1, (hb.frozen (p := ⟨w.heap.size, 0, none⟩) (by simp; omega)).trans h2⟩, ⟨v, (hb.cell (p := ⟨w1.heap.size, 0, none⟩) (by simp; omega)).trans h3, (hb.frozen (p := ⟨w1.heap.size, 0, none⟩) (by simp; omega)).trans h4, h5.below hb⟩, h6.trans (hb.mono h6.size)⟩
  case hIM =>
    rintro pre x A B ⟨⟨h1, h2⟩, ⟨v, h3, h4, h5⟩, h6⟩ hA hb hn
    rw [hVs] at hA
    refine ⟨⟨⟨⟨(hb.cell (p := ⟨w.heap.size, 0, none⟩) (by simp; omega)).trans h1, (hb.frozen (p := ⟨w.heap.size, 0, none⟩) (by simp; omega)).trans h2⟩, ⟨v, (hb.cell (p := ⟨w1.heap.size, 0, none⟩) (by simp; omega)).trans h3, (hb.frozen (p := ⟨w1.heap.size, 0, none⟩) (by simp; omega)).trans h4, h5.below hb, fun _ b e e2 => ?_⟩, h6.trans (hb.mono h6.size)⟩, hn.1.rd⟩, fun _ => ⟨fun e => ?_, fun e => ?_⟩, ?_⟩
    · have := (hn.1.lt e2).1
      have := (h5.lt e).2
      omega
    · have := (hn.1.lt e).1
      omega
    · have := (hn.1.lt e).1
      omega
    · obtain ⟨t, ht⟩ := hn.2
      have h9 := congrArg List.length ht
      have h10 := HLL.out
      simp only [List.length_append, List.length_map, List.length_cons] at h9
      omega
  case h0 =>
    intro A hb
    have hbA := HV.out.1.trans (hb.mono HV.out.1.size)
    refine ⟨⟨⟨⟨by rw [List.length_nil, down_zero]; exact (blk1 (blk_on hb HV.out.2.1)).1, (blk1 (blk_on hb HV.out.2.1)).2⟩, ⟨_, (blk1 (blk_on hb HV.out.2.2.1)).1, (blk1 (blk_on hb HV.out.2.2.1)).2, Row.nil _ _ _, fun _ b e => by simp [Value.ownBlock] at e⟩, hbA⟩, HS.out.1.below hbA⟩, fun hl => ⟨HS.out.1.low HB.out.1.size hl, HS.out.1.low (Nat.le_refl _) hl⟩, by simp⟩
  case assign =>
    intro lp x W K hK
    gi_wp2
    exact hK
  case body =>
    rintro lp pre ⟨xv, L⟩ W hsz ⟨⟨⟨⟨h1, h2⟩, ⟨v, h3, h4, h5, h6⟩, h7⟩, hx⟩, hne, hlen⟩
    rw [hVs] at hsz
    change Rd strE W xv L at hx
    obtain ⟨a', c', rfl, -⟩ := hx.shape
    obtain ⟨j, hj⟩ : ∃ j, downN i pre.length = j := ⟨_, rfl⟩
    have HP := Lib.hid (pathS_snoc (pre.map Prod.snd) L i)
    have hjb : j < 1000000000 := by
      rw [← hj, downN]
      have := Nat.div_le_self i (2 ^ pre.length)
      have := HI.out
      have := HS.out.2.1
      omega
    have HJ := Lib.hid (show downN i (pre ++ [((.slice a' L.length c', L) : Lev)]).length = j / 2 by rw [List.length_append, List.length_singleton, down_succ, hj])
    rw [List.length_map, show i / 2 ^ pre.length = j from hj] at HP
    rw [hj] at h1
    have hxor := xor_one j hjb
    obtain ⟨j2, hj2⟩ : ∃ j2, j / 2 = j2 := ⟨_, rfl⟩
    rw [hj2] at HJ
    have hdv : wrap64 ((j : Int) / 2) = ((j2 : Nat) : Int) := by rw [wrap64, ← hj2]; omega
    clear hj2
    have HX := Lib.hid (And.intro hx (And.intro h7 (And.intro hne (And.intro h5 h6))))
    have HC := Lib.hid (And.intro h1 (And.intro h2 (And.intro h3 h4)))
    have HSZ := Lib.hid hsz
    have hvo : v.ownBlock ≠ some w1.heap.size := fun e => by have := (h5.lt e).1; omega
    have hvi : v.ownBlock ≠ some w.heap.size := fun e => by have := (h5.lt e).1; omega
    have HNE := Lib.hid (And.intro hvo hvi)
    have hPL := (show (pathS (pre.map Prod.snd) i).length ≤ 1000000 by have := pathS_len (pre.map Prod.snd) i; rw [List.length_map] at this; change pre.length ≤ 40 at hlen; omega)
    obtain ⟨P, hP⟩ : ∃ P, pathS (pre.map Prod.snd) i = P := ⟨_, rfl⟩
    rw [hP] at h5 HP hPL
    have hPL := Lib.hid hPL
    clear hj hjb h6 h7 hne hsz hlen
    by_cases hbes : besideN j < L.length
    · have hbi : ((besideN j : Nat) : Int) < (L.length : Int) := by omega
      obtain ⟨b, o, rfl, hbW, c1⟩ := hx.str _ hbes
      have HSB := Lib.hid (show sibL L j = [L[besideN j]] by rw [sibL, if_pos hbes, List.getD_eq_getElem?_getD, List.getElem?_eq_getElem hbes]; rfl)
      have hL : L ≠ [] := fun e => by subst e; simp at hbes
      have hbo : b ≠ w1.heap.size := fun e => by have := (HX.out.2.2.1 hL).1; rw [e] at this; exact this rfl
      have hbi2 : b ≠ w.heap.size := fun e => by have := (HX.out.2.2.1 hL).2; rw [e] at this; exact this rfl
      have hbv : v.ownBlock ≠ some b := fun e => by have := HX.out.2.2.2.2 hL b e; exact this rfl
      generalize besideN j = k0 at *
      generalize L[k0] = y at *
      have HB5 := Lib.hid (And.intro h5 (And.intro hbo (And.intro hbi2 (And.intro hbv hbW))))
      have HT := Lib.hid (And.intro hL hbes)
      clear hL hbes hx hvi hP
      gi_wp2
      refine wpIn_region_mv (fun f => AppStore strE (w1.heap.size + 2) W 9 v P [y] w1.heap.size (f 0) (f 5) (f 6) (f 7)) (by kernel_rfl) (by kernel_rfl) (AppStore.start h5 (drew_below W)) ?_
      obtain ⟨S, F, hF, hFC⟩ := moved_class (fun f => AppStore strE (w1.heap.size + 2) W 9 v P [y] w1.heap.size (f 0) (f 5) (f 6) (f 7))
      obtain ⟨S0, F0, hF0, hFC0⟩ := moved_classN (fun f => AppStore strE (w1.heap.size + 2) W 9 v P [y] w1.heap.size (f 0) (f 5) (f 6) (f 7)) 0
      have k0c : ∀ s, (F s).cell? ⟨b, o + k0, none⟩ = some (.string y) := fun s => (hFC s).choose_spec.cell c1 hbv hbo
      have k1c : ∀ s, (F0 s).cell? ⟨w1.heap.size, 0, none⟩ = some v := fun s => by
        have h := (hFC0 s).choose_spec
        have h2 := h.2
        simp only [h.1] at h2
        exact h2.box HC.out.2.2.1 hvo
      clear h5 c1 h1 h3 h4
      show wpAnyM _ _ _ _ _ 8 (Array.replicate 8 false) _ _
      refine mv_readN 0 hF0 (fun f w v _ h => h.read v) rfl (by kernel_rfl) (by kernel_rfl) (by kernel_rfl) (fun K hK => ?_)
      go_simp
      first | refine ⟨_, fun _ => rfl, hK _ _ ?_⟩ | refine hK _ _ ?_
      clear hK K
      refine mv_read 1 hF (fun _ _ _ h => h) rfl (by kernel_rfl) (by kernel_rfl) (by kernel_rfl) (fun K hK => ?_)
      go_simp
      first | refine ⟨_, fun _ => rfl, hK _ _ ?_⟩ | refine hK _ _ ?_
      clear hK K
      refine mv_read 2 hF (fun _ _ _ h => h) rfl (by kernel_rfl) (by kernel_rfl) (by kernel_rfl) (fun K hK => ?_)
      go_simp
      first | refine ⟨_, fun _ => rfl, hK _ _ ?_⟩ | refine hK _ _ ?_
      clear hK K
      refine mv_read 3 hF (fun _ _ _ h => h) rfl (by kernel_rfl) (by kernel_rfl) (by kernel_rfl) (fun K hK => ?_)
      go_simp
      first | refine ⟨_, fun _ => rfl, hK _ _ ?_⟩ | refine hK _ _ ?_
      clear hK K
      refine mv_read 4 hF (fun _ _ _ h => h) rfl (by kernel_rfl) (by kernel_rfl) (by kernel_rfl) (fun K hK => ?_)
      go_simp
      first | refine ⟨_, fun _ => rfl, hK _ _ ?_⟩ | refine hK _ _ ?_
      clear hK K
      refine mv_alone 5 rfl (by kernel_rfl) rfl (fun v => ∃ g, v = .slice (some ⟨g, 0, none⟩) 1 1) (fun g w _ h0 h D hD => ?_) ?_
      · have h9 := h
        simp only [h0] at h9
        have h8 := h9.made #[.string y] rfl
        clear h h9
        go_simp
        exact hD _ _ ⟨_, rfl⟩ h8
      rintro _ ⟨gs, rfl⟩
      refine mv_append 6 rfl (by kernel_rfl) rfl (.tmp 31) (.tmp 36) 28 rfl pathT (w1.heap.size + 2) _ _ P [y] rfl rfl (by have := hPL.out; simp; omega) (by decide) (fun g w ha h0 h => ?_) (fun v' => ∃ a n c, v' = .slice a n c) (fun g w v' w' ha h0 h hG => ?_) ?_
      · have e1 : g 5 = some (.slice (some ⟨gs, 0, none⟩) 1 1) := (agree_on 5 ha (by kernel_rfl)).trans rfl
        simp only [e1, h0] at h
        exact h.rows (by have := HSZ.out; omega)
      · have e1 : g 5 = some (.slice (some ⟨gs, 0, none⟩) 1 1) := (agree_on 5 ha (by kernel_rfl)).trans rfl
        have e2 : g 0 = some v := (agree_on 0 ha (by kernel_rfl)).trans rfl
        simp only [e1, e2, h0] at h
        obtain ⟨a9, c9, e9, -⟩ := hG.1.shape
        refine ⟨⟨_, _, _, e9⟩, ?_⟩
        show AppStore _ _ _ _ _ _ _ _ (g 0) (g 5) _ _ _
        rw [e1, e2]
        exact h.grew hG
      rintro _ ⟨az, nz, cz, rfl⟩
      refine mv_alone 7 rfl (by kernel_rfl) rfl (fun _ => True) (fun g w ha h0 h D hD => ?_) ?_
      · have e1 : g 6 = some (.slice az nz cz) := (agree_on 6 ha (by kernel_rfl)).trans rfl
        simp only [e1, h0] at h
        have q1 := h.1.cell HC.out.2.2.1 hvo
        have q2 := h.1.frozen HC.out.2.2.1 HC.out.2.2.2 hvo
        have hD2 := hD undef (w.setCell ⟨w1.heap.size, 0, none⟩ (.slice az nz cz)) trivial (by show AppStore _ _ _ _ _ _ _ _ (g 0) (g 5) (g 6) _ _; rw [e1]; exact h.stored)
        clear hD h
        go_simp
        exact hD2
      rintro vs -
      refine mv_end (by kernel_rfl) ?_
      intro w2 hw2
      have HG : AppStore strE (w1.heap.size + 2) W 9 v P [y] w1.heap.size (some v) (some (.slice (some ⟨gs, 0, none⟩) 1 1)) (some (.slice az nz cz)) (some vs) w2 := hw2
      obtain ⟨w3, g1, g2, rfl⟩ := HG.done
      have hsz3 := g1.size
      have hblk : ∀ k, k < W.heap.size → v.ownBlock ≠ some k → w3.heap[k]? = W.heap[k]? := fun k hk hv => g1.block k hk fun e => hv e.symm
      have hWi : w.heap.size < W.heap.size := by have := HSZ.out; omega
      have hWo : w1.heap.size < W.heap.size := by have := HSZ.out; omega
      have q1 : (w3.setCell ⟨w1.heap.size, 0, none⟩ (.slice az nz cz)).cell? ⟨w.heap.size, 0, none⟩ = some (.int .i64 (j : Nat)) := by
        rw [World.cell?_of_block (w := W) (by show (w3.setCell ⟨w1.heap.size, 0, none⟩ (.slice az nz cz)).heap[w.heap.size]? = _; rw [set_ne _ (by omega)]; exact hblk _ hWi HNE.out.2)]
        exact HC.out.1
      have q2 : (w3.setCell ⟨w1.heap.size, 0, none⟩ (.slice az nz cz)).frozen? ⟨w.heap.size, 0, none⟩ = false := by
        rw [World.frozen?_of_block (w := W) (by show (w3.setCell ⟨w1.heap.size, 0, none⟩ (.slice az nz cz)).heap[w.heap.size]? = _; rw [set_ne _ (by omega)]; exact hblk _ hWi HNE.out.2)]
        exact HC.out.2.1
      have q3 : w3.cell? ⟨w1.heap.size, 0, none⟩ = some v := by
        rw [World.cell?_of_block (w := W) (hblk _ hWo HNE.out.1)]; exact HC.out.2.2.1
      have q4 : w3.frozen? ⟨w1.heap.size, 0, none⟩ = false := by
        rw [World.frozen?_of_block (w := W) (hblk _ hWo HNE.out.1)]; exact HC.out.2.2.2
      have HQ := Lib.hid (And.intro q3 (And.intro q4 (And.intro g2 (And.intro hsz3 (And.intro hblk (And.intro g1 (And.intro hWi hWo)))))))
      clear hw2 HG hF hFC hF0 hFC0 k0c k1c q3 q4 g2 hsz3 hblk g1 hWi hWo
      gi_wp2
      have hrowlt := fun bb e => (HQ.out.2.2.1.lt (b := bb) e).1
      have hbk : ∀ k, k < W.heap.size → v.ownBlock ≠ some k → k ≠ w.heap.size → k ≠ w1.heap.size → ((w3.setCell ⟨w1.heap.size, 0, none⟩ (.slice az nz cz)).setCell ⟨w.heap.size, 0, none⟩ (.int .i64 ((j2 : Nat) : Int))).heap[k]? = W.heap[k]? := fun k hk hv n1 n2 => by
        rw [set_ne _ n1, set_ne _ n2]; exact HQ.out.2.2.2.2.1 k hk hv
      refine ⟨⟨by simp; have := HQ.out.2.2.2.1; omega, fun k ob hB hk ho => ?_⟩, ⟨⟨?_, ?_⟩, ⟨(.slice az nz cz), ?_, ?_, ?_⟩, ?_⟩, ?_⟩
      · rw [hbk k (lt_of_block hk) (fun e => ?_) (by omega) (by omega)]
        · exact hk
        · rcases HB5.out.1.2 with ⟨h, _⟩ | ⟨g, cap, cur, h, _, hh, _⟩
          · rw [h] at e; simp [Value.ownBlock] at e
          · rw [h] at e
            simp only [Value.ownBlock, Option.some.injEq] at e
            subst e
            rw [hh] at hk
            cases hk
            cases ho
      · rw [HJ.out]
        exact World.cell?_setCell_same' _ _ _ (by rw [q1]; rfl)
      · rw [World.frozen?_setCell]; exact q2
      · rw [World.cell?_of_block (w := w3.setCell ⟨w1.heap.size, 0, none⟩ (.slice az nz cz)) (set_ne _ (by show w1.heap.size ≠ w.heap.size; omega))]
        exact World.cell?_setCell_same' _ _ _ (by rw [HQ.out.1]; rfl)
      · rw [World.frozen?_setCell, World.frozen?_setCell]; exact HQ.out.2.1
      · rw [List.map_append, show [((.slice (some ⟨b, o, none⟩) L.length c', L) : Lev)].map Prod.snd = [L] from rfl, HP.out, HSB.out]
        refine HQ.out.2.2.1.keep fun bb e => ?_
        have := hrowlt bb e
        rw [set_ne _ (by omega), set_ne _ (by omega)]
      · exact ((HX.out.2.1.grown HQ.out.2.2.2.2.2.1 HX.out.2.1.size (fun bb e => by have := (HB5.out.1.lt e).1; omega)).setCell (p := ⟨w1.heap.size, 0, none⟩) (by simp; omega) _).setCell (p := ⟨w.heap.size, 0, none⟩) (Nat.le_refl _) _
      · refine HX.out.1.keep (by simp; exact HQ.out.2.2.2.1) fun bb e => ?_
        simp only [Value.ownBlock, Option.some.injEq] at e
        subst e
        exact hbk b HB5.out.2.2.2.2 HB5.out.2.2.2.1 HB5.out.2.2.1 HB5.out.2.1
    · have hbi : ¬ ((besideN j : Nat) : Int) < (L.length : Int) := by omega
      have HSB := Lib.hid (show sibL L j = [] by rw [sibL, if_neg hbes])
      generalize besideN j = k0 at *
      have HB5 := Lib.hid h5
      clear hbes hx hvi hvo h5 h3 h4 hP
      gi_wp2
      refine ⟨(KeepsOthers.setCell _ _ _).from _, ⟨⟨?_, ?_⟩, ⟨v, ?_, ?_, ?_⟩, ?_⟩, ?_⟩
      · rw [HJ.out]
        exact World.cell?_setCell_same' _ _ _ (by rw [HC.out.1]; rfl)
      · rw [World.frozen?_setCell]; exact HC.out.2.1
      · rw [World.cell?_of_block (w := W) (set_ne _ (by show w1.heap.size ≠ w.heap.size; omega))]; exact HC.out.2.2.1
      · rw [World.frozen?_setCell]; exact HC.out.2.2.2
      · rw [List.map_append, show [((.slice a' L.length c', L) : Lev)].map Prod.snd = [L] from rfl, HP.out, HSB.out, List.append_nil]
        refine HB5.out.keep fun bb e => set_ne _ ?_
        have := (HB5.out.lt e).1
        omega
      · exact HX.out.2.1.setCell (p := ⟨w.heap.size, 0, none⟩) (Nat.le_refl _) _
      · exact Rd.put' HX.out.1 _ fun hl => (HX.out.2.2.1 hl).2
  case done =>
    rintro D xs W hD hS ⟨⟨h1, h2⟩, ⟨v, h3, h4, h5⟩, h6⟩ hK
    rw [hS, HLV.out] at h5
    gi_wp2
    refine ⟨by simp, .inl ⟨_, _, rfl, run_takeDeferred hK, ?_⟩⟩
    refine ⟨_, results_tmp2 rfl _ _ _, v, rfl, ?_, h6.trans (belowK_b (w := w) (Nat.le_refl _) W D _ _ (by have := HB.out.1.size; omega) hK rfl rfl)⟩
    refine (row_own (v, _) W _ (some D) h5 (grownBy_putObj' _ D (.deferred none)) (fun r e => by cases e; exact ⟨_, hK, rfl⟩)).down (by have := HB.out.1.size; omega)
theorem path_any (lv : Value) (l : List ByteArray) (i : Int) (w : World) (hr : Rd strE w lv l) (hl : l.length ≤ 100000000) :
    Calls Try.prog 11 #[lv, .int .i64 i] w fun e w' => ∃ v, e = .returned (.tuple #[v, .int .i64 (pathE l i)]) ∧ Row strE w' w.heap.size 9 v (pathV l i) ∧ Below w.heap.size w w' := by
  unfold pathE pathV
  by_cases h : wholeL l = true ∧ 0 ≤ i ∧ i < l.length
  · rw [if_pos h, if_pos h]
    have e : i = ((i.toNat : Nat) : Int) := by omega
    have := path_yes lv l i.toNat w hr hl h.1 (by omega)
    rw [← e] at this
    exact this
  · rw [if_neg h, if_neg h]
    refine (path_no lv l i w hr hl ?_).mono fun e w' ⟨h1, h2⟩ => ⟨_, h1, Row.nil _ _ _, h2⟩
    cases hw : wholeL l
    · exact .inl rfl
    · exact .inr (by by_cases h0 : i < 0; exact .inl h0; exact .inr (by rcases Int.lt_or_le i l.length with h2 | h2; exact absurd ⟨hw, by omega, h2⟩ h; exact h2))
end Go.Proofs.Ytophfeapmmfppaa
/- The reference's Bytes: of how many bytes texts are (of the first 2000, at most 100000 each). -/
namespace Ks
open Go Go.RowKit
set_option linter.unusedVariables false
def bytesN (l : List ByteArray) : Nat := ((l.take 2000).map fun s => min s.size 100000).sum
theorem bytesN_join (l : List ByteArray) (h : l.length ≤ 2000) (hb : bytesN l < 100000) : (joinL l).length = bytesN l := by
  rw [bytesN, List.take_of_length_le h] at hb ⊢
  clear h
  induction l with
  | nil => rfl
  | cons s l ih =>
    simp only [List.map_cons, List.sum_cons] at hb ⊢
    have := ih (by omega)
    rw [← this, joinL, List.flatMap_cons, List.length_append, data_length]
    have : min s.size 100000 = s.size := by omega
    rw [this]; rfl
theorem bytesN_take (l : List ByteArray) (k : Nat) (h : k < l.length) (h2 : k < 2000) : ((l.take (k + 1)).map fun s => min s.size 100000).sum = ((l.take k).map fun s => min s.size 100000).sum + min l[k].size 100000 := by
  rw [List.take_succ_eq_append_getElem h, List.map_append, List.sum_append]; simp
end Ks
namespace Go.Proofs.Ytophfeapmmfppaa
open Go.RowKit Ks
set_option linter.unusedVariables false
set_option maxHeartbeats 1000000 in
theorem bytes_any (l : List ByteArray) (v : Value) (w : World) (hv : Rd strE w v l) : Calls Try.prog 24 #[v] w fun e w' => e = .returned (.int .i64 (bytesN l : Nat)) ∧ w' = w := by
  refine calls_by fun R HR => ?_
  obtain ⟨a, cap, rfl, _, _⟩ := hv.shape
  have HV := Lib.hid hv
  clear hv
  go_enter Try.func24, Try.ntmps24
  go_wp2
  go_loop [4, 3] (fun i x => ∃ (k n : Nat), k ≤ l.length ∧ k ≤ 2000 ∧ n ≤ 100000 * k ∧ i = .int .i64 k ∧ x = .int .i64 n ∧ Hid (n = ((l.take k).map fun s => min s.size 100000).sum)) (fun i _ => 2000 - (intOf i).toNat)
  case atStart => exact ⟨0, 0, by omega, by omega, by omega, rfl, rfl, Lib.hid rfl⟩
  case round =>
    obtain ⟨k, n, hk, hk2, hnb, rfl, rfl, hn⟩ := hrel
    have hend : Hid (k = l.length ∨ k = 2000 → n = bytesN l) := Lib.hid fun h => by
      rw [hn.out, bytesN]
      rcases h with h | h
      · rw [h, List.take_of_length_le (Nat.le_refl _), List.take_of_length_le (by omega)]
      · rw [h]
    have hni : (n : Int) ≤ 200000000 := by omega
    have HNB := Lib.hid (And.intro hk2 hnb)
    by_cases hlt : k < l.length
    · by_cases h2 : k < 2000
      · obtain ⟨b, o, rfl, _, hc⟩ := HV.out.str k hlt
        have HS := Lib.hid (bytesN_take l k hlt h2)
        generalize l[k] = s at *
        have h2i : (k : Int) < 2000 := by omega
        have H2 := Lib.hid h2
        clear hk2 hnb h2 hend
        by_cases hs : s.size < 100000
        · have hsi : (s.size : Int) < 100000 := by omega
          have HM := Lib.hid (show min s.size 100000 = s.size by omega)
          clear hs
          go_wp2
          all_goals
            go_round
            case rel => exact ⟨k + 1, n + s.size, by omega, by have := H2.out; omega, by have := HNB.out.2; omega, by go_num, by go_num, Lib.hid (by rw [HS.out, ← hn.out, HM.out])⟩
            case measure => simp [intOf]; have := H2.out; omega
        · have hsi : ¬ (s.size : Int) < 100000 := by omega
          have HM := Lib.hid (show min s.size 100000 = 100000 by omega)
          clear hs
          go_wp2
          all_goals
            go_round
            case rel => exact ⟨k + 1, n + 100000, by omega, by have := H2.out; omega, by have := HNB.out.2; omega, by go_num, by go_num, Lib.hid (by rw [HS.out, ← hn.out, HM.out])⟩
            case measure => simp [intOf]; have := H2.out; omega
      · have hv := Lib.hid (hend.out (Or.inr (by omega)))
        have h2i : ¬ (k : Int) < 2000 := by omega
        clear hend hk2 hnb h2
        go_wp2
        exact HR.out _ _ ⟨by rw [hv.out], rfl⟩
    · have hv := Lib.hid (hend.out (Or.inl (by omega)))
      clear hend hk2 hnb
      go_wp2
      exact HR.out _ _ ⟨by rw [hv.out], rfl⟩
end Go.Proofs.Ytophfeapmmfppaa
/- The chapter's example; so few hashes. -/
namespace Ks
open Go
theorem alive15 (a b c : ByteArray) (ha : a.size = 32) (hb : b.size = 32) (hc : c.size = 32) : rootV [a, b, c] = nodeS (nodeS a b) c ∧ wholeE [a, b, c] = 0 ∧ pathV [a, b, c] 2 = [nodeS a b] ∧ pathE [a, b, c] 2 = 0 := by
  have hw : wholeL [a, b, c] = true := by simp [wholeL, ha, hb, hc]
  have h3 : halfN 3 = 2 := by decide
  have h2 : halfN 2 = 1 := by decide
  have r2 : rootL [a, b] = nodeS a b := by
    rw [root_two _ (by simp)]
    show nodeS (rootL (List.take (halfN 2) [a, b])) (rootL (List.drop (halfN 2) [a, b])) = _
    rw [h2]
    show nodeS (rootL [a]) (rootL [b]) = _
    rw [root_one, root_one]
  have r3 : rootL [a, b, c] = nodeS (nodeS a b) c := by
    rw [root_two _ (by simp)]
    show nodeS (rootL (List.take (halfN 3) [a, b, c])) (rootL (List.drop (halfN 3) [a, b, c])) = _
    rw [h3]
    show nodeS (rootL [a, b]) (rootL [c]) = _
    rw [r2, root_one]
  have p3 : pathL [a, b, c] 2 = [nodeS a b] := by
    rw [path_two _ _ (by simp)]
    show (if 2 < halfN 3 then _ else pathL (List.drop (halfN 3) [a, b, c]) (2 - halfN 3) ++ [rootL (List.take (halfN 3) [a, b, c])]) = _
    rw [h3, if_neg (by omega)]
    show pathL [c] 0 ++ [rootL [a, b]] = _
    rw [path_low _ _ (by simp), r2]; rfl
  have hc : wholeL [a, b, c] = true ∧ (0 : Int) ≤ 2 ∧ (2 : Int) < (([a, b, c] : List ByteArray).length : Int) := ⟨hw, by decide, by simp⟩
  exact ⟨by rw [rootV, if_pos hw, r3], by rw [wholeE, if_pos hw], by rw [pathV, if_pos hc]; exact p3, by rw [pathE, if_pos hc]⟩
end Ks
namespace Go.Proofs.Ytophfeapmmfppaa
open Go.RowKit Ks
set_option linter.unusedVariables false
theorem few_any (l : List ByteArray) (v : Value) (w : World) (hv : Rd strE w v l) : Calls Try.prog 8 #[v] w fun e w' => (e = .returned (.bool (decide (l.length ≤ 70 ∧ bytesN l ≤ 5000)))) ∧ w' = w := by
  refine calls_by fun R HR => ?_
  have HB := Lib.hid (bytes_any l v w hv)
  obtain ⟨a, cap, rfl, -⟩ := hv.shape
  by_cases h1 : l.length ≤ 70
  · have h1i : (l.length : Int) ≤ 70 := by omega
    obtain ⟨q, hq⟩ : ∃ q, bytesN l = q := ⟨_, rfl⟩
    rw [hq] at HB
    have hd : decide (l.length ≤ 70 ∧ bytesN l ≤ 5000) = decide ((q : Int) ≤ 5000) := by rw [hq, decide_eq_decide]; omega
    have HD := Lib.hid hd
    clear hd hq hv h1
    go_enter Try.func8, Try.ntmps8
    go_wp2_with fail
    refine HB.out.mono ?_
    rintro e w1 ⟨rfl, hw⟩
    subst hw
    go_wp2
    exact HR.out _ _ ⟨by rw [HD.out]; rfl, rfl⟩
  · have h1i : ¬ (l.length : Int) ≤ 70 := by omega
    have HD := Lib.hid (show decide (l.length ≤ 70 ∧ bytesN l ≤ 5000) = false from decide_eq_false fun h => h1 h.1)
    clear hv h1
    go_enter Try.func8, Try.ntmps8
    go_wp2
    exact HR.out _ _ ⟨by rw [HD.out], rfl⟩
theorem eg_alive : ∀ args w, (callFunc 9 args).run Try.prog w = .ok (.enter 9 args) w := fun _ _ => rfl
set_option maxRecDepth 100000 in
set_option maxHeartbeats 4000000 in
theorem alive_any (w : World) : Calls Try.prog 9 #[] w fun e w' => e = .returned (.bool true) ∧ Below w.heap.size w w' := by
  refine calls_by fun R HR => ?_
  obtain ⟨A, hA⟩ : ∃ A, leafS ⟨#[97]⟩ = A := ⟨_, rfl⟩
  obtain ⟨B, hB⟩ : ∃ B, leafS ⟨#[98]⟩ = B := ⟨_, rfl⟩
  obtain ⟨C, hC⟩ : ∃ C, leafS ⟨#[99]⟩ = C := ⟨_, rfl⟩
  have zA : A.size = 32 := by rw [← hA]; exact leafS_size _
  have zB : B.size = 32 := by rw [← hB]; exact leafS_size _
  have zC : C.size = 32 := by rw [← hC]; exact leafS_size _
  obtain ⟨r1, r2, r3, r4⟩ := alive15 A B C zA zB zC
  have HA := Lib.hid (fun w => leaf_any ⟨#[97]⟩ w (by decide))
  have HB := Lib.hid (fun w => leaf_any ⟨#[98]⟩ w (by decide))
  have HC := Lib.hid (fun w => leaf_any ⟨#[99]⟩ w (by decide))
  have HN := Lib.hid (fun w => node_any A B w (by omega) (by omega))
  have zN : (nodeS A B).size = 32 := nodeS_size _ _
  have HM := Lib.hid (fun w => node_any (nodeS A B) C w (by omega) (by omega))
  simp only [hA] at HA
  simp only [hB] at HB
  simp only [hC] at HC
  have HRo := Lib.hid (And.intro r1 (And.intro r2 (And.intro r3 r4)))
  clear hA hB hC zA zB zC r1 r2 r3 r4 zN
  go_enter Try.func9, Try.ntmps9
  go_wp2_with fail
  refine (HA.out _).mono ?_
  rintro e w1 ⟨rfl, hb1⟩
  have H1 := Lib.hid hb1
  clear hb1
  go_wp2_with fail
  refine (HB.out _).mono ?_
  rintro e w2 ⟨rfl, hb⟩
  have H2 := Lib.hid (H1.out.trans (hb.mono H1.out.size))
  clear hb
  go_wp2_with fail
  refine (HC.out _).mono ?_
  rintro e w3 ⟨rfl, hb⟩
  have H3 := Lib.hid (H2.out.trans (hb.mono H2.out.size))
  clear hb
  obtain ⟨W, hW⟩ : ∃ W, w3.alloc (.cells #[.string A, .string B, .string C] 9) = W := ⟨_, rfl⟩
  have hbW : Below w3.heap.size w3 W := by rw [← hW]; exact alloc_below w3 _
  have kW : W.heap[w3.heap.size]? = some (.cells #[.string A, .string B, .string C] 9 (0, 0)) := by rw [← hW]; exact alloc_new w3 _
  have HW := Lib.hid (And.intro (H3.out.trans (hbW.mono H3.out.size)) (And.intro kW (Rd.block (E := strE) (l := [A, B, C]) kW rfl)))
  clear hbW kW
  go_wp2_with fail
  refine (root_any _ [A, B, C] _ HW.out.2.2 (by simp)).mono ?_
  rintro e w4 ⟨rfl, hb⟩
  rw [HRo.out.1, HRo.out.2.1]
  have H4 := Lib.hid (And.intro (HW.out.1.trans (hb.mono HW.out.1.size)) (And.intro (blk_on hb HW.out.2.1) (HW.out.2.2.below hb)))
  clear hb hW
  go_wp2_with fail
  refine (path_any _ [A, B, C] 2 _ H4.out.2.2 (by simp)).mono ?_
  rintro e w5 ⟨pv, rfl, hrow, hb⟩
  rw [HRo.out.2.2.1] at hrow
  rw [HRo.out.2.2.2]
  obtain ⟨g, pc, hpv, -, -, hg, -⟩ := hrow.pos (by simp)
  have H5 := Lib.hid (And.intro (H4.out.1.trans (hb.mono H4.out.1.size)) (blk_on hb H4.out.2.1))
  obtain ⟨b9, o9, e9, hb9, cp⟩ := (hpv ▸ hrow.rd).str 0 (by simp)
  cases e9
  subst hpv
  obtain ⟨c0, c1, c2, -⟩ := blk3 H5.out.2
  have d0 := fun p => after_cell c0 p
  have d1 := fun p => after_cell c1 p
  have d2 := fun p => after_cell c2 p
  have d3 := fun p => after_cell cp p
  have cN := Lib.hid (fun p => calls_after (p := p) (HN.out (After w5 p)))
  have cM := Lib.hid (fun p => calls_after (p := p) (HM.out (After w5 p)))
  clear hrow hb
  simp only [List.length_cons, List.length_nil, Nat.reduceAdd] at *
  simp only [List.getElem_cons_zero] at d3
  go_wp2_with fail
  refine wp_region_after (by kernel_rfl) (by kernel_rfl) ?_
  repeat (quiet_step (fail))
  quiet_step (exact cN.out _)
  repeat (quiet_step (fail))
  quiet_step (exact cM.out _)
  repeat (quiet_step (fail))
  quiet_step (exact cN.out _)
  repeat (quiet_step (fail))
  refine wpQuiet_nil ?_
  rintro w6 ⟨q, rfl⟩
  have H6 := Lib.hid (H5.out.1.trans ((after_below w5 q).mono H5.out.1.size))
  generalize After w5 q = w6 at *
  clear cN cM c0 c1 c2 cp d0 d1 d2 d3
  go_wp2
  exact HR.out _ _ ⟨rfl, H6.out⟩
end Go.Proofs.Ytophfeapmmfppaa
/- Where a path leads a leaf: by levels and by halves; what two paths to one root tell. Plain. -/
namespace Ks
open Go
set_option linter.unusedVariables false
/-- on which side a level's own one stands (true: the left); none: none stands beside it -/
def dirN (n i : Nat) : Option Bool := if besideN i < n then some (decide (i % 2 = 0)) else none
def dirsM : Nat → Nat → Nat → List (Option Bool)
  | 0, _, _ => []
  | m + 1, n, i => dirN n i :: dirsM m ((n + 1) / 2) (i / 2)
def upN : Nat → Nat → Nat
  | 0, n => n
  | m + 1, n => upN m ((n + 1) / 2)
theorem upN_bounds (m n : Nat) : n ≤ 2 ^ m * upN m n ∧ 2 ^ m * upN m n < n + 2 ^ m := by
  induction m generalizing n with
  | zero => simp [upN]
  | succ m ih =>
    obtain ⟨h1, h2⟩ := ih ((n + 1) / 2)
    rw [upN, Nat.pow_succ, Nat.mul_comm (2 ^ m) 2, Nat.mul_assoc]
    omega
theorem dirsM_snoc (m n i : Nat) : dirsM (m + 1) n i = dirsM m n i ++ [dirN (upN m n) (i / 2 ^ m)] := by
  induction m generalizing n i with
  | zero => simp [dirsM, upN]
  | succ m ih =>
    rw [dirsM, ih, dirsM, upN, Nat.div_div_eq_div_mul, Nat.pow_succ, Nat.mul_comm (2 ^ m) 2]
    rfl
theorem dirs_left (j : Nat) : ∀ (t n i : Nat), t ≤ j → i < 2 ^ j → 2 ^ j ≤ n → dirsM t n i = dirsM t (2 ^ j) i := by
  induction j with
  | zero => intro t n i ht hi hn; (obtain rfl : t = 0 := by omega); rfl
  | succ j ih =>
    intro t n i ht hi hn
    match t, ht with
    | 0, _ => rfl
    | t + 1, ht =>
      have he : 2 ^ (j + 1) = 2 * 2 ^ j := by rw [Nat.pow_succ]; omega
      have hb : besideN i < 2 ^ (j + 1) := by unfold besideN; split <;> omega
      rw [dirsM, dirsM, ih t ((n + 1) / 2) (i / 2) (by omega) (by omega) (by omega), show (2 ^ (j + 1) + 1) / 2 = 2 ^ j by omega]
      congr 1
      unfold dirN
      rw [if_pos hb, if_pos (by omega)]
theorem dirs_right (j : Nat) : ∀ (t n i : Nat), t ≤ j → 2 ^ j ≤ i → 2 ^ j ≤ n → dirsM t n i = dirsM t (n - 2 ^ j) (i - 2 ^ j) := by
  induction j with
  | zero => intro t n i ht hi hn; (obtain rfl : t = 0 := by omega); rfl
  | succ j ih =>
    intro t n i ht hi hn
    match t, ht with
    | 0, _ => rfl
    | t + 1, ht =>
      have he : 2 ^ (j + 1) = 2 * 2 ^ j := by rw [Nat.pow_succ]; omega
      have hb : besideN i = 2 ^ (j + 1) + besideN (i - 2 ^ (j + 1)) := by
        unfold besideN
        by_cases e : i % 2 = 0
        · rw [if_pos e, if_pos (by omega)]; omega
        · rw [if_neg e, if_neg (by omega)]; omega
      have hm : (i % 2 = 0) = ((i - 2 ^ (j + 1)) % 2 = 0) := by rw [eq_iff_iff]; omega
      rw [dirsM, dirsM, ih t ((n + 1) / 2) (i / 2) (by omega) (by omega) (by omega), show (n + 1) / 2 - 2 ^ j = (n - 2 ^ (j + 1) + 1) / 2 by omega, show i / 2 - 2 ^ j = (i - 2 ^ (j + 1)) / 2 by omega]
      congr 1
      unfold dirN
      simp only [hm]
      by_cases h : besideN (i - 2 ^ (j + 1)) < n - 2 ^ (j + 1)
      · rw [if_pos (by omega), if_pos h]
      · rw [if_neg (by omega), if_neg h]
def sidesM (m n i : Nat) : List Bool := (dirsM m n i).filterMap id
/-- the same by halves, from below -/
def sidesH (n i : Nat) : List Bool :=
  if h : 2 ≤ n then (if i < halfN n then sidesH (halfN n) i ++ [true] else sidesH (n - halfN n) (i - halfN n) ++ [false]) else []
termination_by n
decreasing_by
  · have := half_lt n h; omega
  · have := half_lt n h; omega
theorem sides_two (n i : Nat) (h : 2 ≤ n) : sidesH n i = if i < halfN n then sidesH (halfN n) i ++ [true] else sidesH (n - halfN n) (i - halfN n) ++ [false] := by rw [sidesH, dif_pos h]
theorem sides_low (n i : Nat) (h : ¬ 2 ≤ n) : sidesH n i = [] := by rw [sidesH, dif_neg h]
theorem sidesM_one (m : Nat) : sidesM m 1 0 = [] := by
  induction m with
  | zero => rfl
  | succ m ih => exact ih
theorem sidesM_zero (m i : Nat) : sidesM m 0 i = [] := by
  induction m generalizing i with
  | zero => rfl
  | succ m ih => exact ih (i / 2)
theorem sidesM_snoc (m n i : Nat) : sidesM (m + 1) n i = sidesM m n i ++ [dirN (upN m n) (i / 2 ^ m)].filterMap id := by
  unfold sidesM
  rw [dirsM_snoc, List.filterMap_append]
theorem sidesM_eq : ∀ (n m i : Nat), i < n → n ≤ 2 ^ m → sidesM m n i = sidesH n i := by
  intro n
  induction n using Nat.strongRecOn with
  | ind n ih =>
    intro m i hi hm
    by_cases h1 : n = 1
    · subst h1
      obtain rfl : i = 0 := by omega
      rw [sidesM_one, sides_low _ _ (by omega)]
    · obtain ⟨j, e, g1, g2⟩ := half_spec n (by omega)
      have h3 : 0 < 2 ^ j := Nat.two_pow_pos j
      have hp : 2 ^ (j + 1) = 2 * 2 ^ j := by rw [Nat.pow_succ]; omega
      have hjm : j < m := (Nat.pow_lt_pow_iff_right (a := 2) (by decide)).1 (by omega)
      have hu : upN j n = 2 := by
        obtain ⟨a, b⟩ := upN_bounds j n
        have h4 : ¬ upN j n ≤ 1 := fun h => by
          have := Nat.mul_le_mul_left (2 ^ j) h
          omega
        have h5 : ¬ 3 ≤ upN j n := fun h => by
          have := Nat.mul_le_mul_left (2 ^ j) h
          omega
        omega
      have hj : sidesM (j + 1) n i = sidesH n i := by
        rw [sidesM_snoc, hu, sides_two n i (by omega), e]
        by_cases hik : i < 2 ^ j
        · rw [if_pos hik, Nat.div_eq_of_lt hik, ← ih (2 ^ j) (by omega) j i hik (Nat.le_refl _)]
          unfold sidesM
          rw [dirs_left j j n i (Nat.le_refl _) hik (by omega)]
          rfl
        · rw [if_neg hik, show i / 2 ^ j = 1 from Nat.div_eq_of_lt_le (by omega) (by omega), ← ih (n - 2 ^ j) (by omega) j (i - 2 ^ j) (by omega) (by omega)]
          unfold sidesM
          rw [dirs_right j j n i (Nat.le_refl _) (by omega) (by omega)]
          rfl
      have hmore : ∀ t, sidesM (j + 1 + t) n i = sidesM (j + 1) n i := by
        intro t
        induction t with
        | zero => rfl
        | succ t iht =>
          have hu1 : upN (j + 1 + t) n = 1 := by
            obtain ⟨a, b⟩ := upN_bounds (j + 1 + t) n
            have hle : 2 ^ (j + 1) ≤ 2 ^ (j + 1 + t) := Nat.pow_le_pow_right (by decide) (by omega)
            have h4 : ¬ upN (j + 1 + t) n ≤ 0 := fun h => by
              have := Nat.mul_le_mul_left (2 ^ (j + 1 + t)) h
              omega
            have h5 : ¬ 2 ≤ upN (j + 1 + t) n := fun h => by
              have := Nat.mul_le_mul_left (2 ^ (j + 1 + t)) h
              omega
            omega
          have hz : i / 2 ^ (j + 1 + t) = 0 := Nat.div_eq_of_lt (Nat.lt_of_lt_of_le (show i < 2 ^ (j + 1) by omega) (Nat.pow_le_pow_right (by decide) (by omega)))
          rw [← Nat.add_assoc, sidesM_snoc, iht, hu1, hz]
          show sidesM (j + 1) n i ++ [] = _
          rw [List.append_nil]
      rw [show m = j + 1 + (m - (j + 1)) by omega, hmore, hj]
theorem sidesM_le (m n i : Nat) : (sidesM m n i).length ≤ m := by
  have : ∀ m n i, (dirsM m n i).length = m := by
    intro m
    induction m with
    | zero => intros; rfl
    | succ m ih => intro n i; rw [dirsM, List.length_cons, ih]
  exact Nat.le_trans (List.length_filterMap_le _ _) (Nat.le_of_eq (this m n i))

/-- where a path leads, one hash for each side -/
def foldU : List Bool → ByteArray → List ByteArray → ByteArray
  | s :: ss, x, p :: ps => foldU ss (if s then nodeS x p else nodeS p x) ps
  | _, x, _ => x
theorem foldU_nil (x : ByteArray) (ps : List ByteArray) : foldU [] x ps = x := by cases ps <;> rfl
theorem foldU_snoc (ss : List Bool) (s : Bool) (x : ByteArray) (ps : List ByteArray) (p : ByteArray) (h : ss.length = ps.length) :
    foldU (ss ++ [s]) x (ps ++ [p]) = if s then nodeS (foldU ss x ps) p else nodeS p (foldU ss x ps) := by
  induction ss generalizing x ps with
  | nil =>
    obtain rfl : ps = [] := List.length_eq_zero_iff.1 h.symm
    rfl
  | cons t ss ih =>
    match ps, h with
    | q :: ps, h => exact ih _ ps (by simpa using h)
theorem foldU_size (ss : List Bool) (x : ByteArray) (ps : List ByteArray) (h : x.size = 32) : (foldU ss x ps).size = 32 := by
  induction ss generalizing x ps with
  | nil => rw [foldU_nil]; exact h
  | cons s ss ih =>
    match ps with
    | [] => exact h
    | p :: ps => exact ih _ ps (by split <;> exact nodeS_size _ _)
def upS (n i : Nat) (x : ByteArray) (ps : List ByteArray) : ByteArray := foldU (sidesH n i) x ps
theorem up_low (n i : Nat) (x : ByteArray) (ps : List ByteArray) (h : ¬ 2 ≤ n) : upS n i x ps = x := by rw [upS, sides_low n i h, foldU_nil]
theorem up_left (n i : Nat) (x : ByteArray) (ps : List ByteArray) (p : ByteArray) (h : 2 ≤ n) (hi : i < halfN n) (hl : (ps ++ [p]).length = (sidesH n i).length) :
    upS n i x (ps ++ [p]) = nodeS (upS (halfN n) i x ps) p ∧ ps.length = (sidesH (halfN n) i).length := by
  rw [sides_two n i h, if_pos hi] at hl
  simp only [List.length_append, List.length_singleton] at hl
  rw [upS, sides_two n i h, if_pos hi, foldU_snoc _ _ _ _ _ (by omega)]
  exact ⟨rfl, by omega⟩
theorem up_right (n i : Nat) (x : ByteArray) (ps : List ByteArray) (p : ByteArray) (h : 2 ≤ n) (hi : ¬ i < halfN n) (hl : (ps ++ [p]).length = (sidesH n i).length) :
    upS n i x (ps ++ [p]) = nodeS p (upS (n - halfN n) (i - halfN n) x ps) ∧ ps.length = (sidesH (n - halfN n) (i - halfN n)).length := by
  rw [sides_two n i h, if_neg hi] at hl
  simp only [List.length_append, List.length_singleton] at hl
  rw [upS, sides_two n i h, if_neg hi, foldU_snoc _ _ _ _ _ (by omega)]
  exact ⟨rfl, by omega⟩
/-- a leaf's own path leads it to the root -/
theorem path_leads : ∀ (n : Nat) (l : List ByteArray) (i : Nat) (x : ByteArray), l.length = n → l[i]? = some x → upS n i x (pathL l i) = rootL l ∧ (pathL l i).length = (sidesH n i).length := by
  intro n
  induction n using Nat.strongRecOn with
  | ind n ih =>
    intro l i x hn hx
    have hi : i < l.length := (List.getElem?_eq_some_iff.1 hx).1
    by_cases h : 2 ≤ n
    · have hh := half_lt n h
      have h2 : 2 ≤ l.length := by omega
      rw [path_two l i h2, root_two l h2, hn]
      have ht : (l.take (halfN n)).length = halfN n := by rw [List.length_take]; omega
      have hd : (l.drop (halfN n)).length = n - halfN n := by rw [List.length_drop]; omega
      by_cases hik : i < halfN n
      · rw [if_pos hik]
        obtain ⟨a, b⟩ := ih (halfN n) (by omega) (l.take (halfN n)) i x ht (by rw [List.getElem?_take, if_pos hik]; exact hx)
        have hl : (pathL (l.take (halfN n)) i ++ [rootL (l.drop (halfN n))]).length = (sidesH n i).length := by
          rw [sides_two n i h, if_pos hik]; simp [b]
        exact ⟨by rw [(up_left n i x _ _ h hik hl).1, a], hl⟩
      · rw [if_neg hik]
        obtain ⟨a, b⟩ := ih (n - halfN n) (by omega) (l.drop (halfN n)) (i - halfN n) x hd (by rw [List.getElem?_drop, show halfN n + (i - halfN n) = i by omega]; exact hx)
        have hl : (pathL (l.drop (halfN n)) (i - halfN n) ++ [rootL (l.take (halfN n))]).length = (sidesH n i).length := by
          rw [sides_two n i h, if_neg hik]; simp [b]
        exact ⟨by rw [(up_right n i x _ _ h hik hl).1, a], hl⟩
    · match l, hn, hx with
      | [], hn, hx => simp at hx
      | [a], hn, hx =>
        obtain rfl : i = 0 := by simp at hi; exact hi
        rw [up_low _ _ _ _ h, path_low _ _ (by simp), root_one, sides_low _ _ h]
        simp at hx
        exact ⟨hx.symm, rfl⟩
      | a :: b :: l, hn, hx => simp at hn; omega
theorem path_whole : ∀ (n : Nat) (l : List ByteArray) (i : Nat), l.length = n → wholeL l = true → i < n → wholeL (pathL l i) = true ∧ (rootL l).size = 32 := by
  intro n
  induction n using Nat.strongRecOn with
  | ind n ih =>
    intro l i hn hw hi
    have hw' : ∀ s ∈ l, s.size = 32 := by simpa [wholeL] using hw
    by_cases h : 2 ≤ n
    · have hh := half_lt n h
      have h2 : 2 ≤ l.length := by omega
      rw [path_two l i h2, root_two l h2, hn]
      have ht : (l.take (halfN n)).length = halfN n := by rw [List.length_take]; omega
      have hd : (l.drop (halfN n)).length = n - halfN n := by rw [List.length_drop]; omega
      have w1 : wholeL (l.take (halfN n)) = true := by simp only [wholeL, List.all_eq_true, beq_iff_eq]; exact fun s hs => hw' s (List.mem_of_mem_take hs)
      have w2 : wholeL (l.drop (halfN n)) = true := by simp only [wholeL, List.all_eq_true, beq_iff_eq]; exact fun s hs => hw' s (List.mem_of_mem_drop hs)
      refine ⟨?_, nodeS_size _ _⟩
      have r1 := (ih (halfN n) (by omega) _ 0 ht w1 (by omega)).2
      have r2 := (ih (n - halfN n) (by omega) _ 0 hd w2 (by omega)).2
      by_cases hik : i < halfN n
      · rw [if_pos hik]
        have := (ih (halfN n) (by omega) _ i ht w1 hik).1
        simp only [wholeL, List.all_append, List.all_cons, List.all_nil, Bool.and_true, Bool.and_eq_true, beq_iff_eq] at this ⊢
        exact ⟨this, r2⟩
      · rw [if_neg hik]
        have := (ih (n - halfN n) (by omega) _ (i - halfN n) hd w2 (by omega)).1
        simp only [wholeL, List.all_append, List.all_cons, List.all_nil, Bool.and_true, Bool.and_eq_true, beq_iff_eq] at this ⊢
        exact ⟨this, r1⟩
    · match l, hn with
      | [], hn => simp at hn; omega
      | [a], hn => rw [path_low _ _ (by simp), root_one]; exact ⟨rfl, hw' a (by simp)⟩
      | a :: b :: l, hn => simp at hn; omega

/-- one step up -/
structure StepG where
  i : Nat
  n : Nat
  a : ByteArray
  b : ByteArray
def pairS (s : Bool) (x p : ByteArray) : ByteArray × ByteArray := if s then (x, p) else (p, x)
/-- the steps up, where the path leads, and what is left of it; none: it is too short -/
def climbO : Nat → Nat → Nat → ByteArray → List ByteArray → Option (List StepG × ByteArray × List ByteArray)
  | 0, _, _, x, ps => some ([], x, ps)
  | m + 1, n, i, x, ps =>
    if n ≤ 1 then some ([], x, ps) else
    match dirN n i with
    | none => (climbO m ((n + 1) / 2) (i / 2) x ps).map fun r => (⟨i, n, ⟨#[]⟩, ⟨#[]⟩⟩ :: r.1, r.2)
    | some s =>
      match ps with
      | [] => none
      | p :: ps => (climbO m ((n + 1) / 2) (i / 2) (nodeS (pairS s x p).1 (pairS s x p).2) ps).map fun r => (⟨i, n, (pairS s x p).1, (pairS s x p).2⟩ :: r.1, r.2)
section
variable {m n i : Nat} {x p : ByteArray} {ps : List ByteArray} {s : Bool}
theorem climb_low (h : n ≤ 1) : climbO (m + 1) n i x ps = some ([], x, ps) := by rw [climbO, if_pos h]
theorem climb_none (h : ¬ n ≤ 1) (hd : dirN n i = none) : climbO (m + 1) n i x ps = (climbO m ((n + 1) / 2) (i / 2) x ps).map fun r => (⟨i, n, ⟨#[]⟩, ⟨#[]⟩⟩ :: r.1, r.2) := by rw [climbO, if_neg h, hd]
theorem climb_nil (h : ¬ n ≤ 1) (hd : dirN n i = some s) : climbO (m + 1) n i x [] = none := by rw [climbO, if_neg h, hd]
theorem climb_some (h : ¬ n ≤ 1) (hd : dirN n i = some s) : climbO (m + 1) n i x (p :: ps) = (climbO m ((n + 1) / 2) (i / 2) (nodeS (pairS s x p).1 (pairS s x p).2) ps).map fun r => (⟨i, n, (pairS s x p).1, (pairS s x p).2⟩ :: r.1, r.2) := by rw [climbO, if_neg h, hd]
end
theorem node_pair (s : Bool) (x p : ByteArray) : nodeS (pairS s x p).1 (pairS s x p).2 = if s then nodeS x p else nodeS p x := by cases s <;> rfl
theorem climb_spec (m : Nat) : ∀ (n i : Nat) (x : ByteArray) (ps : List ByteArray), i < n → 
    (ps.length < (sidesM m n i).length → climbO m n i x ps = none) ∧ ((sidesM m n i).length ≤ ps.length → ∃ st, climbO m n i x ps = some (st, foldU (sidesM m n i) x ps, ps.drop (sidesM m n i).length)) := by
  induction m with
  | zero => intro n i x ps hi; exact ⟨fun h => absurd h (by simp [sidesM, dirsM]), fun _ => ⟨[], by simp [climbO, sidesM, dirsM, foldU_nil]⟩⟩
  | succ m ih =>
    intro n i x ps hi
    by_cases h1 : n ≤ 1
    · obtain rfl : n = 1 := by omega
      obtain rfl : i = 0 := by omega
      rw [sidesM_one]
      exact ⟨fun h => absurd h (by simp), fun _ => ⟨[], by rw [climb_low (by omega), foldU_nil]; rfl⟩⟩
    · have hs : sidesM (m + 1) n i = (match dirN n i with | none => sidesM m ((n + 1) / 2) (i / 2) | some s => s :: sidesM m ((n + 1) / 2) (i / 2)) := by
        unfold sidesM
        rw [dirsM]
        cases dirN n i <;> rfl
      rw [hs]
      cases hd : dirN n i with
      | none =>
        obtain ⟨a, b⟩ := ih ((n + 1) / 2) (i / 2) x ps (by omega)
        rw [climb_none h1 hd]
        refine ⟨fun h => ?_, fun h => ?_⟩
        · rw [a h]; rfl
        · obtain ⟨st, e⟩ := b h
          exact ⟨⟨i, n, ⟨#[]⟩, ⟨#[]⟩⟩ :: st, by rw [e]; rfl⟩
      | some s =>
        match ps with
        | [] => exact ⟨fun _ => climb_nil h1 hd, fun h => absurd h (by simp)⟩
        | p :: ps =>
          obtain ⟨a, b⟩ := ih ((n + 1) / 2) (i / 2) (nodeS (pairS s x p).1 (pairS s x p).2) ps (by omega)
          rw [climb_some h1 hd]
          refine ⟨fun h => ?_, fun h => ?_⟩
          · rw [a (by simpa using h)]; rfl
          · obtain ⟨st, e⟩ := b (by simpa using h)
            exact ⟨⟨i, n, (pairS s x p).1, (pairS s x p).2⟩ :: st, by rw [e, node_pair]; rfl⟩

def clashes (s t : StepG) : Bool := decide (s.a ≠ ⟨#[]⟩ ∧ (s.a ≠ t.a ∨ s.b ≠ t.b) ∧ nodeS s.a s.b = nodeS t.a t.b)
/-- the first level at which two paths clash -/
def clashL : List StepG → List StepG → Option (StepG × StepG)
  | s :: l, t :: r => if clashes s t then some (s, t) else clashL l r
  | _, _ => none
def fits (s : StepG) : Prop := (s.a = ⟨#[]⟩ ∧ s.b = ⟨#[]⟩) ∨ (s.a.size = 32 ∧ s.b.size = 32)
theorem clash_there (m : Nat) : ∀ (n i : Nat) (x y : ByteArray) (ps qs : List ByteArray) (st su : List StepG) (r : ByteArray) (ps' qs' : List ByteArray), n ≤ 2 ^ m → x.size = 32 → y.size = 32 → wholeL ps = true → wholeL qs = true →
    climbO m n i x ps = some (st, r, ps') → climbO m n i y qs = some (su, r, qs') →
    st.length = su.length ∧ (x ≠ y → ∃ s t, clashL st su = some (s, t)) ∧ (∀ s t, clashL st su = some (s, t) → clashes s t = true ∧ s.a.size = 32 ∧ s.b.size = 32 ∧ (t.a.size = 32 ∧ t.b.size = 32 ∨ False)) := by
  induction m with
  | zero =>
    intro n i x y ps qs st su r ps' qs' hn hx hy hp hq h1 h2
    simp only [climbO, Option.some.injEq, Prod.mk.injEq] at h1 h2
    obtain ⟨rfl, rfl, rfl⟩ := h1
    obtain ⟨rfl, rfl, rfl⟩ := h2
    exact ⟨rfl, fun h => absurd rfl h, fun s t h => by simp [clashL] at h⟩
  | succ m ih =>
    intro n i x y ps qs st su r ps' qs' hn hx hy hp hq h1 h2
    by_cases hn1 : n ≤ 1
    · rw [climb_low hn1] at h1 h2
      simp only [Option.some.injEq, Prod.mk.injEq] at h1 h2
      obtain ⟨rfl, rfl, rfl⟩ := h1
      obtain ⟨rfl, rfl, rfl⟩ := h2
      exact ⟨rfl, fun h => absurd rfl h, fun s t h => by simp [clashL] at h⟩
    · have hn' : (n + 1) / 2 ≤ 2 ^ m := by rw [Nat.pow_succ] at hn; omega
      cases hd : dirN n i with
      | none =>
        rw [climb_none hn1 hd] at h1 h2
        simp only [Option.map_eq_some_iff, Prod.mk.injEq] at h1 h2
        obtain ⟨⟨st1, r1⟩, e1, rfl, h1⟩ := h1
        obtain ⟨⟨su1, r2⟩, e2, rfl, h2⟩ := h2
        simp only at h1 h2
        subst h1
        subst h2
        obtain ⟨a, b, c⟩ := ih _ _ _ _ _ _ _ _ _ _ _ hn' hx hy hp hq e1 e2
        have hno : clashes ⟨i, n, ⟨#[]⟩, ⟨#[]⟩⟩ ⟨i, n, ⟨#[]⟩, ⟨#[]⟩⟩ = false := by simp [clashes]
        refine ⟨by simp [a], fun h => ?_, fun s t h => ?_⟩
        · rw [clashL, hno]; exact b h
        · rw [clashL, hno] at h; exact c s t h
      | some d =>
        match ps, qs, hp, hq, h1, h2 with
        | [], _, _, _, h1, _ => rw [climb_nil hn1 hd] at h1; cases h1
        | _ :: _, [], _, _, _, h2 => rw [climb_nil hn1 hd] at h2; cases h2
        | p :: ps, q :: qs, hp, hq, h1, h2 =>
          rw [climb_some hn1 hd] at h1 h2
          simp only [Option.map_eq_some_iff, Prod.mk.injEq] at h1 h2
          obtain ⟨⟨st1, r1⟩, e1, rfl, g1⟩ := h1
          obtain ⟨⟨su1, r2⟩, e2, rfl, g2⟩ := h2
          simp only at g1 g2
          subst g1
          subst g2
          simp only [wholeL, List.all_cons, Bool.and_eq_true, beq_iff_eq] at hp hq
          obtain ⟨a, b, c⟩ := ih _ _ _ _ _ _ _ _ _ _ _ hn' (nodeS_size _ _) (nodeS_size _ _) hp.2 hq.2 e1 e2
          have sz : ∀ (d : Bool) (x p : ByteArray), x.size = 32 → p.size = 32 → (pairS d x p).1.size = 32 ∧ (pairS d x p).2.size = 32 := fun d x p h1 h2 => by cases d <;> simp [pairS, h1, h2]
          have s1 := sz d x p hx hp.1
          have s2 := sz d y q hy hq.1
          have h0 : (pairS d x p).1 ≠ ⟨#[]⟩ := fun e => by have := s1.1; rw [e] at this; exact absurd this (by decide)
          refine ⟨by simp [a], fun h => ?_, fun s t h => ?_⟩
          · rw [clashL]
            by_cases hc : clashes ⟨i, n, (pairS d x p).1, (pairS d x p).2⟩ ⟨i, n, (pairS d y q).1, (pairS d y q).2⟩ = true
            · rw [if_pos hc]; exact ⟨_, _, rfl⟩
            · rw [if_neg hc]
              refine b fun e => hc ?_
              simp only [clashes, decide_eq_true_eq]
              refine ⟨h0, ?_, e⟩
              cases d
              · exact .inr fun e => h e
              · exact .inl fun e => h e
          · rw [clashL] at h
            by_cases hc : clashes ⟨i, n, (pairS d x p).1, (pairS d x p).2⟩ ⟨i, n, (pairS d y q).1, (pairS d y q).2⟩ = true
            · rw [if_pos hc] at h
              simp only [Option.some.injEq, Prod.mk.injEq] at h
              obtain ⟨rfl, rfl⟩ := h
              exact ⟨hc, s1.1, s1.2, .inl s2⟩
            · rw [if_neg hc] at h; exact c s t h
theorem inside_inj {a b c d : ByteArray} (h : a.size = c.size) (e : insideS a b = insideS c d) : a = c ∧ b = d := by
  have e1 : insideL a b = insideL c d := by
    have := congrArg (fun s : ByteArray => s.data.toList) e
    simpa [insideS] using this
  simp only [insideL, List.cons.injEq, true_and] at e1
  obtain ⟨h1, h2⟩ := List.append_inj e1 (by rw [data_length, data_length, h])
  have mk : ∀ {x y : ByteArray}, x.data.toList = y.data.toList → x = y := fun {x y} h => by
    cases x; cases y; congr 1; exact Array.toList_inj.1 h
  exact ⟨mk h1, mk h2⟩
end Ks
/- The reference's trees of hashes: are all hashes, the half, the root, how long a path is, where a path leads. -/
namespace Go.Proofs.Ytophfeapmmfppaa
open Go.RowKit Ks
set_option linter.unusedVariables false
theorem rwhole_any (lv : Value) (l : List ByteArray) (w : World) (hl : Rd strE w lv l) (hlen : l.length ≤ 1000000000) :
    Calls Try.prog 15 #[lv] w fun e w' => e = .returned (.bool (wholeL l)) ∧ w' = w := by
  refine calls_by fun R HR => ?_
  obtain ⟨a, cap, rfl, hcap, -⟩ := hl.shape
  have HL := Lib.hid hl
  have hli : (l.length : Int) ≤ 1000000000 := by omega
  clear hl hlen
  go_enter Try.func15, Try.ntmps15
  go_wp2
  go_loop [3] (fun i => ∃ k : Nat, k ≤ l.length ∧ i = .int .i64 k ∧ Hid (∀ (i : Nat), i < k → ∀ (y : ByteArray), l[i]? = some y → y.size = 32)) (fun i => l.length - (intOf i).toNat)
  case atStart => exact ⟨0, by omega, rfl, Lib.hid (fun i hi => absurd hi (by omega))⟩
  case round =>
    obtain ⟨k, hk, rfl, hno⟩ := hrel
    by_cases hlt : k < l.length
    · have hki : (k : Int) < (l.length : Int) := by omega
      obtain ⟨b, o, rfl, hb, c1⟩ := HL.out.str k hlt
      have hx := Lib.hid (List.getElem?_eq_getElem hlt)
      generalize l[k] = x at c1 hx
      by_cases hz : x.size = 32
      · have hzb : ((x.size : Int) != 32) = false := by rw [hz]; rfl
        have HZ := Lib.hid hz
        clear hz
        go_wp2
        go_round
        case rel =>
          refine ⟨k + 1, by omega, by go_num, Lib.hid fun i hi y hy => ?_⟩
          by_cases e : i = k
          · subst e; rw [hx.out] at hy; cases hy; exact HZ.out
          · exact hno.out i (by omega) y hy
        case measure => simp [intOf]; omega
      · have hzb : ((x.size : Int) != 32) = true := by rw [bne_iff_ne]; omega
        have HW := Lib.hid (show wholeL l = false by
          rw [← Bool.not_eq_true]
          intro h
          exact hz (whole_get h k x hx.out))
        clear hz
        go_wp2
        exact HR.out _ _ ⟨by rw [HW.out], rfl⟩
    · obtain rfl : k = l.length := by omega
      have HW := Lib.hid (show wholeL l = true by
        simp only [wholeL, List.all_eq_true, beq_iff_eq]
        intro x hx
        obtain ⟨i, hi, rfl⟩ := List.getElem_of_mem hx
        exact hno.out i hi _ (List.getElem?_eq_getElem hi))
      go_wp2
      exact HR.out _ _ ⟨by rw [HW.out], rfl⟩
theorem rhalf_any (n : Nat) (w : World) (h2 : 2 ≤ n) (hn : n ≤ 1000000000) : Calls Try.prog 32 #[.int .i64 (n : Nat)] w fun e w' => e = .returned (.int .i64 (halfN n : Nat)) ∧ w' = w := by
  refine calls_by fun R HR => ?_
  have hni : (n : Int) ≤ 1000000000 := by omega
  have H2 := Lib.hid h2
  clear h2 hn
  go_enter Try.func32, Try.ntmps32
  go_wp2
  go_loop [3] (fun i => ∃ k : Nat, i = .int .i64 k ∧ Hid (∃ j, k = 2 ^ j) ∧ Hid (k < n)) (fun i => n - (intOf i).toNat)
  case atStart => exact ⟨1, rfl, Lib.hid ⟨0, rfl⟩, Lib.hid (by have := H2.out; omega)⟩
  case round =>
    obtain ⟨k, rfl, hj, hkn⟩ := hrel
    have hki : (k : Int) < n := by have := hkn.out; omega
    have hmul : (2 : Int) * (k : Int) = ((2 * k : Nat) : Int) := by omega
    by_cases hlt : 2 * k < n
    · have hlti : (2 : Int) * (k : Int) < (n : Int) := by omega
      have HL := Lib.hid hlt
      clear hlt hmul
      go_wp2
      go_round
      case rel => exact ⟨2 * k, by go_num, Lib.hid (by obtain ⟨j, e⟩ := hj.out; exact ⟨j + 1, by rw [Nat.pow_succ]; omega⟩), Lib.hid HL.out⟩
      case measure =>
        have h1 := HL.out
        have h3 : 0 < k := by obtain ⟨j, e⟩ := hj.out; rw [e]; exact Nat.two_pow_pos j
        simp [intOf]; omega
    · have hlti : ¬ (2 : Int) * (k : Int) < (n : Int) := by omega
      have HH := Lib.hid (show halfN n = k by
        obtain ⟨j, e⟩ := hj.out
        rw [e]
        exact half_of n j (by have := hkn.out; omega) (by rw [Nat.pow_succ]; omega))
      clear hlt hmul
      go_wp2
      exact HR.out _ _ ⟨by rw [HH.out], rfl⟩
theorem rnode_any (x y : ByteArray) (w : World) (hx : x.size ≤ 100000000) (hy : y.size ≤ 100000000) : Calls Try.prog 31 #[.string (ByteArray.mk #[1] ++ x ++ y)] w fun e w' => e = .returned (.string (nodeS x y)) ∧ Below w.heap.size w w' := by
  rw [inside_cat]
  exact rsumS_any (insideS x y) w (by rw [inside_size]; omega)
set_option maxHeartbeats 2000000 in
theorem rroot_any : ∀ (n : Nat) (l : List ByteArray) (lv : Value) (w : World), l.length = n → n ≤ 100000000 → Rd strE w lv l → wholeL l = true →
    Calls Try.prog 16 #[lv] w fun e w' => e = .returned (.string (rootL l)) ∧ Below w.heap.size w w' := by
  intro n
  induction n using Nat.strongRecOn with
  | ind n ih =>
  intro l lv w hn hb hr hw
  refine calls_by fun R HR => ?_
  obtain ⟨a, cap, rfl, hcap, -⟩ := hr.shape
  by_cases h0 : n = 0
  · have hl0 : l = [] := List.length_eq_zero_iff.1 (by omega)
    subst hl0
    clear hr ih
    have HZ := Lib.hid (show rootL [] = shaS [] from root_nil)
    go_enter Try.func16, Try.ntmps16
    go_wp2_with fail
    refine (rsumS_any ⟨#[]⟩ _ (by decide)).mono ?_
    rintro e w1 ⟨rfl, hb⟩
    have HB := Lib.hid hb
    clear hb
    go_wp2
    exact HR.out _ _ ⟨by rw [HZ.out]; rfl, HB.out⟩
  by_cases h1 : n = 1
  · obtain ⟨b, o, rfl, hb1, c1⟩ := hr.str 0 (by omega)
    rw [Nat.add_zero] at c1
    have HZ := Lib.hid (show rootL l = l[0] by match l, hn, h1 with | [x], _, _ => exact root_one x)
    have hl1 : ((l.length : Int) == 0) = false := by rw [beq_eq_false_iff_ne]; omega
    have hl2 : ((l.length : Int) == 1) = true := by rw [beq_iff_eq]; omega
    have hl3 : (0 : Int) < (l.length : Int) := by omega
    generalize l[0] = x at *
    clear hr ih hn h0 h1
    go_enter Try.func16, Try.ntmps16
    go_wp2
    exact HR.out _ _ ⟨by rw [HZ.out]; rfl, Below.refl _ _⟩
  · obtain ⟨b, o, rfl, hb1, -⟩ := hr.str 0 (by omega)
    have hl1 : ((l.length : Int) == 0) = false := by rw [beq_eq_false_iff_ne]; omega
    have hl2 : ((l.length : Int) == 1) = false := by rw [beq_eq_false_iff_ne]; omega
    have hh := half_lt l.length (by omega)
    have HH := Lib.hid (rhalf_any l.length w (by omega) (by omega))
    have hw' : ∀ s ∈ l, s.size = 32 := by simpa [wholeL] using hw
    have w1 : wholeL (l.take (halfN l.length)) = true := by simp only [wholeL, List.all_eq_true, beq_iff_eq]; exact fun s hs => hw' s (List.mem_of_mem_take hs)
    have w2 : wholeL (l.drop (halfN l.length)) = true := by simp only [wholeL, List.all_eq_true, beq_iff_eq]; exact fun s hs => hw' s (List.mem_of_mem_drop hs)
    have s1 := (path_whole _ (l.take (halfN l.length)) 0 rfl w1 (by rw [List.length_take]; omega)).2
    have s2 := (path_whole _ (l.drop (halfN l.length)) 0 rfl w2 (by rw [List.length_drop]; omega)).2
    have HZ := Lib.hid (show rootL l = nodeS (rootL (l.take (halfN l.length))) (rootL (l.drop (halfN l.length))) from root_two l (by omega))
    have hT := hr.take (k := halfN l.length) (by omega) cap (by omega)
    have hD := hr.drop (k := halfN l.length) (by omega) (some ⟨b, o + halfN l.length, none⟩) (fun _ => by simp [strE]) (by simp) (cap - halfN l.length) (by omega)
    have cT := Lib.hid (fun p => calls_after (p := p) (ih (l.take (halfN l.length)).length (by rw [List.length_take]; omega) _ _ (After w p) rfl (by rw [List.length_take]; omega) (hT.below (after_below w p)) w1))
    have cD := Lib.hid (fun p => calls_after (p := p) (ih (l.drop (halfN l.length)).length (by rw [List.length_drop]; omega) _ _ (After w p) rfl (by rw [List.length_drop]; omega) (hD.below (after_below w p)) w2))
    generalize rootL (l.take (halfN l.length)) = x at *
    generalize rootL (l.drop (halfN l.length)) = y at *
    have cS := Lib.hid (fun p => calls_after (p := p) (rnode_any x y (After w p) (by omega) (by omega)))
    have hcat1 : ¬ 9223372036854775807 < 1 + x.size := by omega
    have hcat2 : ¬ 9223372036854775807 < 1 + x.size + y.size := by omega
    have hli : (l.length : Int) ≤ 100000000 := by omega
    have hk1 : ((halfN l.length : Nat) : Int) < (l.length : Int) := by omega
    have hk0 : (0 : Int) < ((halfN l.length : Nat) : Int) := by omega
    have hk2 : ((halfN l.length : Nat) : Int) ≤ (cap : Int) := by omega
    have hk3 : ¬ cap = halfN l.length := by omega
    have hk4 : ((halfN l.length : Nat) : Int) ≤ (l.length : Int) := by omega
    have hk5 : (l.length : Int) ≤ (cap : Int) := by omega
    have hx0 : x.size ≤ 10000000000 := by omega
    have hy0 : y.size ≤ 10000000000 := by omega
    generalize halfN l.length = k at *
    clear hr ih hn h0 h1 hw hw' w1 w2 s1 s2 hT hD hh
    go_enter Try.func16, Try.ntmps16
    go_wp2_with fail
    refine HH.out.mono ?_
    rintro e w3 ⟨rfl, rfl⟩
    go_wp2_with fail
    refine wp_region_after (by kernel_rfl) (by kernel_rfl) ?_
    quiet_step (fail)
    quiet_step (fail)
    quiet_step (fail)
    quiet_step (exact cT.out _)
    quiet_step (fail)
    quiet_step (fail)
    quiet_step (fail)
    quiet_step (fail)
    quiet_step (exact cD.out _)
    quiet_step (fail)
    quiet_step (exact cS.out _)
    quiet_step (fail)
    refine wpQuiet_nil ?_
    rintro w2 ⟨q, rfl⟩
    have H2 := Lib.hid (after_below w3 q)
    generalize After w3 q = w2 at *
    clear cT cD cS
    go_wp2
    exact HR.out _ _ ⟨by rw [HZ.out] <;> rfl, H2.out⟩
end Go.Proofs.Ytophfeapmmfppaa
/- The reference's trees of hashes: how long a path is, where a path leads. -/
namespace Go.Proofs.Ytophfeapmmfppaa
open Go.RowKit Ks
set_option linter.unusedVariables false
theorem rlong_any : ∀ (n i : Nat) (w : World), i < n → n ≤ 100000000 → Calls Try.prog 21 #[.int .i64 (n : Nat), .int .i64 (i : Nat)] w fun e w' => e = .returned (.int .i64 ((sidesH n i).length : Nat)) ∧ w' = w := by
  intro n
  induction n using Nat.strongRecOn with
  | ind n ih =>
  intro i w hi hn
  refine calls_by fun R HR => ?_
  by_cases h2 : 2 ≤ n
  · have hh := half_lt n h2
    have HH := Lib.hid (rhalf_any n w h2 (by omega))
    have hn2 : ¬ (n : Int) < 2 := by omega
    have hlen : ∀ n i, (sidesH n i).length ≤ n := by
      intro n
      induction n using Nat.strongRecOn with
      | ind n ih =>
        intro i
        by_cases h : 2 ≤ n
        · have := half_lt n h
          rw [sides_two n i h]
          split
          · have := ih (halfN n) (by omega) i; simp; omega
          · have := ih (n - halfN n) (by omega) (i - halfN n); simp; omega
        · rw [sides_low n i h]; simp
    by_cases hk : i < halfN n
    · have HL := Lib.hid (ih (halfN n) (by omega) i w hk (by omega))
      have HS := Lib.hid (show (sidesH n i).length = (sidesH (halfN n) i).length + 1 by rw [sides_two n i h2, if_pos hk]; simp)
      have hb := hlen (halfN n) i
      have hki : (i : Int) < ((halfN n : Nat) : Int) := by omega
      generalize (sidesH (halfN n) i).length = q at *
      generalize halfN n = k at *
      have hq : (q : Int) ≤ 100000000 := by omega
      clear ih hlen hi hn hh hk hb h2
      go_enter Try.func21, Try.ntmps21
      go_wp2_with fail
      refine HH.out.mono ?_
      rintro e w1 ⟨rfl, hw⟩
      subst hw
      go_wp2_with fail
      refine HL.out.mono ?_
      rintro e w2 ⟨rfl, hw⟩
      subst hw
      go_wp2
      exact HR.out _ _ ⟨by rw [HS.out]; rfl, rfl⟩
    · have HL := Lib.hid (ih (n - halfN n) (by omega) (i - halfN n) w (by omega) (by omega))
      have HS := Lib.hid (show (sidesH n i).length = (sidesH (n - halfN n) (i - halfN n)).length + 1 by rw [sides_two n i h2, if_neg hk]; simp)
      have hb := hlen (n - halfN n) (i - halfN n)
      have hki : ¬ (i : Int) < ((halfN n : Nat) : Int) := by omega
      have e1 : (n : Int) - ((halfN n : Nat) : Int) = ((n - halfN n : Nat) : Int) := by omega
      have e2 : (i : Int) - ((halfN n : Nat) : Int) = ((i - halfN n : Nat) : Int) := by omega
      generalize (sidesH (n - halfN n) (i - halfN n)).length = q at *
      generalize n - halfN n = n2 at *
      generalize i - halfN n = i2 at *
      generalize halfN n = k at *
      have hq : (q : Int) ≤ 100000000 := by omega
      have w1 : wrap64 ((n2 : Nat) : Int) = ((n2 : Nat) : Int) := by rw [wrap64]; omega
      have w2 : wrap64 ((i2 : Nat) : Int) = ((i2 : Nat) : Int) := by rw [wrap64]; omega
      clear ih hlen hi hn hh hk hb h2
      go_enter Try.func21, Try.ntmps21
      go_wp2_with fail
      refine HH.out.mono ?_
      rintro e w1 ⟨rfl, hw⟩
      subst hw
      go_wp2_with fail
      refine HL.out.mono ?_
      rintro e w2 ⟨rfl, hw⟩
      subst hw
      go_wp2
      exact HR.out _ _ ⟨by rw [HS.out]; rfl, rfl⟩
  · have HS := Lib.hid (show (sidesH n i).length = 0 by rw [sides_low n i h2]; rfl)
    have hn2 : (n : Int) < 2 := by omega
    clear ih hi hn h2
    go_enter Try.func21, Try.ntmps21
    go_wp2
    exact HR.out _ _ ⟨by rw [HS.out]; rfl, rfl⟩
end Go.Proofs.Ytophfeapmmfppaa
/- A region that draws its order, where two steps may come either way round: a call that makes a row of its own, and what is appended to it. Plain. No program is in sight. -/
namespace Ks
open Go Go.RowKit
set_option linter.unusedVariables false
section
variable {P : Program} {ops : Array Oper} {md : Region.Mode} {C : Told → World → Prop}
theorem mOp_alone {K : Told → Act → Prop} {F : Told} {a : Act} (i : Nat) {o : Oper} (ho : ops[i]? = some o) (hw : Region.wanted o (yielded ops a.tmps) = true) (V : Value → Prop)
    (hc : ∀ g w, agree md o F g → g i = none → C g w → ∀ D : Value → World → Prop, (∀ v w', V v → C (upd g i v) w' → D v w') → movesUpon P D ((execOp a.eval o).run P w))
    (hK : ∀ v, V v → K (upd F i v) (a.put o.dst v)) : mOp P md ops C i K F a :=
  Moves.mOp (V := V) ho (.inl ⟨hw, fun g w h0 h1 h2 => hc g w h0 h1 h2 _ fun v w' a b => ⟨a, b⟩⟩) hK
theorem mOp_call {K : Told → Act → Prop} {F : Told} {a : Act} (i : Nat) {o : Oper} (f : FuncId) {xs : Array Operand} {ts : Array TypeId} (ho : ops[i]? = some o) (hw : Region.wanted o (yielded ops a.tmps) = true)
    (hop : o.op = Op.call { callee := Callee.value (.func f), args := xs, argTypes := ts }) (eg : ∀ args w, (callFunc f args).run P w = .ok (.enter f args) w) {args : Array Value} (hargs : xs.toList.map a.eval = args.toList)
    (V : Value → Prop) (hc : ∀ g w, agree md o F g → g i = none → C g w → Calls P f args w fun e w' => ∃ v, e = .returned v ∧ V v ∧ C (upd g i v) w')
    (hK : ∀ v, V v → K (upd F i v) (a.put o.dst v)) : mOp P md ops C i K F a := by
  refine Moves.mOp (V := V) ho (.inl ⟨hw, fun g w h0 h1 h2 => ?_⟩) hK
  have hrun : (execOp a.eval o).run P w = .ok (.enter f args) w := by
    have h : xs.map a.eval = args := Array.toList_inj.1 (by simpa using hargs)
    simp [execOp, hop, resolve, Deferred.ofValue, Act.eval, invoke, eg, ← h]
  rw [hrun]
  exact hc g w h0 h1 h2
theorem mv_fork {Q : Told → Act → Prop} {fuel : Nat} {listed : Array Bool} {F : Told} {a : Act} (i j : Nat) (hr : Region.ready md ops listed = [i, j])
    (h1 : mOp P md ops C i (wpAnyM P md ops C Q fuel (listed.setIfInBounds i true)) F a) (h2 : mOp P md ops C j (wpAnyM P md ops C Q fuel (listed.setIfInBounds j true)) F a) : wpAnyM P md ops C Q (fuel + 1) listed F a := by
  refine ⟨by rw [hr]; simp, fun k hk => ?_⟩
  rw [hr] at hk
  rcases List.mem_cons.1 hk with rfl | hk
  · exact h1
  · obtain rfl : k = j := by simpa using hk
    exact h2
end
/-- a class of worlds behind one, where a call makes a row of its own (p), a step makes what is appended (s), and a step appends it (u) -/
def Joins {α : Type} (E : Enc α) (w0 : World) (T : TypeId) (L l : List α) (p s u : Option Value) (w : World) : Prop :=
  Below w0.heap.size w0 w ∧ (match u with
  | none => (∀ v, p = some v → Row E w w0.heap.size T v L) ∧ (∀ x, s = some x → Rd E w x l)
  | some u => (p ≠ none ∧ s ≠ none) ∧ Row E w w0.heap.size T u (L ++ l))
section
variable {α : Type} {E : Enc α} {w0 w w' : World} {T : TypeId} {L l : List α} {p s u : Option Value}
theorem Joins.start (hb : Below w0.heap.size w0 w) : Joins E w0 T L l none none none w := ⟨hb, ⟨(fun v h => by cases h), (fun v h => by cases h)⟩⟩
theorem Joins.on (h : Joins E w0 T L l p s u w) (hb : Below w.heap.size w w') : Joins E w0 T L l p s u w' := by
  refine ⟨h.1.trans (hb.mono h.1.size), ?_⟩
  have h2 := h.2
  cases u with
  | none => exact ⟨fun v e => (h2.1 v e).below hb, fun x e => (h2.2 x e).below hb⟩
  | some u => exact ⟨h2.1, h2.2.below hb⟩
theorem Joins.early1 (h : Joins E w0 T L l none s u w) : u = none := by
  cases u with
  | none => rfl
  | some u => exact absurd rfl h.2.1.1
theorem Joins.early2 (h : Joins E w0 T L l p none u w) : u = none := by
  cases u with
  | none => rfl
  | some u => exact absurd rfl h.2.1.2
theorem Joins.path {v : Value} (h : Joins E w0 T L l none s u w) (hr : Row E w' w.heap.size T v L) (hb : Below w.heap.size w w') : Joins E w0 T L l (some v) s u w' := by
  obtain rfl := h.early1
  exact ⟨h.1.trans (hb.mono h.1.size), ⟨(fun v' e => by cases e; exact hr.down h.1.size), (fun x e => (h.2.2 x e).below hb)⟩⟩
theorem Joins.made (h : Joins E w0 T L l p none u w) (cs : Array Value) (e : cs.toList = E.cs l) (fr : Nat × Nat := (0, 0)) (T' : TypeId) : Joins E w0 T L l p (some (.slice (some ⟨w.heap.size, 0, none⟩) l.length l.length)) u (w.alloc (.cells cs T' fr)) := by
  obtain rfl := h.early2
  have hb := alloc_below w (.cells cs T' fr)
  exact ⟨h.1.trans (hb.mono h.1.size), ⟨(fun v e => (h.2.1 v e).below hb), (fun x e2 => by cases e2; exact Rd.block (alloc_new w _) e)⟩⟩
theorem Joins.rows {v x : Value} (h : Joins E w0 T L l (some v) (some x) none w) : Row E w w0.heap.size T v L ∧ Rd E w x l ∧ w0.heap.size ≤ w.heap.size := ⟨h.2.1 v rfl, h.2.2 x rfl, h.1.size⟩
theorem Joins.grew {v x v' : Value} (h : Joins E w0 T L l (some v) (some x) none w) (hG : Grew E w w' w0.heap.size T v v' (L ++ l)) : Joins E w0 T L l (some v) (some x) (some v') w' :=
  ⟨hG.below h.1 h.1.size (fun b e => ((h.2.1 v rfl).lt e).1), ⟨(fun e => by cases e), (fun e => by cases e)⟩, hG.1⟩
end
end Ks
