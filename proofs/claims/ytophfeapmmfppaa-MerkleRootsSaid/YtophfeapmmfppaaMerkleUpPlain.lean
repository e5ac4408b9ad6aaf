/- Where a path leads a leaf: by levels and by halves; what two paths to one root tell. Plain. -/
import Derived.Test.YtophfeapmmfppaaMerkleNode
namespace Ks
open Go
set_option linter.unusedVariables false
/-- on which side a level's own one stands (true: the left); none: none stands beside it -/
def dirN (n i : Nat) : Option Bool := if besideN i < n then some (decide (i % 2 = 0)) else none
def dirsM : Nat → Nat → Nat → List (Option Bool)
  | 0, _, _ => []
  | m + 1, n, i => dirN n i :: dirsM m ((n + 1) / 2) (i / 2)
def upN : Nat → Nat → Nat
  | 0, n => n
  | m + 1, n => upN m ((n + 1) / 2)
theorem upN_bounds (m n : Nat) : n ≤ 2 ^ m * upN m n ∧ 2 ^ m * upN m n < n + 2 ^ m := by
  induction m generalizing n with
  | zero => simp [upN]
  | succ m ih =>
    obtain ⟨h1, h2⟩ := ih ((n + 1) / 2)
    rw [upN, Nat.pow_succ, Nat.mul_comm (2 ^ m) 2, Nat.mul_assoc]
    omega
theorem dirsM_snoc (m n i : Nat) : dirsM (m + 1) n i = dirsM m n i ++ [dirN (upN m n) (i / 2 ^ m)] := by
  induction m generalizing n i with
  | zero => simp [dirsM, upN]
  | succ m ih =>
    rw [dirsM, ih, dirsM, upN, Nat.div_div_eq_div_mul, Nat.pow_succ, Nat.mul_comm (2 ^ m) 2]
    rfl
theorem dirs_left (j : Nat) : ∀ (t n i : Nat), t ≤ j → i < 2 ^ j → 2 ^ j ≤ n → dirsM t n i = dirsM t (2 ^ j) i := by
  induction j with
  | zero => intro t n i ht hi hn; (obtain rfl : t = 0 := by omega); rfl
  | succ j ih =>
    intro t n i ht hi hn
    match t, ht with
    | 0, _ => rfl
    | t + 1, ht =>
      have he : 2 ^ (j + 1) = 2 * 2 ^ j := by rw [Nat.pow_succ]; omega
      have hb : besideN i < 2 ^ (j + 1) := by unfold besideN; split <;> omega
      rw [dirsM, dirsM, ih t ((n + 1) / 2) (i / 2) (by omega) (by omega) (by omega), show (2 ^ (j + 1) + 1) / 2 = 2 ^ j by omega]
      congr 1
      unfold dirN
      rw [if_pos hb, if_pos (by omega)]
theorem dirs_right (j : Nat) : ∀ (t n i : Nat), t ≤ j → 2 ^ j ≤ i → 2 ^ j ≤ n → dirsM t n i = dirsM t (n - 2 ^ j) (i - 2 ^ j) := by
  induction j with
  | zero => intro t n i ht hi hn; (obtain rfl : t = 0 := by omega); rfl
  | succ j ih =>
    intro t n i ht hi hn
    match t, ht with
    | 0, _ => rfl
    | t + 1, ht =>
      have he : 2 ^ (j + 1) = 2 * 2 ^ j := by rw [Nat.pow_succ]; omega
      have hb : besideN i = 2 ^ (j + 1) + besideN (i - 2 ^ (j + 1)) := by
        unfold besideN
        by_cases e : i % 2 = 0
        · rw [if_pos e, if_pos (by omega)]; omega
        · rw [if_neg e, if_neg (by omega)]; omega
      have hm : (i % 2 = 0) = ((i - 2 ^ (j + 1)) % 2 = 0) := by rw [eq_iff_iff]; omega
      rw [dirsM, dirsM, ih t ((n + 1) / 2) (i / 2) (by omega) (by omega) (by omega), show (n + 1) / 2 - 2 ^ j = (n - 2 ^ (j + 1) + 1) / 2 by omega, show i / 2 - 2 ^ j = (i - 2 ^ (j + 1)) / 2 by omega]
      congr 1
      unfold dirN
      simp only [hm]
      by_cases h : besideN (i - 2 ^ (j + 1)) < n - 2 ^ (j + 1)
      · rw [if_pos (by omega), if_pos h]
      · rw [if_neg (by omega), if_neg h]
def sidesM (m n i : Nat) : List Bool := (dirsM m n i).filterMap id
/-- the same by halves, from below -/
def sidesH (n i : Nat) : List Bool :=
  if h : 2 ≤ n then (if i < halfN n then sidesH (halfN n) i ++ [true] else sidesH (n - halfN n) (i - halfN n) ++ [false]) else []
termination_by n
decreasing_by
  · have := half_lt n h; omega
  · have := half_lt n h; omega
theorem sides_two (n i : Nat) (h : 2 ≤ n) : sidesH n i = if i < halfN n then sidesH (halfN n) i ++ [true] else sidesH (n - halfN n) (i - halfN n) ++ [false] := by rw [sidesH, dif_pos h]
theorem sides_low (n i : Nat) (h : ¬ 2 ≤ n) : sidesH n i = [] := by rw [sidesH, dif_neg h]
theorem sidesM_one (m : Nat) : sidesM m 1 0 = [] := by
  induction m with
  | zero => rfl
  | succ m ih => exact ih
theorem sidesM_zero (m i : Nat) : sidesM m 0 i = [] := by
  induction m generalizing i with
  | zero => rfl
  | succ m ih => exact ih (i / 2)
theorem sidesM_snoc (m n i : Nat) : sidesM (m + 1) n i = sidesM m n i ++ [dirN (upN m n) (i / 2 ^ m)].filterMap id := by
  unfold sidesM
  rw [dirsM_snoc, List.filterMap_append]
theorem sidesM_eq : ∀ (n m i : Nat), i < n → n ≤ 2 ^ m → sidesM m n i = sidesH n i := by
  intro n
  induction n using Nat.strongRecOn with
  | ind n ih =>
    intro m i hi hm
    by_cases h1 : n = 1
    · subst h1
      obtain rfl : i = 0 := by omega
      rw [sidesM_one, sides_low _ _ (by omega)]
    · obtain ⟨j, e, g1, g2⟩ := half_spec n (by omega)
      have h3 : 0 < 2 ^ j := Nat.two_pow_pos j
      have hp : 2 ^ (j + 1) = 2 * 2 ^ j := by rw [Nat.pow_succ]; omega
      have hjm : j < m := (Nat.pow_lt_pow_iff_right (a := 2) (by decide)).1 (by omega)
      have hu : upN j n = 2 := by
        obtain ⟨a, b⟩ := upN_bounds j n
        have h4 : ¬ upN j n ≤ 1 := fun h => by
          have := Nat.mul_le_mul_left (2 ^ j) h
          omega
        have h5 : ¬ 3 ≤ upN j n := fun h => by
          have := Nat.mul_le_mul_left (2 ^ j) h
          omega
        omega
      have hj : sidesM (j + 1) n i = sidesH n i := by
        rw [sidesM_snoc, hu, sides_two n i (by omega), e]
        by_cases hik : i < 2 ^ j
        · rw [if_pos hik, Nat.div_eq_of_lt hik, ← ih (2 ^ j) (by omega) j i hik (Nat.le_refl _)]
          unfold sidesM
          rw [dirs_left j j n i (Nat.le_refl _) hik (by omega)]
          rfl
        · rw [if_neg hik, show i / 2 ^ j = 1 from Nat.div_eq_of_lt_le (by omega) (by omega), ← ih (n - 2 ^ j) (by omega) j (i - 2 ^ j) (by omega) (by omega)]
          unfold sidesM
          rw [dirs_right j j n i (Nat.le_refl _) (by omega) (by omega)]
          rfl
      have hmore : ∀ t, sidesM (j + 1 + t) n i = sidesM (j + 1) n i := by
        intro t
        induction t with
        | zero => rfl
        | succ t iht =>
          have hu1 : upN (j + 1 + t) n = 1 := by
            obtain ⟨a, b⟩ := upN_bounds (j + 1 + t) n
            have hle : 2 ^ (j + 1) ≤ 2 ^ (j + 1 + t) := Nat.pow_le_pow_right (by decide) (by omega)
            have h4 : ¬ upN (j + 1 + t) n ≤ 0 := fun h => by
              have := Nat.mul_le_mul_left (2 ^ (j + 1 + t)) h
              omega
            have h5 : ¬ 2 ≤ upN (j + 1 + t) n := fun h => by
              have := Nat.mul_le_mul_left (2 ^ (j + 1 + t)) h
              omega
            omega
          have hz : i / 2 ^ (j + 1 + t) = 0 := Nat.div_eq_of_lt (Nat.lt_of_lt_of_le (show i < 2 ^ (j + 1) by omega) (Nat.pow_le_pow_right (by decide) (by omega)))
          rw [← Nat.add_assoc, sidesM_snoc, iht, hu1, hz]
          show sidesM (j + 1) n i ++ [] = _
          rw [List.append_nil]
      rw [show m = j + 1 + (m - (j + 1)) by omega, hmore, hj]
theorem sidesM_le (m n i : Nat) : (sidesM m n i).length ≤ m := by
  have : ∀ m n i, (dirsM m n i).length = m := by
    intro m
    induction m with
    | zero => intros; rfl
    | succ m ih => intro n i; rw [dirsM, List.length_cons, ih]
  exact Nat.le_trans (List.length_filterMap_le _ _) (Nat.le_of_eq (this m n i))

/-- where a path leads, one hash for each side -/
def foldU : List Bool → ByteArray → List ByteArray → ByteArray
  | s :: ss, x, p :: ps => foldU ss (if s then nodeS x p else nodeS p x) ps
  | _, x, _ => x
theorem foldU_nil (x : ByteArray) (ps : List ByteArray) : foldU [] x ps = x := by cases ps <;> rfl
theorem foldU_snoc (ss : List Bool) (s : Bool) (x : ByteArray) (ps : List ByteArray) (p : ByteArray) (h : ss.length = ps.length) :
    foldU (ss ++ [s]) x (ps ++ [p]) = if s then nodeS (foldU ss x ps) p else nodeS p (foldU ss x ps) := by
  induction ss generalizing x ps with
  | nil =>
    obtain rfl : ps = [] := List.length_eq_zero_iff.1 h.symm
    rfl
  | cons t ss ih =>
    match ps, h with
    | q :: ps, h => exact ih _ ps (by simpa using h)
theorem foldU_size (ss : List Bool) (x : ByteArray) (ps : List ByteArray) (h : x.size = 32) : (foldU ss x ps).size = 32 := by
  induction ss generalizing x ps with
  | nil => rw [foldU_nil]; exact h
  | cons s ss ih =>
    match ps with
    | [] => exact h
    | p :: ps => exact ih _ ps (by split <;> exact nodeS_size _ _)
def upS (n i : Nat) (x : ByteArray) (ps : List ByteArray) : ByteArray := foldU (sidesH n i) x ps
theorem up_low (n i : Nat) (x : ByteArray) (ps : List ByteArray) (h : ¬ 2 ≤ n) : upS n i x ps = x := by rw [upS, sides_low n i h, foldU_nil]
theorem up_left (n i : Nat) (x : ByteArray) (ps : List ByteArray) (p : ByteArray) (h : 2 ≤ n) (hi : i < halfN n) (hl : (ps ++ [p]).length = (sidesH n i).length) :
    upS n i x (ps ++ [p]) = nodeS (upS (halfN n) i x ps) p ∧ ps.length = (sidesH (halfN n) i).length := by
  rw [sides_two n i h, if_pos hi] at hl
  simp only [List.length_append, List.length_singleton] at hl
  rw [upS, sides_two n i h, if_pos hi, foldU_snoc _ _ _ _ _ (by omega)]
  exact ⟨rfl, by omega⟩
theorem up_right (n i : Nat) (x : ByteArray) (ps : List ByteArray) (p : ByteArray) (h : 2 ≤ n) (hi : ¬ i < halfN n) (hl : (ps ++ [p]).length = (sidesH n i).length) :
    upS n i x (ps ++ [p]) = nodeS p (upS (n - halfN n) (i - halfN n) x ps) ∧ ps.length = (sidesH (n - halfN n) (i - halfN n)).length := by
  rw [sides_two n i h, if_neg hi] at hl
  simp only [List.length_append, List.length_singleton] at hl
  rw [upS, sides_two n i h, if_neg hi, foldU_snoc _ _ _ _ _ (by omega)]
  exact ⟨rfl, by omega⟩
/-- a leaf's own path leads it to the root -/
theorem path_leads : ∀ (n : Nat) (l : List ByteArray) (i : Nat) (x : ByteArray), l.length = n → l[i]? = some x → upS n i x (pathL l i) = rootL l ∧ (pathL l i).length = (sidesH n i).length := by
  intro n
  induction n using Nat.strongRecOn with
  | ind n ih =>
    intro l i x hn hx
    have hi : i < l.length := (List.getElem?_eq_some_iff.1 hx).1
    by_cases h : 2 ≤ n
    · have hh := half_lt n h
      have h2 : 2 ≤ l.length := by omega
      rw [path_two l i h2, root_two l h2, hn]
      have ht : (l.take (halfN n)).length = halfN n := by rw [List.length_take]; omega
      have hd : (l.drop (halfN n)).length = n - halfN n := by rw [List.length_drop]; omega
      by_cases hik : i < halfN n
      · rw [if_pos hik]
        obtain ⟨a, b⟩ := ih (halfN n) (by omega) (l.take (halfN n)) i x ht (by rw [List.getElem?_take, if_pos hik]; exact hx)
        have hl : (pathL (l.take (halfN n)) i ++ [rootL (l.drop (halfN n))]).length = (sidesH n i).length := by
          rw [sides_two n i h, if_pos hik]; simp [b]
        exact ⟨by rw [(up_left n i x _ _ h hik hl).1, a], hl⟩
      · rw [if_neg hik]
        obtain ⟨a, b⟩ := ih (n - halfN n) (by omega) (l.drop (halfN n)) (i - halfN n) x hd (by rw [List.getElem?_drop, show halfN n + (i - halfN n) = i by omega]; exact hx)
        have hl : (pathL (l.drop (halfN n)) (i - halfN n) ++ [rootL (l.take (halfN n))]).length = (sidesH n i).length := by
          rw [sides_two n i h, if_neg hik]; simp [b]
        exact ⟨by rw [(up_right n i x _ _ h hik hl).1, a], hl⟩
    · match l, hn, hx with
      | [], hn, hx => simp at hx
      | [a], hn, hx =>
        obtain rfl : i = 0 := by simp at hi; exact hi
        rw [up_low _ _ _ _ h, path_low _ _ (by simp), root_one, sides_low _ _ h]
        simp at hx
        exact ⟨hx.symm, rfl⟩
      | a :: b :: l, hn, hx => simp at hn; omega
theorem path_whole : ∀ (n : Nat) (l : List ByteArray) (i : Nat), l.length = n → wholeL l = true → i < n → wholeL (pathL l i) = true ∧ (rootL l).size = 32 := by
  intro n
  induction n using Nat.strongRecOn with
  | ind n ih =>
    intro l i hn hw hi
    have hw' : ∀ s ∈ l, s.size = 32 := by simpa [wholeL] using hw
    by_cases h : 2 ≤ n
    · have hh := half_lt n h
      have h2 : 2 ≤ l.length := by omega
      rw [path_two l i h2, root_two l h2, hn]
      have ht : (l.take (halfN n)).length = halfN n := by rw [List.length_take]; omega
      have hd : (l.drop (halfN n)).length = n - halfN n := by rw [List.length_drop]; omega
      have w1 : wholeL (l.take (halfN n)) = true := by simp only [wholeL, List.all_eq_true, beq_iff_eq]; exact fun s hs => hw' s (List.mem_of_mem_take hs)
      have w2 : wholeL (l.drop (halfN n)) = true := by simp only [wholeL, List.all_eq_true, beq_iff_eq]; exact fun s hs => hw' s (List.mem_of_mem_drop hs)
      refine ⟨?_, nodeS_size _ _⟩
      have r1 := (ih (halfN n) (by omega) _ 0 ht w1 (by omega)).2
      have r2 := (ih (n - halfN n) (by omega) _ 0 hd w2 (by omega)).2
      by_cases hik : i < halfN n
      · rw [if_pos hik]
        have := (ih (halfN n) (by omega) _ i ht w1 hik).1
        simp only [wholeL, List.all_append, List.all_cons, List.all_nil, Bool.and_true, Bool.and_eq_true, beq_iff_eq] at this ⊢
        exact ⟨this, r2⟩
      · rw [if_neg hik]
        have := (ih (n - halfN n) (by omega) _ (i - halfN n) hd w2 (by omega)).1
        simp only [wholeL, List.all_append, List.all_cons, List.all_nil, Bool.and_true, Bool.and_eq_true, beq_iff_eq] at this ⊢
        exact ⟨this, r1⟩
    · match l, hn with
      | [], hn => simp at hn; omega
      | [a], hn => rw [path_low _ _ (by simp), root_one]; exact ⟨rfl, hw' a (by simp)⟩
      | a :: b :: l, hn => simp at hn; omega

/-- one step up -/
structure StepG where
  i : Nat
  n : Nat
  a : ByteArray
  b : ByteArray
def pairS (s : Bool) (x p : ByteArray) : ByteArray × ByteArray := if s then (x, p) else (p, x)
/-- the steps up, where the path leads, and what is left of it; none: it is too short -/
def climbO : Nat → Nat → Nat → ByteArray → List ByteArray → Option (List StepG × ByteArray × List ByteArray)
  | 0, _, _, x, ps => some ([], x, ps)
  | m + 1, n, i, x, ps =>
    if n ≤ 1 then some ([], x, ps) else
    match dirN n i with
    | none => (climbO m ((n + 1) / 2) (i / 2) x ps).map fun r => (⟨i, n, ⟨#[]⟩, ⟨#[]⟩⟩ :: r.1, r.2)
    | some s =>
      match ps with
      | [] => none
      | p :: ps => (climbO m ((n + 1) / 2) (i / 2) (nodeS (pairS s x p).1 (pairS s x p).2) ps).map fun r => (⟨i, n, (pairS s x p).1, (pairS s x p).2⟩ :: r.1, r.2)
section
variable {m n i : Nat} {x p : ByteArray} {ps : List ByteArray} {s : Bool}
theorem climb_low (h : n ≤ 1) : climbO (m + 1) n i x ps = some ([], x, ps) := by rw [climbO, if_pos h]
theorem climb_none (h : ¬ n ≤ 1) (hd : dirN n i = none) : climbO (m + 1) n i x ps = (climbO m ((n + 1) / 2) (i / 2) x ps).map fun r => (⟨i, n, ⟨#[]⟩, ⟨#[]⟩⟩ :: r.1, r.2) := by rw [climbO, if_neg h, hd]
theorem climb_nil (h : ¬ n ≤ 1) (hd : dirN n i = some s) : climbO (m + 1) n i x [] = none := by rw [climbO, if_neg h, hd]
theorem climb_some (h : ¬ n ≤ 1) (hd : dirN n i = some s) : climbO (m + 1) n i x (p :: ps) = (climbO m ((n + 1) / 2) (i / 2) (nodeS (pairS s x p).1 (pairS s x p).2) ps).map fun r => (⟨i, n, (pairS s x p).1, (pairS s x p).2⟩ :: r.1, r.2) := by rw [climbO, if_neg h, hd]
end
theorem node_pair (s : Bool) (x p : ByteArray) : nodeS (pairS s x p).1 (pairS s x p).2 = if s then nodeS x p else nodeS p x := by cases s <;> rfl
theorem climb_spec (m : Nat) : ∀ (n i : Nat) (x : ByteArray) (ps : List ByteArray), i < n → 
    (ps.length < (sidesM m n i).length → climbO m n i x ps = none) ∧ ((sidesM m n i).length ≤ ps.length → ∃ st, climbO m n i x ps = some (st, foldU (sidesM m n i) x ps, ps.drop (sidesM m n i).length)) := by
  induction m with
  | zero => intro n i x ps hi; exact ⟨fun h => absurd h (by simp [sidesM, dirsM]), fun _ => ⟨[], by simp [climbO, sidesM, dirsM, foldU_nil]⟩⟩
  | succ m ih =>
    intro n i x ps hi
    by_cases h1 : n ≤ 1
    · obtain rfl : n = 1 := by omega
      obtain rfl : i = 0 := by omega
      rw [sidesM_one]
      exact ⟨fun h => absurd h (by simp), fun _ => ⟨[], by rw [climb_low (by omega), foldU_nil]; rfl⟩⟩
    · have hs : sidesM (m + 1) n i = (match dirN n i with | none => sidesM m ((n + 1) / 2) (i / 2) | some s => s :: sidesM m ((n + 1) / 2) (i / 2)) := by
        unfold sidesM
        rw [dirsM]
        cases dirN n i <;> rfl
      rw [hs]
      cases hd : dirN n i with
      | none =>
        obtain ⟨a, b⟩ := ih ((n + 1) / 2) (i / 2) x ps (by omega)
        rw [climb_none h1 hd]
        refine ⟨fun h => ?_, fun h => ?_⟩
        · rw [a h]; rfl
        · obtain ⟨st, e⟩ := b h
          exact ⟨⟨i, n, ⟨#[]⟩, ⟨#[]⟩⟩ :: st, by rw [e]; rfl⟩
      | some s =>
        match ps with
        | [] => exact ⟨fun _ => climb_nil h1 hd, fun h => absurd h (by simp)⟩
        | p :: ps =>
          obtain ⟨a, b⟩ := ih ((n + 1) / 2) (i / 2) (nodeS (pairS s x p).1 (pairS s x p).2) ps (by omega)
          rw [climb_some h1 hd]
          refine ⟨fun h => ?_, fun h => ?_⟩
          · rw [a (by simpa using h)]; rfl
          · obtain ⟨st, e⟩ := b (by simpa using h)
            exact ⟨⟨i, n, (pairS s x p).1, (pairS s x p).2⟩ :: st, by rw [e, node_pair]; rfl⟩

def clashes (s t : StepG) : Bool := decide (s.a ≠ ⟨#[]⟩ ∧ (s.a ≠ t.a ∨ s.b ≠ t.b) ∧ nodeS s.a s.b = nodeS t.a t.b)
/-- the first level at which two paths clash -/
def clashL : List StepG → List StepG → Option (StepG × StepG)
  | s :: l, t :: r => if clashes s t then some (s, t) else clashL l r
  | _, _ => none
def fits (s : StepG) : Prop := (s.a = ⟨#[]⟩ ∧ s.b = ⟨#[]⟩) ∨ (s.a.size = 32 ∧ s.b.size = 32)
theorem clash_there (m : Nat) : ∀ (n i : Nat) (x y : ByteArray) (ps qs : List ByteArray) (st su : List StepG) (r : ByteArray) (ps' qs' : List ByteArray), n ≤ 2 ^ m → x.size = 32 → y.size = 32 → wholeL ps = true → wholeL qs = true →
    climbO m n i x ps = some (st, r, ps') → climbO m n i y qs = some (su, r, qs') →
    st.length = su.length ∧ (x ≠ y → ∃ s t, clashL st su = some (s, t)) ∧ (∀ s t, clashL st su = some (s, t) → clashes s t = true ∧ s.a.size = 32 ∧ s.b.size = 32 ∧ (t.a.size = 32 ∧ t.b.size = 32 ∨ False)) := by
  induction m with
  | zero =>
    intro n i x y ps qs st su r ps' qs' hn hx hy hp hq h1 h2
    simp only [climbO, Option.some.injEq, Prod.mk.injEq] at h1 h2
    obtain ⟨rfl, rfl, rfl⟩ := h1
    obtain ⟨rfl, rfl, rfl⟩ := h2
    exact ⟨rfl, fun h => absurd rfl h, fun s t h => by simp [clashL] at h⟩
  | succ m ih =>
    intro n i x y ps qs st su r ps' qs' hn hx hy hp hq h1 h2
    by_cases hn1 : n ≤ 1
    · rw [climb_low hn1] at h1 h2
      simp only [Option.some.injEq, Prod.mk.injEq] at h1 h2
      obtain ⟨rfl, rfl, rfl⟩ := h1
      obtain ⟨rfl, rfl, rfl⟩ := h2
      exact ⟨rfl, fun h => absurd rfl h, fun s t h => by simp [clashL] at h⟩
    · have hn' : (n + 1) / 2 ≤ 2 ^ m := by rw [Nat.pow_succ] at hn; omega
      cases hd : dirN n i with
      | none =>
        rw [climb_none hn1 hd] at h1 h2
        simp only [Option.map_eq_some_iff, Prod.mk.injEq] at h1 h2
        obtain ⟨⟨st1, r1⟩, e1, rfl, h1⟩ := h1
        obtain ⟨⟨su1, r2⟩, e2, rfl, h2⟩ := h2
        simp only at h1 h2
        subst h1
        subst h2
        obtain ⟨a, b, c⟩ := ih _ _ _ _ _ _ _ _ _ _ _ hn' hx hy hp hq e1 e2
        have hno : clashes ⟨i, n, ⟨#[]⟩, ⟨#[]⟩⟩ ⟨i, n, ⟨#[]⟩, ⟨#[]⟩⟩ = false := by simp [clashes]
        refine ⟨by simp [a], fun h => ?_, fun s t h => ?_⟩
        · rw [clashL, hno]; exact b h
        · rw [clashL, hno] at h; exact c s t h
      | some d =>
        match ps, qs, hp, hq, h1, h2 with
        | [], _, _, _, h1, _ => rw [climb_nil hn1 hd] at h1; cases h1
        | _ :: _, [], _, _, _, h2 => rw [climb_nil hn1 hd] at h2; cases h2
        | p :: ps, q :: qs, hp, hq, h1, h2 =>
          rw [climb_some hn1 hd] at h1 h2
          simp only [Option.map_eq_some_iff, Prod.mk.injEq] at h1 h2
          obtain ⟨⟨st1, r1⟩, e1, rfl, g1⟩ := h1
          obtain ⟨⟨su1, r2⟩, e2, rfl, g2⟩ := h2
          simp only at g1 g2
          subst g1
          subst g2
          simp only [wholeL, List.all_cons, Bool.and_eq_true, beq_iff_eq] at hp hq
          obtain ⟨a, b, c⟩ := ih _ _ _ _ _ _ _ _ _ _ _ hn' (nodeS_size _ _) (nodeS_size _ _) hp.2 hq.2 e1 e2
          have sz : ∀ (d : Bool) (x p : ByteArray), x.size = 32 → p.size = 32 → (pairS d x p).1.size = 32 ∧ (pairS d x p).2.size = 32 := fun d x p h1 h2 => by cases d <;> simp [pairS, h1, h2]
          have s1 := sz d x p hx hp.1
          have s2 := sz d y q hy hq.1
          have h0 : (pairS d x p).1 ≠ ⟨#[]⟩ := fun e => by have := s1.1; rw [e] at this; exact absurd this (by decide)
          refine ⟨by simp [a], fun h => ?_, fun s t h => ?_⟩
          · rw [clashL]
            by_cases hc : clashes ⟨i, n, (pairS d x p).1, (pairS d x p).2⟩ ⟨i, n, (pairS d y q).1, (pairS d y q).2⟩ = true
            · rw [if_pos hc]; exact ⟨_, _, rfl⟩
            · rw [if_neg hc]
              refine b fun e => hc ?_
              simp only [clashes, decide_eq_true_eq]
              refine ⟨h0, ?_, e⟩
              cases d
              · exact .inr fun e => h e
              · exact .inl fun e => h e
          · rw [clashL] at h
            by_cases hc : clashes ⟨i, n, (pairS d x p).1, (pairS d x p).2⟩ ⟨i, n, (pairS d y q).1, (pairS d y q).2⟩ = true
            · rw [if_pos hc] at h
              simp only [Option.some.injEq, Prod.mk.injEq] at h
              obtain ⟨rfl, rfl⟩ := h
              exact ⟨hc, s1.1, s1.2, .inl s2⟩
            · rw [if_neg hc] at h; exact c s t h
theorem inside_inj {a b c d : ByteArray} (h : a.size = c.size) (e : insideS a b = insideS c d) : a = c ∧ b = d := by
  have e1 : insideL a b = insideL c d := by
    have := congrArg (fun s : ByteArray => s.data.toList) e
    simpa [insideS] using this
  simp only [insideL, List.cons.injEq, true_and] at e1
  obtain ⟨h1, h2⟩ := List.append_inj e1 (by rw [data_length, data_length, h])
  have mk : ∀ {x y : ByteArray}, x.data.toList = y.data.toList → x = y := fun {x y} h => by
    cases x; cases y; congr 1; exact Array.toList_inj.1 h
  exact ⟨mk h1, mk h2⟩
end Ks
