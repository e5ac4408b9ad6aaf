/- Trees of hashes: by halves from above, and by levels from below: plain. -/
import Derived.Test.YtophfeapmmfppaaShaFold
namespace Ks
open Go
set_option linter.unusedVariables false
def sha1 (l : List UInt8) : ByteArray := ⟨(shaL l).toArray⟩
theorem sha1_size (l : List UInt8) : (sha1 l).size = 32 := by show (shaL l).toArray.size = 32; simp [shaL_length]
def leafS (s : ByteArray) : ByteArray := sha1 (0 :: s.data.toList)
def insideL (a b : ByteArray) : List UInt8 := 1 :: (a.data.toList ++ b.data.toList)
def nodeS (a b : ByteArray) : ByteArray := sha1 (insideL a b)
def wholeL (l : List ByteArray) : Bool := l.all fun s => s.size == 32
/-- the greatest power of 2 below -/
def halfN (n : Nat) : Nat := 2 ^ (n - 1).log2
theorem half_spec (n : Nat) (h : 2 ≤ n) : ∃ j, halfN n = 2 ^ j ∧ 2 ^ j < n ∧ n ≤ 2 ^ (j + 1) := by
  refine ⟨(n - 1).log2, rfl, ?_, ?_⟩
  · have := Nat.log2_self_le (show n - 1 ≠ 0 by omega); omega
  · have := @Nat.lt_log2_self (n - 1); omega
theorem half_lt (n : Nat) (h : 2 ≤ n) : 0 < halfN n ∧ halfN n < n := by
  obtain ⟨j, e, h1, _⟩ := half_spec n h
  rw [e]
  exact ⟨Nat.two_pow_pos j, h1⟩
theorem half_of (n j : Nat) (h1 : 2 ^ j < n) (h2 : n ≤ 2 ^ (j + 1)) : halfN n = 2 ^ j := by
  have h3 : 1 ≤ 2 ^ j := Nat.two_pow_pos j
  obtain ⟨i, e, g1, g2⟩ := half_spec n (by omega)
  rw [e]
  have a : j < i + 1 := (Nat.pow_lt_pow_iff_right (a := 2) (by decide)).1 (by omega)
  have b : i < j + 1 := (Nat.pow_lt_pow_iff_right (a := 2) (by decide)).1 (by omega)
  rw [show i = j by omega]

/-- the root, by halves -/
def rootL (l : List ByteArray) : ByteArray :=
  if h : 2 ≤ l.length then nodeS (rootL (l.take (halfN l.length))) (rootL (l.drop (halfN l.length))) else if l.length = 1 then l.headD ⟨#[]⟩ else sha1 []
termination_by l.length
decreasing_by
  · have := half_lt l.length h; rw [List.length_take]; omega
  · have := half_lt l.length h; rw [List.length_drop]; omega
theorem root_two (l : List ByteArray) (h : 2 ≤ l.length) : rootL l = nodeS (rootL (l.take (halfN l.length))) (rootL (l.drop (halfN l.length))) := by rw [rootL, dif_pos h]
theorem root_one (a : ByteArray) : rootL [a] = a := by rw [rootL]; simp
theorem root_nil : rootL [] = sha1 [] := by rw [rootL]; simp
def pathL (l : List ByteArray) (i : Nat) : List ByteArray :=
  if h : 2 ≤ l.length then (if i < halfN l.length then pathL (l.take (halfN l.length)) i ++ [rootL (l.drop (halfN l.length))] else pathL (l.drop (halfN l.length)) (i - halfN l.length) ++ [rootL (l.take (halfN l.length))]) else []
termination_by l.length
decreasing_by
  · have := half_lt l.length h; rw [List.length_take]; omega
  · have := half_lt l.length h; rw [List.length_drop]; omega
theorem path_two (l : List ByteArray) (i : Nat) (h : 2 ≤ l.length) : pathL l i = if i < halfN l.length then pathL (l.take (halfN l.length)) i ++ [rootL (l.drop (halfN l.length))] else pathL (l.drop (halfN l.length)) (i - halfN l.length) ++ [rootL (l.take (halfN l.length))] := by rw [pathL, dif_pos h]
theorem path_low (l : List ByteArray) (i : Nat) (h : ¬ 2 ≤ l.length) : pathL l i = [] := by rw [pathL, dif_neg h]

/-- the level above one -/
def aboveL : List ByteArray → List ByteArray
  | a :: b :: l => nodeS a b :: aboveL l
  | [a] => [a]
  | [] => []
theorem above_length : ∀ l : List ByteArray, (aboveL l).length = (l.length + 1) / 2
  | [] => rfl
  | [a] => by rw [aboveL]; simp
  | a :: b :: l => by rw [aboveL, List.length_cons, above_length l]; simp only [List.length_cons]; omega
theorem above_append : ∀ (m : Nat) (a b : List ByteArray), a.length = 2 * m → aboveL (a ++ b) = aboveL a ++ aboveL b
  | 0, a, b, h => by obtain rfl : a = [] := List.length_eq_zero_iff.1 (by omega); rfl
  | m + 1, [], b, h => by simp at h
  | m + 1, [x], b, h => by simp at h; omega
  | m + 1, x :: y :: a, b, h => by
    simp only [List.length_cons] at h
    show nodeS x y :: aboveL (a ++ b) = nodeS x y :: aboveL a ++ aboveL b
    rw [above_append m a b (by omega)]; rfl
def upL : Nat → List ByteArray → List ByteArray
  | 0, l => l
  | m + 1, l => upL m (aboveL l)
theorem up_succ (m : Nat) (l : List ByteArray) : upL (m + 1) l = aboveL (upL m l) := by
  induction m generalizing l with
  | zero => rfl
  | succ m ih => rw [upL, ih, upL]
theorem up_one (m : Nat) (a : ByteArray) : upL m [a] = [a] := by
  induction m with
  | zero => rfl
  | succ m ih => exact ih
theorem up_add (m n : Nat) (l : List ByteArray) : upL (m + n) l = upL n (upL m l) := by
  induction m generalizing l with
  | zero => rw [Nat.zero_add]; rfl
  | succ m ih => rw [Nat.succ_add, upL, upL, ih]
theorem pow_half (j i : Nat) (h : i + 1 ≤ j) : 2 ^ (j - i) = 2 * 2 ^ (j - (i + 1)) := by
  rw [show j - i = (j - (i + 1)) + 1 by omega, Nat.pow_succ]; omega
theorem up_append (j : Nat) (a b : List ByteArray) (ha : a.length = 2 ^ j) : ∀ i, i ≤ j → upL i (a ++ b) = upL i a ++ upL i b ∧ (upL i a).length = 2 ^ (j - i) := by
  intro i
  induction i with
  | zero => exact fun _ => ⟨rfl, ha⟩
  | succ i ih =>
    intro h
    obtain ⟨e, hl⟩ := ih (by omega)
    rw [pow_half j i h] at hl
    rw [up_succ, up_succ, up_succ, e, above_append _ _ _ hl, above_length, hl]
    exact ⟨rfl, by omega⟩
/-- so many levels up there is the root alone -/
theorem up_root : ∀ (n : Nat) (l : List ByteArray) (m : Nat), l.length = n → 0 < n → n ≤ 2 ^ m → upL m l = [rootL l] := by
  intro n
  induction n using Nat.strongRecOn with
  | ind n ih =>
    intro l m hn h0 hm
    by_cases h1 : n = 1
    · subst h1
      match l, hn with
      | [a], _ => rw [up_one, root_one]
    · obtain ⟨j, e, g1, g2⟩ := half_spec n (by omega)
      have h2 : 2 ≤ l.length := by omega
      have h3 : 0 < 2 ^ j := Nat.two_pow_pos j
      have hjm : j < m := (Nat.pow_lt_pow_iff_right (a := 2) (by decide)).1 (by omega)
      have ht : (l.take (2 ^ j)).length = 2 ^ j := by rw [List.length_take]; omega
      have hd : (l.drop (2 ^ j)).length = n - 2 ^ j := by rw [List.length_drop]; omega
      have hj : upL (j + 1) l = [rootL l] := by
        have h4 := (up_append j (l.take (2 ^ j)) (l.drop (2 ^ j)) ht j (Nat.le_refl _)).1
        rw [List.take_append_drop] at h4
        rw [up_succ, h4, ih (2 ^ j) (by omega) _ j ht h3 (Nat.le_refl _), ih (n - 2 ^ j) (by omega) _ j hd (by omega) (by rw [Nat.pow_succ] at g2; omega), root_two l h2, hn, e]
        rfl
      rw [show m = (j + 1) + (m - (j + 1)) by omega, up_add, hj, up_one]
theorem root_above (l : List ByteArray) (h : 0 < l.length) : rootL (aboveL l) = rootL l := by
  obtain ⟨m, hm⟩ : ∃ m, l.length ≤ 2 ^ m := ⟨l.length, Nat.le_of_lt Nat.lt_two_pow_self⟩
  have h1 := up_root l.length l (m + 1) rfl h (by rw [Nat.pow_succ]; omega)
  have hl := above_length l
  have h2 := up_root (aboveL l).length (aboveL l) m rfl (by omega) (by omega)
  rw [upL, h2] at h1
  simpa using h1

/-- the place beside -/
def besideN (i : Nat) : Nat := if i % 2 = 0 then i + 1 else i - 1
def sibL (l : List ByteArray) (i : Nat) : List ByteArray := if besideN i < l.length then [l.getD (besideN i) ⟨#[]⟩] else []
/-- the path, by levels -/
def pathM : Nat → List ByteArray → Nat → List ByteArray
  | 0, _, _ => []
  | m + 1, l, i => sibL l i ++ pathM m (aboveL l) (i / 2)
theorem pathM_snoc (m : Nat) (l : List ByteArray) (i : Nat) : pathM (m + 1) l i = pathM m l i ++ sibL (upL m l) (i / 2 ^ m) := by
  induction m generalizing l i with
  | zero => simp [pathM, upL]
  | succ m ih =>
    rw [pathM, ih (aboveL l) (i / 2), pathM, upL, List.append_assoc, Nat.div_div_eq_div_mul, Nat.pow_succ, Nat.mul_comm]
theorem pathM_one (m : Nat) (a : ByteArray) : pathM m [a] 0 = [] := by
  induction m with
  | zero => rfl
  | succ m ih => rw [pathM]; show sibL [a] 0 ++ pathM m [a] 0 = []; rw [ih]; rfl
theorem sib_left (a b : List ByteArray) (i m : Nat) (h : a.length = 2 * m) (hi : i < a.length) : sibL (a ++ b) i = sibL a i := by
  have h1 : besideN i < a.length := by unfold besideN; split <;> omega
  unfold sibL
  rw [if_pos (by rw [List.length_append]; omega), if_pos h1]
  simp only [List.getD_eq_getElem?_getD]
  rw [List.getElem?_append_left h1]
theorem sib_right (a b : List ByteArray) (i m : Nat) (h : a.length = 2 * m) (hi : a.length ≤ i) : sibL (a ++ b) i = sibL b (i - a.length) := by
  have h1 : besideN i = a.length + besideN (i - a.length) := by
    unfold besideN
    rw [h] at hi ⊢
    by_cases e : i % 2 = 0
    · rw [if_pos e, if_pos (by omega)]; omega
    · rw [if_neg e, if_neg (by omega)]; omega
  unfold sibL
  by_cases h2 : besideN (i - a.length) < b.length
  · rw [if_pos (by rw [List.length_append]; omega), if_pos h2, h1]
    simp only [List.getD_eq_getElem?_getD]
    rw [List.getElem?_append_right (by omega), Nat.add_sub_cancel_left]
  · rw [if_neg (by rw [List.length_append]; omega), if_neg h2]
theorem pathM_left (j : Nat) : ∀ (t : Nat) (a b : List ByteArray) (i : Nat), t ≤ j → a.length = 2 ^ j → i < a.length → pathM t (a ++ b) i = pathM t a i := by
  induction j with
  | zero => intro t a b i ht ha hi; (obtain rfl : t = 0 := by omega); rfl
  | succ j ih =>
    intro t a b i ht ha hi
    match t, ht with
    | 0, _ => rfl
    | t + 1, ht =>
      have he : a.length = 2 * 2 ^ j := by rw [ha, Nat.pow_succ]; omega
      rw [pathM, pathM, sib_left a b i _ he hi, above_append _ _ _ he]
      rw [ih t (aboveL a) (aboveL b) (i / 2) (by omega) (by rw [above_length]; omega) (by rw [above_length]; omega)]
theorem pathM_right (j : Nat) : ∀ (t : Nat) (a b : List ByteArray) (i : Nat), t ≤ j → a.length = 2 ^ j → a.length ≤ i → pathM t (a ++ b) i = pathM t b (i - a.length) := by
  induction j with
  | zero => intro t a b i ht ha hi; (obtain rfl : t = 0 := by omega); rfl
  | succ j ih =>
    intro t a b i ht ha hi
    match t, ht with
    | 0, _ => rfl
    | t + 1, ht =>
      have he : a.length = 2 * 2 ^ j := by rw [ha, Nat.pow_succ]; omega
      rw [pathM, pathM, sib_right a b i _ he hi, above_append _ _ _ he]
      rw [ih t (aboveL a) (aboveL b) (i / 2) (by omega) (by rw [above_length]; omega) (by rw [above_length]; omega), above_length]
      congr 2
      omega
theorem pathM_eq : ∀ (n : Nat) (l : List ByteArray) (m i : Nat), l.length = n → i < n → n ≤ 2 ^ m → pathM m l i = pathL l i := by
  intro n
  induction n using Nat.strongRecOn with
  | ind n ih =>
    intro l m i hn hi hm
    by_cases h1 : n = 1
    · subst h1
      obtain rfl : i = 0 := by omega
      match l, hn with
      | [a], _ => rw [pathM_one, path_low _ _ (by simp)]
    · obtain ⟨j, e, g1, g2⟩ := half_spec n (by omega)
      have h2 : 2 ≤ l.length := by omega
      have h3 : 0 < 2 ^ j := Nat.two_pow_pos j
      have hp : 2 ^ (j + 1) = 2 * 2 ^ j := by rw [Nat.pow_succ]; omega
      have hjm : j < m := (Nat.pow_lt_pow_iff_right (a := 2) (by decide)).1 (by omega)
      have ht : (l.take (2 ^ j)).length = 2 ^ j := by rw [List.length_take]; omega
      have hd : (l.drop (2 ^ j)).length = n - 2 ^ j := by rw [List.length_drop]; omega
      have hup : upL j l = [rootL (l.take (2 ^ j)), rootL (l.drop (2 ^ j))] := by
        have h4 := (up_append j (l.take (2 ^ j)) (l.drop (2 ^ j)) ht j (Nat.le_refl _)).1
        rw [List.take_append_drop] at h4
        rw [h4, up_root (2 ^ j) _ j ht h3 (Nat.le_refl _), up_root (n - 2 ^ j) _ j hd (by omega) (by omega)]
        rfl
      have hj : pathM (j + 1) l i = pathL l i := by
        rw [pathM_snoc, hup, path_two l i h2, hn, e]
        by_cases hik : i < 2 ^ j
        · rw [if_pos hik, Nat.div_eq_of_lt hik]
          have h5 := pathM_left j j (l.take (2 ^ j)) (l.drop (2 ^ j)) i (Nat.le_refl _) ht (by omega)
          rw [List.take_append_drop] at h5
          rw [h5, ih (2 ^ j) (by omega) _ j i ht hik (Nat.le_refl _)]
          rfl
        · rw [if_neg hik, show i / 2 ^ j = 1 from Nat.div_eq_of_lt_le (by omega) (by omega)]
          have h5 := pathM_right j j (l.take (2 ^ j)) (l.drop (2 ^ j)) i (Nat.le_refl _) ht (by omega)
          rw [List.take_append_drop, ht] at h5
          rw [h5, ih (n - 2 ^ j) (by omega) _ j (i - 2 ^ j) hd (by omega) (by omega)]
          rfl
      have hz : i / 2 ^ (j + 1) = 0 := Nat.div_eq_of_lt (by omega)
      have hu : upL (j + 1) l = [rootL l] := up_root n l (j + 1) hn (by omega) g2
      have hmore : ∀ t, pathM (j + 1 + t) l i = pathM (j + 1) l i := by
        intro t
        induction t with
        | zero => rfl
        | succ t iht =>
          rw [← Nat.add_assoc, pathM_snoc, iht, up_add, hu, up_one]
          have : i / 2 ^ (j + 1 + t) = 0 := Nat.div_eq_of_lt (Nat.lt_of_lt_of_le (show i < 2 ^ (j + 1) by omega) (Nat.pow_le_pow_right (by decide) (by omega)))
          rw [this]
          show pathM (j + 1) l i ++ sibL [rootL l] 0 = _
          rw [show sibL [rootL l] 0 = [] from rfl, List.append_nil]
      rw [show m = j + 1 + (m - (j + 1)) by omega, hmore, hj]
end Ks
