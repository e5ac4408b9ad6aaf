/- Texts that the claim rests on, part 6: FrontFold, FrontRoot, MovedCall, FrontGrowC, FrontGrows, SeqBoth, Texts, StrBytes. -/
import Derived.Laws.EntriesVeiled
import Derived.Test.YtpdeicgjmjoglaaProg
import Derived.BigQuiet
import Derived.WalkLawsBesides
import Derived.Test.YtpdeicgjmjoglaaM5
/- Peaks of leaves: their root; from above; the tree that a path tells. Plain. No program is in sight. -/
namespace Ks
open Go
set_option linter.unusedVariables false
theorem fold_root : ∀ (n : Nat) (m : List ByteArray) (x : ByteArray), m.length = n → (peaksB m).foldr nodeS x = rootL (m ++ [x]) := by
  intro n
  induction n using Nat.strongRecOn with
  | ind n ih =>
    intro m x hn
    by_cases h0 : n = 0
    · obtain rfl : m = [] := List.length_eq_zero_iff.1 (hn.trans h0)
      rw [peaks_nil]
      show x = rootL [x]
      rw [root_one]
    · by_cases h2 : m.length % 2 = 0
      · rw [peaks_even m h2, ih (m.length / 2) (by omega) _ x (by rw [above_length]; omega), ← root_above (m ++ [x]) (by simp), above_append (m.length / 2) m _ (by omega)]
        rfl
      · obtain ⟨m', z, rfl, he⟩ := odd_last m (by omega)
        rw [List.length_append, List.length_singleton] at hn
        rw [peaks_odd m' z he, List.foldr_append]
        show (peaksB m').foldr nodeS (nodeS z x) = _
        rw [peaks_even m' he, ih (m'.length / 2) (by omega) _ _ (by rw [above_length]; omega), ← root_above (m' ++ [z] ++ [x]) (by simp), List.append_assoc, above_append (m'.length / 2) m' _ (by omega)]
        rfl
theorem peaks_last : ∀ (n : Nat) (l : List ByteArray), l.length = n → l ≠ [] → ∃ p x, peaksB l = p ++ [x] ∧ p.foldr nodeS x = rootL l := by
  intro n
  induction n using Nat.strongRecOn with
  | ind n ih =>
    intro l hn h0
    by_cases h2 : l.length % 2 = 0
    · obtain ⟨p, x, h3, h4⟩ := ih (l.length / 2) (by have := List.length_pos_iff.2 h0; omega) (aboveL l) (by rw [above_length]; omega) (fun e => by have h5 := congrArg List.length e; rw [above_length] at h5; have := List.length_pos_iff.2 h0; simp at h5; omega)
      exact ⟨p, x, by rw [peaks_even l h2, h3], by rw [h4, root_above l (List.length_pos_iff.2 h0)]⟩
    · obtain ⟨m, x, rfl, he⟩ := odd_last l (by omega)
      exact ⟨peaksB m, x, peaks_odd m x he, fold_root _ m x rfl⟩
theorem above_take (l : List ByteArray) (k : Nat) (h : 2 * k ≤ l.length) : aboveL l = aboveL (l.take (2 * k)) ++ aboveL (l.drop (2 * k)) := by
  have e := above_append k (l.take (2 * k)) (l.drop (2 * k)) (by rw [List.length_take]; omega)
  rwa [List.take_append_drop] at e
theorem peaks_above : ∀ (j : Nat) (l : List ByteArray), 2 ^ j ≤ l.length → l.length < 2 ^ (j + 1) → peaksB l = rootL (l.take (2 ^ j)) :: peaksB (l.drop (2 ^ j)) := by
  intro j
  induction j with
  | zero =>
    intro l h1 h2
    match l, h1, h2 with
    | [x], _, _ =>
      have e := peaks_odd [] x rfl
      rw [List.nil_append, peaks_nil] at e
      rw [e]
      show [x] = rootL [x] :: peaksB []
      rw [root_one, peaks_nil]
    | a :: b :: l, _, h2 => simp at h2; omega
  | succ j ih =>
    have hp : 0 < 2 ^ j := Nat.two_pow_pos j
    have even : ∀ l : List ByteArray, l.length % 2 = 0 → 2 ^ (j + 1) ≤ l.length → l.length < 2 ^ (j + 1 + 1) → peaksB l = rootL (l.take (2 ^ (j + 1))) :: peaksB (l.drop (2 ^ (j + 1))) := fun l he h1 h2 => by
      have e1 : 2 ^ (j + 1) = 2 * 2 ^ j := by rw [Nat.pow_succ]; omega
      have e2 : 2 ^ (j + 1 + 1) = 2 * 2 ^ (j + 1) := by rw [Nat.pow_succ]; omega
      have hl := above_length (l.take (2 ^ (j + 1)))
      rw [List.length_take] at hl
      have hlen : (aboveL (l.take (2 ^ (j + 1)))).length = 2 ^ j := by omega
      have ha := above_take l (2 ^ j) (by omega)
      rw [← e1] at ha
      have h3 := ih (aboveL l) (by rw [above_length]; omega) (by rw [above_length]; omega)
      rw [peaks_even l he, h3, ha, List.take_left' hlen, List.drop_left' hlen, root_above _ (by rw [List.length_take]; omega), ← peaks_even (l.drop (2 ^ (j + 1))) (by rw [List.length_drop]; omega)]
    intro l h1 h2
    by_cases he : l.length % 2 = 0
    · exact even l he h1 h2
    · obtain ⟨m, x, rfl, hm⟩ := odd_last l (by omega)
      rw [List.length_append, List.length_singleton] at h1 h2 he
      have e1 : 2 ^ (j + 1) = 2 * 2 ^ j := by rw [Nat.pow_succ]; omega
      have hle : 2 ^ (j + 1) ≤ m.length := by omega
      rw [peaks_odd m x hm, even m hm hle (by omega), List.take_append_of_le_length hle, List.drop_append_of_le_length hle, peaks_odd _ x (by rw [List.length_drop]; omega)]
      rfl

theorem peaks_wide : ∀ (n : Nat) (l : List ByteArray), l.length = n → (∀ s ∈ l, s.size = 32) → ∀ s ∈ peaksB l, s.size = 32 := by
  intro n
  induction n using Nat.strongRecOn with
  | ind n ih =>
    intro l hn hw s hs
    by_cases h0 : l = []
    · subst h0; rw [peaks_nil] at hs; simp at hs
    · have hp := List.length_pos_iff.2 h0
      by_cases h2 : l.length % 2 = 0
      · rw [peaks_even l h2] at hs
        exact ih (l.length / 2) (by omega) (aboveL l) (by rw [above_length]; omega) (above_wide l hw) s hs
      · obtain ⟨m, x, rfl, he⟩ := odd_last l (by omega)
        rw [peaks_odd m x he] at hs
        rcases List.mem_append.1 hs with h | h
        · rw [List.length_append, List.length_singleton] at hn
          exact ih m.length (by omega) m rfl (fun s hs => hw s (by simp [hs])) s h
        · exact hw s (by simp [List.mem_singleton.1 h])

/-- a tree that a path tells -/
inductive Tr where
  | leaf (root begin_ : ByteArray)
  | node (root begin_ : ByteArray) (l r : Tr)
def Tr.root : Tr → ByteArray
  | .leaf r _ => r
  | .node r _ _ _ => r
def Tr.start : Tr → ByteArray
  | .leaf _ b => b
  | .node _ b _ _ => b
def noS : ByteArray := ⟨#[]⟩
/-- how many hashes tell how so many grow -/
def longN (m n : Nat) (first : Bool) : Nat :=
  if m = n then (if first then 0 else 1)
  else if h : 2 ≤ n then (if m ≤ halfN n then longN m (halfN n) first + 1 else longN (m - halfN n) (n - halfN n) false + 1)
  else 0
termination_by n
decreasing_by
  all_goals
    have := half_lt n h
    omega
theorem long_all (n : Nat) (first : Bool) : longN n n first = if first then 0 else 1 := by rw [longN, if_pos rfl]
theorem long_left (m n : Nat) (first : Bool) (h : m ≠ n) (h2 : 2 ≤ n) (hm : m ≤ halfN n) : longN m n first = longN m (halfN n) first + 1 := by rw [longN, if_neg h, dif_pos h2, if_pos hm]
theorem long_right (m n : Nat) (first : Bool) (h : m ≠ n) (h2 : 2 ≤ n) (hm : ¬ m ≤ halfN n) : longN m n first = longN (m - halfN n) (n - halfN n) false + 1 := by rw [longN, if_neg h, dif_pos h2, if_neg hm]
/-- the tree that a path tells, of the path's hashes from its back -/
def treeL (m n : Nat) (first : Bool) (old : ByteArray) (path : List ByteArray) : Tr :=
  if m = n then (if first then .leaf old old else .leaf (path.headD noS) (path.headD noS))
  else if h : 2 ≤ n then
    if m ≤ halfN n then .node (nodeS (treeL m (halfN n) first old path.dropLast).root (path.getLastD noS)) (treeL m (halfN n) first old path.dropLast).start (treeL m (halfN n) first old path.dropLast) (.leaf (path.getLastD noS) noS)
    else .node (nodeS (path.getLastD noS) (treeL (m - halfN n) (n - halfN n) false old path.dropLast).root) (nodeS (path.getLastD noS) (treeL (m - halfN n) (n - halfN n) false old path.dropLast).start) (.leaf (path.getLastD noS) noS) (treeL (m - halfN n) (n - halfN n) false old path.dropLast)
  else .leaf noS noS
termination_by n
decreasing_by
  all_goals
    have := half_lt n h
    omega
theorem tree_first (n : Nat) (old : ByteArray) (path : List ByteArray) : treeL n n true old path = .leaf old old := by rw [treeL, if_pos rfl]; rfl
theorem tree_other (n : Nat) (old x : ByteArray) : treeL n n false old [x] = .leaf x x := by rw [treeL, if_pos rfl]; rfl
theorem tree_left (m n : Nat) (first : Bool) (old : ByteArray) (p : List ByteArray) (z : ByteArray) (h : m ≠ n) (h2 : 2 ≤ n) (hm : m ≤ halfN n) :
    treeL m n first old (p ++ [z]) = .node (nodeS (treeL m (halfN n) first old p).root z) (treeL m (halfN n) first old p).start (treeL m (halfN n) first old p) (.leaf z noS) := by
  rw [treeL, if_neg h, dif_pos h2, if_pos hm, List.dropLast_concat, List.getLastD_concat]
theorem tree_right (m n : Nat) (first : Bool) (old : ByteArray) (p : List ByteArray) (z : ByteArray) (h : m ≠ n) (h2 : 2 ≤ n) (hm : ¬ m ≤ halfN n) :
    treeL m n first old (p ++ [z]) = .node (nodeS z (treeL (m - halfN n) (n - halfN n) false old p).root) (nodeS z (treeL (m - halfN n) (n - halfN n) false old p).start) (.leaf z noS) (treeL (m - halfN n) (n - halfN n) false old p) := by
  rw [treeL, if_neg h, dif_pos h2, if_neg hm, List.dropLast_concat, List.getLastD_concat]
theorem tree_wide : ∀ (n m : Nat) (first : Bool) (old : ByteArray) (path : List ByteArray), 1 ≤ m → m ≤ n → old.size = 32 → (∀ s ∈ path, s.size = 32) → path.length = longN m n first →
    (treeL m n first old path).root.size = 32 ∧ (treeL m n first old path).start.size = 32 := by
  intro n
  induction n using Nat.strongRecOn with
  | ind n ih =>
    intro m first old path h1 hmn ho hp hl
    by_cases e : m = n
    · subst e
      cases first with
      | true => rw [tree_first]; exact ⟨ho, ho⟩
      | false =>
        rw [long_all] at hl
        match path, hl with
        | [x], _ => rw [tree_other]; exact ⟨hp x (by simp), hp x (by simp)⟩
    · have h2 : 2 ≤ n := by omega
      have hh := half_lt n h2
      by_cases hm : m ≤ halfN n
      · rw [long_left m n first e h2 hm] at hl
        have hne : path ≠ [] := fun e => by rw [e] at hl; simp at hl
        obtain ⟨p, z, rfl⟩ : ∃ p z, path = p ++ [z] := ⟨_, _, (List.dropLast_concat_getLast hne).symm⟩
        rw [tree_left m n first old p z e h2 hm]
        exact ⟨node_size _ _, (ih (halfN n) (by omega) m first old p h1 hm ho (fun s hs => hp s (by simp [hs])) (by simpa using hl)).2⟩
      · rw [long_right m n first e h2 hm] at hl
        have hne : path ≠ [] := fun e => by rw [e] at hl; simp at hl
        obtain ⟨p, z, rfl⟩ : ∃ p z, path = p ++ [z] := ⟨_, _, (List.dropLast_concat_getLast hne).symm⟩
        rw [tree_right m n first old p z e h2 hm]
        exact ⟨node_size _ _, node_size _ _⟩
theorem half_same (m n : Nat) (h1 : halfN n < m) (h2 : m ≤ n) (h : 2 ≤ n) : halfN m = halfN n := by
  obtain ⟨j, e, g1, g2⟩ := half_spec n h
  rw [e] at h1 ⊢
  exact half_of m j h1 (by omega)
theorem grow_len : ∀ (n : Nat) (l : List ByteArray) (m : Nat) (first : Bool), l.length = n → 1 ≤ m → m ≤ n → (growL l m first).length = longN m n first := by
  intro n
  induction n using Nat.strongRecOn with
  | ind n ih =>
    intro l m first hn h1 hmn
    by_cases e : m = n
    · subst e
      subst hn
      rw [grow_all, long_all]
      cases first <;> rfl
    · have h2 : 2 ≤ n := by omega
      have hh := half_lt n h2
      subst hn
      by_cases hm : m ≤ halfN l.length
      · rw [grow_left l m first e h2 hm, long_left m _ first e h2 hm, List.length_append, ih (halfN l.length) hh.2 _ m first (by rw [List.length_take]; omega) h1 hm]
        rfl
      · rw [grow_right l m first e h2 hm, long_right m _ first e h2 hm, List.length_append, ih (l.length - halfN l.length) (by omega) _ _ false (by rw [List.length_drop]) (by omega) (by omega)]
        rfl
theorem root_wide : ∀ (n : Nat) (l : List ByteArray), l.length = n → 1 ≤ n → (∀ s ∈ l, s.size = 32) → (rootL l).size = 32 := by
  intro n l hn h1 hw
  by_cases h : 2 ≤ l.length
  · rw [root_two l h]; exact node_size _ _
  · match l, hn, h1, h with
    | [a], _, _, _ => rw [root_one]; exact hw a (by simp)
    | [], hn, h1, _ => simp at hn; omega
    | a :: b :: l, _, _, h => simp at h
theorem grow_wide : ∀ (n : Nat) (l : List ByteArray) (m : Nat) (first : Bool), l.length = n → 1 ≤ m → m ≤ n → (∀ s ∈ l, s.size = 32) → ∀ s ∈ growL l m first, s.size = 32 := by
  intro n
  induction n using Nat.strongRecOn with
  | ind n ih =>
    intro l m first hn h1 hmn hw s hs
    by_cases e : m = n
    · subst e
      subst hn
      rw [grow_all] at hs
      cases first with
      | true => simp at hs
      | false =>
        obtain rfl : s = rootL l := by simpa using hs
        exact root_wide _ l rfl h1 hw
    · have h2 : 2 ≤ n := by omega
      have hh := half_lt n h2
      subst hn
      have w1 : ∀ s ∈ l.take (halfN l.length), s.size = 32 := fun s h => hw s (List.mem_of_mem_take h)
      have w2 : ∀ s ∈ l.drop (halfN l.length), s.size = 32 := fun s h => hw s (List.mem_of_mem_drop h)
      by_cases hm : m ≤ halfN l.length
      · rw [grow_left l m first e h2 hm] at hs
        rcases List.mem_append.1 hs with h | h
        · exact ih (halfN l.length) hh.2 _ m first (by rw [List.length_take]; omega) h1 hm w1 s h
        · rw [List.mem_singleton.1 h]; exact root_wide _ _ rfl (by rw [List.length_drop]; omega) w2
      · rw [grow_right l m first e h2 hm] at hs
        rcases List.mem_append.1 hs with h | h
        · exact ih (l.length - halfN l.length) (by omega) _ _ false (by rw [List.length_drop]) (by omega) (by omega) w2 s h
        · rw [List.mem_singleton.1 h]; exact root_wide _ _ rfl (by rw [List.length_take]; omega) w1
theorem root_begin (l : List ByteArray) (m : Nat) (h2 : 2 ≤ l.length) (hm : halfN l.length < m) (hml : m ≤ l.length) : rootL (l.take m) = nodeS (rootL (l.take (halfN l.length))) (rootL ((l.drop (halfN l.length)).take (m - halfN l.length))) := by
  have hh := half_lt l.length h2
  have e : (l.take m).length = m := by rw [List.length_take]; omega
  rw [root_two (l.take m) (by omega), e, half_same m l.length hm hml h2, List.take_take, List.drop_take, show min (halfN l.length) m = halfN l.length by omega]
/-- how the leaves grow leads from the first ones' root to both roots -/
theorem grow_leads : ∀ (n : Nat) (l : List ByteArray) (m : Nat) (first : Bool) (old : ByteArray), l.length = n → 1 ≤ m → m ≤ n → (first = true → old = rootL (l.take m)) →
    (treeL m n first old (growL l m first)).root = rootL l ∧ (treeL m n first old (growL l m first)).start = rootL (l.take m) := by
  intro n
  induction n using Nat.strongRecOn with
  | ind n ih =>
    intro l m first old hn h1 hmn ho
    by_cases e : m = n
    · subst e
      subst hn
      rw [grow_all, List.take_length]
      cases first with
      | true =>
        have := ho rfl
        rw [List.take_length] at this
        rw [tree_first]
        exact ⟨this, this⟩
      | false => exact (tree_other l.length old (rootL l)) ▸ ⟨rfl, rfl⟩
    · have h2 : 2 ≤ n := by omega
      have hh := half_lt n h2
      subst hn
      by_cases hm : m ≤ halfN l.length
      · have e3 : (l.take (halfN l.length)).take m = l.take m := by rw [List.take_take, Nat.min_eq_left hm]
        obtain ⟨g1, g2⟩ := ih (halfN l.length) hh.2 (l.take (halfN l.length)) m first old (by rw [List.length_take]; omega) h1 hm (fun h => (ho h).trans (by rw [e3]))
        rw [grow_left l m first e h2 hm, tree_left m _ first old _ _ e h2 hm]
        refine ⟨?_, ?_⟩
        · show nodeS _ _ = _
          rw [g1, root_two l h2]
        · show (treeL m (halfN l.length) first old _).start = _
          rw [g2, e3]
      · obtain ⟨g1, g2⟩ := ih (l.length - halfN l.length) (by omega) (l.drop (halfN l.length)) (m - halfN l.length) false old (by rw [List.length_drop]) (by omega) (by omega) (fun h => by cases h)
        rw [grow_right l m first e h2 hm, tree_right m _ first old _ _ e h2 hm]
        refine ⟨?_, ?_⟩
        · show nodeS _ _ = _
          rw [g1, root_two l h2]
        · show nodeS _ _ = _
          rw [g2, root_begin l m h2 (by omega) hmn]
def Tr.isNode : Tr → Bool
  | .leaf _ _ => false
  | .node _ _ _ _ => true
/-- the first node, from above, with other two hashes below -/
def clashT : List ByteArray → Tr → Option (ByteArray × ByteArray)
  | _, .leaf _ _ => none
  | l, .node _ _ x y =>
    if rootL (l.take (halfN l.length)) ≠ x.root ∨ rootL (l.drop (halfN l.length)) ≠ y.root then some (insideS (rootL (l.take (halfN l.length))) (rootL (l.drop (halfN l.length))), insideS x.root y.root)
    else if x.isNode = true ∨ x.start ≠ noS then clashT (l.take (halfN l.length)) x else clashT (l.drop (halfN l.length)) y
theorem nodeS_inside (a b : ByteArray) : nodeS a b = sha1 (insideS a b).data.toList := by
  rw [nodeS, insideS]
theorem clash_tells : ∀ (n : Nat) (l : List ByteArray) (m : Nat) (first : Bool) (old : ByteArray) (path : List ByteArray), l.length = n → 1 ≤ m → m ≤ n → old.size = 32 → (∀ s ∈ path, s.size = 32) → path.length = longN m n first → (∀ s ∈ l, s.size = 32) →
    (treeL m n first old path).root = rootL l → (treeL m n first old path).start ≠ rootL (l.take m) → ∃ a b c d, clashT l (treeL m n first old path) = some (insideS a b, insideS c d) ∧ insideS a b ≠ insideS c d ∧ nodeS a b = nodeS c d ∧ a.size = 32 ∧ b.size = 32 ∧ c.size = 32 ∧ d.size = 32 := by
  intro n
  induction n using Nat.strongRecOn with
  | ind n ih =>
    intro l m first old path hn h1 hmn ho hp hl hw hr hs
    by_cases e : m = n
    · subst e
      subst hn
      exfalso
      rw [List.take_length] at hs
      cases first with
      | true => rw [tree_first] at hr hs; exact hs hr
      | false =>
        rw [long_all] at hl
        match path, hl with
        | [x], _ => rw [tree_other] at hr hs; exact hs hr
    · have h2 : 2 ≤ n := by omega
      have hh := half_lt n h2
      subst hn
      have w1 : ∀ s ∈ l.take (halfN l.length), s.size = 32 := fun s h => hw s (List.mem_of_mem_take h)
      have w2 : ∀ s ∈ l.drop (halfN l.length), s.size = 32 := fun s h => hw s (List.mem_of_mem_drop h)
      have s1 := root_wide _ (l.take (halfN l.length)) rfl (by rw [List.length_take]; omega) w1
      have s2 := root_wide _ (l.drop (halfN l.length)) rfl (by rw [List.length_drop]; omega) w2
      have differ : ∀ c d : ByteArray, c.size = 32 → (rootL (l.take (halfN l.length)) ≠ c ∨ rootL (l.drop (halfN l.length)) ≠ d) → insideS (rootL (l.take (halfN l.length))) (rootL (l.drop (halfN l.length))) ≠ insideS c d := fun c d hc hne h => by
        obtain ⟨p, q⟩ := inside_inj (s1.trans hc.symm) h
        exact hne.elim (fun h => h p) fun h => h q
      by_cases hm : m ≤ halfN l.length
      · rw [long_left m _ first e h2 hm] at hl
        have hne : path ≠ [] := fun e => by rw [e] at hl; simp at hl
        obtain ⟨p, z, rfl⟩ : ∃ p z, path = p ++ [z] := ⟨_, _, (List.dropLast_concat_getLast hne).symm⟩
        have hpl : p.length = longN m (halfN l.length) first := by simpa using hl
        have hpw : ∀ s ∈ p, s.size = 32 := fun s hs => hp s (by simp [hs])
        rw [tree_left m _ first old p z e h2 hm] at hr hs ⊢
        have hws := tree_wide (halfN l.length) m first old p h1 hm ho hpw hpl
        rw [clashT]
        by_cases hd : rootL (l.take (halfN l.length)) ≠ (treeL m (halfN l.length) first old p).root ∨ rootL (l.drop (halfN l.length)) ≠ (Tr.leaf z noS).root
        · rw [if_pos hd]
          refine ⟨_, _, _, _, rfl, differ _ _ hws.1 hd, ?_, s1, s2, hws.1, hp z (by simp)⟩
          rw [← root_two l h2]
          exact hr.symm
        · rw [if_neg hd, if_pos (Or.inr fun e => by have h9 := hws.2; rw [e] at h9; exact absurd h9 (by decide))]
          have e3 : (l.take (halfN l.length)).take m = l.take m := by rw [List.take_take, Nat.min_eq_left hm]
          exact ih (halfN l.length) hh.2 _ m first old p (by rw [List.length_take]; omega) h1 hm ho hpw hpl w1 (Classical.byContradiction fun h => hd (Or.inl (Ne.symm h))) (by rw [e3]; exact hs)
      · rw [long_right m _ first e h2 hm] at hl
        have hne : path ≠ [] := fun e => by rw [e] at hl; simp at hl
        obtain ⟨p, z, rfl⟩ : ∃ p z, path = p ++ [z] := ⟨_, _, (List.dropLast_concat_getLast hne).symm⟩
        have hpl : p.length = longN (m - halfN l.length) (l.length - halfN l.length) false := by simpa using hl
        have hpw : ∀ s ∈ p, s.size = 32 := fun s hs => hp s (by simp [hs])
        rw [tree_right m _ first old p z e h2 hm] at hr hs ⊢
        rw [clashT]
        by_cases hd : rootL (l.take (halfN l.length)) ≠ (Tr.leaf z noS).root ∨ rootL (l.drop (halfN l.length)) ≠ (treeL (m - halfN l.length) (l.length - halfN l.length) false old p).root
        · rw [if_pos hd]
          refine ⟨_, _, _, _, rfl, differ _ _ (hp z (by simp)) hd, ?_, s1, s2, hp z (by simp), (tree_wide (l.length - halfN l.length) (m - halfN l.length) false old p (by omega) (by omega) ho hpw hpl).1⟩
          rw [← root_two l h2]
          exact hr.symm
        · rw [if_neg hd, if_neg (by simp [Tr.isNode, Tr.start])]
          have ha : rootL (l.take (halfN l.length)) = z := Classical.byContradiction fun h => hd (Or.inl h)
          refine ih (l.length - halfN l.length) (by omega) _ (m - halfN l.length) false old p (by rw [List.length_drop]) (by omega) (by omega) ho hpw hpl w2 (Classical.byContradiction fun h => hd (Or.inr (Ne.symm h))) (fun h => hs ?_)
          show nodeS z _ = _
          rw [h, root_begin l m h2 (by omega) hmn, ha]
end Ks
/- A frontier: its root, a copy. -/
namespace Go.Proofs.Ytpdeicgjmjoglaa
open Go.RowKit Ks
set_option linter.unusedVariables false
theorem fold_size (p : List ByteArray) (x : ByteArray) (hx : x.size = 32) : (p.foldr nodeS x).size = 32 := by
  cases p with
  | nil => exact hx
  | cons a p => exact node_size _ _
theorem drewN_under (w : World) (n : Nat) : Below w.heap.size w (w.drewN n) := ⟨rfl, rfl, rfl, Nat.le_refl _, fun _ _ => rfl⟩
set_option maxHeartbeats 2000000 in
theorem froot_live (n : Nat) (v : Value) (l : List ByteArray) (w : World) (h : FrontAt w 39 n v l) :
    Calls Try.prog 15 #[.pointer (some ⟨n, 0, none⟩)] w fun e w' => e = .returned (.string (rootL l)) ∧ Below w.heap.size w w' := by
  refine calls_by fun R HR => ?_
  have HI := Lib.hid h
  by_cases h0 : l = []
  · subst h0
    clear h
    have HZ := Lib.hid root_nil
    go_enter Try.func15, Try.ntmps15
    go_wp2_with fail
    refine (fthere_live n v [] _ HI.out).mono ?_
    rintro e w1 ⟨rfl, rfl⟩
    obtain ⟨c0, c1, c2, f0, f1, f2⟩ := blk3 HI.out.blk
    rw [List.length_nil] at c1
    go_wp2_with fail
    refine (sum0_any _).mono ?_
    rintro e w2 ⟨rfl, hb⟩
    go_wp2
    exact HR.out _ _ ⟨by rw [HZ.out]; rfl, hb⟩
  · obtain ⟨p, x, hp, hr⟩ := peaks_last _ l rfl h0
    have HP := Lib.hid (And.intro hp hr)
    have HW := Lib.hid (peaks_wide _ l rfl h.wide)
    rw [hp] at HW
    have hrow := h.row
    rw [hp] at hrow
    obtain ⟨k, hk⟩ : ∃ k, p.length = k := ⟨_, rfl⟩
    have hlen : (p ++ [x]).length = k + 1 := by simp [hk]
    obtain ⟨a, q, rfl, hcap, -⟩ := hrow.shape
    rw [hlen] at hcap
    have hkm : k ≤ 1048576 := by
      have q1 := peaks_le l
      have q2 := h.few
      rw [hp, hlen] at q1
      omega
    have hln : ((l.length : Int) == 0) = false := by have := List.length_pos_iff.2 h0; simp [h0]
    have HH := Lib.hid hrow
    rw [hlen] at HH HI
    obtain ⟨b, o, rfl, hb0, cx⟩ := hrow.str k (by omega)
    have ex : ∀ h, (p ++ [x])[k]'h = x := by
      intro h
      subst hk
      simp
    rw [ex] at cx
    have hk1 : (k : Int) < (k : Int) + 1 := by omega
    have hwk : wrap64 (k : Int) = (k : Int) := by rw [wrap64]; omega
    have hwk2 : IntKind.i64.wrap ((k : Int) + 1 - 1) = (k : Int) := by rw [IntKind.wrap_i64]; omega
    have hwk3 : IntKind.i64.wrap ((k : Int) + 1 - 2) = (k : Int) - 1 := by rw [IntKind.wrap_i64]; omega
    have HK := Lib.hid (And.intro hk hkm)
    clear h hp hr hrow hlen ex h0 hb0 hcap hk hkm
    go_enter Try.func15, Try.ntmps15
    go_wp2_with fail
    refine (fthere_live n _ l _ HI.out).mono ?_
    rintro e w1 ⟨rfl, rfl⟩
    obtain ⟨c0, c1, c2, f0, f1, f2⟩ := blk3 HI.out.blk
    go_wp2_with fail
    go_quiet (fail)
    go_wp2_with fail
    have hb2 := drewN_under w1 nq
    generalize w1.drewN nq = w2 at *
    have H2 := Lib.hid hb2
    clear hb2 c0 c1 c2 f0 f1 f2 cx hk1 hwk hwk2 hwk3
    go_loopw [3, 4] (fun r i wx => ∃ (j : Nat) (y : ByteArray), j ≤ k ∧ i = .int .i64 ((j : Int) - 1) ∧ r = .string y ∧ Hid (y = (p.drop j).foldr nodeS x ∧ y.size = 32 ∧ Below w1.heap.size w1 wx)) (fun _ i _ => (intOf i + 1).toNat)
    case atStart => exact ⟨k, x, Nat.le_refl _, rfl, rfl, Lib.hid ⟨by rw [List.drop_of_length_le (by rw [HK.out.1]; exact Nat.le_refl _)]; rfl, HW.out x (by simp), H2.out⟩⟩
    case round =>
      obtain ⟨j, y, hj, rfl, rfl, hN⟩ := hrel
      cases j with
      | zero =>
        have hz : ¬ (0 : Int) ≤ ((0 : Nat) : Int) - 1 := by omega
        go_wp2
        exact HR.out _ _ ⟨by rw [hN.out.1]; show _ = Ending.returned (.string (rootL l)); rw [← HP.out.2]; rfl, hN.out.2.2⟩
      | succ j =>
        have hz : (0 : Int) ≤ ((j + 1 : Nat) : Int) - 1 := by omega
        have hz1 : (((j + 1 : Nat) : Int) - 1) = (j : Int) := by omega
        rw [hz1] at hz ⊢
        have hjl : j < (p ++ [x]).length := by have := HK.out.1; simp; omega
        obtain ⟨b', o', eb, hb1, cy⟩ := (HH.out.below hN.out.2.2).str j hjl
        cases eb
        obtain ⟨c0, c1, c2, f0, f1, f2⟩ := blk3 ((HI.out.keep hN.out.2.2).blk)
        have hjk : (j : Int) < (k : Int) + 1 := by omega
        have ez : (p ++ [x])[j] = p[j]'(by have := HK.out.1; omega) := List.getElem_append_left _
        have hpd : p.drop j = p[j]'(by have := HK.out.1; omega) :: p.drop (j + 1) := List.drop_eq_getElem_cons (by have := HK.out.1; omega)
        have HZ := Lib.hid (show nodeS ((p ++ [x])[j]) y = (p.drop j).foldr nodeS x by rw [ez, hN.out.1, hpd]; rfl)
        have HS := Lib.hid (And.intro (HW.out _ (List.getElem_mem hjl)) hN.out.2.1)
        generalize (p ++ [x])[j] = z at *
        clear ez hz1 hb1 hpd
        have HND := Lib.hid (node_any z y wr (by rw [HS.out.1]; omega) (by rw [HS.out.2]; omega))
        go_wp2_with fail
        refine HND.out.mono ?_
        rintro e w3 ⟨rfl, hb3⟩
        have H3 := Lib.hid hb3
        clear hb3 c0 c1 c2 f0 f1 f2 cy hjl
        have hw1 : IntKind.i64.wrap ((j : Int) - 1) = (j : Int) - 1 := by rw [IntKind.wrap_i64]; have := HK.out.2; omega
        go_wp2_with fail
        go_roundw
        case rel => exact ⟨j, _, by omega, rfl, rfl, Lib.hid ⟨HZ.out, node_size _ _, hN.out.2.2.trans (H3.out.mono hN.out.2.2.size)⟩⟩
        case measure => simp [intOf]
set_option maxHeartbeats 2000000 in
theorem fcopy_live (n : Nat) (v : Value) (l : List ByteArray) (w : World) (h : FrontAt w 39 n v l) :
    Calls Try.prog 17 #[.pointer (some ⟨n, 0, none⟩)] w fun e w' => ∃ m v', e = .returned (.pointer (some ⟨m, 0, none⟩)) ∧ FrontAt w' 39 m v' l ∧ w.heap.size ≤ m ∧ Below w.heap.size w w' := by
  refine calls_by fun R HR => ?_
  have HI := Lib.hid h
  clear h
  go_enter Try.func17, Try.ntmps17
  go_wp2_with fail
  refine (fthere_live n v l _ HI.out).mono ?_
  rintro e w1 ⟨rfl, rfl⟩
  obtain ⟨c0, c1, c2, f0, f1, f2⟩ := blk3 HI.out.blk
  go_wp2_with fail
  have HB := Lib.hid (drew_below w1)
  have hHn := HI.out.lt
  refine wp_region_mv (fun f W => Below w1.heap.size w1 W ∧ (∀ v', f 5 = some v' → Row strE W w1.heap.size 9 v' (peaksB l)) ∧ (∀ u, f 7 = some u → ∃ m v', u = .pointer (some ⟨m, 0, none⟩) ∧ w1.heap.size ≤ m ∧ f 5 = some v' ∧ v'.ownBlock ≠ some m ∧ W.heap[m]? = some (.cells #[.bool true, .int .i64 (l.length : Int), v'] 39 (0, 0))) ∧ ∀ u, f 6 = some u → ∃ v', f 5 = some v' ∧ u = .agg #[.bool true, .int .i64 (l.length : Int), v']) (by kernel_rfl) ⟨HB.out, (fun v' h => by cases h), (fun v' h => by cases h), fun v' h => by cases h⟩ ?_
  obtain ⟨S, F, hF, hFC⟩ := moved_class (fun f W => Below w1.heap.size w1 W ∧ (∀ v', f 5 = some v' → Row strE W w1.heap.size 9 v' (peaksB l)) ∧ (∀ u, f 7 = some u → ∃ m v', u = .pointer (some ⟨m, 0, none⟩) ∧ w1.heap.size ≤ m ∧ f 5 = some v' ∧ v'.ownBlock ≠ some m ∧ W.heap[m]? = some (.cells #[.bool true, .int .i64 (l.length : Int), v'] 39 (0, 0))) ∧ ∀ u, f 6 = some u → ∃ v', f 5 = some v' ∧ u = .agg #[.bool true, .int .i64 (l.length : Int), v'])
  have k1 : ∀ s, (F s).cell? ⟨n, 1, none⟩ = some (.int .i64 l.length) := fun s => by
    obtain ⟨f, hf⟩ := hFC s
    exact (hf.1.cell (p := ⟨n, 1, none⟩) hHn).trans c1
  show wpAnyM _ _ _ _ _ 9 (Array.replicate 9 false) _ _
  refine mv_read 0 hF (fun _ _ _ h => h) rfl (by kernel_rfl) (by kernel_rfl) (by kernel_rfl) (fun K hK => ?_)
  go_simp
  first | refine ⟨_, fun _ => rfl, hK _ _ ?_⟩ | refine hK _ _ ?_
  clear hK K
  refine mv_read 1 hF (fun _ _ _ h => h) rfl (by kernel_rfl) (by kernel_rfl) (by kernel_rfl) (fun K hK => ?_)
  go_simp
  first | refine ⟨_, fun _ => rfl, hK _ _ ?_⟩ | refine hK _ _ ?_
  clear hK K
  refine mv_read 2 hF (fun _ _ _ h => h) rfl (by kernel_rfl) (by kernel_rfl) (by kernel_rfl) (fun K hK => ?_)
  go_simp
  first | refine ⟨_, fun _ => rfl, hK _ _ ?_⟩ | refine hK _ _ ?_
  clear hK K
  refine mv_read 3 hF (fun _ _ _ h => h) rfl (by kernel_rfl) (by kernel_rfl) (by kernel_rfl) (fun K hK => ?_)
  go_simp
  first | refine ⟨_, fun _ => rfl, hK _ _ ?_⟩ | refine hK _ _ ?_
  clear hK K
  refine mv_read 4 hF (fun _ _ _ h => h) rfl (by kernel_rfl) (by kernel_rfl) (by kernel_rfl) (fun K hK => ?_)
  go_simp
  first | refine ⟨_, fun _ => rfl, hK _ _ ?_⟩ | refine hK _ _ ?_
  clear hK K
  refine mv_call 5 16 rfl (by kernel_rfl) rfl rfl (fun _ _ => rfl) (args := #[.pointer (some ⟨n, 0, none⟩)]) rfl (fun v => ∃ a k c, v = .slice a k c) (fun g w2 ha h0 h => by
      refine (fpeaks_live n v l w2 (HI.out.keep h.1)).mono fun e w3 ⟨v', h1, h2, h3⟩ => ?_
      obtain ⟨a, c, e1, -⟩ := h2.shape
      exact ⟨v', h1, ⟨a, _, c, e1⟩, h.1.trans (h3.mono h.1.size), (fun v2 e2 => by rw [upd_self] at e2; cases e2; exact h2.down h.1.size), (fun u e2 => by obtain ⟨m, v2, -, -, e3, -⟩ := h.2.2.1 u e2; rw [h0] at e3; cases e3), fun u e2 => by obtain ⟨v2, e3, -⟩ := h.2.2.2 u e2; rw [h0] at e3; cases e3⟩) ?_
  rintro _ ⟨a, k, c, rfl⟩
  refine mv_alone 6 rfl (by kernel_rfl) rfl (fun v => v = .agg #[.bool true, .int .i64 l.length, .slice a k c]) (fun g w2 ha h0 h D hD => ?_) ?_
  · have e5 : g 5 = some (.slice a k c) := (agree_on 5 ha (by kernel_rfl)).trans rfl
    have h8 := hD _ w2 rfl ⟨h.1, h.2.1, h.2.2.1, fun u e => by rw [upd_self] at e; cases e; exact ⟨_, e5, rfl⟩⟩
    clear h hD
    go_simp
    exact h8
  rintro _ rfl
  refine mv_alone 7 rfl (by kernel_rfl) rfl (fun v => ∃ m, v = .pointer (some ⟨m, 0, none⟩)) (fun g w2 ha h0 h D hD => ?_) ?_
  · have e5 : g 5 = some (.slice a k c) := by
      have e6 : g 6 = some (.agg #[.bool true, .int .i64 l.length, .slice a k c]) := (agree_on 6 ha (by kernel_rfl)).trans rfl
      obtain ⟨v', h5, h6⟩ := h.2.2.2 _ e6
      cases h6
      exact h5
    have hA := alloc_below w2 (.cells #[.bool true, .int .i64 (l.length : Int), .slice a k c] 39)
    have h8 := hD (.pointer (some ⟨w2.heap.size, 0, none⟩)) (w2.alloc (.cells #[.bool true, .int .i64 (l.length : Int), .slice a k c] 39)) ⟨_, rfl⟩ ⟨h.1.trans (hA.mono h.1.size), (fun v' e => (h.2.1 v' e).below hA), (fun u e => by
      rw [upd_self] at e
      cases e
      refine ⟨_, _, rfl, h.1.size, e5, fun e => ?_, alloc_new w2 _⟩
      have := ((h.2.1 _ e5).lt e).2
      omega), h.2.2.2⟩
    clear h hD
    go_simp
    exact h8
  rintro _ ⟨m, rfl⟩
  refine mv_read 8 hF (fun _ _ _ h => h) rfl (by kernel_rfl) (by kernel_rfl) (by kernel_rfl) (fun K hK => ?_)
  go_simp
  first | refine ⟨_, fun _ => rfl, hK _ _ ?_⟩ | refine hK _ _ ?_
  clear hK K
  refine mv_end (by kernel_rfl) ?_
  rintro w3 ⟨hb3, h5, h7, -⟩
  obtain ⟨m', v', e1, hm, e2, hne, hblk⟩ := h7 _ rfl
  have e3 : Value.slice a k c = v' := by
    have e4 : some (Value.slice a k c) = some v' := e2
    cases e4
    rfl
  subst e3
  cases e1
  have HE := Lib.hid (And.intro hb3 (And.intro hm (FrontAt.mk (TN := 39) hblk (h5 _ e2).rd hne HI.out.wide HI.out.few)))
  clear hb3 hm hblk h5 h7 hF hFC k1 c0 c1 c2 f0 f1 f2 hHn
  go_wp2
  exact HR.out _ _ ⟨_, _, rfl, HE.out.2.2, HE.out.2.1, HE.out.1⟩
end Go.Proofs.Ytpdeicgjmjoglaa
/- A region that draws its order: out = append(out, f(..)), the row in a box, what is appended out of a call. Plain. No program is in sight. -/
namespace Ks
open Go Go.RowKit
set_option linter.unusedVariables false
/-- r: what the call gave, a: what was read of the box, s: what is appended, u: the row that it becomes, z: that it was stored -/
def AppCall {α : Type} (E : Enc α) (B : Nat) (w0 : World) (T : TypeId) (v : Value) (L l : List α) (bo : Nat) (r a s u z : Option Value) (w : World) : Prop :=
  AppStore E B w0 T v L l bo a s u z w ∧ (s ≠ none → r ≠ none)
section
variable {α : Type} {E : Enc α} {B bo : Nat} {w0 w w' : World} {T : TypeId} {v : Value} {L l : List α} {r a s u z : Option Value}
theorem AppCall.start (h : Row E w0 B T v L) (hb : Below w0.heap.size w0 w) : AppCall E B w0 T v L l bo none none none none none w := ⟨AppStore.start h hb, fun h => absurd rfl h⟩
theorem AppCall.read (x : Value) (h : AppCall E B w0 T v L l bo r a s u z w) : AppCall E B w0 T v L l bo r (some x) s u z w := ⟨h.1.read x, h.2⟩
theorem AppCall.early (h : AppCall E B w0 T v L l bo none a s u z w) : s = none ∧ u = none ∧ z = none := by
  have e : s = none := Classical.byContradiction fun hs => absurd rfl (h.2 hs)
  subst e
  exact ⟨rfl, h.1.early⟩
theorem AppCall.yet (h : AppCall E B w0 T v L l bo none a s u z w) : Below w0.heap.size w0 w := by
  obtain ⟨rfl, rfl, rfl⟩ := h.early
  exact h.1.1.1
theorem AppCall.call (y : Value) (h : AppCall E B w0 T v L l bo none a s u z w) (hb : Below w.heap.size w w') : AppCall E B w0 T v L l bo (some y) a s u z w' := by
  obtain ⟨rfl, rfl, rfl⟩ := h.early
  exact ⟨⟨h.1.1.on hb, fun h => absurd rfl h⟩, fun h => absurd rfl h⟩
theorem AppCall.cell {ad : Addr} {x : Value} (h : AppCall E B w0 T v L l bo r a s u z w) (hc : w0.cell? ad = some x) (hne : v.ownBlock ≠ some ad.block) (hbo : ad.block ≠ bo) : w.cell? ad = some x := h.1.cell hc hne hbo
theorem AppCall.box {x : Value} (h : AppCall E B w0 T v L l bo r none s u z w) (hc : w0.cell? ⟨bo, 0, none⟩ = some x) (hne : v.ownBlock ≠ some bo) : w.cell? ⟨bo, 0, none⟩ = some x := h.1.box hc hne
theorem AppCall.made (h : AppCall E B w0 T v L l bo r a none u z w) (hr : r ≠ none) (cs : Array Value) (e : cs.toList = E.cs l) (fr : Nat × Nat := (0, 0)) : AppCall E B w0 T v L l bo r a (some (.slice (some ⟨w.heap.size, 0, none⟩) l.length l.length)) u z (w.alloc (.cells cs T fr)) := by
  exact ⟨h.1.made cs e fr, fun _ => hr⟩
theorem AppCall.rows {lv : Value} (h : AppCall E B w0 T v L l bo r a (some lv) none z w) (hB : B ≤ w0.heap.size) : Row E w B T v L ∧ Rd E w lv l ∧ B ≤ w.heap.size := h.1.rows hB
theorem AppCall.grew {v' : Value} {x y : Value} (h : AppCall E B w0 T v L l bo r (some x) (some y) none z w) (hG : Grew E w w' B T v v' (L ++ l)) : AppCall E B w0 T v L l bo r (some x) (some y) (some v') z w' := ⟨h.1.grew hG, h.2⟩
theorem AppCall.unread (h : AppCall E B w0 T v L l bo r a s u none w) : Appends E B w0 T v L l s u w := h.1.1
theorem AppCall.stored {v' y : Value} (h : AppCall E B w0 T v L l bo r a s (some v') none w) : AppCall E B w0 T v L l bo r a s (some v') (some y) (w.setCell ⟨bo, 0, none⟩ v') := ⟨h.1.stored, h.2⟩
theorem AppCall.done {u' y : Value} (h : AppCall E B w0 T v L l bo r a s (some u') (some y) w) : ∃ w1, w0.grownBy w1 v.ownBlock ∧ Row E w1 B T u' (L ++ l) ∧ w = w1.setCell ⟨bo, 0, none⟩ u' := h.1.done
theorem AppCall.done4 {u' y : Value} (h : AppCall E B w0 T v L l bo r a s (some u') (some y) w) : ∃ w1, w0.grownBy w1 v.ownBlock ∧ (u'.ownBlock = v.ownBlock ∨ ∀ b, u'.ownBlock = some b → w0.heap.size ≤ b) ∧ Row E w1 B T u' (L ++ l) ∧ w = w1.setCell ⟨bo, 0, none⟩ u' := by
  obtain ⟨_, u2, w1, e, h1, rfl⟩ := h.1
  cases e
  exact ⟨w1, h1.1, h1.2.1, h1.2.2, rfl⟩
end
/-- a box with a row of one's own, and whatever else stands above B -/
structure BoxAt {α : Type} (E : Enc α) (w : World) (B : Nat) (T TB : TypeId) (bo : Nat) (v : Value) (L : List α) : Prop where
  blk : w.heap[bo]? = some (.cells #[v] TB (0, 0))
  row : Row E w B T v L
  ne : v.ownBlock ≠ some bo
  ge : B ≤ bo
section
variable {α : Type} {E : Enc α} {B bo : Nat} {w0 w w' w1 : World} {T TB : TypeId} {v u : Value} {L M : List α}
theorem BoxAt.lt (h : BoxAt E w B T TB bo v L) : bo < w.heap.size := lt_of_block h.blk
theorem BoxAt.keep (h : BoxAt E w B T TB bo v L) (hb : Below w.heap.size w w') : BoxAt E w' B T TB bo v L := ⟨(hb.block bo h.lt).trans h.blk, h.row.below hb, h.ne, h.ge⟩
/-- behind the store: the box, what stood below, what stood above in another block -/
theorem BoxAt.turned (h : BoxAt E w B T TB bo v L) (hg : w.grownBy w1 v.ownBlock) (hu : u.ownBlock = v.ownBlock ∨ ∀ b, u.ownBlock = some b → w.heap.size ≤ b) (hr : Row E w1 B T u M) : BoxAt E (w1.setCell ⟨bo, 0, none⟩ u) B T TB bo u M ∧ Below B w (w1.setCell ⟨bo, 0, none⟩ u) ∧
    (∀ k, k < w.heap.size → k ≠ bo → v.ownBlock ≠ some k → (w1.setCell ⟨bo, 0, none⟩ u).heap[k]? = w.heap[k]?) := by
  have hne : u.ownBlock ≠ some bo := by
    rcases hu with e | e
    · rw [e]; exact h.ne
    · exact fun e2 => by have := e bo e2; have := h.lt; omega
  have hk := (hg.block bo h.lt fun e => h.ne e.symm).trans h.blk
  have hbl : ∀ k, k < w.heap.size → k ≠ bo → v.ownBlock ≠ some k → (w1.setCell ⟨bo, 0, none⟩ u).heap[k]? = w.heap[k]? := fun k h1 h2 h3 => by
    rw [set_ne _ h2]; exact hg.block k h1 fun e => h3 e.symm
  have hs := (Below.refl 0 w1).setCell (p := ⟨bo, 0, none⟩) (Nat.zero_le _) u
  refine ⟨⟨?_, hr.keep fun b e => set_ne _ fun e2 => hne (by rw [e, e2]), hne, h.ge⟩, ⟨hs.os.trans hg.os, hs.tape.trans hg.tape, hs.output.trans hg.output, by simp; exact hg.size, fun k hk => ?_⟩, hbl⟩
  · simp [World.setCell, Array.getElem?_modify, hk]
  · by_cases hkw : k < w.heap.size
    · refine hbl k hkw (fun e => by have := h.ge; omega) fun e => by have := (h.row.lt e).1; omega
    · have := h.lt
      have := h.ge
      omega
end
/-- an array of the callers' own, below -/
def Low (B : Nat) (v : Value) : Prop := ∀ b, v.ownBlock = some b → b < B
theorem Rd.low_keep {α : Type} {E : Enc α} {w w' : World} {B : Nat} {v : Value} {l : List α} (h : Rd E w v l) (hl : Low B v) (hB : B ≤ w.heap.size) (hb : Below B w w') : Rd E w' v l :=
  h.keep hb.size fun b e => hb.block b (hl b e)
end Ks
/- How leaves grow: the closure that goes down. -/
namespace Ks
open Go Go.RowKit
set_option linter.unusedVariables false
theorem grow_le : ∀ (n : Nat) (l : List ByteArray) (m : Nat) (first : Bool), l.length = n → (growL l m first).length ≤ n + 1 := by
  intro n
  induction n using Nat.strongRecOn with
  | ind n ih =>
    intro l m first hn
    rw [growL]
    split
    · split <;> simp
    · split
      · rename_i h
        have hh := half_lt l.length h
        split
        · have := ih (halfN l.length) (by omega) (l.take (halfN l.length)) m first (by rw [List.length_take]; omega)
          rw [List.length_append, List.length_singleton]; omega
        · have := ih (l.length - halfN l.length) (by omega) (l.drop (halfN l.length)) (m - halfN l.length) false (by rw [List.length_drop])
          rw [List.length_append, List.length_singleton]; omega
      · simp
end Ks
namespace Go.Proofs.Ytpdeicgjmjoglaa
open Go.RowKit Ks
set_option linter.unusedVariables false
theorem gpathT : ElemT Try.prog 41 9 strE.k 16 := elemT_of Try.underlying41 Try.infoS rfl
theorem eg_froot : ∀ args w, (callFunc 38 args).run Try.prog w = .ok (.enter 38 args) w := fun _ _ => rfl
/-- the two boxes of the closure -/
structure GrowAt (w : World) (B bo bg : Nat) (v : Value) (A : List ByteArray) : Prop where
  box : BoxAt strE w B 9 41 bo v A
  fn : w.heap[bg]? = some (.cells #[.func (.func 37) #[] #[.pointer (some ⟨bo, 0, none⟩), .pointer (some ⟨bg, 0, none⟩)]] 60 (0, 0))
  ne1 : v.ownBlock ≠ some bg
  ne2 : bg ≠ bo
  size : B ≤ w.heap.size
theorem GrowAt.keep {w w' : World} {B bo bg : Nat} {v : Value} {A : List ByteArray} (h : GrowAt w B bo bg v A) (hb : Below w.heap.size w w') : GrowAt w' B bo bg v A :=
  ⟨h.box.keep hb, (hb.block bg (lt_of_block h.fn)).trans h.fn, h.ne1, h.ne2, Nat.le_trans h.size hb.size⟩
theorem GrowAt.turned {w w1 : World} {B bo bg : Nat} {v u : Value} {A M : List ByteArray} (h : GrowAt w B bo bg v A) (hg : w.grownBy w1 v.ownBlock) (hu : u.ownBlock = v.ownBlock ∨ ∀ b, u.ownBlock = some b → w.heap.size ≤ b) (hr : Row strE w1 B 9 u M) :
    GrowAt (w1.setCell ⟨bo, 0, none⟩ u) B bo bg u M ∧ Below B w (w1.setCell ⟨bo, 0, none⟩ u) := by
  obtain ⟨h1, h2, h3⟩ := h.box.turned hg hu hr
  refine ⟨⟨h1, (h3 bg (lt_of_block h.fn) h.ne2 h.ne1).trans h.fn, fun e => ?_, h.ne2, Nat.le_trans h.size h2.size⟩, h2⟩
  rcases hu with e2 | e2
  · exact h.ne1 (by rw [← e2, e])
  · have := e2 bg e; have := lt_of_block h.fn; omega
set_option maxRecDepth 100000 in
set_option maxHeartbeats 8000000 in
theorem growc_any : ∀ (n : Nat) (l : List ByteArray) (m : Nat) (first : Bool) (lv : Value) (w : World) (B bo bg : Nat) (v : Value) (A : List ByteArray), l.length = n → n ≤ 1000000 → 1 ≤ m → m ≤ n → wholeL l = true → Rd strE w lv l → Low B lv → GrowAt w B bo bg v A → A.length + n ≤ 10000000 →
    Calls Try.prog 37 #[lv, .int .i64 (m : Nat), .bool first, .pointer (some ⟨bo, 0, none⟩), .pointer (some ⟨bg, 0, none⟩)] w fun e w' => e = .returned (.tuple #[]) ∧ ∃ v', GrowAt w' B bo bg v' (A ++ growL l m first) ∧ Below B w w' := by
  intro n
  induction n using Nat.strongRecOn with
  | ind n ih =>
  intro l m first lv w B bo bg v A hn hnn h1 hmn hw hr hlow hG hA
  refine calls_by fun R HR => ?_
  have HG := Lib.hid hG
  have HAL := Lib.hid hA
  obtain ⟨a, cap, rfl, hcap, -⟩ := hr.shape
  by_cases e : m = n
  · subst e
    subst hn
    have hme : ((l.length : Nat) : Int) = ((l.length : Nat) : Int) := rfl
    have HR2 := Lib.hid (And.intro hr hlow)
    have HW := Lib.hid (And.intro hw (And.intro hnn h1))
    clear hG hA hcap hr hlow hw hnn h1 hmn hme ih
    cases first with
    | true =>
      have HZ := Lib.hid (show A ++ growL l l.length true = A by rw [grow_all]; simp)
      go_enter Try.func37, Try.ntmps37
      go_wp2
      go_end0
      exact HR.out _ _ ⟨rfl, v, by rw [HZ.out]; exact HG.out, Below.refl _ _⟩
    | false =>
      have HZ := Lib.hid (show growL l l.length false = [rootL l] by rw [grow_all]; rfl)
      have cR := Lib.hid (fun (w1 : World) (h : Below w.heap.size w w1) => froot_any _ l w1 (HR2.out.1.low_keep HR2.out.2 HG.out.size (h.mono HG.out.size)) (by have := HW.out.2.1; omega))
      have hrv := Lib.hid (show rootV l = rootL l by rw [rootV, if_pos HW.out.1])
      rw [hrv.out] at cR
      generalize rootL l = y at *
      obtain ⟨c0, f0⟩ := blk1 HG.out.box.blk
      obtain ⟨g0, -⟩ := blk1 HG.out.fn
      go_enter Try.func37, Try.ntmps37
      go_wp2_with fail

      refine wp_region_mv (fun f => AppCall strE B w 9 v A [y] bo (f 2) (f 0) (f 3) (f 4) (f 5)) (by kernel_rfl) (AppCall.start HG.out.box.row (drew_below w)) ?_
      obtain ⟨S, F, hF, hFC⟩ := moved_class (fun f => AppCall strE B w 9 v A [y] bo (f 2) (f 0) (f 3) (f 4) (f 5))
      obtain ⟨S0, F0, hF0, hFC0⟩ := moved_classN (fun f => AppCall strE B w 9 v A [y] bo (f 2) (f 0) (f 3) (f 4) (f 5)) 0
      have k1c : ∀ s, (F0 s).cell? ⟨bo, 0, none⟩ = some v := fun s => by
        have h := (hFC0 s).choose_spec
        have h2 := h.2
        simp only [h.1] at h2
        exact h2.box c0 HG.out.box.ne
      show wpAnyM _ _ _ _ _ 6 (Array.replicate 6 false) _ _
      refine mv_readN 0 hF0 (fun f w v _ h => h.read v) rfl (by kernel_rfl) (by kernel_rfl) (by kernel_rfl) (fun K hK => ?_)
      go_simp
      first | refine ⟨_, fun _ => rfl, hK _ _ ?_⟩ | refine hK _ _ ?_
      clear hK K
      refine mv_read 1 hF (fun _ _ _ h => h) rfl (by kernel_rfl) (by kernel_rfl) (by kernel_rfl) (fun K hK => ?_)
      go_simp
      first | refine ⟨_, fun _ => rfl, hK _ _ ?_⟩ | refine hK _ _ ?_
      clear hK K
      refine mv_call1 2 38 rfl (by kernel_rfl) (by kernel_rfl) (by kernel_rfl) rfl rfl eg_froot (args := #[.slice a l.length cap]) rfl (u := .string y) (fun g w9 ha h0 h => ?_) ?_
      · simp only [h0] at h
        exact (cR.out w9 h.yet).mono fun e w' ⟨h1, h2⟩ => ⟨h1, h.call _ h2⟩
      refine mv_alone 3 rfl (by kernel_rfl) rfl (fun v => ∃ g, v = .slice (some ⟨g, 0, none⟩) 1 1) (fun g w9 ha h0 h D hD => ?_) ?_
      · have h9 := h
        simp only [h0] at h9
        have h8 := h9.made (told_by (agree_on 2 ha (by kernel_rfl)) (rfl : _ = some _)) #[.string y] rfl
        clear h h9
        go_simp
        exact hD _ _ ⟨_, rfl⟩ h8
      rintro _ ⟨gs, rfl⟩
      refine mv_append 4 rfl (by kernel_rfl) rfl (.tmp 15) (.tmp 18) 41 rfl gpathT B _ _ A [y] rfl rfl (by have := HAL.out; have := HW.out.2.2; simp; omega) (by decide) (fun g w9 ha h0 h => ?_) (fun v' => ∃ a n c, v' = .slice a n c) (fun g w9 v' w' ha h0 h hG => ?_) ?_
      · have e1 : g 3 = some (.slice (some ⟨gs, 0, none⟩) 1 1) := (agree_on 3 ha (by kernel_rfl)).trans rfl
        simp only [e1, h0] at h
        exact h.rows HG.out.size
      · have e1 : g 3 = some (.slice (some ⟨gs, 0, none⟩) 1 1) := (agree_on 3 ha (by kernel_rfl)).trans rfl
        have e2 : g 0 = some v := (agree_on 0 ha (by kernel_rfl)).trans rfl
        simp only [e1, e2, h0] at h
        obtain ⟨a9, c9, e9, -⟩ := hG.1.shape
        refine ⟨⟨_, _, _, e9⟩, ?_⟩
        show AppCall _ _ _ _ _ _ _ _ (g 2) (g 0) (g 3) _ _ _
        rw [e1, e2]
        exact h.grew hG
      rintro _ ⟨az, nz, cz, rfl⟩
      refine mv_alone 5 rfl (by kernel_rfl) rfl (fun _ => True) (fun g w9 ha h0 h D hD => ?_) ?_
      · have e1 : g 4 = some (.slice az nz cz) := (agree_on 4 ha (by kernel_rfl)).trans rfl
        simp only [e1, h0] at h
        have q1 := h.unread.cell c0 HG.out.box.ne
        have q2 := h.unread.frozen c0 f0 HG.out.box.ne
        have hD2 := hD undef (w9.setCell ⟨bo, 0, none⟩ (.slice az nz cz)) trivial (by show AppCall _ _ _ _ _ _ _ _ (g 2) (g 0) (g 3) (g 4) _ _; rw [e1]; exact h.stored)
        clear hD h
        go_simp
        exact hD2
      rintro vs -
      refine mv_end (by kernel_rfl) ?_
      intro w5 hw5
      obtain ⟨w6, hg6, hu6, hr6, rfl⟩ := AppCall.done4 (show AppCall strE B w 9 v A [y] bo (some (.string y)) (some v) (some (.slice (some ⟨gs, 0, none⟩) 1 1)) (some (.slice az nz cz)) (some vs) w5 from hw5)
      clear hw5 hF hFC hF0 hFC0 k1c
      have HE := Lib.hid (HG.out.turned hg6 hu6 hr6)
      go_wp2
      go_end0
      exact HR.out _ _ ⟨rfl, _, by rw [HZ.out]; exact HE.out.1, HE.out.2⟩
  · have h2 : 2 ≤ n := by omega
    subst hn
    obtain ⟨b, o, rfl, hb1, -⟩ := hr.str 0 (by omega)
    have hh := half_lt l.length h2
    have HH := Lib.hid (fhalf_any l.length w h2 (by omega))
    have hw' : ∀ s ∈ l, s.size = 32 := by simpa [wholeL] using hw
    have w1' : wholeL (l.take (halfN l.length)) = true := by simp only [wholeL, List.all_eq_true, beq_iff_eq]; exact fun s hs => hw' s (List.mem_of_mem_take hs)
    have w2' : wholeL (l.drop (halfN l.length)) = true := by simp only [wholeL, List.all_eq_true, beq_iff_eq]; exact fun s hs => hw' s (List.mem_of_mem_drop hs)
    have hT := hr.take (k := halfN l.length) (by omega) cap (by omega)
    have hD := hr.drop (k := halfN l.length) (by omega) (some ⟨b, o + halfN l.length, none⟩) (fun _ => by simp [strE]) (by simp) (cap - halfN l.length) (by omega)
    have hlT : Low B (.slice (some ⟨b, o, none⟩) (halfN l.length) cap) := hlow
    have hlD : Low B (.slice (some ⟨b, o + halfN l.length, none⟩) (l.length - halfN l.length) (cap - halfN l.length)) := hlow
    have hk1 : ((halfN l.length : Nat) : Int) < (l.length : Int) := by omega
    have hk0 : (0 : Int) < ((halfN l.length : Nat) : Int) := by omega
    have hk2 : ((halfN l.length : Nat) : Int) ≤ (cap : Int) := by omega
    have hk3 : ¬ cap = halfN l.length := by omega
    have hk4 : ((halfN l.length : Nat) : Int) ≤ (l.length : Int) := by omega
    have hk5 : (l.length : Int) ≤ (cap : Int) := by omega
    have hme : ((m : Int) == (l.length : Int)) = false := by simp; omega
    by_cases hm : m ≤ halfN l.length
    · have HZ := Lib.hid (show A ++ growL l m first = A ++ growL (l.take (halfN l.length)) m first ++ [rootL (l.drop (halfN l.length))] by rw [grow_left l m first e h2 hm, List.append_assoc])
      have hrv : rootV (l.drop (halfN l.length)) = rootL (l.drop (halfN l.length)) := by rw [rootV, if_pos w2']
      have cR := Lib.hid (fun (w2 : World) (h : Below B w w2) => froot_any _ (l.drop (halfN l.length)) w2 (hD.low_keep hlD hG.size h) (by rw [List.length_drop]; omega))
      rw [hrv] at cR
      have cG := Lib.hid (fun (w2 : World) (h : Below w.heap.size w w2) => ih (halfN l.length) hh.2 (l.take (halfN l.length)) m first _ w2 B bo bg v A (by rw [List.length_take]; omega) (by omega) h1 hm w1' (hT.low_keep hlT hG.size (h.mono hG.size)) hlT (hG.keep h) (by omega))
      have HAL2 := Lib.hid (show (A ++ growL (l.take (halfN l.length)) m first).length + 1 ≤ 140000000 by
        have := grow_le _ (l.take (halfN l.length)) m first rfl
        rw [List.length_take] at this
        rw [List.length_append]; omega)
      have hmk : (m : Int) ≤ ((halfN l.length : Nat) : Int) := by omega
      generalize rootL (l.drop (halfN l.length)) = y at *
      generalize growL (l.take (halfN l.length)) m first = A2 at *
      generalize halfN l.length = k at *
      obtain ⟨g0, -⟩ := blk1 hG.fn
      clear hG hA hr hlow hw hw' w1' w2' hT hD hlT hlD hh h1 hmn hnn ih hrv hm e h2 hcap
      go_enter Try.func37, Try.ntmps37
      go_wp2_with fail
      refine HH.out.mono ?_
      rintro e w3 ⟨rfl, hw3⟩
      rw [hw3]
      clear hw3
      go_wp2_with fail
      refine wp_region_still_tail 6 (by kernel_rfl) (by kernel_rfl) ?_
      simp only [List.take_succ_cons, List.take_zero, List.drop_succ_cons, List.drop_zero]
      repeat still_step
      refine wpStill_nil ?_
      change wpList _ _ _ _ _ w.drew
      go_wp2_with fail
      refine (cG.out _ (drew_below w)).mono ?_
      rintro en w4 ⟨rfl, v4, hG4, hb4⟩
      have HG4 := Lib.hid (And.intro hG4 ((drew_below w).mono HG.out.size |>.trans hb4))
      clear hG4 hb4
      obtain ⟨c0, f0⟩ := blk1 HG4.out.1.box.blk
      go_wp2_with fail
      refine wp_region_mv (fun f => AppCall strE B w4 9 v4 (A ++ A2) [y] bo (f 4) (f 0) (f 5) (f 6) (f 7)) (by kernel_rfl) (AppCall.start HG4.out.1.box.row (drew_below w4)) ?_
      obtain ⟨S, F, hF, hFC⟩ := moved_class (fun f => AppCall strE B w4 9 v4 (A ++ A2) [y] bo (f 4) (f 0) (f 5) (f 6) (f 7))
      obtain ⟨S0, F0, hF0, hFC0⟩ := moved_classN (fun f => AppCall strE B w4 9 v4 (A ++ A2) [y] bo (f 4) (f 0) (f 5) (f 6) (f 7)) 0
      have k1c : ∀ s, (F0 s).cell? ⟨bo, 0, none⟩ = some v4 := fun s => by
        have h := (hFC0 s).choose_spec
        have h2 := h.2
        simp only [h.1] at h2
        exact h2.box c0 HG4.out.1.box.ne
      show wpAnyM _ _ _ _ _ 8 (Array.replicate 8 false) _ _
      refine mv_readN 0 hF0 (fun f w v _ h => h.read v) rfl (by kernel_rfl) (by kernel_rfl) (by kernel_rfl) (fun K hK => ?_)
      go_simp
      first | refine ⟨_, fun _ => rfl, hK _ _ ?_⟩ | refine hK _ _ ?_
      clear hK K
      refine mv_read 1 hF (fun _ _ _ h => h) rfl (by kernel_rfl) (by kernel_rfl) (by kernel_rfl) (fun K hK => ?_)
      go_simp
      first | refine ⟨_, fun _ => rfl, hK _ _ ?_⟩ | refine hK _ _ ?_
      clear hK K
      refine mv_read 2 hF (fun _ _ _ h => h) rfl (by kernel_rfl) (by kernel_rfl) (by kernel_rfl) (fun K hK => ?_)
      go_simp
      first | refine ⟨_, fun _ => rfl, hK _ _ ?_⟩ | refine hK _ _ ?_
      clear hK K
      refine mv_read 3 hF (fun _ _ _ h => h) rfl (by kernel_rfl) (by kernel_rfl) (by kernel_rfl) (fun K hK => ?_)
      go_simp
      first | refine ⟨_, fun _ => rfl, hK _ _ ?_⟩ | refine hK _ _ ?_
      clear hK K
      refine mv_call1 4 38 rfl (by kernel_rfl) (by kernel_rfl) (by kernel_rfl) rfl rfl eg_froot (args := #[.slice (some ⟨b, o + k, none⟩) (l.length - k) (cap - k)]) rfl (u := .string y) (fun g w9 ha h0 h => ?_) ?_
      · simp only [h0] at h
        exact ((fun w9 (h9 : Below w4.heap.size w4 w9) => cR.out w9 (HG4.out.2.trans (h9.mono HG4.out.1.size))) w9 h.yet).mono fun e w' ⟨h1, h2⟩ => ⟨h1, h.call _ h2⟩
      refine mv_alone 5 rfl (by kernel_rfl) rfl (fun v => ∃ g, v = .slice (some ⟨g, 0, none⟩) 1 1) (fun g w9 ha h0 h D hD => ?_) ?_
      · have h9 := h
        simp only [h0] at h9
        have h8 := h9.made (told_by (agree_on 4 ha (by kernel_rfl)) (rfl : _ = some _)) #[.string y] rfl
        clear h h9
        go_simp
        exact hD _ _ ⟨_, rfl⟩ h8
      rintro _ ⟨gs, rfl⟩
      refine mv_append 6 rfl (by kernel_rfl) rfl (.tmp 33) (.tmp 38) 41 rfl gpathT B _ _ (A ++ A2) [y] rfl rfl (by have := HAL2.out; simp at this ⊢; omega) (by decide) (fun g w9 ha h0 h => ?_) (fun v' => ∃ a n c, v' = .slice a n c) (fun g w9 v' w' ha h0 h hG => ?_) ?_
      · have e1 : g 5 = some (.slice (some ⟨gs, 0, none⟩) 1 1) := (agree_on 5 ha (by kernel_rfl)).trans rfl
        simp only [e1, h0] at h
        exact h.rows HG4.out.1.size
      · have e1 : g 5 = some (.slice (some ⟨gs, 0, none⟩) 1 1) := (agree_on 5 ha (by kernel_rfl)).trans rfl
        have e2 : g 0 = some v4 := (agree_on 0 ha (by kernel_rfl)).trans rfl
        simp only [e1, e2, h0] at h
        obtain ⟨a9, c9, e9, -⟩ := hG.1.shape
        refine ⟨⟨_, _, _, e9⟩, ?_⟩
        show AppCall _ _ _ _ _ _ _ _ (g 4) (g 0) (g 5) _ _ _
        rw [e1, e2]
        exact h.grew hG
      rintro _ ⟨az, nz, cz, rfl⟩
      refine mv_alone 7 rfl (by kernel_rfl) rfl (fun _ => True) (fun g w9 ha h0 h D hD => ?_) ?_
      · have e1 : g 6 = some (.slice az nz cz) := (agree_on 6 ha (by kernel_rfl)).trans rfl
        simp only [e1, h0] at h
        have q1 := h.unread.cell c0 HG4.out.1.box.ne
        have q2 := h.unread.frozen c0 f0 HG4.out.1.box.ne
        have hD2 := hD undef (w9.setCell ⟨bo, 0, none⟩ (.slice az nz cz)) trivial (by show AppCall _ _ _ _ _ _ _ _ (g 4) (g 0) (g 5) (g 6) _ _; rw [e1]; exact h.stored)
        clear hD h
        go_simp
        exact hD2
      rintro vs -
      refine mv_end (by kernel_rfl) ?_
      intro w5 hw5
      obtain ⟨w6, hg6, hu6, hr6, rfl⟩ := AppCall.done4 (show AppCall strE B w4 9 v4 (A ++ A2) [y] bo (some (.string y)) (some v4) (some (.slice (some ⟨gs, 0, none⟩) 1 1)) (some (.slice az nz cz)) (some vs) w5 from hw5)
      clear hw5 hF hFC hF0 hFC0 k1c
      have HE := Lib.hid (HG4.out.1.turned hg6 hu6 hr6)
      clear c0 f0
      go_wp2
      go_end0
      exact HR.out _ _ ⟨rfl, _, by rw [HZ.out]; exact HE.out.1, HG4.out.2.trans HE.out.2⟩
    · have HZ := Lib.hid (show A ++ growL l m first = A ++ growL (l.drop (halfN l.length)) (m - halfN l.length) false ++ [rootL (l.take (halfN l.length))] by rw [grow_right l m first e h2 hm, List.append_assoc])
      have hrv : rootV (l.take (halfN l.length)) = rootL (l.take (halfN l.length)) := by rw [rootV, if_pos w1']
      have cR := Lib.hid (fun (w2 : World) (h : Below B w w2) => froot_any _ (l.take (halfN l.length)) w2 (hT.low_keep hlT hG.size h) (by rw [List.length_take]; omega))
      rw [hrv] at cR
      have cG := Lib.hid (fun (w2 : World) (h : Below w.heap.size w w2) => ih (l.length - halfN l.length) (by omega) (l.drop (halfN l.length)) (m - halfN l.length) false _ w2 B bo bg v A (by rw [List.length_drop]) (by omega) (by omega) (by omega) w2' (hD.low_keep hlD hG.size (h.mono hG.size)) hlD (hG.keep h) (by omega))
      have HAL2 := Lib.hid (show (A ++ growL (l.drop (halfN l.length)) (m - halfN l.length) false).length + 1 ≤ 140000000 by
        have := grow_le _ (l.drop (halfN l.length)) (m - halfN l.length) false rfl
        rw [List.length_drop] at this
        rw [List.length_append]; omega)
      have hmk : ¬ (m : Int) ≤ ((halfN l.length : Nat) : Int) := by omega
      have e2 : (m : Int) - ((halfN l.length : Nat) : Int) = ((m - halfN l.length : Nat) : Int) := by omega
      have hii : m - halfN l.length ≤ 100000000 := by omega
      generalize rootL (l.take (halfN l.length)) = y at *
      generalize growL (l.drop (halfN l.length)) (m - halfN l.length) false = A2 at *
      generalize m - halfN l.length = i2 at *
      generalize halfN l.length = k at *
      have wi2 : IntKind.i64.wrap ((i2 : Nat) : Int) = ((i2 : Nat) : Int) := by rw [IntKind.wrap_i64]; omega
      obtain ⟨g0, -⟩ := blk1 hG.fn
      clear hG hA hr hlow hw hw' w1' w2' hT hD hlT hlD hh h1 hmn hnn ih hrv hm e h2 hcap hii
      go_enter Try.func37, Try.ntmps37
      go_wp2_with fail
      refine HH.out.mono ?_
      rintro e w3 ⟨rfl, hw3⟩
      rw [hw3]
      clear hw3
      go_wp2_with fail
      refine wp_region_still_tail 7 (by kernel_rfl) (by kernel_rfl) ?_
      simp only [List.take_succ_cons, List.take_zero, List.drop_succ_cons, List.drop_zero]
      repeat still_step
      refine wpStill_nil ?_
      change wpList _ _ _ _ _ w.drew
      go_wp2_with fail
      refine (cG.out _ (drew_below w)).mono ?_
      rintro en w4 ⟨rfl, v4, hG4, hb4⟩
      have HG4 := Lib.hid (And.intro hG4 ((drew_below w).mono HG.out.size |>.trans hb4))
      clear hG4 hb4 e2 wi2
      obtain ⟨c0, f0⟩ := blk1 HG4.out.1.box.blk
      go_wp2_with fail
      refine wp_region_mv (fun f => AppCall strE B w4 9 v4 (A ++ A2) [y] bo (f 4) (f 0) (f 5) (f 6) (f 7)) (by kernel_rfl) (AppCall.start HG4.out.1.box.row (drew_below w4)) ?_
      obtain ⟨S, F, hF, hFC⟩ := moved_class (fun f => AppCall strE B w4 9 v4 (A ++ A2) [y] bo (f 4) (f 0) (f 5) (f 6) (f 7))
      obtain ⟨S0, F0, hF0, hFC0⟩ := moved_classN (fun f => AppCall strE B w4 9 v4 (A ++ A2) [y] bo (f 4) (f 0) (f 5) (f 6) (f 7)) 0
      have k1c : ∀ s, (F0 s).cell? ⟨bo, 0, none⟩ = some v4 := fun s => by
        have h := (hFC0 s).choose_spec
        have h2 := h.2
        simp only [h.1] at h2
        exact h2.box c0 HG4.out.1.box.ne
      show wpAnyM _ _ _ _ _ 8 (Array.replicate 8 false) _ _
      refine mv_readN 0 hF0 (fun f w v _ h => h.read v) rfl (by kernel_rfl) (by kernel_rfl) (by kernel_rfl) (fun K hK => ?_)
      go_simp
      first | refine ⟨_, fun _ => rfl, hK _ _ ?_⟩ | refine hK _ _ ?_
      clear hK K
      refine mv_read 1 hF (fun _ _ _ h => h) rfl (by kernel_rfl) (by kernel_rfl) (by kernel_rfl) (fun K hK => ?_)
      go_simp
      first | refine ⟨_, fun _ => rfl, hK _ _ ?_⟩ | refine hK _ _ ?_
      clear hK K
      refine mv_read 2 hF (fun _ _ _ h => h) rfl (by kernel_rfl) (by kernel_rfl) (by kernel_rfl) (fun K hK => ?_)
      go_simp
      first | refine ⟨_, fun _ => rfl, hK _ _ ?_⟩ | refine hK _ _ ?_
      clear hK K
      refine mv_read 3 hF (fun _ _ _ h => h) rfl (by kernel_rfl) (by kernel_rfl) (by kernel_rfl) (fun K hK => ?_)
      go_simp
      first | refine ⟨_, fun _ => rfl, hK _ _ ?_⟩ | refine hK _ _ ?_
      clear hK K
      refine mv_call1 4 38 rfl (by kernel_rfl) (by kernel_rfl) (by kernel_rfl) rfl rfl eg_froot (args := #[.slice (some ⟨b, o, none⟩) k cap]) rfl (u := .string y) (fun g w9 ha h0 h => ?_) ?_
      · simp only [h0] at h
        exact ((fun w9 (h9 : Below w4.heap.size w4 w9) => cR.out w9 (HG4.out.2.trans (h9.mono HG4.out.1.size))) w9 h.yet).mono fun e w' ⟨h1, h2⟩ => ⟨h1, h.call _ h2⟩
      refine mv_alone 5 rfl (by kernel_rfl) rfl (fun v => ∃ g, v = .slice (some ⟨g, 0, none⟩) 1 1) (fun g w9 ha h0 h D hD => ?_) ?_
      · have h9 := h
        simp only [h0] at h9
        have h8 := h9.made (told_by (agree_on 4 ha (by kernel_rfl)) (rfl : _ = some _)) #[.string y] rfl
        clear h h9
        go_simp
        exact hD _ _ ⟨_, rfl⟩ h8
      rintro _ ⟨gs, rfl⟩
      refine mv_append 6 rfl (by kernel_rfl) rfl (.tmp 48) (.tmp 53) 41 rfl gpathT B _ _ (A ++ A2) [y] rfl rfl (by have := HAL2.out; simp at this ⊢; omega) (by decide) (fun g w9 ha h0 h => ?_) (fun v' => ∃ a n c, v' = .slice a n c) (fun g w9 v' w' ha h0 h hG => ?_) ?_
      · have e1 : g 5 = some (.slice (some ⟨gs, 0, none⟩) 1 1) := (agree_on 5 ha (by kernel_rfl)).trans rfl
        simp only [e1, h0] at h
        exact h.rows HG4.out.1.size
      · have e1 : g 5 = some (.slice (some ⟨gs, 0, none⟩) 1 1) := (agree_on 5 ha (by kernel_rfl)).trans rfl
        have e2 : g 0 = some v4 := (agree_on 0 ha (by kernel_rfl)).trans rfl
        simp only [e1, e2, h0] at h
        obtain ⟨a9, c9, e9, -⟩ := hG.1.shape
        refine ⟨⟨_, _, _, e9⟩, ?_⟩
        show AppCall _ _ _ _ _ _ _ _ (g 4) (g 0) (g 5) _ _ _
        rw [e1, e2]
        exact h.grew hG
      rintro _ ⟨az, nz, cz, rfl⟩
      refine mv_alone 7 rfl (by kernel_rfl) rfl (fun _ => True) (fun g w9 ha h0 h D hD => ?_) ?_
      · have e1 : g 6 = some (.slice az nz cz) := (agree_on 6 ha (by kernel_rfl)).trans rfl
        simp only [e1, h0] at h
        have q1 := h.unread.cell c0 HG4.out.1.box.ne
        have q2 := h.unread.frozen c0 f0 HG4.out.1.box.ne
        have hD2 := hD undef (w9.setCell ⟨bo, 0, none⟩ (.slice az nz cz)) trivial (by show AppCall _ _ _ _ _ _ _ _ (g 4) (g 0) (g 5) (g 6) _ _; rw [e1]; exact h.stored)
        clear hD h
        go_simp
        exact hD2
      rintro vs -
      refine mv_end (by kernel_rfl) ?_
      intro w5 hw5
      obtain ⟨w6, hg6, hu6, hr6, rfl⟩ := AppCall.done4 (show AppCall strE B w4 9 v4 (A ++ A2) [y] bo (some (.string y)) (some v4) (some (.slice (some ⟨gs, 0, none⟩) 1 1)) (some (.slice az nz cz)) (some vs) w5 from hw5)
      clear hw5 hF hFC hF0 hFC0 k1c
      have HE := Lib.hid (HG4.out.1.turned hg6 hu6 hr6)
      clear c0 f0
      go_wp2
      go_end0
      exact HR.out _ _ ⟨rfl, _, by rw [HZ.out]; exact HE.out.1, HG4.out.2.trans HE.out.2⟩
end Go.Proofs.Ytpdeicgjmjoglaa
/- How the first leaves grow to all: frontier.Grow. -/
namespace Ks
open Go Go.RowKit
set_option linter.unusedVariables false
def growV (l : List ByteArray) (m : Int) : List ByteArray := if wholeL l = true ∧ 0 < m ∧ m ≤ l.length then growL l m.toNat true else []
def growE (l : List ByteArray) (m : Int) : Int := if wholeL l = true ∧ 0 ≤ m ∧ m ≤ l.length then 0 else 2
end Ks
namespace Go.Proofs.Ytpdeicgjmjoglaa
open Go.RowKit Ks
set_option linter.unusedVariables false
set_option maxHeartbeats 4000000 in
theorem fgrow_any (lv : Value) (l : List ByteArray) (m : Int) (w : World) (hr : Rd strE w lv l) (hl : l.length ≤ 1000000) :
    Calls Try.prog 21 #[lv, .int .i64 m] w fun e w' => ∃ v, e = .returned (.tuple #[v, .int .i64 (growE l m)]) ∧ Row strE w' w.heap.size 9 v (growV l m) ∧ Below w.heap.size w w' := by
  refine calls_by fun R HR => ?_
  have HRd := Lib.hid hr
  have HRt := Lib.hid (root_any lv l w hr (by omega))
  obtain ⟨a, cap, rfl, -, -⟩ := hr.shape
  clear hr
  by_cases hw : wholeL l = true
  · have hv : rootV l = rootL l ∧ wholeE l = 0 := ⟨by rw [rootV, if_pos hw], by rw [wholeE, if_pos hw]⟩
    rw [hv.1, hv.2] at HRt
    by_cases h0 : m < 0
    · have HZ := Lib.hid (show growV l m = [] ∧ growE l m = 2 from ⟨by rw [growV, if_neg (by omega)], by rw [growE, if_neg (by omega)]⟩)
      clear hw hv
      go_enter Try.func21, Try.ntmps21
      go_wp2_with fail
      refine HRt.out.mono ?_
      rintro e w1 ⟨rfl, hb⟩
      have H1 := Lib.hid hb
      clear hb
      go_wp2
      exact HR.out _ _ ⟨.slice none 0 0, by rw [HZ.out.2]; rfl, by rw [HZ.out.1]; exact Row.nil _ _ _, H1.out⟩
    · by_cases h1 : (l.length : Int) < m
      · have HZ := Lib.hid (show growV l m = [] ∧ growE l m = 2 from ⟨by rw [growV, if_neg (by omega)], by rw [growE, if_neg (by omega)]⟩)
        clear hw hv
        go_enter Try.func21, Try.ntmps21
        go_wp2_with fail
        refine HRt.out.mono ?_
        rintro e w1 ⟨rfl, hb⟩
        have H1 := Lib.hid hb
        clear hb
        go_wp2
        exact HR.out _ _ ⟨.slice none 0 0, by rw [HZ.out.2]; rfl, by rw [HZ.out.1]; exact Row.nil _ _ _, H1.out⟩
      · by_cases h2 : m = 0
        · subst h2
          have HZ := Lib.hid (show growV l 0 = [] ∧ growE l 0 = 0 from ⟨by rw [growV, if_neg (by omega)], by rw [growE, if_pos ⟨hw, by omega, by omega⟩]⟩)
          clear hw hv
          go_enter Try.func21, Try.ntmps21
          go_wp2_with fail
          refine HRt.out.mono ?_
          rintro e w1 ⟨rfl, hb⟩
          have H1 := Lib.hid hb
          clear hb
          go_wp2
          exact HR.out _ _ ⟨.slice none 0 0, by rw [HZ.out.2]; rfl, by rw [HZ.out.1]; exact Row.nil _ _ _, H1.out⟩
        · obtain ⟨k, hk⟩ : ∃ k : Nat, m = k := ⟨m.toNat, by omega⟩
          subst hk
          have HZ := Lib.hid (show growV l k = growL l k true ∧ growE l k = 0 from ⟨by rw [growV, if_pos ⟨hw, by omega, by omega⟩]; rfl, by rw [growE, if_pos ⟨hw, by omega, by omega⟩]⟩)
          have HW := Lib.hid (And.intro hw (And.intro hl (show 1 ≤ k ∧ k ≤ l.length by omega)))
          have hk0 : ¬ (k : Int) = 0 := h2
          clear hw hv hl
          go_enter Try.func21, Try.ntmps21
          go_wp2_with fail
          refine HRt.out.mono ?_
          rintro e w1 ⟨rfl, hb⟩
          obtain ⟨W1, hW1⟩ : ∃ W1, w1.alloc (.cells #[.slice none 0 0] 41) = W1 := ⟨_, rfl⟩
          obtain ⟨W2, hW2⟩ : ∃ W2, W1.alloc (.cells #[.nilFunc] 60) = W2 := ⟨_, rfl⟩
          have b1 : Below w1.heap.size w1 W1 := by rw [← hW1]; exact alloc_below w1 _
          have b2 : Below W1.heap.size W1 W2 := by rw [← hW2]; exact alloc_below W1 _
          have n1 : W1.heap[w1.heap.size]? = some (.cells #[.slice none 0 0] 41 (0, 0)) := by rw [← hW1]; exact alloc_new w1 _
          have n2 : W2.heap[W1.heap.size]? = some (.cells #[.nilFunc] 60 (0, 0)) := by rw [← hW2]; exact alloc_new W1 _
          have hs : w1.heap.size < W1.heap.size := lt_of_block n1
          have G0 : GrowAt (W2.setCell ⟨W1.heap.size, 0, none⟩ (.func (.func 37) #[] #[.pointer (some ⟨w1.heap.size, 0, none⟩), .pointer (some ⟨W1.heap.size, 0, none⟩)])) w1.heap.size w1.heap.size W1.heap.size (.slice none 0 0) [] := by
            refine ⟨⟨?_, Row.nil _ _ _, (by simp [Value.ownBlock]), Nat.le_refl _⟩, ?_, (by simp [Value.ownBlock]), by omega, by simp; have := b2.size; omega⟩
            · rw [set_ne _ (by omega)]; exact (b2.block _ hs).trans n1
            · simp [World.setCell, Array.getElem?_modify, n2]
          have bl : Below w.heap.size w (W2.setCell ⟨W1.heap.size, 0, none⟩ (.func (.func 37) #[] #[.pointer (some ⟨w1.heap.size, 0, none⟩), .pointer (some ⟨W1.heap.size, 0, none⟩)])) :=
            (hb.trans ((b1.trans (b2.mono b1.size)).mono hb.size)).trans ((Below.refl w.heap.size _).setCell (p := ⟨W1.heap.size, 0, none⟩) (by have := hb.size; show w.heap.size ≤ W1.heap.size; omega) _)
          have bs := hb.size
          obtain ⟨c0, f0⟩ := blk1 n2
          obtain ⟨d0, -⟩ := blk1 G0.fn
          have H1 := Lib.hid (And.intro G0 (And.intro bl bs))
          clear hb b1 b2 n1 n2 G0 bl bs
          have hlow : Low w1.heap.size (.slice a l.length cap) := by
            obtain ⟨b, o, rfl, hb1, -⟩ := HRd.out.str 0 (by have := HW.out.2.2; omega)
            intro b' e
            simp only [Value.ownBlock, Option.some.injEq] at e
            have := H1.out.2.2
            omega
          have HL := Lib.hid hlow
          clear hlow
          go_wp2_with fail
          refine (growc_any l.length l k true _ _ w1.heap.size w1.heap.size W1.heap.size (.slice none 0 0) [] rfl HW.out.2.1 HW.out.2.2.1 HW.out.2.2.2 HW.out.1 (HRd.out.below H1.out.2.1) HL.out H1.out.1 (by have := HW.out.2.1; simp; omega)).mono ?_
          rintro e w4 ⟨rfl, v4, hG4, hb4⟩
          have HG4 := Lib.hid (And.intro hG4 (H1.out.2.1.trans (hb4.mono H1.out.2.2)))
          obtain ⟨x0, -⟩ := blk1 hG4.box.blk
          obtain ⟨a4, c4, rfl, -⟩ := hG4.box.row.shape
          rw [List.nil_append] at x0
          clear hG4 hb4 c0 f0 d0 hs hW1 hW2
          go_wp2
          refine HR.out _ _ ⟨.slice a4 (growL l k true).length c4, by rw [HZ.out.2]; rfl, ?_, HG4.out.2⟩
          rw [HZ.out.1]
          have := HG4.out.1.box.row
          rw [List.nil_append] at this
          exact this.down H1.out.2.2
  · have hv : rootV l = ⟨#[]⟩ ∧ wholeE l = 2 := ⟨by rw [rootV, if_neg hw], by rw [wholeE, if_neg hw]⟩
    rw [hv.1, hv.2] at HRt
    have HZ := Lib.hid (show growV l m = [] ∧ growE l m = 2 from ⟨by rw [growV, if_neg fun h => hw h.1], by rw [growE, if_neg fun h => hw h.1]⟩)
    clear hw hv
    go_enter Try.func21, Try.ntmps21
    go_wp2_with fail
    refine HRt.out.mono ?_
    rintro e w1 ⟨rfl, hb⟩
    have H1 := Lib.hid hb
    clear hb
    go_wp2
    exact HR.out _ _ ⟨.slice none 0 0, by rw [HZ.out.2]; rfl, by rw [HZ.out.1]; exact Row.nil _ _ _, H1.out⟩
end Go.Proofs.Ytpdeicgjmjoglaa
/- A row copied by append, and one more behind it, in a statement that draws its order: what each order runs to. Plain. No program is in sight. -/
namespace Ks
open Go Go.RowKit
set_option linter.unusedVariables false

variable {α : Type} {E : Enc α}

theorem alloc2_heap (w : World) (o o' : Obj) : ((w.alloc o).alloc o').heap[w.heap.size]? = some o ∧ ((w.alloc o).alloc o').heap[w.heap.size + 1]? = some o' := by
  refine ⟨by rw [Below.heap_alloc _ _ _ (by simp)]; exact heap_alloc_new w o, ?_⟩
  have := heap_alloc_new (w.alloc o) o'
  rw [show (w.alloc o).heap.size = w.heap.size + 1 by simp] at this
  exact this
theorem row_fresh {w : World} {B g : Nat} {e : TypeId} (h : w.heap[g]? = some (.cells #[] e (0, 0))) (hB : B ≤ g) : Row E w B e (.slice (some ⟨g, 0, none⟩) 0 0) [] :=
  ⟨by simp [Enc.cs_nil], Or.inr ⟨g, 0, #[], rfl, hB, h, Nat.le_refl _, Nat.zero_le _, by simp, by simp [Enc.cs_nil]⟩⟩

/-- what two appends leave -/
def Two {P : Program} (E : Enc α) (t e : TypeId) (w Wa : World) (s lv u : Value) (L : List α) (x : α) : Prop :=
  ∃ a1 n1 c1 w5 a2 n2 c2 w6, (Builtin.append_ #[t, t] t #[s, lv]).run P Wa = .ok (.slice a1 n1 c1) w5 ∧ (Builtin.append_ #[t, t] t #[.slice a1 n1 c1, u]).run P w5 = .ok (.slice a2 n2 c2) w6 ∧
    Row E w6 w.heap.size e (.slice a2 n2 c2) (L ++ [x]) ∧ Below w.heap.size w w5 ∧ Below w.heap.size w w6

theorem append_two {P : Program} {t e : TypeId} {bytes : Nat} (T : ElemT P t e E.k bytes) (w : World) (lv : Value) (L : List α) (x : α) (X : Array Value) (hX : X.toList = E.enc x) (hl : Rd E w lv L) (b1 : L.length ≤ 1000000) (b2 : bytes ≤ 1000) :
    (∃ a1 n1 c1 w5 a2 n2 c2 w6, (Builtin.append_ #[t, t] t #[.slice (some ⟨w.heap.size, 0, none⟩) 0 0, lv]).run P (w.alloc (.cells #[] e)) = .ok (.slice a1 n1 c1) w5 ∧
      (Builtin.append_ #[t, t] t #[.slice a1 n1 c1, .slice (some ⟨w5.heap.size, 0, none⟩) 1 1]).run P (w5.alloc (.cells X e)) = .ok (.slice a2 n2 c2) w6 ∧ Row E w6 w.heap.size e (.slice a2 n2 c2) (L ++ [x]) ∧ Below w.heap.size w w5 ∧ Below w.heap.size w w6) ∧
    Two (P := P) E t e w ((w.alloc (.cells #[] e)).alloc (.cells X e)) (.slice (some ⟨w.heap.size, 0, none⟩) 0 0) lv (.slice (some ⟨w.heap.size + 1, 0, none⟩) 1 1) L x ∧
    Two (P := P) E t e w ((w.alloc (.cells X e)).alloc (.cells #[] e)) (.slice (some ⟨w.heap.size + 1, 0, none⟩) 0 0) lv (.slice (some ⟨w.heap.size, 0, none⟩) 1 1) L x := by
  have hA := alloc_below w (.cells #[] e)
  have hAX : Below w.heap.size w ((w.alloc (.cells #[] e)).alloc (.cells X e)) := hA.alloc hA.size _
  have hX1 := alloc_below w (.cells X e)
  have hXA : Below w.heap.size w ((w.alloc (.cells X e)).alloc (.cells #[] e)) := hX1.alloc hX1.size _
  have shape : ∀ {w' : World} {B : Nat} {v : Value} {l : List α}, Row E w' B e v l → ∃ a n c, v = .slice a n c := fun h => by
    obtain ⟨a, c, e, _⟩ := h.shape
    exact ⟨a, _, c, e⟩
  refine ⟨?_, ?_, ?_⟩
  · obtain ⟨v1, w5, hr1, hG1⟩ := run_append_row (ty := t) T (w.alloc (.cells #[] e)) w.heap.size _ _ [] L (row_fresh (alloc_new w _) (Nat.le_refl _)) (hl.below hA) hA.size (by simp; omega) b2
    have hB5 : Below w.heap.size w w5 := hG1.below hA hA.size fun b hb => by simp [Value.ownBlock] at hb; omega
    have hX5 := alloc_below w5 (.cells X e)
    rw [List.nil_append] at hG1
    obtain ⟨v2, w6, hr2, hG2⟩ := run_append_row (ty := t) T (w5.alloc (.cells X e)) w.heap.size _ _ L [x] (hG1.1.below hX5) (Rd.single x (alloc_new w5 _) hX) (Nat.le_trans hB5.size hX5.size) (by simp; omega) b2
    obtain ⟨a1, n1, c1, rfl⟩ := shape hG1.1
    obtain ⟨a2, n2, c2, rfl⟩ := shape hG2.1
    exact ⟨a1, n1, c1, w5, a2, n2, c2, w6, hr1, hr2, hG2.1, hB5, hG2.below (hB5.trans (hX5.mono hB5.size)) (Nat.le_trans hB5.size hX5.size) fun b hb => (hG1.1.lt hb).1⟩
  · obtain ⟨k1, k2⟩ := alloc2_heap w (.cells #[] e) (.cells X e)
    obtain ⟨v1, w5, hr1, hG1⟩ := run_append_row (ty := t) T ((w.alloc (.cells #[] e)).alloc (.cells X e)) w.heap.size _ _ [] L (row_fresh k1 (Nat.le_refl _)) (hl.below hAX) hAX.size (by simp; omega) b2
    have hB5 : Below w.heap.size w w5 := hG1.below hAX hAX.size fun b hb => by simp [Value.ownBlock] at hb; omega
    rw [List.nil_append] at hG1
    have kx := hG1.block k2 (by simp [Value.ownBlock])
    obtain ⟨v2, w6, hr2, hG2⟩ := run_append_row (ty := t) T w5 w.heap.size _ _ L [x] hG1.1 (Rd.single x kx hX) hB5.size (by simp; omega) b2
    obtain ⟨a1, n1, c1, rfl⟩ := shape hG1.1
    obtain ⟨a2, n2, c2, rfl⟩ := shape hG2.1
    exact ⟨a1, n1, c1, w5, a2, n2, c2, w6, hr1, hr2, hG2.1, hB5, hG2.below hB5 hB5.size fun b hb => (hG1.1.lt hb).1⟩
  · obtain ⟨k1, k2⟩ := alloc2_heap w (.cells X e) (.cells #[] e)
    obtain ⟨v1, w5, hr1, hG1⟩ := run_append_row (ty := t) T ((w.alloc (.cells X e)).alloc (.cells #[] e)) w.heap.size _ _ [] L (row_fresh k2 (by omega)) (hl.below hXA) hXA.size (by simp; omega) b2
    have hB5 : Below w.heap.size w w5 := hG1.below hXA hXA.size fun b hb => by simp [Value.ownBlock] at hb; omega
    rw [List.nil_append] at hG1
    have kx := hG1.block k1 (by simp [Value.ownBlock])
    obtain ⟨v2, w6, hr2, hG2⟩ := run_append_row (ty := t) T w5 w.heap.size _ _ L [x] hG1.1 (Rd.single x kx hX) hB5.size (by simp; omega) b2
    obtain ⟨a1, n1, c1, rfl⟩ := shape hG1.1
    obtain ⟨a2, n2, c2, rfl⟩ := shape hG2.1
    exact ⟨a1, n1, c1, w5, a2, n2, c2, w6, hr1, hr2, hG2.1, hB5, hG2.below hB5 hB5.size fun b hb => (hG1.1.lt hb).1⟩
end Ks
/- Are two rows of texts the same? The reference's answer. -/
namespace Ks
open Go
theorem text_ne {a b : ByteArray} (h : a ≠ b) : (a.toList == b.toList) = false := by
  rw [beq_eq_false_iff_ne]
  intro e
  rw [ByteArray.toList_eq, ByteArray.toList_eq] at e
  apply h
  obtain ⟨⟨x⟩⟩ := a
  obtain ⟨⟨y⟩⟩ := b
  have : x = y := e
  rw [this]
end Ks
namespace Go.Proofs.Ytpdeicgjmjoglaa
open Go.RowKit Ks
set_option linter.unusedVariables false

set_option maxHeartbeats 1000000 in
theorem texts_any (va vb : Value) (A B : List ByteArray) (w : World) (ha : Rd strE w va A) (hb : Rd strE w vb B) (hA : A.length ≤ maxLen) (hB : B.length ≤ maxLen) :
    Calls Try.prog 19 #[va, vb] w fun e w' => ∃ b, e = .returned (.bool b) ∧ (b = true ↔ A = B) ∧ Below w.heap.size w w' := by
  unfold maxLen at hA hB
  refine calls_by fun R HR => ?_
  obtain ⟨aa, ca, hva, _⟩ := ha.shape
  obtain ⟨ab, cb, hvb, _⟩ := hb.shape
  have HH := Lib.hid (And.intro ha hb)
  subst hva hvb
  clear ha hb
  by_cases hl : A.length = B.length
  · obtain ⟨ln, hln⟩ : ∃ ln, A.length = ln := ⟨_, rfl⟩
    have HL := Lib.hid (And.intro hln (hl.symm.trans hln))
    rw [← hl, hln]
    rw [hln] at hA
    clear hl hln hB
    go_enter Try.func19, Try.ntmps19
    go_wp2_with fail
    go_loopw [5] (fun i wx => ∃ k : Nat, k ≤ ln ∧ i = .int .i64 k ∧ Hid (A.take k = B.take k ∧ Below w.heap.size w wx)) (fun i _ => ln - (intOf i).toNat)
    case atStart => exact ⟨0, by omega, rfl, Lib.hid ⟨by simp, Below.refl _ _⟩⟩
    case round =>
      obtain ⟨k, hk, rfl, hN⟩ := hrel
      by_cases hlt : k < ln
      · have h1 : k < A.length := by rw [HL.out.1]; exact hlt
        have h2 : k < B.length := by rw [HL.out.2]; exact hlt
        have ra : Rd strE wr (.slice aa A.length ca) A := HH.out.1.below hN.out.2
        have rb : Rd strE wr (.slice ab B.length cb) B := HH.out.2.below hN.out.2
        obtain ⟨b1, o1, rfl, hb1, d1⟩ := ra.str k h1
        obtain ⟨b2, o2, rfl, hb2, d2⟩ := rb.str k h2
        have T1 := Lib.hid (show A.take (k + 1) = A.take k ++ [A[k]] from List.take_succ_eq_append_getElem h1)
        have T2 := Lib.hid (show B.take (k + 1) = B.take k ++ [B[k]] from List.take_succ_eq_append_getElem h2)
        have NE := Lib.hid (fun (h : A[k] ≠ B[k]) (e : A = B) => h (by subst e; rfl))
        generalize A[k] = x at *
        generalize B[k] = y at *
        have hki : (k : Int) < (ln : Int) := by omega
        have HB := Lib.hid (fun q => below_drewN hN.out.2 q)
        clear ra rb hb1 hb2 h1 h2
        by_cases hxy : x = y
        · subst hxy
          have HQ := Lib.hid (show A.take (k + 1) = B.take (k + 1) by rw [T1.out, T2.out, hN.out.1])
          go_wp2_with fail
          go_quiet (fail)
          go_wp2_with fail
          go_roundw
          case rel => exact ⟨k + 1, by omega, by go_num, Lib.hid ⟨HQ.out, HB.out _⟩⟩
          case measure => simp [intOf]; omega
        · have hne := text_ne hxy
          have hno := Lib.hid (NE.out hxy)
          clear hxy
          go_wp2
          go_quiet (fail)
          go_wp2
          exact HR.out _ _ ⟨false, rfl, by simp; exact hno.out, HB.out _⟩
      · obtain rfl : k = ln := by omega
        have HE := Lib.hid (show A = B by have := hN.out.1; rwa [List.take_of_length_le (by rw [HL.out.1]; exact Nat.le_refl _), List.take_of_length_le (by rw [HL.out.2]; exact Nat.le_refl _)] at this)
        go_wp2
        exact HR.out _ _ ⟨true, rfl, by simp; exact HE.out, hN.out.2⟩
  · have hne : ((A.length : Int) != (B.length : Int)) = true := by simp; omega
    have hno := Lib.hid (fun (e : A = B) => hl (by rw [e]))
    clear hl
    go_enter Try.func19, Try.ntmps19
    go_wp2
    exact HR.out _ _ ⟨false, rfl, by simp; exact hno.out, Below.refl _ _⟩

end Go.Proofs.Ytpdeicgjmjoglaa
/- The reference's Bytes: of how many bytes texts are (of the first 2000, at most 100000 each). -/
namespace Ks
open Go Go.RowKit
set_option linter.unusedVariables false
def bytesN (l : List ByteArray) : Nat := ((l.take 2000).map fun s => min s.size 100000).sum
theorem bytesN_join (l : List ByteArray) (h : l.length ≤ 2000) (hb : bytesN l < 100000) : (joinL l).length = bytesN l := by
  rw [bytesN, List.take_of_length_le h] at hb ⊢
  clear h
  induction l with
  | nil => rfl
  | cons s l ih =>
    simp only [List.map_cons, List.sum_cons] at hb ⊢
    have := ih (by omega)
    rw [← this, joinL, List.flatMap_cons, List.length_append, data_length]
    have : min s.size 100000 = s.size := by omega
    rw [this]; rfl
theorem bytesN_take (l : List ByteArray) (k : Nat) (h : k < l.length) (h2 : k < 2000) : ((l.take (k + 1)).map fun s => min s.size 100000).sum = ((l.take k).map fun s => min s.size 100000).sum + min l[k].size 100000 := by
  rw [List.take_succ_eq_append_getElem h, List.map_append, List.sum_append]; simp
end Ks
namespace Go.Proofs.Ytpdeicgjmjoglaa
open Go.RowKit Ks
set_option linter.unusedVariables false
set_option maxHeartbeats 1000000 in
theorem bytes_any (l : List ByteArray) (v : Value) (w : World) (hv : Rd strE w v l) : Calls Try.prog 28 #[v] w fun e w' => e = .returned (.int .i64 (bytesN l : Nat)) ∧ w' = w := by
  refine calls_by fun R HR => ?_
  obtain ⟨a, cap, rfl, _, _⟩ := hv.shape
  have HV := Lib.hid hv
  clear hv
  go_enter Try.func28, Try.ntmps28
  go_wp2
  go_loop [4, 3] (fun i x => ∃ (k n : Nat), k ≤ l.length ∧ k ≤ 2000 ∧ n ≤ 100000 * k ∧ i = .int .i64 k ∧ x = .int .i64 n ∧ Hid (n = ((l.take k).map fun s => min s.size 100000).sum)) (fun i _ => 2000 - (intOf i).toNat)
  case atStart => exact ⟨0, 0, by omega, by omega, by omega, rfl, rfl, Lib.hid rfl⟩
  case round =>
    obtain ⟨k, n, hk, hk2, hnb, rfl, rfl, hn⟩ := hrel
    have hend : Hid (k = l.length ∨ k = 2000 → n = bytesN l) := Lib.hid fun h => by
      rw [hn.out, bytesN]
      rcases h with h | h
      · rw [h, List.take_of_length_le (Nat.le_refl _), List.take_of_length_le (by omega)]
      · rw [h]
    have hni : (n : Int) ≤ 200000000 := by omega
    have HNB := Lib.hid (And.intro hk2 hnb)
    by_cases hlt : k < l.length
    · by_cases h2 : k < 2000
      · obtain ⟨b, o, rfl, _, hc⟩ := HV.out.str k hlt
        have HS := Lib.hid (bytesN_take l k hlt h2)
        generalize l[k] = s at *
        have h2i : (k : Int) < 2000 := by omega
        have H2 := Lib.hid h2
        clear hk2 hnb h2 hend
        by_cases hs : s.size < 100000
        · have hsi : (s.size : Int) < 100000 := by omega
          have HM := Lib.hid (show min s.size 100000 = s.size by omega)
          clear hs
          go_wp2
          all_goals
            go_round
            case rel => exact ⟨k + 1, n + s.size, by omega, by have := H2.out; omega, by have := HNB.out.2; omega, by go_num, by go_num, Lib.hid (by rw [HS.out, ← hn.out, HM.out])⟩
            case measure => simp [intOf]; have := H2.out; omega
        · have hsi : ¬ (s.size : Int) < 100000 := by omega
          have HM := Lib.hid (show min s.size 100000 = 100000 by omega)
          clear hs
          go_wp2
          all_goals
            go_round
            case rel => exact ⟨k + 1, n + 100000, by omega, by have := H2.out; omega, by have := HNB.out.2; omega, by go_num, by go_num, Lib.hid (by rw [HS.out, ← hn.out, HM.out])⟩
            case measure => simp [intOf]; have := H2.out; omega
      · have hv := Lib.hid (hend.out (Or.inr (by omega)))
        have h2i : ¬ (k : Int) < 2000 := by omega
        clear hend hk2 hnb h2
        go_wp2
        exact HR.out _ _ ⟨by rw [hv.out], rfl⟩
    · have hv := Lib.hid (hend.out (Or.inl (by omega)))
      clear hend hk2 hnb
      go_wp2
      exact HR.out _ _ ⟨by rw [hv.out], rfl⟩
end Go.Proofs.Ytpdeicgjmjoglaa
