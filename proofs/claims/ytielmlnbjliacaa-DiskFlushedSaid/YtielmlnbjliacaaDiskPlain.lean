/- A disk, plain: blocks, what was written and not flushed. No program is in sight. -/
import Derived.Test.YtielmlnbjliacaaStrE
namespace Ks
open Go Go.RowKit
set_option linter.unusedVariables false
abbrev PutT := Int × ByteArray
structure DS where
  blocks : List ByteArray
  cache : List PutT
  down : Bool
  left : Nat
def putC (b : List ByteArray) (p : PutT) : List ByteArray := b.set p.1.toNat p.2
def showC (b : List ByteArray) (c : List PutT) (i : Int) : ByteArray := c.foldl (fun s p => if p.1 = i then p.2 else s) (b.getD i.toNat ⟨#[]⟩)
def inD (s : DS) (i : Int) : Bool := decide (0 ≤ i ∧ i < (s.blocks.length : Int))
def readD (s : DS) (i : Int) : ByteArray × Int := if s.down then (⟨#[]⟩, 14) else if inD s i then (showC s.blocks s.cache i, 0) else (⟨#[]⟩, 4)
def stepD (s : DS) : DS := if s.left = 0 then s else { s with left := s.left - 1, down := decide (s.left - 1 = 0) }
def placeE (s : DS) (i : Int) (t : ByteArray) : Int := if inD s i then (if t.size = 4096 then 0 else 2) else 4
def writeE (s : DS) (i : Int) (t : ByteArray) : Int :=
  if s.down then 14 else if placeE s i t ≠ 0 then placeE s i t else if 4096 ≤ s.cache.length then 5 else if (stepD s).down then 14 else 0
def writeD (s : DS) (i : Int) (t : ByteArray) : DS :=
  if s.down ∨ placeE s i t ≠ 0 ∨ 4096 ≤ s.cache.length then s else if (stepD s).down then stepD s else { stepD s with cache := s.cache ++ [(i, t)] }
def flushE (s : DS) : Int := if s.down then 14 else if (stepD s).down then 14 else 0
def flushD (s : DS) : DS := if s.down then s else if (stepD s).down then stepD s else { stepD s with blocks := s.cache.foldl putC s.blocks, cache := [] }
def armE (s : DS) (n : Int) : Int := if s.down then 14 else if n < 0 then 2 else 0
def armD (s : DS) (n : Int) : DS := if s.down ∨ n < 0 then s else { s with left := n.toNat }
/-- those of the writes that are kept -/
def keptC (keep : List Int) : List PutT → Nat → List PutT
  | [], _ => []
  | p :: c, k => if (k : Int) ∈ keep then p :: keptC keep c (k + 1) else keptC keep c (k + 1)
def crashD (s : DS) (keep : List Int) : DS := { blocks := (keptC keep s.cache 0).foldl putC s.blocks, cache := [], down := true, left := 0 }
def bootD (s : DS) : DS := { s with cache := [], down := false, left := 0 }
def overD (s : DS) (i : Int) (t : ByteArray) : DS := if placeE s i t ≠ 0 then s else { s with blocks := s.blocks.set i.toNat t }
/-- a disk that may be -/
structure DS.ok (s : DS) : Prop where
  blocks : s.blocks.length ≤ 1024
  cache : s.cache.length ≤ 4096
  at_ : ∀ p ∈ s.cache, 0 ≤ p.1 ∧ p.1 < (s.blocks.length : Int)
  left : s.left ≤ 9223372036854775807
def newD (n : Nat) : DS := ⟨List.replicate n ⟨(List.replicate 4096 0).toArray⟩, [], false, 0⟩

theorem snoc_ind {α : Type} {Q : List α → Prop} (h0 : Q []) (h1 : ∀ c p, Q c → Q (c ++ [p])) (c : List α) : Q c := by
  have key : ∀ l : List α, Q l.reverse := by
    intro l
    induction l with
    | nil => exact h0
    | cons p l ih => rw [List.reverse_cons]; exact h1 _ p ih
  have := key c.reverse
  rwa [List.reverse_reverse] at this
theorem putC_length (b : List ByteArray) (p : PutT) : (putC b p).length = b.length := List.length_set
theorem puts_length (c : List PutT) (b : List ByteArray) : (c.foldl putC b).length = b.length := by
  induction c generalizing b with
  | nil => rfl
  | cons p c ih => rw [List.foldl_cons, ih, putC_length]
theorem showC_snoc (b : List ByteArray) (c : List PutT) (p : PutT) (i : Int) : showC b (c ++ [p]) i = if p.1 = i then p.2 else showC b c i := by simp [showC]
/-- what a place shows is what the writes make of it -/
theorem puts_show (b : List ByteArray) (i : Nat) (hi : i < b.length) (c : List PutT) : (∀ p ∈ c, 0 ≤ p.1) → (c.foldl putC b).getD i ⟨#[]⟩ = showC b c i := by
  refine snoc_ind (Q := fun c => (∀ p ∈ c, 0 ≤ p.1) → (c.foldl putC b).getD i ⟨#[]⟩ = showC b c i) (fun _ => by simp [showC]) (fun c p ih hc => ?_) c
  · rw [List.foldl_append, List.foldl_cons, List.foldl_nil, showC_snoc]
    have h0 := hc p (by simp)
    have ih' := ih fun q hq => hc q (by simp [hq])
    by_cases e : p.1 = i
    · rw [if_pos e, putC, e, Int.toNat_natCast]
      simp [puts_length, hi]
    · rw [if_neg e, putC, ← ih']
      simp only [List.getD_eq_getElem?_getD]
      rw [List.getElem?_set_ne (by omega)]
/-- all places as they show -/
theorem puts_all (b : List ByteArray) (c : List PutT) (hc : ∀ p ∈ c, 0 ≤ p.1) : c.foldl putC b = (List.range b.length).map fun (i : Nat) => showC b c (i : Int) := by
  refine List.ext_getElem (by simp [puts_length]) fun i h1 h2 => ?_
  have hi : i < b.length := by rw [puts_length] at h1; exact h1
  have := puts_show b i hi c hc
  rw [List.getElem_map, List.getElem_range, ← this]
  simp [h1]
theorem keptC_mem (keep : List Int) (c : List PutT) (k : Nat) : ∀ p ∈ keptC keep c k, p ∈ c := by
  induction c generalizing k with
  | nil => intro p hp; cases hp
  | cons q c ih =>
    intro p hp
    unfold keptC at hp
    split at hp
    · rcases List.mem_cons.1 hp with rfl | h
      · simp
      · simp [ih (k + 1) p h]
    · simp [ih (k + 1) p hp]
theorem keptC_snoc (keep : List Int) (c : List PutT) (p : PutT) (k : Nat) : keptC keep (c ++ [p]) k = keptC keep c k ++ (if ((k + c.length : Nat) : Int) ∈ keep then [p] else []) := by
  induction c generalizing k with
  | nil => simp [keptC]
  | cons q c ih =>
    have e : k + (c.length + 1) = k + 1 + c.length := by omega
    simp only [List.cons_append, keptC, ih (k + 1), List.length_cons, e]
    split
    · simp
    · rfl

theorem stepD_ok {s : DS} (h : s.ok) : (stepD s).ok := by
  unfold stepD
  split
  · exact h
  · exact ⟨h.blocks, h.cache, h.at_, by have := h.left; show s.left - 1 ≤ _; omega⟩
theorem inD_iff (s : DS) (i : Int) : inD s i = true ↔ 0 ≤ i ∧ i < (s.blocks.length : Int) := by simp [inD]
theorem place_in {s : DS} {i : Int} {t : ByteArray} (h : ¬ placeE s i t ≠ 0) : 0 ≤ i ∧ i < (s.blocks.length : Int) ∧ t.size = 4096 := by
  unfold placeE at h
  split at h
  · rename_i h1
    rw [inD_iff] at h1
    split at h
    · exact ⟨h1.1, h1.2, by assumption⟩
    · simp at h
  · simp at h
theorem stepD_blocks (s : DS) : (stepD s).blocks = s.blocks := by unfold stepD; split <;> rfl
theorem stepD_cache (s : DS) : (stepD s).cache = s.cache := by unfold stepD; split <;> rfl
theorem writeD_ok {s : DS} (h : s.ok) (i : Int) (t : ByteArray) : (writeD s i t).ok := by
  unfold writeD
  split
  · exact h
  · rename_i hn
    simp only [not_or] at hn
    obtain ⟨_, h2, h3⟩ := hn
    obtain ⟨p1, p2, p3⟩ := place_in h2
    have hs := stepD_ok h
    split
    · exact hs
    · refine ⟨hs.blocks, by show (s.cache ++ [(i, t)]).length ≤ _; simp; omega, fun p hp => ?_, hs.left⟩
      show 0 ≤ p.1 ∧ p.1 < ((stepD s).blocks.length : Int)
      rw [stepD_blocks]
      rcases List.mem_append.1 hp with h1 | h1
      · exact h.at_ p h1
      · simp at h1; subst h1; exact ⟨p1, p2⟩
theorem flushD_ok {s : DS} (h : s.ok) : (flushD s).ok := by
  unfold flushD
  split
  · exact h
  · split
    · exact stepD_ok h
    · have hs := stepD_ok h
      exact ⟨by show (s.cache.foldl putC s.blocks).length ≤ _; rw [puts_length]; exact h.blocks, by simp, (fun p hp => by cases hp), hs.left⟩
theorem armD_ok {s : DS} (h : s.ok) (n : Int) (hn : n ≤ 9223372036854775807) : (armD s n).ok := by
  unfold armD
  split
  · exact h
  · exact ⟨h.blocks, h.cache, h.at_, by show n.toNat ≤ _; omega⟩
theorem crashD_ok {s : DS} (h : s.ok) (keep : List Int) : (crashD s keep).ok :=
  ⟨by show ((keptC keep s.cache 0).foldl putC s.blocks).length ≤ _; rw [puts_length]; exact h.blocks, Nat.zero_le _, (fun p hp => by cases hp), Nat.zero_le _⟩
theorem bootD_ok {s : DS} (h : s.ok) : (bootD s).ok := ⟨h.blocks, Nat.zero_le _, (fun p hp => by cases hp), Nat.zero_le _⟩
theorem overD_ok {s : DS} (h : s.ok) (i : Int) (t : ByteArray) : (overD s i t).ok := by
  unfold overD
  split
  · exact h
  · exact ⟨by show (s.blocks.set _ _).length ≤ _; rw [List.length_set]; exact h.blocks, h.cache, fun p hp => by show _ ∧ _ < ((s.blocks.set _ _).length : Int); rw [List.length_set]; exact h.at_ p hp, h.left⟩
theorem newD_ok (n : Nat) (h : n ≤ 1024) : (newD n).ok := ⟨by show (List.replicate n _).length ≤ _; rw [List.length_replicate]; exact h, Nat.zero_le _, (fun p hp => by cases hp), Nat.zero_le _⟩
end Ks
