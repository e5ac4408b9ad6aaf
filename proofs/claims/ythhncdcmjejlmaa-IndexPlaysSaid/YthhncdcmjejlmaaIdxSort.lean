/- Versions in order: plain. -/
import Derived.Test.YthhncdcmjejlmaaIdxSearch
namespace Ks
open Go Go.RowKit
set_option linter.unusedVariables false

def Sorted (L : List Ver) : Prop := L.Pairwise ltV
/-- how many stand ahead -/
def aheadV (q : Ver → Bool) (L : List Ver) : Nat := (L.takeWhile q).length
theorem aheadV_le (q : Ver → Bool) (L : List Ver) : aheadV q L ≤ L.length := (List.takeWhile_prefix q).length_le
theorem aheadV_lt (q : Ver → Bool) : ∀ (L : List Ver) (i : Nat) (x : Ver), i < aheadV q L → L[i]? = some x → q x = true
  | [], i, x, h, hx => by simp at hx
  | y :: L, i, x, h, hx => by
    unfold aheadV at h
    rw [List.takeWhile_cons] at h
    split at h
    · next hq =>
      match i, hx with
      | 0, hx => simp at hx; subst hx; exact hq
      | i + 1, hx => exact aheadV_lt q L i x (by simpa [aheadV] using h) (by simpa using hx)
    · simp at h
theorem aheadV_at (q : Ver → Bool) : ∀ (L : List Ver) (x : Ver), L[aheadV q L]? = some x → q x = false
  | [], x, hx => by simp at hx
  | y :: L, x, hx => by
    unfold aheadV at hx
    rw [List.takeWhile_cons] at hx
    split at hx
    · exact aheadV_at q L x (by simpa [aheadV] using hx)
    · next hq => simp at hx; subst hx; simpa using hq
theorem sorted_get {L : List Ver} (h : Sorted L) {i j : Nat} {x y : Ver} (hij : i < j) (hx : L[i]? = some x) (hy : L[j]? = some y) : ltV x y := by
  obtain ⟨hi, rfl⟩ := List.getElem?_eq_some_iff.1 hx
  obtain ⟨hj, rfl⟩ := List.getElem?_eq_some_iff.1 hy
  exact List.pairwise_iff_getElem.1 h i j hi hj hij
theorem aheadV_ge {q : Ver → Bool} {L : List Ver} (h : Sorted L) (hq : ∀ x y, ltV x y → q y = true → q x = true) (i : Nat) (x : Ver) (hi : aheadV q L ≤ i) (hx : L[i]? = some x) : q x = false := by
  have hlt : aheadV q L < L.length := by have := (List.getElem?_eq_some_iff.1 hx).1; omega
  have hp := aheadV_at q L _ (List.getElem?_eq_getElem hlt)
  by_cases he : i = aheadV q L
  · subst he
    rw [List.getElem?_eq_getElem hlt] at hx
    cases hx; exact hp
  · have := sorted_get h (by omega) (List.getElem?_eq_getElem hlt) hx
    cases hqx : q x with
    | false => rfl
    | true => rw [hq _ _ this hqx] at hp; cases hp

def insV (L : List Ver) (x : Ver) : List Ver := L.take (aheadV (fun y => decide (ltV y x)) L) ++ x :: L.drop (aheadV (fun y => decide (ltV y x)) L)
def addE (L : List Ver) (x : Ver) : Int := if mayV x = true then (if x ∈ L then 19 else 0) else 2
def addL (L : List Ver) (x : Ver) : List Ver := if addE L x = 0 then insV L x else L

theorem ltq {x : Ver} : ∀ a b, ltV a b → decide (ltV b x) = true → decide (ltV a x) = true := fun a b h h2 => by
  simp only [decide_eq_true_eq] at *; exact ltV_trans h h2
theorem met_mem {L : List Ver} (h : Sorted L) (x : Ver) : metB (fun y => ordV y x) L (aheadV (fun y => decide (ltV y x)) L) = decide (x ∈ L) := by
  unfold metB
  cases hx : L[aheadV (fun y => decide (ltV y x)) L]? with
  | none =>
    symm
    simp only [decide_eq_false_iff_not]
    intro hm
    obtain ⟨i, hi, e⟩ := List.getElem_of_mem hm
    have hlen : L.length ≤ aheadV (fun y => decide (ltV y x)) L := by simpa using hx
    have := aheadV_lt (fun y => decide (ltV y x)) L i x (by omega) (by rw [List.getElem?_eq_getElem hi, e])
    simp [ltV_irrefl] at this
  | some y =>
    simp only [ordV_zero]
    congr 1
    refine propext ⟨fun e => e ▸ List.mem_of_getElem? hx, fun hm => ?_⟩
    obtain ⟨i, hi, e⟩ := List.getElem_of_mem hm
    have hy := aheadV_at _ L y hx
    simp only [decide_eq_false_iff_not] at hy
    have hix : L[i]? = some x := by rw [List.getElem?_eq_getElem hi, e]
    by_cases h1 : i < aheadV (fun y => decide (ltV y x)) L
    · have := aheadV_lt _ L i x h1 hix
      simp [ltV_irrefl] at this
    · by_cases h2 : i = aheadV (fun y => decide (ltV y x)) L
      · rw [← h2] at hx; rw [hx] at hix; cases hix; rfl
      · exact absurd (sorted_get h (by omega) hx hix) hy
theorem insV_mem (L : List Ver) (x y : Ver) : y ∈ insV L x ↔ y = x ∨ y ∈ L := by
  unfold insV
  constructor
  · intro h
    rcases List.mem_append.1 h with h | h
    · exact Or.inr (List.mem_of_mem_take h)
    · rcases List.mem_cons.1 h with h | h
      · exact Or.inl h
      · exact Or.inr (List.mem_of_mem_drop h)
  · rintro (rfl | h)
    · exact List.mem_append_right _ List.mem_cons_self
    · rw [← List.take_append_drop (aheadV (fun y => decide (ltV y x)) L) L] at h
      rcases List.mem_append.1 h with h | h
      · exact List.mem_append_left _ h
      · exact List.mem_append_right _ (List.mem_cons_of_mem _ h)
theorem insV_length (L : List Ver) (x : Ver) : (insV L x).length = L.length + 1 := by
  unfold insV
  have := aheadV_le (fun y => decide (ltV y x)) L
  simp; omega
theorem insV_sorted {L : List Ver} (h : Sorted L) (x : Ver) (hx : x ∉ L) : Sorted (insV L x) := by
  have hs := h
  unfold Sorted at h ⊢
  unfold insV
  rw [List.pairwise_append, List.pairwise_cons]
  refine ⟨h.sublist (List.take_sublist _ _), ⟨fun y hy => ?_, h.sublist (List.drop_sublist _ _)⟩, fun a ha b hb => ?_⟩
  · obtain ⟨i, hi, e⟩ := List.getElem_of_mem hy
    have hix : L[aheadV (fun y => decide (ltV y x)) L + i]? = some y := by rw [← List.getElem?_drop, List.getElem?_eq_getElem hi, e]
    have := aheadV_ge hs ltq _ y (Nat.le_add_right _ _) hix
    simp only [decide_eq_false_iff_not] at this
    rcases ltV_tri x y with h1 | h1 | h1
    · exact h1
    · subst h1; exact absurd (List.mem_of_getElem? hix) hx
    · exact absurd h1 this
  · obtain ⟨i, hi, e⟩ := List.getElem_of_mem ha
    have hil : i < aheadV (fun y => decide (ltV y x)) L := by have := hi; simp at this; omega
    have hia : L[i]? = some a := by
      have : (L.take (aheadV (fun y => decide (ltV y x)) L))[i]? = some a := by rw [List.getElem?_eq_getElem hi, e]
      rw [List.getElem?_take, if_pos hil] at this; exact this
    have hax := aheadV_lt _ L i a hil hia
    simp only [decide_eq_true_eq] at hax
    rcases List.mem_cons.1 hb with rfl | hb
    · exact hax
    · obtain ⟨j, hj, e⟩ := List.getElem_of_mem hb
      have hjb : L[aheadV (fun y => decide (ltV y x)) L + j]? = some b := by rw [← List.getElem?_drop, List.getElem?_eq_getElem hj, e]
      exact sorted_get hs (by omega) hia hjb
theorem addL_mem {L : List Ver} (x y : Ver) : y ∈ addL L x ↔ (y = x ∧ mayV x = true) ∨ y ∈ L := by
  unfold addL addE
  by_cases h1 : mayV x = true
  · by_cases h2 : x ∈ L
    · simp [h1, h2]; intro e; subst e; exact h2
    · simp [h1, h2, insV_mem]
  · simp [h1]
theorem addL_sorted {L : List Ver} (h : Sorted L) (x : Ver) : Sorted (addL L x) := by
  unfold addL
  split
  · next he =>
    refine insV_sorted h x fun hm => ?_
    unfold addE at he
    split at he
    · simp at he
    · omega
  · exact h
theorem addL_length (L : List Ver) (x : Ver) : (addL L x).length ≤ L.length + 1 := by
  unfold addL; split
  · rw [insV_length]; omega
  · omega
/-- sorted rows of the same ones are the same -/
theorem sorted_ext : ∀ {a b : List Ver}, Sorted a → Sorted b → (∀ x, x ∈ a ↔ x ∈ b) → a = b
  | [], [], _, _, _ => rfl
  | [], y :: b, _, _, h => by have := (h y).2 (by simp); simp at this
  | x :: a, [], _, _, h => by have := (h x).1 (by simp); simp at this
  | x :: a, y :: b, ha, hb, h => by
    have ha' := List.pairwise_cons.1 ha
    have hb' := List.pairwise_cons.1 hb
    have hxy : x = y := by
      have h1 := (h x).1 (by simp)
      have h2 := (h y).2 (by simp)
      rcases List.mem_cons.1 h1 with e | h1
      · exact e
      · rcases List.mem_cons.1 h2 with e | h2
        · exact e.symm
        · exact absurd (ltV_trans (hb'.1 x h1) (ha'.1 y h2)) (ltV_irrefl _)
    subst hxy
    congr 1
    refine sorted_ext ha'.2 hb'.2 fun z => ?_
    constructor
    · intro hz
      rcases List.mem_cons.1 ((h z).1 (List.mem_cons_of_mem _ hz)) with rfl | h3
      · exact absurd (ha'.1 z hz) (ltV_irrefl _)
      · exact h3
    · intro hz
      rcases List.mem_cons.1 ((h z).2 (List.mem_cons_of_mem _ hz)) with rfl | h3
      · exact absurd (hb'.1 z hz) (ltV_irrefl _)
      · exact h3

end Ks
