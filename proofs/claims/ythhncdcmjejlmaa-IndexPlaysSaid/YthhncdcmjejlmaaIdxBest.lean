/- The newest version of those that ..: plain. -/
import Derived.Test.YthhncdcmjejlmaaIdxMore
namespace Ks
open Go Go.RowKit
set_option linter.unusedVariables false

def Best (P : Ver → Prop) (L : List Ver) : Option Ver → Prop
  | some v => v ∈ L ∧ P v ∧ ∀ y ∈ L, P y → y = v ∨ ltV y v
  | none => ∀ y ∈ L, ¬ P y
theorem Best.unique {P : Ver → Prop} {L L' : List Ver} {o o' : Option Ver} (h : Best P L o) (h' : Best P L' o') (hm : ∀ x, x ∈ L ↔ x ∈ L') : o = o' := by
  cases o with
  | none =>
    cases o' with
    | none => rfl
    | some v => exact absurd h'.2.1 (h v ((hm v).2 h'.1))
  | some v =>
    cases o' with
    | none => exact absurd h.2.1 (h' v ((hm v).1 h.1))
    | some u =>
      rcases h.2.2 u ((hm u).2 h'.1) h'.2.1 with e | e
      · rw [e]
      · rcases h'.2.2 v ((hm v).1 h.1) h.2.1 with e2 | e2
        · rw [e2]
        · exact absurd (ltV_trans e e2) (ltV_irrefl _)
theorem lastO_best {L : List Ver} (h : Sorted L) (lba e : Int) : Best (fun y => y.1 = lba ∧ y.2.1 ≤ e) L (lastO L lba e) := by
  have hq : ∀ y : Ver, y.1 = lba ∧ y.2.1 ≤ e → lastQ lba e y = true := fun y hy => by simp only [lastQ, decide_eq_true_eq]; omega
  have hidx : ∀ y ∈ L, (y.1 = lba ∧ y.2.1 ≤ e) → ∃ i, i < aheadV (lastQ lba e) L ∧ L[i]? = some y := fun y hy hp => by
    obtain ⟨i, hi, rfl⟩ := List.getElem_of_mem hy
    have hx := List.getElem?_eq_getElem hi
    refine ⟨i, Nat.lt_of_not_le fun hle => ?_, hx⟩
    have := aheadV_ge h lastQ_mono i _ hle hx
    rw [hq _ hp] at this
    cases this
  unfold lastO
  by_cases h0 : aheadV (lastQ lba e) L = 0
  · rw [if_pos h0]
    intro y hy hp
    obtain ⟨i, hi, _⟩ := hidx y hy hp
    omega
  · rw [if_neg h0]
    have hlt : aheadV (lastQ lba e) L - 1 < L.length := by have := aheadV_le (lastQ lba e) L; omega
    obtain ⟨u, hu⟩ : ∃ u, L[aheadV (lastQ lba e) L - 1]? = some u := ⟨_, List.getElem?_eq_getElem hlt⟩
    have hqu := aheadV_lt (lastQ lba e) L (aheadV (lastQ lba e) L - 1) u (by omega) hu
    simp only [lastQ, decide_eq_true_eq] at hqu
    have hmax : ∀ y ∈ L, (y.1 = lba ∧ y.2.1 ≤ e) → y = u ∨ ltV y u := fun y hy hp => by
      obtain ⟨i, hi, hx⟩ := hidx y hy hp
      by_cases he : i = aheadV (lastQ lba e) L - 1
      · subst he; rw [hu] at hx; cases hx; exact Or.inl rfl
      · exact Or.inr (sorted_get h (by omega) hx hu)
    simp only [hu]
    by_cases hl : u.1 = lba
    · rw [if_pos hl]
      exact ⟨List.mem_of_getElem? hu, ⟨hl, by omega⟩, hmax⟩
    · rw [if_neg hl]
      intro y hy hp
      rcases hmax y hy hp with rfl | hlt
      · exact hl hp.1
      · unfold ltV at hlt; omega
theorem ofO_best {L : List Ver} (h : Sorted L) (lba e : Int) : Best (fun y => y.1 = lba ∧ y.2.1 = e) L (ofO L lba e) := by
  have hb := lastO_best h lba e
  unfold ofO
  cases ho : lastO L lba e with
  | none =>
    rw [ho] at hb
    exact fun y hy hp => hb y hy ⟨hp.1, by omega⟩
  | some v =>
    rw [ho] at hb
    unfold ofF
    simp only
    by_cases he : v.2.1 = e
    · rw [if_pos he]
      exact ⟨hb.1, ⟨hb.2.1.1, he⟩, fun y hy hp => hb.2.2 y hy ⟨hp.1, by omega⟩⟩
    · rw [if_neg he]
      intro y hy hp
      have h1 := hb.2.1
      rcases hb.2.2 y hy ⟨hp.1, by omega⟩ with rfl | hlt
      · exact he hp.2
      · unfold ltV at hlt; omega
theorem asOf_ahead {L : List Ver} (h : Sorted L) (lba e : Int) (ho : ofO L lba e = none) : lastO L lba (e - 1) = lastO L lba e := by
  have hb := lastO_best h lba e
  have hn := ofO_best h lba e
  rw [ho] at hn
  refine (lastO_best h lba (e - 1)).unique (L' := L) ?_ (fun _ => Iff.rfl)
  cases hl : lastO L lba e with
  | none => rw [hl] at hb; exact fun y hy hp => hb y hy ⟨hp.1, by omega⟩
  | some v =>
    rw [hl] at hb
    have hne : v.2.1 ≠ e := fun e2 => hn v hb.1 ⟨hb.2.1.1, e2⟩
    have := hb.2.1.2
    exact ⟨hb.1, ⟨hb.2.1.1, by omega⟩, fun y hy hp => hb.2.2 y hy ⟨hp.1, by omega⟩⟩
theorem ofO_some {L : List Ver} {lba e : Int} {v : Ver} (h : ofO L lba e = some v) : lastO L lba e = some v := by
  unfold ofO at h
  cases hl : lastO L lba e with
  | none => rw [hl] at h; cases h
  | some u =>
    rw [hl] at h
    unfold ofF at h
    simp only at h
    split at h
    · exact h
    · cases h

end Ks
