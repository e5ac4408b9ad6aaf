/- The law's own answers about a net, plain: what the program answers is what the law's text does. -/
import Derived.Test.YtpdnjhofmngfdaaNetPlay
namespace Ks
open Go Go.RowKit
set_option linter.unusedVariables false
open Go.Proofs.Ytpdnjhofmngfdaa

def netE (kk n : Int) (L l : List Let) : Int := if kk = 1 then sendE L l else if kk = 4 then twiceE L n else atE L n
def netL (kk n : Int) (L l : List Let) : List Let := if kk = 1 then sendL L l else if kk = 4 then twiceL L n else takeR L n
def netX (kk n : Int) (L l : List Let) : Let := if kk = 3 then (0, ⟨#[]⟩) else playX kk n L l
def netY (kk n : Int) (L : List Let) : Let := if kk = 1 ∨ kk = 4 ∨ kk = 3 then (0, ⟨#[]⟩) else takeX L n

theorem bad_get {L : List Let} (h : L.any badL = false) (n : Int) (hn : ¬ (n < 0 ∨ (L.length : Int) ≤ n)) : badL (letD L n) = false := by
  have hi : n.toNat < L.length := by omega
  rw [List.any_eq_false] at h
  have := h L[n.toNat] (List.getElem_mem hi)
  simp [letD, List.getD, List.getElem?_eq_getElem hi]
  simpa using this

theorem net_law (kk n : Int) (L l : List Let) (h : L.any badL = false) (hL : L.length ≤ 64) :
    netE kk n L l = playE kk n L l ∧ netL kk n L l = playL kk n L l ∧ netX kk n L l = netY kk n L ∧ (netL kk n L l).any badL = false := by
  by_cases h1 : kk = 1
  · subst h1
    refine ⟨by simp [netE, playE], by simp [netL, playL, playE, sendL], by simp [netX, netY, playX], ?_⟩
    simp only [netL, if_true, sendL]
    split
    · next hs =>
      rw [List.any_append, h]
      unfold sendE at hs
      split at hs
      · simp at hs
      · next hb => simpa using hb
    · exact h
  · by_cases h4 : kk = 4
    · subst h4
      by_cases hn : n < 0 ∨ (L.length : Int) ≤ n
      · have ha : atE L n = 7 := by rw [atE, if_pos hn]
        have hp : playE 4 n L l = 7 := by rw [playE, if_neg (by decide), if_pos hn]
        have ht : twiceE L n = 7 := by rw [twiceE, if_pos ha]
        refine ⟨by rw [hp, netE, if_neg (by decide), if_pos rfl, ht], by rw [netL, if_neg (by decide), if_pos rfl, twiceL, ht, playL, hp]; simp, by simp [netX, netY, playX], ?_⟩
        rw [netL, if_neg (by decide), if_pos rfl, twiceL, ht]
        simpa using h
      · have ha : atE L n = 0 := by rw [atE, if_neg hn]
        have hb := bad_get h n hn
        have hp : playE 4 n L l = if 64 ≤ L.length then 5 else 0 := by rw [playE, if_neg (by decide), if_neg hn, if_pos rfl]
        have ht : twiceE L n = if 64 ≤ L.length then 5 else 0 := by
          rw [twiceE, ha, if_neg (by decide), sendE]
          have : [L.getD n.toNat (0, ⟨#[]⟩)].any badL = false := by simpa [letD] using hb
          rw [this]
          simp only [Bool.false_eq_true, if_false, List.length_singleton]
          by_cases h64 : 64 ≤ L.length
          · rw [if_pos (by omega), if_pos h64]
          · rw [if_neg (by omega), if_neg h64]
        refine ⟨by rw [hp, netE, if_neg (by decide), if_pos rfl, ht], by rw [netL, if_neg (by decide), if_pos rfl, twiceL, ht, playL, hp]; simp [letD], by simp [netX, netY, playX], ?_⟩
        rw [netL, if_neg (by decide), if_pos rfl, twiceL]
        split
        · rw [List.any_append, h]; simpa [letD] using hb
        · exact h
    · by_cases hn : n < 0 ∨ (L.length : Int) ≤ n
      · have ha : atE L n = 7 := by rw [atE, if_pos hn]
        have hp : playE kk n L l = 7 := by rw [playE, if_neg h1, if_pos hn]
        refine ⟨by rw [hp, netE, if_neg h1, if_neg h4, ha], by rw [netL, if_neg h1, if_neg h4, takeR, ha, playL, hp]; simp, ?_, ?_⟩
        · by_cases h3 : kk = 3
          · simp [netX, netY, h3]
          · rw [netX, if_neg h3, netY, if_neg (by simp [h1, h3, h4]), playX, hp, if_neg (by simp), takeX, ha]; simp
        · rw [netL, if_neg h1, if_neg h4, takeR, ha]; simpa using h
      · have ha : atE L n = 0 := by rw [atE, if_neg hn]
        have hp : playE kk n L l = 0 := by rw [playE, if_neg h1, if_neg hn, if_neg h4]
        refine ⟨by rw [hp, netE, if_neg h1, if_neg h4, ha], by rw [netL, if_neg h1, if_neg h4, takeR, ha, playL, hp, if_pos rfl, if_neg h1, if_neg h4]; simp, ?_, ?_⟩
        · by_cases h3 : kk = 3
          · simp [netX, netY, h3]
          · rw [netX, if_neg h3, netY, if_neg (by simp [h1, h3, h4]), playX, hp, if_pos ⟨rfl, h1, h4⟩, takeX, ha]; simp [letD]
        · rw [netL, if_neg h1, if_neg h4, takeR, ha, if_neg (by decide)]
          rw [List.any_eq_false] at h ⊢
          intro x hx
          rcases List.mem_append.1 hx with hx | hx
          · exact h x (List.mem_of_mem_take hx)
          · exact h x (List.mem_of_mem_drop hx)

end Ks
