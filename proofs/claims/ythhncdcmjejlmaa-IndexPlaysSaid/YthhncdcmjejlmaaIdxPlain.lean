/- Versions, and how they stand: plain. No program is in sight. -/
import Derived.Test.YthhncdcmjejlmaaSeq
namespace Ks
open Go Go.RowKit
set_option linter.unusedVariables false

abbrev Ver := Int × Int × Int
def verC (x : Ver) : List Value := [.int .i64 x.1, .int .i64 x.2.1, .int .i64 x.2.2]
def verE : Enc Ver := ⟨3, verC, fun _ => rfl, fun x u hu => by simp only [verC, List.mem_cons, List.not_mem_nil, or_false] at hu; rcases hu with rfl | rfl | rfl <;> rfl, by decide⟩
abbrev verV (x : Ver) : Value := .agg #[.int .i64 x.1, .int .i64 x.2.1, .int .i64 x.2.2]
def noVer : Ver := (0, 0, 0)

def cmpI (x y : Int) : Int := if x < y then -1 else if y < x then 1 else 0
def orI (a b c : Int) : Int := if a = 0 then (if b = 0 then c else b) else a
def ordV (a b : Ver) : Int := orI (cmpI a.1 b.1) (cmpI a.2.1 b.2.1) (cmpI a.2.2 b.2.2)
def mayV (v : Ver) : Bool := decide (0 ≤ v.1 ∧ v.1 ≤ 4095 ∧ 0 ≤ v.2.1 ∧ v.2.1 ≤ 4294967295 ∧ 0 ≤ v.2.2 ∧ v.2.2 ≤ 4294967295)
def lastC (lba epoch : Int) (v : Ver) : Int := if v.1 < lba ∨ (v.1 = lba ∧ v.2.1 ≤ epoch) then -1 else 1

theorem cmpI_range (x y : Int) : -1 ≤ cmpI x y ∧ cmpI x y ≤ 1 := by unfold cmpI; split <;> (try split) <;> omega
theorem orI_zero (a b c : Int) : orI a b c = 0 ↔ a = 0 ∧ b = 0 ∧ c = 0 := by unfold orI; split <;> (try split) <;> omega
theorem ordV_zero (a b : Ver) : ordV a b = 0 ↔ a = b := by
  obtain ⟨a1, a2, a3⟩ := a
  obtain ⟨b1, b2, b3⟩ := b
  simp only [ordV, orI_zero, Prod.mk.injEq, cmpI]
  constructor
  · rintro ⟨h1, h2, h3⟩
    refine ⟨?_, ?_, ?_⟩
    · split at h1 <;> (try split at h1) <;> omega
    · split at h2 <;> (try split at h2) <;> omega
    · split at h3 <;> (try split at h3) <;> omega
  · rintro ⟨rfl, rfl, rfl⟩; simp
/-- one stands ahead of another -/
def ltV (a b : Ver) : Prop := a.1 < b.1 ∨ (a.1 = b.1 ∧ (a.2.1 < b.2.1 ∨ (a.2.1 = b.2.1 ∧ a.2.2 < b.2.2)))
theorem ordV_lt (a b : Ver) : ordV a b < 0 ↔ ltV a b := by
  obtain ⟨a1, a2, a3⟩ := a
  obtain ⟨b1, b2, b3⟩ := b
  simp only [ordV, orI, cmpI, ltV]
  by_cases h1 : a1 < b1 <;> by_cases h2 : b1 < a1 <;> by_cases h3 : a2 < b2 <;> by_cases h4 : b2 < a2 <;> by_cases h5 : a3 < b3 <;> by_cases h6 : b3 < a3 <;> simp [h1, h2, h3, h4, h5, h6] <;> omega
instance (a b : Ver) : Decidable (ltV a b) := by unfold ltV; infer_instance
theorem ltV_trans {a b c : Ver} (h : ltV a b) (h2 : ltV b c) : ltV a c := by unfold ltV at *; omega
theorem ltV_irrefl (a : Ver) : ¬ ltV a a := by unfold ltV; omega
theorem ltV_tri (a b : Ver) : ltV a b ∨ a = b ∨ ltV b a := by
  obtain ⟨a1, a2, a3⟩ := a
  obtain ⟨b1, b2, b3⟩ := b
  simp only [ltV, Prod.mk.injEq]
  omega

end Ks
