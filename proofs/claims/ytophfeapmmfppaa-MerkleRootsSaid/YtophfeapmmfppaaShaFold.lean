/- A text's blocks, one by one: plain laws of the digest. No program is in sight. -/
import Derived.Test.YtophfeapmmfppaaShaPlain
namespace Ks
open Go Go.RowKit
set_option linter.unusedVariables false
theorem foldN_ge (s : St) (l : List UInt8) (h : 64 ≤ l.length) : foldN s l = foldN (turnN s (l.take 64)) (l.drop 64) := by
  rw [foldN]; simp [h]
theorem foldN_lt (s : St) (l : List UInt8) (h : l.length < 64) : foldN s l = s := by
  rw [foldN]; simp [show ¬ 64 ≤ l.length by omega]
/-- what is left behind whole blocks -/
def restL (l : List UInt8) : List UInt8 := l.drop (64 * (l.length / 64))
theorem restL_length (l : List UInt8) : (restL l).length = l.length % 64 := by simp only [restL, List.length_drop]; omega
theorem restL_lt (l : List UInt8) (h : l.length < 64) : restL l = l := by rw [restL, Nat.div_eq_of_lt h]; simp
theorem restL_ge (l : List UInt8) (h : 64 ≤ l.length) : restL l = restL (l.drop 64) := by
  rw [restL, restL, List.drop_drop, List.length_drop]; congr 1; omega
theorem foldN_append (B : List UInt8) : ∀ (n : Nat) (s : St) (A : List UInt8), A.length = n → foldN s (A ++ B) = foldN (foldN s A) (restL A ++ B) := by
  intro n
  induction n using Nat.strongRecOn with
  | _ n ih =>
    intro s A hA
    by_cases h : 64 ≤ A.length
    · rw [foldN_ge s A h, restL_ge A h, foldN_ge s (A ++ B) (by simp; omega), List.take_append_of_le_length h, List.drop_append_of_le_length h]
      exact ih (n - 64) (by omega) _ _ (by simp; omega)
    · rw [foldN_lt s A (by omega), restL_lt A (by omega)]
theorem restL_append (B : List UInt8) : ∀ (n : Nat) (A : List UInt8), A.length = n → restL (A ++ B) = restL (restL A ++ B) := by
  intro n
  induction n using Nat.strongRecOn with
  | _ n ih =>
    intro A hA
    by_cases h : 64 ≤ A.length
    · rw [restL_ge A h, restL_ge (A ++ B) (by simp; omega), List.drop_append_of_le_length h]
      exact ih (n - 64) (by omega) _ (by simp; omega)
    · rw [restL_lt A (by omega)]
theorem foldN_ok : ∀ (n : Nat) (s : St) (l : List UInt8), l.length = n → s.ok → (foldN s l).ok := by
  intro n
  induction n using Nat.strongRecOn with
  | _ n ih =>
    intro s l hl hs
    by_cases h : 64 ≤ l.length
    · rw [foldN_ge s l h]; exact ih (n - 64) (by omega) _ _ (by simp; omega) (turnN_ok _ _)
    · rw [foldN_lt s l (by omega)]; exact hs
theorem fold0_ok (l : List UInt8) : (foldN st0 l).ok := foldN_ok _ _ _ rfl st0_ok
theorem padL_length (n : Nat) : (padL n).length = 72 - (n + 8) % 64 := by simp [padL, putL_length]; omega
theorem padded (l : List UInt8) : (l ++ padL l.length).length % 64 = 0 := by rw [List.length_append, padL_length]; omega
theorem textL_length (s : St) : (textL s).length = 32 := by simp [textL, putL_length]
theorem shaL_length (l : List UInt8) : (shaL l).length = 32 := textL_length _
end Ks
