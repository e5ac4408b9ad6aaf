/- The reference's trees of hashes: how long a path is, where a path leads. -/
import Derived.Test.YtophfeapmmfppaaMerkleRef
namespace Go.Proofs.Ytophfeapmmfppaa
open Go.RowKit Ks
set_option linter.unusedVariables false
theorem rlong_any : ∀ (n i : Nat) (w : World), i < n → n ≤ 100000000 → Calls Try.prog 21 #[.int .i64 (n : Nat), .int .i64 (i : Nat)] w fun e w' => e = .returned (.int .i64 ((sidesH n i).length : Nat)) ∧ w' = w := by
  intro n
  induction n using Nat.strongRecOn with
  | ind n ih =>
  intro i w hi hn
  refine calls_by fun R HR => ?_
  by_cases h2 : 2 ≤ n
  · have hh := half_lt n h2
    have HH := Lib.hid (rhalf_any n w h2 (by omega))
    have hn2 : ¬ (n : Int) < 2 := by omega
    have hlen : ∀ n i, (sidesH n i).length ≤ n := by
      intro n
      induction n using Nat.strongRecOn with
      | ind n ih =>
        intro i
        by_cases h : 2 ≤ n
        · have := half_lt n h
          rw [sides_two n i h]
          split
          · have := ih (halfN n) (by omega) i; simp; omega
          · have := ih (n - halfN n) (by omega) (i - halfN n); simp; omega
        · rw [sides_low n i h]; simp
    by_cases hk : i < halfN n
    · have HL := Lib.hid (ih (halfN n) (by omega) i w hk (by omega))
      have HS := Lib.hid (show (sidesH n i).length = (sidesH (halfN n) i).length + 1 by rw [sides_two n i h2, if_pos hk]; simp)
      have hb := hlen (halfN n) i
      have hki : (i : Int) < ((halfN n : Nat) : Int) := by omega
      generalize (sidesH (halfN n) i).length = q at *
      generalize halfN n = k at *
      have hq : (q : Int) ≤ 100000000 := by omega
      clear ih hlen hi hn hh hk hb h2
      go_enter Try.func21, Try.ntmps21
      go_wp2_with fail
      refine HH.out.mono ?_
      rintro e w1 ⟨rfl, hw⟩
      subst hw
      go_wp2_with fail
      refine HL.out.mono ?_
      rintro e w2 ⟨rfl, hw⟩
      subst hw
      go_wp2
      exact HR.out _ _ ⟨by rw [HS.out]; rfl, rfl⟩
    · have HL := Lib.hid (ih (n - halfN n) (by omega) (i - halfN n) w (by omega) (by omega))
      have HS := Lib.hid (show (sidesH n i).length = (sidesH (n - halfN n) (i - halfN n)).length + 1 by rw [sides_two n i h2, if_neg hk]; simp)
      have hb := hlen (n - halfN n) (i - halfN n)
      have hki : ¬ (i : Int) < ((halfN n : Nat) : Int) := by omega
      have e1 : (n : Int) - ((halfN n : Nat) : Int) = ((n - halfN n : Nat) : Int) := by omega
      have e2 : (i : Int) - ((halfN n : Nat) : Int) = ((i - halfN n : Nat) : Int) := by omega
      generalize (sidesH (n - halfN n) (i - halfN n)).length = q at *
      generalize n - halfN n = n2 at *
      generalize i - halfN n = i2 at *
      generalize halfN n = k at *
      have hq : (q : Int) ≤ 100000000 := by omega
      have w1 : wrap64 ((n2 : Nat) : Int) = ((n2 : Nat) : Int) := by rw [wrap64]; omega
      have w2 : wrap64 ((i2 : Nat) : Int) = ((i2 : Nat) : Int) := by rw [wrap64]; omega
      clear ih hlen hi hn hh hk hb h2
      go_enter Try.func21, Try.ntmps21
      go_wp2_with fail
      refine HH.out.mono ?_
      rintro e w1 ⟨rfl, hw⟩
      subst hw
      go_wp2_with fail
      refine HL.out.mono ?_
      rintro e w2 ⟨rfl, hw⟩
      subst hw
      go_wp2
      exact HR.out _ _ ⟨by rw [HS.out]; rfl, rfl⟩
  · have HS := Lib.hid (show (sidesH n i).length = 0 by rw [sides_low n i h2]; rfl)
    have hn2 : (n : Int) < 2 := by omega
    clear ih hi hn h2
    go_enter Try.func21, Try.ntmps21
    go_wp2
    exact HR.out _ _ ⟨by rw [HS.out]; rfl, rfl⟩
end Go.Proofs.Ytophfeapmmfppaa
