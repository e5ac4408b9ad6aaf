/- The law SuperLater: what its walk gives. -/
import Derived.Test.YtgaoammkegcdcaaHLaw10c
import Derived.Test.YtgaoammkegcdcaaM6
import Derived.Test.YtgaoammkegcdcaaM4
namespace Go.Proofs.Ytgaoammkegcdcaa
open Go.RowKit Ks
set_option linter.unusedVariables false
theorem ch_first {a b : ByteArray} (ha : stOk a = true) (h : stOk b = false ∨ ¬ stN a 9 8 < stN b 9 8) : chV a b = stV a ∧ chI a b = 0 ∧ chE a b = 0 := by
  have hw : chW a b = false := by
    unfold chW
    rw [ha]
    rcases h with h | h
    · rw [h]; rfl
    · rw [decide_eq_false h]; simp
  exact ⟨by rw [chV, hw]; rfl, by rw [chI, hw]; rfl, by rw [chE, ha]; rfl⟩
theorem ch_second {a b : ByteArray} (hb : stOk b = true) (h : stOk a = false ∨ stN a 9 8 < stN b 9 8) : chV a b = stV b ∧ chI a b = 1 ∧ chE a b = 0 := by
  have hw : chW a b = true := by
    unfold chW
    rw [hb]
    rcases h with h | h
    · rw [h]; rfl
    · rw [decide_eq_true h]; simp
  exact ⟨by rw [chV, hw, if_pos rfl], by rw [chI, hw]; rfl, by rw [chE, hb, Bool.or_true]; rfl⟩
theorem nx_ok {g t e c b l f : Int} (h : supOk g t e c b l f = true) (hg : ¬ g = 1152921504606846976) : supOk (g + 1) t e c b l f = true := by
  obtain ⟨h0, h1, h2, h3⟩ := sup_ok.1 h
  exact sup_ok.2 ⟨h0, by omega, by omega, h3⟩
theorem sup_one (g t e c b l f : Int) : (#[.int .i64 g, .int .i64 t, .int .i64 e, .int .i64 c, .int .i64 b, .int .i64 l, .int .i64 f] : Array Value).all (fun v => v.oneCell') = true := by simp [Value.oneCell']
theorem st_parts (g t e c b l f : Int) (h : supOk g t e c b l f = true) : stOk (supS g t e c b l f) = true ∧ stN (supS g t e c b l f) 9 8 = g ∧ stV (supS g t e c b l f) = supV g t e c b l f ∧ stE (supS g t e c b l f) = 0 := by
  obtain ⟨h1, n0, n1⟩ := st_sup g t e c b l f h
  exact ⟨h1, n0, put_back g t e c b l f h⟩
end Go.Proofs.Ytgaoammkegcdcaa
