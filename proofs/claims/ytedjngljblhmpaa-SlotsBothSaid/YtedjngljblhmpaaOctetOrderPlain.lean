/- Of two numbers of one width the less one has the lesser bytes: plain. -/
import Derived.Test.YtedjngljblhmpaaOctetPlain
namespace Ks
open Go

theorem putL_mod (k n : Nat) : putL k (n % 256 ^ k) = putL k n := by
  apply List.ext_getElem?
  intro i
  by_cases h : i < k
  · rw [putL_get _ _ _ h, putL_get _ _ _ h]
    congr 1
    apply UInt8.toNat.inj
    simp only [UInt8.toNat_ofNat']
    have e : (256 : Nat) ^ k = 256 ^ (k - 1 - i) * (256 * 256 ^ i) := by
      rw [← Nat.pow_succ', ← Nat.pow_add]; congr 1; omega
    rw [e, Nat.mod_mul_right_div_self, Nat.mod_mul_right_mod]
  · rw [List.getElem?_eq_none (by simp; omega), List.getElem?_eq_none (by simp; omega)]

theorem putL_less (k : Nat) : ∀ a b : Nat, a < 256 ^ k → b < 256 ^ k → Op.bytesLess (putL k a) (putL k b) = decide (a < b) := by
  induction k with
  | zero =>
    intro a b ha hb
    simp at ha hb
    subst ha hb
    rfl
  | succ k ih =>
    intro a b ha hb
    rw [putL_succ', putL_succ', ← putL_mod k a, ← putL_mod k b]
    have hp : 0 < 256 ^ k := Nat.pow_pos (by omega)
    have ha1 : a / 256 ^ k < 256 := Nat.div_lt_of_lt_mul (by rw [Nat.pow_succ] at ha; omega)
    have hb1 : b / 256 ^ k < 256 := Nat.div_lt_of_lt_mul (by rw [Nat.pow_succ] at hb; omega)
    have hA := Nat.div_add_mod a (256 ^ k)
    have hB := Nat.div_add_mod b (256 ^ k)
    have hra := Nat.mod_lt a hp
    have hrb := Nat.mod_lt b hp
    have hi := ih _ _ hra hrb
    generalize a / 256 ^ k = qa at *
    generalize b / 256 ^ k = qb at *
    generalize a % 256 ^ k = ra at *
    generalize b % 256 ^ k = rb at *
    generalize 256 ^ k = m at *
    show (decide (UInt8.ofNat qa < UInt8.ofNat qb) || (UInt8.ofNat qa == UInt8.ofNat qb && Op.bytesLess (putL k ra) (putL k rb))) = decide (a < b)
    rw [hi]
    have h1 : (UInt8.ofNat qa < UInt8.ofNat qb) ↔ qa < qb := by rw [UInt8.lt_iff_toNat_lt]; simp; omega
    have h2 : (UInt8.ofNat qa = UInt8.ofNat qb) ↔ qa = qb := by rw [← UInt8.toNat_inj]; simp; omega
    subst hA hB
    rcases Nat.lt_trichotomy qa qb with h | h | h
    · have h3 : m * (qa + 1) ≤ m * qb := Nat.mul_le_mul_left _ h
      rw [Nat.mul_add] at h3
      have h4 : m * qa + ra < m * qb + rb := by omega
      simp [h1.2 h, h4]
    · subst h
      have : ¬ (UInt8.ofNat qa < UInt8.ofNat qa) := by rw [h1]; omega
      simp [this]
    · have h3 : m * (qb + 1) ≤ m * qa := Nat.mul_le_mul_left _ h
      rw [Nat.mul_add] at h3
      have h4 : ¬ (m * qa + ra < m * qb + rb) := by omega
      have h5 : ¬ (UInt8.ofNat qa < UInt8.ofNat qb) := by rw [h1]; omega
      have h6 : ¬ (UInt8.ofNat qa = UInt8.ofNat qb) := by rw [h2]; omega
      simp only [h4, h5, decide_false, Bool.false_or, Bool.and_eq_false_iff]
      left
      simpa using h6

theorem putL_inj (k a b : Nat) (ha : a < 256 ^ k) (hb : b < 256 ^ k) (h : putL k a = putL k b) : a = b := by
  have h1 := putL_less k a b ha hb
  have h2 := putL_less k b a hb ha
  have irr : ∀ l : List UInt8, Op.bytesLess l l = false := by
    intro l
    induction l with
    | nil => rfl
    | cons x l ih => show (decide (x < x) || (x == x && Op.bytesLess l l)) = false; rw [ih]; simp
  rw [h, irr] at h1
  rw [h, irr] at h2
  have := of_decide_eq_false h1.symm
  have := of_decide_eq_false h2.symm
  omega

theorem putOk_lt {n w : Int} (h : putOk n w = true) (hn : n ≤ 9223372036854775807) : n.toNat < 256 ^ w.toNat := by
  simp only [putOk, decide_eq_true_eq] at h
  obtain ⟨h1, h2, h3, h4⟩ := h
  rw [show (256 : Nat) ^ w.toNat = 2 ^ (8 * w.toNat) by rw [Nat.pow_mul]]
  by_cases hw : w < 8
  · have := h4 hw
    have hp : 0 < 2 ^ (8 * w.toNat) := Nat.two_pow_pos _
    rcases Nat.lt_or_ge n.toNat (2 ^ (8 * w.toNat)) with h' | h'
    · exact h'
    · have := Nat.div_pos h' hp
      omega
  · have : w = 8 := by omega
    subst this
    have e : (2 : Nat) ^ (8 * (8 : Int).toNat) = 18446744073709551616 := by decide
    rw [e]; omega

end Ks
