/- A cell's bytes, as they are put together: plain. -/
import Derived.Test.YtedjngljblhmpaaCellPlain
import Derived.Test.YtedjngljblhmpaaTextPlain
namespace Ks
open Go
set_option linter.unusedVariables false

theorem putOk4 (n : Int) (h0 : 0 ≤ n) (h : n ≤ 4294967295) : putOk n 4 = true := by
  simp only [putOk, decide_eq_true_eq]
  refine ⟨by omega, by omega, h0, fun _ => ?_⟩
  have : (2 : Nat) ^ (8 * (4 : Int).toNat) = 4294967296 := by decide
  rw [this]
  exact Nat.div_eq_of_lt (by omega)

theorem cell_head (k e s l : Int) (hk : 0 ≤ k ∧ k ≤ 255) (he : 0 ≤ e ∧ e ≤ 4294967295) (hs : 0 ≤ s ∧ s ≤ 4294967295) (hl : 0 ≤ l ∧ l ≤ 4095) :
    packS [1, 4, 4, 4] [k, e, s, l] = ⟨(UInt8.ofNat k.toNat :: (putL 4 e.toNat ++ putL 4 s.toNat ++ putL 4 l.toNat)).toArray⟩ ∧ packE [1, 4, 4, 4] [k, e, s, l] = 0 := by
  have h1 : putOk k 1 = true := by
    simp only [putOk, decide_eq_true_eq]
    refine ⟨by omega, by omega, by omega, fun _ => ?_⟩
    have : (2 : Nat) ^ (8 * (1 : Int).toNat) = 256 := by decide
    rw [this]
    exact Nat.div_eq_of_lt (by omega)
  have hp : packOk [1, 4, 4, 4] [k, e, s, l] = true := by
    simp only [packOk, decide_eq_true_eq]
    refine ⟨rfl, fun i hi => ?_⟩
    match i, hi with
    | 0, _ => exact h1
    | 1, _ => exact putOk4 e he.1 he.2
    | 2, _ => exact putOk4 s hs.1 hs.2
    | 3, _ => exact putOk4 l hl.1 (by omega)
    | n + 4, hi => exact absurd hi (by simp)
  rw [packS, packE, if_pos hp, if_pos hp]
  refine ⟨?_, rfl⟩
  simp [packTo, putL]

/-- a cell's bytes, as they are put together -/
theorem cellS_eq (e s l : Int) (g : Bool) (t : ByteArray) (k : Int) (hk : k = if g then 2 else 1) (hok : cellOk e s l g t = true) :
    packE [1, 4, 4, 4] [k, e, s, l] = 0 ∧ (packS [1, 4, 4, 4] [k, e, s, l]).size = 13 ∧ (packS [1, 4, 4, 4] [k, e, s, l] ++ textS t).size = 17 + t.size ∧
      fillS (packS [1, 4, 4, 4] [k, e, s, l] ++ textS t) 4096 = cellS e s l g t ∧ fillE (packS [1, 4, 4, 4] [k, e, s, l] ++ textS t) 4096 = 0 := by
  have hc := hok
  simp only [cellOk, decide_eq_true_eq] at hc
  have hk2 : 0 ≤ k ∧ k ≤ 255 := by subst hk; cases g <;> simp
  obtain ⟨h1, h2⟩ := cell_head k e s l hk2 ⟨hc.1, hc.2.1⟩ ⟨hc.2.2.1, hc.2.2.2.1⟩ ⟨hc.2.2.2.2.1, hc.2.2.2.2.2.1⟩
  have hkb : UInt8.ofNat k.toNat = if g then 2 else 1 := by subst hk; cases g <;> rfl
  have e1 : packS [1, 4, 4, 4] [k, e, s, l] ++ textS t = ⟨(cellH e s l g t).toArray⟩ := by
    rw [h1, textS, ByteArray.mk_append_mk, cellH, hkb]
    simp
  have hz : (packS [1, 4, 4, 4] [k, e, s, l] ++ textS t).size = 17 + t.size := by
    rw [e1]; exact cellH_length e s l g t
  have hf : fillOk (packS [1, 4, 4, 4] [k, e, s, l] ++ textS t) 4096 = true := by
    simp only [fillOk, decide_eq_true_eq]; rw [hz]; omega
  refine ⟨h2, ?_, hz, ?_, by rw [fillE, if_pos hf]⟩
  · rw [h1]
    show (UInt8.ofNat k.toNat :: (putL 4 e.toNat ++ putL 4 s.toNat ++ putL 4 l.toNat)).length = 13
    simp
  · rw [fillS, if_pos hf, hz, e1, cellS, if_pos hok, cellB, zerosS, ByteArray.mk_append_mk, cellH_length]
    congr 4
    omega

theorem putS4 (n : Int) (h0 : 0 ≤ n) (h : n ≤ 4294967295) : putS n 4 = ⟨(putL 4 n.toNat).toArray⟩ := by
  rw [putS, if_pos (putOk4 n h0 h)]; rfl
theorem cellR_size (e s l : Int) (t : ByteArray) (r1 : 0 ≤ e) (r2 : e ≤ 4294967295) (r3 : 0 ≤ s) (r4 : s ≤ 4294967295) (r5 : 0 ≤ l) (r6 : l ≤ 4095) :
    (putS e 4).size = 4 ∧ (putS s 4).size = 4 ∧ (putS l 4).size = 4 := by
  rw [putS4 e r1 r2, putS4 s r3 r4, putS4 l r5 (by omega)]
  exact ⟨putL_length 4 _, putL_length 4 _, putL_length 4 _⟩
theorem cellR_eq (e s l : Int) (g : Bool) (t : ByteArray) (k : UInt8) (hk : k = if g then 2 else 1) (hok : cellOk e s l g t = true) :
    ByteArray.mk #[k] ++ putS e 4 ++ putS s 4 ++ putS l 4 ++ textS t ++ zerosS (4096 - (17 + t.size : Nat)) = cellS e s l g t := by
  have hc := hok
  simp only [cellOk, decide_eq_true_eq] at hc
  rw [putS4 e hc.1 hc.2.1, putS4 s hc.2.2.1 hc.2.2.2.1, putS4 l hc.2.2.2.2.1 (by omega), cellS, if_pos hok, cellB, cellH_length, textS, zerosS]
  rw [show (ByteArray.mk #[k]) = ⟨([k] : List UInt8).toArray⟩ from rfl]
  rw [ByteArray.mk_append_mk, ByteArray.mk_append_mk, ByteArray.mk_append_mk, ByteArray.mk_append_mk, ByteArray.mk_append_mk, cellH, ← hk]
  rw [show ((4096 : Int) - ((17 + t.size : Nat) : Int)).toNat = 4096 - (17 + t.size) by omega]
  simp

/-- a held text's bytes -/
def holdOk (t : ByteArray) : Bool := decide (1 ≤ t.size ∧ t.size ≤ 4000)
def holdB (t : ByteArray) : List UInt8 := 3 :: (putL 4 t.size ++ t.data.toList) ++ List.replicate (4096 - (5 + t.size)) 0
def holdS (t : ByteArray) : ByteArray := if holdOk t then ⟨(holdB t).toArray⟩ else ⟨#[]⟩
def holdE (t : ByteArray) : Int := if holdOk t then 0 else 2
theorem holdS_eq (t : ByteArray) (hok : holdOk t = true) : (ByteArray.mk #[3] ++ textS t).size = 5 + t.size ∧ ByteArray.mk #[3] ++ textS t ++ zerosS (4096 - (5 + t.size : Nat)) = holdS t ∧
    fillS (ByteArray.mk #[3] ++ textS t) 4096 = holdS t ∧ fillE (ByteArray.mk #[3] ++ textS t) 4096 = 0 := by
  have hc := hok
  simp only [holdOk, decide_eq_true_eq] at hc
  have hz : (ByteArray.mk #[3] ++ textS t).size = 5 + t.size := by
    rw [ByteArray.size_append', textS_size]
    show 1 + _ = _
    omega
  have hf : fillOk (ByteArray.mk #[3] ++ textS t) 4096 = true := by
    simp only [fillOk, decide_eq_true_eq]; rw [hz]; omega
  have h2 : ByteArray.mk #[3] ++ textS t ++ zerosS (4096 - (5 + t.size : Nat)) = holdS t := by
    rw [holdS, if_pos hok, holdB, textS, zerosS, show (ByteArray.mk #[3]) = ⟨([3] : List UInt8).toArray⟩ from rfl, ByteArray.mk_append_mk, ByteArray.mk_append_mk]
    rw [show ((4096 : Int) - ((5 + t.size : Nat) : Int)).toNat = 4096 - (5 + t.size) by omega]
    rfl
  refine ⟨hz, h2, ?_, by rw [fillE, if_pos hf]⟩
  rw [fillS, if_pos hf, hz]
  exact h2

end Ks
