/- The numbers of bytes: plain. -/
import Derived.Test.YtedjngljblhmpaaOctetPlain
namespace Ks
open Go

/-- how many bytes the first k widths take -/
def sumTo (ws : List Int) : Nat → Nat
  | 0 => 0
  | k + 1 => sumTo ws k + (ws.getD k 0).toNat
/-- the piece of width k -/
def piece (ws : List Int) (s : List UInt8) (k : Nat) : List UInt8 := (s.drop (sumTo ws k)).take (ws.getD k 0).toNat
def widthsOk (ws : List Int) : Bool := decide (∀ i, i < ws.length → 1 ≤ ws.getD i 0 ∧ ws.getD i 0 ≤ 8)
def piecesOk (ws : List Int) (s : List UInt8) : Bool := decide (∀ i, i < ws.length → getOk (piece ws s i) = true)
def unpackTo (ws : List Int) (s : List UInt8) (k : Nat) : List Int := (List.range k).map fun i => (getN (piece ws s i) : Int)
def unpackE (ws : List Int) (s : ByteArray) : Int :=
  if widthsOk ws then (if s.size = sumTo ws ws.length then (if piecesOk ws s.data.toList then 0 else 3) else 3) else 2
def unpackL (ws : List Int) (s : ByteArray) : List Int := if unpackE ws s = 0 then unpackTo ws s.data.toList ws.length else []

theorem sumTo_le (ws : List Int) (k : Nat) (h : ∀ i, i < k → 1 ≤ ws.getD i 0 ∧ ws.getD i 0 ≤ 8) : sumTo ws k ≤ 8 * k := by
  induction k with
  | zero => simp [sumTo]
  | succ k ih =>
    have h1 := h k (by omega)
    have := ih (fun i hi => h i (by omega))
    simp only [sumTo]
    omega
theorem sumTo_mono (ws : List Int) (k m : Nat) (h : k ≤ m) : sumTo ws k ≤ sumTo ws m := by
  induction m with
  | zero => have : k = 0 := by omega
            subst this; exact Nat.le_refl _
  | succ m ih =>
    by_cases hk : k = m + 1
    · subst hk; exact Nat.le_refl _
    · have := ih (by omega)
      simp only [sumTo]
      omega

theorem data_extract (s : ByteArray) (a b : Nat) : (s.extract a b).data.toList = (s.data.toList.drop a).take (b - a) := by
  obtain ⟨⟨l⟩⟩ := s
  rw [ByteArray.extract_mk]
theorem rest_piece (ws : List Int) (s : ByteArray) (k : Nat) (h : sumTo ws (k + 1) ≤ s.size) :
    ((s.extract (sumTo ws k) s.size).extract 0 (ws.getD k 0).toNat).data.toList = piece ws s.data.toList k := by
  have hl := data_length s
  simp only [sumTo] at h
  rw [data_extract, data_extract, List.drop_zero, List.take_take, piece]
  congr 1
  omega
theorem rest_next (ws : List Int) (s : ByteArray) (k : Nat) (h : sumTo ws (k + 1) ≤ s.size) :
    (s.extract (sumTo ws k) s.size).extract (ws.getD k 0).toNat (s.size - sumTo ws k) = s.extract (sumTo ws (k + 1)) s.size := by
  obtain ⟨⟨l⟩⟩ := s
  simp only [sumTo] at h ⊢
  have h' : sumTo ws k + (ws.getD k 0).toNat ≤ l.length := h
  show ((ByteArray.mk l.toArray).extract (sumTo ws k) l.length).extract _ (l.length - _) = (ByteArray.mk l.toArray).extract _ l.length
  rw [ByteArray.extract_mk, ByteArray.extract_mk, ByteArray.extract_mk, List.drop_take, List.take_take, List.drop_drop]
  congr 3
  omega
theorem unpackTo_succ (ws : List Int) (s : List UInt8) (k : Nat) : unpackTo ws s (k + 1) = unpackTo ws s k ++ [(getN (piece ws s k) : Int)] := by
  simp [unpackTo, List.range_succ]
theorem unpackTo_length (ws : List Int) (s : List UInt8) (k : Nat) : (unpackTo ws s k).length = k := by simp [unpackTo]

end Ks
