/- Plain facts about bytes and numbers; no program is in sight. -/
import Derived.Test.YtophfeapmmfppaaBase
import Derived.Lib.AppendStr
import Derived.Lib.UnsafeStr
namespace Ks
open Go

/-- a number's bytes, so many, the highest first -/
def putL : Nat → Nat → List UInt8
  | 0, _ => []
  | k + 1, n => putL k (n / 256) ++ [UInt8.ofNat n]

@[simp] theorem putL_length (k n : Nat) : (putL k n).length = k := by
  induction k generalizing n with
  | zero => rfl
  | succ k ih => simp [putL, ih]

theorem putL_get (k n i : Nat) (h : i < k) : (putL k n)[i]? = some (UInt8.ofNat (n / 256 ^ (k - 1 - i))) := by
  induction k generalizing n i with
  | zero => omega
  | succ k ih =>
    simp only [putL]
    by_cases hi : i < k
    · rw [List.getElem?_append_left (by simpa using hi), ih _ _ hi, Nat.div_div_eq_div_mul, show k + 1 - 1 - i = (k - 1 - i) + 1 by omega, Nat.pow_succ']
    · have : i = k := by omega
      subst this
      rw [List.getElem?_append_right (by simp)]
      simp

theorem ofNat_mod (n : Nat) : UInt8.ofNat (n % 256) = UInt8.ofNat n := by
  apply UInt8.toNat.inj; simp

/-- one byte more ahead -/
theorem putL_succ' (k n : Nat) : putL (k + 1) n = UInt8.ofNat (n / 256 ^ k) :: putL k n := by
  apply List.ext_getElem?
  intro i
  match i with
  | 0 => rw [putL_get _ _ _ (by omega)]; simp
  | i + 1 =>
    simp only [List.getElem?_cons_succ]
    by_cases h : i < k
    · rw [putL_get _ _ _ (by omega), putL_get _ _ _ h, show k + 1 - 1 - (i + 1) = k - 1 - i by omega]
    · rw [List.getElem?_eq_none (by simp; omega), List.getElem?_eq_none (by simp; omega)]

/-- the cells that hold a number's bytes when k of them are laid, from the last one on -/
def putCell (n width k : Nat) (j : Nat) : Value :=
  if width - 1 - j < k then Value.int .u8 (((n / 2 ^ (8 * (width - 1 - j)) : Nat) : Int) % 256) else Value.int .u8 0

theorem putCell_done (n width j : Nat) (h : j < (putL width n).length) : putCell n width width j = .int .u8 (((putL width n)[j]).toNat : Int) := by
  have h' : j < width := by simpa using h
  have := putL_get width n j h'
  rw [List.getElem?_eq_getElem h] at this
  injection this with this
  rw [this, putCell, if_pos (by omega)]
  rw [show (256 : Nat) ^ (width - 1 - j) = 2 ^ (8 * (width - 1 - j)) by rw [Nat.pow_mul]]
  simp

theorem putCell_succ (n width k j : Nat) (hk : k < width) (hj : j < width) :
    (if j = width - 1 - k then Value.int .u8 ((n : Int) / 2 ^ (8 * k) % 256) else putCell n width k j) = putCell n width (k + 1) j := by
  unfold putCell
  by_cases h : j = width - 1 - k
  · subst h
    rw [if_pos rfl, if_pos (by omega), show width - 1 - (width - 1 - k) = k by omega]
    simp
  · rw [if_neg h]
    by_cases h2 : width - 1 - j < k
    · rw [if_pos h2, if_pos (by omega)]
    · rw [if_neg h2, if_neg (by omega)]

/-- may a number stand in so many bytes? -/
def putOk (n width : Int) : Bool := decide (1 ≤ width ∧ width ≤ 8 ∧ 0 ≤ n ∧ (width < 8 → n.toNat / 2 ^ (8 * width.toNat) = 0))
def putS (n width : Int) : ByteArray := if putOk n width then ⟨(putL width.toNat n.toNat).toArray⟩ else ⟨#[]⟩
def putE (n width : Int) : Int := if putOk n width then 0 else 2

/-- the number of bytes -/
def getN (l : List UInt8) : Nat := l.foldl (fun n b => n * 256 + b.toNat) 0

theorem getN_snoc (l : List UInt8) (b : UInt8) : getN (l ++ [b]) = getN l * 256 + b.toNat := by simp [getN]

theorem getN_foldl (l : List UInt8) (a : Nat) : l.foldl (fun n b => n * 256 + b.toNat) a = a * 256 ^ l.length + getN l := by
  induction l generalizing a with
  | nil => simp [getN]
  | cons b l ih =>
    simp only [List.foldl_cons, getN, List.length_cons]
    rw [ih, ih (0 * 256 + b.toNat), Nat.pow_succ', Nat.add_mul, Nat.add_mul]
    simp [Nat.mul_assoc, Nat.add_assoc]

theorem getN_cons (b : UInt8) (l : List UInt8) : getN (b :: l) = b.toNat * 256 ^ l.length + getN l := by
  have := getN_foldl l (0 * 256 + b.toNat)
  simpa [getN] using this

theorem getN_append (a b : List UInt8) : getN (a ++ b) = getN a * 256 ^ b.length + getN b := by
  rw [getN, List.foldl_append]; exact getN_foldl b _

theorem getN_lt (l : List UInt8) : getN l < 256 ^ l.length := by
  induction l with
  | nil => simp [getN]
  | cons b l ih =>
    rw [getN_cons, List.length_cons, Nat.pow_succ]
    have := b.toNat_lt
    have h2 : b.toNat * 256 ^ l.length ≤ 255 * 256 ^ l.length := Nat.mul_le_mul_right _ (by omega)
    omega

theorem getN_take_le (l : List UInt8) (k : Nat) : getN (l.take k) ≤ getN l := by
  have := getN_append (l.take k) (l.drop k)
  rw [List.take_append_drop] at this
  rw [this]
  have : 1 ≤ 256 ^ (l.drop k).length := Nat.one_le_pow _ _ (by omega)
  have := Nat.mul_le_mul_left (getN (l.take k)) this
  omega

theorem take_snoc (s : ByteArray) (k : Nat) (h : k < s.size) : s.data.toList.take (k + 1) = s.data.toList.take k ++ [s[k]] := by
  rw [List.take_succ_eq_append_getElem (by simpa using h)]; rfl

/-- is there a number of these bytes? -/
def getOk (l : List UInt8) : Bool := decide (1 ≤ l.length ∧ l.length ≤ 8 ∧ getN l ≤ 9223372036854775807)
def getV (s : ByteArray) : Int := if getOk s.data.toList then getN s.data.toList else 0
def getE (s : ByteArray) : Int := if getOk s.data.toList then 0 else 3

theorem getN_head (s : ByteArray) (h : s.size = 8) : getN s.data.toList ≤ 9223372036854775807 ↔ ¬ 127 < (s[0]'(by omega)).toNat := by
  obtain ⟨⟨l⟩⟩ := s
  have hl : l.length = 8 := h
  show getN l ≤ _ ↔ ¬ 127 < (l[0]'(by omega)).toNat
  match l, hl with
  | b :: l, hl =>
    simp only [List.getElem_cons_zero]
    rw [getN_cons]
    have := getN_lt l
    have hl7 : l.length = 7 := by simpa using hl
    rw [hl7] at this ⊢
    have h7 : (256 : Nat) ^ 7 = 72057594037927936 := by decide
    rw [h7] at this ⊢
    omega

theorem or8 (m b : Nat) (hm : m * 256 + b ≤ 9223372036854775807) (hb : b < 256) : bits .or .i64 ((m : Int) * 256) (b : Int) = (m : Int) * 256 + b :=
  bits_join .i64 63 (by decide) (fun n h0 h1 => by rw [IntKind.wrap_i64]; omega) 8 _ _ (by omega) (by omega) (by omega) (by omega) (by omega) (by omega)

/-- numbers' bytes, one behind the other: of the first k -/
def packTo (ws l : List Int) : Nat → List UInt8
  | 0 => []
  | k + 1 => packTo ws l k ++ putL (ws.getD k 0).toNat (l.getD k 0).toNat
def packOk (ws l : List Int) : Bool := decide (ws.length = l.length ∧ ∀ i, i < l.length → putOk (l.getD i 0) (ws.getD i 0) = true)
def packS (ws l : List Int) : ByteArray := if packOk ws l then ⟨(packTo ws l l.length).toArray⟩ else ⟨#[]⟩
def packE (ws l : List Int) : Int := if packOk ws l then 0 else 2

theorem putOk_width {n w : Int} (h : putOk n w = true) : 1 ≤ w ∧ w ≤ 8 ∧ 0 ≤ n := by
  simp only [putOk, decide_eq_true_eq] at h; omega

theorem packTo_length (ws l : List Int) (k : Nat) (h : ∀ i, i < k → putOk (l.getD i 0) (ws.getD i 0) = true) : (packTo ws l k).length ≤ 8 * k := by
  induction k with
  | zero => simp [packTo]
  | succ k ih =>
    have := putOk_width (h k (by omega))
    have := ih (fun i hi => h i (by omega))
    simp only [packTo, List.length_append, putL_length]
    omega

theorem strCells_mk (l : List UInt8) : Lib.strCells ⟨l.toArray⟩ = Lib.byteCells l := rfl
theorem byteCells_append (a b : List UInt8) : Lib.byteCells (a ++ b) = Lib.byteCells a ++ Lib.byteCells b := by simp [Lib.byteCells]
theorem byteCells_length (a : List UInt8) : (Lib.byteCells a).length = a.length := by simp [Lib.byteCells]

theorem get_cases (s : ByteArray) : (getOk s.data.toList = true ∧ 0 < s.size ∧ (s.size < 8 ∨ ∃ h : s.size = 8, ¬ 127 < (s[0]'(by omega)).toNat) ∧ getN s.data.toList ≤ 9223372036854775807) ∨
    (getOk s.data.toList = false ∧ (s.size = 0 ∨ 8 < s.size ∨ ∃ h : s.size = 8, 127 < (s[0]'(by omega)).toNat)) := by
  have hl := data_length s
  by_cases h : getOk s.data.toList = true
  · refine .inl ⟨h, ?_⟩
    simp only [getOk, decide_eq_true_eq, hl] at h
    refine ⟨by omega, ?_, h.2.2⟩
    by_cases h8 : s.size = 8
    · exact .inr ⟨h8, (getN_head s h8).1 h.2.2⟩
    · exact .inl (by omega)
  · refine .inr ⟨by simpa using h, ?_⟩
    simp only [getOk, decide_eq_true_eq, hl] at h
    by_cases h0 : s.size = 0
    · exact .inl h0
    by_cases h8 : 8 < s.size
    · exact .inr (.inl h8)
    have hn : ¬ getN s.data.toList ≤ 9223372036854775807 := fun hh => h ⟨by omega, by omega, hh⟩
    by_cases h9 : s.size = 8
    · refine .inr (.inr ⟨h9, ?_⟩)
      have := mt (getN_head s h9).2 hn
      omega
    · exfalso
      have h1 := getN_lt s.data.toList
      have h2 : 256 ^ s.data.toList.length ≤ 256 ^ 7 := Nat.pow_le_pow_right (by omega) (by omega)
      have h7 : (256 : Nat) ^ 7 = 72057594037927936 := by decide
      omega

end Ks
