/- Which cell any bytes are: plain. -/
import Derived.Test.YtedjngljblhmpaaCellPlain2
namespace Ks
open Go
set_option linter.unusedVariables false

/-- the number of some bytes of a block -/
def numAt (b : ByteArray) (i n : Nat) : Nat := getN ((b.data.toList.drop i).take n)
def takeG (b : ByteArray) : Bool := numAt b 0 1 == 2
def takeT (b : ByteArray) : ByteArray := cutA (b.extract 13 b.size)
def takeOk (b : ByteArray) : Bool :=
  decide (b.size = 4096 ∧ cutOk (b.extract 13 b.size) = true ∧ cellOk (numAt b 1 4) (numAt b 5 4) (numAt b 9 4) (takeG b) (takeT b) = true ∧ cellS (numAt b 1 4) (numAt b 5 4) (numAt b 9 4) (takeG b) (takeT b) = b)
def takeE (b : ByteArray) : Int := if takeOk b then 0 else 3
def cellV (e s l : Int) (g : Bool) (t : ByteArray) : Value := .agg #[.int .i64 e, .int .i64 s, .int .i64 l, .bool g, .string t]
def noCell : Value := .agg #[.int .i64 0, .int .i64 0, .int .i64 0, .bool false, .string ⟨#[]⟩]
def takeV (b : ByteArray) : Value := if takeOk b then cellV (numAt b 1 4) (numAt b 5 4) (numAt b 9 4) (takeG b) (takeT b) else noCell

theorem str_neq {a b : ByteArray} (h : a ≠ b) : (a.toList == b.toList) = false := by
  rw [beq_eq_false_iff_ne]
  intro e
  rw [ByteArray.toList_eq, ByteArray.toList_eq] at e
  apply h
  obtain ⟨⟨x⟩⟩ := a
  obtain ⟨⟨y⟩⟩ := b
  have : x = y := e
  rw [this]
theorem takeG_int (b : ByteArray) : ((numAt b 0 1 : Int) == 2) = takeG b := by
  rw [takeG, Bool.eq_iff_iff, beq_iff_eq, beq_iff_eq]
  omega
theorem numAt_lt (b : ByteArray) (i : Nat) : numAt b i 4 < 4294967296 := by
  have h := getN_lt ((b.data.toList.drop i).take 4)
  have h2 : ((b.data.toList.drop i).take 4).length ≤ 4 := by simp; omega
  have h3 : 256 ^ ((b.data.toList.drop i).take 4).length ≤ 256 ^ 4 := Nat.pow_le_pow_right (by omega) h2
  rw [show (256 : Nat) ^ 4 = 4294967296 by decide] at h3
  exact Nat.lt_of_lt_of_le h h3
theorem getOk_small (l : List UInt8) (h1 : 1 ≤ l.length) (h2 : l.length ≤ 4) : getOk l = true := by
  have h := getN_lt l
  have h3 : 256 ^ l.length ≤ 256 ^ 4 := Nat.pow_le_pow_right (by omega) h2
  rw [show (256 : Nat) ^ 4 = 4294967296 by decide] at h3
  simp only [getOk, decide_eq_true_eq]
  omega
theorem getV_at (b : ByteArray) (i j : Nat) (hij : i < j) (hj : j ≤ i + 4) (hb : j ≤ b.size) : getV (b.extract i j) = (numAt b i (j - i) : Int) ∧ getE (b.extract i j) = 0 := by
  have hl := data_length b
  have he : (b.extract i j).data.toList = (b.data.toList.drop i).take (j - i) := by rw [data_extract]
  have ho : getOk (b.extract i j).data.toList = true := by
    rw [he]
    apply getOk_small
    · rw [List.length_take, List.length_drop]; omega
    · rw [List.length_take]; omega
  rw [getV, getE, if_pos ho, if_pos ho, he]
  exact ⟨rfl, rfl⟩

theorem unpack_cell (b : ByteArray) (hb : b.size = 4096) : unpackE [1, 4, 4, 4] (b.extract 0 13) = 0 ∧
    unpackL [1, 4, 4, 4] (b.extract 0 13) = [(numAt b 0 1 : Int), (numAt b 1 4 : Int), (numAt b 5 4 : Int), (numAt b 9 4 : Int)] := by
  have hl := data_length b
  have hz : (b.extract 0 13).size = 13 := by simp [ByteArray.size_extract]; omega
  have hd : (b.extract 0 13).data.toList = b.data.toList.take 13 := by rw [data_extract]; simp
  have p0 : piece [1, 4, 4, 4] (b.data.toList.take 13) 0 = (b.data.toList.drop 0).take 1 := by
    show ((b.data.toList.take 13).drop 0).take 1 = _
    rw [List.drop_zero, List.drop_zero, List.take_take]; rfl
  have p1 : piece [1, 4, 4, 4] (b.data.toList.take 13) 1 = (b.data.toList.drop 1).take 4 := by
    show ((b.data.toList.take 13).drop 1).take 4 = _
    rw [List.drop_take, List.take_take]; rfl
  have p2 : piece [1, 4, 4, 4] (b.data.toList.take 13) 2 = (b.data.toList.drop 5).take 4 := by
    show ((b.data.toList.take 13).drop 5).take 4 = _
    rw [List.drop_take, List.take_take]; rfl
  have p3 : piece [1, 4, 4, 4] (b.data.toList.take 13) 3 = (b.data.toList.drop 9).take 4 := by
    show ((b.data.toList.take 13).drop 9).take 4 = _
    rw [List.drop_take, List.take_take]; rfl
  have hE : unpackE [1, 4, 4, 4] (b.extract 0 13) = 0 := by
    rw [unpackE, if_pos (by decide), if_pos (by rw [hz]; rfl), if_pos]
    simp only [piecesOk, decide_eq_true_eq]
    rw [hd]
    intro i hi
    match i, hi with
    | 0, _ => rw [p0]; exact getOk_small _ (by simp; omega) (by simp; omega)
    | 1, _ => rw [p1]; exact getOk_small _ (by simp; omega) (by simp; omega)
    | 2, _ => rw [p2]; exact getOk_small _ (by simp; omega) (by simp; omega)
    | 3, _ => rw [p3]; exact getOk_small _ (by simp; omega) (by simp; omega)
    | n + 4, hi => exact absurd hi (by simp)
  refine ⟨hE, ?_⟩
  rw [unpackL, if_pos hE, hd]
  show (List.range 4).map _ = _
  rw [show List.range 4 = [0, 1, 2, 3] from rfl]
  simp only [List.map_cons, List.map_nil]
  rw [p0, p1, p2, p3]
  rfl

theorem take_no (b : ByteArray) (h : ¬ takeOk b = true) : takeV b = noCell ∧ takeE b = 3 := by rw [takeV, takeE, if_neg h, if_neg h]; exact ⟨rfl, rfl⟩
theorem take_yes (b : ByteArray) (h : takeOk b = true) : takeV b = cellV (numAt b 1 4) (numAt b 5 4) (numAt b 9 4) (takeG b) (takeT b) ∧ takeE b = 0 := by rw [takeV, takeE, if_pos h, if_pos h]; exact ⟨rfl, rfl⟩

/-- which held text any bytes are -/
def heldT (b : ByteArray) : ByteArray := cutA (b.extract 1 b.size)
def heldOk (b : ByteArray) : Bool := decide (b.size = 4096 ∧ cutOk (b.extract 1 b.size) = true ∧ holdOk (heldT b) = true ∧ holdS (heldT b) = b)
def heldS (b : ByteArray) : ByteArray := if heldOk b then heldT b else ⟨#[]⟩
def heldE (b : ByteArray) : Int := if heldOk b then 0 else 3
theorem held_head (b : ByteArray) (h : heldOk b = true) : numAt b 0 1 = 3 := by
  simp only [heldOk, decide_eq_true_eq] at h
  obtain ⟨_, _, h1, h2⟩ := h
  rw [← h2, holdS, if_pos h1, numAt, holdB]
  rfl
theorem byte_at (b : ByteArray) (h : 0 < b.size) : ((b[0]'h).toNat : Int) = (numAt b 0 1 : Int) := by
  obtain ⟨⟨l⟩⟩ := b
  match l, h with
  | x :: l, _ => simp [numAt, getN]; rfl

end Ks
