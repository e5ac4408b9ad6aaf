/- Texts with their lengths, texts cut off, noughts: plain. -/
import Derived.Test.YtophfeapmmfppaaOctetPlain
import Derived.Lib.Repeat
namespace Ks
open Go Go.RowKit
set_option linter.unusedVariables false

theorem text_mask (n : Nat) (h : n < 4294967296) : bits .and .i64 (n : Int) 4294967295 = (n : Int) := by
  have := bits_mask .i64 63 (by decide) (fun n h0 h1 => by rw [IntKind.wrap_i64]; omega) 32 (by decide) (n : Int) (by omega) (by omega)
  rw [show ((2 : Int) ^ 32 - 1) = 4294967295 from by decide] at this
  rw [this]; omega

theorem putS_four (n : Nat) (h : n < 4294967296) : putS n 4 = ⟨(putL 4 n).toArray⟩ := by
  have hp : putOk n 4 = true := by
    simp only [putOk, decide_eq_true_eq]
    refine ⟨by omega, by omega, by omega, fun _ => ?_⟩
    have : (2 : Nat) ^ (8 * (4 : Int).toNat) = 4294967296 := by decide
    rw [this]
    exact Nat.div_eq_of_lt (by omega)
  rw [putS, if_pos hp]; rfl

/-- a text with its length ahead -/
def textS (s : ByteArray) : ByteArray := ⟨(putL 4 s.size ++ s.data.toList).toArray⟩

theorem textS_size (s : ByteArray) : (textS s).size = 4 + s.size := by
  show (putL 4 s.size ++ s.data.toList).length = _
  rw [List.length_append, putL_length, data_length]

theorem textS_eq (s : ByteArray) (h : s.size < 4294967296) : putS s.size 4 ++ s = textS s := by
  rw [putS_four _ h]
  obtain ⟨⟨l⟩⟩ := s
  exact ByteArray.mk_append_mk _ _

theorem putS_size (n w : Int) : (putS n w).size ≤ 8 := by
  unfold putS
  split
  · rename_i h
    have := putOk_width h
    show (putL _ _).length ≤ 8
    rw [putL_length]; omega
  · show (0 : Nat) ≤ 8
    omega

/-- the number that a text begins with; whether as many bytes are there; the text, and the rest -/
def cutN (s : ByteArray) : Nat := getN (s.data.toList.take 4)
def cutOk (s : ByteArray) : Bool := decide (4 ≤ s.size ∧ cutN s ≤ s.size - 4)
def cutA (s : ByteArray) : ByteArray := if cutOk s then s.extract 4 (4 + cutN s) else ⟨#[]⟩
def cutB (s : ByteArray) : ByteArray := if cutOk s then s.extract (4 + cutN s) s.size else ⟨#[]⟩
def cutE (s : ByteArray) : Int := if cutOk s then 0 else 3

theorem getV_four (s : ByteArray) (h : 4 ≤ s.size) : getV (s.extract 0 4) = (cutN s : Int) ∧ cutN s < 4294967296 := by
  obtain ⟨⟨l⟩⟩ := s
  have hl : 4 ≤ l.length := h
  have he : (ByteArray.mk l.toArray).extract 0 4 = ⟨(l.take 4).toArray⟩ := by rw [ByteArray.extract_mk]; simp
  have hlt := getN_lt (l.take 4)
  have h4 : (l.take 4).length = 4 := by rw [List.length_take]; omega
  rw [h4, show (256 : Nat) ^ 4 = 4294967296 by decide] at hlt
  have ho : getOk (l.take 4) = true := by
    simp only [getOk, decide_eq_true_eq]
    omega
  refine ⟨?_, hlt⟩
  rw [he, getV, if_pos ho]
  rfl

theorem extract_list (s : ByteArray) (a b : Nat) : s.extract a b = ⟨((s.data.toList.drop a).take (b - a)).toArray⟩ := by
  obtain ⟨⟨l⟩⟩ := s
  exact ByteArray.extract_mk l a b

theorem extract_twice (s : ByteArray) (a b c d : Nat) (h : a + d ≤ b) : (s.extract a b).extract c d = s.extract (a + c) (a + d) := by
  obtain ⟨⟨l⟩⟩ := s
  rw [ByteArray.extract_mk, ByteArray.extract_mk, ByteArray.extract_mk]
  congr 2
  rw [List.drop_take, List.take_take, List.drop_drop]
  congr 1
  omega

/-- noughts -/
def zerosS (n : Int) : ByteArray := ⟨(List.replicate n.toNat (0 : UInt8)).toArray⟩
def fillOk (s : ByteArray) (n : Int) : Bool := decide (s.size ≤ n ∧ n ≤ 65536)
def fillS (s : ByteArray) (n : Int) : ByteArray := if fillOk s n then s ++ zerosS (n - s.size) else ⟨#[]⟩
def fillE (s : ByteArray) (n : Int) : Int := if fillOk s n then 0 else 2

theorem repeat_zero (n : Nat) : Lib.repeatL [(0 : UInt8)] n = List.replicate n 0 := by
  induction n with
  | zero => rfl
  | succ n ih => simp [Lib.repeatL, ih, List.replicate_succ]

theorem zerosS_size (m : Nat) : (zerosS m).size = m := by
  show (List.replicate _ _).length = _
  simp
theorem repeat_zeros (m : Nat) : (⟨(Lib.repeatL (ByteArray.mk #[0]).data.toList m).toArray⟩ : ByteArray) = zerosS m := by
  show (⟨(Lib.repeatL [(0 : UInt8)] m).toArray⟩ : ByteArray) = ⟨(List.replicate m (0 : UInt8)).toArray⟩
  rw [repeat_zero]

end Ks
