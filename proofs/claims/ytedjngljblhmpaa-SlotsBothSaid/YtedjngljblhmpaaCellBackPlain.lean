/- What was put is taken as it was: plain. -/
import Derived.Test.YtedjngljblhmpaaCellPlain3
import Derived.Test.YtedjngljblhmpaaOctetBackPlain
namespace Ks
open Go
set_option linter.unusedVariables false

theorem bytes_ext {a b : ByteArray} (h : a.data.toList = b.data.toList) : a = b := by
  obtain ⟨⟨x⟩⟩ := a
  obtain ⟨⟨y⟩⟩ := b
  have : x = y := h
  rw [this]
theorem piece_mid (A M C : List UInt8) (i n : Nat) (hi : A.length = i) (hn : M.length = n) : ((A ++ (M ++ C)).drop i).take n = M := by
  subst hi hn
  rw [List.drop_left, List.take_left]
theorem getN_put4 (n : Nat) (h : n < 4294967296) : getN (putL 4 n) = n := by
  rw [getN_putL, show (256 : Nat) ^ 4 = 4294967296 by decide]
  exact Nat.mod_eq_of_lt h

theorem cell_data (e s l : Int) (g : Bool) (t : ByteArray) (hok : cellOk e s l g t = true) : (cellS e s l g t).data.toList = cellB e s l g t := by rw [cellS, if_pos hok]
theorem cell_size (e s l : Int) (g : Bool) (t : ByteArray) (hok : cellOk e s l g t = true) : (cellS e s l g t).size = 4096 := by
  rw [← data_length, cell_data e s l g t hok, cellB, List.length_append, List.length_replicate, cellH_length]
  have hc := hok
  simp only [cellOk, decide_eq_true_eq] at hc
  omega

theorem cell_nums (e s l : Int) (g : Bool) (t : ByteArray) (hok : cellOk e s l g t = true) :
    numAt (cellS e s l g t) 0 1 = (if g then 2 else 1) ∧ (numAt (cellS e s l g t) 1 4 : Int) = e ∧ (numAt (cellS e s l g t) 5 4 : Int) = s ∧ (numAt (cellS e s l g t) 9 4 : Int) = l := by
  have hc := hok
  simp only [cellOk, decide_eq_true_eq] at hc
  obtain ⟨c1, c2, c3, c4, c5, c6, c7, c8⟩ := hc
  unfold numAt
  rw [cell_data e s l g t hok, cellB, cellH]
  generalize List.replicate _ (0 : UInt8) = Z
  refine ⟨?_, ?_, ?_, ?_⟩
  · cases g <;> rfl
  · rw [show (if g then (2 : UInt8) else 1) :: (putL 4 e.toNat ++ putL 4 s.toNat ++ putL 4 l.toNat ++ (putL 4 t.size ++ t.data.toList)) ++ Z = [if g then (2 : UInt8) else 1] ++ (putL 4 e.toNat ++ (putL 4 s.toNat ++ putL 4 l.toNat ++ (putL 4 t.size ++ t.data.toList) ++ Z)) by simp,
      piece_mid _ _ _ 1 4 rfl (putL_length _ _), getN_put4 _ (by omega)]
    omega
  · rw [show (if g then (2 : UInt8) else 1) :: (putL 4 e.toNat ++ putL 4 s.toNat ++ putL 4 l.toNat ++ (putL 4 t.size ++ t.data.toList)) ++ Z = ([if g then (2 : UInt8) else 1] ++ putL 4 e.toNat) ++ (putL 4 s.toNat ++ (putL 4 l.toNat ++ (putL 4 t.size ++ t.data.toList) ++ Z)) by simp,
      piece_mid _ _ _ 5 4 (by simp) (putL_length _ _), getN_put4 _ (by omega)]
    omega
  · rw [show (if g then (2 : UInt8) else 1) :: (putL 4 e.toNat ++ putL 4 s.toNat ++ putL 4 l.toNat ++ (putL 4 t.size ++ t.data.toList)) ++ Z = ([if g then (2 : UInt8) else 1] ++ putL 4 e.toNat ++ putL 4 s.toNat) ++ (putL 4 l.toNat ++ ((putL 4 t.size ++ t.data.toList) ++ Z)) by simp,
      piece_mid _ _ _ 9 4 (by simp) (putL_length _ _), getN_put4 _ (by omega)]
    omega

/-- a text with its length, and whatever behind it, is cut off as it was -/
theorem cut_text (r t : ByteArray) (Z : List UInt8) (h : r.data.toList = putL 4 t.size ++ t.data.toList ++ Z) (ht : t.size < 4294967296) : cutOk r = true ∧ cutA r = t := by
  have hn : cutN r = t.size := by
    rw [cutN, h, show putL 4 t.size ++ t.data.toList ++ Z = [] ++ (putL 4 t.size ++ (t.data.toList ++ Z)) by simp]
    have := piece_mid [] (putL 4 t.size) (t.data.toList ++ Z) 0 4 rfl (putL_length _ _)
    rw [List.drop_zero] at this
    rw [this, getN_put4 _ ht]
  have hr : r.size = 4 + t.size + Z.length := by
    rw [← data_length, h, List.length_append, List.length_append, putL_length, data_length]
  have hok : cutOk r = true := by
    simp only [cutOk, decide_eq_true_eq]
    rw [hn]; omega
  refine ⟨hok, ?_⟩
  rw [cutA, if_pos hok, hn]
  apply bytes_ext
  rw [data_extract, h, show 4 + t.size - 4 = t.size by omega, List.append_assoc]
  exact piece_mid _ _ _ 4 t.size (putL_length _ _) (data_length t)

theorem drop_append_of (A B : List UInt8) (i : Nat) (h : A.length = i) : (A ++ B).drop i = B := by subst h; exact List.drop_left
theorem extract_end (b : ByteArray) (i : Nat) (hi : i ≤ b.size) : (b.extract i b.size).data.toList = b.data.toList.drop i := by
  rw [data_extract, List.take_of_length_le (by rw [List.length_drop, data_length]; omega)]

theorem take_cell (e s l : Int) (g : Bool) (t : ByteArray) (hok : cellOk e s l g t = true) : takeOk (cellS e s l g t) = true ∧ takeV (cellS e s l g t) = cellV e s l g t ∧ takeE (cellS e s l g t) = 0 ∧ takeG (cellS e s l g t) = g := by
  have hz := cell_size e s l g t hok
  obtain ⟨n0, n1, n2, n3⟩ := cell_nums e s l g t hok
  have hg : takeG (cellS e s l g t) = g := by rw [takeG, n0]; cases g <;> rfl
  have hc := hok
  simp only [cellOk, decide_eq_true_eq] at hc
  obtain ⟨c1, c2, c3, c4, c5, c6, c7, c8⟩ := hc
  have hd : ((cellS e s l g t).extract 13 (cellS e s l g t).size).data.toList = putL 4 t.size ++ t.data.toList ++ List.replicate (4096 - (cellH e s l g t).length) 0 := by
    rw [extract_end _ _ (by omega), cell_data e s l g t hok, cellB]
    generalize List.replicate _ (0 : UInt8) = Z
    rw [cellH, show (if g then (2 : UInt8) else 1) :: (putL 4 e.toNat ++ putL 4 s.toNat ++ putL 4 l.toNat ++ (putL 4 t.size ++ t.data.toList)) ++ Z = ([if g then (2 : UInt8) else 1] ++ putL 4 e.toNat ++ putL 4 s.toNat ++ putL 4 l.toNat) ++ (putL 4 t.size ++ t.data.toList ++ Z) by simp]
    exact drop_append_of _ _ 13 (by simp)
  obtain ⟨hk, ha⟩ := cut_text _ t _ hd (by omega)
  have ht : takeT (cellS e s l g t) = t := ha
  have hT : takeOk (cellS e s l g t) = true := by
    simp only [takeOk, decide_eq_true_eq]
    rw [hg, ht, n1, n2, n3]
    exact ⟨hz, hk, hok, rfl⟩
  obtain ⟨q1, q2⟩ := take_yes _ hT
  rw [hg, ht, n1, n2, n3] at q1
  exact ⟨hT, q1, q2, hg⟩

theorem held_hold (t : ByteArray) (hok : holdOk t = true) : heldS (holdS t) = t ∧ heldE (holdS t) = 0 ∧ (holdS t).size = 4096 := by
  have hc := hok
  simp only [holdOk, decide_eq_true_eq] at hc
  have hd : (holdS t).data.toList = holdB t := by rw [holdS, if_pos hok]
  have hz : (holdS t).size = 4096 := by
    rw [← data_length, hd, holdB, List.length_append, List.length_replicate, List.length_cons, List.length_append, putL_length, data_length]
    omega
  have hx : ((holdS t).extract 1 (holdS t).size).data.toList = putL 4 t.size ++ t.data.toList ++ List.replicate (4096 - (5 + t.size)) 0 := by
    rw [extract_end _ _ (by omega), hd, holdB]
    rfl
  obtain ⟨hk, ha⟩ := cut_text _ t _ hx (by omega)
  have ht : heldT (holdS t) = t := ha
  have hH : heldOk (holdS t) = true := by
    simp only [heldOk, decide_eq_true_eq]
    rw [ht]
    exact ⟨hz, hk, hok, rfl⟩
  refine ⟨by rw [heldS, if_pos hH, ht], by rw [heldE, if_pos hH], hz⟩

theorem take_back (b : ByteArray) (h : takeOk b = true) : cellOk (numAt b 1 4) (numAt b 5 4) (numAt b 9 4) (takeG b) (takeT b) = true ∧ cellS (numAt b 1 4) (numAt b 5 4) (numAt b 9 4) (takeG b) (takeT b) = b ∧ cellE (numAt b 1 4) (numAt b 5 4) (numAt b 9 4) (takeG b) (takeT b) = 0 := by
  simp only [takeOk, decide_eq_true_eq] at h
  exact ⟨h.2.2.1, h.2.2.2, by rw [cellE, if_pos h.2.2.1]⟩
theorem held_back (b : ByteArray) (h : heldOk b = true) : heldS b = heldT b ∧ holdOk (heldT b) = true ∧ holdS (heldT b) = b ∧ holdE (heldT b) = 0 := by
  have h0 := h
  simp only [heldOk, decide_eq_true_eq] at h
  exact ⟨by rw [heldS, if_pos h0], h.2.2.1, h.2.2.2, by rw [holdE, if_pos h.2.2.1]⟩
theorem not_both (b : ByteArray) (h : takeOk b = true) : heldOk b = false := by
  obtain ⟨h1, h2, _⟩ := take_back b h
  have hn := (cell_nums _ _ _ _ _ h1).1
  rw [h2] at hn
  cases hh : heldOk b with
  | false => rfl
  | true =>
    have := held_head b hh
    rw [this] at hn
    exact absurd hn (by split <;> decide)

theorem left_cell (e s l : Int) (g : Bool) (t : ByteArray) (hok : cellOk e s l g t = true) : cellOk e s l true ⟨#[]⟩ = true ∧ (cellS e s l true ⟨#[]⟩).extract 17 4096 = zerosS 4079 := by
  have hc := hok
  simp only [cellOk, decide_eq_true_eq] at hc
  obtain ⟨c1, c2, c3, c4, c5, c6, c7, c8⟩ := hc
  have hk : cellOk e s l true ⟨#[]⟩ = true := by
    simp only [cellOk, decide_eq_true_eq]
    exact ⟨c1, c2, c3, c4, c5, c6, Nat.zero_le _, fun _ => rfl⟩
  refine ⟨hk, ?_⟩
  apply bytes_ext
  rw [data_extract, cell_data _ _ _ _ _ hk, cellB, zerosS]
  have hl : (cellH e s l true ⟨#[]⟩).length = 17 := cellH_length _ _ _ _ _
  rw [drop_append_of _ _ 17 hl, hl]
  show List.take 4079 (List.replicate 4079 0) = List.replicate 4079 0
  rw [List.take_of_length_le (by rw [List.length_replicate]; omega)]

end Ks
