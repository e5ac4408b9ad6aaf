/- What was put is got: plain. -/
import Derived.Test.YtedjngljblhmpaaUnpackPlain
import Derived.Test.YtedjngljblhmpaaOctetOrderPlain
namespace Ks
open Go

theorem getN_putL (k n : Nat) : getN (putL k n) = n % 256 ^ k := by
  induction k generalizing n with
  | zero => simp [putL, getN, Nat.mod_one]
  | succ k ih =>
    simp only [putL]
    rw [getN_snoc, ih]
    have h : (UInt8.ofNat n).toNat = n % 256 := by simp
    rw [h, Nat.pow_succ', Nat.mod_mul]
    omega

theorem putL_getN (l : List UInt8) : putL l.length (getN l) = l := by
  apply List.reverse_inj.1
  have h : ∀ r : List UInt8, (putL r.length (getN r.reverse)).reverse = r := by
    intro r
    induction r with
    | nil => rfl
    | cons x r ih =>
      simp only [List.length_cons, putL, List.reverse_append, List.reverse_cons, List.reverse_nil, List.nil_append, List.singleton_append]
      rw [getN_snoc]
      have h1 : (getN r.reverse * 256 + x.toNat) / 256 = getN r.reverse := by have := x.toNat_lt; omega
      rw [h1, ih]
      congr 1
      apply UInt8.toNat.inj
      have := x.toNat_lt
      first | (simp; done) | (simp; omega)
  have := h l.reverse
  rw [List.reverse_reverse, List.length_reverse] at this
  exact this

theorem packTo_length_eq (ws l : List Int) (k : Nat) : (packTo ws l k).length = sumTo ws k := by
  induction k with
  | zero => rfl
  | succ k ih => simp [packTo, sumTo, ih]

theorem packTo_split (ws l : List Int) (k m : Nat) (h : k < m) : ∃ t, packTo ws l m = packTo ws l k ++ (putL (ws.getD k 0).toNat (l.getD k 0).toNat ++ t) := by
  induction m with
  | zero => omega
  | succ m ih =>
    by_cases hk : k = m
    · subst hk; exact ⟨[], by simp [packTo]⟩
    · obtain ⟨t, ht⟩ := ih (by omega)
      exact ⟨t ++ putL (ws.getD m 0).toNat (l.getD m 0).toNat, by rw [packTo, ht]; simp⟩

theorem piece_packTo (ws l : List Int) (k m : Nat) (h : k < m) : piece ws (packTo ws l m) k = putL (ws.getD k 0).toNat (l.getD k 0).toNat := by
  obtain ⟨t, ht⟩ := packTo_split ws l k m h
  rw [piece, ht, ← packTo_length_eq ws l k, List.drop_left]
  exact List.take_left' (by simp)

theorem unpack_pack (ws l : List Int) (hr : ∀ i, i < l.length → l.getD i 0 ≤ 9223372036854775807) (h : packE ws l = 0) : unpackE ws (packS ws l) = 0 ∧ unpackL ws (packS ws l) = l := by
  have hp : packOk ws l = true := by
    rw [packE] at h
    split at h
    · assumption
    · cases h
  have hs : packS ws l = ⟨(packTo ws l l.length).toArray⟩ := by rw [packS, if_pos hp]
  simp only [packOk, decide_eq_true_eq] at hp
  obtain ⟨hl, hok⟩ := hp
  have hw : ∀ i, i < ws.length → 1 ≤ ws.getD i 0 ∧ ws.getD i 0 ≤ 8 := fun i hi => by
    have := putOk_width (hok i (by omega)); omega
  have hpc : ∀ i, i < ws.length → piece ws (packTo ws l l.length) i = putL (ws.getD i 0).toNat (l.getD i 0).toNat := fun i hi => piece_packTo ws l i _ (by omega)
  have hget : ∀ i, i < ws.length → getN (piece ws (packTo ws l l.length) i) = (l.getD i 0).toNat := fun i hi => by
    rw [hpc i hi, getN_putL]
    exact Nat.mod_eq_of_lt (putOk_lt (hok i (by omega)) (hr i (by omega)))
  have hE : unpackE ws (packS ws l) = 0 := by
    rw [unpackE, if_pos (by simpa only [widthsOk, decide_eq_true_eq] using hw), hs, if_pos, if_pos]
    · simp only [piecesOk, decide_eq_true_eq]
      intro i hi
      have h1 := hget i hi
      have h2 := hr i (by omega)
      have h3 := hw i hi
      simp only [getOk, decide_eq_true_eq]
      rw [h1, hpc i hi, putL_length]
      omega
    · show (packTo ws l l.length).length = _
      rw [packTo_length_eq, hl]
  refine ⟨hE, ?_⟩
  rw [unpackL, if_pos hE, hs]
  apply List.ext_getElem
  · simp [unpackTo, hl]
  · intro i h1 h2
    simp only [unpackTo, List.getElem_map, List.getElem_range]
    have h3 := hget i (by omega)
    have h4 := putOk_width (hok i h2)
    rw [h3]
    have h5 : l.getD i 0 = l[i] := by simp [h2]
    rw [h5] at h4 ⊢
    omega

theorem put_get (s : ByteArray) (h : getE s = 0) : putS (getV s) s.size = s ∧ putE (getV s) s.size = 0 := by
  have hg : getOk s.data.toList = true := by
    rw [getE] at h
    split at h
    · assumption
    · cases h
  have hv : getV s = getN s.data.toList := by rw [getV, if_pos hg]
  simp only [getOk, decide_eq_true_eq] at hg
  have hl := data_length s
  have hlt := getN_lt s.data.toList
  have hp : putOk (getV s) s.size = true := by
    rw [hv]
    simp only [putOk, decide_eq_true_eq]
    refine ⟨by omega, by omega, by omega, fun _ => ?_⟩
    rw [Int.toNat_natCast, Int.toNat_natCast]
    apply Nat.div_eq_of_lt
    rw [show (2 : Nat) ^ (8 * s.size) = 256 ^ s.size by rw [Nat.pow_mul], ← hl]
    exact hlt
  refine ⟨?_, by rw [putE, if_pos hp]⟩
  rw [putS, if_pos hp, hv, Int.toNat_natCast, Int.toNat_natCast, ← hl, putL_getN]

end Ks
