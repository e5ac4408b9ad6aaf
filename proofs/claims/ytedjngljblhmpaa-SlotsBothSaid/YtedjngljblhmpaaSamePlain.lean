/- Texts held against each other, byte by byte: plain. -/
import Derived.Test.YtedjngljblhmpaaShaPlain
import Derived.Test.YtedjngljblhmpaaTextPlain
namespace Ks
open Go Go.RowKit
set_option linter.unusedVariables false
def orTo (f : Nat → Nat) : Nat → Nat
  | 0 => 0
  | k + 1 => orTo f k ||| f k
theorem orTo_lt (f : Nat → Nat) (n : Nat) (h : ∀ k, k < n → f k < 256) : orTo f n < 256 := by
  induction n with
  | zero => exact Nat.succ_pos _
  | succ n ih => exact Nat.or_lt_two_pow (n := 8) (ih fun k hk => h k (by omega)) (h n (by omega))
theorem orTo_zero (f : Nat → Nat) (n : Nat) : orTo f n = 0 ↔ ∀ k, k < n → f k = 0 := by
  induction n with
  | zero => simp [orTo]
  | succ n ih =>
    rw [orTo, Nat.or_eq_zero_iff, ih]
    constructor
    · rintro ⟨h1, h2⟩ k hk
      by_cases e : k = n
      · rw [e]; exact h2
      · exact h1 k (by omega)
    · exact fun h => ⟨fun k hk => h k (by omega), h n (by omega)⟩
theorem wraps_u8 : ∀ n : Int, 0 ≤ n → n < 2 ^ 8 → IntKind.u8.wrap n = n := fun n h0 h1 => by simp [IntKind.wrap, IntKind.bits, IntKind.signed]; omega
theorem or_u8 (a b : Nat) (ha : a < 256) (hb : b < 256) : bits .or .u8 a b = ((a ||| b : Nat) : Int) := (bits_nat .u8 8 (by decide) wraps_u8 a b ha hb).2
theorem xor_u8 (a b : Nat) (ha : a < 256) (hb : b < 256) : bits .xor .u8 a b = ((a ^^^ b : Nat) : Int) := bits_xor_nat .u8 8 (by decide) wraps_u8 a b ha hb
def noughtN (b : Nat) : Nat := if b = 0 then 1 else 0
def byteN (s : ByteArray) (k : Nat) : Nat := (s.data.toList.getD k 0).toNat
theorem byteN_lt (s : ByteArray) (k : Nat) : byteN s k < 256 := UInt8.toNat_lt _
theorem getD_get (l : List UInt8) (k : Nat) (h : k < l.length) : l.getD k 0 = l[k] := by rw [List.getD_eq_getElem?_getD, List.getElem?_eq_getElem h]; rfl
theorem byteN_get (s : ByteArray) (k : Nat) (h : k < s.size) : byteN s k = (s[k]).toNat := by
  obtain ⟨⟨l⟩⟩ := s
  have h' : k < l.length := h
  show (l.getD k 0).toNat = (l[k]).toNat
  simp [h']
def bitN (a b : ByteArray) : Nat := if a = b then 1 else 0
def anyN (s : ByteArray) : Nat := if s = zerosS s.size then 0 else 1
theorem bytes_eq {a b : ByteArray} (h : a.data.toList = b.data.toList) : a = b := by
  obtain ⟨⟨x⟩⟩ := a
  obtain ⟨⟨y⟩⟩ := b
  have : x = y := h
  rw [this]
theorem xor_zero_iff (a b : Nat) : a ^^^ b = 0 ↔ a = b := by
  constructor
  · intro h
    have h2 : a ^^^ b ^^^ b = 0 ^^^ b := by rw [h]
    rwa [Nat.xor_assoc, Nat.xor_self, Nat.xor_zero, Nat.zero_xor] at h2
  · rintro rfl; exact Nat.xor_self _
theorem bit_eq (a b : ByteArray) (h : a.size = b.size) : noughtN (orTo (fun k => byteN a k ^^^ byteN b k) a.size) = bitN a b := by
  unfold noughtN bitN
  have key : orTo (fun k => byteN a k ^^^ byteN b k) a.size = 0 ↔ a = b := by
    rw [orTo_zero]
    constructor
    · intro h1
      apply bytes_eq
      have la := data_length a
      have lb := data_length b
      refine List.ext_getElem (by omega) fun k h2 h3 => ?_
      have h4 := (xor_zero_iff _ _).1 (h1 k (by omega))
      unfold byteN at h4
      have h5 := UInt8.toNat_inj.1 h4
      rwa [getD_get _ _ h2, getD_get _ _ h3] at h5
    · rintro rfl k _; exact Nat.xor_self _
  by_cases e : a = b
  · rw [if_pos e, if_pos (key.2 e)]
  · rw [if_neg e, if_neg fun h => e (key.1 h)]
theorem any_eq (s : ByteArray) : noughtN (orTo (fun k => byteN s k) s.size) = 1 - anyN s := by
  unfold noughtN anyN
  have key : orTo (fun k => byteN s k) s.size = 0 ↔ s = zerosS s.size := by
    rw [orTo_zero]
    have ls := data_length s
    constructor
    · intro h1
      apply bytes_eq
      show s.data.toList = List.replicate s.size 0
      refine List.eq_replicate_iff.2 ⟨ls, fun x hx => ?_⟩
      obtain ⟨k, hk, rfl⟩ := List.mem_iff_getElem.1 hx
      have h4 := h1 k (by omega)
      unfold byteN at h4
      rw [getD_get _ _ hk] at h4
      exact UInt8.toNat_inj.1 h4
    · intro h1 k hk
      unfold byteN
      have e : s.data.toList = List.replicate s.size 0 := congrArg (fun b => b.data.toList) h1
      rw [e]
      simp [hk]
  by_cases e : s = zerosS s.size
  · rw [if_pos e, if_pos (key.2 e)]
  · rw [if_neg e, if_neg fun h => e (key.1 h)]
end Ks
