/- The digest, in plain numbers: no program is in sight. -/
import Derived.Test.YtophfeapmmfppaaBase
import Derived.Test.YtophfeapmmfppaaOctetPlain
import Derived.Laws.Bits64
import Derived.Laws.Bits64b
namespace Ks
open Go Go.RowKit
set_option linter.unusedVariables false

/-- a number of 32 bits turned -/
def rotr (x n : Nat) : Nat := ((x >>> n) ||| (x <<< (32 - n))) % 4294967296
def chN (e f g : Nat) : Nat := (e &&& f) ||| ((4294967295 - e) &&& g)
def majN (a b c : Nat) : Nat := ((a &&& b) ||| (a &&& c)) ||| (b &&& c)
def sigS (x a b c : Nat) : Nat := (rotr x a ^^^ rotr x b) ^^^ (x >>> c)
def sigR (x a b c : Nat) : Nat := (rotr x a ^^^ rotr x b) ^^^ rotr x c

theorem rotr_lt (x n : Nat) : rotr x n < 4294967296 := Nat.mod_lt _ (by decide)
theorem shr_lt {x : Nat} (h : x < 4294967296) (n : Nat) : x >>> n < 4294967296 := Nat.lt_of_le_of_lt (Nat.shiftRight_le x n) h
theorem lt32 {x : Nat} : x < 4294967296 ↔ x < 2 ^ 32 := by rw [show (2:Nat) ^ 32 = 4294967296 from by decide]
theorem xor32 {a b : Nat} (ha : a < 4294967296) (hb : b < 4294967296) : a ^^^ b < 4294967296 := lt32.2 (Nat.xor_lt_two_pow (lt32.1 ha) (lt32.1 hb))
theorem or32 {a b : Nat} (ha : a < 4294967296) (hb : b < 4294967296) : a ||| b < 4294967296 := lt32.2 (Nat.or_lt_two_pow (lt32.1 ha) (lt32.1 hb))
theorem and32 {a b : Nat} (hb : b < 4294967296) : a &&& b < 4294967296 := lt32.2 (Nat.and_lt_two_pow _ (lt32.1 hb))
theorem sigS_lt {x a b c : Nat} (h : x < 4294967296) : sigS x a b c < 4294967296 := xor32 (xor32 (rotr_lt _ _) (rotr_lt _ _)) (shr_lt h _)
theorem sigR_lt {x a b c : Nat} : sigR x a b c < 4294967296 := xor32 (xor32 (rotr_lt _ _) (rotr_lt _ _)) (rotr_lt _ _)
theorem chN_lt {e f g : Nat} (hf : f < 4294967296) (hg : g < 4294967296) : chN e f g < 4294967296 := or32 (and32 hf) (and32 hg)
theorem majN_lt {a b c : Nat} (hb : b < 4294967296) (hc : c < 4294967296) : majN a b c < 4294967296 := or32 (or32 (and32 hb) (and32 hc)) (and32 hc)

theorem rot_parts (x n : Nat) (hx : x < 4294967296) : ((x <<< (32 - n)) % 4294967296) ||| (x >>> n) = rotr x n := by
  have e : (4294967296 : Nat) = 2 ^ 32 := by decide
  have hs := lt32.1 (shr_lt hx n)
  unfold rotr
  rw [e]
  apply Nat.eq_of_testBit_eq
  intro i
  rw [Nat.testBit_or, Nat.testBit_mod_two_pow, Nat.testBit_mod_two_pow, Nat.testBit_or]
  by_cases hi : i < 32
  · simp [hi, Bool.or_comm]
  · have : (x >>> n).testBit i = false := Nat.testBit_lt_two_pow (Nat.lt_of_lt_of_le hs (Nat.pow_le_pow_right (by decide) (by omega)))
    simp [hi, this]

theorem ch_parts (e f g : Nat) (he : e < 4294967296) (hg : g < 4294967296) : g ^^^ (e &&& (f ^^^ g)) = chN e f g := by
  unfold chN
  apply Nat.eq_of_testBit_eq
  intro i
  have h1 : (4294967295 - e) = 2 ^ 32 - (e + 1) := by rw [show (2:Nat) ^ 32 = 4294967296 from by decide]; omega
  rw [Nat.testBit_or, Nat.testBit_and, Nat.testBit_and, Nat.testBit_xor, Nat.testBit_and, Nat.testBit_xor, h1, Nat.testBit_two_pow_sub_succ (lt32.1 he)]
  by_cases hi : i < 32
  · simp [hi]; cases e.testBit i <;> cases f.testBit i <;> cases g.testBit i <;> rfl
  · have hgi : g.testBit i = false := Nat.testBit_lt_two_pow (Nat.lt_of_lt_of_le (lt32.1 hg) (Nat.pow_le_pow_right (by decide) (by omega)))
    have hei : e.testBit i = false := Nat.testBit_lt_two_pow (Nat.lt_of_lt_of_le (lt32.1 he) (Nat.pow_le_pow_right (by decide) (by omega)))
    simp [hi, hgi, hei]

theorem maj_parts (a b c : Nat) : (a &&& b) ||| (c &&& (a ||| b)) = majN a b c := by
  unfold majN
  apply Nat.eq_of_testBit_eq
  intro i
  simp only [Nat.testBit_or, Nat.testBit_and]
  cases a.testBit i <;> cases b.testBit i <;> cases c.testBit i <;> rfl

/-! ### the machine's numbers -/
theorem wraps_u32 (n : Int) (h₀ : 0 ≤ n) (h₁ : n < 2 ^ 32) : IntKind.u32.wrap n = n := by
  rw [show (2 : Int) ^ 32 = 4294967296 from by decide] at h₁
  simp [IntKind.wrap, IntKind.bits, IntKind.signed]; omega
theorem wraps_i64 (n : Int) (h₀ : 0 ≤ n) (h₁ : n < 2 ^ 63) : IntKind.i64.wrap n = n := by
  rw [show (2 : Int) ^ 63 = 9223372036854775808 from by decide] at h₁
  rw [IntKind.wrap_i64]; omega
theorem bits_xor_nat (k : IntKind) (j : Nat) (hj : j ≤ k.bits) (hk : ∀ n : Int, 0 ≤ n → n < 2 ^ j → k.wrap n = n) (a b : Nat) (ha : a < 2 ^ j) (hb : b < 2 ^ j) :
    bits .xor k a b = ((a ^^^ b : Nat) : Int) := by
  have hp : 2 ^ j ≤ 2 ^ k.bits := Nat.pow_le_pow_right (by decide) hj
  have ha' : a % 2 ^ k.bits = a := Nat.mod_eq_of_lt (Nat.lt_of_lt_of_le ha hp)
  have hb' : b % 2 ^ k.bits = b := Nat.mod_eq_of_lt (Nat.lt_of_lt_of_le hb hp)
  have cast : ∀ n : Nat, n < 2 ^ j → ((n : Nat) : Int) < 2 ^ j := fun n h => by exact_mod_cast h
  simp only [bits, BitVec.ofInt_natCast, BitVec.toNat_xor, BitVec.toNat_ofNat, ha', hb']
  exact hk _ (Int.natCast_nonneg _) (cast _ (Nat.xor_lt_two_pow ha hb))
theorem xor_u32 (a b : Nat) (ha : a < 4294967296) (hb : b < 4294967296) : bits .xor .u32 a b = ((a ^^^ b : Nat) : Int) := bits_xor_nat .u32 32 (by decide) wraps_u32 a b (lt32.1 ha) (lt32.1 hb)
theorem or_u32 (a b : Nat) (ha : a < 4294967296) (hb : b < 4294967296) : bits .or .u32 a b = ((a ||| b : Nat) : Int) := (bits_nat .u32 32 (by decide) wraps_u32 a b (lt32.1 ha) (lt32.1 hb)).2
theorem and_u32 (a b : Nat) (ha : a < 4294967296) (hb : b < 4294967296) : bits .and .u32 a b = ((a &&& b : Nat) : Int) := (bits_nat .u32 32 (by decide) wraps_u32 a b (lt32.1 ha) (lt32.1 hb)).1
theorem xor_i64 (a b : Nat) (ha : a < 2 ^ 63) (hb : b < 2 ^ 63) : bits .xor .i64 a b = ((a ^^^ b : Nat) : Int) := bits_xor_nat .i64 63 (by decide) wraps_i64 a b ha hb
theorem or_i64 (a b : Nat) (ha : a < 2 ^ 63) (hb : b < 2 ^ 63) : bits .or .i64 a b = ((a ||| b : Nat) : Int) := (bits_nat .i64 63 (by decide) wraps_i64 a b ha hb).2
theorem and_i64 (a b : Nat) (ha : a < 2 ^ 63) (hb : b < 2 ^ 63) : bits .and .i64 a b = ((a &&& b : Nat) : Int) := (bits_nat .i64 63 (by decide) wraps_i64 a b ha hb).1

/-! ### the sum -/
structure St where
  a : Nat
  b : Nat
  c : Nat
  d : Nat
  e : Nat
  f : Nat
  g : Nat
  h : Nat
deriving DecidableEq
def St.ok (s : St) : Prop := s.a < 4294967296 ∧ s.b < 4294967296 ∧ s.c < 4294967296 ∧ s.d < 4294967296 ∧ s.e < 4294967296 ∧ s.f < 4294967296 ∧ s.g < 4294967296 ∧ s.h < 4294967296
def St.list (s : St) : List Nat := [s.a, s.b, s.c, s.d, s.e, s.f, s.g, s.h]

/-- the next of a block's numbers -/
def wNext (W : List Nat) : Nat :=
  (W.getD (W.length - 16) 0 + sigS (W.getD (W.length - 15) 0) 7 18 3 + W.getD (W.length - 7) 0 + sigS (W.getD (W.length - 2) 0) 17 19 10) % 4294967296
/-- the number of four bytes of a block -/
def num4 (B : List UInt8) (i : Nat) : Nat := getN ((B.drop (4 * i)).take 4)
/-- a block's first numbers -/
def wordsN (B : List UInt8) : Nat → List Nat
  | 0 => []
  | n + 1 => wordsN B n ++ [if n < 16 then num4 B n else wNext (wordsN B n)]

def kays : List Nat := [
  0x428a2f98, 0x71374491, 0xb5c0fbcf, 0xe9b5dba5, 0x3956c25b, 0x59f111f1, 0x923f82a4, 0xab1c5ed5,
  0xd807aa98, 0x12835b01, 0x243185be, 0x550c7dc3, 0x72be5d74, 0x80deb1fe, 0x9bdc06a7, 0xc19bf174,
  0xe49b69c1, 0xefbe4786, 0x0fc19dc6, 0x240ca1cc, 0x2de92c6f, 0x4a7484aa, 0x5cb0a9dc, 0x76f988da,
  0x983e5152, 0xa831c66d, 0xb00327c8, 0xbf597fc7, 0xc6e00bf3, 0xd5a79147, 0x06ca6351, 0x14292967,
  0x27b70a85, 0x2e1b2138, 0x4d2c6dfc, 0x53380d13, 0x650a7354, 0x766a0abb, 0x81c2c92e, 0x92722c85,
  0xa2bfe8a1, 0xa81a664b, 0xc24b8b70, 0xc76c51a3, 0xd192e819, 0xd6990624, 0xf40e3585, 0x106aa070,
  0x19a4c116, 0x1e376c08, 0x2748774c, 0x34b0bcb5, 0x391c0cb3, 0x4ed8aa4a, 0x5b9cca4f, 0x682e6ff3,
  0x748f82ee, 0x78a5636f, 0x84c87814, 0x8cc70208, 0x90befffa, 0xa4506ceb, 0xbef9a3f7, 0xc67178f2]
def st0 : St := ⟨0x6a09e667, 0xbb67ae85, 0x3c6ef372, 0xa54ff53a, 0x510e527f, 0x9b05688c, 0x1f83d9ab, 0x5be0cd19⟩

def tN (s : St) (k w : Nat) : Nat := s.h + sigR s.e 6 11 25 + chN s.e s.f s.g + k + w
def uN (s : St) : Nat := sigR s.a 2 13 22 + majN s.a s.b s.c
def roundN (s : St) (k w : Nat) : St := ⟨(tN s k w + uN s) % 4294967296, s.a, s.b, s.c, (s.d + tN s k w) % 4294967296, s.e, s.f, s.g⟩
def roundsN (s : St) (W : List Nat) : Nat → St
  | 0 => s
  | n + 1 => roundN (roundsN s W n) (kays.getD n 0) (W.getD n 0)
def addN (x s : St) : St := ⟨(x.a + s.a) % 4294967296, (x.b + s.b) % 4294967296, (x.c + s.c) % 4294967296, (x.d + s.d) % 4294967296, (x.e + s.e) % 4294967296, (x.f + s.f) % 4294967296, (x.g + s.g) % 4294967296, (x.h + s.h) % 4294967296⟩
/-- the state that a block turns one to -/
def turnN (s : St) (B : List UInt8) : St := addN (roundsN s (wordsN B 64) 64) s

theorem getN4_lt (l : List UInt8) : getN (l.take 4) < 4294967296 := by
  have h := getN_lt (l.take 4)
  have h2 : (256 : Nat) ^ (l.take 4).length ≤ 256 ^ 4 := Nat.pow_le_pow_right (by decide) (by simp; omega)
  have h3 : (256 : Nat) ^ 4 = 4294967296 := by decide
  omega
theorem num4_lt (B : List UInt8) (i : Nat) : num4 B i < 4294967296 := getN4_lt _
theorem wordsN_length (B : List UInt8) (n : Nat) : (wordsN B n).length = n := by
  induction n with
  | zero => rfl
  | succ n ih => simp [wordsN, ih]
theorem wNext_lt (W : List Nat) : wNext W < 4294967296 := Nat.mod_lt _ (by decide)
theorem wordsN_lt (B : List UInt8) (n : Nat) : ∀ x ∈ wordsN B n, x < 4294967296 := by
  induction n with
  | zero => intro x hx; cases hx
  | succ n ih =>
    intro x hx
    rw [wordsN, List.mem_append, List.mem_singleton] at hx
    rcases hx with hx | rfl
    · exact ih x hx
    · split
      · exact num4_lt _ _
      · exact wNext_lt _
theorem getD_lt {l : List Nat} (h : ∀ x ∈ l, x < 4294967296) (i : Nat) : l.getD i 0 < 4294967296 := by
  rw [List.getD_eq_getElem?_getD]
  cases e : l[i]? with
  | none => simp
  | some x => exact h x (List.mem_of_getElem? e)
theorem kays_lt : ∀ x ∈ kays, x < 4294967296 := by decide
theorem st0_ok : st0.ok := by unfold St.ok; decide
theorem roundN_ok {s : St} (h : s.ok) (k w : Nat) : (roundN s k w).ok := by
  obtain ⟨h1, h2, h3, h4, h5, h6, h7, h8⟩ := h
  exact ⟨Nat.mod_lt _ (by decide), h1, h2, h3, Nat.mod_lt _ (by decide), h5, h6, h7⟩
theorem roundsN_ok {s : St} (h : s.ok) (W : List Nat) (n : Nat) : (roundsN s W n).ok := by
  induction n with
  | zero => exact h
  | succ n ih => exact roundN_ok ih _ _
theorem addN_ok (x s : St) : (addN x s).ok := by
  refine ⟨?_, ?_, ?_, ?_, ?_, ?_, ?_, ?_⟩ <;> exact Nat.mod_lt _ (by decide)
theorem turnN_ok (s : St) (B : List UInt8) : (turnN s B).ok := addN_ok _ _

/-- a state's bytes -/
def textL (s : St) : List UInt8 := putL 4 s.a ++ (putL 4 s.b ++ (putL 4 s.c ++ (putL 4 s.d ++ (putL 4 s.e ++ (putL 4 s.f ++ (putL 4 s.g ++ putL 4 s.h))))))
/-- the state that a text's blocks turn one to -/
def foldN (s : St) (l : List UInt8) : St :=
  if h : 64 ≤ l.length then foldN (turnN s (l.take 64)) (l.drop 64) else s
termination_by l.length
decreasing_by simp; omega
/-- what stands behind so many bytes -/
def padL (n : Nat) : List UInt8 := 128 :: (List.replicate (63 - (n + 8) % 64) 0 ++ putL 8 (8 * n))
/-- the sum -/
def shaL (l : List UInt8) : List UInt8 := textL (foldN st0 (l ++ padL l.length))

end Ks
