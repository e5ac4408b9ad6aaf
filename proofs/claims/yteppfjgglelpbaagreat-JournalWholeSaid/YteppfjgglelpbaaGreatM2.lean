/- Texts that the claim rests on, part 2: ShaPlain, ShaFold, GeoPlain, SuperPlain, SuperBackPlain, SlotPlain, JrnPlain, SuperTakePlain, JrnCrash. -/
import Derived.Laws.Bits64
import Derived.Laws.Bits64b
import Derived.Test.YteppfjgglelpbaaGreatM1
/- The digest, in plain numbers: no program is in sight. -/
namespace Ks
open Go Go.RowKit
set_option linter.unusedVariables false

/-- a number of 32 bits turned -/
def rotr (x n : Nat) : Nat := ((x >>> n) ||| (x <<< (32 - n))) % 4294967296
def chN (e f g : Nat) : Nat := (e &&& f) ||| ((4294967295 - e) &&& g)
def majN (a b c : Nat) : Nat := ((a &&& b) ||| (a &&& c)) ||| (b &&& c)
def sigS (x a b c : Nat) : Nat := (rotr x a ^^^ rotr x b) ^^^ (x >>> c)
def sigR (x a b c : Nat) : Nat := (rotr x a ^^^ rotr x b) ^^^ rotr x c

theorem rotr_lt (x n : Nat) : rotr x n < 4294967296 := Nat.mod_lt _ (by decide)
theorem shr_lt {x : Nat} (h : x < 4294967296) (n : Nat) : x >>> n < 4294967296 := Nat.lt_of_le_of_lt (Nat.shiftRight_le x n) h
theorem lt32 {x : Nat} : x < 4294967296 ↔ x < 2 ^ 32 := by rw [show (2:Nat) ^ 32 = 4294967296 from by decide]
theorem xor32 {a b : Nat} (ha : a < 4294967296) (hb : b < 4294967296) : a ^^^ b < 4294967296 := lt32.2 (Nat.xor_lt_two_pow (lt32.1 ha) (lt32.1 hb))
theorem or32 {a b : Nat} (ha : a < 4294967296) (hb : b < 4294967296) : a ||| b < 4294967296 := lt32.2 (Nat.or_lt_two_pow (lt32.1 ha) (lt32.1 hb))
theorem and32 {a b : Nat} (hb : b < 4294967296) : a &&& b < 4294967296 := lt32.2 (Nat.and_lt_two_pow _ (lt32.1 hb))
theorem sigS_lt {x a b c : Nat} (h : x < 4294967296) : sigS x a b c < 4294967296 := xor32 (xor32 (rotr_lt _ _) (rotr_lt _ _)) (shr_lt h _)
theorem sigR_lt {x a b c : Nat} : sigR x a b c < 4294967296 := xor32 (xor32 (rotr_lt _ _) (rotr_lt _ _)) (rotr_lt _ _)
theorem chN_lt {e f g : Nat} (hf : f < 4294967296) (hg : g < 4294967296) : chN e f g < 4294967296 := or32 (and32 hf) (and32 hg)
theorem majN_lt {a b c : Nat} (hb : b < 4294967296) (hc : c < 4294967296) : majN a b c < 4294967296 := or32 (or32 (and32 hb) (and32 hc)) (and32 hc)

theorem rot_parts (x n : Nat) (hx : x < 4294967296) : ((x <<< (32 - n)) % 4294967296) ||| (x >>> n) = rotr x n := by
  have e : (4294967296 : Nat) = 2 ^ 32 := by decide
  have hs := lt32.1 (shr_lt hx n)
  unfold rotr
  rw [e]
  apply Nat.eq_of_testBit_eq
  intro i
  rw [Nat.testBit_or, Nat.testBit_mod_two_pow, Nat.testBit_mod_two_pow, Nat.testBit_or]
  by_cases hi : i < 32
  · simp [hi, Bool.or_comm]
  · have : (x >>> n).testBit i = false := Nat.testBit_lt_two_pow (Nat.lt_of_lt_of_le hs (Nat.pow_le_pow_right (by decide) (by omega)))
    simp [hi, this]

theorem ch_parts (e f g : Nat) (he : e < 4294967296) (hg : g < 4294967296) : g ^^^ (e &&& (f ^^^ g)) = chN e f g := by
  unfold chN
  apply Nat.eq_of_testBit_eq
  intro i
  have h1 : (4294967295 - e) = 2 ^ 32 - (e + 1) := by rw [show (2:Nat) ^ 32 = 4294967296 from by decide]; omega
  rw [Nat.testBit_or, Nat.testBit_and, Nat.testBit_and, Nat.testBit_xor, Nat.testBit_and, Nat.testBit_xor, h1, Nat.testBit_two_pow_sub_succ (lt32.1 he)]
  by_cases hi : i < 32
  · simp [hi]; cases e.testBit i <;> cases f.testBit i <;> cases g.testBit i <;> rfl
  · have hgi : g.testBit i = false := Nat.testBit_lt_two_pow (Nat.lt_of_lt_of_le (lt32.1 hg) (Nat.pow_le_pow_right (by decide) (by omega)))
    have hei : e.testBit i = false := Nat.testBit_lt_two_pow (Nat.lt_of_lt_of_le (lt32.1 he) (Nat.pow_le_pow_right (by decide) (by omega)))
    simp [hi, hgi, hei]

theorem maj_parts (a b c : Nat) : (a &&& b) ||| (c &&& (a ||| b)) = majN a b c := by
  unfold majN
  apply Nat.eq_of_testBit_eq
  intro i
  simp only [Nat.testBit_or, Nat.testBit_and]
  cases a.testBit i <;> cases b.testBit i <;> cases c.testBit i <;> rfl

/-! ### the machine's numbers -/
theorem wraps_u32 (n : Int) (h₀ : 0 ≤ n) (h₁ : n < 2 ^ 32) : IntKind.u32.wrap n = n := by
  rw [show (2 : Int) ^ 32 = 4294967296 from by decide] at h₁
  simp [IntKind.wrap, IntKind.bits, IntKind.signed]; omega
theorem wraps_i64 (n : Int) (h₀ : 0 ≤ n) (h₁ : n < 2 ^ 63) : IntKind.i64.wrap n = n := by
  rw [show (2 : Int) ^ 63 = 9223372036854775808 from by decide] at h₁
  rw [IntKind.wrap_i64]; omega
theorem bits_xor_nat (k : IntKind) (j : Nat) (hj : j ≤ k.bits) (hk : ∀ n : Int, 0 ≤ n → n < 2 ^ j → k.wrap n = n) (a b : Nat) (ha : a < 2 ^ j) (hb : b < 2 ^ j) :
    bits .xor k a b = ((a ^^^ b : Nat) : Int) := by
  have hp : 2 ^ j ≤ 2 ^ k.bits := Nat.pow_le_pow_right (by decide) hj
  have ha' : a % 2 ^ k.bits = a := Nat.mod_eq_of_lt (Nat.lt_of_lt_of_le ha hp)
  have hb' : b % 2 ^ k.bits = b := Nat.mod_eq_of_lt (Nat.lt_of_lt_of_le hb hp)
  have cast : ∀ n : Nat, n < 2 ^ j → ((n : Nat) : Int) < 2 ^ j := fun n h => by exact_mod_cast h
  simp only [bits, BitVec.ofInt_natCast, BitVec.toNat_xor, BitVec.toNat_ofNat, ha', hb']
  exact hk _ (Int.natCast_nonneg _) (cast _ (Nat.xor_lt_two_pow ha hb))
theorem xor_u32 (a b : Nat) (ha : a < 4294967296) (hb : b < 4294967296) : bits .xor .u32 a b = ((a ^^^ b : Nat) : Int) := bits_xor_nat .u32 32 (by decide) wraps_u32 a b (lt32.1 ha) (lt32.1 hb)
theorem or_u32 (a b : Nat) (ha : a < 4294967296) (hb : b < 4294967296) : bits .or .u32 a b = ((a ||| b : Nat) : Int) := (bits_nat .u32 32 (by decide) wraps_u32 a b (lt32.1 ha) (lt32.1 hb)).2
theorem and_u32 (a b : Nat) (ha : a < 4294967296) (hb : b < 4294967296) : bits .and .u32 a b = ((a &&& b : Nat) : Int) := (bits_nat .u32 32 (by decide) wraps_u32 a b (lt32.1 ha) (lt32.1 hb)).1
theorem xor_i64 (a b : Nat) (ha : a < 2 ^ 63) (hb : b < 2 ^ 63) : bits .xor .i64 a b = ((a ^^^ b : Nat) : Int) := bits_xor_nat .i64 63 (by decide) wraps_i64 a b ha hb
theorem or_i64 (a b : Nat) (ha : a < 2 ^ 63) (hb : b < 2 ^ 63) : bits .or .i64 a b = ((a ||| b : Nat) : Int) := (bits_nat .i64 63 (by decide) wraps_i64 a b ha hb).2
theorem and_i64 (a b : Nat) (ha : a < 2 ^ 63) (hb : b < 2 ^ 63) : bits .and .i64 a b = ((a &&& b : Nat) : Int) := (bits_nat .i64 63 (by decide) wraps_i64 a b ha hb).1

/-! ### the sum -/
structure St where
  a : Nat
  b : Nat
  c : Nat
  d : Nat
  e : Nat
  f : Nat
  g : Nat
  h : Nat
deriving DecidableEq
def St.ok (s : St) : Prop := s.a < 4294967296 ∧ s.b < 4294967296 ∧ s.c < 4294967296 ∧ s.d < 4294967296 ∧ s.e < 4294967296 ∧ s.f < 4294967296 ∧ s.g < 4294967296 ∧ s.h < 4294967296
def St.list (s : St) : List Nat := [s.a, s.b, s.c, s.d, s.e, s.f, s.g, s.h]

/-- the next of a block's numbers -/
def wNext (W : List Nat) : Nat :=
  (W.getD (W.length - 16) 0 + sigS (W.getD (W.length - 15) 0) 7 18 3 + W.getD (W.length - 7) 0 + sigS (W.getD (W.length - 2) 0) 17 19 10) % 4294967296
/-- the number of four bytes of a block -/
def num4 (B : List UInt8) (i : Nat) : Nat := getN ((B.drop (4 * i)).take 4)
/-- a block's first numbers -/
def wordsN (B : List UInt8) : Nat → List Nat
  | 0 => []
  | n + 1 => wordsN B n ++ [if n < 16 then num4 B n else wNext (wordsN B n)]

def kays : List Nat := [
  0x428a2f98, 0x71374491, 0xb5c0fbcf, 0xe9b5dba5, 0x3956c25b, 0x59f111f1, 0x923f82a4, 0xab1c5ed5,
  0xd807aa98, 0x12835b01, 0x243185be, 0x550c7dc3, 0x72be5d74, 0x80deb1fe, 0x9bdc06a7, 0xc19bf174,
  0xe49b69c1, 0xefbe4786, 0x0fc19dc6, 0x240ca1cc, 0x2de92c6f, 0x4a7484aa, 0x5cb0a9dc, 0x76f988da,
  0x983e5152, 0xa831c66d, 0xb00327c8, 0xbf597fc7, 0xc6e00bf3, 0xd5a79147, 0x06ca6351, 0x14292967,
  0x27b70a85, 0x2e1b2138, 0x4d2c6dfc, 0x53380d13, 0x650a7354, 0x766a0abb, 0x81c2c92e, 0x92722c85,
  0xa2bfe8a1, 0xa81a664b, 0xc24b8b70, 0xc76c51a3, 0xd192e819, 0xd6990624, 0xf40e3585, 0x106aa070,
  0x19a4c116, 0x1e376c08, 0x2748774c, 0x34b0bcb5, 0x391c0cb3, 0x4ed8aa4a, 0x5b9cca4f, 0x682e6ff3,
  0x748f82ee, 0x78a5636f, 0x84c87814, 0x8cc70208, 0x90befffa, 0xa4506ceb, 0xbef9a3f7, 0xc67178f2]
def st0 : St := ⟨0x6a09e667, 0xbb67ae85, 0x3c6ef372, 0xa54ff53a, 0x510e527f, 0x9b05688c, 0x1f83d9ab, 0x5be0cd19⟩

def tN (s : St) (k w : Nat) : Nat := s.h + sigR s.e 6 11 25 + chN s.e s.f s.g + k + w
def uN (s : St) : Nat := sigR s.a 2 13 22 + majN s.a s.b s.c
def roundN (s : St) (k w : Nat) : St := ⟨(tN s k w + uN s) % 4294967296, s.a, s.b, s.c, (s.d + tN s k w) % 4294967296, s.e, s.f, s.g⟩
def roundsN (s : St) (W : List Nat) : Nat → St
  | 0 => s
  | n + 1 => roundN (roundsN s W n) (kays.getD n 0) (W.getD n 0)
def addN (x s : St) : St := ⟨(x.a + s.a) % 4294967296, (x.b + s.b) % 4294967296, (x.c + s.c) % 4294967296, (x.d + s.d) % 4294967296, (x.e + s.e) % 4294967296, (x.f + s.f) % 4294967296, (x.g + s.g) % 4294967296, (x.h + s.h) % 4294967296⟩
/-- the state that a block turns one to -/
def turnN (s : St) (B : List UInt8) : St := addN (roundsN s (wordsN B 64) 64) s

theorem getN4_lt (l : List UInt8) : getN (l.take 4) < 4294967296 := by
  have h := getN_lt (l.take 4)
  have h2 : (256 : Nat) ^ (l.take 4).length ≤ 256 ^ 4 := Nat.pow_le_pow_right (by decide) (by simp; omega)
  have h3 : (256 : Nat) ^ 4 = 4294967296 := by decide
  omega
theorem num4_lt (B : List UInt8) (i : Nat) : num4 B i < 4294967296 := getN4_lt _
theorem wordsN_length (B : List UInt8) (n : Nat) : (wordsN B n).length = n := by
  induction n with
  | zero => rfl
  | succ n ih => simp [wordsN, ih]
theorem wNext_lt (W : List Nat) : wNext W < 4294967296 := Nat.mod_lt _ (by decide)
theorem wordsN_lt (B : List UInt8) (n : Nat) : ∀ x ∈ wordsN B n, x < 4294967296 := by
  induction n with
  | zero => intro x hx; cases hx
  | succ n ih =>
    intro x hx
    rw [wordsN, List.mem_append, List.mem_singleton] at hx
    rcases hx with hx | rfl
    · exact ih x hx
    · split
      · exact num4_lt _ _
      · exact wNext_lt _
theorem getD_lt {l : List Nat} (h : ∀ x ∈ l, x < 4294967296) (i : Nat) : l.getD i 0 < 4294967296 := by
  rw [List.getD_eq_getElem?_getD]
  cases e : l[i]? with
  | none => simp
  | some x => exact h x (List.mem_of_getElem? e)
theorem kays_lt : ∀ x ∈ kays, x < 4294967296 := by decide
theorem st0_ok : st0.ok := by unfold St.ok; decide
theorem roundN_ok {s : St} (h : s.ok) (k w : Nat) : (roundN s k w).ok := by
  obtain ⟨h1, h2, h3, h4, h5, h6, h7, h8⟩ := h
  exact ⟨Nat.mod_lt _ (by decide), h1, h2, h3, Nat.mod_lt _ (by decide), h5, h6, h7⟩
theorem roundsN_ok {s : St} (h : s.ok) (W : List Nat) (n : Nat) : (roundsN s W n).ok := by
  induction n with
  | zero => exact h
  | succ n ih => exact roundN_ok ih _ _
theorem addN_ok (x s : St) : (addN x s).ok := by
  refine ⟨?_, ?_, ?_, ?_, ?_, ?_, ?_, ?_⟩ <;> exact Nat.mod_lt _ (by decide)
theorem turnN_ok (s : St) (B : List UInt8) : (turnN s B).ok := addN_ok _ _

/-- a state's bytes -/
def textL (s : St) : List UInt8 := putL 4 s.a ++ (putL 4 s.b ++ (putL 4 s.c ++ (putL 4 s.d ++ (putL 4 s.e ++ (putL 4 s.f ++ (putL 4 s.g ++ putL 4 s.h))))))
/-- the state that a text's blocks turn one to -/
def foldN (s : St) (l : List UInt8) : St :=
  if h : 64 ≤ l.length then foldN (turnN s (l.take 64)) (l.drop 64) else s
termination_by l.length
decreasing_by simp; omega
/-- what stands behind so many bytes -/
def padL (n : Nat) : List UInt8 := 128 :: (List.replicate (63 - (n + 8) % 64) 0 ++ putL 8 (8 * n))
/-- the sum -/
def shaL (l : List UInt8) : List UInt8 := textL (foldN st0 (l ++ padL l.length))

end Ks
/- A text's blocks, one by one: plain laws of the digest. No program is in sight. -/
namespace Ks
open Go Go.RowKit
set_option linter.unusedVariables false
theorem foldN_ge (s : St) (l : List UInt8) (h : 64 ≤ l.length) : foldN s l = foldN (turnN s (l.take 64)) (l.drop 64) := by
  rw [foldN]; simp [h]
theorem foldN_lt (s : St) (l : List UInt8) (h : l.length < 64) : foldN s l = s := by
  rw [foldN]; simp [show ¬ 64 ≤ l.length by omega]
/-- what is left behind whole blocks -/
def restL (l : List UInt8) : List UInt8 := l.drop (64 * (l.length / 64))
theorem restL_length (l : List UInt8) : (restL l).length = l.length % 64 := by simp only [restL, List.length_drop]; omega
theorem restL_lt (l : List UInt8) (h : l.length < 64) : restL l = l := by rw [restL, Nat.div_eq_of_lt h]; simp
theorem restL_ge (l : List UInt8) (h : 64 ≤ l.length) : restL l = restL (l.drop 64) := by
  rw [restL, restL, List.drop_drop, List.length_drop]; congr 1; omega
theorem foldN_append (B : List UInt8) : ∀ (n : Nat) (s : St) (A : List UInt8), A.length = n → foldN s (A ++ B) = foldN (foldN s A) (restL A ++ B) := by
  intro n
  induction n using Nat.strongRecOn with
  | _ n ih =>
    intro s A hA
    by_cases h : 64 ≤ A.length
    · rw [foldN_ge s A h, restL_ge A h, foldN_ge s (A ++ B) (by simp; omega), List.take_append_of_le_length h, List.drop_append_of_le_length h]
      exact ih (n - 64) (by omega) _ _ (by simp; omega)
    · rw [foldN_lt s A (by omega), restL_lt A (by omega)]
theorem restL_append (B : List UInt8) : ∀ (n : Nat) (A : List UInt8), A.length = n → restL (A ++ B) = restL (restL A ++ B) := by
  intro n
  induction n using Nat.strongRecOn with
  | _ n ih =>
    intro A hA
    by_cases h : 64 ≤ A.length
    · rw [restL_ge A h, restL_ge (A ++ B) (by simp; omega), List.drop_append_of_le_length h]
      exact ih (n - 64) (by omega) _ (by simp; omega)
    · rw [restL_lt A (by omega)]
theorem foldN_ok : ∀ (n : Nat) (s : St) (l : List UInt8), l.length = n → s.ok → (foldN s l).ok := by
  intro n
  induction n using Nat.strongRecOn with
  | _ n ih =>
    intro s l hl hs
    by_cases h : 64 ≤ l.length
    · rw [foldN_ge s l h]; exact ih (n - 64) (by omega) _ _ (by simp; omega) (turnN_ok _ _)
    · rw [foldN_lt s l (by omega)]; exact hs
theorem fold0_ok (l : List UInt8) : (foldN st0 l).ok := foldN_ok _ _ _ rfl st0_ok
theorem padL_length (n : Nat) : (padL n).length = 72 - (n + 8) % 64 := by simp [padL, putL_length]; omega
theorem padded (l : List UInt8) : (l ++ padL l.length).length % 64 = 0 := by rw [List.length_append, padL_length]; omega
theorem textL_length (s : St) : (textL s).length = 32 := by simp [textL, putL_length]
theorem shaL_length (l : List UInt8) : (shaL l).length = 32 := textL_length _
end Ks
/- A volume's shape: plain. -/
namespace Ks
open Go Go.RowKit
set_option linter.unusedVariables false
def geoOk (b l f : Int) : Bool := decide (8 ≤ b ∧ b ≤ 1024 ∧ 1 ≤ l ∧ l ≤ 4096 ∧ 0 ≤ f ∧ f ≤ 4294967295)
theorem geo_ok {b l f : Int} : geoOk b l f = true ↔ 8 ≤ b ∧ b ≤ 1024 ∧ 1 ≤ l ∧ l ≤ 4096 ∧ 0 ≤ f ∧ f ≤ 4294967295 := by simp [geoOk]
def geoE (b l f : Int) : Int := if geoOk b l f then 0 else 2
def geoD (b l f : Int) : Int := if geoOk b l f then b - 4 else 0
def geoL (b l f : Int) : List UInt8 := putL 4 b.toNat ++ putL 4 l.toNat ++ putL 4 f.toNat
def geoS (b l f : Int) : ByteArray := if geoOk b l f then ⟨(geoL b l f).toArray⟩ else ⟨#[]⟩
theorem geoL_length (b l f : Int) : (geoL b l f).length = 12 := by simp [geoL]
/-- either bad in one of six ways, or right -/
theorem geo_cases (b l f : Int) : (b < 8 ∧ geoOk b l f = false) ∨ (8 ≤ b ∧ 1024 < b ∧ geoOk b l f = false) ∨ (8 ≤ b ∧ b ≤ 1024 ∧ l < 1 ∧ geoOk b l f = false) ∨ (8 ≤ b ∧ b ≤ 1024 ∧ 1 ≤ l ∧ 4096 < l ∧ geoOk b l f = false) ∨
    (8 ≤ b ∧ b ≤ 1024 ∧ 1 ≤ l ∧ l ≤ 4096 ∧ f < 0 ∧ geoOk b l f = false) ∨ (8 ≤ b ∧ b ≤ 1024 ∧ 1 ≤ l ∧ l ≤ 4096 ∧ 0 ≤ f ∧ 4294967295 < f ∧ geoOk b l f = false) ∨ (8 ≤ b ∧ b ≤ 1024 ∧ 1 ≤ l ∧ l ≤ 4096 ∧ 0 ≤ f ∧ f ≤ 4294967295 ∧ geoOk b l f = true) := by
  have e : geoOk b l f = decide (8 ≤ b ∧ b ≤ 1024 ∧ 1 ≤ l ∧ l ≤ 4096 ∧ 0 ≤ f ∧ f ≤ 4294967295) := rfl
  rw [e]
  simp only [decide_eq_false_iff_not, decide_eq_true_eq]
  omega
/-- as it is packed -/
theorem geo_pack (b l f : Int) (h : geoOk b l f = true) : packE [4, 4, 4] [b, l, f] = 0 ∧ packS [4, 4, 4] [b, l, f] = geoS b l f := by
  obtain ⟨h1, h2, h3, h4, h5, h6⟩ := geo_ok.1 h
  have hp : packOk [4, 4, 4] [b, l, f] = true := by
    simp only [packOk, decide_eq_true_eq]
    refine ⟨rfl, fun i hi => ?_⟩
    match i, hi with
    | 0, _ => exact putOk4 b (by omega) (by omega)
    | 1, _ => exact putOk4 l (by omega) (by omega)
    | 2, _ => exact putOk4 f h5 h6
    | n + 3, hi => exact absurd hi (by simp)
  refine ⟨by rw [packE, if_pos hp], ?_⟩
  rw [packS, if_pos hp, geoS, if_pos h, geoL]
  simp [packTo]
theorem geo_cat (b l f : Int) (h : geoOk b l f = true) : putS b 4 ++ putS l 4 ++ putS f 4 = geoS b l f := by
  obtain ⟨h1, h2, h3, h4, h5, h6⟩ := geo_ok.1 h
  rw [putS4 b (by omega) (by omega), putS4 l (by omega) (by omega), putS4 f h5 h6, ByteArray.mk_append_mk, ByteArray.mk_append_mk, geoS, if_pos h, geoL]
/-- which shape some bytes are -/
def geoT (s : ByteArray) : Bool := decide (s.size = 12 ∧ geoOk (numAt s 0 4) (numAt s 4 4) (numAt s 8 4) = true)
theorem geo_no {b l f : Int} (h : geoOk b l f = false) : geoS b l f = ⟨#[]⟩ ∧ geoE b l f = 2 ∧ geoD b l f = 0 := by
  have h' : ¬ geoOk b l f = true := by rw [h]; exact Bool.false_ne_true
  exact ⟨by rw [geoS, if_neg h'], by rw [geoE, if_neg h'], by rw [geoD, if_neg h']⟩
theorem geo_yes {b l f : Int} (h : geoOk b l f = true) : geoE b l f = 0 ∧ geoD b l f = b - 4 := ⟨by rw [geoE, if_pos h], by rw [geoD, if_pos h]⟩
theorem geo_size (b l f : Int) (h : geoOk b l f = true) : (geoS b l f).size = 12 := by
  rw [geoS, if_pos h]; exact geoL_length b l f
/-- put again it is those bytes -/
theorem geo_back (s : ByteArray) (h : geoT s = true) : geoS (numAt s 0 4) (numAt s 4 4) (numAt s 8 4) = s := by
  simp only [geoT, decide_eq_true_eq] at h
  obtain ⟨hz, ho⟩ := h
  rw [geoS, if_pos ho]
  apply bytes_ext
  show geoL _ _ _ = s.data.toList
  have hl := data_length s
  have key : ∀ i, i + 4 ≤ 12 → putL 4 (numAt s i 4) = (s.data.toList.drop i).take 4 := fun i hi => by
    have hlen : ((s.data.toList.drop i).take 4).length = 4 := by rw [List.length_take, List.length_drop]; omega
    have := putL_getN ((s.data.toList.drop i).take 4)
    rw [hlen] at this
    exact this
  unfold geoL
  simp only [Int.toNat_natCast]
  rw [key 0 (by omega), key 4 (by omega), key 8 (by omega), List.drop_zero]
  generalize s.data.toList = L at *
  have e1 : L = L.take 4 ++ ((L.drop 4).take 4 ++ (L.drop 8).take 4) := by
    conv => lhs; rw [← List.take_append_drop 4 L]
    congr 1
    conv => lhs; rw [← List.take_append_drop 4 (L.drop 4)]
    rw [List.drop_drop]
    congr 1
    exact (List.take_of_length_le (by rw [List.length_drop]; omega)).symm
  rw [List.append_assoc]
  exact e1.symm
theorem geo_nums (b l f : Int) (h : geoOk b l f = true) : geoT (geoS b l f) = true ∧ (numAt (geoS b l f) 0 4 : Int) = b ∧ (numAt (geoS b l f) 4 4 : Int) = l ∧ (numAt (geoS b l f) 8 4 : Int) = f := by
  obtain ⟨h1, h2, h3, h4, h5, h6⟩ := geo_ok.1 h
  have hz := geo_size b l f h
  have hd : (geoS b l f).data.toList = geoL b l f := by rw [geoS, if_pos h]
  have n0 : (numAt (geoS b l f) 0 4 : Int) = b := by
    unfold numAt
    rw [hd, geoL, show putL 4 b.toNat ++ putL 4 l.toNat ++ putL 4 f.toNat = [] ++ (putL 4 b.toNat ++ (putL 4 l.toNat ++ putL 4 f.toNat)) by simp, piece_mid _ _ _ 0 4 rfl (putL_length _ _), getN_put4 _ (by omega)]
    omega
  have n1 : (numAt (geoS b l f) 4 4 : Int) = l := by
    unfold numAt
    rw [hd, geoL, show putL 4 b.toNat ++ putL 4 l.toNat ++ putL 4 f.toNat = putL 4 b.toNat ++ (putL 4 l.toNat ++ putL 4 f.toNat) by simp, piece_mid _ _ _ 4 4 (putL_length _ _) (putL_length _ _), getN_put4 _ (by omega)]
    omega
  have n2 : (numAt (geoS b l f) 8 4 : Int) = f := by
    unfold numAt
    rw [hd, geoL, show putL 4 b.toNat ++ putL 4 l.toNat ++ putL 4 f.toNat = (putL 4 b.toNat ++ putL 4 l.toNat) ++ (putL 4 f.toNat ++ []) by simp, piece_mid _ _ _ 8 4 (by simp) (putL_length _ _), getN_put4 _ (by omega)]
    omega
  refine ⟨?_, n0, n1, n2⟩
  simp only [geoT, decide_eq_true_eq]
  rw [n0, n1, n2]
  exact ⟨hz, h⟩
/-- unpacked -/
theorem geo_unpack (s : ByteArray) : (s.size = 12 ∧ unpackE [4, 4, 4] s = 0 ∧ unpackL [4, 4, 4] s = [(numAt s 0 4 : Int), (numAt s 4 4 : Int), (numAt s 8 4 : Int)]) ∨ (s.size ≠ 12 ∧ unpackE [4, 4, 4] s = 3) := by
  have hl := data_length s
  by_cases hz : s.size = 12
  · left
    have p0 : piece [4, 4, 4] s.data.toList 0 = (s.data.toList.drop 0).take 4 := rfl
    have p1 : piece [4, 4, 4] s.data.toList 1 = (s.data.toList.drop 4).take 4 := rfl
    have p2 : piece [4, 4, 4] s.data.toList 2 = (s.data.toList.drop 8).take 4 := rfl
    have hE : unpackE [4, 4, 4] s = 0 := by
      rw [unpackE, if_pos (by decide), if_pos (by rw [hz]; rfl), if_pos]
      simp only [piecesOk, decide_eq_true_eq]
      intro i hi
      match i, hi with
      | 0, _ => rw [p0]; exact getOk_small _ (by simp; omega) (by simp; omega)
      | 1, _ => rw [p1]; exact getOk_small _ (by simp; omega) (by simp; omega)
      | 2, _ => rw [p2]; exact getOk_small _ (by simp; omega) (by simp; omega)
      | n + 3, hi => exact absurd hi (by simp)
    refine ⟨hz, hE, ?_⟩
    rw [unpackL, if_pos hE]
    show (List.range 3).map _ = _
    rw [show List.range 3 = [0, 1, 2] from rfl]
    simp only [List.map_cons, List.map_nil]
    rw [p0, p1, p2]
    rfl
  · right
    refine ⟨hz, ?_⟩
    rw [unpackE, if_pos (by decide), if_neg]
    exact fun h => hz h
end Ks
/- Superblocks: plain. -/
namespace Ks
open Go Go.RowKit
set_option linter.unusedVariables false
def supOk (g t e c b l f : Int) : Bool := geoOk b l f && decide (1 ≤ g ∧ g ≤ 1152921504606846976 ∧ 0 ≤ t ∧ t ≤ b - 4 ∧ f ≤ e ∧ e ≤ 4294967295 ∧ 0 ≤ c ∧ c ≤ 1099511627776)
theorem sup_ok {g t e c b l f : Int} : supOk g t e c b l f = true ↔ geoOk b l f = true ∧ 1 ≤ g ∧ g ≤ 1152921504606846976 ∧ 0 ≤ t ∧ t ≤ b - 4 ∧ f ≤ e ∧ e ≤ 4294967295 ∧ 0 ≤ c ∧ c ≤ 1099511627776 := by simp [supOk]
def supE (g t e c b l f : Int) : Int := if supOk g t e c b l f then 0 else 2
def markL : List UInt8 := [107, 101, 101, 112, 115, 97, 107, 101, 49]
def supN (g t e c : Int) : List UInt8 := putL 8 g.toNat ++ putL 4 t.toNat ++ putL 4 e.toNat ++ putL 8 c.toNat
def supL (g t e c b l f : Int) : List UInt8 := markL ++ supN g t e c ++ geoL b l f
def supB (g t e c b l f : Int) : List UInt8 := supL g t e c b l f ++ (shaL (supL g t e c b l f) ++ List.replicate 4019 0)
def supS (g t e c b l f : Int) : ByteArray := if supOk g t e c b l f then ⟨(supB g t e c b l f).toArray⟩ else ⟨#[]⟩
theorem supN_length (g t e c : Int) : (supN g t e c).length = 24 := by simp [supN]
theorem supL_length (g t e c b l f : Int) : (supL g t e c b l f).length = 45 := by rw [supL, List.length_append, List.length_append, supN_length, geoL_length]; rfl
theorem sup_no {g t e c b l f : Int} (h : supOk g t e c b l f = false) : supS g t e c b l f = ⟨#[]⟩ ∧ supE g t e c b l f = 2 := by
  have h' : ¬ supOk g t e c b l f = true := by rw [h]; exact Bool.false_ne_true
  exact ⟨by rw [supS, if_neg h'], by rw [supE, if_neg h']⟩
theorem sup_yes {g t e c b l f : Int} (h : supOk g t e c b l f = true) : supE g t e c b l f = 0 := by rw [supE, if_pos h]
/-- either bad in one of nine ways, or right -/
theorem sup_cases (g t e c b l f : Int) : (geoOk b l f = false ∧ supOk g t e c b l f = false) ∨ (geoOk b l f = true ∧ (
    (g < 1 ∧ supOk g t e c b l f = false) ∨ (1 ≤ g ∧ 1152921504606846976 < g ∧ supOk g t e c b l f = false) ∨ (1 ≤ g ∧ g ≤ 1152921504606846976 ∧ t < 0 ∧ supOk g t e c b l f = false) ∨
    (1 ≤ g ∧ g ≤ 1152921504606846976 ∧ 0 ≤ t ∧ b - 4 < t ∧ supOk g t e c b l f = false) ∨ (1 ≤ g ∧ g ≤ 1152921504606846976 ∧ 0 ≤ t ∧ t ≤ b - 4 ∧ (
      (e < f ∧ supOk g t e c b l f = false) ∨ (f ≤ e ∧ 4294967295 < e ∧ supOk g t e c b l f = false) ∨ (f ≤ e ∧ e ≤ 4294967295 ∧ c < 0 ∧ supOk g t e c b l f = false) ∨ (f ≤ e ∧ e ≤ 4294967295 ∧ 0 ≤ c ∧ 1099511627776 < c ∧ supOk g t e c b l f = false) ∨
      (f ≤ e ∧ e ≤ 4294967295 ∧ 0 ≤ c ∧ c ≤ 1099511627776 ∧ supOk g t e c b l f = true))))) := by
  have e0 : supOk g t e c b l f = (geoOk b l f && decide (1 ≤ g ∧ g ≤ 1152921504606846976 ∧ 0 ≤ t ∧ t ≤ b - 4 ∧ f ≤ e ∧ e ≤ 4294967295 ∧ 0 ≤ c ∧ c ≤ 1099511627776)) := rfl
  rw [e0]
  cases geoOk b l f
  · left; exact ⟨rfl, rfl⟩
  · right
    refine ⟨rfl, ?_⟩
    simp only [Bool.true_and, decide_eq_false_iff_not, decide_eq_true_eq]
    omega
theorem putOk8 (n : Int) (h0 : 0 ≤ n) : putOk n 8 = true := by
  simp only [putOk, decide_eq_true_eq]
  exact ⟨by omega, by omega, h0, fun h => absurd h (by decide)⟩
theorem putS8 (n : Int) (h0 : 0 ≤ n) : putS n 8 = ⟨(putL 8 n.toNat).toArray⟩ := by rw [putS, if_pos (putOk8 n h0)]; rfl
theorem sup_pack (g t e c : Int) (h1 : 0 ≤ g) (h2 : 0 ≤ t ∧ t ≤ 4294967295) (h3 : 0 ≤ e ∧ e ≤ 4294967295) (h4 : 0 ≤ c) : packE [8, 4, 4, 8] [g, t, e, c] = 0 ∧ packS [8, 4, 4, 8] [g, t, e, c] = ⟨(supN g t e c).toArray⟩ := by
  have hp : packOk [8, 4, 4, 8] [g, t, e, c] = true := by
    simp only [packOk, decide_eq_true_eq]
    refine ⟨rfl, fun i hi => ?_⟩
    match i, hi with
    | 0, _ => exact putOk8 g h1
    | 1, _ => exact putOk4 t h2.1 h2.2
    | 2, _ => exact putOk4 e h3.1 h3.2
    | 3, _ => exact putOk8 c h4
    | n + 4, hi => exact absurd hi (by simp)
  refine ⟨by rw [packE, if_pos hp], ?_⟩
  rw [packS, if_pos hp, supN]
  simp [packTo]
def markB : ByteArray := ⟨#[107, 101, 101, 112, 115, 97, 107, 101, 49]⟩
theorem sup_cat (g t e c b l f : Int) (h : supOk g t e c b l f = true) : (⟨(supN g t e c).toArray⟩ : ByteArray).size = 24 ∧ (markB ++ (⟨(supN g t e c).toArray⟩ : ByteArray) ++ geoS b l f).data.toList = supL g t e c b l f ∧ (markB ++ (⟨(supN g t e c).toArray⟩ : ByteArray) ++ geoS b l f).size = 45 ∧
    (markB ++ (⟨(supN g t e c).toArray⟩ : ByteArray) ++ geoS b l f ++ (⟨(shaL (supL g t e c b l f)).toArray⟩ : ByteArray)).size = 77 ∧
    fillS (markB ++ (⟨(supN g t e c).toArray⟩ : ByteArray) ++ geoS b l f ++ (⟨(shaL (supL g t e c b l f)).toArray⟩ : ByteArray)) 4096 = supS g t e c b l f ∧ fillE (markB ++ (⟨(supN g t e c).toArray⟩ : ByteArray) ++ geoS b l f ++ (⟨(shaL (supL g t e c b l f)).toArray⟩ : ByteArray)) 4096 = 0 ∧
    markB ++ (⟨(supN g t e c).toArray⟩ : ByteArray) ++ geoS b l f ++ (⟨(shaL (supL g t e c b l f)).toArray⟩ : ByteArray) ++ zerosS 4019 = supS g t e c b l f := by
  have hg := (sup_ok.1 h).1
  have e1 : markB ++ (⟨(supN g t e c).toArray⟩ : ByteArray) ++ geoS b l f = ⟨(supL g t e c b l f).toArray⟩ := by
    rw [geoS, if_pos hg, show markB = ⟨markL.toArray⟩ from rfl, ByteArray.mk_append_mk, ByteArray.mk_append_mk, supL]
  have e2 : markB ++ (⟨(supN g t e c).toArray⟩ : ByteArray) ++ geoS b l f ++ (⟨(shaL (supL g t e c b l f)).toArray⟩ : ByteArray) = ⟨(supL g t e c b l f ++ shaL (supL g t e c b l f)).toArray⟩ := by rw [e1, ByteArray.mk_append_mk]
  have hz : (markB ++ (⟨(supN g t e c).toArray⟩ : ByteArray) ++ geoS b l f ++ (⟨(shaL (supL g t e c b l f)).toArray⟩ : ByteArray)).size = 77 := by
    rw [e2]
    show (supL g t e c b l f ++ shaL (supL g t e c b l f)).length = _
    rw [List.length_append, supL_length, shaL_length]
  have hR : markB ++ (⟨(supN g t e c).toArray⟩ : ByteArray) ++ geoS b l f ++ (⟨(shaL (supL g t e c b l f)).toArray⟩ : ByteArray) ++ zerosS 4019 = supS g t e c b l f := by
    rw [e2, zerosS, ByteArray.mk_append_mk, supS, if_pos h, supB, List.append_assoc]
    rfl
  refine ⟨supN_length g t e c, by rw [e1], by rw [e1]; exact supL_length g t e c b l f, hz, ?_, ?_, hR⟩
  · rw [fillS, if_pos (by simp only [fillOk, decide_eq_true_eq]; rw [hz]; omega), hz]
    exact hR
  · rw [fillE, if_pos (by simp only [fillOk, decide_eq_true_eq]; rw [hz]; omega)]
theorem supN_eq (g t e c : Int) (h1 : 0 ≤ g) (h2 : 0 ≤ t ∧ t ≤ 4294967295) (h3 : 0 ≤ e ∧ e ≤ 4294967295) (h4 : 0 ≤ c) : markB ++ putS g 8 ++ putS t 4 ++ putS e 4 ++ putS c 8 = markB ++ (⟨(supN g t e c).toArray⟩ : ByteArray) := by
  rw [putS8 g h1, putS4 t h2.1 h2.2, putS4 e h3.1 h3.2, putS8 c h4, show markB = ⟨markL.toArray⟩ from rfl, ByteArray.mk_append_mk, ByteArray.mk_append_mk, ByteArray.mk_append_mk, ByteArray.mk_append_mk, ByteArray.mk_append_mk, supN]
  simp
end Ks
/- The numbers in a superblock's bytes. Plain. -/
namespace Ks
open Go Go.RowKit
set_option linter.unusedVariables false
/-- which superblock any bytes are -/
def stOk (s : ByteArray) : Bool := decide (s.size = 4096 ∧ supOk (numAt s 9 8) (numAt s 17 4) (numAt s 21 4) (numAt s 25 8) (numAt s 33 4) (numAt s 37 4) (numAt s 41 4) = true ∧ supS (numAt s 9 8) (numAt s 17 4) (numAt s 21 4) (numAt s 25 8) (numAt s 33 4) (numAt s 37 4) (numAt s 41 4) = s)
def stE (s : ByteArray) : Int := if stOk s then 0 else 3
def stN (s : ByteArray) (i n : Nat) : Int := if stOk s then (numAt s i n : Int) else 0
theorem st_ok {s : ByteArray} : stOk s = true ↔ s.size = 4096 ∧ supOk (numAt s 9 8) (numAt s 17 4) (numAt s 21 4) (numAt s 25 8) (numAt s 33 4) (numAt s 37 4) (numAt s 41 4) = true ∧ supS (numAt s 9 8) (numAt s 17 4) (numAt s 21 4) (numAt s 25 8) (numAt s 33 4) (numAt s 37 4) (numAt s 41 4) = s := by simp [stOk]
theorem st_no {s : ByteArray} (h : ¬ stOk s = true) : stE s = 3 ∧ stOk s = false ∧ ∀ i n, stN s i n = 0 := ⟨by rw [stE, if_neg h], by simpa using h, fun i n => by rw [stN, if_neg h]⟩
theorem st_yes {s : ByteArray} (h : stOk s = true) : stE s = 0 ∧ ∀ i n, stN s i n = numAt s i n := ⟨by rw [stE, if_pos h], fun i n => by rw [stN, if_pos h]⟩
theorem getN_put8 (n : Nat) (h : n < 18446744073709551616) : getN (putL 8 n) = n := by
  rw [getN_putL, show (256 : Nat) ^ 8 = 18446744073709551616 by decide]
  exact Nat.mod_eq_of_lt h
theorem sup_size (g t e c b l f : Int) (h : supOk g t e c b l f = true) : (supS g t e c b l f).size = 4096 := by
  rw [supS, if_pos h]
  show (supB g t e c b l f).length = 4096
  rw [supB, List.length_append, List.length_append, supL_length, shaL_length, List.length_replicate]
theorem sup_nums (g t e c b l f : Int) (h : supOk g t e c b l f = true) : (numAt (supS g t e c b l f) 9 8 : Int) = g ∧ (numAt (supS g t e c b l f) 17 4 : Int) = t ∧ (numAt (supS g t e c b l f) 21 4 : Int) = e ∧ (numAt (supS g t e c b l f) 25 8 : Int) = c ∧
    (numAt (supS g t e c b l f) 33 4 : Int) = b ∧ (numAt (supS g t e c b l f) 37 4 : Int) = l ∧ (numAt (supS g t e c b l f) 41 4 : Int) = f := by
  obtain ⟨hg, h1, h2, h3, h4, h5, h6, h7, h8⟩ := sup_ok.1 h
  obtain ⟨b1, b2, b3, b4, b5, b6⟩ := geo_ok.1 hg
  obtain ⟨R, hR⟩ : ∃ R, shaL (supL g t e c b l f) ++ List.replicate 4019 0 = R := ⟨_, rfl⟩
  have hd : (supS g t e c b l f).data.toList = markL ++ supN g t e c ++ geoL b l f ++ R := by rw [supS, if_pos h, ← hR]; rfl
  unfold numAt
  rw [hd, supN, geoL]
  clear hd hR
  obtain ⟨A, hA⟩ : ∃ A, putL 8 g.toNat = A := ⟨_, rfl⟩
  obtain ⟨B, hB⟩ : ∃ B, putL 4 t.toNat = B := ⟨_, rfl⟩
  obtain ⟨C, hC⟩ : ∃ C, putL 4 e.toNat = C := ⟨_, rfl⟩
  obtain ⟨D, hD⟩ : ∃ D, putL 8 c.toNat = D := ⟨_, rfl⟩
  obtain ⟨E, hE⟩ : ∃ E, putL 4 b.toNat = E := ⟨_, rfl⟩
  obtain ⟨F, hF⟩ : ∃ F, putL 4 l.toNat = F := ⟨_, rfl⟩
  obtain ⟨G, hG⟩ : ∃ G, putL 4 f.toNat = G := ⟨_, rfl⟩
  have lM : markL.length = 9 := rfl
  have lA : A.length = 8 := by rw [← hA]; exact putL_length _ _
  have lB : B.length = 4 := by rw [← hB]; exact putL_length _ _
  have lC : C.length = 4 := by rw [← hC]; exact putL_length _ _
  have lD : D.length = 8 := by rw [← hD]; exact putL_length _ _
  have lE : E.length = 4 := by rw [← hE]; exact putL_length _ _
  have lF : F.length = 4 := by rw [← hF]; exact putL_length _ _
  have lG : G.length = 4 := by rw [← hG]; exact putL_length _ _
  have vA : (getN A : Int) = g := by rw [← hA, getN_put8 _ (by omega)]; omega
  have vB : (getN B : Int) = t := by rw [← hB, getN_put4 _ (by omega)]; omega
  have vC : (getN C : Int) = e := by rw [← hC, getN_put4 _ (by omega)]; omega
  have vD : (getN D : Int) = c := by rw [← hD, getN_put8 _ (by omega)]; omega
  have vE : (getN E : Int) = b := by rw [← hE, getN_put4 _ (by omega)]; omega
  have vF : (getN F : Int) = l := by rw [← hF, getN_put4 _ (by omega)]; omega
  have vG : (getN G : Int) = f := by rw [← hG, getN_put4 _ (by omega)]; omega
  rw [hA, hB, hC, hD, hE, hF, hG]
  clear hA hB hC hD hE hF hG
  obtain ⟨M, hM⟩ : ∃ M, markL = M := ⟨_, rfl⟩
  rw [hM] at lM ⊢
  clear hM
  refine ⟨?_, ?_, ?_, ?_, ?_, ?_, ?_⟩
  · rw [show M ++ (A ++ B ++ C ++ D) ++ (E ++ F ++ G) ++ R = M ++ (A ++ (B ++ C ++ D ++ E ++ F ++ G ++ R)) by simp, piece_mid _ _ _ 9 8 lM lA]; exact vA
  · rw [show M ++ (A ++ B ++ C ++ D) ++ (E ++ F ++ G) ++ R = (M ++ A) ++ (B ++ (C ++ D ++ E ++ F ++ G ++ R)) by simp, piece_mid _ _ _ 17 4 (by rw [List.length_append]; omega) lB]; exact vB
  · rw [show M ++ (A ++ B ++ C ++ D) ++ (E ++ F ++ G) ++ R = (M ++ A ++ B) ++ (C ++ (D ++ E ++ F ++ G ++ R)) by simp, piece_mid _ _ _ 21 4 (by rw [List.length_append, List.length_append]; omega) lC]; exact vC
  · rw [show M ++ (A ++ B ++ C ++ D) ++ (E ++ F ++ G) ++ R = (M ++ A ++ B ++ C) ++ (D ++ (E ++ F ++ G ++ R)) by simp, piece_mid _ _ _ 25 8 (by rw [List.length_append, List.length_append, List.length_append]; omega) lD]; exact vD
  · rw [show M ++ (A ++ B ++ C ++ D) ++ (E ++ F ++ G) ++ R = (M ++ A ++ B ++ C ++ D) ++ (E ++ (F ++ G ++ R)) by simp, piece_mid _ _ _ 33 4 (by rw [List.length_append, List.length_append, List.length_append, List.length_append]; omega) lE]; exact vE
  · rw [show M ++ (A ++ B ++ C ++ D) ++ (E ++ F ++ G) ++ R = (M ++ A ++ B ++ C ++ D ++ E) ++ (F ++ (G ++ R)) by simp, piece_mid _ _ _ 37 4 (by rw [List.length_append, List.length_append, List.length_append, List.length_append, List.length_append]; omega) lF]; exact vF
  · rw [show M ++ (A ++ B ++ C ++ D) ++ (E ++ F ++ G) ++ R = (M ++ A ++ B ++ C ++ D ++ E ++ F) ++ (G ++ R) by simp, piece_mid _ _ _ 41 4 (by rw [List.length_append, List.length_append, List.length_append, List.length_append, List.length_append, List.length_append]; omega) lG]; exact vG
/-- what was put is taken as it was -/
theorem st_sup (g t e c b l f : Int) (h : supOk g t e c b l f = true) : stOk (supS g t e c b l f) = true ∧ stN (supS g t e c b l f) 9 8 = g ∧ stN (supS g t e c b l f) 17 4 = t ∧ stN (supS g t e c b l f) 21 4 = e ∧ stN (supS g t e c b l f) 25 8 = c ∧
    stN (supS g t e c b l f) 33 4 = b ∧ stN (supS g t e c b l f) 37 4 = l ∧ stN (supS g t e c b l f) 41 4 = f := by
  obtain ⟨n1, n2, n3, n4, n5, n6, n7⟩ := sup_nums g t e c b l f h
  have hok : stOk (supS g t e c b l f) = true := by
    rw [st_ok, n1, n2, n3, n4, n5, n6, n7]
    exact ⟨sup_size g t e c b l f h, h, rfl⟩
  have hy := (st_yes hok).2
  refine ⟨hok, ?_, ?_, ?_, ?_, ?_, ?_, ?_⟩
  · rw [hy]; exact n1
  · rw [hy]; exact n2
  · rw [hy]; exact n3
  · rw [hy]; exact n4
  · rw [hy]; exact n5
  · rw [hy]; exact n6
  · rw [hy]; exact n7
end Ks
/- The blocks for keys: plain. -/
namespace Ks
open Go Go.RowKit
set_option linter.unusedVariables false
def keyM : ByteArray := ⟨#[107, 101, 121]⟩
def keyL (n : Nat) (k : ByteArray) : List UInt8 := [107, 101, 121] ++ (putL 4 n ++ k.data.toList)
def slotB (n : Nat) (k : ByteArray) : List UInt8 := keyL n k ++ (shaL (keyL n k) ++ List.replicate 4025 0)
def slotOk (n : Int) (k : ByteArray) : Bool := decide (0 ≤ n ∧ n ≤ 4294967295 ∧ k.size = 32)
def slotS (n : Int) (k : ByteArray) : ByteArray := if slotOk n k then ⟨(slotB n.toNat k).toArray⟩ else ⟨#[]⟩
def slotE (n : Int) (k : ByteArray) : Int := if slotOk n k then 0 else 2
def slotH (n : Int) (k : ByteArray) : ByteArray := keyM ++ putS n 4 ++ k
theorem slot_ok {n : Int} {k : ByteArray} : slotOk n k = true ↔ 0 ≤ n ∧ n ≤ 4294967295 ∧ k.size = 32 := by simp [slotOk]
theorem keyL_length (n : Nat) (k : ByteArray) : (keyL n k).length = 7 + k.size := by
  have := data_length k
  simp [keyL]; omega
theorem slotH_data (n : Int) (k : ByteArray) (h0 : 0 ≤ n) (h1 : n ≤ 4294967295) : slotH n k = ⟨(keyL n.toNat k).toArray⟩ := by
  rw [slotH, putS4 n h0 h1, show keyM = ⟨([107, 101, 121] : List UInt8).toArray⟩ from rfl]
  obtain ⟨⟨l⟩⟩ := k
  rw [ByteArray.mk_append_mk, ByteArray.mk_append_mk, keyL]
  simp
theorem slot_cat (n : Int) (k : ByteArray) (hok : slotOk n k = true) : (slotH n k).size = 39 ∧ (slotH n k ++ (⟨(shaL (slotH n k).data.toList).toArray⟩ : ByteArray)).size = 71 ∧
    fillS (slotH n k ++ (⟨(shaL (slotH n k).data.toList).toArray⟩ : ByteArray)) 4096 = slotS n k ∧ fillE (slotH n k ++ (⟨(shaL (slotH n k).data.toList).toArray⟩ : ByteArray)) 4096 = 0 ∧
    slotH n k ++ (⟨(shaL (slotH n k).data.toList).toArray⟩ : ByteArray) ++ zerosS 4025 = slotS n k := by
  obtain ⟨h0, h1, h2⟩ := slot_ok.1 hok
  have e := slotH_data n k h0 h1
  have hl := keyL_length n.toNat k
  have hs := shaL_length (keyL n.toNat k)
  have e2 : slotH n k ++ (⟨(shaL (slotH n k).data.toList).toArray⟩ : ByteArray) = ⟨(keyL n.toNat k ++ shaL (keyL n.toNat k)).toArray⟩ := by
    rw [e, ByteArray.mk_append_mk]
  have hz : (slotH n k ++ (⟨(shaL (slotH n k).data.toList).toArray⟩ : ByteArray)).size = 71 := by
    rw [e2]
    show (keyL n.toNat k ++ shaL (keyL n.toNat k)).length = _
    rw [List.length_append, hl, hs, h2]
  have hR : slotH n k ++ (⟨(shaL (slotH n k).data.toList).toArray⟩ : ByteArray) ++ zerosS 4025 = slotS n k := by
    rw [e2, zerosS, ByteArray.mk_append_mk, slotS, if_pos hok, slotB, List.append_assoc]
    rfl
  refine ⟨by rw [e]; show (keyL n.toNat k).length = _; rw [hl, h2], hz, ?_, ?_, hR⟩
  · rw [fillS, if_pos (by simp only [fillOk, decide_eq_true_eq]; rw [hz]; omega), hz]
    exact hR
  · rw [fillE, if_pos (by simp only [fillOk, decide_eq_true_eq]; rw [hz]; omega)]

theorem slot_data (n : Int) (k : ByteArray) (hok : slotOk n k = true) : (slotS n k).data.toList = slotB n.toNat k := by rw [slotS, if_pos hok]
theorem slotB_length (n : Nat) (k : ByteArray) (h : k.size = 32) : (slotB n k).length = 4096 := by
  rw [slotB, List.length_append, List.length_append, List.length_replicate, keyL_length, shaL_length, h]
theorem slot_size (n : Int) (k : ByteArray) (hok : slotOk n k = true) : (slotS n k).size = 4096 := by
  rw [← data_length, slot_data n k hok, slotB_length _ _ (slot_ok.1 hok).2.2]

/-- which epoch and key any block has; why it has none -/
def slotN (b : ByteArray) : Nat := numAt b 3 4
def slotK (b : ByteArray) : ByteArray := b.extract 7 39
def slotX (b : ByteArray) : Int := if b.size = 4096 then (if b = zerosS 4096 then 7 else if slotS (slotN b) (slotK b) = b then 0 else 3) else 3
def slotXN (b : ByteArray) : Int := if slotX b = 0 then (slotN b : Int) else 0
def slotXK (b : ByteArray) : ByteArray := if slotX b = 0 then slotK b else ⟨#[]⟩
theorem slotN_lt (b : ByteArray) : slotN b < 4294967296 := numAt_lt b 3
theorem slotK_size (b : ByteArray) (h : b.size = 4096) : (slotK b).size = 32 := by simp [slotK, ByteArray.size_extract]; omega
theorem slotNK_ok (b : ByteArray) (h : b.size = 4096) : slotOk (slotN b) (slotK b) = true := by
  rw [slot_ok]
  have := slotN_lt b
  exact ⟨by omega, by omega, slotK_size b h⟩
theorem slot_nz (n : Int) (k : ByteArray) (hok : slotOk n k = true) : slotS n k ≠ zerosS 4096 := by
  intro h
  have h1 := congrArg (fun b => b.data.toList.head?) h
  simp only [slot_data n k hok] at h1
  exact absurd (show some (107 : UInt8) = some 0 from h1) (by decide)
theorem slot_back (n : Int) (k : ByteArray) (hok : slotOk n k = true) : slotX (slotS n k) = 0 ∧ (slotN (slotS n k) : Int) = n ∧ slotK (slotS n k) = k := by
  obtain ⟨h0, h1, h2⟩ := slot_ok.1 hok
  have hz := slot_size n k hok
  have hd := slot_data n k hok
  have hN : (slotN (slotS n k) : Int) = n := by
    unfold slotN numAt
    rw [hd, slotB]
    generalize (shaL (keyL n.toNat k) ++ List.replicate 4025 0) = Z
    rw [keyL, show [107, 101, 121] ++ (putL 4 n.toNat ++ k.data.toList) ++ Z = [107, 101, 121] ++ (putL 4 n.toNat ++ (k.data.toList ++ Z)) by simp]
    rw [piece_mid _ _ _ 3 4 rfl (putL_length _ _), getN_put4 _ (by omega)]
    omega
  have hK : slotK (slotS n k) = k := by
    apply bytes_ext
    unfold slotK
    rw [data_extract, hd, slotB]
    generalize (shaL (keyL n.toNat k) ++ List.replicate 4025 0) = Z
    rw [keyL, show [107, 101, 121] ++ (putL 4 n.toNat ++ k.data.toList) ++ Z = ([107, 101, 121] ++ putL 4 n.toNat) ++ (k.data.toList ++ Z) by simp]
    exact piece_mid _ _ _ 7 32 (by simp) (by rw [data_length, h2])
  refine ⟨?_, hN, hK⟩
  rw [slotX, if_pos hz, if_neg (slot_nz n k hok), hN, hK, if_pos rfl]
theorem slotX_of (b : ByteArray) : slotX b = 0 ∧ b.size = 4096 ∧ b ≠ zerosS 4096 ∧ slotS (slotN b) (slotK b) = b ∨ slotX b = 7 ∧ b = zerosS 4096 ∨ slotX b = 3 ∧ b ≠ zerosS 4096 := by
  unfold slotX
  by_cases h : b.size = 4096
  · rw [if_pos h]
    by_cases h1 : b = zerosS 4096
    · rw [if_pos h1]; exact Or.inr (Or.inl ⟨rfl, h1⟩)
    · rw [if_neg h1]
      by_cases h2 : slotS (slotN b) (slotK b) = b
      · rw [if_pos h2]; exact Or.inl ⟨rfl, h, h1, h2⟩
      · rw [if_neg h2]; exact Or.inr (Or.inr ⟨rfl, h1⟩)
  · rw [if_neg h]
    exact Or.inr (Or.inr ⟨rfl, fun e => h (by rw [e]; exact zerosS_size 4096)⟩)

/-- the pick -/
def epOk (ep : Int) : Bool := decide (0 ≤ ep ∧ ep ≤ 4294967295)
def pickB (a b : ByteArray) (ep : Int) : ByteArray := if ep % 2 = 1 then b else a
def pickE (a b : ByteArray) (ep : Int) : Int := if epOk ep then (if slotX (pickB a b ep) = 0 then (if slotXN (pickB a b ep) = ep then 0 else 7) else slotX (pickB a b ep)) else 2
def pickK (a b : ByteArray) (ep : Int) : ByteArray := if pickE a b ep = 0 then slotXK (pickB a b ep) else ⟨#[]⟩
def staleL (a b : ByteArray) (ep : Int) : List Int :=
  if epOk ep then (if ep % 2 = 1 then (if a = zerosS 4096 then [] else [0]) else (if b = zerosS 4096 then [] else [1])) else []
def evE (a b : ByteArray) (ep : Int) (k : ByteArray) : Int := if pickE a b ep = 0 then (if ep = 4294967295 then 6 else slotE (ep + 1) k) else pickE a b ep
def evA (a b : ByteArray) (ep : Int) (k : ByteArray) : ByteArray := if evE a b ep k = 0 then (if ep % 2 = 1 then slotS (ep + 1) k else a) else ⟨#[]⟩
def evB (a b : ByteArray) (ep : Int) (k : ByteArray) : ByteArray := if evE a b ep k = 0 then (if ep % 2 = 1 then b else slotS (ep + 1) k) else ⟨#[]⟩
theorem slotX_zeros : slotX (zerosS 4096) = 7 := by rw [slotX, if_pos (show (zerosS 4096).size = 4096 from zerosS_size 4096), if_pos rfl]
end Ks
/- A journal, plain: a disk, the last superblock, how many blocks are taken. No program is in sight. -/
namespace Ks
open Go Go.RowKit
set_option linter.unusedVariables false
structure SupT where
  gen : Int
  tail : Int
  epoch : Int
  clock : Int
  b : Int
  l : Int
  f : Int
abbrev supCs (s : SupT) : List Value := [.int .i64 s.gen, .int .i64 s.tail, .int .i64 s.epoch, .int .i64 s.clock, .int .i64 s.b, .int .i64 s.l, .int .i64 s.f]
def supT0 : SupT := ⟨0, 0, 0, 0, 0, 0, 0⟩
def sOk (s : SupT) : Bool := supOk s.gen s.tail s.epoch s.clock s.b s.l s.f
def sS (s : SupT) : ByteArray := supS s.gen s.tail s.epoch s.clock s.b s.l s.f
def sE (s : SupT) : Int := supE s.gen s.tail s.epoch s.clock s.b s.l s.f
/-- a step of the disk -/
inductive Stp where
  | wr (i : Int) (s : ByteArray)
  | fl
def stpE (d : DS) : Stp → Int
  | .wr i s => writeE d i s
  | .fl => flushE d
def stpD (d : DS) : Stp → DS
  | .wr i s => writeD d i s
  | .fl => flushD d
/-- steps, up to the first one that is refused -/
def stepsE (d : DS) : List Stp → Int
  | [] => 0
  | x :: l => if stpE d x ≠ 0 then stpE d x else stepsE (stpD d x) l
def stepsD (d : DS) : List Stp → DS
  | [] => d
  | x :: l => if stpE d x ≠ 0 then stpD d x else stepsD (stpD d x) l
structure JrnT where
  d : DS
  last : SupT
  used : Int
  broken : Bool
def keyP (e : Int) : Int := 2 + max e 0 % 2
def supP (g : Int) : Int := max g 0 % 2
def dataG (s : SupT) : Int := geoD s.b s.l s.f
def placeG (s : SupT) (i : Int) : Int := if 0 ≤ i ∧ i < dataG s then 4 + i else 0
def roomG (s : SupT) (used : Int) : Int := if used < 0 then 0 else max (dataG s - 1 - min used 1024) 0
def didJ (j : JrnT) (l : List Stp) : JrnT := { j with d := stepsD j.d l, broken := j.broken || decide (stepsE j.d l ≠ 0) }
def commitL (s : SupT) : List Stp := [.wr (supP s.gen) (sS s), .fl]
def commitE (j : JrnT) (s : SupT) : Int := if sE s ≠ 0 then sE s else stepsE j.d (commitL s)
def commitJ (j : JrnT) (s : SupT) : JrnT := if sE s ≠ 0 then j else if stepsE j.d (commitL s) ≠ 0 then didJ j (commitL s) else { didJ j (commitL s) with last := s }
def nextE (s : SupT) : Int := if sOk s then (if s.gen = 1152921504606846976 then 6 else 0) else 2
def nextS (j : JrnT) (clock : Int) : SupT := { j.last with gen := j.last.gen + 1, tail := j.used, clock := clock }
def timeB (j : JrnT) (clock : Int) : Bool := decide (j.last.clock ≤ clock ∧ clock ≤ 1099511627776)
def takenJ (j : JrnT) : JrnT := { j with used := j.used + 1 }
/-- a block written behind all others -/
def appendE (j : JrnT) (t : ByteArray) : Int := if j.broken then 14 else if t.size ≠ 4096 then 2 else if roomG j.last j.used = 0 then 5 else stepsE j.d [.wr (placeG j.last j.used) t]
def appendJ (j : JrnT) (t : ByteArray) : JrnT := if j.broken ∨ t.size ≠ 4096 ∨ roomG j.last j.used = 0 then j else didJ (takenJ j) [.wr (placeG j.last j.used) t]
def appendI (j : JrnT) (t : ByteArray) : Int := if appendE j t = 0 then j.used else 0
/-- what was appended committed -/
def comE (j : JrnT) (clock : Int) : Int :=
  if j.broken then 14 else if timeB j clock = false then 2 else if nextE j.last ≠ 0 then nextE j.last else if stepsE j.d [.fl] ≠ 0 then stepsE j.d [.fl] else commitE (didJ j [.fl]) (nextS j clock)
def comJ (j : JrnT) (clock : Int) : JrnT :=
  if j.broken ∨ timeB j clock = false ∨ nextE j.last ≠ 0 then j else if stepsE j.d [.fl] ≠ 0 then didJ j [.fl] else commitJ (didJ j [.fl]) (nextS j clock)
/-- an epoch closed -/
def shutL (j : JrnT) (t k : ByteArray) : List Stp := [.wr (placeG j.last j.used) t, .wr (keyP (j.last.epoch + 1)) (slotS (j.last.epoch + 1) k), .fl]
def shutS (j : JrnT) (clock : Int) : SupT := { nextS (takenJ j) clock with epoch := j.last.epoch + 1 }
def wipeL (j : JrnT) : List Stp := [.wr (keyP j.last.epoch) (zerosS 4096), .fl]
def shutNo (j : JrnT) (t k : ByteArray) (clock : Int) : Int :=
  if j.broken then 14 else if t.size ≠ 4096 ∨ k.size ≠ 32 ∨ timeB j clock = false then 2 else if nextE j.last ≠ 0 ∨ 4294967295 ≤ j.last.epoch then 6 else if dataG j.last ≤ j.used then 6 else 0
/-- behind the first three steps -/
def shut1 (j : JrnT) (t k : ByteArray) : JrnT := didJ (takenJ j) (shutL j t k)
def shut2 (j : JrnT) (t k : ByteArray) (clock : Int) : JrnT := commitJ (shut1 j t k) (shutS j clock)
def shutE (j : JrnT) (t k : ByteArray) (clock : Int) : Int :=
  if shutNo j t k clock ≠ 0 then shutNo j t k clock else if stepsE j.d (shutL j t k) ≠ 0 then stepsE j.d (shutL j t k)
  else if commitE (shut1 j t k) (shutS j clock) ≠ 0 then commitE (shut1 j t k) (shutS j clock) else stepsE (shut2 j t k clock).d (wipeL j)
def shutJ (j : JrnT) (t k : ByteArray) (clock : Int) : JrnT :=
  if shutNo j t k clock ≠ 0 then j else if stepsE j.d (shutL j t k) ≠ 0 then shut1 j t k
  else if commitE (shut1 j t k) (shutS j clock) ≠ 0 then shut2 j t k clock else didJ (shut2 j t k clock) (wipeL j)
def shutI (j : JrnT) (t k : ByteArray) (clock : Int) : Int := if shutE j t k clock = 0 then j.used else 0
/-- a journal of a new disk -/
def formL (f : Int) (k : ByteArray) : List Stp := [.fl, .wr (keyP f) (slotS f k), .fl]
def formS (b l f : Int) : SupT := ⟨1, 0, f, 0, b, l, f⟩
def formJ (n : Nat) (b l f : Int) (k : ByteArray) : JrnT := commitJ (didJ ⟨newD n, supT0, 0, false⟩ (formL f k)) (formS b l f)
/-- places, from one on, that do not show noughts -/
def unlikeL (d : DS) : Nat → Int → List Int
  | 0, _ => []
  | k + 1, i => if (readD d i).1 ≠ zerosS 4096 then i :: unlikeL d k (i + 1) else unlikeL d k (i + 1)
/-- what a disk shows in its first four places tells its superblock -/
def shows (d : DS) (i : Int) : ByteArray := (readD d i).1
def foundS (d : DS) : SupT :=
  let s := if stOk (shows d 1) && (!stOk (shows d 0) || decide (stN (shows d 0) 9 8 < stN (shows d 1) 9 8)) then shows d 1 else shows d 0
  ⟨stN s 9 8, stN s 17 4, stN s 21 4, stN s 25 8, stN s 33 4, stN s 37 4, stN s 41 4⟩
def foundK (d : DS) : ByteArray := pickK (shows d 2) (shows d 3) (foundS d).epoch
/-- where noughts are written as a disk is put right -/
def rightL (d : DS) (s : SupT) : List Int := (staleL (shows d 2) (shows d 3) s.epoch).map keyP ++ unlikeL d (s.b - (placeG s 0 + s.tail)).toNat (placeG s 0 + s.tail)
/-- noughts written to places, up to the first one that is refused -/
def zerosE (d : DS) : List Int → Int
  | [] => 0
  | i :: l => if writeE d i (zerosS 4096) ≠ 0 then writeE d i (zerosS 4096) else zerosE (writeD d i (zerosS 4096)) l
def zerosD (d : DS) : List Int → DS
  | [] => d
  | i :: l => if writeE d i (zerosS 4096) ≠ 0 then writeD d i (zerosS 4096) else zerosD (writeD d i (zerosS 4096)) l
def rightE (d : DS) (s : SupT) : Int := if zerosE d (rightL d s) ≠ 0 then zerosE d (rightL d s) else if rightL d s = [] then 0 else flushE (zerosD d (rightL d s))
def rightD (d : DS) (s : SupT) : DS := if zerosE d (rightL d s) ≠ 0 then zerosD d (rightL d s) else if rightL d s = [] then d else flushD (zerosD d (rightL d s))
/-- the blocks that an opened journal has -/
def blocksL (d : DS) (s : SupT) : List ByteArray := (List.range s.tail.toNat).map fun (i : Nat) => shows d (placeG s i)
end Ks
/- The numbers of a superblock's bytes, as they are read. Plain. -/
namespace Ks
open Go Go.RowKit
set_option linter.unusedVariables false
theorem numAt_ext (s : ByteArray) (a z i n : Nat) (h : i + n ≤ z - a) : numAt (s.extract a z) i n = numAt s (a + i) n := by
  unfold numAt
  rw [data_extract, List.drop_take, List.take_take, List.drop_drop, Nat.min_eq_left (by omega)]
theorem get8 (s : ByteArray) (i : Nat) (h : i + 8 ≤ s.size) : (getE (s.extract i (i + 8)) = 0 ∧ getV (s.extract i (i + 8)) = (numAt s i 8 : Int) ∧ numAt s i 8 ≤ 9223372036854775807) ∨ (getE (s.extract i (i + 8)) = 3 ∧ 9223372036854775807 < numAt s i 8) := by
  have hl := data_length s
  have he : (s.extract i (i + 8)).data.toList = (s.data.toList.drop i).take 8 := by rw [data_extract, show i + 8 - i = 8 by omega]
  have hlen : ((s.data.toList.drop i).take 8).length = 8 := by rw [List.length_take, List.length_drop]; omega
  have hn : numAt s i 8 = getN ((s.data.toList.drop i).take 8) := rfl
  by_cases hg : numAt s i 8 ≤ 9223372036854775807
  · left
    have ho : getOk ((s.data.toList.drop i).take 8) = true := by
      simp only [getOk, decide_eq_true_eq]
      rw [hlen, ← hn]
      exact ⟨by omega, by omega, hg⟩
    refine ⟨by rw [getE, he, if_pos ho], by rw [getV, he, if_pos ho, hn], hg⟩
  · right
    have ho : ¬ getOk ((s.data.toList.drop i).take 8) = true := by
      simp only [getOk, decide_eq_true_eq]
      rw [hlen, ← hn]
      exact fun h => hg h.2.2
    refine ⟨by rw [getE, he, if_neg ho], by omega⟩
theorem st_geo (s : ByteArray) (h : s.size = 4096) : (s.extract 33 45).size = 12 ∧ geoT (s.extract 33 45) = geoOk (numAt s 33 4) (numAt s 37 4) (numAt s 41 4) ∧ numAt (s.extract 33 45) 0 4 = numAt s 33 4 ∧ numAt (s.extract 33 45) 4 4 = numAt s 37 4 ∧ numAt (s.extract 33 45) 8 4 = numAt s 41 4 := by
  have hz : (s.extract 33 45).size = 12 := by rw [ByteArray.size_extract]; omega
  have n0 := numAt_ext s 33 45 0 4 (by omega)
  have n1 := numAt_ext s 33 45 4 4 (by omega)
  have n2 := numAt_ext s 33 45 8 4 (by omega)
  refine ⟨hz, ?_, n0, n1, n2⟩
  unfold geoT
  rw [n0, n1, n2, Bool.eq_iff_iff, decide_eq_true_iff]
  exact ⟨fun h => h.2, fun h => ⟨hz, h⟩⟩
/-- a superblock's bytes begin with the mark -/
theorem st_mark (s : ByteArray) (h : stOk s = true) : (s.extract 0 9).data.toList = markL := by
  obtain ⟨h1, h2, h3⟩ := st_ok.1 h
  rw [data_extract, ← h3, supS, if_pos h2]
  show ((supB _ _ _ _ _ _ _).drop 0).take 9 = _
  rw [supB, supL, List.drop_zero, List.append_assoc, List.append_assoc]
  exact List.take_left' rfl
end Ks
/- Crashes, plain: what blocks tell, whatever of the writes that were not flushed is kept. No program is in sight. -/
namespace Ks
open Go Go.RowKit
set_option linter.unusedVariables false
set_option linter.unusedSimpArgs false
def bl (b : List ByteArray) (n : Nat) : ByteArray := b.getD n ⟨#[]⟩
theorem bl_put (b : List ByteArray) (p : PutT) (n : Nat) : bl (putC b p) n = if n = p.1.toNat ∧ n < b.length then p.2 else bl b n := by
  unfold bl putC
  simp only [List.getD_eq_getElem?_getD, List.getElem?_set]
  by_cases h : p.1.toNat = n
  · subst h
    by_cases h2 : p.1.toNat < b.length
    · simp [h2]
    · simp [h2]
  · have : ¬ (n = p.1.toNat ∧ n < b.length) := fun q => h q.1.symm
    simp [h, this]
theorem bl_append (A B : List ByteArray) (n : Nat) : bl (A ++ B) n = if n < A.length then bl A n else bl B (n - A.length) := by
  unfold bl
  simp only [List.getD_eq_getElem?_getD]
  split <;> rename_i h
  · rw [List.getElem?_append_left h]
  · rw [List.getElem?_append_right (by omega)]
theorem zeros_st : stOk (zerosS 4096) = false := by
  cases h : stOk (zerosS 4096) with
  | false => rfl
  | true =>
    have := st_mark _ h
    rw [data_extract] at this
    exact absurd this (by decide)
/-- blocks that tell a committed state -/
structure Tells (b : List ByteArray) (s : SupT) (k : ByteArray) (A : List ByteArray) : Prop where
  len : (b.length : Int) = s.b
  size : ∀ n, n < b.length → (bl b n).size = 4096
  ok : sOk s = true
  sup : bl b (supP s.gen).toNat = sS s
  oth : stOk (bl b (supP (s.gen + 1)).toNat) = false ∨ stN (bl b (supP (s.gen + 1)).toNat) 9 8 < s.gen
  key : bl b (keyP s.epoch).toNat = slotS s.epoch k
  kk : k.size = 32
  tail : s.tail = A.length
  data : ∀ n, n < A.length → bl b (4 + n) = bl A n
/-- a write that turns nothing of a state -/
def Free (s : SupT) (p : PutT) : Prop := (p.1 = keyP (s.epoch + 1) ∨ 4 + s.tail ≤ p.1) ∧ 0 ≤ p.1 ∧ p.1 < s.b ∧ p.2.size = 4096
theorem sok {s : SupT} (h : sOk s = true) : 8 ≤ s.b ∧ s.b ≤ 1024 ∧ 1 ≤ s.gen ∧ s.gen ≤ 1152921504606846976 ∧ 0 ≤ s.tail ∧ s.tail ≤ s.b - 4 ∧ s.f ≤ s.epoch ∧ s.epoch ≤ 4294967295 ∧ 0 ≤ s.clock ∧ s.clock ≤ 1099511627776 ∧ 0 ≤ s.f := by
  have h1 := sup_ok.1 h
  have h2 := geo_ok.1 h1.1
  omega
theorem tells_put {b : List ByteArray} {s : SupT} {k : ByteArray} {A : List ByteArray} {p : PutT} (h : Tells b s k A) (hp : Free s p) : Tells (putC b p) s k A := by
  have ho := sok h.ok
  have hl : (putC b p).length = b.length := putC_length b p
  have he := h.len
  have ht := h.tail
  obtain ⟨h1, h2, h3, h4⟩ := hp
  have key : ∀ n, n ≠ p.1.toNat → bl (putC b p) n = bl b n := fun n hn => by rw [bl_put, if_neg (fun q => hn q.1)]
  have hkp : keyP (s.epoch + 1) = 2 ∨ keyP (s.epoch + 1) = 3 := by unfold keyP; omega
  have hks : keyP s.epoch ≠ keyP (s.epoch + 1) ∧ (keyP s.epoch = 2 ∨ keyP s.epoch = 3) := by unfold keyP; omega
  have hsp : (supP s.gen = 0 ∨ supP s.gen = 1) ∧ (supP (s.gen + 1) = 0 ∨ supP (s.gen + 1) = 1) := by unfold supP; omega
  have e1 := key (supP s.gen).toNat (by omega)
  have e2 := key (supP (s.gen + 1)).toNat (by omega)
  have e3 := key (keyP s.epoch).toNat (by omega)
  refine ⟨by rw [hl]; exact h.len, fun n hn => ?_, h.ok, by rw [e1]; exact h.sup, by rw [e2]; exact h.oth, by rw [e3]; exact h.key, h.kk, h.tail, fun n hn => ?_⟩
  · rw [bl_put]
    split
    · exact h4
    · exact h.size n (by omega)
  · rw [key _ (by omega)]
    exact h.data n hn
theorem tells_puts {s : SupT} {k : ByteArray} {A : List ByteArray} (c : List PutT) : ∀ {b : List ByteArray}, Tells b s k A → (∀ p ∈ c, Free s p) → Tells (c.foldl putC b) s k A := by
  induction c with
  | nil => intro b h _; exact h
  | cons p c ih => intro b h hc; exact ih (tells_put h (hc p (by simp))) fun q hq => hc q (by simp [hq])
theorem sup_szs {s : SupT} (h : sOk s = true) : (sS s).size = 4096 := sup_size _ _ _ _ _ _ _ h
theorem tells_next {b : List ByteArray} {s s' : SupT} {k k' : ByteArray} {A B : List ByteArray} (h : Tells b s k A) (hg : s'.gen = s.gen + 1) (hok : sOk s' = true) (hb : s'.b = s.b) (hk : bl b (keyP s'.epoch).toNat = slotS s'.epoch k')
    (hkk : k'.size = 32) (ht : s'.tail = B.length) (hd : ∀ n, n < B.length → bl b (4 + n) = bl B n) : Tells (putC b (supP s'.gen, sS s')) s' k' B := by
  have ho := sok h.ok
  have ho' := sok hok
  have hl : (putC b (supP s'.gen, sS s')).length = b.length := putC_length b _
  have he := h.len
  have hkp : keyP s'.epoch = 2 ∨ keyP s'.epoch = 3 := by unfold keyP; omega
  have hsp : (supP s'.gen = 0 ∨ supP s'.gen = 1) ∧ supP (s'.gen + 1) ≠ supP s'.gen ∧ supP (s'.gen + 1) = supP s.gen ∧ 0 ≤ supP s.gen := by unfold supP; omega
  have key : ∀ n, n ≠ (supP s'.gen).toNat → bl (putC b (supP s'.gen, sS s')) n = bl b n := fun n hn => by rw [bl_put, if_neg (fun q => hn q.1)]
  have hst := st_sup s.gen s.tail s.epoch s.clock s.b s.l s.f h.ok
  refine ⟨by rw [hl]; omega, fun n hn => ?_, hok, ?_, Or.inr ?_, ?_, hkk, ht, fun n hn => ?_⟩
  · rw [bl_put]
    split
    · exact sup_szs hok
    · exact h.size n (by omega)
  · rw [bl_put, if_pos ⟨rfl, by omega⟩]
  · rw [key _ (by omega), hsp.2.2.1, h.sup]
    show stN (supS s.gen s.tail s.epoch s.clock s.b s.l s.f) 9 8 < _
    rw [hst.2.1]
    omega
  · rw [key _ (by omega)]; exact hk
  · rw [key _ (by omega)]; exact hd n hn
/-- whatever of the writes that were not flushed is kept -/
def Kept (Q : List ByteArray → Prop) (d : DS) : Prop := ∀ c, List.Sublist c d.cache → Q (c.foldl putC d.blocks)
theorem keptC_sub (keep : List Int) (c : List PutT) (k : Nat) : List.Sublist (keptC keep c k) c := by
  induction c generalizing k with
  | nil => exact List.Sublist.refl _
  | cons p c ih =>
    unfold keptC
    split
    · exact (ih (k + 1)).cons_cons p
    · exact (ih (k + 1)).cons p
theorem kept_crash {Q : List ByteArray → Prop} {d : DS} (h : Kept Q d) (keep : List Int) : Q (bootD (crashD d keep)).blocks := h _ (keptC_sub keep d.cache 0)
theorem kept_free {b : List ByteArray} {s : SupT} {k : ByteArray} {A : List ByteArray} {d : DS} (h : Tells d.blocks s k A) (hc : ∀ p ∈ d.cache, Free s p) : Kept (fun b => Tells b s k A) d := fun c hs => tells_puts c h fun p hp => hc p (hs.subset hp)
theorem Kept.mono {Q Q' : List ByteArray → Prop} {d : DS} (h : Kept Q d) (hq : ∀ b, Q b → Q' b) : Kept Q' d := fun c hc => hq _ (h c hc)
theorem Kept.same {Q : List ByteArray → Prop} {d d' : DS} (h : Kept Q d) (hb : d'.blocks = d.blocks) (hc : d'.cache = d.cache) : Kept Q d' := fun c q => by rw [hb]; exact h c (hc ▸ q)
/-- a single write that was not flushed -/
theorem kept_one {Q : List ByteArray → Prop} {d : DS} {p : PutT} (hc : d.cache = [p]) (h0 : Q d.blocks) (h1 : Q (putC d.blocks p)) : Kept Q d := fun c q => by
  rw [hc] at q
  cases q with
  | cons _ q => cases q; exact h0
  | cons_cons _ q => cases q; exact h1
/-! The disk's steps -/
theorem step_cases {d : DS} (hu : d.down = false) : (stepD d).down = true ∨ (stepD d).down = false := by cases (stepD d).down <;> simp
theorem wr_cases {d : DS} (i : Int) (t : ByteArray) (hu : d.down = false) (hi : 0 ≤ i ∧ i < (d.blocks.length : Int)) (ht : t.size = 4096) (hc : d.cache.length < 4096) :
    (writeE d i t = 14 ∧ (writeD d i t).down = true ∧ (writeD d i t).blocks = d.blocks ∧ (writeD d i t).cache = d.cache) ∨ (writeE d i t = 0 ∧ (writeD d i t).down = false ∧ (writeD d i t).blocks = d.blocks ∧ (writeD d i t).cache = d.cache ++ [(i, t)]) := by
  have hp : placeE d i t = 0 := by unfold placeE; rw [if_pos ((inD_iff d i).2 hi), if_pos ht]
  unfold writeE writeD
  rw [hu, hp]
  have h4 : ¬ 4096 ≤ d.cache.length := by omega
  cases hs : (stepD d).down with
  | true => left; simp [h4, hs, stepD_blocks, stepD_cache]
  | false => right; simp [h4, hs, stepD_blocks, stepD_cache]
theorem fl_cases {d : DS} (hu : d.down = false) :
    (flushE d = 14 ∧ (flushD d).down = true ∧ (flushD d).blocks = d.blocks ∧ (flushD d).cache = d.cache) ∨ (flushE d = 0 ∧ (flushD d).down = false ∧ (flushD d).blocks = d.cache.foldl putC d.blocks ∧ (flushD d).cache = []) := by
  unfold flushE flushD
  rw [hu]
  cases hs : (stepD d).down with
  | true => left; simp [hs, stepD_blocks, stepD_cache]
  | false => right; simp [hs]
/-! A disk that may be opened again -/
structure Rests (d : DS) (s : SupT) (k : ByteArray) (A : List ByteArray) : Prop where
  up : d.down = false
  cache : d.cache = []
  tells : Tells d.blocks s k A
structure Clean (d : DS) (s : SupT) (k : ByteArray) (A : List ByteArray) : Prop where
  rests : Rests d s k A
  key : bl d.blocks (keyP (s.epoch + 1)).toNat = zerosS 4096
  rest : ∀ n, (4 + s.tail).toNat ≤ n → n < d.blocks.length → bl d.blocks n = zerosS 4096
section
variable {d : DS} {s : SupT} {k : ByteArray} {A : List ByteArray}
theorem rests_read (h : Rests d s k A) (n : Nat) (hn : n < d.blocks.length) : readD d n = (bl d.blocks n, 0) := by
  unfold readD
  rw [h.up, h.cache]
  have : inD d (n : Int) = true := (inD_iff d n).2 ⟨by omega, by omega⟩
  rw [if_neg (by simp), if_pos this]
  unfold showC
  simp [bl]
theorem rests_len (h : Rests d s k A) : 8 ≤ d.blocks.length ∧ d.blocks.length ≤ 1024 := by
  have := sok h.tells.ok
  have := h.tells.len
  omega
theorem rests_shows (h : Rests d s k A) (n : Nat) (hn : n < d.blocks.length) : shows d n = bl d.blocks n := by unfold shows; rw [rests_read h n hn]
theorem rests_found (h : Rests d s k A) : foundS d = s ∧ (stOk (shows d 0) || stOk (shows d 1)) = true := by
  have ho := sok h.tells.ok
  have hl := rests_len h
  have e0 := rests_shows h 0 (by omega)
  have e1 := rests_shows h 1 (by omega)
  have hs := st_sup s.gen s.tail s.epoch s.clock s.b s.l s.f h.tells.ok
  have h1 := h.tells.sup
  have h2 := h.tells.oth
  have hS : sS s = supS s.gen s.tail s.epoch s.clock s.b s.l s.f := rfl
  rw [← hS] at hs
  unfold foundS
  rw [show ((0 : Nat) : Int) = 0 from rfl] at e0
  rw [show ((1 : Nat) : Int) = 1 from rfl] at e1
  rw [e0, e1]
  have hsp : (supP s.gen = 0 ∧ supP (s.gen + 1) = 1) ∨ (supP s.gen = 1 ∧ supP (s.gen + 1) = 0) := by unfold supP; omega
  rcases hsp with ⟨p1, p2⟩ | ⟨p1, p2⟩
  · rw [p1] at h1
    rw [p2] at h2
    rw [show (0 : Int).toNat = 0 from rfl] at h1
    rw [show (1 : Int).toNat = 1 from rfl] at h2
    rw [h1]
    have hn : (stOk (bl d.blocks 1) && (!stOk (sS s) || decide (stN (sS s) 9 8 < stN (bl d.blocks 1) 9 8))) = false := by
      rw [hs.1, hs.2.1]
      rcases h2 with h2 | h2
      · rw [h2]; rfl
      · rw [decide_eq_false (by omega)]; simp
    simp only [hn, Bool.false_eq_true, if_false]
    rw [hs.2.1, hs.2.2.1, hs.2.2.2.1, hs.2.2.2.2.1, hs.2.2.2.2.2.1, hs.2.2.2.2.2.2.1, hs.2.2.2.2.2.2.2]
    exact ⟨rfl, by rw [hs.1]; rfl⟩
  · rw [p1] at h1
    rw [p2] at h2
    rw [show (0 : Int).toNat = 0 from rfl] at h2
    rw [show (1 : Int).toNat = 1 from rfl] at h1
    rw [h1]
    have hn : (stOk (sS s) && (!stOk (bl d.blocks 0) || decide (stN (bl d.blocks 0) 9 8 < stN (sS s) 9 8))) = true := by
      rw [hs.1, hs.2.1]
      rcases h2 with h2 | h2
      · rw [h2]; rfl
      · rw [decide_eq_true h2]; simp
    simp only [hn, if_true]
    rw [hs.2.1, hs.2.2.1, hs.2.2.2.1, hs.2.2.2.2.1, hs.2.2.2.2.2.1, hs.2.2.2.2.2.2.1, hs.2.2.2.2.2.2.2]
    exact ⟨rfl, by rw [hs.1]; simp⟩
theorem rests_slot (h : Rests d s k A) : slotOk s.epoch k = true := slot_ok.2 (by have := sok h.tells.ok; have := h.tells.kk; omega)
theorem rests_pick (h : Rests d s k A) : pickE (shows d 2) (shows d 3) s.epoch = 0 ∧ foundK d = k := by
  have ho := sok h.tells.ok
  have hl := rests_len h
  have e2 := rests_shows h 2 (by omega)
  have e3 := rests_shows h 3 (by omega)
  have hk := h.tells.key
  have hok := rests_slot h
  obtain ⟨b1, b2, b3⟩ := slot_back s.epoch k hok
  rw [show ((2 : Nat) : Int) = 2 from rfl] at e2
  rw [show ((3 : Nat) : Int) = 3 from rfl] at e3
  have hB : pickB (shows d 2) (shows d 3) s.epoch = slotS s.epoch k := by
    rw [e2, e3]
    unfold pickB
    have hkp : (s.epoch % 2 = 1 ∧ keyP s.epoch = 3) ∨ (¬ s.epoch % 2 = 1 ∧ keyP s.epoch = 2) := by unfold keyP; omega
    rcases hkp with ⟨p1, p2⟩ | ⟨p1, p2⟩
    · rw [p2] at hk; rw [if_pos p1]; exact hk
    · rw [p2] at hk; rw [if_neg p1]; exact hk
  have hE : pickE (shows d 2) (shows d 3) s.epoch = 0 := by
    unfold pickE
    rw [hB, if_pos (by simp [epOk]; omega), if_pos b1, if_pos (by rw [slotXN, if_pos b1]; exact b2)]
  refine ⟨hE, ?_⟩
  unfold foundK
  rw [(rests_found h).1]
  unfold pickK
  rw [if_pos hE, hB, slotXK, if_pos b1, b3]
/-- places told by not showing noughts -/
theorem unlike_mem (d : DS) (n : Nat) : ∀ (i j : Int), j ∈ unlikeL d n i ↔ i ≤ j ∧ j < i + n ∧ shows d j ≠ zerosS 4096 := by
  induction n with
  | zero => intro i j; simp [unlikeL]; omega
  | succ n ih =>
    intro i j
    unfold unlikeL
    have hsh : (readD d i).1 = shows d i := rfl
    rw [hsh]
    by_cases h : shows d i ≠ zerosS 4096
    · rw [if_pos h, List.mem_cons, ih]
      constructor
      · rintro (rfl | q)
        · exact ⟨by omega, by omega, h⟩
        · exact ⟨by omega, by omega, q.2.2⟩
      · rintro ⟨q1, q2, q3⟩
        by_cases e : j = i
        · exact Or.inl e
        · exact Or.inr ⟨by omega, by omega, q3⟩
    · rw [if_neg h, ih]
      constructor
      · rintro ⟨q1, q2, q3⟩; exact ⟨by omega, by omega, q3⟩
      · rintro ⟨q1, q2, q3⟩
        by_cases e : j = i
        · subst e; exact absurd q3 h
        · exact ⟨by omega, by omega, q3⟩
theorem unlike_len (d : DS) (n : Nat) : ∀ i : Int, (unlikeL d n i).length ≤ n := by
  induction n with
  | zero => intro i; simp [unlikeL]
  | succ n ih => intro i; unfold unlikeL; have := ih (i + 1); split <;> simp <;> omega
theorem stale_keys (a b : ByteArray) (ep : Int) (h0 : 0 ≤ ep) (h1 : ep ≤ 4294967295) : (staleL a b ep).map keyP = if (if ep % 2 = 1 then a else b) = zerosS 4096 then [] else [keyP (ep + 1)] := by
  unfold staleL
  rw [if_pos (by simp [epOk]; omega)]
  by_cases h : ep % 2 = 1
  · rw [if_pos h, if_pos h]
    split
    · rfl
    · simp [keyP]; omega
  · rw [if_neg h, if_neg h]
    split
    · rfl
    · simp [keyP]; omega
theorem placeG_of (hok : sOk s = true) (i : Int) (h0 : 0 ≤ i) (h1 : i < s.b - 4) : placeG s i = 4 + i := by
  have h2 := (geo_yes (sup_ok.1 hok).1).2
  unfold placeG dataG
  rw [h2, if_pos ⟨h0, h1⟩]
theorem rests_right (h : Rests d s k A) (i : Int) : i ∈ rightL d s ↔ (i = keyP (s.epoch + 1) ∨ (4 + s.tail ≤ i ∧ i < s.b)) ∧ bl d.blocks i.toNat ≠ zerosS 4096 := by
  have ho := sok h.tells.ok
  have hl := rests_len h
  have he := h.tells.len
  have e2 := rests_shows h 2 (by omega)
  have e3 := rests_shows h 3 (by omega)
  rw [show ((2 : Nat) : Int) = 2 from rfl] at e2
  rw [show ((3 : Nat) : Int) = 3 from rfl] at e3
  unfold rightL
  rw [List.mem_append, stale_keys _ _ _ (by omega) (by omega), unlike_mem, placeG_of h.tells.ok 0 (by omega) (by omega), e2, e3]
  have hkp : (s.epoch % 2 = 1 ∧ keyP (s.epoch + 1) = 2) ∨ (¬ s.epoch % 2 = 1 ∧ keyP (s.epoch + 1) = 3) := by unfold keyP; omega
  have hK : (i ∈ (if (if s.epoch % 2 = 1 then bl d.blocks 2 else bl d.blocks 3) = zerosS 4096 then ([] : List Int) else [keyP (s.epoch + 1)])) ↔ i = keyP (s.epoch + 1) ∧ bl d.blocks i.toNat ≠ zerosS 4096 := by
    rcases hkp with ⟨p1, p2⟩ | ⟨p1, p2⟩
    · rw [if_pos p1, p2]
      split <;> rename_i hz
      · constructor
        · intro q; simp at q
        · rintro ⟨rfl, q⟩; exact absurd hz q
      · rw [List.mem_singleton]
        constructor
        · rintro rfl; exact ⟨rfl, hz⟩
        · exact fun q => q.1
    · rw [if_neg p1, p2]
      split <;> rename_i hz
      · constructor
        · intro q; simp at q
        · rintro ⟨rfl, q⟩; exact absurd hz q
      · rw [List.mem_singleton]
        constructor
        · rintro rfl; exact ⟨rfl, hz⟩
        · exact fun q => q.1
  rw [hK]
  have hN : ((s.b - (4 + 0 + s.tail)).toNat : Int) = s.b - 4 - s.tail := by omega
  rw [hN]
  have hsh : 0 ≤ i → i < s.b → shows d i = bl d.blocks i.toNat := fun q1 q2 => by
    have := rests_shows h i.toNat (by omega)
    rwa [Int.toNat_of_nonneg q1] at this
  constructor
  · rintro (⟨q1, q2⟩ | ⟨q1, q2, q3⟩)
    · exact ⟨Or.inl q1, q2⟩
    · refine ⟨Or.inr ⟨by omega, by omega⟩, ?_⟩
      rw [← hsh (by omega) (by omega)]; exact q3
  · rintro ⟨q1 | ⟨q1, q2⟩, q3⟩
    · exact Or.inl ⟨q1, q3⟩
    · refine Or.inr ⟨by omega, by omega, ?_⟩
      rw [hsh (by omega) (by omega)]; exact q3
theorem right_few (h : Rests d s k A) : (rightL d s).length ≤ 1100 := by
  have ho := sok h.tells.ok
  unfold rightL
  rw [List.length_append, stale_keys _ _ _ (by omega) (by omega), placeG_of h.tells.ok 0 (by omega) (by omega)]
  have := unlike_len d (s.b - (4 + 0 + s.tail)).toNat (4 + 0 + s.tail)
  have h1 : ∀ (c : Prop) [Decidable c] (x : Int), (if c then ([] : List Int) else [x]).length ≤ 1 := fun c _ x => by split <;> simp
  have := h1 ((if s.epoch % 2 = 1 then shows d 2 else shows d 3) = zerosS 4096) (keyP (s.epoch + 1))
  omega
theorem right_free (h : Rests d s k A) (i : Int) (hi : i ∈ rightL d s) : Free s (i, zerosS 4096) := by
  have ho := sok h.tells.ok
  obtain ⟨q, -⟩ := (rests_right h i).1 hi
  have hkp : keyP (s.epoch + 1) = 2 ∨ keyP (s.epoch + 1) = 3 := by unfold keyP; omega
  refine ⟨?_, ?_, ?_, zerosS_size 4096⟩
  · rcases q with q | q
    · exact Or.inl q
    · exact Or.inr q.1
  · show 0 ≤ i; omega
  · show i < s.b; omega
theorem zeros_cases (L : List Int) : ∀ d : DS, d.down = false → (∀ i ∈ L, 0 ≤ i ∧ i < (d.blocks.length : Int)) → d.cache.length + L.length ≤ 4096 →
    (zerosE d L = 14 ∧ (zerosD d L).down = true ∧ (zerosD d L).blocks = d.blocks ∧ ∃ L1 : List Int, (zerosD d L).cache = d.cache ++ L1.map (fun i => (i, zerosS 4096)) ∧ ∀ i ∈ L1, i ∈ L) ∨
    (zerosE d L = 0 ∧ (zerosD d L).down = false ∧ (zerosD d L).blocks = d.blocks ∧ (zerosD d L).cache = d.cache ++ L.map (fun i => (i, zerosS 4096))) := by
  induction L with
  | nil => intro d hu _ _; right; exact ⟨rfl, hu, rfl, by simp [zerosD]⟩
  | cons i L ih =>
    intro d hu hi hc
    simp only [List.length_cons] at hc
    unfold zerosE zerosD
    rcases wr_cases i (zerosS 4096) hu (hi i (by simp)) (zerosS_size 4096) (by omega) with ⟨w1, w2, w3, w4⟩ | ⟨w1, w2, w3, w4⟩
    · left
      rw [w1, if_pos (by decide), if_pos (by decide)]
      exact ⟨rfl, w2, w3, [], by rw [w4]; simp, by simp⟩
    · rw [w1, if_neg (by decide), if_neg (by decide)]
      rcases ih (writeD d i (zerosS 4096)) w2 (fun j hj => by rw [w3]; exact hi j (by simp [hj])) (by rw [w4]; simp; omega) with ⟨q1, q2, q3, L1, q4, q5⟩ | ⟨q1, q2, q3, q4⟩
      · left
        refine ⟨q1, q2, q3.trans w3, i :: L1, by rw [q4, w4]; simp, fun j hj => ?_⟩
        rcases List.mem_cons.1 hj with rfl | hj
        · simp
        · simp [q5 j hj]
      · right
        exact ⟨q1, q2, q3.trans w3, by rw [q4, w4]; simp⟩
theorem puts_zero (L : List Int) : ∀ b : List ByteArray, ∀ n : Nat, (∀ i ∈ L, 0 ≤ i) → n < b.length → bl ((L.map fun i => ((i, zerosS 4096) : PutT)).foldl putC b) n = if (n : Int) ∈ L then zerosS 4096 else bl b n := by
  induction L with
  | nil => intro b n _ _; simp
  | cons i L ih =>
    intro b n hL hn
    rw [List.map_cons, List.foldl_cons, ih _ n (fun j hj => hL j (by simp [hj])) (by rw [putC_length]; exact hn), bl_put]
    have h0 := hL i (by simp)
    by_cases h1 : (n : Int) ∈ L
    · rw [if_pos h1, if_pos (by simp [h1])]
    · rw [if_neg h1]
      by_cases h2 : n = i.toNat
      · rw [if_pos ⟨h2, hn⟩, if_pos (by have : (n : Int) = i := by omega
                                        simp [this])]
      · rw [if_neg (fun q => h2 q.1), if_neg (fun q => by
          rcases List.mem_cons.1 q with q | q
          · omega
          · exact h1 q)]
theorem right_cases (h : Rests d s k A) : (rightE d s = 14 ∧ (rightD d s).down = true ∧ Kept (fun b => Tells b s k A) (rightD d s)) ∨ (rightE d s = 0 ∧ Clean (rightD d s) s k A) := by
  have ho := sok h.tells.ok
  have hl := rests_len h
  have he := h.tells.len
  have hi : ∀ i ∈ rightL d s, 0 ≤ i ∧ i < (d.blocks.length : Int) := fun i hi => by
    have q := right_free h i hi
    exact ⟨q.2.1, by rw [he]; exact q.2.2.1⟩
  have hk : ∀ (d' : DS) (L1 : List Int), d'.blocks = d.blocks → d'.cache = d.cache ++ L1.map (fun i => (i, zerosS 4096)) → (∀ i ∈ L1, i ∈ rightL d s) → Kept (fun b => Tells b s k A) d' := fun d' L1 q1 q2 q3 => by
    refine kept_free (b := []) (by rw [q1]; exact h.tells) fun p hp => ?_
    rw [q2, h.cache, List.nil_append, List.mem_map] at hp
    obtain ⟨i, hi, rfl⟩ := hp
    exact right_free h i (q3 i hi)
  unfold rightE rightD
  have hfew := right_few h
  rcases zeros_cases (rightL d s) d h.up hi (by rw [h.cache]; simp; omega) with ⟨w1, w2, w3, L1, w4, w5⟩ | ⟨w1, w2, w3, w4⟩
  · left
    rw [w1, if_pos (by decide), if_pos (by decide)]
    exact ⟨rfl, w2, hk _ L1 w3 w4 w5⟩
  · rw [w1]
    simp only [ne_eq, not_true_eq_false, if_false]
    by_cases hz : rightL d s = []
    · right
      rw [if_pos hz, if_pos hz]
      have hno : ∀ i, ¬ ((i = keyP (s.epoch + 1) ∨ (4 + s.tail ≤ i ∧ i < s.b)) ∧ bl d.blocks i.toNat ≠ zerosS 4096) := fun i q => by
        have := (rests_right h i).2 q
        rw [hz] at this
        cases this
      refine ⟨rfl, h, ?_, fun n hn1 hn2 => ?_⟩
      · exact Classical.byContradiction fun q => hno _ ⟨Or.inl rfl, q⟩
      · refine Classical.byContradiction fun q => hno (n : Int) ⟨Or.inr ⟨by omega, by omega⟩, ?_⟩
        rw [Int.toNat_natCast]; exact q
    · rw [if_neg hz, if_neg hz]
      rcases fl_cases w2 with ⟨q1, q2, q3, q4⟩ | ⟨q1, q2, q3, q4⟩
      · left
        exact ⟨q1, q2, hk _ (rightL d s) (q3.trans w3) (q4.trans w4) fun i hi => hi⟩
      · right
        have hB : (flushD (zerosD d (rightL d s))).blocks = ((rightL d s).map fun i => ((i, zerosS 4096) : PutT)).foldl putC d.blocks := by rw [q3, w3, w4, h.cache, List.nil_append]
        have hT : Tells (((rightL d s).map fun i => ((i, zerosS 4096) : PutT)).foldl putC d.blocks) s k A := tells_puts _ h.tells fun p hp => by
          rw [List.mem_map] at hp
          obtain ⟨i, hi, rfl⟩ := hp
          exact right_free h i hi
        have hkp : keyP (s.epoch + 1) = 2 ∨ keyP (s.epoch + 1) = 3 := by unfold keyP; omega
        refine ⟨q1, ⟨q2, q4, by rw [hB]; exact hT⟩, ?_, fun n hn1 hn2 => ?_⟩
        · rw [hB, puts_zero _ _ _ (fun i q => (hi i q).1) (by omega)]
          split <;> rename_i hm
          · rfl
          · exact Classical.byContradiction fun q => hm ((rests_right h _).2 ⟨Or.inl (by omega), by rw [Int.toNat_natCast]; exact q⟩)
        · rw [hB, puts_length] at hn2
          rw [hB, puts_zero _ _ _ (fun i q => (hi i q).1) hn2]
          split <;> rename_i hm
          · rfl
          · exact Classical.byContradiction fun q => hm ((rests_right h _).2 ⟨Or.inr ⟨by omega, by omega⟩, by rw [Int.toNat_natCast]; exact q⟩)
theorem clean_right (h : Clean d s k A) : rightL d s = [] ∧ rightE d s = 0 ∧ rightD d s = d := by
  have hz : rightL d s = [] := by
    cases hL : rightL d s with
    | nil => rfl
    | cons i L =>
      exfalso
      have ho := sok h.rests.tells.ok
      have he := h.rests.tells.len
      obtain ⟨q1, q2⟩ := (rests_right h.rests i).1 (by rw [hL]; simp)
      rcases q1 with q1 | q1
      · rw [q1] at q2; exact q2 h.key
      · exact q2 (h.rest _ (by omega) (by omega))
  refine ⟨hz, ?_, ?_⟩
  · unfold rightE; rw [hz]; simp [zerosE]
  · unfold rightD; rw [hz]; simp [zerosE]
theorem rests_blocks (h : Rests d s k A) : blocksL d s = A := by
  have ho := sok h.tells.ok
  have hl := rests_len h
  have he := h.tells.len
  have ht := h.tells.tail
  unfold blocksL
  refine List.ext_getElem (by simp; omega) fun n h1 h2 => ?_
  rw [List.getElem_map, List.getElem_range, placeG_of h.tells.ok _ (by omega) (by omega)]
  have := rests_shows h (4 + n) (by omega)
  rw [show (4 : Int) + (n : Int) = ((4 + n : Nat) : Int) by omega, this, h.tells.data n h2]
  simp [bl, h2]
end
end Ks
