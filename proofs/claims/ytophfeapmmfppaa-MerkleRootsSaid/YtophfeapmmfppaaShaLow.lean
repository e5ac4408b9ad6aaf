/- The digest's small functions: a number turned, three of them, a number of four bytes; the reference's turn. -/
import Derived.Test.YtophfeapmmfppaaProg
import Derived.Test.YtophfeapmmfppaaShaPlain
import Derived.Test.YtophfeapmmfppaaAfter
namespace Ks
open Go Go.RowKit
theorem num_or (a b c d : Nat) (ha : a < 256) (hb : b < 256) (hc : c < 256) (hd : d < 256) :
    bits .or .u32 (bits .or .u32 (bits .or .u32 ((a : Int) % 4294967296 * 16777216 % 4294967296) ((b : Int) % 4294967296 * 65536 % 4294967296)) ((c : Int) % 4294967296 * 256 % 4294967296)) ((d : Int) % 4294967296)
      = ((((a * 256 + b) * 256 + c) * 256 + d : Nat) : Int) := by
  have e1 : ((a : Int) % 4294967296 * 16777216 % 4294967296) = (a : Int) * 16777216 := by omega
  have e2 : ((b : Int) % 4294967296 * 65536 % 4294967296) = (b : Int) * 65536 := by omega
  have e3 : ((c : Int) % 4294967296 * 256 % 4294967296) = (c : Int) * 256 := by omega
  have e4 : ((d : Int) % 4294967296) = (d : Int) := by omega
  have p32 : (2 : Int) ^ 32 = 4294967296 := by decide
  have p24 : (2 : Int) ^ 24 = 16777216 := by decide
  have p16 : (2 : Int) ^ 16 = 65536 := by decide
  have p8 : (2 : Int) ^ 8 = 256 := by decide
  have j1 := bits_join .u32 32 (by decide) wraps_u32 24 ((a : Int) * 16777216) ((b : Int) * 65536) (by omega) (by rw [p24]; omega) (by rw [p32]; omega) (by omega) (by rw [p24]; omega) (by rw [p32]; omega)
  have j2 := bits_join .u32 32 (by decide) wraps_u32 16 ((a : Int) * 16777216 + (b : Int) * 65536) ((c : Int) * 256) (by omega) (by rw [p16]; omega) (by rw [p32]; omega) (by omega) (by rw [p16]; omega) (by rw [p32]; omega)
  have j3 := bits_join .u32 32 (by decide) wraps_u32 8 ((a : Int) * 16777216 + (b : Int) * 65536 + (c : Int) * 256) (d : Int) (by omega) (by rw [p8]; omega) (by rw [p32]; omega) (by omega) (by rw [p8]; omega) (by rw [p32]; omega)
  rw [e1, e2, e3, e4, j1, j2, j3]
  omega
theorem num_bytes (s : ByteArray) (h : 4 ≤ s.size) : getN (s.data.toList.take 4) = (((s[0]).toNat * 256 + (s[1]).toNat) * 256 + (s[2]).toNat) * 256 + (s[3]).toNat := by
  rw [take_snoc s 3 (by omega), getN_snoc, take_snoc s 2 (by omega), getN_snoc, take_snoc s 1 (by omega), getN_snoc, take_snoc s 0 (by omega), getN_snoc]
  simp [getN]
end Ks
namespace Go.Proofs.Ytophfeapmmfppaa
open Go.RowKit Ks
set_option linter.unusedVariables false

set_option maxHeartbeats 1000000 in
theorem rot_any (x n : Nat) (w : World) (hx : x < 4294967296) (h1 : 1 ≤ n) (h2 : n ≤ 31) :
    Calls Try.prog 61 #[.int .u32 x, .int .i64 (-(n : Int))] w fun e w' => e = .returned (.int .u32 (rotr x n : Nat)) ∧ w' = w := by
  refine calls_by fun R HR => ?_
  have hw : IntKind.u64.wrap (-(n : Int)) = 18446744073709551616 - n := by simp [IntKind.wrap, IntKind.bits, IntKind.signed]; omega
  have hb : bits .and .u64 (18446744073709551616 - (n : Int)) 31 = 32 - n := by
    have e := bits_mask .u64 64 (by decide) (fun m h0 h1 => by rw [show (2 : Int) ^ 64 = 18446744073709551616 from by decide] at h1; simp [IntKind.wrap, IntKind.bits, IntKind.signed]; omega) 5 (by decide) (18446744073709551616 - (n : Int)) (by omega) (by rw [show (2 : Int) ^ 64 = 18446744073709551616 from by decide]; omega)
    rw [show (2 : Int) ^ 5 - 1 = 31 from by decide, show (2 : Int) ^ 5 = 32 from by decide] at e
    rw [e]; omega
  have h0 : (0 : Int) ≤ 32 - n := by omega
  go_enter Try.func61, Try.ntmps61
  go_wp2
  refine HR.out _ _ ⟨?_, rfl⟩
  show Ending.returned (Value.int .u32 (bits .or .u32 ((x : Int) * 2 ^ (32 - n) % 4294967296) ((x : Int) / 2 ^ (32 - (32 - n))))) = _
  rw [← rot_parts x n hx, ← or_u32 _ _ (Nat.mod_lt _ (by decide)) (shr_lt hx n), show 32 - (32 - n) = n by omega, Nat.shiftLeft_eq, Nat.shiftRight_eq_div_pow]
  simp only [Int.natCast_emod, Int.natCast_mul, Int.natCast_pow, Int.natCast_ediv]
  rfl

set_option maxHeartbeats 1000000 in
theorem number_any (s : ByteArray) (w : World) (h : 4 ≤ s.size) :
    Calls Try.prog 60 #[.string s] w fun e w' => e = .returned (.int .u32 (getN (s.data.toList.take 4) : Nat)) ∧ Below w.heap.size w w' := by
  refine calls_by fun R HR => ?_
  have k0 : 0 < s.size := by omega
  have k1 : (1 : Int) < (s.size : Int) := by omega
  have k2 : (2 : Int) < (s.size : Int) := by omega
  have k3 : (3 : Int) < (s.size : Int) := by omega
  go_enter Try.func60, Try.ntmps60
  go_wp2_with fail
  go_quiet (fail)
  go_wp2
  refine HR.out _ _ ⟨?_, below_drewN (Below.refl _ _) _⟩
  rw [num_bytes s h, ← num_or _ _ _ _ (s[0]).toNat_lt (s[1]).toNat_lt (s[2]).toNat_lt (s[3]).toNat_lt]
  rfl

set_option maxHeartbeats 1000000 in
theorem turn_any (x n : Nat) (w : World) (hx : x < 4294967296) (h1 : 1 ≤ n) (h2 : n ≤ 31) :
    Calls Try.prog 59 #[.int .i64 x, .int .i64 n] w fun e w' => e = .returned (.int .i64 (rotr x n : Nat)) ∧ Below w.heap.size w w' := by
  refine calls_by fun R HR => ?_
  go_enter Try.func59, Try.ntmps59
  go_wp2_with fail
  go_quiet (fail)
  go_wp2
  refine HR.out _ _ ⟨?_, below_drewN (Below.refl _ _) _⟩
  show Ending.returned (Value.int .i64 ((bits .or .i64 ((x : Int) / 2 ^ n) (wrap64 ((x : Int) * 2 ^ (32 - n)))).tmod 4294967296)) = _
  have hp : 2 ^ (32 - n) ≤ 2 ^ 31 := Nat.pow_le_pow_right (by decide) (by omega)
  rw [show (2:Nat) ^ 31 = 2147483648 from by decide] at hp
  have hm : x * 2 ^ (32 - n) < 9223372036854775808 := Nat.lt_of_le_of_lt (Nat.mul_le_mul (show x ≤ 4294967295 by omega) hp) (by decide)
  have hw : wrap64 ((x : Int) * 2 ^ (32 - n)) = ((x * 2 ^ (32 - n) : Nat) : Int) := by
    have : ((x * 2 ^ (32 - n) : Nat) : Int) < 9223372036854775808 := by omega
    simp only [Int.natCast_mul, Int.natCast_pow] at this ⊢
    change (x : Int) * 2 ^ (32 - n) < _ at this
    change _ = (x : Int) * 2 ^ (32 - n)
    have h0 : (0 : Int) ≤ (x : Int) * 2 ^ (32 - n) := Int.mul_nonneg (by omega) (Int.pow_nonneg (by decide))
    rw [wrap64]; omega
  have h63 : (2 : Nat) ^ 63 = 9223372036854775808 := by decide
  rw [hw, show (x : Int) / 2 ^ n = ((x / 2 ^ n : Nat) : Int) by simp only [Int.natCast_ediv, Int.natCast_pow]; rfl, or_i64 _ _ (by rw [h63]; exact Nat.lt_of_le_of_lt (Nat.div_le_self _ _) (by omega)) (by rw [h63]; exact hm), rotr, Nat.shiftLeft_eq, Nat.shiftRight_eq_div_pow]
  rw [Int.tmod_eq_emod_of_nonneg (by omega)]
  simp only [Int.natCast_emod]
  rfl

set_option maxHeartbeats 1000000 in
theorem three_shift (x a b c : Nat) (w : World) (hx : x < 4294967296) (ha : 1 ≤ a ∧ a ≤ 31) (hb : 1 ≤ b ∧ b ≤ 31) (hc : 1 ≤ c ∧ c ≤ 31) :
    Calls Try.prog 52 #[.int .u32 x, .int .i64 a, .int .i64 b, .int .i64 c, .bool true] w fun e w' => e = .returned (.int .u32 (sigS x a b c : Nat)) ∧ w' = w := by
  refine calls_by fun R HR => ?_
  obtain ⟨a1, a2⟩ := ha
  obtain ⟨b1, b2⟩ := hb
  obtain ⟨c1, c2⟩ := hc
  go_enter Try.func52, Try.ntmps52
  go_wp2_with fail
  refine (rot_any x c _ hx c1 c2).mono ?_
  rintro e w1 ⟨rfl, rfl⟩
  go_wp2_with fail
  refine (rot_any x a _ hx a1 a2).mono ?_
  rintro e w1 ⟨rfl, rfl⟩
  go_wp2_with fail
  refine (rot_any x b _ hx b1 b2).mono ?_
  rintro e w1 ⟨rfl, rfl⟩
  go_wp2_with fail
  refine HR.out _ _ ⟨?_, rfl⟩
  rw [sigS, ← xor_u32 _ _ (xor32 (rotr_lt _ _) (rotr_lt _ _)) (shr_lt hx c), ← xor_u32 _ _ (rotr_lt _ _) (rotr_lt _ _), Nat.shiftRight_eq_div_pow]
  simp only [Int.natCast_pow, Int.natCast_ediv]
  rfl
set_option maxHeartbeats 1000000 in
theorem three_turn (x a b c : Nat) (w : World) (hx : x < 4294967296) (ha : 1 ≤ a ∧ a ≤ 31) (hb : 1 ≤ b ∧ b ≤ 31) (hc : 1 ≤ c ∧ c ≤ 31) :
    Calls Try.prog 52 #[.int .u32 x, .int .i64 a, .int .i64 b, .int .i64 c, .bool false] w fun e w' => e = .returned (.int .u32 (sigR x a b c : Nat)) ∧ w' = w := by
  refine calls_by fun R HR => ?_
  obtain ⟨a1, a2⟩ := ha
  obtain ⟨b1, b2⟩ := hb
  obtain ⟨c1, c2⟩ := hc
  go_enter Try.func52, Try.ntmps52
  go_wp2_with fail
  refine (rot_any x c _ hx c1 c2).mono ?_
  rintro e w1 ⟨rfl, rfl⟩
  go_wp2_with fail
  refine (rot_any x a _ hx a1 a2).mono ?_
  rintro e w1 ⟨rfl, rfl⟩
  go_wp2_with fail
  refine (rot_any x b _ hx b1 b2).mono ?_
  rintro e w1 ⟨rfl, rfl⟩
  go_wp2_with fail
  refine HR.out _ _ ⟨?_, rfl⟩
  rw [sigR, ← xor_u32 _ _ (xor32 (rotr_lt _ _) (rotr_lt _ _)) (rotr_lt _ _), ← xor_u32 _ _ (rotr_lt _ _) (rotr_lt _ _)]
  rfl
end Go.Proofs.Ytophfeapmmfppaa
