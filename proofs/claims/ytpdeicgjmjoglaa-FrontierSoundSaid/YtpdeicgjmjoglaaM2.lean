/- Texts that the claim rests on, part 2: ShaLow, ArrRow, ShaText, ShaWords, ShaConst, ShaTurned, QuietTail, BlkRow, OctetPut, TextPlain. -/
import Derived.Test.YtpdeicgjmjoglaaProg
import Derived.Deep.WholeRow
import Derived.Laws.CopyOwn
import Derived.BigQuiet
import Derived.Deep.DeepCutAuto
import Derived.StillTailTactics
import Derived.StillTail
import Derived.Deep.MidRow
import Derived.Lib.Repeat
import Derived.Test.YtpdeicgjmjoglaaM1
/- The digest's small functions: a number turned, three of them, a number of four bytes; the reference's turn. -/
namespace Ks
open Go Go.RowKit
theorem num_or (a b c d : Nat) (ha : a < 256) (hb : b < 256) (hc : c < 256) (hd : d < 256) :
    bits .or .u32 (bits .or .u32 (bits .or .u32 ((a : Int) % 4294967296 * 16777216 % 4294967296) ((b : Int) % 4294967296 * 65536 % 4294967296)) ((c : Int) % 4294967296 * 256 % 4294967296)) ((d : Int) % 4294967296)
      = ((((a * 256 + b) * 256 + c) * 256 + d : Nat) : Int) := by
  have e1 : ((a : Int) % 4294967296 * 16777216 % 4294967296) = (a : Int) * 16777216 := by omega
  have e2 : ((b : Int) % 4294967296 * 65536 % 4294967296) = (b : Int) * 65536 := by omega
  have e3 : ((c : Int) % 4294967296 * 256 % 4294967296) = (c : Int) * 256 := by omega
  have e4 : ((d : Int) % 4294967296) = (d : Int) := by omega
  have p32 : (2 : Int) ^ 32 = 4294967296 := by decide
  have p24 : (2 : Int) ^ 24 = 16777216 := by decide
  have p16 : (2 : Int) ^ 16 = 65536 := by decide
  have p8 : (2 : Int) ^ 8 = 256 := by decide
  have j1 := bits_join .u32 32 (by decide) wraps_u32 24 ((a : Int) * 16777216) ((b : Int) * 65536) (by omega) (by rw [p24]; omega) (by rw [p32]; omega) (by omega) (by rw [p24]; omega) (by rw [p32]; omega)
  have j2 := bits_join .u32 32 (by decide) wraps_u32 16 ((a : Int) * 16777216 + (b : Int) * 65536) ((c : Int) * 256) (by omega) (by rw [p16]; omega) (by rw [p32]; omega) (by omega) (by rw [p16]; omega) (by rw [p32]; omega)
  have j3 := bits_join .u32 32 (by decide) wraps_u32 8 ((a : Int) * 16777216 + (b : Int) * 65536 + (c : Int) * 256) (d : Int) (by omega) (by rw [p8]; omega) (by rw [p32]; omega) (by omega) (by rw [p8]; omega) (by rw [p32]; omega)
  rw [e1, e2, e3, e4, j1, j2, j3]
  omega
theorem num_bytes (s : ByteArray) (h : 4 ≤ s.size) : getN (s.data.toList.take 4) = (((s[0]).toNat * 256 + (s[1]).toNat) * 256 + (s[2]).toNat) * 256 + (s[3]).toNat := by
  rw [take_snoc s 3 (by omega), getN_snoc, take_snoc s 2 (by omega), getN_snoc, take_snoc s 1 (by omega), getN_snoc, take_snoc s 0 (by omega), getN_snoc]
  simp [getN]
end Ks
namespace Go.Proofs.Ytpdeicgjmjoglaa
open Go.RowKit Ks
set_option linter.unusedVariables false

set_option maxHeartbeats 1000000 in
theorem rot_any (x n : Nat) (w : World) (hx : x < 4294967296) (h1 : 1 ≤ n) (h2 : n ≤ 31) :
    Calls Try.prog 77 #[.int .u32 x, .int .i64 (-(n : Int))] w fun e w' => e = .returned (.int .u32 (rotr x n : Nat)) ∧ w' = w := by
  refine calls_by fun R HR => ?_
  have hw : IntKind.u64.wrap (-(n : Int)) = 18446744073709551616 - n := by simp [IntKind.wrap, IntKind.bits, IntKind.signed]; omega
  have hb : bits .and .u64 (18446744073709551616 - (n : Int)) 31 = 32 - n := by
    have e := bits_mask .u64 64 (by decide) (fun m h0 h1 => by rw [show (2 : Int) ^ 64 = 18446744073709551616 from by decide] at h1; simp [IntKind.wrap, IntKind.bits, IntKind.signed]; omega) 5 (by decide) (18446744073709551616 - (n : Int)) (by omega) (by rw [show (2 : Int) ^ 64 = 18446744073709551616 from by decide]; omega)
    rw [show (2 : Int) ^ 5 - 1 = 31 from by decide, show (2 : Int) ^ 5 = 32 from by decide] at e
    rw [e]; omega
  have h0 : (0 : Int) ≤ 32 - n := by omega
  go_enter Try.func77, Try.ntmps77
  go_wp2
  refine HR.out _ _ ⟨?_, rfl⟩
  show Ending.returned (Value.int .u32 (bits .or .u32 ((x : Int) * 2 ^ (32 - n) % 4294967296) ((x : Int) / 2 ^ (32 - (32 - n))))) = _
  rw [← rot_parts x n hx, ← or_u32 _ _ (Nat.mod_lt _ (by decide)) (shr_lt hx n), show 32 - (32 - n) = n by omega, Nat.shiftLeft_eq, Nat.shiftRight_eq_div_pow]
  simp only [Int.natCast_emod, Int.natCast_mul, Int.natCast_pow, Int.natCast_ediv]
  rfl

set_option maxHeartbeats 1000000 in
theorem number_any (s : ByteArray) (w : World) (h : 4 ≤ s.size) :
    Calls Try.prog 76 #[.string s] w fun e w' => e = .returned (.int .u32 (getN (s.data.toList.take 4) : Nat)) ∧ Below w.heap.size w w' := by
  refine calls_by fun R HR => ?_
  have k0 : 0 < s.size := by omega
  have k1 : (1 : Int) < (s.size : Int) := by omega
  have k2 : (2 : Int) < (s.size : Int) := by omega
  have k3 : (3 : Int) < (s.size : Int) := by omega
  go_enter Try.func76, Try.ntmps76
  go_wp2_with fail
  go_quiet (fail)
  go_wp2
  refine HR.out _ _ ⟨?_, below_drewN (Below.refl _ _) _⟩
  rw [num_bytes s h, ← num_or _ _ _ _ (s[0]).toNat_lt (s[1]).toNat_lt (s[2]).toNat_lt (s[3]).toNat_lt]
  rfl

set_option maxHeartbeats 1000000 in
theorem turn_any (x n : Nat) (w : World) (hx : x < 4294967296) (h1 : 1 ≤ n) (h2 : n ≤ 31) :
    Calls Try.prog 68 #[.int .i64 x, .int .i64 n] w fun e w' => e = .returned (.int .i64 (rotr x n : Nat)) ∧ Below w.heap.size w w' := by
  refine calls_by fun R HR => ?_
  go_enter Try.func68, Try.ntmps68
  go_wp2_with fail
  go_quiet (fail)
  go_wp2
  refine HR.out _ _ ⟨?_, below_drewN (Below.refl _ _) _⟩
  show Ending.returned (Value.int .i64 ((bits .or .i64 ((x : Int) / 2 ^ n) (wrap64 ((x : Int) * 2 ^ (32 - n)))).tmod 4294967296)) = _
  have hp : 2 ^ (32 - n) ≤ 2 ^ 31 := Nat.pow_le_pow_right (by decide) (by omega)
  rw [show (2:Nat) ^ 31 = 2147483648 from by decide] at hp
  have hm : x * 2 ^ (32 - n) < 9223372036854775808 := Nat.lt_of_le_of_lt (Nat.mul_le_mul (show x ≤ 4294967295 by omega) hp) (by decide)
  have hw : wrap64 ((x : Int) * 2 ^ (32 - n)) = ((x * 2 ^ (32 - n) : Nat) : Int) := by
    have : ((x * 2 ^ (32 - n) : Nat) : Int) < 9223372036854775808 := by omega
    simp only [Int.natCast_mul, Int.natCast_pow] at this ⊢
    change (x : Int) * 2 ^ (32 - n) < _ at this
    change _ = (x : Int) * 2 ^ (32 - n)
    have h0 : (0 : Int) ≤ (x : Int) * 2 ^ (32 - n) := Int.mul_nonneg (by omega) (Int.pow_nonneg (by decide))
    rw [wrap64]; omega
  have h63 : (2 : Nat) ^ 63 = 9223372036854775808 := by decide
  rw [hw, show (x : Int) / 2 ^ n = ((x / 2 ^ n : Nat) : Int) by simp only [Int.natCast_ediv, Int.natCast_pow]; rfl, or_i64 _ _ (by rw [h63]; exact Nat.lt_of_le_of_lt (Nat.div_le_self _ _) (by omega)) (by rw [h63]; exact hm), rotr, Nat.shiftLeft_eq, Nat.shiftRight_eq_div_pow]
  rw [Int.tmod_eq_emod_of_nonneg (by omega)]
  simp only [Int.natCast_emod]
  rfl

set_option maxHeartbeats 1000000 in
theorem three_shift (x a b c : Nat) (w : World) (hx : x < 4294967296) (ha : 1 ≤ a ∧ a ≤ 31) (hb : 1 ≤ b ∧ b ≤ 31) (hc : 1 ≤ c ∧ c ≤ 31) :
    Calls Try.prog 72 #[.int .u32 x, .int .i64 a, .int .i64 b, .int .i64 c, .bool true] w fun e w' => e = .returned (.int .u32 (sigS x a b c : Nat)) ∧ w' = w := by
  refine calls_by fun R HR => ?_
  obtain ⟨a1, a2⟩ := ha
  obtain ⟨b1, b2⟩ := hb
  obtain ⟨c1, c2⟩ := hc
  go_enter Try.func72, Try.ntmps72
  go_wp2_with fail
  refine (rot_any x c _ hx c1 c2).mono ?_
  rintro e w1 ⟨rfl, rfl⟩
  go_wp2_with fail
  refine (rot_any x a _ hx a1 a2).mono ?_
  rintro e w1 ⟨rfl, rfl⟩
  go_wp2_with fail
  refine (rot_any x b _ hx b1 b2).mono ?_
  rintro e w1 ⟨rfl, rfl⟩
  go_wp2_with fail
  refine HR.out _ _ ⟨?_, rfl⟩
  rw [sigS, ← xor_u32 _ _ (xor32 (rotr_lt _ _) (rotr_lt _ _)) (shr_lt hx c), ← xor_u32 _ _ (rotr_lt _ _) (rotr_lt _ _), Nat.shiftRight_eq_div_pow]
  simp only [Int.natCast_pow, Int.natCast_ediv]
  rfl
set_option maxHeartbeats 1000000 in
theorem three_turn (x a b c : Nat) (w : World) (hx : x < 4294967296) (ha : 1 ≤ a ∧ a ≤ 31) (hb : 1 ≤ b ∧ b ≤ 31) (hc : 1 ≤ c ∧ c ≤ 31) :
    Calls Try.prog 72 #[.int .u32 x, .int .i64 a, .int .i64 b, .int .i64 c, .bool false] w fun e w' => e = .returned (.int .u32 (sigR x a b c : Nat)) ∧ w' = w := by
  refine calls_by fun R HR => ?_
  obtain ⟨a1, a2⟩ := ha
  obtain ⟨b1, b2⟩ := hb
  obtain ⟨c1, c2⟩ := hc
  go_enter Try.func72, Try.ntmps72
  go_wp2_with fail
  refine (rot_any x c _ hx c1 c2).mono ?_
  rintro e w1 ⟨rfl, rfl⟩
  go_wp2_with fail
  refine (rot_any x a _ hx a1 a2).mono ?_
  rintro e w1 ⟨rfl, rfl⟩
  go_wp2_with fail
  refine (rot_any x b _ hx b1 b2).mono ?_
  rintro e w1 ⟨rfl, rfl⟩
  go_wp2_with fail
  refine HR.out _ _ ⟨?_, rfl⟩
  rw [sigR, ← xor_u32 _ _ (xor32 (rotr_lt _ _) (rotr_lt _ _)) (rotr_lt _ _), ← xor_u32 _ _ (rotr_lt _ _) (rotr_lt _ _)]
  rfl
end Go.Proofs.Ytpdeicgjmjoglaa
/- Whole arrays out of and into their blocks, by law: no program is in sight. -/
namespace Ks
open Go Go.RowKit
set_option linter.unusedVariables false
/-- numbers, as an array's cells -/
def u32s (l : List Nat) : Array Value := (l.map fun (n : Nat) => Value.int .u32 (n : Int)).toArray
def i64s (l : List Nat) : Array Value := (l.map fun (n : Nat) => Value.int .i64 (n : Int)).toArray
@[simp] theorem u32s_size (l : List Nat) : (u32s l).size = l.length := by simp [u32s]
@[simp] theorem i64s_size (l : List Nat) : (i64s l).size = l.length := by simp [i64s]
theorem u32s_one (l : List Nat) : (u32s l).all (·.oneCell') = true := by simp [u32s]; intro a _; rfl
theorem i64s_one (l : List Nat) : (i64s l).all (·.oneCell') = true := by simp [i64s]; intro a _; rfl
theorem u32s_set (l : List Nat) (i x : Nat) : (u32s l).setIfInBounds i (.int .u32 (x : Int)) = u32s (l.set i x) := by simp [u32s, List.map_set]
theorem i64s_set (l : List Nat) (i x : Nat) : (i64s l).setIfInBounds i (.int .i64 (x : Int)) = i64s (l.set i x) := by simp [i64s, List.map_set]
theorem u32s_get (l : List Nat) (i : Nat) (h : i < l.length) : (u32s l)[i]? = some (.int .u32 ((l.getD i 0 : Nat) : Int)) := by simp [u32s, h]
theorem i64s_get (l : List Nat) (i : Nat) (h : i < l.length) : (i64s l)[i]? = some (.int .i64 ((l.getD i 0 : Nat) : Int)) := by simp [i64s, h]

theorem blk_keep {w : World} {b : Nat} {o : Obj} (h : w.heap[b]? = some o) (o' : Obj) : (w.alloc o').heap[b]? = some o :=
  ((alloc_below w o').block b (Array.getElem?_eq_some_iff.1 h).1).trans h
theorem alloc_new2 (w : World) (o o' : Obj) : ((w.alloc o).alloc o').heap[w.heap.size + 1]? = some o' := by
  rw [← World.size_alloc (w := w) (o := o)]; exact alloc_new _ _
theorem code_cut {P : Program} {c : Code} {Q : Exit → Act → World → Prop} {a : Act} {w : World} (F : World → Prop) (hF : F w) (h : ∀ w', F w' → c.wp P Q a w') : c.wp P Q a w := h w hF
variable {P : Program}
theorem results_one {fn : Func} {p : Tmp} {ty : TypeId} (h : fn.results = #[.cell p ty]) {tmps : Array Value} {w : World} {a : Addr} {v : Value}
    (hp : tmps.getD p undef = .pointer (some a)) (hl : (loadVar ty a).run P w = .ok v w) : (results fn tmps).run P w = .ok v w := by
  simp only [results, h]
  simp only [Array.mapM_eq_mapM_toList, List.mapM_cons, List.mapM_nil, hp]
  simp [asAddr, hl]
/-- a result that lies in a variable of its own: an array's cells, known whole -/
theorem ret_arr {fn : Func} {R : Ending → World → Prop} {a : Act} {w : World} {p : Tmp} {ty t e : TypeId} {n b N : Nat} {C : Array Value} (h : fn.results = #[.cell p ty])
    (hp : a.tmps.getD p undef = .pointer (some ⟨b, 0, none⟩)) (hb : w.heap[b]? = some (.cells C t (0, 0))) (hu : P.underlying ty = some (.array n e)) (hi : (P.info? ty).map (·.size) = some N) (hn : C.size = N)
    (hd : a.defers = []) (hR : R (.returned (.agg C)) w) : bodyPost P fn R .ret a w :=
  bodyPost_ret (results_one h hp (run_loadVar_row _ _ t ty C (0, 0) _ hb hu rfl (by rw [hi, hn]))) hd hR

theorem wp_storeA {op : Oper} {a : Act} {w : World} {K : Act → World → Prop} {Q : Exit → Act → World → Prop} (ty : TypeId) (x y : Operand) (ho : op.op = .store ty x y)
    (b : Nat) (t : TypeId) (old C : Array Value) (N : Nat) (hx : a.eval x = .pointer (some ⟨b, 0, none⟩)) (hy : a.eval y = .agg C) (hb : w.heap[b]? = some (.cells old t (0, 0)))
    (hi : (P.info? ty).map (·.size) = some N) (hn : C.size = N) (hs : old.size = N) (h1 : C.all (·.oneCell') = true)
    (h : K (a.put op.dst undef) (w.setRow b C)) : op.wp P a w K Q := by
  unfold Oper.wp execOp
  simp only [ho, hx, hy, Instr.storeAt, Instr.sureAddr, Sem.run_bind, Sem.run_pure, Result.andThen_ok, run_storeVar_row w b t ty old C hb (by rw [hi, hn]) (by rw [hs, hn]) h1]
  exact h
theorem wpList_storeA {ops : Array Oper} {rest : List Oper} {op : Oper} {a : Act} {w : World} {Q : Exit → Act → World → Prop} (hgd : op.guard = none) (ty : TypeId) (x y : Operand) (ho : op.op = .store ty x y)
    (b : Nat) (t : TypeId) (old C : Array Value) (N : Nat) (hx : a.eval x = .pointer (some ⟨b, 0, none⟩)) (hy : a.eval y = .agg C) (hb : w.heap[b]? = some (.cells old t (0, 0)))
    (hi : (P.info? ty).map (·.size) = some N) (hn : C.size = N) (hs : old.size = N) (h1 : C.all (·.oneCell') = true)
    (h : wpList P ops Q rest (a.put op.dst undef) (w.setRow b C)) : wpList P ops Q (op :: rest) a w :=
  wpList_plain hgd fun _ hK => wp_storeA ty x y ho b t old C N hx hy hb hi hn hs h1 (hK _ _ h)
/-- into the block that was made last -/
theorem wpList_storeN {ops : Array Oper} {rest : List Oper} {op : Oper} {a : Act} {w : World} {Q : Exit → Act → World → Prop} (hgd : op.guard = none) (ty : TypeId) (x y : Operand) (ho : op.op = .store ty x y)
    (t : TypeId) (old C : Array Value) (N : Nat) (hx : a.eval x = .pointer (some ⟨w.heap.size, 0, none⟩)) (hy : a.eval y = .agg C)
    (hi : (P.info? ty).map (·.size) = some N) (hn : C.size = N) (hs : old.size = N) (h1 : C.all (·.oneCell') = true)
    (h : wpList P ops Q rest (a.put op.dst undef) (w.alloc (.cells C t))) : wpList P ops Q (op :: rest) a (w.alloc (.cells old t)) :=
  wpList_storeA hgd ty x y ho _ t old C N hx hy (alloc_new _ _) hi hn hs h1 (by rw [World.setRow_alloc_new]; exact h)
theorem wp_loadA {op : Oper} {a : Act} {w : World} {K : Act → World → Prop} {Q : Exit → Act → World → Prop} (ty : TypeId) (x : Operand) (ho : op.op = .load ty x)
    (b : Nat) (t e : TypeId) (C : Array Value) (n N : Nat) (hx : a.eval x = .pointer (some ⟨b, 0, none⟩)) (hb : w.heap[b]? = some (.cells C t (0, 0))) (hu : P.underlying ty = some (.array n e))
    (hi : (P.info? ty).map (·.size) = some N) (hn : C.size = N) (h : K (a.put op.dst (.agg C)) w) : op.wp P a w K Q := by
  unfold Oper.wp execOp
  simp only [ho, hx, Instr.loadAt, Instr.sureAddr, Sem.run_bind, Sem.run_pure, Result.andThen_ok, run_loadVar_row w b t ty C (0, 0) _ hb hu rfl (by rw [hi, hn])]
  exact h
theorem wpList_loadA {ops : Array Oper} {rest : List Oper} {op : Oper} {a : Act} {w : World} {Q : Exit → Act → World → Prop} (hgd : op.guard = none) (ty : TypeId) (x : Operand) (ho : op.op = .load ty x)
    (b : Nat) (t e : TypeId) (C : Array Value) (n N : Nat) (hx : a.eval x = .pointer (some ⟨b, 0, none⟩)) (hb : w.heap[b]? = some (.cells C t (0, 0))) (hu : P.underlying ty = some (.array n e))
    (hi : (P.info? ty).map (·.size) = some N) (hn : C.size = N) (h : wpList P ops Q rest (a.put op.dst (.agg C)) w) : wpList P ops Q (op :: rest) a w :=
  wpList_plain hgd fun _ hK => wp_loadA ty x ho b t e C n N hx hb hu hi hn (hK _ _ h)
end Ks
/- A state's bytes: the program's text. -/
namespace Ks
open Go Go.RowKit
def u8s (l : List UInt8) : Array Value := (l.map fun b => Value.int .u8 (b.toNat : Int)).toArray
@[simp] theorem u8s_size (l : List UInt8) : (u8s l).size = l.length := by simp [u8s]
theorem u8s_set (l : List UInt8) (i : Nat) (b : UInt8) : (u8s l).setIfInBounds i (.int .u8 (b.toNat : Int)) = u8s (l.set i b) := by simp [u8s, List.map_set]
theorem set4 {α : Type} (A : List α) (z : α) (m n : Nat) (b0 b1 b2 b3 : α) (hA : A.length = n) :
    ((((A ++ List.replicate (m + 4) z).set n b0).set (n + 1) b1).set (n + 2) b2).set (n + 3) b3 = (A ++ [b0, b1, b2, b3]) ++ List.replicate m z := by
  subst hA
  simp [List.replicate_succ, List.set_append_right]
theorem putL4 (n : Nat) : putL 4 n = [UInt8.ofNat (n / 16777216), UInt8.ofNat (n / 65536), UInt8.ofNat (n / 256), UInt8.ofNat n] := by
  simp [putL, Nat.div_div_eq_div_mul]
def textTo (s : St) (k : Nat) : List UInt8 := (s.list.take k).flatMap (putL 4)
theorem run_index_agg {P : Program} {t e : TypeId} {n : Nat} {C : Array Value} {k : Nat} {v : Value} {ik : IntKind} (ht : P.underlying t = some (.array n e)) (he : P.underlying e = some (.int ik)) (hs : (P.info? e).map (·.size) = some 1)
    (hk : k < n) (hv : C[k]? = some v) (w : World) : (Instr.index t (.agg C) (.int .i64 (k : Int))).run P w = .ok v w := by
  have hz : (Go.sizeOf e).run P w = .ok 1 w := by
    cases hq : P.info? e with
    | none => simp [hq] at hs
    | some i =>
      simp [hq] at hs
      simp [Go.sizeOf, typeInfo, hq, hs]
  have hp : (part e C k).run P w = .ok v w := by simp [part, isAgg, run_underlying he, hv]
  have h1 : (0 : Int) ≤ (k : Int) ∧ (k : Int) < (n : Int) := by omega
  unfold Instr.index
  simp [run_underlying ht, asIntOf, h1, hz, hp, hk]
theorem textTo_length (s : St) (k : Nat) (hk : k ≤ 8) : (textTo s k).length = 4 * k := by
  have : ∀ l : List Nat, (l.flatMap (putL 4)).length = 4 * l.length := by
    intro l
    induction l with
    | nil => rfl
    | cons x l ih => simp only [List.flatMap_cons, List.length_append, ih, List.length_cons, putL4, List.length_nil]; omega
  rw [textTo, this, List.length_take]
  show 4 * min k 8 = _
  omega
theorem textTo_pad (s : St) (k : Nat) (hk : k ≤ 8) : (textTo s k ++ List.replicate (32 - 4 * k) (0 : UInt8)).length = 32 := by
  rw [List.length_append, textTo_length s k hk, List.length_replicate]; omega
theorem st_lt {s : St} (hs : s.ok) (k : Nat) : s.list.getD k 0 < 4294967296 := by
  obtain ⟨h1, h2, h3, h4, h5, h6, h7, h8⟩ := hs
  refine getD_lt ?_ k
  intro x hx
  simp only [St.list, List.mem_cons, List.not_mem_nil, or_false] at hx
  rcases hx with rfl | rfl | rfl | rfl | rfl | rfl | rfl | rfl <;> assumption
theorem textTo_succ (s : St) (k : Nat) (hk : k < 8) : textTo s (k + 1) = textTo s k ++ putL 4 (s.list.getD k 0) := by
  have h : k < s.list.length := hk
  rw [textTo, textTo, List.take_add_one, List.getElem?_eq_getElem h, List.flatMap_append, List.getD_eq_getElem?_getD, List.getElem?_eq_getElem h]
  simp
theorem text_step (s : St) (k : Nat) (hk : k < 8) :
    (((((textTo s k ++ List.replicate (32 - 4 * k) 0).set (4 * k) (UInt8.ofNat (s.list.getD k 0 / 16777216))).set (4 * k + 1) (UInt8.ofNat (s.list.getD k 0 / 65536))).set (4 * k + 2) (UInt8.ofNat (s.list.getD k 0 / 256))).set (4 * k + 3) (UInt8.ofNat (s.list.getD k 0))
      = textTo s (k + 1) ++ List.replicate (32 - 4 * (k + 1)) (0 : UInt8)) := by
  rw [show 32 - 4 * k = 32 - 4 * (k + 1) + 4 by omega, set4 _ _ _ _ _ _ _ _ (textTo_length s k (by omega)), textTo_succ s k hk, putL4]
theorem byteV (n : Nat) : (UInt8.ofNat n).toNat = n % 256 := by simp
theorem conv_u8s {P : Program} {src dst e : TypeId} {cap : Nat} (w : World) (t : TypeId) (l : List UInt8) (hs : P.underlying src = some (.slice e)) (he : P.underlying e = some (.int .u8)) (hd : P.underlying dst = some .string) :
    (convert src dst (.slice (some ⟨w.heap.size, 0, none⟩) l.length cap)).run P (w.alloc (.cells (u8s l) t)) = .ok (.string ⟨l.toArray⟩) (w.alloc (.cells (u8s l) t)) := by
  refine run_convert_bytes_back _ src dst e _ cap l hs he hd (fun j hj => ?_)
  have hadd : (⟨w.heap.size, 0, none⟩ : Addr).add j = ⟨w.heap.size, j, none⟩ := by unfold Addr.add; split <;> simp_all
  rw [hadd, cell_of_row _ _ j (u8s l) t (0, 0) (alloc_new _ _)]
  simp [u8s, hj]
theorem textTo_all (s : St) : textTo s 8 = textL s := by
  simp [textTo, St.list, textL]
end Ks
namespace Go.Proofs.Ytpdeicgjmjoglaa
open Go.RowKit Ks
set_option linter.unusedVariables false

set_option maxRecDepth 20000 in
set_option maxHeartbeats 1000000 in
theorem text_any (s : St) (w : World) (hs : s.ok) : Calls Try.prog 63 #[.agg (u32s s.list)] w fun e w' => e = .returned (.string ⟨(textL s).toArray⟩) ∧ Below w.heap.size w w' := by
  refine calls_by fun R HR => ?_
  obtain ⟨C, hC⟩ : ∃ C, u32s s.list = C := ⟨_, rfl⟩
  rw [hC]
  go_enter Try.func63, Try.ntmps63
  go_wp2_with (refine wpList_loadA rfl 84 _ rfl _ 84 _ C 8 8 rfl (blk_keep (alloc_new _ _) _) Try.underlying84 (by kernel_rfl) (by rw [← hC]; rfl) ?_)
  go_loopw [7] (fun i wx => ∃ k L, k ≤ 8 ∧ i = .int .i64 (k : Nat) ∧ wx = (w.alloc (.cells C 84)).alloc (.cells (u8s L) 103) ∧ Hid (L = textTo s k ++ List.replicate (32 - 4 * k) 0)) (fun i _ => 8 - (intOf i).toNat)
  case atStart => exact ⟨0, List.replicate 32 0, by omega, rfl, rfl, Lib.hid rfl⟩
  case round =>
    obtain ⟨k, L, hk, rfl, rfl, hL⟩ := hrel
    have hlen : L.length = 32 := by rw [hL.out]; exact textTo_pad s k hk
    by_cases hlt : k < 8
    · obtain ⟨n, hn⟩ : ∃ n, s.list.getD k 0 = n := ⟨_, rfl⟩
      have hn1 : n < 4294967296 := by rw [← hn]; exact st_lt hs k
      have hCk : C[k]? = some (.int .u32 (n : Int)) := by rw [← hC, ← hn]; exact u32s_get _ _ hlt
      have hn' := Lib.hid hn
      have hix := fun w => run_index_agg (P := Try.prog) Try.underlying84 Try.underlying82 (by kernel_rfl) hlt hCk w
      obtain ⟨D, hD⟩ : ∃ D, u8s L = D := ⟨_, rfl⟩
      have hDs : D.size = 32 := by rw [← hD, u8s_size, hlen]
      have hD' := Lib.hid hD
      rw [hD]
      have HC := Lib.hid hC
      have HS := Lib.hid hs
      obtain ⟨z0, hz0⟩ : ∃ z, D[4 * k]? = some z := ⟨_, Array.getElem?_eq_getElem (by omega)⟩
      obtain ⟨z1, hz1⟩ : ∃ z, D[4 * k + 1]? = some z := ⟨_, Array.getElem?_eq_getElem (by omega)⟩
      obtain ⟨z2, hz2⟩ : ∃ z, D[4 * k + 2]? = some z := ⟨_, Array.getElem?_eq_getElem (by omega)⟩
      obtain ⟨z3, hz3⟩ : ∃ z, D[4 * k + 3]? = some z := ⟨_, Array.getElem?_eq_getElem (by omega)⟩
      clear hD hn hC hs hlen hCk
      go_wp2
      go_round
      case rel =>
        refine ⟨k + 1, textTo s (k + 1) ++ List.replicate (32 - 4 * (k + 1)) 0, by omega, by go_num, ?_, Lib.hid rfl⟩
        rw [← text_step s k hlt, hn'.out, ← hL.out, ← u8s_set, ← u8s_set, ← u8s_set, ← u8s_set, hD'.out, byteV (n / 16777216), byteV (n / 65536), byteV (n / 256), byteV n, Nat.mod_eq_of_lt (show n / 16777216 < 256 by omega)]
        rfl
      case measure => simp [intOf]; omega
    · obtain rfl : k = 8 := by omega
      clear hC hs hk hlt
      have hconv := conv_u8s (P := Try.prog) (src := 91) (dst := 9) (cap := 32) (w.alloc (.cells C 84)) 103 L Try.underlying91 Try.underlying5 Try.underlying9
      simp only [World.size_alloc] at hconv
      rw [hlen] at hconv
      go_wp2
      refine HR.out _ _ ⟨?_, ((alloc_below w _).alloc (by simp) _)⟩
      rw [← textTo_all, hL.out]
      simp
end Go.Proofs.Ytpdeicgjmjoglaa
/- A block's numbers: the program's words. -/
namespace Ks
open Go Go.RowKit
theorem wpad_length (B : List UInt8) (k : Nat) (hk : k ≤ 64) : (wordsN B k ++ List.replicate (64 - k) 0).length = 64 := by
  rw [List.length_append, wordsN_length, List.length_replicate]; omega
theorem wpad_set (B : List UInt8) (k x : Nat) (hk : k < 64) (hx : (if k < 16 then num4 B k else wNext (wordsN B k)) = x) :
    (wordsN B k ++ List.replicate (64 - k) 0).set k x = wordsN B (k + 1) ++ List.replicate (64 - (k + 1)) 0 := by
  have h1 := List.set_append_right (s := wordsN B k) (t := 0 :: List.replicate (64 - (k + 1)) 0) k x (by rw [wordsN_length]; omega)
  rw [show 64 - k = 64 - (k + 1) + 1 by omega, List.replicate_succ, h1, wordsN_length, Nat.sub_self, wordsN, hx]
  simp
theorem wpad_get (B : List UInt8) (k j : Nat) (hj : j < k) : (wordsN B k ++ List.replicate (64 - k) 0).getD j 0 = (wordsN B k).getD j 0 := by
  rw [List.getD_eq_getElem?_getD, List.getD_eq_getElem?_getD, List.getElem?_append_left (by rw [wordsN_length]; omega)]
theorem wpad_lt (B : List UInt8) (k : Nat) : ∀ x ∈ wordsN B k ++ List.replicate (64 - k) 0, x < 4294967296 := by
  intro x hx
  rcases List.mem_append.1 hx with hx | hx
  · exact wordsN_lt B k x hx
  · rw [List.eq_of_mem_replicate hx]; decide
theorem num4_extract (s : ByteArray) (k : Nat) (h : s.size = 64) : getN ((s.extract (4 * k) 64).data.toList.take 4) = num4 s.data.toList k := by
  have hl : s.data.toList.length = 64 := by rw [data_length, h]
  rw [num4]
  congr 2
  rw [ByteArray.data_extract, Array.toList_extract, List.extract_eq_take_drop]
  rw [List.take_of_length_le]
  rw [List.length_drop]; omega
theorem wrap_u32_mod (n : Int) : IntKind.u32.wrap n = n % 4294967296 := by simp [IntKind.wrap, IntKind.bits, IntKind.signed]
/-- an array of numbers in a block -/
structure Nums (w : World) (b : Nat) (t : TypeId) (L : List Nat) : Prop where
  blk : w.heap[b]? = some (.cells (u32s L) t (0, 0))
theorem Nums.cell {w : World} {b : Nat} {t : TypeId} {L : List Nat} (h : Nums w b t L) (j : Nat) (hj : j < L.length) : w.cell? ⟨b, j, none⟩ = some (.int .u32 ((L.getD j 0 : Nat) : Int)) := by
  rw [cell_of_row w b j _ _ _ h.blk, u32s_get L j hj]
theorem Nums.frozen {w : World} {b : Nat} {t : TypeId} {L : List Nat} (h : Nums w b t L) (j : Nat) : w.frozen? ⟨b, j, none⟩ = false := frozen_of_row w b j _ _ h.blk
theorem Nums.lt {w : World} {b : Nat} {t : TypeId} {L : List Nat} (h : Nums w b t L) : b < w.heap.size := lt_of_block h.blk
theorem Nums.keep {w w' : World} {b : Nat} {t : TypeId} {L : List Nat} (h : Nums w b t L) (hb : Below w.heap.size w w') : Nums w' b t L := ⟨(hb.block b h.lt).trans h.blk⟩
theorem Nums.set {w : World} {b : Nat} {t : TypeId} {L : List Nat} (h : Nums w b t L) (j x : Nat) : Nums (w.setCell ⟨b, j, none⟩ (.int .u32 (x : Int))) b t (L.set j x) :=
  ⟨by rw [setCell_eq_setRow w b j _ _ _ _ h.blk, setRow_heap w b _ _ _ _ h.blk, u32s_set]⟩
theorem Nums.other {w : World} {b c : Nat} {t : TypeId} {L : List Nat} (h : Nums w b t L) (j : Nat) (v : Value) (hc : b ≠ c) : Nums (w.setCell ⟨c, j, none⟩ v) b t L := ⟨(set_ne v hc).trans h.blk⟩
end Ks
namespace Go.Proofs.Ytpdeicgjmjoglaa
open Go.RowKit Ks
set_option linter.unusedVariables false

set_option maxRecDepth 20000 in
set_option maxHeartbeats 4000000 in
theorem words_any (s : ByteArray) (w : World) (h : s.size = 64) : Calls Try.prog 70 #[.string s] w fun e w' => e = .returned (.agg (u32s (wordsN s.data.toList 64))) ∧ Below w.heap.size w w' := by
  refine calls_by fun R HR => ?_
  go_enter Try.func70, Try.ntmps70
  go_wp2_with fail
  obtain ⟨W, hW⟩ : ∃ W, (w.alloc (.cells (u32s (List.replicate 64 0)) 97)).alloc (.cells (u32s (List.replicate 64 0)) 97) = W := ⟨_, rfl⟩
  have k2 : Nums W w.heap.size 97 (List.replicate 64 0) := ⟨by rw [← hW]; exact blk_keep (alloc_new _ _) _⟩
  have k3 : Nums W (w.heap.size + 1) 97 (List.replicate 64 0) := ⟨by rw [← hW, ← World.size_alloc (w := w) (o := .cells (u32s (List.replicate 64 0)) 97)]; exact alloc_new _ _⟩
  have kb : Below w.heap.size w W := by rw [← hW]; exact (alloc_below w _).alloc (by simp) _
  change Code.wp _ _ _ _ ((w.alloc (.cells (u32s (List.replicate 64 0)) 97)).alloc (.cells (u32s (List.replicate 64 0)) 97))
  rw [hW]
  have hk2 := Lib.hid k2
  have hk3 := Lib.hid k3
  have hkb := Lib.hid kb
  clear hW k2 k3 kb
  go_loopw [5] (fun i wx => ∃ k L, k ≤ 64 ∧ i = .int .i64 (k : Nat) ∧ Hid (L = wordsN s.data.toList k ++ List.replicate (64 - k) 0) ∧ Hid (Nums wx (w.heap.size + 1) 97 L ∧ Nums wx w.heap.size 97 (List.replicate 64 0) ∧ Below w.heap.size w wx)) (fun i _ => 64 - (intOf i).toNat)
  case atStart => exact ⟨0, _, by omega, rfl, Lib.hid rfl, Lib.hid ⟨hk3.out, hk2.out, hkb.out⟩⟩
  case round =>
    obtain ⟨k, L, hk, rfl, hL, hN⟩ := hrel
    have hlen : L.length = 64 := by rw [hL.out]; exact wpad_length _ k hk
    by_cases hlt : k < 64
    · by_cases h16 : k < 16
      · have hx := Lib.hid (wpad_set s.data.toList k (num4 s.data.toList k) hlt (if_pos h16))
        go_wp2_with fail
        refine (number_any (s.extract (4 * k) 64) _ (by rw [ByteArray.size_extract]; omega)).mono ?_
        rintro e w1 ⟨rfl, hb⟩
        rw [num4_extract s k h]
        obtain ⟨n3, n2, nb⟩ := hN.out
        have n3' := n3.keep hb
        have n2' := n2.keep hb
        have c1 := n3'.cell k (by omega)
        have f1 := n3'.frozen k
        have hM := Lib.hid (And.intro n3' (And.intro n2' (nb.trans (hb.mono nb.size))))
        clear n3 n2 nb n3' n2' hb hN
        go_wp2
        go_round
        case rel =>
          refine ⟨k + 1, _, by omega, by go_num, Lib.hid rfl, Lib.hid ⟨?_, hM.out.2.1.other _ _ (by omega), hM.out.2.2.setCell (by simp) _⟩⟩
          rw [← hx.out, ← hL.out]
          exact hM.out.1.set _ _
        case measure => simp [intOf]; omega
      · have hx := Lib.hid (wpad_set s.data.toList k (wNext (wordsN s.data.toList k)) hlt (if_neg h16))
        go_wp2_with fail
        obtain ⟨n3, n2, nb⟩ := hN.out
        obtain ⟨y16, h16'⟩ : ∃ y, L.getD (k - 16) 0 = y := ⟨_, rfl⟩
        obtain ⟨y15, h15'⟩ : ∃ y, L.getD (k - 15) 0 = y := ⟨_, rfl⟩
        obtain ⟨y7, h7'⟩ : ∃ y, L.getD (k - 7) 0 = y := ⟨_, rfl⟩
        obtain ⟨y2, h2'⟩ : ∃ y, L.getD (k - 2) 0 = y := ⟨_, rfl⟩
        have c16 := n3.cell (k - 16) (by omega)
        have c15 := n3.cell (k - 15) (by omega)
        have c7 := n3.cell (k - 7) (by omega)
        have c2 := n3.cell (k - 2) (by omega)
        rw [h16'] at c16
        rw [h15'] at c15
        rw [h7'] at c7
        rw [h2'] at c2
        have hl : ∀ j, L.getD j 0 < 4294967296 := fun j => by rw [hL.out]; exact getD_lt (wpad_lt s.data.toList k) j
        have l15 : y15 < 4294967296 := by rw [← h15']; exact hl _
        have l2 : y2 < 4294967296 := by rw [← h2']; exact hl _
        have hV : Hid ((y16 + sigS y15 7 18 3 + y7 + sigS y2 17 19 10) % 4294967296 = wNext (wordsN s.data.toList k)) := Lib.hid (by
          rw [wNext, wordsN_length, ← wpad_get _ k (k - 16) (by omega), ← wpad_get _ k (k - 15) (by omega), ← wpad_get _ k (k - 7) (by omega), ← wpad_get _ k (k - 2) (by omega), ← hL.out, h16', h15', h7', h2'])
        have n3f := n3.frozen k
        have n3c := n3.cell k (by omega)
        clear h16' h15' h7' h2' hl n2 nb n3
        obtain ⟨j16, r16⟩ : ∃ j, k - 16 = j := ⟨_, rfl⟩
        obtain ⟨j15, r15⟩ : ∃ j, k - 15 = j := ⟨_, rfl⟩
        obtain ⟨j7, r7⟩ : ∃ j, k - 7 = j := ⟨_, rfl⟩
        obtain ⟨j2, r2⟩ : ∃ j, k - 2 = j := ⟨_, rfl⟩
        rw [r16] at c16
        rw [r15] at c15
        rw [r7] at c7
        rw [r2] at c2
        have w16 : IntKind.i64.wrap ((k : Int) - 16) = (j16 : Int) := by rw [IntKind.wrap_i64]; omega
        have w15 : IntKind.i64.wrap ((k : Int) - 15) = (j15 : Int) := by rw [IntKind.wrap_i64]; omega
        have w7 : IntKind.i64.wrap ((k : Int) - 7) = (j7 : Int) := by rw [IntKind.wrap_i64]; omega
        have w2 : IntKind.i64.wrap ((k : Int) - 2) = (j2 : Int) := by rw [IntKind.wrap_i64]; omega
        have b16 : (j16 : Int) < 64 := by omega
        have b15 : (j15 : Int) < 64 := by omega
        have b7 : (j7 : Int) < 64 := by omega
        have b2 : (j2 : Int) < 64 := by omega
        clear r16 r15 r7 r2
        have t15 : ∀ w : World, Calls Try.prog 72 #[.int .u32 y15, .int .i64 7, .int .i64 18, .int .i64 3, .bool true] w fun e w' => e = .returned (.int .u32 (sigS y15 7 18 3 : Nat)) ∧ w' = w :=
          fun w => three_shift y15 7 18 3 w l15 (by decide) (by decide) (by decide)
        have t2 : ∀ w : World, Calls Try.prog 72 #[.int .u32 y2, .int .i64 17, .int .i64 19, .int .i64 10, .bool true] w fun e w' => e = .returned (.int .u32 (sigS y2 17 19 10 : Nat)) ∧ w' = w :=
          fun w => three_shift y2 17 19 10 w l2 (by decide) (by decide) (by decide)
        obtain ⟨A, hA⟩ : ∃ A, sigS y15 7 18 3 = A := ⟨_, rfl⟩
        obtain ⟨E, hE⟩ : ∃ E, sigS y2 17 19 10 = E := ⟨_, rfl⟩
        rw [hA] at t15 hV
        rw [hE] at t2 hV
        have T15 := Lib.hid t15
        have T2 := Lib.hid t2
        clear hA hE t15 t2 l15 l2
        refine wp_region_still_tail 22 (by kernel_rfl) (by kernel_rfl) ?_
        simp only [List.take_succ_cons, List.take_zero, List.drop_succ_cons, List.drop_zero]
        repeat still_step
        still_call (T15.out _)
        repeat still_step
        still_call (T2.out _)
        repeat still_step
        refine wpStill_nil ?_
        change wpList _ _ _ _ _ wr.drew
        obtain ⟨V, hVV⟩ : ∃ V, wNext (wordsN s.data.toList k) = V := ⟨_, rfl⟩
        have hw : IntKind.u32.wrap (IntKind.u32.wrap (IntKind.u32.wrap ((y16 : Int) + A) + y7) + E) = (V : Int) := by
          have := hV.out
          simp only [wrap_u32_mod]
          omega
        rw [hw]
        have hbd := drew_below wr
        have hM := Lib.hid (And.intro (hN.out.1.keep hbd) (And.intro (hN.out.2.1.keep hbd) (hN.out.2.2.trans (hbd.mono hN.out.2.2.size))))
        rw [hVV] at hx
        clear hVV hw hV hbd hN c16 c15 c7 c2 w16 w15 w7 w2 b16 b15 b7 b2 n3c n3f
        generalize wr.drew = w1 at *
        have c1 := hM.out.1.cell k (by omega)
        have f1 := hM.out.1.frozen k
        go_wp2
        go_round
        case rel =>
          refine ⟨k + 1, _, by omega, by go_num, Lib.hid rfl, Lib.hid ⟨?_, hM.out.2.1.other _ _ (by omega), hM.out.2.2.setCell (by simp) _⟩⟩
          rw [← hx.out, ← hL.out]
          exact hM.out.1.set _ _
        case measure => simp [intOf]; omega
    · obtain rfl : k = 64 := by omega
      obtain ⟨n3, n2, nb⟩ := hN.out
      have e1 := Lib.hid n3.blk
      have e2 := Lib.hid n2.blk
      have e3 := Lib.hid nb
      have e4 := Lib.hid (show (u32s L).size = 64 by rw [u32s_size, hlen])
      have e5 := Lib.hid (show L = wordsN s.data.toList 64 by rw [hL.out]; simp)
      clear n3 n2 nb hN hL hlen
      go_wp2_with (first
        | refine wpList_loadA rfl 97 _ rfl _ 97 _ _ 64 64 rfl e1.out Try.underlying97 (by kernel_rfl) e4.out ?_
        | refine wpList_storeA rfl 97 _ _ rfl _ 97 _ _ 64 rfl rfl e2.out (by kernel_rfl) e4.out (by simp) (u32s_one _) ?_)
      exact ret_arr (N := 64) (C := u32s L) Try.results70 rfl (setRow_heap _ _ _ _ _ _ e2.out) Try.underlying97 (by kernel_rfl) e4.out rfl (HR.out _ _ ⟨by rw [e5.out], below_setRow e3.out (Nat.le_refl _) _⟩)
end Go.Proofs.Ytpdeicgjmjoglaa
/- The digest's constants: the first state, the rounds' numbers; the reference's. -/
namespace Go.Proofs.Ytpdeicgjmjoglaa
open Go.RowKit Ks
set_option linter.unusedVariables false

set_option maxHeartbeats 1000000 in
theorem first_any (w : World) : Calls Try.prog 58 #[] w fun e w' => e = .returned (.agg (u32s st0.list)) ∧ Below w.heap.size w w' := by
  refine calls_by fun R HR => ?_
  go_enter Try.func58, Try.ntmps58
  go_wp2_with fail
  exact ret_arr (N := 8) (C := u32s st0.list) Try.results58 rfl (alloc_new _ _) Try.underlying84 (by kernel_rfl) rfl rfl (HR.out _ _ ⟨rfl, alloc_below _ _⟩)
set_option maxHeartbeats 4000000 in
set_option maxRecDepth 100000 in
theorem constants_any (w : World) : Calls Try.prog 71 #[] w fun e w' => e = .returned (.agg (u32s kays)) ∧ Below w.heap.size w w' := by
  refine calls_by fun R HR => ?_
  go_enter Try.func71, Try.ntmps71
  go_wp2_with (refine wpList_storeN rfl 97 _ _ rfl 97 _ (u32s kays) 64 rfl rfl (by kernel_rfl) rfl rfl (u32s_one _) ?_)
  exact ret_arr (N := 64) (C := u32s kays) Try.results71 rfl (alloc_new _ _) Try.underlying97 (by kernel_rfl) rfl rfl (HR.out _ _ ⟨rfl, alloc_below _ _⟩)
set_option maxHeartbeats 1000000 in
theorem begin_any (w : World) : Calls Try.prog 52 #[] w fun e w' => e = .returned (.agg (i64s st0.list)) ∧ Below w.heap.size w w' := by
  refine calls_by fun R HR => ?_
  go_enter Try.func52, Try.ntmps52
  go_wp2_with fail
  exact ret_arr (N := 8) (C := i64s st0.list) Try.results52 rfl (alloc_new _ _) Try.underlying74 (by kernel_rfl) rfl rfl (HR.out _ _ ⟨rfl, alloc_below _ _⟩)
set_option maxHeartbeats 4000000 in
set_option maxRecDepth 100000 in
theorem rounds_any (w : World) : Calls Try.prog 53 #[] w fun e w' => e = .returned (.agg (i64s kays)) ∧ Below w.heap.size w w' := by
  refine calls_by fun R HR => ?_
  go_enter Try.func53, Try.ntmps53
  go_wp2_with (refine wpList_storeN rfl 76 _ _ rfl 76 _ (i64s kays) 64 rfl rfl (by kernel_rfl) rfl rfl (i64s_one _) ?_)
  exact ret_arr (N := 64) (C := i64s kays) Try.results53 rfl (alloc_new _ _) Try.underlying76 (by kernel_rfl) rfl rfl (HR.out _ _ ⟨rfl, alloc_below _ _⟩)
end Go.Proofs.Ytpdeicgjmjoglaa
/- What a block turns a state to: the program's turned. -/
namespace Ks
open Go Go.RowKit
theorem Nums.row {w : World} {b : Nat} {t : TypeId} {old : Array Value} (h : w.heap[b]? = some (.cells old t (0, 0))) (L : List Nat) : Nums (w.setRow b (u32s L)) b t L := ⟨setRow_heap _ _ _ _ _ _ h⟩
theorem Nums.rowOther {w : World} {b c : Nat} {t : TypeId} {L : List Nat} (h : Nums w b t L) (C : Array Value) (hc : b ≠ c) : Nums (w.setRow c C) b t L := ⟨(setRow_other _ _ _ _ hc).trans h.blk⟩
theorem Nums.alloc {w : World} {b : Nat} {t : TypeId} {L : List Nat} (h : Nums w b t L) (o : Obj) : Nums (w.alloc o) b t L := ⟨blk_keep h.blk o⟩
theorem Nums.new (w : World) (t : TypeId) (L : List Nat) : Nums (w.alloc (.cells (u32s L) t)) w.heap.size t L := ⟨alloc_new _ _⟩
theorem ch_bits (e f g : Nat) (he : e < 4294967296) (hf : f < 4294967296) (hg : g < 4294967296) : bits .xor .u32 (g : Int) (bits .and .u32 (e : Int) (bits .xor .u32 (f : Int) (g : Int))) = ((chN e f g : Nat) : Int) := by
  rw [xor_u32 f g hf hg, and_u32 e _ he (xor32 hf hg), xor_u32 g _ hg (and32 (xor32 hf hg)), ch_parts e f g he hg]
theorem maj_bits (a b c : Nat) (ha : a < 4294967296) (hb : b < 4294967296) (hc : c < 4294967296) : bits .or .u32 (bits .and .u32 (a : Int) (b : Int)) (bits .and .u32 (c : Int) (bits .or .u32 (a : Int) (b : Int))) = ((majN a b c : Nat) : Int) := by
  rw [and_u32 a b ha hb, or_u32 a b ha hb, and_u32 c _ hc (or32 ha hb), or_u32 _ _ (and32 hb) (and32 (or32 ha hb)), maj_parts]
/-- the first so many sums -/
def sumsN (Y X : List Nat) (k : Nat) : List Nat := (List.range 8).map fun i => if i < k then (Y.getD i 0 + X.getD i 0) % 4294967296 else Y.getD i 0
theorem sumsN_length (Y X : List Nat) (k : Nat) : (sumsN Y X k).length = 8 := by simp [sumsN]
set_option linter.unusedVariables false in
theorem sumsN_get (Y X : List Nat) (k : Nat) (hk : k < 8) : (sumsN Y X k).getD k 0 = Y.getD k 0 := by
  simp [sumsN, hk]
set_option linter.unusedVariables false in
theorem sumsN_set (Y X : List Nat) (k : Nat) (hk : k < 8) : (sumsN Y X k).set k ((Y.getD k 0 + X.getD k 0) % 4294967296) = sumsN Y X (k + 1) := by
  refine List.ext_getElem (by simp [sumsN]) fun i h1 h2 => ?_
  rw [List.getElem_set]
  simp only [sumsN, List.getElem_map, List.getElem_range]
  by_cases e : k = i
  · subst e; simp
  · rw [if_neg e]
    by_cases h : i < k
    · rw [if_pos h, if_pos (by omega)]
    · rw [if_neg h, if_neg (by omega)]
theorem sumsN_zero (s : St) (X : List Nat) : sumsN s.list X 0 = s.list := rfl
theorem sumsN_all (s x : St) : sumsN s.list x.list 8 = (addN s x).list := rfl
end Ks
namespace Go.Proofs.Ytpdeicgjmjoglaa
open Go.RowKit Ks
set_option linter.unusedVariables false

set_option maxRecDepth 20000 in
set_option maxHeartbeats 1000000 in
theorem turned_any (x : St) (s : ByteArray) (w : World) (hx : x.ok) (h : s.size = 64) :
    Calls Try.prog 60 #[.agg (u32s x.list), .string s] w fun e w' => e = .returned (.agg (u32s (turnN x s.data.toList).list)) ∧ Below w.heap.size w w' := by
  refine calls_by fun R HR => ?_
  obtain ⟨C, hC⟩ : ∃ C, u32s x.list = C := ⟨_, rfl⟩
  rw [hC]
  have HC := Lib.hid hC
  clear hC
  go_enter Try.func60, Try.ntmps60
  go_wp2_with fail
  refine (words_any s _ h).mono ?_
  rintro e w1 ⟨rfl, hb1⟩
  obtain ⟨CW, hCW⟩ : ∃ CW, u32s (wordsN s.data.toList 64) = CW := ⟨_, rfl⟩
  rw [hCW]
  have HCW := Lib.hid hCW
  clear hCW
  have HB1 := Lib.hid hb1
  clear hb1
  go_wp2_with fail
  refine (constants_any _).mono ?_
  rintro e w2 ⟨rfl, hb2⟩
  obtain ⟨CK, hCK⟩ : ∃ CK, u32s kays = CK := ⟨_, rfl⟩
  rw [hCK]
  have HCK := Lib.hid hCK
  clear hCK
  have HB2 := Lib.hid hb2
  clear hb2
  have sW : CW.size = 64 := by rw [← HCW.out, u32s_size, wordsN_length]
  have sK : CK.size = 64 := by rw [← HCK.out]; rfl
  have SW := Lib.hid sW
  have SK := Lib.hid sK
  clear sW sK
  go_upto_region 2 with (first
    | refine wpList_storeA rfl 97 (.tmp 5) (.tmp 19) rfl _ 97 _ CW 64 rfl rfl (blk_keep (alloc_new _ _) _) (by kernel_rfl) SW.out rfl (by rw [← HCW.out]; exact u32s_one _) ?_
    | refine wpList_storeA rfl 97 (.tmp 6) (.tmp 20) rfl _ 97 _ CK 64 rfl rfl ((setRow_other _ _ _ _ (by omega)).trans (alloc_new2 _ _ _)) (by kernel_rfl) SK.out rfl (by rw [← HCK.out]; exact u32s_one _) ?_)
  obtain ⟨W0, hW0⟩ : ∃ W0, w.alloc (.cells C 84) = W0 := ⟨_, rfl⟩
  have k0 : Nums W0 w.heap.size 84 x.list := by rw [← hW0, ← HC.out]; exact Nums.new _ _ _
  have z0 : W0.heap.size = w.heap.size + 1 := by rw [← hW0]; exact World.size_alloc _ _
  have kb0 : Below w.heap.size w W0 := by rw [← hW0]; exact alloc_below w _
  have B1 := HB1.out
  rw [hW0] at B1
  obtain ⟨W1, hW1⟩ : ∃ W1, W0.alloc (.cells (u32s (List.replicate 8 0)) 84) = W1 := ⟨_, rfl⟩
  change Below (W0.alloc (.cells (u32s (List.replicate 8 0)) 84)).heap.size (W0.alloc (.cells (u32s (List.replicate 8 0)) 84)) w1 at B1
  have k1 : Nums W1 (w.heap.size + 1) 84 (List.replicate 8 0) := by rw [← hW1, ← z0]; exact Nums.new _ _ _
  have k0' : Nums W1 w.heap.size 84 x.list := by rw [← hW1]; exact k0.alloc _
  have z1 : W1.heap.size = w.heap.size + 2 := by rw [← hW1, World.size_alloc, z0]
  have kb1 : Below w.heap.size w W1 := by rw [← hW1]; exact kb0.trans ((alloc_below W0 _).mono (by omega))
  rw [hW1] at B1
  have z2 := B1.size
  have B2 := HB2.out
  have z3 := B2.size
  have BW := kb1.trans ((B1.mono (by omega)).trans (B2.mono (by omega)))
  refine code_cut (fun W => Nums W w.heap.size 84 x.list ∧ Nums W (w.heap.size + 1) 84 (List.replicate 8 0) ∧ Nums W w2.heap.size 97 (wordsN s.data.toList 64) ∧ Nums W (w2.heap.size + 1) 97 kays ∧ Below w.heap.size w W ∧ W.heap.size = w2.heap.size + 2) ?_ ?_
  · refine ⟨(((((k0'.keep B1).keep B2).alloc _).alloc _).rowOther _ (by omega)).rowOther _ (by omega), (((((k1.keep B1).keep B2).alloc _).alloc _).rowOther _ (by omega)).rowOther _ (by omega), ?_, ?_, ?_, ?_⟩
    · rw [← HCW.out]
      exact (Nums.row (blk_keep (alloc_new _ _) _) _).rowOther _ (by omega)
    · rw [← HCK.out]
      exact Nums.row ((setRow_other _ _ _ _ (by omega)).trans (alloc_new2 _ _ _)) _
    · exact below_setRow (below_setRow ((BW.alloc (by omega) _).alloc (by simp; omega) _) (by omega) _) (by omega) _
    · simp
  intro W hF
  have HF := Lib.hid hF
  have Hz := Lib.hid (show w.heap.size + 2 ≤ w2.heap.size by omega)
  clear hF hW0 hW1 k0 k0' z0 kb0 B1 k1 z1 kb1 z2 B2 z3 BW HB1 HB2
  generalize w2.heap.size = b5 at *
  have HS := Lib.hid (show (u32s x.list).size = 8 from rfl)
  clear SW SK HCW HCK
  go_wp2_with (first
    | refine wpList_loadA rfl 84 (.tmp 2) rfl _ 84 _ _ 8 8 rfl HF.out.1.blk Try.underlying84 (by kernel_rfl) HS.out ?_
    | refine wpList_storeN rfl 84 (.tmp 7) (.tmp 21) rfl 84 _ (u32s x.list) 8 rfl rfl (by kernel_rfl) HS.out rfl (u32s_one _) ?_)
  have HF2 := Lib.hid (show Nums (W.alloc (.cells (u32s x.list) 84)) (b5 + 2) 84 x.list ∧ Nums (W.alloc (.cells (u32s x.list) 84)) w.heap.size 84 x.list ∧ Nums (W.alloc (.cells (u32s x.list) 84)) (w.heap.size + 1) 84 (List.replicate 8 0) ∧ Nums (W.alloc (.cells (u32s x.list) 84)) b5 97 (wordsN s.data.toList 64) ∧ Nums (W.alloc (.cells (u32s x.list) 84)) (b5 + 1) 97 kays ∧ Below w.heap.size w (W.alloc (.cells (u32s x.list) 84)) from by
    obtain ⟨f1, f2, f3, f4, f5, f6⟩ := HF.out
    refine ⟨?_, f1.alloc _, f2.alloc _, f3.alloc _, f4.alloc _, f5.trans ((alloc_below W _).mono f5.size)⟩
    rw [← f6]; exact Nums.new _ _ _)
  have hz := HF.out.2.2.2.2.2
  rw [hz]
  generalize W.alloc (.cells (u32s x.list) 84) = W3 at *
  clear hz HF HS HC
  generalize u32s x.list = CX at *
  go_loopw [22] (fun i wx => ∃ k : Nat, k ≤ 64 ∧ i = .int .i64 k ∧ Hid (Nums wx (b5 + 2) 84 (roundsN x (wordsN s.data.toList 64) k).list ∧ Nums wx w.heap.size 84 x.list ∧ Nums wx (w.heap.size + 1) 84 (List.replicate 8 0) ∧ Nums wx b5 97 (wordsN s.data.toList 64) ∧ Nums wx (b5 + 1) 97 kays ∧ Below w.heap.size w wx)) (fun i _ => 64 - (intOf i).toNat)
  case atStart => exact ⟨0, by omega, rfl, HF2⟩
  case round =>
    obtain ⟨k, hk, rfl, hN⟩ := hrel
    by_cases hlt : k < 64
    · obtain ⟨n7, n0, n1, n5, n6, nb⟩ := hN.out
      have hY := roundsN_ok hx (wordsN s.data.toList 64) k
      have hl7 : (wordsN s.data.toList 64).length = 64 := wordsN_length _ _
      obtain ⟨kk, hkk⟩ : ∃ kk, kays.getD k 0 = kk := ⟨_, rfl⟩
      obtain ⟨ww, hww⟩ : ∃ ww, (wordsN s.data.toList 64).getD k 0 = ww := ⟨_, rfl⟩
      have hs : roundsN x (wordsN s.data.toList 64) (k + 1) = roundN (roundsN x (wordsN s.data.toList 64) k) kk ww := by rw [← hkk, ← hww]; rfl
      have ck := n6.cell k hlt
      have cw := n5.cell k (by omega)
      rw [hkk] at ck
      rw [hww] at cw
      obtain ⟨Y, hYY⟩ : ∃ Y, roundsN x (wordsN s.data.toList 64) k = Y := ⟨_, rfl⟩
      rw [hYY] at hs hY n7
      have c0 := n7.cell 0 (show 0 < 8 by decide)
      have c1 := n7.cell 1 (show 1 < 8 by decide)
      have c2 := n7.cell 2 (show 2 < 8 by decide)
      have c3 := n7.cell 3 (show 3 < 8 by decide)
      have c4 := n7.cell 4 (show 4 < 8 by decide)
      have c5 := n7.cell 5 (show 5 < 8 by decide)
      have c6 := n7.cell 6 (show 6 < 8 by decide)
      have c7 := n7.cell 7 (show 7 < 8 by decide)
      have HN := Lib.hid (And.intro n7 (And.intro n0 (And.intro n1 (And.intro n5 (And.intro n6 nb)))))
      clear n7 n0 n1 n5 n6 nb hN hkk hww hYY HF2
      obtain ⟨ya, yb, yc, yd, ye, yf, yg, yh⟩ := Y
      change wr.cell? ⟨b5 + 2, 0, none⟩ = some (.int .u32 (ya : Int)) at c0
      change wr.cell? ⟨b5 + 2, 1, none⟩ = some (.int .u32 (yb : Int)) at c1
      change wr.cell? ⟨b5 + 2, 2, none⟩ = some (.int .u32 (yc : Int)) at c2
      change wr.cell? ⟨b5 + 2, 3, none⟩ = some (.int .u32 (yd : Int)) at c3
      change wr.cell? ⟨b5 + 2, 4, none⟩ = some (.int .u32 (ye : Int)) at c4
      change wr.cell? ⟨b5 + 2, 5, none⟩ = some (.int .u32 (yf : Int)) at c5
      change wr.cell? ⟨b5 + 2, 6, none⟩ = some (.int .u32 (yg : Int)) at c6
      change wr.cell? ⟨b5 + 2, 7, none⟩ = some (.int .u32 (yh : Int)) at c7
      obtain ⟨ya1, yb1, yc1, yd1, ye1, yf1, yg1, yh1⟩ := hY
      have T1 := Lib.hid (fun w : World => three_turn ye 6 11 25 w ye1 (by decide) (by decide) (by decide))
      have T2 := Lib.hid (fun w : World => three_turn ya 2 13 22 w ya1 (by decide) (by decide) (by decide))
      have HS := Lib.hid hs
      have HL := Lib.hid (And.intro ya1 (And.intro yb1 (And.intro yc1 (And.intro yd1 (And.intro ye1 (And.intro yf1 (And.intro yg1 yh1)))))))
      have HX := Lib.hid hx
      clear hs ya1 yb1 yc1 yd1 ye1 yf1 yg1 yh1 hx hl7
      go_wp2_with fail
      go_quiet (fail)
      go_wp2_with fail
      have hbd := below_drewN (Below.refl wr.heap.size wr) nq
      have HM := Lib.hid (And.intro (HN.out.1.keep hbd) (And.intro (HN.out.2.1.keep hbd) (And.intro (HN.out.2.2.1.keep hbd) (And.intro (HN.out.2.2.2.1.keep hbd) (And.intro (HN.out.2.2.2.2.1.keep hbd) (HN.out.2.2.2.2.2.trans (hbd.mono HN.out.2.2.2.2.2.size)))))))
      have d7 := HM.out.1.cell 7 (show 7 < 8 by decide)
      have d3 := HM.out.1.cell 3 (show 3 < 8 by decide)
      change World.cell? _ ⟨b5 + 2, 7, none⟩ = some (.int .u32 (yh : Int)) at d7
      change World.cell? _ ⟨b5 + 2, 3, none⟩ = some (.int .u32 (yd : Int)) at d3
      have dk := (hbd.cell (p := ⟨b5 + 1, k, none⟩) HN.out.2.2.2.2.1.lt).trans ck
      have dw := (hbd.cell (p := ⟨b5, k, none⟩) HN.out.2.2.2.1.lt).trans cw
      clear c0 c1 c2 c3 c4 c5 c6 c7 ck cw HN hbd
      generalize wr.drewN nq = w3 at *
      obtain ⟨A, hA⟩ : ∃ A, sigR ye 6 11 25 = A := ⟨_, rfl⟩
      obtain ⟨E, hE⟩ : ∃ E, sigR ya 2 13 22 = E := ⟨_, rfl⟩
      have T1' : Hid (∀ w : World, Calls Try.prog 72 #[.int .u32 ye, .int .i64 6, .int .i64 11, .int .i64 25, .bool false] w fun e w' => e = .returned (.int .u32 (A : Nat)) ∧ w' = w) := Lib.hid fun w => by rw [← hA]; exact T1.out w
      have T2' : Hid (∀ w : World, Calls Try.prog 72 #[.int .u32 ya, .int .i64 2, .int .i64 13, .int .i64 22, .bool false] w fun e w' => e = .returned (.int .u32 (E : Nat)) ∧ w' = w) := Lib.hid fun w => by rw [← hE]; exact T2.out w
      have HA := Lib.hid hA
      have HE := Lib.hid hE
      clear hA hE T1 T2
      refine wp_region_still_tail 21 (by kernel_rfl) (by kernel_rfl) ?_
      simp only [List.take_succ_cons, List.take_zero, List.drop_succ_cons, List.drop_zero]
      repeat still_step
      still_call (T1'.out _)
      repeat still_step
      refine wpStill_nil ?_
      change wpList _ _ _ _ _ w3.drew
      rw [ch_bits ye yf yg HL.out.2.2.2.2.1 HL.out.2.2.2.2.2.1 HL.out.2.2.2.2.2.2.1]
      obtain ⟨t, ht⟩ : ∃ t, (((yh + A) % 4294967296 + chN ye yf yg) % 4294967296 + kk) % 4294967296 + ww = t := ⟨_, rfl⟩
      have hw : IntKind.u32.wrap (IntKind.u32.wrap (IntKind.u32.wrap (IntKind.u32.wrap ((yh : Int) + A) + ((chN ye yf yg : Nat) : Int)) + kk) + ww) = ((t % 4294967296 : Nat) : Int) := by
        simp only [wrap_u32_mod]
        omega
      rw [hw]
      have HT := Lib.hid ht
      clear ht hw d7 dk dw
      obtain ⟨tt, htt⟩ : ∃ tt, t % 4294967296 = tt := ⟨_, rfl⟩
      rw [htt]
      have HTT := Lib.hid htt
      clear htt
      have hbd := drew_below w3
      have HM2 := Lib.hid (And.intro (HM.out.1.keep hbd) (And.intro (HM.out.2.1.keep hbd) (And.intro (HM.out.2.2.1.keep hbd) (And.intro (HM.out.2.2.2.1.keep hbd) (And.intro (HM.out.2.2.2.2.1.keep hbd) (HM.out.2.2.2.2.2.trans (hbd.mono HM.out.2.2.2.2.2.size)))))))
      have d3' := (hbd.cell (p := ⟨b5 + 2, 3, none⟩) HM.out.1.lt).trans d3
      clear d3 hbd HM
      generalize w3.drew = w4 at *
      go_wp2_with fail
      refine (T2'.out _).mono ?_
      rintro e w5 ⟨rfl, rfl⟩
      go_wp2_with (apply wpList_storeA rfl 84 (.tmp 7) (.tmp 83) rfl _ 84 _ _ 8 rfl rfl HM2.out.1.blk (by kernel_rfl))
      case hn => rfl
      case hs => rfl
      case h1 => simp [Value.oneCell']
      case roundEnd =>
        rw [maj_bits ya yb yc HL.out.1 HL.out.2.1 HL.out.2.2.1]
        refine ⟨⟨k + 1, by omega, by go_num, Lib.hid ⟨?_, HM2.out.2.1.rowOther _ (by have := Hz.out; omega), HM2.out.2.2.1.rowOther _ (by have := Hz.out; omega), HM2.out.2.2.2.1.rowOther _ (by omega), HM2.out.2.2.2.2.1.rowOther _ (by omega), below_setRow HM2.out.2.2.2.2.2 (by have := Hz.out; omega) _⟩⟩, by simp [intOf]; omega⟩
        rw [HS.out]
        have hC : u32s (roundN ⟨ya, yb, yc, yd, ye, yf, yg, yh⟩ kk ww).list = #[.int .u32 (((tt : Int) + ((E : Int) + ((majN ya yb yc : Nat) : Int))) % 4294967296), .int .u32 (ya : Int), .int .u32 (yb : Int), .int .u32 (yc : Int), .int .u32 (((yd : Int) + (tt : Int)) % 4294967296), .int .u32 (ye : Int), .int .u32 (yf : Int), .int .u32 (yg : Int)] := by
          have e1 : ((((tN ⟨ya, yb, yc, yd, ye, yf, yg, yh⟩ kk ww + uN ⟨ya, yb, yc, yd, ye, yf, yg, yh⟩) % 4294967296 : Nat)) : Int) = ((tt : Int) + ((E : Int) + ((majN ya yb yc : Nat) : Int))) % 4294967296 := by
            simp only [tN, uN, HA.out, HE.out]; rw [← HTT.out, ← HT.out]; omega
          have e2 : ((((yd + tN ⟨ya, yb, yc, yd, ye, yf, yg, yh⟩ kk ww) % 4294967296 : Nat)) : Int) = ((yd : Int) + (tt : Int)) % 4294967296 := by
            simp only [tN, HA.out]; rw [← HTT.out, ← HT.out]; omega
          rw [← e1, ← e2]
          rfl
        rw [← hC]
        exact Nums.row HM2.out.1.blk _
    · obtain rfl : k = 64 := by omega
      obtain ⟨Y, hYY⟩ : ∃ Y, roundsN x (wordsN s.data.toList 64) 64 = Y := ⟨_, rfl⟩
      have HYX : Hid (turnN x s.data.toList = addN Y x) := Lib.hid (by rw [turnN, hYY])
      rw [hYY] at hN
      clear hYY
      have HX := Lib.hid hx
      clear hx HF2 hk hlt
      rw [show ((64 : Nat) : Int) = (64 : Int) from rfl]
      go_wp2_with fail
      go_loopw [85] (fun i wx => ∃ k : Nat, k ≤ 8 ∧ i = .int .i64 k ∧ Hid (Nums wx (b5 + 2) 84 (sumsN Y.list x.list k) ∧ Nums wx w.heap.size 84 x.list ∧ Nums wx (w.heap.size + 1) 84 (List.replicate 8 0) ∧ Below w.heap.size w wx)) (fun i _ => 8 - (intOf i).toNat)
      case atStart => exact ⟨0, by omega, rfl, Lib.hid ⟨hN.out.1, hN.out.2.1, hN.out.2.2.1, hN.out.2.2.2.2.2⟩⟩
      case round =>
        obtain ⟨k, hk, rfl, hM⟩ := hrel
        by_cases hlt : k < 8
        · obtain ⟨y, hy⟩ : ∃ y, Y.list.getD k 0 = y := ⟨_, rfl⟩
          obtain ⟨z, hz⟩ : ∃ z, x.list.getD k 0 = z := ⟨_, rfl⟩
          have hset := Lib.hid (sumsN_set Y.list x.list k hlt)
          have cy := hM.out.1.cell k (by rw [sumsN_length]; exact hlt)
          have cx := hM.out.2.1.cell k (show k < 8 from hlt)
          have fy := hM.out.1.frozen k
          rw [sumsN_get _ _ _ hlt, hy] at cy
          rw [hz] at cx
          rw [hy, hz] at hset
          clear hy hz hN
          go_wp2_with fail
          refine wp_region_still_tail 8 (by kernel_rfl) (by kernel_rfl) ?_
          simp only [List.take_succ_cons, List.take_zero, List.drop_succ_cons, List.drop_zero]
          repeat still_step
          refine wpStill_nil ?_
          change wpList _ _ _ _ _ wr.drew
          have hw : IntKind.u32.wrap ((y : Int) + z) = (((y + z) % 4294967296 : Nat) : Int) := by simp only [wrap_u32_mod]; omega
          rw [hw]
          have hbd := drew_below wr
          have hM2 := Lib.hid (And.intro (hM.out.1.keep hbd) (And.intro (hM.out.2.1.keep hbd) (And.intro (hM.out.2.2.1.keep hbd) (hM.out.2.2.2.trans (hbd.mono hM.out.2.2.2.size)))))
          clear hw hM hbd cy cx fy
          generalize wr.drew = w9 at *
          have cy := hM2.out.1.cell k (by rw [sumsN_length]; exact hlt)
          have fy := hM2.out.1.frozen k
          obtain ⟨sm, hsm⟩ : ∃ sm, (y + z) % 4294967296 = sm := ⟨_, rfl⟩
          rw [hsm] at hset ⊢
          clear hsm
          go_wp2
          go_round
          case rel =>
            refine ⟨k + 1, by omega, by go_num, Lib.hid ⟨?_, hM2.out.2.1.other _ _ (by have := Hz.out; omega), hM2.out.2.2.1.other _ _ (by have := Hz.out; omega), hM2.out.2.2.2.setCell (by have := Hz.out; simp; omega) _⟩⟩
            rw [← hset.out]
            exact hM2.out.1.set _ _
          case measure => simp [intOf]; omega
        · obtain rfl : k = 8 := by omega
          have e1 := Lib.hid hM.out.1.blk
          have e2 := Lib.hid hM.out.2.2.1.blk
          have e3 := Lib.hid hM.out.2.2.2
          have e4 : Hid ((u32s (sumsN Y.list x.list 8)).size = 8) := Lib.hid rfl
          have e5 : Hid (u32s (sumsN Y.list x.list 8) = u32s (turnN x s.data.toList).list) := Lib.hid (by rw [HYX.out]; rfl)
          clear hM hN hk hlt
          generalize u32s (sumsN Y.list x.list 8) = CC at *
          go_wp2_with (first
            | refine wpList_loadA rfl 84 _ rfl _ 84 _ _ 8 8 rfl e1.out Try.underlying84 (by kernel_rfl) e4.out ?_
            | refine wpList_storeA rfl 84 _ _ rfl _ 84 _ _ 8 rfl rfl e2.out (by kernel_rfl) e4.out rfl (by rw [e5.out]; exact u32s_one _) ?_)
          exact ret_arr (N := 8) (C := CC) Try.results60 rfl (setRow_heap _ _ _ _ _ _ e2.out) Try.underlying84 (by kernel_rfl) e4.out rfl (HR.out _ _ ⟨by rw [e5.out], below_setRow e3.out (by omega) _⟩)
end Go.Proofs.Ytpdeicgjmjoglaa
/- A region that draws its order: reads and callees that turn nothing of what was there, ahead of a tail whose order is forced (a store of what was called): walked once. Plain. No program is in sight. -/
namespace Ks
open Go Go.RowKit
set_option linter.unusedVariables false

section
variable {P : Program} {ops : Array Oper} {md : Region.Mode} {C : World → Prop}

/-- the head of the region, in whatever order; behind it L -/
def headQ (P : Program) (md : Region.Mode) (ops : Array Oper) (C : World → Prop) (n : Nat) (L : Array Bool → Act → Prop) : Nat → Array Bool → Act → Prop
  | 0, listed, a => L listed a
  | f + 1, listed, a => Region.ready md ops listed ≠ [] ∧ ∀ i ∈ Region.ready md ops listed, i < n ∧ qOp P ops C i (headQ P md ops C n L f (listed.setIfInBounds i true)) a

theorem any_of_headQ {n g : Nat} {L : Array Bool → Act → Prop} {Q' : Exit → Act → World → Prop} (hL : ∀ listed a w, C w → L listed a → wpAny P md ops Q' g listed a w) :
    ∀ (f : Nat) (listed : Array Bool) (a : Act) (w : World), C w → headQ P md ops C n L f listed a → wpAny P md ops Q' (f + g) listed a w := by
  intro f
  induction f with
  | zero => intro listed a w hw h; rw [Nat.zero_add]; exact hL _ _ _ hw h
  | succ f ih =>
    intro listed a w hw h
    rw [show f + 1 + g = (f + g) + 1 by omega]
    exact ⟨fun e => absurd e h.1, fun i hi => wpOp_of_qOp hw (fun a' w' hw' hh => ih _ a' w' hw' hh) (h.2 i hi).2⟩

/-- an operation of the head that may come up now, and is apart from all others that may, is taken first -/
theorem headQ_first {n i : Nat} {oi : Oper} {v : Value} {L : Array Bool → Act → Prop} (hi : ops[i]? = some oi) (hsel : ∀ (j : Nat) (o : Oper) cs b, ops[j]? = some o → o.op ≠ .select cs b)
    (hs : Region.sinkB md ops n = true) (hc : Region.chainB md ops n = true) (hn : n < ops.size) (hin : i < n)
    (hdone : ∀ listed a, L listed a → ∀ j ∈ Region.ready md ops listed, n ≤ j) (f : Nat) :
    ∀ (listed : Array Bool) (a : Act), HeadInv md ops n listed →
      (∀ j oj, ops[j]? = some oj → j ≠ i → listed.getD j true = false → (∀ e ∈ oj.after, Region.binds md e = true → e.on ≠ i) → oi.apart ops oj = true) →
      i ∈ Region.ready md ops listed → YieldsIn P ops C oi v a →
      headQ P md ops C n L f (listed.setIfInBounds i true) (a.put oi.dst v) → headQ P md ops C n L (f + 1) listed a := by
  induction f with
  | zero =>
    intro listed a inv hfree hr hy H
    have hun := (mem_ready.1 hr).1
    refine ⟨(fun e => by rw [e] at hr; cases hr), fun j hj => ?_⟩
    rcases Nat.lt_or_ge j n with hjn | hjn
    · refine ⟨hjn, ?_⟩
      by_cases e : j = i
      · subst e; exact hy.qOp hi H
      · exact absurd (hdone _ _ H j (ready_mono hj e)) (by omega)
    · exact absurd hj (tail_waits hs hc hn inv _ i rfl hin hun j hjn)
  | succ f ih =>
    intro listed a inv hfree hr hy H
    have hun := (mem_ready.1 hr).1
    refine ⟨(fun e => by rw [e] at hr; cases hr), fun j hj => ?_⟩
    rcases Nat.lt_or_ge j n with hjn | hjn
    · refine ⟨hjn, ?_⟩
      by_cases e : j = i
      · subst e; exact hy.qOp hi H
      · have h1 := (H.2 j (ready_mono hj e)).2
        obtain ⟨hjun, oj, hoj, hall⟩ := mem_ready.1 hj
        have hnot : ∀ ed ∈ oj.after, Region.binds md ed = true → ed.on ≠ i := fun ed he hb heq => by
          have h2 := hall ed he hb
          rw [heq, getD_both hun] at h2
          cases h2
        have h2 := qOp_put hoj (hfree j oj hoj e hjun hnot) (fun cs b => hsel i oi cs b hi) (fun cs b => hsel j oj cs b hoj) hy h1
        refine qOp_mono (fun a' h3 => ih (listed.setIfInBounds j true) a' (inv.set hj hjn) (fun k ok hk hki hku hno => ?_) (ready_mono hr (Ne.symm e)) h3.1 ?_) h2
        · refine hfree k ok hk hki ?_ hno
          by_cases hjk : j = k
          · subst hjk; exact hjun
          · rwa [getD_set_ne true hjk] at hku
        · rw [Array.setIfInBounds_comm _ _ e]
          exact h3.2
    · exact absurd hj (tail_waits hs hc hn inv _ i rfl hin hun j hjn)

theorem headQ_lex {n g : Nat} {Lq : Act → Prop} (hsel : Region.noSelect ops = true) (hs : Region.sinkB md ops n = true) (hc : Region.chainB md ops n = true) (hn : n < ops.size) (l : List Oper) :
    ∀ (k : Nat) (listed : Array Bool) (a : Act), (∀ j, j < l.length → l[j]? = ops[k + j]?) → k + l.length = n → HeadInv md ops n listed →
    Region.lexHead md ops g l.length k listed = true → wpQuiet P ops C Lq l a →
    headQ P md ops C n (fun listed' a' => Region.seqB md ops g n listed' = true ∧ Lq a') l.length listed a := by
  induction l with
  | nil =>
    intro k listed a _ hk _ hB h
    obtain rfl : k = n := by simpa using hk
    exact ⟨by simpa [Region.lexHead] using hB, h⟩
  | cons o l ih =>
    intro k listed a hl hk inv hB h
    have h0 : ops[k]? = some o := by simpa using (hl 0 (by simp)).symm
    simp only [List.length_cons, Region.lexHead, Bool.and_eq_true] at hB hk
    obtain ⟨⟨hr, hf⟩, hB'⟩ := hB
    have hr' : k ∈ Region.ready md ops listed := by simpa using hr
    have hq : qOp P ops C k (wpQuiet P ops C Lq l) a := by unfold qOp; simp only [h0]; exact h
    obtain ⟨v, hy, hK⟩ := yieldsIn_of_qOp h0 hq
    refine headQ_first h0 (Region.noSelect_spec hsel) hs hc hn (by omega) (fun listed' a' hL => seqB_ready hL.1) l.length listed a inv (Region.free_spec h0 hf) hr' hy ?_
    refine ih (k + 1) _ _ (fun j hj => ?_) (by omega) (inv.set hr' (by omega)) hB' hK
    have := hl (j + 1) (by simp; omega)
    simpa [Nat.add_assoc, Nat.add_comm 1 j] using this

theorem wp_region_quiet_tail {id : Nat} {Q : Exit → Act → World → Prop} {a : Act} {w : World} {l : List Oper} (n : Nat) (hm : P.follows .mixedOrders = true) (hB : Region.lexTailB .any l.toArray n = true) (hC : C { w with drawn := w.drawn + 1 })
    (h : wpQuiet P l.toArray C (fun a' => ∀ w', C w' → wpList P l.toArray Q (l.drop n) a' w') (l.take n) a) : (Code.region id l.toArray true).wp P Q a w := by
  simp only [Region.lexTailB, Bool.and_eq_true, decide_eq_true_eq] at hB
  obtain ⟨⟨⟨⟨hsel, hn⟩, hs⟩, hc⟩, hlex⟩ := hB
  have hn' : n < l.length := by simpa using hn
  have htl : (l.take n).length = n := by simp; omega
  have hdl : (l.drop n).length = l.toArray.size - n := by simp
  have inv0 : HeadInv .any l.toArray n (Array.replicate l.toArray.size false) :=
    ⟨by simp, fun j oj _ hl => (by rw [getD_replicate_false] at hl; cases hl), fun t _ ht => getD_in (by simpa using ht) (getD_replicate_false _ _)⟩
  have H := headQ_lex (md := .any) (g := l.toArray.size - n) hsel hs hc hn (l.take n) 0 (Array.replicate l.toArray.size false) a
    (fun j hj => by rw [htl] at hj; simp [hj]) (by simpa using htl) inv0 (by rw [htl]; exact hlex) h
  refine wp_region_any hm ?_
  have key := any_of_headQ (Q' := Q) (g := l.toArray.size - n) (fun listed a' w' hw' hL => by
    have := wpAny_of_seq (md := .any) (Q' := Q) (l.drop n) n listed a' w' (fun j => by simp [List.getElem?_drop]) (by rw [hdl]; exact hL.1) (hL.2 w' hw')
    rwa [hdl] at this) _ _ _ _ hC H
  rwa [htl, show n + (l.toArray.size - n) = l.toArray.size by omega] at key
end

theorem drew_below0 (w : World) : Below w.heap.size w w.drew := (Below.refl _ _).drew
/-- at the class 'behind w' -/
theorem wp_region_after_tail {P : Program} {id : Nat} {Q : Exit → Act → World → Prop} {a : Act} {w : World} {l : List Oper} (n : Nat) (hm : P.follows .mixedOrders = true) (hB : Region.lexTailB .any l.toArray n = true)
    (h : wpQuiet P l.toArray (fun w' => ∃ p : Regrown, w' = After w p) (fun a' => ∀ w', (∃ p : Regrown, w' = After w p) → wpList P l.toArray Q (l.drop n) a' w') (l.take n) a) : (Code.region id l.toArray true).wp P Q a w :=
  wp_region_quiet_tail n hm hB (after_of (drew_below0 w)) h

end Ks
/- Parts of a block that is known whole: what is loaded out of its midst, what is stored there; also in a region that draws its order. Plain. No program is in sight. -/
namespace Ks
open Go Go.RowKit
set_option linter.unusedVariables false

/-- a block's cells, with others from a place on -/
def splice (C : Array Value) (o : Nat) (D : Array Value) : Array Value := (C.toList.take o ++ D.toList ++ C.toList.drop (o + D.size)).toArray
theorem splice_all (C D : Array Value) (h : D.size = C.size) : splice C 0 D = D := by
  have : C.toList.drop D.size = [] := List.drop_eq_nil_of_le (by simp [h])
  simp [splice, this]
theorem setCells_row (b : Nat) (t : TypeId) : ∀ (D : List Value) (o : Nat) (w : World) (C : Array Value), w.heap[b]? = some (.cells C t (0, 0)) → o + D.length ≤ C.size →
    w.setCells b o D = w.setRow b (splice C o D.toArray) := by
  intro D
  induction D with
  | nil =>
    intro o w C h _
    have : splice C o #[] = C := by simp [splice]
    rw [World.setCells, show ([] : List Value).toArray = #[] from rfl, this, setRow_self w b C t (0, 0) h]
  | cons v D ih =>
    intro o w C h hs
    simp only [List.length_cons] at hs
    rw [World.setCells, setCell_eq_setRow w b o C t (0, 0) v h]
    rw [ih (o + 1) _ (C.setIfInBounds o v) (setRow_heap _ _ _ _ _ _ h) (by simp; omega), setRow_setRow]
    congr 1
    simp only [splice, Array.toList_setIfInBounds, List.size_toArray, List.length_cons]
    have hlt : o < C.toList.length := by simp; omega
    rw [List.take_set, List.drop_set_of_lt (by omega), List.take_succ_eq_append_getElem hlt, List.set_append_right _ _ (by simp; omega)]
    congr 1
    simp [Nat.min_eq_left (Nat.le_of_lt (show o < C.size by omega)), Nat.add_assoc, Nat.add_comm 1]

variable {P : Program}
theorem run_loadAt_blk (w : World) (b o n : Nat) (ty : TypeId) (C D : Array Value) (t : TypeId) (fr : Nat × Nat) (d : TypeDesc) (hb : w.heap[b]? = some (.cells C t fr)) (hD : C.extract o (o + n) = D) (hn : D.size = n)
    (hu : P.underlying ty = some d) (hd : d.isRow = true) (hi : (P.info? ty).map (·.size) = some n) :
    (Instr.loadAt ty (.pointer (some ⟨b, o, none⟩))).run P w = .ok (.agg D) w := by
  have := run_loadAt_mid (P := P) w b o ty D.toList d (by rw [← hD]; exact World.rangeAt_of_block hb o n) hu hd (by rw [hi]; simp [hn])
  simpa using this
theorem wpList_load_blk {ops : Array Oper} {rest : List Oper} {op : Oper} {a : Act} {w : World} {Q : Exit → Act → World → Prop} (hgd : op.guard = none) (ty : TypeId) (x : Operand) (ho : op.op = .load ty x)
    (b o n : Nat) (hx : a.eval x = .pointer (some ⟨b, o, none⟩)) (C D : Array Value) (t : TypeId) (fr : Nat × Nat) (d : TypeDesc) (hb : w.heap[b]? = some (.cells C t fr)) (hD : C.extract o (o + n) = D) (hn : D.size = n)
    (hu : P.underlying ty = some d) (hd : d.isRow = true) (hi : (P.info? ty).map (·.size) = some n)
    (h : wpList P ops Q rest (a.put op.dst (.agg D)) w) : wpList P ops Q (op :: rest) a w := by
  refine wpList_plain hgd fun _ hK => ?_
  unfold Oper.wp execOp
  have := run_loadAt_blk (P := P) w b o n ty C D t fr d hb hD hn hu hd hi
  simp only [ho, hx, Sem.run_bind, Sem.run_pure, Result.andThen_ok, this]
  exact hK _ _ h
theorem wpList_store_blk {ops : Array Oper} {rest : List Oper} {op : Oper} {a : Act} {w : World} {Q : Exit → Act → World → Prop} (hgd : op.guard = none) (ty : TypeId) (x y : Operand) (ho : op.op = .store ty x y)
    (b o n : Nat) (hx : a.eval x = .pointer (some ⟨b, o, none⟩)) (C D E : Array Value) (hy : a.eval y = .agg D) (t : TypeId) (hb : w.heap[b]? = some (.cells C t (0, 0))) (hn : D.size = n) (hfit : o + n ≤ C.size)
    (hi : (P.info? ty).map (·.size) = some n) (h1 : D.all (·.oneCell') = true) (hE : splice C o D = E)
    (h : wpList P ops Q rest (a.put op.dst undef) (w.setRow b E)) : wpList P ops Q (op :: rest) a w := by
  refine wpList_store_mid hgd ty x y ho b o D hx hy (fun j hj => ⟨?_, frozen_of_row w b _ _ _ hb⟩) (by rw [hi, hn]) h1 ?_
  · rw [cell_of_row w b (o + j) C t (0, 0) hb, Array.getElem?_eq_getElem (by omega)]; rfl
  · rw [setCells_row b t D.toList o w C hb (by simp; omega), Array.toArray_toList, hE]
    exact h
/-- a result that lies in a variable of its own -/
theorem ret_blk {fn : Func} {R : Ending → World → Prop} {a : Act} {w : World} {p : Tmp} {ty t : TypeId} {b : Nat} {C : Array Value} {d : TypeDesc} {fr : Nat × Nat} (h : fn.results = #[.cell p ty])
    (hp : a.tmps.getD p undef = .pointer (some ⟨b, 0, none⟩)) (hb : w.heap[b]? = some (.cells C t fr)) (hu : P.underlying ty = some d) (hd : d.isRow = true) (hi : (P.info? ty).map (·.size) = some C.size)
    (hdf : a.defers = []) (hR : R (.returned (.agg C)) w) : bodyPost P fn R .ret a w := by
  refine bodyPost_ret (results_one h hp ?_) hdf hR
  have := run_loadVar_mid (P := P) w b 0 ty C.toList d (fun j v hj => by rw [Nat.zero_add, cell_of_row w b j C t fr hb]; simpa using hj) hu hd (by rw [hi]; simp)
  simpa using this
/-- a load in a region that draws its order -/
theorem wpQuiet_load_blk {ops : Array Oper} {rest : List Oper} {op : Oper} {a : Act} {Cw : World → Prop} {Q : Act → Prop} (hgd : op.guard = none) (ty : TypeId) (x : Operand) (ho : op.op = .load ty x)
    (b o n : Nat) (hx : a.eval x = .pointer (some ⟨b, o, none⟩)) (C D : Array Value) (t : TypeId) (fr : Nat × Nat) (d : TypeDesc) (hb : ∀ w, Cw w → w.heap[b]? = some (.cells C t fr)) (hD : C.extract o (o + n) = D) (hn : D.size = n)
    (hu : P.underlying ty = some d) (hd : d.isRow = true) (hi : (P.info? ty).map (·.size) = some n)
    (h : wpQuiet P ops Cw Q rest (a.put op.dst (.agg D))) : wpQuiet P ops Cw Q (op :: rest) a := by
  refine wpQuiet_step fun K hK => ?_
  rw [if_pos (by simp [Region.wanted, hgd])]
  refine ⟨.agg D, fun w hw => ?_, hK _ h⟩
  unfold Oper.quietAt execOp
  have := run_loadAt_blk (P := P) w b o n ty C D t fr d (hb w hw) hD hn hu hd hi
  simp only [ho, hx, Sem.run_bind, Sem.run_pure, Result.andThen_ok, this]
  exact ⟨rfl, rfl⟩
/-- a block that was there, behind w -/
theorem after_blk {w : World} {b : Nat} {o : Obj} (h : w.heap[b]? = some o) : ∀ w', (∃ p : Regrown, w' = After w p) → w'.heap[b]? = some o := by
  rintro w' ⟨p, rfl⟩
  exact ((after_below w p).block b (Array.getElem?_eq_some_iff.1 h).1).trans h
end Ks
/- What octet.Put answers. -/
namespace Go.Proofs.Ytpdeicgjmjoglaa
open Go.RowKit Ks
set_option linter.unusedVariables false

theorem Try.infoByte : (Try.prog.info? 5).map (fun i => (i.zero, i.size, i.bytes)) = some (some (.int .u8 0), 1, 1) := by kernel_rfl

set_option maxHeartbeats 400000 in
theorem put_ok (n : Nat) (width : Nat) (w : World) (h1 : 1 ≤ width) (h2 : width ≤ 8) (h4 : n ≤ 9223372036854775807) (h5 : width < 8 → (n : Int) / 2 ^ (8 * width) ≤ 0) :
    Calls Try.prog 74 #[.int .i64 n, .int .i64 width] w fun e w' => e = .returned (.tuple #[.string ⟨(putL width n).toArray⟩, .int .i64 0]) ∧ Below w.heap.size w w' := by
  have hmk := fun w => run_make_row' (P := Try.prog) 91 5 (.int .u8 0) 1 Try.underlying91 Try.infoByte rfl .i64 .i64 width (by omega) (by omega) w
  have hcase : (width < 8 ∧ ¬ (0 < (n : Int) / 2 ^ (8 * width))) ∨ ¬ width < 8 := by
    by_cases h : width < 8
    · exact .inl ⟨h, by have := h5 h; omega⟩
    · exact .inr h
  clear h5
  rcases hcase with ⟨hA, hB⟩ | hA
  all_goals
    go_enter Try.func74, Try.ntmps74
    go_wp2
    go_loopw [32, 7] (fun i _ wr => ∃ k : Nat, k ≤ width ∧ i = .int .i64 k ∧ wr.rowIs w.heap.size 5 width (putCell n width k) ∧ Below w.heap.size w wr) (fun i _ _ => width - (intOf i).toNat)
    case atStart => exact ⟨0, by omega, rfl, (World.rowIs_made w (.int .u8 0) width 5).congr (by simp [putCell]), (Below.refl _ _).alloc (Nat.le_refl _) _⟩
    case round =>
      obtain ⟨k, hk, rfl, hrow, hbel⟩ := hrel
      by_cases hlt : k < width
      · have hcell : wr.cell? ⟨w.heap.size, width - 1 - k, none⟩ = some (putCell n width k (width - 1 - k)) := hrow.cell (by omega)
        have hfr := hrow.frozen (width - 1 - k)
        go_wp2
        go_roundw
        case rel => exact ⟨k + 1, by omega, by go_num, (hrow.set _ _).congr (fun j hj => putCell_succ n width k j hlt hj), hbel.setCell (Nat.le_refl _) _⟩
        case measure => simp [intOf]; omega
      · obtain rfl : k = width := by omega
        have hconv := conv_row (P := Try.prog) (src := 91) (dst := 9) (cap := k) (putL k n) Try.underlying91 Try.underlying5 Try.underlying9 hrow (by simp) (putCell_done n k)
        go_wp2
        go_ret2
        exact ⟨rfl, hbel⟩

set_option maxHeartbeats 400000 in
theorem put_err (n width : Int) (w : World) (h : width < 1 ∨ 8 < width ∨ n < 0 ∨ (1 ≤ width ∧ width < 8 ∧ 0 < n / 2 ^ (8 * width).toNat)) :
    Calls Try.prog 74 #[.int .i64 n, .int .i64 width] w fun e w' => e = .returned (.tuple #[.string ⟨#[]⟩, .int .i64 2]) ∧ w = w' := by
  rcases h with h | h | h | ⟨h1, h2, h3⟩
  · go_enter Try.func74, Try.ntmps74
    go_wp2
    go_ret2
    exact ⟨rfl, rfl⟩
  · go_enter Try.func74, Try.ntmps74
    go_wp2
    go_ret2
    exact ⟨rfl, rfl⟩
  · go_enter Try.func74, Try.ntmps74
    go_wp2
    all_goals first
      | (go_ret2; exact ⟨rfl, rfl⟩)
      | (exfalso; omega)
  · go_enter Try.func74, Try.ntmps74
    go_wp2
    all_goals first
      | (go_ret2; exact ⟨rfl, rfl⟩)
      | (go_ways; exfalso; omega)

theorem put_any (n width : Int) (w : World) (hn : n ≤ 9223372036854775807) :
    Calls Try.prog 74 #[.int .i64 n, .int .i64 width] w fun e w' => e = .returned (.tuple #[.string (putS n width), .int .i64 (putE n width)]) ∧ Below w.heap.size w w' := by
  unfold putS putE
  by_cases h : putOk n width = true
  · rw [if_pos h, if_pos h]
    simp only [putOk, decide_eq_true_eq] at h
    obtain ⟨h1, h2, h3, h4⟩ := h
    obtain ⟨n, rfl⟩ := Int.eq_ofNat_of_zero_le h3
    obtain ⟨width, rfl⟩ := Int.eq_ofNat_of_zero_le (show 0 ≤ width by omega)
    simp only [Int.toNat_natCast] at h4 ⊢
    refine put_ok n width w (by omega) (by omega) (by omega) (fun hw => ?_)
    have := h4 (by omega)
    have h2 : ((n / 2 ^ (8 * width) : Nat) : Int) = (n : Int) / 2 ^ (8 * width) := by simp
    omega
  · rw [if_neg h, if_neg h]
    simp only [putOk, decide_eq_true_eq] at h
    refine (put_err n width w ?_).mono fun e w' ⟨he, hw⟩ => ⟨he, hw ▸ Below.refl _ _⟩
    by_cases h1 : width < 1
    · exact .inl h1
    by_cases h2 : 8 < width
    · exact .inr (.inl h2)
    by_cases h3 : n < 0
    · exact .inr (.inr (.inl h3))
    refine .inr (.inr (.inr ?_))
    have h4 : ¬ (width < 8 → n.toNat / 2 ^ (8 * width.toNat) = 0) := fun hh => h ⟨by omega, by omega, by omega, hh⟩
    have h5 : width < 8 := by
      by_cases hh : width < 8
      · exact hh
      · exact absurd (fun x => absurd x hh) h4
    refine ⟨by omega, h5, ?_⟩
    have h6 : ¬ (n.toNat / 2 ^ (8 * width.toNat) = 0) := fun hh => h4 (fun _ => hh)
    obtain ⟨n, rfl⟩ := Int.eq_ofNat_of_zero_le (show 0 ≤ n by omega)
    obtain ⟨width, rfl⟩ := Int.eq_ofNat_of_zero_le (show 0 ≤ width by omega)
    have h2 : ((n / 2 ^ (8 * width) : Nat) : Int) = (n : Int) / 2 ^ (8 * width) := by simp
    rw [show (8 * (width : Int)).toNat = 8 * width by omega]
    rw [Int.toNat_natCast, Int.toNat_natCast] at h6
    rw [← h2]
    exact Int.natCast_pos.2 (Nat.pos_of_ne_zero h6)

end Go.Proofs.Ytpdeicgjmjoglaa
/- Texts with their lengths, texts cut off, noughts: plain. -/
namespace Ks
open Go Go.RowKit
set_option linter.unusedVariables false

theorem text_mask (n : Nat) (h : n < 4294967296) : bits .and .i64 (n : Int) 4294967295 = (n : Int) := by
  have := bits_mask .i64 63 (by decide) (fun n h0 h1 => by rw [IntKind.wrap_i64]; omega) 32 (by decide) (n : Int) (by omega) (by omega)
  rw [show ((2 : Int) ^ 32 - 1) = 4294967295 from by decide] at this
  rw [this]; omega

theorem putS_four (n : Nat) (h : n < 4294967296) : putS n 4 = ⟨(putL 4 n).toArray⟩ := by
  have hp : putOk n 4 = true := by
    simp only [putOk, decide_eq_true_eq]
    refine ⟨by omega, by omega, by omega, fun _ => ?_⟩
    have : (2 : Nat) ^ (8 * (4 : Int).toNat) = 4294967296 := by decide
    rw [this]
    exact Nat.div_eq_of_lt (by omega)
  rw [putS, if_pos hp]; rfl

/-- a text with its length ahead -/
def textS (s : ByteArray) : ByteArray := ⟨(putL 4 s.size ++ s.data.toList).toArray⟩

theorem textS_size (s : ByteArray) : (textS s).size = 4 + s.size := by
  show (putL 4 s.size ++ s.data.toList).length = _
  rw [List.length_append, putL_length, data_length]

theorem textS_eq (s : ByteArray) (h : s.size < 4294967296) : putS s.size 4 ++ s = textS s := by
  rw [putS_four _ h]
  obtain ⟨⟨l⟩⟩ := s
  exact ByteArray.mk_append_mk _ _

theorem putS_size (n w : Int) : (putS n w).size ≤ 8 := by
  unfold putS
  split
  · rename_i h
    have := putOk_width h
    show (putL _ _).length ≤ 8
    rw [putL_length]; omega
  · show (0 : Nat) ≤ 8
    omega

/-- the number that a text begins with; whether as many bytes are there; the text, and the rest -/
def cutN (s : ByteArray) : Nat := getN (s.data.toList.take 4)
def cutOk (s : ByteArray) : Bool := decide (4 ≤ s.size ∧ cutN s ≤ s.size - 4)
def cutA (s : ByteArray) : ByteArray := if cutOk s then s.extract 4 (4 + cutN s) else ⟨#[]⟩
def cutB (s : ByteArray) : ByteArray := if cutOk s then s.extract (4 + cutN s) s.size else ⟨#[]⟩
def cutE (s : ByteArray) : Int := if cutOk s then 0 else 3

theorem getV_four (s : ByteArray) (h : 4 ≤ s.size) : getV (s.extract 0 4) = (cutN s : Int) ∧ cutN s < 4294967296 := by
  obtain ⟨⟨l⟩⟩ := s
  have hl : 4 ≤ l.length := h
  have he : (ByteArray.mk l.toArray).extract 0 4 = ⟨(l.take 4).toArray⟩ := by rw [ByteArray.extract_mk]; simp
  have hlt := getN_lt (l.take 4)
  have h4 : (l.take 4).length = 4 := by rw [List.length_take]; omega
  rw [h4, show (256 : Nat) ^ 4 = 4294967296 by decide] at hlt
  have ho : getOk (l.take 4) = true := by
    simp only [getOk, decide_eq_true_eq]
    omega
  refine ⟨?_, hlt⟩
  rw [he, getV, if_pos ho]
  rfl

theorem extract_list (s : ByteArray) (a b : Nat) : s.extract a b = ⟨((s.data.toList.drop a).take (b - a)).toArray⟩ := by
  obtain ⟨⟨l⟩⟩ := s
  exact ByteArray.extract_mk l a b

theorem extract_twice (s : ByteArray) (a b c d : Nat) (h : a + d ≤ b) : (s.extract a b).extract c d = s.extract (a + c) (a + d) := by
  obtain ⟨⟨l⟩⟩ := s
  rw [ByteArray.extract_mk, ByteArray.extract_mk, ByteArray.extract_mk]
  congr 2
  rw [List.drop_take, List.take_take, List.drop_drop]
  congr 1
  omega

/-- noughts -/
def zerosS (n : Int) : ByteArray := ⟨(List.replicate n.toNat (0 : UInt8)).toArray⟩
def fillOk (s : ByteArray) (n : Int) : Bool := decide (s.size ≤ n ∧ n ≤ 65536)
def fillS (s : ByteArray) (n : Int) : ByteArray := if fillOk s n then s ++ zerosS (n - s.size) else ⟨#[]⟩
def fillE (s : ByteArray) (n : Int) : Int := if fillOk s n then 0 else 2

theorem repeat_zero (n : Nat) : Lib.repeatL [(0 : UInt8)] n = List.replicate n 0 := by
  induction n with
  | zero => rfl
  | succ n ih => simp [Lib.repeatL, ih, List.replicate_succ]

theorem zerosS_size (m : Nat) : (zerosS m).size = m := by
  show (List.replicate _ _).length = _
  simp
theorem repeat_zeros (m : Nat) : (⟨(Lib.repeatL (ByteArray.mk #[0]).data.toList m).toArray⟩ : ByteArray) = zerosS m := by
  show (⟨(Lib.repeatL [(0 : UInt8)] m).toArray⟩ : ByteArray) = ⟨(List.replicate m (0 : UInt8)).toArray⟩
  rw [repeat_zero]

end Ks
