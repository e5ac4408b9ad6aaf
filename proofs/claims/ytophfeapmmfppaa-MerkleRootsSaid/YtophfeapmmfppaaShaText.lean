/- A state's bytes: the program's text. -/
import Derived.Test.YtophfeapmmfppaaShaLow
import Derived.Test.YtophfeapmmfppaaArrRow
import Derived.Deep.DeepCutAuto
namespace Ks
open Go Go.RowKit
def u8s (l : List UInt8) : Array Value := (l.map fun b => Value.int .u8 (b.toNat : Int)).toArray
@[simp] theorem u8s_size (l : List UInt8) : (u8s l).size = l.length := by simp [u8s]
theorem u8s_set (l : List UInt8) (i : Nat) (b : UInt8) : (u8s l).setIfInBounds i (.int .u8 (b.toNat : Int)) = u8s (l.set i b) := by simp [u8s, List.map_set]
theorem set4 {α : Type} (A : List α) (z : α) (m n : Nat) (b0 b1 b2 b3 : α) (hA : A.length = n) :
    ((((A ++ List.replicate (m + 4) z).set n b0).set (n + 1) b1).set (n + 2) b2).set (n + 3) b3 = (A ++ [b0, b1, b2, b3]) ++ List.replicate m z := by
  subst hA
  simp [List.replicate_succ, List.set_append_right]
theorem putL4 (n : Nat) : putL 4 n = [UInt8.ofNat (n / 16777216), UInt8.ofNat (n / 65536), UInt8.ofNat (n / 256), UInt8.ofNat n] := by
  simp [putL, Nat.div_div_eq_div_mul]
def textTo (s : St) (k : Nat) : List UInt8 := (s.list.take k).flatMap (putL 4)
theorem run_index_agg {P : Program} {t e : TypeId} {n : Nat} {C : Array Value} {k : Nat} {v : Value} {ik : IntKind} (ht : P.underlying t = some (.array n e)) (he : P.underlying e = some (.int ik)) (hs : (P.info? e).map (·.size) = some 1)
    (hk : k < n) (hv : C[k]? = some v) (w : World) : (Instr.index t (.agg C) (.int .i64 (k : Int))).run P w = .ok v w := by
  have hz : (Go.sizeOf e).run P w = .ok 1 w := by
    cases hq : P.info? e with
    | none => simp [hq] at hs
    | some i =>
      simp [hq] at hs
      simp [Go.sizeOf, typeInfo, hq, hs]
  have hp : (part e C k).run P w = .ok v w := by simp [part, isAgg, run_underlying he, hv]
  have h1 : (0 : Int) ≤ (k : Int) ∧ (k : Int) < (n : Int) := by omega
  unfold Instr.index
  simp [run_underlying ht, asIntOf, h1, hz, hp, hk]
theorem textTo_length (s : St) (k : Nat) (hk : k ≤ 8) : (textTo s k).length = 4 * k := by
  have : ∀ l : List Nat, (l.flatMap (putL 4)).length = 4 * l.length := by
    intro l
    induction l with
    | nil => rfl
    | cons x l ih => simp only [List.flatMap_cons, List.length_append, ih, List.length_cons, putL4, List.length_nil]; omega
  rw [textTo, this, List.length_take]
  show 4 * min k 8 = _
  omega
theorem textTo_pad (s : St) (k : Nat) (hk : k ≤ 8) : (textTo s k ++ List.replicate (32 - 4 * k) (0 : UInt8)).length = 32 := by
  rw [List.length_append, textTo_length s k hk, List.length_replicate]; omega
theorem st_lt {s : St} (hs : s.ok) (k : Nat) : s.list.getD k 0 < 4294967296 := by
  obtain ⟨h1, h2, h3, h4, h5, h6, h7, h8⟩ := hs
  refine getD_lt ?_ k
  intro x hx
  simp only [St.list, List.mem_cons, List.not_mem_nil, or_false] at hx
  rcases hx with rfl | rfl | rfl | rfl | rfl | rfl | rfl | rfl <;> assumption
theorem textTo_succ (s : St) (k : Nat) (hk : k < 8) : textTo s (k + 1) = textTo s k ++ putL 4 (s.list.getD k 0) := by
  have h : k < s.list.length := hk
  rw [textTo, textTo, List.take_add_one, List.getElem?_eq_getElem h, List.flatMap_append, List.getD_eq_getElem?_getD, List.getElem?_eq_getElem h]
  simp
theorem text_step (s : St) (k : Nat) (hk : k < 8) :
    (((((textTo s k ++ List.replicate (32 - 4 * k) 0).set (4 * k) (UInt8.ofNat (s.list.getD k 0 / 16777216))).set (4 * k + 1) (UInt8.ofNat (s.list.getD k 0 / 65536))).set (4 * k + 2) (UInt8.ofNat (s.list.getD k 0 / 256))).set (4 * k + 3) (UInt8.ofNat (s.list.getD k 0))
      = textTo s (k + 1) ++ List.replicate (32 - 4 * (k + 1)) (0 : UInt8)) := by
  rw [show 32 - 4 * k = 32 - 4 * (k + 1) + 4 by omega, set4 _ _ _ _ _ _ _ _ (textTo_length s k (by omega)), textTo_succ s k hk, putL4]
theorem byteV (n : Nat) : (UInt8.ofNat n).toNat = n % 256 := by simp
theorem conv_u8s {P : Program} {src dst e : TypeId} {cap : Nat} (w : World) (t : TypeId) (l : List UInt8) (hs : P.underlying src = some (.slice e)) (he : P.underlying e = some (.int .u8)) (hd : P.underlying dst = some .string) :
    (convert src dst (.slice (some ⟨w.heap.size, 0, none⟩) l.length cap)).run P (w.alloc (.cells (u8s l) t)) = .ok (.string ⟨l.toArray⟩) (w.alloc (.cells (u8s l) t)) := by
  refine run_convert_bytes_back _ src dst e _ cap l hs he hd (fun j hj => ?_)
  have hadd : (⟨w.heap.size, 0, none⟩ : Addr).add j = ⟨w.heap.size, j, none⟩ := by unfold Addr.add; split <;> simp_all
  rw [hadd, cell_of_row _ _ j (u8s l) t (0, 0) (alloc_new _ _)]
  simp [u8s, hj]
theorem textTo_all (s : St) : textTo s 8 = textL s := by
  simp [textTo, St.list, textL]
end Ks
namespace Go.Proofs.Ytophfeapmmfppaa
open Go.RowKit Ks
set_option linter.unusedVariables false

set_option maxRecDepth 20000 in
set_option maxHeartbeats 1000000 in
theorem text_any (s : St) (w : World) (hs : s.ok) : Calls Try.prog 43 #[.agg (u32s s.list)] w fun e w' => e = .returned (.string ⟨(textL s).toArray⟩) ∧ Below w.heap.size w w' := by
  refine calls_by fun R HR => ?_
  obtain ⟨C, hC⟩ : ∃ C, u32s s.list = C := ⟨_, rfl⟩
  rw [hC]
  go_enter Try.func43, Try.ntmps43
  go_wp2_with (refine wpList_loadA rfl 67 _ rfl _ 67 _ C 8 8 rfl (blk_keep (alloc_new _ _) _) Try.underlying67 (by kernel_rfl) (by rw [← hC]; rfl) ?_)
  go_loopw [7] (fun i wx => ∃ k L, k ≤ 8 ∧ i = .int .i64 (k : Nat) ∧ wx = (w.alloc (.cells C 67)).alloc (.cells (u8s L) 88) ∧ Hid (L = textTo s k ++ List.replicate (32 - 4 * k) 0)) (fun i _ => 8 - (intOf i).toNat)
  case atStart => exact ⟨0, List.replicate 32 0, by omega, rfl, rfl, Lib.hid rfl⟩
  case round =>
    obtain ⟨k, L, hk, rfl, rfl, hL⟩ := hrel
    have hlen : L.length = 32 := by rw [hL.out]; exact textTo_pad s k hk
    by_cases hlt : k < 8
    · obtain ⟨n, hn⟩ : ∃ n, s.list.getD k 0 = n := ⟨_, rfl⟩
      have hn1 : n < 4294967296 := by rw [← hn]; exact st_lt hs k
      have hCk : C[k]? = some (.int .u32 (n : Int)) := by rw [← hC, ← hn]; exact u32s_get _ _ hlt
      have hn' := Lib.hid hn
      have hix := fun w => run_index_agg (P := Try.prog) Try.underlying67 Try.underlying65 (by kernel_rfl) hlt hCk w
      obtain ⟨D, hD⟩ : ∃ D, u8s L = D := ⟨_, rfl⟩
      have hDs : D.size = 32 := by rw [← hD, u8s_size, hlen]
      have hD' := Lib.hid hD
      rw [hD]
      have HC := Lib.hid hC
      have HS := Lib.hid hs
      obtain ⟨z0, hz0⟩ : ∃ z, D[4 * k]? = some z := ⟨_, Array.getElem?_eq_getElem (by omega)⟩
      obtain ⟨z1, hz1⟩ : ∃ z, D[4 * k + 1]? = some z := ⟨_, Array.getElem?_eq_getElem (by omega)⟩
      obtain ⟨z2, hz2⟩ : ∃ z, D[4 * k + 2]? = some z := ⟨_, Array.getElem?_eq_getElem (by omega)⟩
      obtain ⟨z3, hz3⟩ : ∃ z, D[4 * k + 3]? = some z := ⟨_, Array.getElem?_eq_getElem (by omega)⟩
      clear hD hn hC hs hlen hCk
      go_wp2
      go_round
      case rel =>
        refine ⟨k + 1, textTo s (k + 1) ++ List.replicate (32 - 4 * (k + 1)) 0, by omega, by go_num, ?_, Lib.hid rfl⟩
        rw [← text_step s k hlt, hn'.out, ← hL.out, ← u8s_set, ← u8s_set, ← u8s_set, ← u8s_set, hD'.out, byteV (n / 16777216), byteV (n / 65536), byteV (n / 256), byteV n, Nat.mod_eq_of_lt (show n / 16777216 < 256 by omega)]
        rfl
      case measure => simp [intOf]; omega
    · obtain rfl : k = 8 := by omega
      clear hC hs hk hlt
      have hconv := conv_u8s (P := Try.prog) (src := 90) (dst := 9) (cap := 32) (w.alloc (.cells C 67)) 88 L Try.underlying90 Try.underlying5 Try.underlying9
      simp only [World.size_alloc] at hconv
      rw [hlen] at hconv
      go_wp2
      refine HR.out _ _ ⟨?_, ((alloc_below w _).alloc (by simp) _)⟩
      rw [← textTo_all, hL.out]
      simp
end Go.Proofs.Ytophfeapmmfppaa
