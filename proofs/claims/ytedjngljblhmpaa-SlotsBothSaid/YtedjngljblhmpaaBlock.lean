/- A slice over a new block reads as its numbers. -/
import Derived.Test.YtedjngljblhmpaaBase
namespace Ks
open Go Go.RowKit
set_option linter.unusedVariables false

theorem RdI.block {w : World} {b : Nat} (l : List Int) (t : TypeId) (fr : Nat × Nat) (n : Nat) (hn : n = l.length) (hr : ∀ x ∈ l, -9223372036854775808 ≤ x ∧ x ≤ 9223372036854775807)
    (h : w.heap[b]? = some (.cells (l.map (Value.int .i64)).toArray t fr)) : RdI w (.slice (some ⟨b, 0, none⟩) n n) l := by
  subst hn
  refine ⟨_, _, rfl, Nat.le_refl _, fun i x hx => ⟨⟨b, 0, rfl, lt_of_block h, ?_⟩, hr x (List.mem_of_getElem? hx)⟩⟩
  rw [Nat.zero_add, cell_of_row w b i _ t fr h]
  simp [hx]

/-- a new block of one byte, behind a draw, made a string -/
theorem conv_one_drew {P : Program} {src dst e : TypeId} (hs : P.underlying src = some (.slice e)) (he : P.underlying e = some (.int .u8)) (hd : P.underlying dst = some .string) (x : Int) (cap : Nat) (t : TypeId) (w : World) :
    (convert src dst (.slice (some ⟨w.heap.size, 0, none⟩) 1 cap)).run P (w.alloc (.cells #[.int .u8 x] t)).drew = .ok (.string ⟨#[UInt8.ofNat x.toNat]⟩) (w.alloc (.cells #[.int .u8 x] t)).drew :=
  conv_one hs he hd x cap t w.drew

/-- a slice's elements, when there are four -/
theorem RdI.four {w : World} {v : Value} {x0 x1 x2 x3 : Int} (h : RdI w v [x0, x1, x2, x3]) : ∃ b o cap, v = .slice (some ⟨b, o, none⟩) 4 cap ∧ b < w.heap.size ∧
    w.cell? ⟨b, o, none⟩ = some (.int .i64 x0) ∧ w.cell? ⟨b, o + 1, none⟩ = some (.int .i64 x1) ∧ w.cell? ⟨b, o + 2, none⟩ = some (.int .i64 x2) ∧ w.cell? ⟨b, o + 3, none⟩ = some (.int .i64 x3) := by
  obtain ⟨a, cap, rfl, _, h⟩ := h
  obtain ⟨⟨b, o, rfl, hb, h0⟩, _⟩ := h 0 x0 rfl
  obtain ⟨⟨b1, o1, e1, _, h1⟩, _⟩ := h 1 x1 rfl
  obtain ⟨⟨b2, o2, e2, _, h2⟩, _⟩ := h 2 x2 rfl
  obtain ⟨⟨b3, o3, e3, _, h3⟩, _⟩ := h 3 x3 rfl
  cases e1; cases e2; cases e3
  exact ⟨b, o, cap, rfl, hb, h0, h1, h2, h3⟩

/-- a block of one byte, made a string -/
theorem conv_blk {P : Program} {src dst e : TypeId} (hs : P.underlying src = some (.slice e)) (he : P.underlying e = some (.int .u8)) (hd : P.underlying dst = some .string) (x : Int) (cap b : Nat) (t : TypeId) (fr : Nat × Nat) (w : World)
    (h : w.heap[b]? = some (.cells #[.int .u8 x] t fr)) :
    (convert src dst (.slice (some ⟨b, 0, none⟩) 1 cap)).run P w = .ok (.string ⟨#[UInt8.ofNat x.toNat]⟩) w := by
  rw [run_convert_bytes_string _ src dst e _ 1 cap hs he hd]
  have hl := run_loadCells_list (P := P) w ⟨b, 0, none⟩ [Value.int .u8 x] (fun j v hj => by
    match j, hj with
    | 0, hj => simp at hj; subst hj; simp [Addr.add, World.cell?, h])
  rw [run_bytesToString _ _ 1 cap [x] (by simpa using hl)]
  rfl

/-- what a callee that turned nothing leaves of the cells that were there -/
theorem bcells {W W' : World} (h : Below W.heap.size W W') : (∀ b o, b < W.heap.size → W'.cell? ⟨b, o, none⟩ = W.cell? ⟨b, o, none⟩) ∧ (∀ b o, b < W.heap.size → W'.frozen? ⟨b, o, none⟩ = W.frozen? ⟨b, o, none⟩) :=
  ⟨fun b o hb => h.cell (p := ⟨b, o, none⟩) hb, fun b o hb => h.frozen (p := ⟨b, o, none⟩) hb⟩

end Ks
