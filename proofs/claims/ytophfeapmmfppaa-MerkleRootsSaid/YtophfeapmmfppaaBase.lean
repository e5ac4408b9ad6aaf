/- Small laws of the walk that every text of this seat uses: a row of bytes made a string, a one-byte string, a string cut and joined. No program is in sight. -/
import Derived.WalkKit
import Derived.WalkSpells
import Derived.WalkLawsBesides
import Derived.Laws.IdiomStrings
import Derived.Deep.OwnRows
import Derived.Lib.Hide
namespace Ks
open Go Go.RowKit

/-- the post behind a variable, so that the walk does not reckon in it -/
theorem calls_by {P : Program} {f : FuncId} {args : Array Value} {w : World} {Q : Ending → World → Prop}
    (h : ∀ R : Ending → World → Prop, Hid (∀ e w', Q e w' → R e w') → Calls P f args w R) : Calls P f args w Q := h Q (Lib.hid fun _ _ h => h)

/-- a string value of these bytes -/
abbrev str (l : List UInt8) : Value := .string ⟨l.toArray⟩

theorem conv_row {P : Program} {src dst e : TypeId} {b cap : Nat} {w : World} {n : Nat} {f : Nat → Value} (l : List UInt8) (hs : P.underlying src = some (.slice e)) (he : P.underlying e = some (.int .u8)) (hd : P.underlying dst = some .string)
    (hrow : w.rowIs b e n f) (hn : n = l.length) (hf : ∀ j (hj : j < l.length), f j = .int .u8 (l[j].toNat : Int)) :
    (convert src dst (.slice (some ⟨b, 0, none⟩) n cap)).run P w = .ok (.string ⟨l.toArray⟩) w := by
  subst hn
  refine run_convert_bytes_back w src dst e _ cap l hs he hd (fun j hj => ?_)
  rw [← hf j hj, ← hrow.cell hj]
  unfold Addr.add
  split <;> simp_all

/-- a new block of one byte, made a string -/
theorem conv_one {P : Program} {src dst e : TypeId} (hs : P.underlying src = some (.slice e)) (he : P.underlying e = some (.int .u8)) (hd : P.underlying dst = some .string) (x : Int) (cap : Nat) (t : TypeId) (w : World) :
    (convert src dst (.slice (some ⟨w.heap.size, 0, none⟩) 1 cap)).run P (w.alloc (.cells #[.int .u8 x] t)) = .ok (.string ⟨#[UInt8.ofNat x.toNat]⟩) (w.alloc (.cells #[.int .u8 x] t)) := by
  rw [run_convert_bytes_string _ src dst e _ 1 cap hs he hd]
  have hl := run_loadCells_list (P := P) (w.alloc (.cells #[.int .u8 x] t)) ⟨w.heap.size, 0, none⟩ [Value.int .u8 x] (fun j v hj => by
    match j, hj with
    | 0, hj => simp at hj; subst hj; simp [Addr.add])
  rw [run_bytesToString _ _ 1 cap [x] (by simpa using hl)]
  rfl

theorem str_some (s : ByteArray) (h : 0 < s.size) : s.toList.isEmpty = false ∧ ¬ s.toList = [] := by
  have h1 : s.toList.length = s.size := by rw [ByteArray.toList_eq]; cases s; simp [ByteArray.size]
  cases h2 : s.toList with
  | nil => rw [h2] at h1; simp at h1; omega
  | cons a l => simp

theorem str_none (s : ByteArray) (h : s.size = 0) : s = ⟨#[]⟩ := by
  cases s with
  | mk d => congr 1; exact Array.eq_empty_of_size_eq_zero h

theorem data_length (s : ByteArray) : s.data.toList.length = s.size := by cases s; simp [ByteArray.size]

theorem ByteArray.mk_append_one (x : UInt8) (l : List UInt8) : (ByteArray.mk #[x] ++ ByteArray.mk l.toArray) = ByteArray.mk (x :: l).toArray := by
  have := ByteArray.mk_append_mk [x] l
  simpa using this

/-- A slice value reads, in a world, as these numbers. -/
def RdI (w : World) (v : Value) (l : List Int) : Prop :=
  ∃ a cap, v = .slice a l.length cap ∧ l.length ≤ cap ∧ ∀ (i : Nat) (x : Int), l[i]? = some x → (∃ b off, a = some ⟨b, off, none⟩ ∧ b < w.heap.size ∧ w.cell? ⟨b, off + i, none⟩ = some (.int .i64 x)) ∧ -9223372036854775808 ≤ x ∧ x ≤ 9223372036854775807

theorem RdI.below {w w' : World} {v : Value} {l : List Int} (h : RdI w v l) (hb : Below w.heap.size w w') : RdI w' v l := by
  obtain ⟨a, cap, rfl, hc, h⟩ := h
  refine ⟨a, cap, rfl, hc, fun i x hx => ?_⟩
  obtain ⟨⟨b, off, ha, hlt, hcell⟩, hr⟩ := h i x hx
  exact ⟨⟨b, off, ha, Nat.lt_of_lt_of_le hlt hb.size, (hb.cell (p := ⟨b, off + i, none⟩) hlt).trans hcell⟩, hr⟩

/-- the place of an element, for a walk -/
theorem RdI.cell {w : World} {a : Option Addr} {n cap : Nat} {l : List Int} (h : RdI w (.slice a n cap) l) (i : Nat) (hi : i < l.length) :
    ∃ b off, a = some ⟨b, off, none⟩ ∧ b < w.heap.size ∧ w.cell? ⟨b, off + i, none⟩ = some (.int .i64 l[i]) := by
  obtain ⟨a', cap', he, _, h⟩ := h
  cases he
  obtain ⟨⟨b, off, ha, hlt, hcell⟩, _⟩ := h i l[i] (List.getElem?_eq_getElem hi)
  exact ⟨b, off, ha, hlt, hcell⟩

theorem RdI.range {w : World} {v : Value} {l : List Int} (h : RdI w v l) (i : Nat) (hi : i < l.length) : -9223372036854775808 ≤ l[i] ∧ l[i] ≤ 9223372036854775807 := by
  obtain ⟨a', cap', he, _, h⟩ := h
  exact (h i l[i] (List.getElem?_eq_getElem hi)).2

theorem RdI.nil (w : World) : RdI w (.slice none 0 0) [] := ⟨none, 0, rfl, Nat.le_refl _, fun i x hx => by simp at hx⟩

/-- out of a row that the call owns -/
theorem RdI.owned {w : World} {B : Nat} {e : TypeId} {v : Value} {l : List Int} (h : w.ownsRow B e 1 v l.length (l.map (Value.int .i64))) (hr : ∀ x ∈ l, -9223372036854775808 ≤ x ∧ x ≤ 9223372036854775807) : RdI w v l := by
  rcases h.2 with ⟨rfl, hn⟩ | ⟨g, cap, cur, rfl, hg, hh, hcap, hm, hsz, htk⟩
  · have : l = [] := List.length_eq_zero_iff.1 hn
    subst this
    exact RdI.nil w
  · refine ⟨_, cap, rfl, hcap, fun i x hx => ⟨⟨g, 0, rfl, lt_of_block hh, ?_⟩, hr x (List.mem_of_getElem? hx)⟩⟩
    have hi : i < l.length := (List.getElem?_eq_some_iff.1 hx).1
    rw [Nat.zero_add, cell_of_row w g i cur e (0, 0) hh]
    have h1 : (cur.toList.take (l.length * 1))[i]? = some (.int .i64 x) := by rw [htk]; simp [hx]
    rw [List.getElem?_take, if_pos (by omega)] at h1
    simpa using h1

/-- out of a new block of numbers -/
theorem RdI.fresh {w : World} (l : List Int) (t : TypeId) (fr : Nat × Nat) (hr : ∀ x ∈ l, -9223372036854775808 ≤ x ∧ x ≤ 9223372036854775807) :
    RdI (w.alloc (.cells (l.map (Value.int .i64)).toArray t fr)) (.slice (some ⟨w.heap.size, 0, none⟩) l.length l.length) l := by
  refine ⟨_, _, rfl, Nat.le_refl _, fun i x hx => ⟨⟨w.heap.size, 0, rfl, by simp, ?_⟩, hr x (List.mem_of_getElem? hx)⟩⟩
  rw [Nat.zero_add, World.cell?_alloc_mark]
  simp [hx]

end Ks
