/- Texts that the claim rests on, part 1: Frame, Base, Frame2, Seq, StrE, DiskPlain, OctetPlain, UnpackPlain, CellPlain, TextPlain, CellPlain2, CellPlain3, OctetOrderPlain, OctetBackPlain, CellBackPlain. -/
import Derived.ProofKit
import Derived.WalkKit
import Derived.JoinedCond
import Derived.WalkSpells
import Derived.WalkLawsBesides
import Derived.Laws.IdiomStrings
import Derived.Deep.OwnRows
import Derived.Lib.Hide
import Derived.ArgAppend
import Derived.Laws.OwnMore
import Derived.Deep.RegionLaw
import Derived.Lib.AppendStr
import Derived.Lib.UnsafeStr
import Derived.Lib.Repeat
/- From 'the call returns true, and of what was there nothing has turned' to what a law's row asks behind the call: for whatever types of arguments. No program is in sight. -/
namespace Ks
open Go Go.RowKit Go.ChangeShapes Go.WideShapes Go.ChangeAt

theorem trodAll_below {H : Type} {enc : TypeId × Value → H} {P : Program} (hl : laidOutB P = true) {W W' : World} (hb : Below W.heap.size W W') :
    ∀ (ts : List TypeId) (vs : List Value) (ds : List (DataW H)) (ps : List MemPlace), (∀ t ∈ ts, P.readableRec t = true ∧ t < P.types.size) → (∀ x ∈ ps, x.block < W.heap.size) →
      DataW.TrodAll enc P W 0 (fun _ => true) true ts vs ds ps → DataW.TrodAll enc P W' 0 (fun b => decide (b < W.heap.size)) true ts vs ds ps
  | [], [], [], ps, _, _, h => h
  | t :: ts, v :: vs, d :: ds, ps, hr, hlt, h => by
    obtain ⟨p, q, h1, h2, rfl⟩ := h
    have ht := hr t (by simp)
    exact ⟨p, q, Below.trod hl ht.1 ht.2 h1 hb (fun x hx => hlt x (by simp [hx])), trodAll_below hl hb ts vs ds q (fun t' h' => hr t' (by simp [h'])) (fun x hx => hlt x (by simp [hx])) h2, rfl⟩
  | [], _ :: _, _, _, _, _, h => h.elim
  | [], [], _ :: _, _, _, _, h => h.elim
  | _ :: _, [], _, _, _, _, h => h.elim
  | _ :: _, _ :: _, [], _, _, _, h => h.elim

theorem law_post {H : Type} {enc : TypeId × Value → H} {P : Program} {f : Func} {s : ChangeSpec} {W W' : World} {args : Array Value} {ds : List (DataW H)} {before : List MemPlace} {tb : TypeId}
    (hW : DataW.Whole enc P f.params.toList s.vars false W args.toList ds [] before) (hv : s.vars = []) (hl : laidOutB P = true)
    (hrec : ∀ t ∈ f.params.toList, P.readableRec t = true ∧ t < P.types.size) (hres : f.resultTypes = #[tb]) (htb : P.underlying tb = some .bool)
    (hs : s.fn H (ds ++ []) = { results := [.lit (.bool true)], args := ds }) (hb : Below W.heap.size W W') :
    s.post enc P f false true false false W args (.bool true) W' := by
  have hlt := fun x hx => hW.lt x hx
  have hW' := hW
  obtain ⟨p, q, hA, hV, hpq, hfz, hnd⟩ := hW
  rw [hv] at hV
  have hq : q = [] := hV
  subst hq
  rw [List.append_nil] at hpq
  subst hpq
  refine ⟨ds, [], before, [], before, [], hW', ?_, ?_, ?_, hb.frame _, fun h => by cases h⟩
  · rw [hs, hres]
    exact trodAll_mk1 (shut_bool htb _)
  · rw [hs]
    exact trodAll_below hl hb _ _ _ _ hrec (fun x hx => by simpa using hlt x hx) hA
  · rw [hs, hv]
    rfl

theorem i64_range {n : Int} (h : (Lit.int .i64 n).wf = true) : -9223372036854775808 ≤ n ∧ n ≤ 9223372036854775807 := by
  simpa [Lit.wf, IntKind.min, IntKind.max, IntKind.signed, IntKind.bits] using h
theorem u8_range {n : Int} (h : (Lit.int .u8 n).wf = true) : 0 ≤ n ∧ n ≤ 255 := by
  simpa [Lit.wf, IntKind.min, IntKind.max, IntKind.signed, IntKind.bits] using h

end Ks
/- Small laws of the walk that every text of this seat uses: a row of bytes made a string, a one-byte string, a string cut and joined. No program is in sight. -/
namespace Ks
open Go Go.RowKit

/-- the post behind a variable, so that the walk does not reckon in it -/
theorem calls_by {P : Program} {f : FuncId} {args : Array Value} {w : World} {Q : Ending → World → Prop}
    (h : ∀ R : Ending → World → Prop, Hid (∀ e w', Q e w' → R e w') → Calls P f args w R) : Calls P f args w Q := h Q (Lib.hid fun _ _ h => h)

/-- a string value of these bytes -/
abbrev str (l : List UInt8) : Value := .string ⟨l.toArray⟩

theorem conv_row {P : Program} {src dst e : TypeId} {b cap : Nat} {w : World} {n : Nat} {f : Nat → Value} (l : List UInt8) (hs : P.underlying src = some (.slice e)) (he : P.underlying e = some (.int .u8)) (hd : P.underlying dst = some .string)
    (hrow : w.rowIs b e n f) (hn : n = l.length) (hf : ∀ j (hj : j < l.length), f j = .int .u8 (l[j].toNat : Int)) :
    (convert src dst (.slice (some ⟨b, 0, none⟩) n cap)).run P w = .ok (.string ⟨l.toArray⟩) w := by
  subst hn
  refine run_convert_bytes_back w src dst e _ cap l hs he hd (fun j hj => ?_)
  rw [← hf j hj, ← hrow.cell hj]
  unfold Addr.add
  split <;> simp_all

/-- a new block of one byte, made a string -/
theorem conv_one {P : Program} {src dst e : TypeId} (hs : P.underlying src = some (.slice e)) (he : P.underlying e = some (.int .u8)) (hd : P.underlying dst = some .string) (x : Int) (cap : Nat) (t : TypeId) (w : World) :
    (convert src dst (.slice (some ⟨w.heap.size, 0, none⟩) 1 cap)).run P (w.alloc (.cells #[.int .u8 x] t)) = .ok (.string ⟨#[UInt8.ofNat x.toNat]⟩) (w.alloc (.cells #[.int .u8 x] t)) := by
  rw [run_convert_bytes_string _ src dst e _ 1 cap hs he hd]
  have hl := run_loadCells_list (P := P) (w.alloc (.cells #[.int .u8 x] t)) ⟨w.heap.size, 0, none⟩ [Value.int .u8 x] (fun j v hj => by
    match j, hj with
    | 0, hj => simp at hj; subst hj; simp [Addr.add])
  rw [run_bytesToString _ _ 1 cap [x] (by simpa using hl)]
  rfl

theorem str_some (s : ByteArray) (h : 0 < s.size) : s.toList.isEmpty = false ∧ ¬ s.toList = [] := by
  have h1 : s.toList.length = s.size := by rw [ByteArray.toList_eq]; cases s; simp [ByteArray.size]
  cases h2 : s.toList with
  | nil => rw [h2] at h1; simp at h1; omega
  | cons a l => simp

theorem str_none (s : ByteArray) (h : s.size = 0) : s = ⟨#[]⟩ := by
  cases s with
  | mk d => congr 1; exact Array.eq_empty_of_size_eq_zero h

theorem data_length (s : ByteArray) : s.data.toList.length = s.size := by cases s; simp [ByteArray.size]

theorem ByteArray.mk_append_one (x : UInt8) (l : List UInt8) : (ByteArray.mk #[x] ++ ByteArray.mk l.toArray) = ByteArray.mk (x :: l).toArray := by
  have := ByteArray.mk_append_mk [x] l
  simpa using this

/-- A slice value reads, in a world, as these numbers. -/
def RdI (w : World) (v : Value) (l : List Int) : Prop :=
  ∃ a cap, v = .slice a l.length cap ∧ l.length ≤ cap ∧ ∀ (i : Nat) (x : Int), l[i]? = some x → (∃ b off, a = some ⟨b, off, none⟩ ∧ b < w.heap.size ∧ w.cell? ⟨b, off + i, none⟩ = some (.int .i64 x)) ∧ -9223372036854775808 ≤ x ∧ x ≤ 9223372036854775807

theorem RdI.below {w w' : World} {v : Value} {l : List Int} (h : RdI w v l) (hb : Below w.heap.size w w') : RdI w' v l := by
  obtain ⟨a, cap, rfl, hc, h⟩ := h
  refine ⟨a, cap, rfl, hc, fun i x hx => ?_⟩
  obtain ⟨⟨b, off, ha, hlt, hcell⟩, hr⟩ := h i x hx
  exact ⟨⟨b, off, ha, Nat.lt_of_lt_of_le hlt hb.size, (hb.cell (p := ⟨b, off + i, none⟩) hlt).trans hcell⟩, hr⟩

/-- the place of an element, for a walk -/
theorem RdI.cell {w : World} {a : Option Addr} {n cap : Nat} {l : List Int} (h : RdI w (.slice a n cap) l) (i : Nat) (hi : i < l.length) :
    ∃ b off, a = some ⟨b, off, none⟩ ∧ b < w.heap.size ∧ w.cell? ⟨b, off + i, none⟩ = some (.int .i64 l[i]) := by
  obtain ⟨a', cap', he, _, h⟩ := h
  cases he
  obtain ⟨⟨b, off, ha, hlt, hcell⟩, _⟩ := h i l[i] (List.getElem?_eq_getElem hi)
  exact ⟨b, off, ha, hlt, hcell⟩

theorem RdI.range {w : World} {v : Value} {l : List Int} (h : RdI w v l) (i : Nat) (hi : i < l.length) : -9223372036854775808 ≤ l[i] ∧ l[i] ≤ 9223372036854775807 := by
  obtain ⟨a', cap', he, _, h⟩ := h
  exact (h i l[i] (List.getElem?_eq_getElem hi)).2

theorem RdI.nil (w : World) : RdI w (.slice none 0 0) [] := ⟨none, 0, rfl, Nat.le_refl _, fun i x hx => by simp at hx⟩

/-- out of a row that the call owns -/
theorem RdI.owned {w : World} {B : Nat} {e : TypeId} {v : Value} {l : List Int} (h : w.ownsRow B e 1 v l.length (l.map (Value.int .i64))) (hr : ∀ x ∈ l, -9223372036854775808 ≤ x ∧ x ≤ 9223372036854775807) : RdI w v l := by
  rcases h.2 with ⟨rfl, hn⟩ | ⟨g, cap, cur, rfl, hg, hh, hcap, hm, hsz, htk⟩
  · have : l = [] := List.length_eq_zero_iff.1 hn
    subst this
    exact RdI.nil w
  · refine ⟨_, cap, rfl, hcap, fun i x hx => ⟨⟨g, 0, rfl, lt_of_block hh, ?_⟩, hr x (List.mem_of_getElem? hx)⟩⟩
    have hi : i < l.length := (List.getElem?_eq_some_iff.1 hx).1
    rw [Nat.zero_add, cell_of_row w g i cur e (0, 0) hh]
    have h1 : (cur.toList.take (l.length * 1))[i]? = some (.int .i64 x) := by rw [htk]; simp [hx]
    rw [List.getElem?_take, if_pos (by omega)] at h1
    simpa using h1

/-- out of a new block of numbers -/
theorem RdI.fresh {w : World} (l : List Int) (t : TypeId) (fr : Nat × Nat) (hr : ∀ x ∈ l, -9223372036854775808 ≤ x ∧ x ≤ 9223372036854775807) :
    RdI (w.alloc (.cells (l.map (Value.int .i64)).toArray t fr)) (.slice (some ⟨w.heap.size, 0, none⟩) l.length l.length) l := by
  refine ⟨_, _, rfl, Nat.le_refl _, fun i x hx => ⟨⟨w.heap.size, 0, rfl, by simp, ?_⟩, hr x (List.mem_of_getElem? hx)⟩⟩
  rw [Nat.zero_add, World.cell?_alloc_mark]
  simp [hx]

end Ks
/- Slices of numbers among a law's arguments: what they read as. No program is in sight. -/
namespace Ks
open Go Go.RowKit Go.ChangeShapes Go.WideShapes Go.ChangeAt
set_option linter.unusedVariables false

theorem add_place (b o i : Nat) : (⟨b, o, none⟩ : Addr).add i = ⟨b, o + i, none⟩ := by
  unfold Addr.add; split <;> simp_all

theorem spot_none {w : World} {a : Addr} {v : Value} (h : w.cell? a = some v) : a.spot = none := by
  unfold World.cell? at h
  split at h
  · cases hs : a.spot with
    | none => rfl
    | some x => simp [hs] at h
  · cases h

theorem rdI_open {H : Type} {enc : TypeId × Value → H} {P : Program} {T E : TypeId} {W : World} {base : Nat} {v : Value} {d : DataW H} {ps : List MemPlace}
    (hT : P.underlying T = some (.slice E)) (hE : P.underlying E = some (.int .i64)) (hc : P.cellsOf E = 1)
    (hok : Value.okWide P W .any base T v) (h : DataW.Trod enc P W 0 (fun _ => true) true T v d ps) : ∃ l : List Int, RdI W v l ∧ l.length ≤ maxLen := by
  obtain ⟨a0, len, cap, rfl⟩ := okWide_slice hT hok
  obtain ⟨fuel, hf⟩ := h
  rcases open_ints hT hE hc hf with ⟨hcs, hx⟩ | ⟨a, len', cap', zs, hcs, _, hl, hm, hz, hx, hcell, hwz⟩
  · simp only [Value.cells, List.cons.injEq, Value.slice.injEq, and_true] at hcs
    obtain ⟨rfl, rfl, rfl⟩ := hcs
    exact ⟨[], RdI.nil W, by simp⟩
  · simp only [Value.cells, List.cons.injEq, Value.slice.injEq, and_true] at hcs
    obtain ⟨rfl, rfl, rfl⟩ := hcs
    simp only [if_true] at hz
    have hlen : (zs.take len).length = len := by rw [List.length_take]; omega
    refine ⟨zs.take len, ⟨some a, cap, by rw [hlen], by omega, fun i x hx => ?_⟩, by rw [hlen]; omega⟩
    have hi : i < len := by have := (List.getElem?_eq_some_iff.1 hx).1; omega
    have hx' : zs[i]? = some x := by rw [List.getElem?_take, if_pos hi] at hx; exact hx
    have hc0 := hcell 0 (by omega)
    have hci := hcell i (by omega)
    have h0 : a.add 0 = a := by unfold Addr.add; simp
    rw [h0] at hc0
    obtain ⟨b, o, s⟩ := a
    have hs := spot_none hc0
    simp only at hs
    subst hs
    rw [add_place] at hci
    have hg : zs.getD i 0 = x := by simp [hx']
    rw [hg] at hci
    exact ⟨⟨b, o, rfl, World.block_lt_of_cell? _ _ hci, hci⟩, i64_range (hwz x (List.mem_of_getElem? hx'))⟩

end Ks
/- Slices of whatever elements of so many cells: what they read as, what a call owns, what is appended. Plain. No program is in sight. -/
namespace Ks
open Go Go.RowKit
set_option linter.unusedVariables false
set_option linter.unusedSimpArgs false

/-- how an element lies: in so many cells -/
structure Enc (α : Type) where
  k : Nat
  enc : α → List Value
  len : ∀ x, (enc x).length = k
  one : ∀ x, ∀ u ∈ enc x, u.oneCell' = true
  pos : 0 < k

namespace Enc
variable {α : Type} (E : Enc α)

def cs (l : List α) : List Value := l.flatMap E.enc
theorem cs_nil : E.cs [] = [] := rfl
theorem cs_cons (x : α) (l : List α) : E.cs (x :: l) = E.enc x ++ E.cs l := by simp [cs]
theorem cs_append (a b : List α) : E.cs (a ++ b) = E.cs a ++ E.cs b := by simp [cs]
theorem cs_length (l : List α) : (E.cs l).length = l.length * E.k := by
  induction l with
  | nil => simp [cs_nil]
  | cons x l ih => rw [cs_cons, List.length_append, ih, E.len, List.length_cons, Nat.add_mul, Nat.one_mul, Nat.add_comm]
theorem cs_get (l : List α) (i : Nat) (x : α) (h : l[i]? = some x) (j : Nat) (hj : j < E.k) : (E.cs l)[i * E.k + j]? = (E.enc x)[j]? := by
  induction l generalizing i with
  | nil => simp at h
  | cons y l ih =>
    rw [cs_cons]
    match i, h with
    | 0, h =>
      simp only [List.getElem?_cons_zero, Option.some.injEq] at h
      subst h
      rw [Nat.zero_mul, Nat.zero_add, List.getElem?_append_left (by rw [E.len]; exact hj)]
    | i + 1, h =>
      rw [List.getElem?_append_right (by rw [E.len, Nat.add_mul]; omega), E.len, show (i + 1) * E.k + j - E.k = i * E.k + j by rw [Nat.add_mul]; omega]
      exact ih i (by simpa using h)
theorem cs_cell (l : List α) (m : Nat) (u : Value) (h : (E.cs l)[m]? = some u) : ∃ i x j, l[i]? = some x ∧ j < E.k ∧ m = i * E.k + j ∧ (E.enc x)[j]? = some u := by
  have hm : m < l.length * E.k := by rw [← cs_length]; exact (List.getElem?_eq_some_iff.1 h).1
  have hi : m / E.k < l.length := Nat.div_lt_of_lt_mul (by rw [Nat.mul_comm]; exact hm)
  have hj : m % E.k < E.k := Nat.mod_lt _ E.pos
  have e : m / E.k * E.k + m % E.k = m := by rw [Nat.mul_comm]; exact Nat.div_add_mod m E.k
  have hg := E.cs_get l (m / E.k) l[m / E.k] (List.getElem?_eq_getElem hi) (m % E.k) hj
  rw [e, h] at hg
  exact ⟨_, _, _, List.getElem?_eq_getElem hi, hj, e.symm, hg.symm⟩
theorem cs_one (l : List α) : ∀ u ∈ E.cs l, u.oneCell' = true := by
  intro u hu
  simp only [cs, List.mem_flatMap] at hu
  obtain ⟨x, _, hx⟩ := hu
  exact E.one x u hx
theorem cs_take (l : List α) (n : Nat) : (E.cs l).take (n * E.k) = E.cs (l.take n) := by
  induction l generalizing n with
  | nil => simp [cs_nil]
  | cons x l ih =>
    cases n with
    | zero => simp [cs_nil]
    | succ n =>
      rw [List.take_succ_cons, cs_cons, cs_cons, List.take_append, List.take_of_length_le (by rw [E.len, Nat.add_mul]; omega), E.len, show (n + 1) * E.k - E.k = n * E.k by rw [Nat.add_mul]; omega, ih]

end Enc

variable {α : Type} {E : Enc α}

/-- a slice value reads as these -/
def Rd (E : Enc α) (w : World) (v : Value) (l : List α) : Prop :=
  ∃ a cap, v = .slice a l.length cap ∧ l.length ≤ cap ∧ (a = none → cap = 0) ∧ ∀ i x, l[i]? = some x →
    ∃ b o, a = some ⟨b, o, none⟩ ∧ b < w.heap.size ∧ ∀ j u, (E.enc x)[j]? = some u → w.cell? ⟨b, o + i * E.k + j, none⟩ = some u
/-- a slice value owns them: the block is its own -/
def Row (E : Enc α) (w : World) (B : Nat) (T : TypeId) (v : Value) (l : List α) : Prop := w.ownsRow B T E.k v l.length (E.cs l)

theorem Rd.keep {w w' : World} {v : Value} {l : List α} (h : Rd E w v l) (hs : w.heap.size ≤ w'.heap.size) (hb : ∀ b, v.ownBlock = some b → w'.heap[b]? = w.heap[b]?) : Rd E w' v l := by
  obtain ⟨a, cap, rfl, hc, hn, h⟩ := h
  refine ⟨a, cap, rfl, hc, hn, fun i x hx => ?_⟩
  obtain ⟨b, o, rfl, hlt, h1⟩ := h i x hx
  exact ⟨b, o, rfl, Nat.lt_of_lt_of_le hlt hs, fun j u hu => (World.cell?_of_block (a := ⟨b, o + i * E.k + j, none⟩) (hb b rfl)).trans (h1 j u hu)⟩
theorem Rd.below {w w' : World} {v : Value} {l : List α} (h : Rd E w v l) (hb : Below w.heap.size w w') : Rd E w' v l := by
  obtain ⟨a, cap, rfl, hc, hn, h⟩ := h
  refine ⟨a, cap, rfl, hc, hn, fun i x hx => ?_⟩
  obtain ⟨b, o, rfl, hlt, h1⟩ := h i x hx
  exact ⟨b, o, rfl, Nat.lt_of_lt_of_le hlt hb.size, fun j u hu => (World.cell?_of_block (a := ⟨b, o + i * E.k + j, none⟩) (hb.block b hlt)).trans (h1 j u hu)⟩
theorem Rd.nil (w : World) : Rd E w (.slice none 0 0) [] := ⟨none, 0, rfl, Nat.le_refl _, fun _ => rfl, fun i x hx => by simp at hx⟩
theorem Rd.shape {w : World} {v : Value} {l : List α} (h : Rd E w v l) : ∃ a cap, v = .slice a l.length cap ∧ l.length ≤ cap ∧ (a = none → cap = 0) := by
  obtain ⟨a, cap, e, hc, hn, _⟩ := h
  exact ⟨a, cap, e, hc, hn⟩
/-- an element's cells -/
theorem Rd.at {w : World} {a : Option Addr} {n c : Nat} {l : List α} (h : Rd E w (.slice a n c) l) (i : Nat) (x : α) (hx : l[i]? = some x) :
    ∃ b o, a = some ⟨b, o, none⟩ ∧ b < w.heap.size ∧ ∀ j u, (E.enc x)[j]? = some u → w.cell? ⟨b, o + i * E.k + j, none⟩ = some u := by
  obtain ⟨a', cap, e, hc, hn, hh⟩ := h
  cases e
  exact hh i x hx
theorem Rd.cells {w : World} {b o n c : Nat} {l : List α} (h : Rd E w (.slice (some ⟨b, o, none⟩) n c) l) : n = l.length ∧ ∀ j u, (E.cs l)[j]? = some u → w.cell? ⟨b, o + j, none⟩ = some u := by
  have hh := h
  obtain ⟨a, cap, e, _⟩ := h
  cases e
  refine ⟨rfl, fun m u hm => ?_⟩
  obtain ⟨i, x, j, hx, hj, rfl, hu⟩ := E.cs_cell l m u hm
  obtain ⟨b', o', e, _, h1⟩ := hh.at i x hx
  cases e
  rw [← Nat.add_assoc]
  exact h1 j u hu
theorem Rd.of_cells {w : World} {b o c : Nat} {l : List α} (hb : b < w.heap.size) (hc : l.length ≤ c) (h : ∀ j u, (E.cs l)[j]? = some u → w.cell? ⟨b, o + j, none⟩ = some u) : Rd E w (.slice (some ⟨b, o, none⟩) l.length c) l := by
  refine ⟨_, c, rfl, hc, fun e => by simp at e, fun i x hx => ⟨b, o, rfl, hb, fun j u hu => ?_⟩⟩
  have hj : j < E.k := by have := (List.getElem?_eq_some_iff.1 hu).1; rwa [E.len] at this
  have := h (i * E.k + j) u (by rw [E.cs_get l i x hx j hj]; exact hu)
  rwa [← Nat.add_assoc] at this
/-- a block known whole -/
theorem Rd.block {w : World} {b : Nat} {l : List α} {T : TypeId} {fr : Nat × Nat} {cs : Array Value} (h : w.heap[b]? = some (.cells cs T fr)) (e : cs.toList = E.cs l) : Rd E w (.slice (some ⟨b, 0, none⟩) l.length l.length) l :=
  Rd.of_cells (lt_of_block h) (Nat.le_refl _) fun j u hj => by
    rw [Nat.zero_add, cell_of_row w b j cs T fr h, ← Array.getElem?_toList, e]
    exact hj

theorem Rd.single {w : World} {b : Nat} (x : α) {T : TypeId} {fr : Nat × Nat} {cs : Array Value} (h : w.heap[b]? = some (.cells cs T fr)) (e : cs.toList = E.enc x) : Rd E w (.slice (some ⟨b, 0, none⟩) 1 1) [x] :=
  Rd.block (l := [x]) h (by rw [e, E.cs_cons, E.cs_nil, List.append_nil])

theorem Row.rd {w : World} {B : Nat} {T : TypeId} {v : Value} {l : List α} (h : Row E w B T v l) : Rd E w v l := by
  rcases h.2 with ⟨rfl, h0⟩ | ⟨g, cap, cur, rfl, hb, hg, hn, hc, hs, ht⟩
  · have : l = [] := List.length_eq_zero_iff.1 h0
    subst this
    exact Rd.nil w
  · refine Rd.of_cells (lt_of_block hg) hn fun j u hj => ?_
    rw [Nat.zero_add, cell_of_row w g j cur T (0, 0) hg]
    rw [← ht, List.getElem?_take] at hj
    split at hj
    · simpa using hj
    · cases hj
theorem Row.nil (w : World) (B : Nat) (T : TypeId) : Row E w B T (.slice none 0 0) [] := World.ownsRow_nil w B T E.k
theorem Row.made (w : World) (B : Nat) (T : TypeId) (h : B ≤ w.heap.size) : Row E (w.alloc (.cells #[] T)) B T (.slice (some ⟨w.heap.size, 0, none⟩) 0 0) [] :=
  World.ownsRow_made w #[] 0 h (Nat.zero_le _) (by simp)
theorem Row.keep {w w' : World} {B : Nat} {T : TypeId} {v : Value} {l : List α} (h : Row E w B T v l) (hb : ∀ b, v.ownBlock = some b → w'.heap[b]? = w.heap[b]?) : Row E w' B T v l := by
  refine ⟨h.1, ?_⟩
  rcases h.2 with h2 | ⟨g, cap, cur, rfl, r1, r2, r3⟩
  · exact Or.inl h2
  · exact Or.inr ⟨g, cap, cur, rfl, r1, (hb g rfl).trans r2, r3⟩
theorem Row.lt {w : World} {B : Nat} {T : TypeId} {v : Value} {l : List α} (h : Row E w B T v l) {b : Nat} (hb : v.ownBlock = some b) : B ≤ b ∧ b < w.heap.size := World.ownsRow.lt h b hb
theorem Row.below {w w' : World} {B : Nat} {T : TypeId} {v : Value} {l : List α} (h : Row E w B T v l) (hb : Below w.heap.size w w') : Row E w' B T v l :=
  h.keep fun b e => hb.block b (h.lt e).2
theorem Row.down {w : World} {B B' : Nat} {T : TypeId} {v : Value} {l : List α} (h : Row E w B T v l) (hB : B' ≤ B) : Row E w B' T v l := by
  refine ⟨h.1, ?_⟩
  rcases h.2 with h2 | ⟨g, cap, cur, r0, r1, r2⟩
  · exact Or.inl h2
  · exact Or.inr ⟨g, cap, cur, r0, Nat.le_trans hB r1, r2⟩
theorem Row.shape {w : World} {B : Nat} {T : TypeId} {v : Value} {l : List α} (h : Row E w B T v l) : ∃ a cap, v = .slice a l.length cap ∧ l.length ≤ cap ∧ (a = none → cap = 0) := h.rd.shape
/-- an own row that has elements -/
theorem Row.pos {w : World} {B : Nat} {T : TypeId} {v : Value} {l : List α} (h : Row E w B T v l) (hl : 0 < l.length) : ∃ g cap, v = .slice (some ⟨g, 0, none⟩) l.length cap ∧ l.length ≤ cap ∧ B ≤ g ∧ g < w.heap.size ∧ cap ≤ maxLen := by
  rcases h.2 with ⟨_, h0⟩ | ⟨g, cap, cur, rfl, hb, hg, hn, hc, _⟩
  · omega
  · exact ⟨g, cap, rfl, hn, hb, lt_of_block hg, hc⟩
/-- the first so many of an own row -/
theorem Row.take {w : World} {B : Nat} {T : TypeId} {g n cap : Nat} {l : List α} (h : Row E w B T (.slice (some ⟨g, 0, none⟩) n cap) l) (k : Nat) (hk : k ≤ l.length) : Row E w B T (.slice (some ⟨g, 0, none⟩) k cap) (l.take k) := by
  have hl : (l.take k).length = k := by rw [List.length_take]; omega
  refine ⟨E.cs_length _, ?_⟩
  rcases h.2 with ⟨e, _⟩ | ⟨g', cap', cur, e, hb, hg, hn, hc, hs, ht⟩
  · cases e
  · cases e
    refine Or.inr ⟨g, cap, cur, by rw [hl], hb, hg, by rw [hl]; omega, hc, hs, ?_⟩
    rw [hl, ← E.cs_take l k, ← ht, List.take_take]
    congr 1
    exact (Nat.min_eq_left (Nat.mul_le_mul_right _ hk)).symm
/-- the cells behind so many -/
theorem Rd.drop {w : World} {b o n cap k : Nat} {l : List α} (h : Rd E w (.slice (some ⟨b, o, none⟩) n cap) l) (hk : k ≤ l.length) (a : Option Addr) (ha : k < l.length → a = some ⟨b, o + k * E.k, none⟩) (ha2 : a ≠ none) (c : Nat) (hc : l.length - k ≤ c) :
    Rd E w (.slice a (l.length - k) c) (l.drop k) := by
  refine ⟨a, c, by rw [List.length_drop], by rw [List.length_drop]; exact hc, fun e => absurd e ha2, fun i x hx => ?_⟩
  rw [List.getElem?_drop] at hx
  have hlt : k + i < l.length := (List.getElem?_eq_some_iff.1 hx).1
  obtain ⟨b', o', e, hb, h1⟩ := h.at (k + i) x hx
  cases e
  refine ⟨b, o + k * E.k, ha (by omega), hb, fun j u hu => ?_⟩
  have := h1 j u hu
  rw [show o + k * E.k + i * E.k + j = o + (k + i) * E.k + j by rw [Nat.add_mul]; omega]
  exact this
theorem Rd.take {w : World} {b o n cap k : Nat} {l : List α} (h : Rd E w (.slice (some ⟨b, o, none⟩) n cap) l) (hk : k ≤ l.length) (c : Nat) (hc : k ≤ c) :
    Rd E w (.slice (some ⟨b, o, none⟩) k c) (l.take k) := by
  have hl : (l.take k).length = k := by rw [List.length_take]; omega
  refine ⟨_, c, by rw [hl], by rw [hl]; exact hc, fun e => by simp at e, fun i x hx => ?_⟩
  have hi : i < k := by have := (List.getElem?_eq_some_iff.1 hx).1; omega
  rw [List.getElem?_take, if_pos hi] at hx
  exact h.at i x hx

theorem run_append_none {P : Program} (w : World) (t ty e : TypeId) (i : TypeInfo) (ht : P.underlying t = some (.slice e)) (hi : P.info? e = some i) (a : Option Addr) (n cap : Nat) (hnc : n ≤ cap) (b : Option Addr) (c2 : Nat) :
    (Builtin.append_ #[t, t] ty #[.slice a n cap, .slice b 0 c2]).run P w = .ok (.slice a n cap) w := by
  cases b with
  | none => cases a <;> simp [Builtin.append_, run_underlying ht, Go.sizeOf, typeInfo, hi, Builtin.lenOf, Builtin.firstCells, hnc, storeCells]
  | some b =>
    have hf := run_firstCells_some (P := P) w i.size 0 b 0 c2 [] (by simp) (by simp)
    cases a <;> simp [Builtin.append_, run_underlying ht, Go.sizeOf, typeInfo, hi, Builtin.lenOf, hf, hnc, storeCells]

/-- an element type's row of the table, for `append` -/
structure ElemT (P : Program) (t e : TypeId) (k bytes : Nat) : Prop where
  under : P.underlying t = some (.slice e)
  info : ∃ i z, P.info? e = some i ∧ i.zero = some z ∧ i.size = k ∧ i.bytes = bytes ∧ z.cells.size = k
theorem elemT_of {P : Program} {t e : TypeId} {k bytes : Nat} {z : Value} (h : P.underlying t = some (.slice e)) (hi : (P.info? e).map (fun i => (i.zero, i.size, i.bytes)) = some (some z, k, bytes)) (hz : z.cells.size = k) : ElemT P t e k bytes := by
  obtain ⟨i, h1, h2, h3, h4⟩ := info_parts hi
  exact ⟨h, i, z, h1, h2, h3, h4, hz⟩

/-- what append makes of an own row -/
def Grew (E : Enc α) (w w' : World) (B : Nat) (e : TypeId) (v v' : Value) (l : List α) : Prop :=
  Row E w' B e v' l ∧ w.grownBy w' v.ownBlock ∧ (v'.ownBlock = v.ownBlock ∨ ∀ b, v'.ownBlock = some b → w.heap.size ≤ b) ∧ (l ≠ [] → v' ≠ .slice none 0 0)

theorem run_append_row {P : Program} {t ty e : TypeId} {bytes : Nat} (T : ElemT P t e E.k bytes) (w : World) (B : Nat)
    (v lv : Value) (L l : List α) (hown : Row E w B e v L) (hl : Rd E w lv l) (hB : B ≤ w.heap.size) (b1 : L.length + l.length ≤ 140000000) (b2 : bytes ≤ 1000) :
    ∃ v' w', (Builtin.append_ #[t, t] ty #[v, lv]).run P w = .ok v' w' ∧ Grew E w w' B e v v' (L ++ l) := by
  obtain ⟨h1, i, z, h2, h3, h4, h5, h6⟩ := T
  have hmax : L.length + l.length ≤ maxLen := by unfold maxLen; omega
  have hby : (L.length + l.length) * bytes ≤ 140737488355328 := by
    have : (L.length + l.length) * bytes ≤ 140000000 * 1000 := Nat.mul_le_mul b1 b2
    omega
  have hne : ∀ {w' : World} {v' : Value}, Row E w' B e v' (L ++ l) → L ++ l ≠ [] → v' ≠ .slice none 0 0 := fun r hn e => by
    obtain ⟨a, cap, e2, _⟩ := r.shape
    rw [e] at e2
    simp only [Value.slice.injEq] at e2
    exact hn (List.length_eq_zero_iff.1 e2.2.1.symm)
  cases l with
  | nil =>
    obtain ⟨a, cap, rfl, hc, _⟩ := hown.shape
    obtain ⟨b, c2, rfl, _⟩ := hl
    have r : Row E w B e (.slice a L.length cap) (L ++ []) := by rw [List.append_nil]; exact hown
    exact ⟨_, w, run_append_none w t ty e i h1 h2 a _ cap hc b c2, r, World.grownBy.refl _ _, Or.inl rfl, hne r⟩
  | cons x l =>
    generalize hm : x :: l = m at *
    have hpos : 0 < m.length := by rw [← hm]; simp
    obtain ⟨a, c2, rfl, _, _⟩ := hl.shape
    obtain ⟨b, o, rfl, _⟩ := hl.at 0 m[0] (List.getElem?_eq_getElem hpos)
    have hsrc : ∀ j u, (E.cs m)[j]? = some u → w.cell? ((⟨b, o, none⟩ : Addr).add j) = some u := fun j u hj => by rw [Addr.add_lit]; exact hl.cells.2 j u hj
    have hlen2 : (L ++ m).length = L.length + m.length := List.length_append
    rcases id hown.2 with ⟨rfl, h0⟩ | ⟨g, cap, cur, rfl, hBg, hgb, hn, hc, hsz, ht⟩
    · obtain rfl : L = [] := List.length_eq_zero_iff.1 h0
      obtain ⟨v', w', hrun, r1, r2, _⟩ := run_append_own (P := P) w w.heap.size t ty e i z E.k bytes h1 h2 h3 h4 h5 h6 E.pos (.slice none 0 0) 0 [] (World.ownsRow_nil w _ e E.k) ⟨b, o, none⟩ m.length c2 (E.cs m) (E.cs_length m) hsrc (E.cs_one m) (by simpa using hmax) (by simpa using hby) (Nat.le_refl _)
      rw [Nat.zero_add, List.nil_append] at r1
      have r : Row E w' B e v' ([] ++ m) := Row.down (B := w.heap.size) r1 hB
      exact ⟨v', w', hrun, r, r2, Or.inr fun b hb => (r1.lt b hb).1, hne r⟩
    · by_cases hfit : L.length + m.length ≤ cap
      · obtain ⟨w', hrun, r1, r2⟩ := run_append_fits (P := P) w B t ty e i E.k h1 h2 h4 g L.length cap (E.cs L) hown ⟨b, o, none⟩ m.length c2 (E.cs m) (E.cs_length m) hsrc (E.cs_one m) hfit
        have r : Row E w' B e (.slice (some ⟨g, 0, none⟩) (L.length + m.length) cap) (L ++ m) := by
          show w'.ownsRow B e E.k _ (L ++ m).length (E.cs (L ++ m))
          rw [hlen2, E.cs_append]
          exact r1
        exact ⟨_, w', hrun, r, r2, Or.inl rfl, hne r⟩
      · obtain ⟨v', w', hrun, r1, r2⟩ := run_append_arg_grows (P := P) w t ty e i z E.k bytes h1 h2 h3 h4 h5 h6 E.pos ⟨g, 0, none⟩ L.length cap (E.cs L) (E.cs_length L) (fun j u hj => (Row.rd hown).cells.2 j u hj |> fun h => by rw [Addr.add_lit]; exact h) ⟨b, o, none⟩ m.length c2 (E.cs m) (E.cs_length m) hsrc (by omega) hmax hby
        have r : Row E w' B e v' (L ++ m) := by
          refine Row.down (B := w.heap.size) ?_ hB
          show w'.ownsRow _ e E.k _ (L ++ m).length (E.cs (L ++ m))
          rw [hlen2, E.cs_append]
          exact r1
        exact ⟨v', w', hrun, r, ⟨r2.os, r2.tape, r2.output, r2.size, fun k hk _ => r2.block k hk (by simp)⟩, Or.inr fun b hb => (r1.lt b hb).1, hne r⟩

/-- `append` at a plain region's list -/
theorem wpList_append_row {P : Program} (w : World) {ops : Array Oper} {rest : List Oper} {o : Oper} {a : Act} {Q : Exit → Act → World → Prop} (hg : o.guard = none) (s x : Operand) (t : TypeId)
    (ho : o.op = .call { callee := .builtin .append, args := #[s, x], argTypes := #[t, t] }) {e : TypeId} {bytes : Nat} (T : ElemT P t e E.k bytes) (B : Nat)
    (v lv : Value) (L l : List α) (hs : a.eval s = v) (hx : a.eval x = lv) (hown : Row E w B e v L) (hl : Rd E w lv l) (hB : B ≤ w.heap.size) (b1 : L.length + l.length ≤ 140000000) (b2 : bytes ≤ 1000)
    (hK : ∀ v' w', Grew E w w' B e v v' (L ++ l) → wpList P ops Q rest (a.put o.dst v') w') : wpList P ops Q (o :: rest) a w := by
  refine wpList_plain hg fun K hK' => ?_
  obtain ⟨v', w', hrun, r⟩ := run_append_row (P := P) (t := t) (ty := o.type) T w B v lv L l hown hl hB b1 b2
  unfold Oper.wp
  simp [execOp, ho, resolve, invoke, builtin, hs, hx, hrun, Result.andThen]
  exact hK' _ _ (hK v' w' r)

/-- `append` at a step of a region that draws its order, by its run -/
theorem step_append_of {P : Program} {ops : Array Oper} {o : Oper} {a : Act} {w : World} {K : Act → World → Prop} {Q : Exit → Act → World → Prop} {F : Prop} (hg : o.guard = none) (s x : Operand) (t : TypeId)
    (hop : o.op = Op.call { callee := Callee.builtin Builtin.append, args := #[s, x], argTypes := #[t, t] }) {v lv v' : Value} {w' : World} (hrun : (Builtin.append_ #[t, t] o.type #[v, lv]).run P w = .ok v' w')
    (hs : a.eval s = v) (hx : a.eval x = lv) (hK : K (a.put o.dst v') w') : if Region.wanted o (yielded ops a.tmps) = true then Oper.wp P o a w K Q else F := by
  have hw : Region.wanted o (yielded ops a.tmps) = true := by simp [Region.wanted, hg]
  rw [if_pos hw]
  unfold Oper.wp
  simp [execOp, hop, resolve, invoke, builtin, hs, hx, hrun, Result.andThen]
  exact hK

/-- `append` at a step of a region that draws its order, by its law -/
theorem step_append_row {P : Program} {ops : Array Oper} {o : Oper} {a : Act} {w : World} {K : Act → World → Prop} {Q : Exit → Act → World → Prop} {F : Prop} (hg : o.guard = none) (s x : Operand) (t : TypeId)
    (hop : o.op = Op.call { callee := Callee.builtin Builtin.append, args := #[s, x], argTypes := #[t, t] }) {e : TypeId} {bytes : Nat} (T : ElemT P t e E.k bytes) (B : Nat)
    (v lv : Value) (L l : List α) (hs : a.eval s = v) (hx : a.eval x = lv) (hown : Row E w B e v L) (hl : Rd E w lv l) (hB : B ≤ w.heap.size) (b1 : L.length + l.length ≤ 140000000) (b2 : bytes ≤ 1000)
    (hK : ∀ v' w', Grew E w w' B e v v' (L ++ l) → K (a.put o.dst v') w') : if Region.wanted o (yielded ops a.tmps) = true then Oper.wp P o a w K Q else F := by
  obtain ⟨v', w', hrun, r⟩ := run_append_row (P := P) (t := t) (ty := o.type) T w B v lv L l hown hl hB b1 b2
  exact step_append_of hg s x t hop hrun hs hx (hK v' w' r)

theorem Grew.below {w w' w0 : World} {B B0 : Nat} {e : TypeId} {v v' : Value} {l : List α} (h : Grew E w w' B e v v' l) (hb : Below B0 w0 w) (hB : B0 ≤ w.heap.size) (hv : ∀ b, v.ownBlock = some b → B0 ≤ b) : Below B0 w0 w' :=
  hb.grown h.2.1 hB hv
theorem Grew.low {w w' : World} {B B0 : Nat} {e : TypeId} {v v' : Value} {l : List α} (h : Grew E w w' B e v v' l) (hB : B0 ≤ w.heap.size) (hv : ∀ b, v.ownBlock = some b → B0 ≤ b) : ∀ b, v'.ownBlock = some b → B0 ≤ b := by
  intro b hb
  rcases h.2.2.1 with e | e
  · exact hv b (e ▸ hb)
  · exact Nat.le_trans hB (e b hb)
theorem Grew.block {w w' : World} {B : Nat} {e : TypeId} {v v' : Value} {l : List α} (h : Grew E w w' B e v v' l) {b : Nat} {o : Obj} (hb : w.heap[b]? = some o) (hv : v.ownBlock ≠ some b) : w'.heap[b]? = some o :=
  (h.2.1.block b (lt_of_block hb) (fun e => hv e.symm)).trans hb
theorem Grew.rd {w w' : World} {B : Nat} {e : TypeId} {v v' : Value} {l : List α} {β : Type} {E' : Enc β} {u : Value} {m : List β} (h : Grew E w w' B e v v' l) (hr : Rd E' w u m) (hv : ∀ b, u.ownBlock = some b → v.ownBlock ≠ some b) : Rd E' w' u m := by
  obtain ⟨a, cap, rfl, hc, hn, hh⟩ := hr
  refine ⟨a, cap, rfl, hc, hn, fun i x hx => ?_⟩
  obtain ⟨b, o, rfl, hlt, h1⟩ := hh i x hx
  have e := h.2.1.block b hlt (fun e => hv b rfl e.symm)
  exact ⟨b, o, rfl, Nat.lt_of_lt_of_le hlt h.2.1.size, fun j u hu => (World.cell?_of_block (a := ⟨b, o + i * E'.k + j, none⟩) e).trans (h1 j u hu)⟩

end Ks
/- Texts in a slice. Plain. No program is in sight. -/
namespace Ks
open Go Go.RowKit
set_option linter.unusedVariables false
def strE : Enc ByteArray := ⟨1, fun s => [.string s], fun _ => rfl, fun x u hu => by simp only [List.mem_singleton] at hu; subst hu; rfl, by decide⟩
theorem Rd.str {w : World} {a : Option Addr} {n c : Nat} {l : List ByteArray} (h : Rd strE w (.slice a n c) l) (i : Nat) (hi : i < l.length) : ∃ b o, a = some ⟨b, o, none⟩ ∧ b < w.heap.size ∧ w.cell? ⟨b, o + i, none⟩ = some (.string l[i]) := by
  obtain ⟨b, o, h1, h2, h3⟩ := h.at i l[i] (List.getElem?_eq_getElem hi)
  refine ⟨b, o, h1, h2, ?_⟩
  have := h3 0 (.string l[i]) rfl
  simpa [strE] using this
/-- texts, one behind the other -/
def joinL (l : List ByteArray) : List UInt8 := l.flatMap fun s => s.data.toList
theorem joinL_take (l : List ByteArray) (k : Nat) (h : k < l.length) : joinL (l.take (k + 1)) = joinL (l.take k) ++ l[k].data.toList := by
  rw [joinL, List.take_succ_eq_append_getElem h, List.flatMap_append]; simp [joinL]
theorem joinL_append (a b : List ByteArray) : joinL (a ++ b) = joinL a ++ joinL b := by simp [joinL]
theorem joinL_le (l : List ByteArray) (k : Nat) : (joinL (l.take k)).length ≤ (joinL l).length := by
  have : joinL l = joinL (l.take k) ++ joinL (l.drop k) := by rw [← joinL_append, List.take_append_drop]
  rw [this, List.length_append]; omega
end Ks
/- A disk, plain: blocks, what was written and not flushed. No program is in sight. -/
namespace Ks
open Go Go.RowKit
set_option linter.unusedVariables false
abbrev PutT := Int × ByteArray
structure DS where
  blocks : List ByteArray
  cache : List PutT
  down : Bool
  left : Nat
def putC (b : List ByteArray) (p : PutT) : List ByteArray := b.set p.1.toNat p.2
def showC (b : List ByteArray) (c : List PutT) (i : Int) : ByteArray := c.foldl (fun s p => if p.1 = i then p.2 else s) (b.getD i.toNat ⟨#[]⟩)
def inD (s : DS) (i : Int) : Bool := decide (0 ≤ i ∧ i < (s.blocks.length : Int))
def readD (s : DS) (i : Int) : ByteArray × Int := if s.down then (⟨#[]⟩, 14) else if inD s i then (showC s.blocks s.cache i, 0) else (⟨#[]⟩, 4)
def stepD (s : DS) : DS := if s.left = 0 then s else { s with left := s.left - 1, down := decide (s.left - 1 = 0) }
def placeE (s : DS) (i : Int) (t : ByteArray) : Int := if inD s i then (if t.size = 4096 then 0 else 2) else 4
def writeE (s : DS) (i : Int) (t : ByteArray) : Int :=
  if s.down then 14 else if placeE s i t ≠ 0 then placeE s i t else if 4096 ≤ s.cache.length then 5 else if (stepD s).down then 14 else 0
def writeD (s : DS) (i : Int) (t : ByteArray) : DS :=
  if s.down ∨ placeE s i t ≠ 0 ∨ 4096 ≤ s.cache.length then s else if (stepD s).down then stepD s else { stepD s with cache := s.cache ++ [(i, t)] }
def flushE (s : DS) : Int := if s.down then 14 else if (stepD s).down then 14 else 0
def flushD (s : DS) : DS := if s.down then s else if (stepD s).down then stepD s else { stepD s with blocks := s.cache.foldl putC s.blocks, cache := [] }
def armE (s : DS) (n : Int) : Int := if s.down then 14 else if n < 0 then 2 else 0
def armD (s : DS) (n : Int) : DS := if s.down ∨ n < 0 then s else { s with left := n.toNat }
/-- those of the writes that are kept -/
def keptC (keep : List Int) : List PutT → Nat → List PutT
  | [], _ => []
  | p :: c, k => if (k : Int) ∈ keep then p :: keptC keep c (k + 1) else keptC keep c (k + 1)
def crashD (s : DS) (keep : List Int) : DS := { blocks := (keptC keep s.cache 0).foldl putC s.blocks, cache := [], down := true, left := 0 }
def bootD (s : DS) : DS := { s with cache := [], down := false, left := 0 }
def overD (s : DS) (i : Int) (t : ByteArray) : DS := if placeE s i t ≠ 0 then s else { s with blocks := s.blocks.set i.toNat t }
/-- a disk that may be -/
structure DS.ok (s : DS) : Prop where
  blocks : s.blocks.length ≤ 1024
  cache : s.cache.length ≤ 4096
  at_ : ∀ p ∈ s.cache, 0 ≤ p.1 ∧ p.1 < (s.blocks.length : Int)
  left : s.left ≤ 9223372036854775807
def newD (n : Nat) : DS := ⟨List.replicate n ⟨(List.replicate 4096 0).toArray⟩, [], false, 0⟩

theorem snoc_ind {α : Type} {Q : List α → Prop} (h0 : Q []) (h1 : ∀ c p, Q c → Q (c ++ [p])) (c : List α) : Q c := by
  have key : ∀ l : List α, Q l.reverse := by
    intro l
    induction l with
    | nil => exact h0
    | cons p l ih => rw [List.reverse_cons]; exact h1 _ p ih
  have := key c.reverse
  rwa [List.reverse_reverse] at this
theorem putC_length (b : List ByteArray) (p : PutT) : (putC b p).length = b.length := List.length_set
theorem puts_length (c : List PutT) (b : List ByteArray) : (c.foldl putC b).length = b.length := by
  induction c generalizing b with
  | nil => rfl
  | cons p c ih => rw [List.foldl_cons, ih, putC_length]
theorem showC_snoc (b : List ByteArray) (c : List PutT) (p : PutT) (i : Int) : showC b (c ++ [p]) i = if p.1 = i then p.2 else showC b c i := by simp [showC]
/-- what a place shows is what the writes make of it -/
theorem puts_show (b : List ByteArray) (i : Nat) (hi : i < b.length) (c : List PutT) : (∀ p ∈ c, 0 ≤ p.1) → (c.foldl putC b).getD i ⟨#[]⟩ = showC b c i := by
  refine snoc_ind (Q := fun c => (∀ p ∈ c, 0 ≤ p.1) → (c.foldl putC b).getD i ⟨#[]⟩ = showC b c i) (fun _ => by simp [showC]) (fun c p ih hc => ?_) c
  · rw [List.foldl_append, List.foldl_cons, List.foldl_nil, showC_snoc]
    have h0 := hc p (by simp)
    have ih' := ih fun q hq => hc q (by simp [hq])
    by_cases e : p.1 = i
    · rw [if_pos e, putC, e, Int.toNat_natCast]
      simp [puts_length, hi]
    · rw [if_neg e, putC, ← ih']
      simp only [List.getD_eq_getElem?_getD]
      rw [List.getElem?_set_ne (by omega)]
/-- all places as they show -/
theorem puts_all (b : List ByteArray) (c : List PutT) (hc : ∀ p ∈ c, 0 ≤ p.1) : c.foldl putC b = (List.range b.length).map fun (i : Nat) => showC b c (i : Int) := by
  refine List.ext_getElem (by simp [puts_length]) fun i h1 h2 => ?_
  have hi : i < b.length := by rw [puts_length] at h1; exact h1
  have := puts_show b i hi c hc
  rw [List.getElem_map, List.getElem_range, ← this]
  simp [h1]
theorem keptC_mem (keep : List Int) (c : List PutT) (k : Nat) : ∀ p ∈ keptC keep c k, p ∈ c := by
  induction c generalizing k with
  | nil => intro p hp; cases hp
  | cons q c ih =>
    intro p hp
    unfold keptC at hp
    split at hp
    · rcases List.mem_cons.1 hp with rfl | h
      · simp
      · simp [ih (k + 1) p h]
    · simp [ih (k + 1) p hp]
theorem keptC_snoc (keep : List Int) (c : List PutT) (p : PutT) (k : Nat) : keptC keep (c ++ [p]) k = keptC keep c k ++ (if ((k + c.length : Nat) : Int) ∈ keep then [p] else []) := by
  induction c generalizing k with
  | nil => simp [keptC]
  | cons q c ih =>
    have e : k + (c.length + 1) = k + 1 + c.length := by omega
    simp only [List.cons_append, keptC, ih (k + 1), List.length_cons, e]
    split
    · simp
    · rfl

theorem stepD_ok {s : DS} (h : s.ok) : (stepD s).ok := by
  unfold stepD
  split
  · exact h
  · exact ⟨h.blocks, h.cache, h.at_, by have := h.left; show s.left - 1 ≤ _; omega⟩
theorem inD_iff (s : DS) (i : Int) : inD s i = true ↔ 0 ≤ i ∧ i < (s.blocks.length : Int) := by simp [inD]
theorem place_in {s : DS} {i : Int} {t : ByteArray} (h : ¬ placeE s i t ≠ 0) : 0 ≤ i ∧ i < (s.blocks.length : Int) ∧ t.size = 4096 := by
  unfold placeE at h
  split at h
  · rename_i h1
    rw [inD_iff] at h1
    split at h
    · exact ⟨h1.1, h1.2, by assumption⟩
    · simp at h
  · simp at h
theorem stepD_blocks (s : DS) : (stepD s).blocks = s.blocks := by unfold stepD; split <;> rfl
theorem stepD_cache (s : DS) : (stepD s).cache = s.cache := by unfold stepD; split <;> rfl
theorem writeD_ok {s : DS} (h : s.ok) (i : Int) (t : ByteArray) : (writeD s i t).ok := by
  unfold writeD
  split
  · exact h
  · rename_i hn
    simp only [not_or] at hn
    obtain ⟨_, h2, h3⟩ := hn
    obtain ⟨p1, p2, p3⟩ := place_in h2
    have hs := stepD_ok h
    split
    · exact hs
    · refine ⟨hs.blocks, by show (s.cache ++ [(i, t)]).length ≤ _; simp; omega, fun p hp => ?_, hs.left⟩
      show 0 ≤ p.1 ∧ p.1 < ((stepD s).blocks.length : Int)
      rw [stepD_blocks]
      rcases List.mem_append.1 hp with h1 | h1
      · exact h.at_ p h1
      · simp at h1; subst h1; exact ⟨p1, p2⟩
theorem flushD_ok {s : DS} (h : s.ok) : (flushD s).ok := by
  unfold flushD
  split
  · exact h
  · split
    · exact stepD_ok h
    · have hs := stepD_ok h
      exact ⟨by show (s.cache.foldl putC s.blocks).length ≤ _; rw [puts_length]; exact h.blocks, by simp, (fun p hp => by cases hp), hs.left⟩
theorem armD_ok {s : DS} (h : s.ok) (n : Int) (hn : n ≤ 9223372036854775807) : (armD s n).ok := by
  unfold armD
  split
  · exact h
  · exact ⟨h.blocks, h.cache, h.at_, by show n.toNat ≤ _; omega⟩
theorem crashD_ok {s : DS} (h : s.ok) (keep : List Int) : (crashD s keep).ok :=
  ⟨by show ((keptC keep s.cache 0).foldl putC s.blocks).length ≤ _; rw [puts_length]; exact h.blocks, Nat.zero_le _, (fun p hp => by cases hp), Nat.zero_le _⟩
theorem bootD_ok {s : DS} (h : s.ok) : (bootD s).ok := ⟨h.blocks, Nat.zero_le _, (fun p hp => by cases hp), Nat.zero_le _⟩
theorem overD_ok {s : DS} (h : s.ok) (i : Int) (t : ByteArray) : (overD s i t).ok := by
  unfold overD
  split
  · exact h
  · exact ⟨by show (s.blocks.set _ _).length ≤ _; rw [List.length_set]; exact h.blocks, h.cache, fun p hp => by show _ ∧ _ < ((s.blocks.set _ _).length : Int); rw [List.length_set]; exact h.at_ p hp, h.left⟩
theorem newD_ok (n : Nat) (h : n ≤ 1024) : (newD n).ok := ⟨by show (List.replicate n _).length ≤ _; rw [List.length_replicate]; exact h, Nat.zero_le _, (fun p hp => by cases hp), Nat.zero_le _⟩
end Ks
/- Plain facts about bytes and numbers; no program is in sight. -/
namespace Ks
open Go

/-- a number's bytes, so many, the highest first -/
def putL : Nat → Nat → List UInt8
  | 0, _ => []
  | k + 1, n => putL k (n / 256) ++ [UInt8.ofNat n]

@[simp] theorem putL_length (k n : Nat) : (putL k n).length = k := by
  induction k generalizing n with
  | zero => rfl
  | succ k ih => simp [putL, ih]

theorem putL_get (k n i : Nat) (h : i < k) : (putL k n)[i]? = some (UInt8.ofNat (n / 256 ^ (k - 1 - i))) := by
  induction k generalizing n i with
  | zero => omega
  | succ k ih =>
    simp only [putL]
    by_cases hi : i < k
    · rw [List.getElem?_append_left (by simpa using hi), ih _ _ hi, Nat.div_div_eq_div_mul, show k + 1 - 1 - i = (k - 1 - i) + 1 by omega, Nat.pow_succ']
    · have : i = k := by omega
      subst this
      rw [List.getElem?_append_right (by simp)]
      simp

theorem ofNat_mod (n : Nat) : UInt8.ofNat (n % 256) = UInt8.ofNat n := by
  apply UInt8.toNat.inj; simp

/-- one byte more ahead -/
theorem putL_succ' (k n : Nat) : putL (k + 1) n = UInt8.ofNat (n / 256 ^ k) :: putL k n := by
  apply List.ext_getElem?
  intro i
  match i with
  | 0 => rw [putL_get _ _ _ (by omega)]; simp
  | i + 1 =>
    simp only [List.getElem?_cons_succ]
    by_cases h : i < k
    · rw [putL_get _ _ _ (by omega), putL_get _ _ _ h, show k + 1 - 1 - (i + 1) = k - 1 - i by omega]
    · rw [List.getElem?_eq_none (by simp; omega), List.getElem?_eq_none (by simp; omega)]

/-- the cells that hold a number's bytes when k of them are laid, from the last one on -/
def putCell (n width k : Nat) (j : Nat) : Value :=
  if width - 1 - j < k then Value.int .u8 (((n / 2 ^ (8 * (width - 1 - j)) : Nat) : Int) % 256) else Value.int .u8 0

theorem putCell_done (n width j : Nat) (h : j < (putL width n).length) : putCell n width width j = .int .u8 (((putL width n)[j]).toNat : Int) := by
  have h' : j < width := by simpa using h
  have := putL_get width n j h'
  rw [List.getElem?_eq_getElem h] at this
  injection this with this
  rw [this, putCell, if_pos (by omega)]
  rw [show (256 : Nat) ^ (width - 1 - j) = 2 ^ (8 * (width - 1 - j)) by rw [Nat.pow_mul]]
  simp

theorem putCell_succ (n width k j : Nat) (hk : k < width) (hj : j < width) :
    (if j = width - 1 - k then Value.int .u8 ((n : Int) / 2 ^ (8 * k) % 256) else putCell n width k j) = putCell n width (k + 1) j := by
  unfold putCell
  by_cases h : j = width - 1 - k
  · subst h
    rw [if_pos rfl, if_pos (by omega), show width - 1 - (width - 1 - k) = k by omega]
    simp
  · rw [if_neg h]
    by_cases h2 : width - 1 - j < k
    · rw [if_pos h2, if_pos (by omega)]
    · rw [if_neg h2, if_neg (by omega)]

/-- may a number stand in so many bytes? -/
def putOk (n width : Int) : Bool := decide (1 ≤ width ∧ width ≤ 8 ∧ 0 ≤ n ∧ (width < 8 → n.toNat / 2 ^ (8 * width.toNat) = 0))
def putS (n width : Int) : ByteArray := if putOk n width then ⟨(putL width.toNat n.toNat).toArray⟩ else ⟨#[]⟩
def putE (n width : Int) : Int := if putOk n width then 0 else 2

/-- the number of bytes -/
def getN (l : List UInt8) : Nat := l.foldl (fun n b => n * 256 + b.toNat) 0

theorem getN_snoc (l : List UInt8) (b : UInt8) : getN (l ++ [b]) = getN l * 256 + b.toNat := by simp [getN]

theorem getN_foldl (l : List UInt8) (a : Nat) : l.foldl (fun n b => n * 256 + b.toNat) a = a * 256 ^ l.length + getN l := by
  induction l generalizing a with
  | nil => simp [getN]
  | cons b l ih =>
    simp only [List.foldl_cons, getN, List.length_cons]
    rw [ih, ih (0 * 256 + b.toNat), Nat.pow_succ', Nat.add_mul, Nat.add_mul]
    simp [Nat.mul_assoc, Nat.add_assoc]

theorem getN_cons (b : UInt8) (l : List UInt8) : getN (b :: l) = b.toNat * 256 ^ l.length + getN l := by
  have := getN_foldl l (0 * 256 + b.toNat)
  simpa [getN] using this

theorem getN_append (a b : List UInt8) : getN (a ++ b) = getN a * 256 ^ b.length + getN b := by
  rw [getN, List.foldl_append]; exact getN_foldl b _

theorem getN_lt (l : List UInt8) : getN l < 256 ^ l.length := by
  induction l with
  | nil => simp [getN]
  | cons b l ih =>
    rw [getN_cons, List.length_cons, Nat.pow_succ]
    have := b.toNat_lt
    have h2 : b.toNat * 256 ^ l.length ≤ 255 * 256 ^ l.length := Nat.mul_le_mul_right _ (by omega)
    omega

theorem getN_take_le (l : List UInt8) (k : Nat) : getN (l.take k) ≤ getN l := by
  have := getN_append (l.take k) (l.drop k)
  rw [List.take_append_drop] at this
  rw [this]
  have : 1 ≤ 256 ^ (l.drop k).length := Nat.one_le_pow _ _ (by omega)
  have := Nat.mul_le_mul_left (getN (l.take k)) this
  omega

theorem take_snoc (s : ByteArray) (k : Nat) (h : k < s.size) : s.data.toList.take (k + 1) = s.data.toList.take k ++ [s[k]] := by
  rw [List.take_succ_eq_append_getElem (by simpa using h)]; rfl

/-- is there a number of these bytes? -/
def getOk (l : List UInt8) : Bool := decide (1 ≤ l.length ∧ l.length ≤ 8 ∧ getN l ≤ 9223372036854775807)
def getV (s : ByteArray) : Int := if getOk s.data.toList then getN s.data.toList else 0
def getE (s : ByteArray) : Int := if getOk s.data.toList then 0 else 3

theorem getN_head (s : ByteArray) (h : s.size = 8) : getN s.data.toList ≤ 9223372036854775807 ↔ ¬ 127 < (s[0]'(by omega)).toNat := by
  obtain ⟨⟨l⟩⟩ := s
  have hl : l.length = 8 := h
  show getN l ≤ _ ↔ ¬ 127 < (l[0]'(by omega)).toNat
  match l, hl with
  | b :: l, hl =>
    simp only [List.getElem_cons_zero]
    rw [getN_cons]
    have := getN_lt l
    have hl7 : l.length = 7 := by simpa using hl
    rw [hl7] at this ⊢
    have h7 : (256 : Nat) ^ 7 = 72057594037927936 := by decide
    rw [h7] at this ⊢
    omega

theorem or8 (m b : Nat) (hm : m * 256 + b ≤ 9223372036854775807) (hb : b < 256) : bits .or .i64 ((m : Int) * 256) (b : Int) = (m : Int) * 256 + b :=
  bits_join .i64 63 (by decide) (fun n h0 h1 => by rw [IntKind.wrap_i64]; omega) 8 _ _ (by omega) (by omega) (by omega) (by omega) (by omega) (by omega)

/-- numbers' bytes, one behind the other: of the first k -/
def packTo (ws l : List Int) : Nat → List UInt8
  | 0 => []
  | k + 1 => packTo ws l k ++ putL (ws.getD k 0).toNat (l.getD k 0).toNat
def packOk (ws l : List Int) : Bool := decide (ws.length = l.length ∧ ∀ i, i < l.length → putOk (l.getD i 0) (ws.getD i 0) = true)
def packS (ws l : List Int) : ByteArray := if packOk ws l then ⟨(packTo ws l l.length).toArray⟩ else ⟨#[]⟩
def packE (ws l : List Int) : Int := if packOk ws l then 0 else 2

theorem putOk_width {n w : Int} (h : putOk n w = true) : 1 ≤ w ∧ w ≤ 8 ∧ 0 ≤ n := by
  simp only [putOk, decide_eq_true_eq] at h; omega

theorem packTo_length (ws l : List Int) (k : Nat) (h : ∀ i, i < k → putOk (l.getD i 0) (ws.getD i 0) = true) : (packTo ws l k).length ≤ 8 * k := by
  induction k with
  | zero => simp [packTo]
  | succ k ih =>
    have := putOk_width (h k (by omega))
    have := ih (fun i hi => h i (by omega))
    simp only [packTo, List.length_append, putL_length]
    omega

theorem strCells_mk (l : List UInt8) : Lib.strCells ⟨l.toArray⟩ = Lib.byteCells l := rfl
theorem byteCells_append (a b : List UInt8) : Lib.byteCells (a ++ b) = Lib.byteCells a ++ Lib.byteCells b := by simp [Lib.byteCells]
theorem byteCells_length (a : List UInt8) : (Lib.byteCells a).length = a.length := by simp [Lib.byteCells]

theorem get_cases (s : ByteArray) : (getOk s.data.toList = true ∧ 0 < s.size ∧ (s.size < 8 ∨ ∃ h : s.size = 8, ¬ 127 < (s[0]'(by omega)).toNat) ∧ getN s.data.toList ≤ 9223372036854775807) ∨
    (getOk s.data.toList = false ∧ (s.size = 0 ∨ 8 < s.size ∨ ∃ h : s.size = 8, 127 < (s[0]'(by omega)).toNat)) := by
  have hl := data_length s
  by_cases h : getOk s.data.toList = true
  · refine .inl ⟨h, ?_⟩
    simp only [getOk, decide_eq_true_eq, hl] at h
    refine ⟨by omega, ?_, h.2.2⟩
    by_cases h8 : s.size = 8
    · exact .inr ⟨h8, (getN_head s h8).1 h.2.2⟩
    · exact .inl (by omega)
  · refine .inr ⟨by simpa using h, ?_⟩
    simp only [getOk, decide_eq_true_eq, hl] at h
    by_cases h0 : s.size = 0
    · exact .inl h0
    by_cases h8 : 8 < s.size
    · exact .inr (.inl h8)
    have hn : ¬ getN s.data.toList ≤ 9223372036854775807 := fun hh => h ⟨by omega, by omega, hh⟩
    by_cases h9 : s.size = 8
    · refine .inr (.inr ⟨h9, ?_⟩)
      have := mt (getN_head s h9).2 hn
      omega
    · exfalso
      have h1 := getN_lt s.data.toList
      have h2 : 256 ^ s.data.toList.length ≤ 256 ^ 7 := Nat.pow_le_pow_right (by omega) (by omega)
      have h7 : (256 : Nat) ^ 7 = 72057594037927936 := by decide
      omega

end Ks
/- The numbers of bytes: plain. -/
namespace Ks
open Go

/-- how many bytes the first k widths take -/
def sumTo (ws : List Int) : Nat → Nat
  | 0 => 0
  | k + 1 => sumTo ws k + (ws.getD k 0).toNat
/-- the piece of width k -/
def piece (ws : List Int) (s : List UInt8) (k : Nat) : List UInt8 := (s.drop (sumTo ws k)).take (ws.getD k 0).toNat
def widthsOk (ws : List Int) : Bool := decide (∀ i, i < ws.length → 1 ≤ ws.getD i 0 ∧ ws.getD i 0 ≤ 8)
def piecesOk (ws : List Int) (s : List UInt8) : Bool := decide (∀ i, i < ws.length → getOk (piece ws s i) = true)
def unpackTo (ws : List Int) (s : List UInt8) (k : Nat) : List Int := (List.range k).map fun i => (getN (piece ws s i) : Int)
def unpackE (ws : List Int) (s : ByteArray) : Int :=
  if widthsOk ws then (if s.size = sumTo ws ws.length then (if piecesOk ws s.data.toList then 0 else 3) else 3) else 2
def unpackL (ws : List Int) (s : ByteArray) : List Int := if unpackE ws s = 0 then unpackTo ws s.data.toList ws.length else []

theorem sumTo_le (ws : List Int) (k : Nat) (h : ∀ i, i < k → 1 ≤ ws.getD i 0 ∧ ws.getD i 0 ≤ 8) : sumTo ws k ≤ 8 * k := by
  induction k with
  | zero => simp [sumTo]
  | succ k ih =>
    have h1 := h k (by omega)
    have := ih (fun i hi => h i (by omega))
    simp only [sumTo]
    omega
theorem sumTo_mono (ws : List Int) (k m : Nat) (h : k ≤ m) : sumTo ws k ≤ sumTo ws m := by
  induction m with
  | zero => have : k = 0 := by omega
            subst this; exact Nat.le_refl _
  | succ m ih =>
    by_cases hk : k = m + 1
    · subst hk; exact Nat.le_refl _
    · have := ih (by omega)
      simp only [sumTo]
      omega

theorem data_extract (s : ByteArray) (a b : Nat) : (s.extract a b).data.toList = (s.data.toList.drop a).take (b - a) := by
  obtain ⟨⟨l⟩⟩ := s
  rw [ByteArray.extract_mk]
theorem rest_piece (ws : List Int) (s : ByteArray) (k : Nat) (h : sumTo ws (k + 1) ≤ s.size) :
    ((s.extract (sumTo ws k) s.size).extract 0 (ws.getD k 0).toNat).data.toList = piece ws s.data.toList k := by
  have hl := data_length s
  simp only [sumTo] at h
  rw [data_extract, data_extract, List.drop_zero, List.take_take, piece]
  congr 1
  omega
theorem rest_next (ws : List Int) (s : ByteArray) (k : Nat) (h : sumTo ws (k + 1) ≤ s.size) :
    (s.extract (sumTo ws k) s.size).extract (ws.getD k 0).toNat (s.size - sumTo ws k) = s.extract (sumTo ws (k + 1)) s.size := by
  obtain ⟨⟨l⟩⟩ := s
  simp only [sumTo] at h ⊢
  have h' : sumTo ws k + (ws.getD k 0).toNat ≤ l.length := h
  show ((ByteArray.mk l.toArray).extract (sumTo ws k) l.length).extract _ (l.length - _) = (ByteArray.mk l.toArray).extract _ l.length
  rw [ByteArray.extract_mk, ByteArray.extract_mk, ByteArray.extract_mk, List.drop_take, List.take_take, List.drop_drop]
  congr 3
  omega
theorem unpackTo_succ (ws : List Int) (s : List UInt8) (k : Nat) : unpackTo ws s (k + 1) = unpackTo ws s k ++ [(getN (piece ws s k) : Int)] := by
  simp [unpackTo, List.range_succ]
theorem unpackTo_length (ws : List Int) (s : List UInt8) (k : Nat) : (unpackTo ws s k).length = k := by simp [unpackTo]

end Ks
/- The blocks of the data: plain. -/
namespace Ks
open Go

/-- may a cell be? -/
def cellOk (e s l : Int) (g : Bool) (t : ByteArray) : Bool :=
  decide (0 ≤ e ∧ e ≤ 4294967295 ∧ 0 ≤ s ∧ s ≤ 4294967295 ∧ 0 ≤ l ∧ l ≤ 4095 ∧ t.size ≤ 4000 ∧ (g = true → t.size = 0))
/-- a cell's bytes ahead of the noughts -/
def cellH (e s l : Int) (g : Bool) (t : ByteArray) : List UInt8 :=
  (if g then 2 else 1) :: (putL 4 e.toNat ++ putL 4 s.toNat ++ putL 4 l.toNat ++ (putL 4 t.size ++ t.data.toList))
def cellB (e s l : Int) (g : Bool) (t : ByteArray) : List UInt8 := cellH e s l g t ++ List.replicate (4096 - (cellH e s l g t).length) 0
def cellS (e s l : Int) (g : Bool) (t : ByteArray) : ByteArray := if cellOk e s l g t then ⟨(cellB e s l g t).toArray⟩ else ⟨#[]⟩
def cellE (e s l : Int) (g : Bool) (t : ByteArray) : Int := if cellOk e s l g t then 0 else 2

theorem cellH_length (e s l : Int) (g : Bool) (t : ByteArray) : (cellH e s l g t).length = 17 + t.size := by
  have := data_length t
  simp [cellH]
  omega

end Ks
/- Texts with their lengths, texts cut off, noughts: plain. -/
namespace Ks
open Go Go.RowKit
set_option linter.unusedVariables false

theorem text_mask (n : Nat) (h : n < 4294967296) : bits .and .i64 (n : Int) 4294967295 = (n : Int) := by
  have := bits_mask .i64 63 (by decide) (fun n h0 h1 => by rw [IntKind.wrap_i64]; omega) 32 (by decide) (n : Int) (by omega) (by omega)
  rw [show ((2 : Int) ^ 32 - 1) = 4294967295 from by decide] at this
  rw [this]; omega

theorem putS_four (n : Nat) (h : n < 4294967296) : putS n 4 = ⟨(putL 4 n).toArray⟩ := by
  have hp : putOk n 4 = true := by
    simp only [putOk, decide_eq_true_eq]
    refine ⟨by omega, by omega, by omega, fun _ => ?_⟩
    have : (2 : Nat) ^ (8 * (4 : Int).toNat) = 4294967296 := by decide
    rw [this]
    exact Nat.div_eq_of_lt (by omega)
  rw [putS, if_pos hp]; rfl

/-- a text with its length ahead -/
def textS (s : ByteArray) : ByteArray := ⟨(putL 4 s.size ++ s.data.toList).toArray⟩

theorem textS_size (s : ByteArray) : (textS s).size = 4 + s.size := by
  show (putL 4 s.size ++ s.data.toList).length = _
  rw [List.length_append, putL_length, data_length]

theorem textS_eq (s : ByteArray) (h : s.size < 4294967296) : putS s.size 4 ++ s = textS s := by
  rw [putS_four _ h]
  obtain ⟨⟨l⟩⟩ := s
  exact ByteArray.mk_append_mk _ _

theorem putS_size (n w : Int) : (putS n w).size ≤ 8 := by
  unfold putS
  split
  · rename_i h
    have := putOk_width h
    show (putL _ _).length ≤ 8
    rw [putL_length]; omega
  · show (0 : Nat) ≤ 8
    omega

/-- the number that a text begins with; whether as many bytes are there; the text, and the rest -/
def cutN (s : ByteArray) : Nat := getN (s.data.toList.take 4)
def cutOk (s : ByteArray) : Bool := decide (4 ≤ s.size ∧ cutN s ≤ s.size - 4)
def cutA (s : ByteArray) : ByteArray := if cutOk s then s.extract 4 (4 + cutN s) else ⟨#[]⟩
def cutB (s : ByteArray) : ByteArray := if cutOk s then s.extract (4 + cutN s) s.size else ⟨#[]⟩
def cutE (s : ByteArray) : Int := if cutOk s then 0 else 3

theorem getV_four (s : ByteArray) (h : 4 ≤ s.size) : getV (s.extract 0 4) = (cutN s : Int) ∧ cutN s < 4294967296 := by
  obtain ⟨⟨l⟩⟩ := s
  have hl : 4 ≤ l.length := h
  have he : (ByteArray.mk l.toArray).extract 0 4 = ⟨(l.take 4).toArray⟩ := by rw [ByteArray.extract_mk]; simp
  have hlt := getN_lt (l.take 4)
  have h4 : (l.take 4).length = 4 := by rw [List.length_take]; omega
  rw [h4, show (256 : Nat) ^ 4 = 4294967296 by decide] at hlt
  have ho : getOk (l.take 4) = true := by
    simp only [getOk, decide_eq_true_eq]
    omega
  refine ⟨?_, hlt⟩
  rw [he, getV, if_pos ho]
  rfl

theorem extract_list (s : ByteArray) (a b : Nat) : s.extract a b = ⟨((s.data.toList.drop a).take (b - a)).toArray⟩ := by
  obtain ⟨⟨l⟩⟩ := s
  exact ByteArray.extract_mk l a b

theorem extract_twice (s : ByteArray) (a b c d : Nat) (h : a + d ≤ b) : (s.extract a b).extract c d = s.extract (a + c) (a + d) := by
  obtain ⟨⟨l⟩⟩ := s
  rw [ByteArray.extract_mk, ByteArray.extract_mk, ByteArray.extract_mk]
  congr 2
  rw [List.drop_take, List.take_take, List.drop_drop]
  congr 1
  omega

/-- noughts -/
def zerosS (n : Int) : ByteArray := ⟨(List.replicate n.toNat (0 : UInt8)).toArray⟩
def fillOk (s : ByteArray) (n : Int) : Bool := decide (s.size ≤ n ∧ n ≤ 65536)
def fillS (s : ByteArray) (n : Int) : ByteArray := if fillOk s n then s ++ zerosS (n - s.size) else ⟨#[]⟩
def fillE (s : ByteArray) (n : Int) : Int := if fillOk s n then 0 else 2

theorem repeat_zero (n : Nat) : Lib.repeatL [(0 : UInt8)] n = List.replicate n 0 := by
  induction n with
  | zero => rfl
  | succ n ih => simp [Lib.repeatL, ih, List.replicate_succ]

theorem zerosS_size (m : Nat) : (zerosS m).size = m := by
  show (List.replicate _ _).length = _
  simp
theorem repeat_zeros (m : Nat) : (⟨(Lib.repeatL (ByteArray.mk #[0]).data.toList m).toArray⟩ : ByteArray) = zerosS m := by
  show (⟨(Lib.repeatL [(0 : UInt8)] m).toArray⟩ : ByteArray) = ⟨(List.replicate m (0 : UInt8)).toArray⟩
  rw [repeat_zero]

end Ks
/- A cell's bytes, as they are put together: plain. -/
namespace Ks
open Go
set_option linter.unusedVariables false

theorem putOk4 (n : Int) (h0 : 0 ≤ n) (h : n ≤ 4294967295) : putOk n 4 = true := by
  simp only [putOk, decide_eq_true_eq]
  refine ⟨by omega, by omega, h0, fun _ => ?_⟩
  have : (2 : Nat) ^ (8 * (4 : Int).toNat) = 4294967296 := by decide
  rw [this]
  exact Nat.div_eq_of_lt (by omega)

theorem cell_head (k e s l : Int) (hk : 0 ≤ k ∧ k ≤ 255) (he : 0 ≤ e ∧ e ≤ 4294967295) (hs : 0 ≤ s ∧ s ≤ 4294967295) (hl : 0 ≤ l ∧ l ≤ 4095) :
    packS [1, 4, 4, 4] [k, e, s, l] = ⟨(UInt8.ofNat k.toNat :: (putL 4 e.toNat ++ putL 4 s.toNat ++ putL 4 l.toNat)).toArray⟩ ∧ packE [1, 4, 4, 4] [k, e, s, l] = 0 := by
  have h1 : putOk k 1 = true := by
    simp only [putOk, decide_eq_true_eq]
    refine ⟨by omega, by omega, by omega, fun _ => ?_⟩
    have : (2 : Nat) ^ (8 * (1 : Int).toNat) = 256 := by decide
    rw [this]
    exact Nat.div_eq_of_lt (by omega)
  have hp : packOk [1, 4, 4, 4] [k, e, s, l] = true := by
    simp only [packOk, decide_eq_true_eq]
    refine ⟨rfl, fun i hi => ?_⟩
    match i, hi with
    | 0, _ => exact h1
    | 1, _ => exact putOk4 e he.1 he.2
    | 2, _ => exact putOk4 s hs.1 hs.2
    | 3, _ => exact putOk4 l hl.1 (by omega)
    | n + 4, hi => exact absurd hi (by simp)
  rw [packS, packE, if_pos hp, if_pos hp]
  refine ⟨?_, rfl⟩
  simp [packTo, putL]

/-- a cell's bytes, as they are put together -/
theorem cellS_eq (e s l : Int) (g : Bool) (t : ByteArray) (k : Int) (hk : k = if g then 2 else 1) (hok : cellOk e s l g t = true) :
    packE [1, 4, 4, 4] [k, e, s, l] = 0 ∧ (packS [1, 4, 4, 4] [k, e, s, l]).size = 13 ∧ (packS [1, 4, 4, 4] [k, e, s, l] ++ textS t).size = 17 + t.size ∧
      fillS (packS [1, 4, 4, 4] [k, e, s, l] ++ textS t) 4096 = cellS e s l g t ∧ fillE (packS [1, 4, 4, 4] [k, e, s, l] ++ textS t) 4096 = 0 := by
  have hc := hok
  simp only [cellOk, decide_eq_true_eq] at hc
  have hk2 : 0 ≤ k ∧ k ≤ 255 := by subst hk; cases g <;> simp
  obtain ⟨h1, h2⟩ := cell_head k e s l hk2 ⟨hc.1, hc.2.1⟩ ⟨hc.2.2.1, hc.2.2.2.1⟩ ⟨hc.2.2.2.2.1, hc.2.2.2.2.2.1⟩
  have hkb : UInt8.ofNat k.toNat = if g then 2 else 1 := by subst hk; cases g <;> rfl
  have e1 : packS [1, 4, 4, 4] [k, e, s, l] ++ textS t = ⟨(cellH e s l g t).toArray⟩ := by
    rw [h1, textS, ByteArray.mk_append_mk, cellH, hkb]
    simp
  have hz : (packS [1, 4, 4, 4] [k, e, s, l] ++ textS t).size = 17 + t.size := by
    rw [e1]; exact cellH_length e s l g t
  have hf : fillOk (packS [1, 4, 4, 4] [k, e, s, l] ++ textS t) 4096 = true := by
    simp only [fillOk, decide_eq_true_eq]; rw [hz]; omega
  refine ⟨h2, ?_, hz, ?_, by rw [fillE, if_pos hf]⟩
  · rw [h1]
    show (UInt8.ofNat k.toNat :: (putL 4 e.toNat ++ putL 4 s.toNat ++ putL 4 l.toNat)).length = 13
    simp
  · rw [fillS, if_pos hf, hz, e1, cellS, if_pos hok, cellB, zerosS, ByteArray.mk_append_mk, cellH_length]
    congr 4
    omega

theorem putS4 (n : Int) (h0 : 0 ≤ n) (h : n ≤ 4294967295) : putS n 4 = ⟨(putL 4 n.toNat).toArray⟩ := by
  rw [putS, if_pos (putOk4 n h0 h)]; rfl
theorem cellR_size (e s l : Int) (t : ByteArray) (r1 : 0 ≤ e) (r2 : e ≤ 4294967295) (r3 : 0 ≤ s) (r4 : s ≤ 4294967295) (r5 : 0 ≤ l) (r6 : l ≤ 4095) :
    (putS e 4).size = 4 ∧ (putS s 4).size = 4 ∧ (putS l 4).size = 4 := by
  rw [putS4 e r1 r2, putS4 s r3 r4, putS4 l r5 (by omega)]
  exact ⟨putL_length 4 _, putL_length 4 _, putL_length 4 _⟩
theorem cellR_eq (e s l : Int) (g : Bool) (t : ByteArray) (k : UInt8) (hk : k = if g then 2 else 1) (hok : cellOk e s l g t = true) :
    ByteArray.mk #[k] ++ putS e 4 ++ putS s 4 ++ putS l 4 ++ textS t ++ zerosS (4096 - (17 + t.size : Nat)) = cellS e s l g t := by
  have hc := hok
  simp only [cellOk, decide_eq_true_eq] at hc
  rw [putS4 e hc.1 hc.2.1, putS4 s hc.2.2.1 hc.2.2.2.1, putS4 l hc.2.2.2.2.1 (by omega), cellS, if_pos hok, cellB, cellH_length, textS, zerosS]
  rw [show (ByteArray.mk #[k]) = ⟨([k] : List UInt8).toArray⟩ from rfl]
  rw [ByteArray.mk_append_mk, ByteArray.mk_append_mk, ByteArray.mk_append_mk, ByteArray.mk_append_mk, ByteArray.mk_append_mk, cellH, ← hk]
  rw [show ((4096 : Int) - ((17 + t.size : Nat) : Int)).toNat = 4096 - (17 + t.size) by omega]
  simp

/-- a held text's bytes -/
def holdOk (t : ByteArray) : Bool := decide (1 ≤ t.size ∧ t.size ≤ 4000)
def holdB (t : ByteArray) : List UInt8 := 3 :: (putL 4 t.size ++ t.data.toList) ++ List.replicate (4096 - (5 + t.size)) 0
def holdS (t : ByteArray) : ByteArray := if holdOk t then ⟨(holdB t).toArray⟩ else ⟨#[]⟩
def holdE (t : ByteArray) : Int := if holdOk t then 0 else 2
theorem holdS_eq (t : ByteArray) (hok : holdOk t = true) : (ByteArray.mk #[3] ++ textS t).size = 5 + t.size ∧ ByteArray.mk #[3] ++ textS t ++ zerosS (4096 - (5 + t.size : Nat)) = holdS t ∧
    fillS (ByteArray.mk #[3] ++ textS t) 4096 = holdS t ∧ fillE (ByteArray.mk #[3] ++ textS t) 4096 = 0 := by
  have hc := hok
  simp only [holdOk, decide_eq_true_eq] at hc
  have hz : (ByteArray.mk #[3] ++ textS t).size = 5 + t.size := by
    rw [ByteArray.size_append', textS_size]
    show 1 + _ = _
    omega
  have hf : fillOk (ByteArray.mk #[3] ++ textS t) 4096 = true := by
    simp only [fillOk, decide_eq_true_eq]; rw [hz]; omega
  have h2 : ByteArray.mk #[3] ++ textS t ++ zerosS (4096 - (5 + t.size : Nat)) = holdS t := by
    rw [holdS, if_pos hok, holdB, textS, zerosS, show (ByteArray.mk #[3]) = ⟨([3] : List UInt8).toArray⟩ from rfl, ByteArray.mk_append_mk, ByteArray.mk_append_mk]
    rw [show ((4096 : Int) - ((5 + t.size : Nat) : Int)).toNat = 4096 - (5 + t.size) by omega]
    rfl
  refine ⟨hz, h2, ?_, by rw [fillE, if_pos hf]⟩
  rw [fillS, if_pos hf, hz]
  exact h2

end Ks
/- Which cell any bytes are: plain. -/
namespace Ks
open Go
set_option linter.unusedVariables false

/-- the number of some bytes of a block -/
def numAt (b : ByteArray) (i n : Nat) : Nat := getN ((b.data.toList.drop i).take n)
def takeG (b : ByteArray) : Bool := numAt b 0 1 == 2
def takeT (b : ByteArray) : ByteArray := cutA (b.extract 13 b.size)
def takeOk (b : ByteArray) : Bool :=
  decide (b.size = 4096 ∧ cutOk (b.extract 13 b.size) = true ∧ cellOk (numAt b 1 4) (numAt b 5 4) (numAt b 9 4) (takeG b) (takeT b) = true ∧ cellS (numAt b 1 4) (numAt b 5 4) (numAt b 9 4) (takeG b) (takeT b) = b)
def takeE (b : ByteArray) : Int := if takeOk b then 0 else 3
def cellV (e s l : Int) (g : Bool) (t : ByteArray) : Value := .agg #[.int .i64 e, .int .i64 s, .int .i64 l, .bool g, .string t]
def noCell : Value := .agg #[.int .i64 0, .int .i64 0, .int .i64 0, .bool false, .string ⟨#[]⟩]
def takeV (b : ByteArray) : Value := if takeOk b then cellV (numAt b 1 4) (numAt b 5 4) (numAt b 9 4) (takeG b) (takeT b) else noCell

theorem str_neq {a b : ByteArray} (h : a ≠ b) : (a.toList == b.toList) = false := by
  rw [beq_eq_false_iff_ne]
  intro e
  rw [ByteArray.toList_eq, ByteArray.toList_eq] at e
  apply h
  obtain ⟨⟨x⟩⟩ := a
  obtain ⟨⟨y⟩⟩ := b
  have : x = y := e
  rw [this]
theorem takeG_int (b : ByteArray) : ((numAt b 0 1 : Int) == 2) = takeG b := by
  rw [takeG, Bool.eq_iff_iff, beq_iff_eq, beq_iff_eq]
  omega
theorem numAt_lt (b : ByteArray) (i : Nat) : numAt b i 4 < 4294967296 := by
  have h := getN_lt ((b.data.toList.drop i).take 4)
  have h2 : ((b.data.toList.drop i).take 4).length ≤ 4 := by simp; omega
  have h3 : 256 ^ ((b.data.toList.drop i).take 4).length ≤ 256 ^ 4 := Nat.pow_le_pow_right (by omega) h2
  rw [show (256 : Nat) ^ 4 = 4294967296 by decide] at h3
  exact Nat.lt_of_lt_of_le h h3
theorem getOk_small (l : List UInt8) (h1 : 1 ≤ l.length) (h2 : l.length ≤ 4) : getOk l = true := by
  have h := getN_lt l
  have h3 : 256 ^ l.length ≤ 256 ^ 4 := Nat.pow_le_pow_right (by omega) h2
  rw [show (256 : Nat) ^ 4 = 4294967296 by decide] at h3
  simp only [getOk, decide_eq_true_eq]
  omega
theorem getV_at (b : ByteArray) (i j : Nat) (hij : i < j) (hj : j ≤ i + 4) (hb : j ≤ b.size) : getV (b.extract i j) = (numAt b i (j - i) : Int) ∧ getE (b.extract i j) = 0 := by
  have hl := data_length b
  have he : (b.extract i j).data.toList = (b.data.toList.drop i).take (j - i) := by rw [data_extract]
  have ho : getOk (b.extract i j).data.toList = true := by
    rw [he]
    apply getOk_small
    · rw [List.length_take, List.length_drop]; omega
    · rw [List.length_take]; omega
  rw [getV, getE, if_pos ho, if_pos ho, he]
  exact ⟨rfl, rfl⟩

theorem unpack_cell (b : ByteArray) (hb : b.size = 4096) : unpackE [1, 4, 4, 4] (b.extract 0 13) = 0 ∧
    unpackL [1, 4, 4, 4] (b.extract 0 13) = [(numAt b 0 1 : Int), (numAt b 1 4 : Int), (numAt b 5 4 : Int), (numAt b 9 4 : Int)] := by
  have hl := data_length b
  have hz : (b.extract 0 13).size = 13 := by simp [ByteArray.size_extract]; omega
  have hd : (b.extract 0 13).data.toList = b.data.toList.take 13 := by rw [data_extract]; simp
  have p0 : piece [1, 4, 4, 4] (b.data.toList.take 13) 0 = (b.data.toList.drop 0).take 1 := by
    show ((b.data.toList.take 13).drop 0).take 1 = _
    rw [List.drop_zero, List.drop_zero, List.take_take]; rfl
  have p1 : piece [1, 4, 4, 4] (b.data.toList.take 13) 1 = (b.data.toList.drop 1).take 4 := by
    show ((b.data.toList.take 13).drop 1).take 4 = _
    rw [List.drop_take, List.take_take]; rfl
  have p2 : piece [1, 4, 4, 4] (b.data.toList.take 13) 2 = (b.data.toList.drop 5).take 4 := by
    show ((b.data.toList.take 13).drop 5).take 4 = _
    rw [List.drop_take, List.take_take]; rfl
  have p3 : piece [1, 4, 4, 4] (b.data.toList.take 13) 3 = (b.data.toList.drop 9).take 4 := by
    show ((b.data.toList.take 13).drop 9).take 4 = _
    rw [List.drop_take, List.take_take]; rfl
  have hE : unpackE [1, 4, 4, 4] (b.extract 0 13) = 0 := by
    rw [unpackE, if_pos (by decide), if_pos (by rw [hz]; rfl), if_pos]
    simp only [piecesOk, decide_eq_true_eq]
    rw [hd]
    intro i hi
    match i, hi with
    | 0, _ => rw [p0]; exact getOk_small _ (by simp; omega) (by simp; omega)
    | 1, _ => rw [p1]; exact getOk_small _ (by simp; omega) (by simp; omega)
    | 2, _ => rw [p2]; exact getOk_small _ (by simp; omega) (by simp; omega)
    | 3, _ => rw [p3]; exact getOk_small _ (by simp; omega) (by simp; omega)
    | n + 4, hi => exact absurd hi (by simp)
  refine ⟨hE, ?_⟩
  rw [unpackL, if_pos hE, hd]
  show (List.range 4).map _ = _
  rw [show List.range 4 = [0, 1, 2, 3] from rfl]
  simp only [List.map_cons, List.map_nil]
  rw [p0, p1, p2, p3]
  rfl

theorem take_no (b : ByteArray) (h : ¬ takeOk b = true) : takeV b = noCell ∧ takeE b = 3 := by rw [takeV, takeE, if_neg h, if_neg h]; exact ⟨rfl, rfl⟩
theorem take_yes (b : ByteArray) (h : takeOk b = true) : takeV b = cellV (numAt b 1 4) (numAt b 5 4) (numAt b 9 4) (takeG b) (takeT b) ∧ takeE b = 0 := by rw [takeV, takeE, if_pos h, if_pos h]; exact ⟨rfl, rfl⟩

/-- which held text any bytes are -/
def heldT (b : ByteArray) : ByteArray := cutA (b.extract 1 b.size)
def heldOk (b : ByteArray) : Bool := decide (b.size = 4096 ∧ cutOk (b.extract 1 b.size) = true ∧ holdOk (heldT b) = true ∧ holdS (heldT b) = b)
def heldS (b : ByteArray) : ByteArray := if heldOk b then heldT b else ⟨#[]⟩
def heldE (b : ByteArray) : Int := if heldOk b then 0 else 3
theorem held_head (b : ByteArray) (h : heldOk b = true) : numAt b 0 1 = 3 := by
  simp only [heldOk, decide_eq_true_eq] at h
  obtain ⟨_, _, h1, h2⟩ := h
  rw [← h2, holdS, if_pos h1, numAt, holdB]
  rfl
theorem byte_at (b : ByteArray) (h : 0 < b.size) : ((b[0]'h).toNat : Int) = (numAt b 0 1 : Int) := by
  obtain ⟨⟨l⟩⟩ := b
  match l, h with
  | x :: l, _ => simp [numAt, getN]; rfl

end Ks
/- Of two numbers of one width the less one has the lesser bytes: plain. -/
namespace Ks
open Go

theorem putL_mod (k n : Nat) : putL k (n % 256 ^ k) = putL k n := by
  apply List.ext_getElem?
  intro i
  by_cases h : i < k
  · rw [putL_get _ _ _ h, putL_get _ _ _ h]
    congr 1
    apply UInt8.toNat.inj
    simp only [UInt8.toNat_ofNat']
    have e : (256 : Nat) ^ k = 256 ^ (k - 1 - i) * (256 * 256 ^ i) := by
      rw [← Nat.pow_succ', ← Nat.pow_add]; congr 1; omega
    rw [e, Nat.mod_mul_right_div_self, Nat.mod_mul_right_mod]
  · rw [List.getElem?_eq_none (by simp; omega), List.getElem?_eq_none (by simp; omega)]

theorem putL_less (k : Nat) : ∀ a b : Nat, a < 256 ^ k → b < 256 ^ k → Op.bytesLess (putL k a) (putL k b) = decide (a < b) := by
  induction k with
  | zero =>
    intro a b ha hb
    simp at ha hb
    subst ha hb
    rfl
  | succ k ih =>
    intro a b ha hb
    rw [putL_succ', putL_succ', ← putL_mod k a, ← putL_mod k b]
    have hp : 0 < 256 ^ k := Nat.pow_pos (by omega)
    have ha1 : a / 256 ^ k < 256 := Nat.div_lt_of_lt_mul (by rw [Nat.pow_succ] at ha; omega)
    have hb1 : b / 256 ^ k < 256 := Nat.div_lt_of_lt_mul (by rw [Nat.pow_succ] at hb; omega)
    have hA := Nat.div_add_mod a (256 ^ k)
    have hB := Nat.div_add_mod b (256 ^ k)
    have hra := Nat.mod_lt a hp
    have hrb := Nat.mod_lt b hp
    have hi := ih _ _ hra hrb
    generalize a / 256 ^ k = qa at *
    generalize b / 256 ^ k = qb at *
    generalize a % 256 ^ k = ra at *
    generalize b % 256 ^ k = rb at *
    generalize 256 ^ k = m at *
    show (decide (UInt8.ofNat qa < UInt8.ofNat qb) || (UInt8.ofNat qa == UInt8.ofNat qb && Op.bytesLess (putL k ra) (putL k rb))) = decide (a < b)
    rw [hi]
    have h1 : (UInt8.ofNat qa < UInt8.ofNat qb) ↔ qa < qb := by rw [UInt8.lt_iff_toNat_lt]; simp; omega
    have h2 : (UInt8.ofNat qa = UInt8.ofNat qb) ↔ qa = qb := by rw [← UInt8.toNat_inj]; simp; omega
    subst hA hB
    rcases Nat.lt_trichotomy qa qb with h | h | h
    · have h3 : m * (qa + 1) ≤ m * qb := Nat.mul_le_mul_left _ h
      rw [Nat.mul_add] at h3
      have h4 : m * qa + ra < m * qb + rb := by omega
      simp [h1.2 h, h4]
    · subst h
      have : ¬ (UInt8.ofNat qa < UInt8.ofNat qa) := by rw [h1]; omega
      simp [this]
    · have h3 : m * (qb + 1) ≤ m * qa := Nat.mul_le_mul_left _ h
      rw [Nat.mul_add] at h3
      have h4 : ¬ (m * qa + ra < m * qb + rb) := by omega
      have h5 : ¬ (UInt8.ofNat qa < UInt8.ofNat qb) := by rw [h1]; omega
      have h6 : ¬ (UInt8.ofNat qa = UInt8.ofNat qb) := by rw [h2]; omega
      simp only [h4, h5, decide_false, Bool.false_or, Bool.and_eq_false_iff]
      left
      simpa using h6

theorem putL_inj (k a b : Nat) (ha : a < 256 ^ k) (hb : b < 256 ^ k) (h : putL k a = putL k b) : a = b := by
  have h1 := putL_less k a b ha hb
  have h2 := putL_less k b a hb ha
  have irr : ∀ l : List UInt8, Op.bytesLess l l = false := by
    intro l
    induction l with
    | nil => rfl
    | cons x l ih => show (decide (x < x) || (x == x && Op.bytesLess l l)) = false; rw [ih]; simp
  rw [h, irr] at h1
  rw [h, irr] at h2
  have := of_decide_eq_false h1.symm
  have := of_decide_eq_false h2.symm
  omega

theorem putOk_lt {n w : Int} (h : putOk n w = true) (hn : n ≤ 9223372036854775807) : n.toNat < 256 ^ w.toNat := by
  simp only [putOk, decide_eq_true_eq] at h
  obtain ⟨h1, h2, h3, h4⟩ := h
  rw [show (256 : Nat) ^ w.toNat = 2 ^ (8 * w.toNat) by rw [Nat.pow_mul]]
  by_cases hw : w < 8
  · have := h4 hw
    have hp : 0 < 2 ^ (8 * w.toNat) := Nat.two_pow_pos _
    rcases Nat.lt_or_ge n.toNat (2 ^ (8 * w.toNat)) with h' | h'
    · exact h'
    · have := Nat.div_pos h' hp
      omega
  · have : w = 8 := by omega
    subst this
    have e : (2 : Nat) ^ (8 * (8 : Int).toNat) = 18446744073709551616 := by decide
    rw [e]; omega

end Ks
/- What was put is got: plain. -/
namespace Ks
open Go

theorem getN_putL (k n : Nat) : getN (putL k n) = n % 256 ^ k := by
  induction k generalizing n with
  | zero => simp [putL, getN, Nat.mod_one]
  | succ k ih =>
    simp only [putL]
    rw [getN_snoc, ih]
    have h : (UInt8.ofNat n).toNat = n % 256 := by simp
    rw [h, Nat.pow_succ', Nat.mod_mul]
    omega

theorem putL_getN (l : List UInt8) : putL l.length (getN l) = l := by
  apply List.reverse_inj.1
  have h : ∀ r : List UInt8, (putL r.length (getN r.reverse)).reverse = r := by
    intro r
    induction r with
    | nil => rfl
    | cons x r ih =>
      simp only [List.length_cons, putL, List.reverse_append, List.reverse_cons, List.reverse_nil, List.nil_append, List.singleton_append]
      rw [getN_snoc]
      have h1 : (getN r.reverse * 256 + x.toNat) / 256 = getN r.reverse := by have := x.toNat_lt; omega
      rw [h1, ih]
      congr 1
      apply UInt8.toNat.inj
      have := x.toNat_lt
      first | (simp; done) | (simp; omega)
  have := h l.reverse
  rw [List.reverse_reverse, List.length_reverse] at this
  exact this

theorem packTo_length_eq (ws l : List Int) (k : Nat) : (packTo ws l k).length = sumTo ws k := by
  induction k with
  | zero => rfl
  | succ k ih => simp [packTo, sumTo, ih]

theorem packTo_split (ws l : List Int) (k m : Nat) (h : k < m) : ∃ t, packTo ws l m = packTo ws l k ++ (putL (ws.getD k 0).toNat (l.getD k 0).toNat ++ t) := by
  induction m with
  | zero => omega
  | succ m ih =>
    by_cases hk : k = m
    · subst hk; exact ⟨[], by simp [packTo]⟩
    · obtain ⟨t, ht⟩ := ih (by omega)
      exact ⟨t ++ putL (ws.getD m 0).toNat (l.getD m 0).toNat, by rw [packTo, ht]; simp⟩

theorem piece_packTo (ws l : List Int) (k m : Nat) (h : k < m) : piece ws (packTo ws l m) k = putL (ws.getD k 0).toNat (l.getD k 0).toNat := by
  obtain ⟨t, ht⟩ := packTo_split ws l k m h
  rw [piece, ht, ← packTo_length_eq ws l k, List.drop_left]
  exact List.take_left' (by simp)

theorem unpack_pack (ws l : List Int) (hr : ∀ i, i < l.length → l.getD i 0 ≤ 9223372036854775807) (h : packE ws l = 0) : unpackE ws (packS ws l) = 0 ∧ unpackL ws (packS ws l) = l := by
  have hp : packOk ws l = true := by
    rw [packE] at h
    split at h
    · assumption
    · cases h
  have hs : packS ws l = ⟨(packTo ws l l.length).toArray⟩ := by rw [packS, if_pos hp]
  simp only [packOk, decide_eq_true_eq] at hp
  obtain ⟨hl, hok⟩ := hp
  have hw : ∀ i, i < ws.length → 1 ≤ ws.getD i 0 ∧ ws.getD i 0 ≤ 8 := fun i hi => by
    have := putOk_width (hok i (by omega)); omega
  have hpc : ∀ i, i < ws.length → piece ws (packTo ws l l.length) i = putL (ws.getD i 0).toNat (l.getD i 0).toNat := fun i hi => piece_packTo ws l i _ (by omega)
  have hget : ∀ i, i < ws.length → getN (piece ws (packTo ws l l.length) i) = (l.getD i 0).toNat := fun i hi => by
    rw [hpc i hi, getN_putL]
    exact Nat.mod_eq_of_lt (putOk_lt (hok i (by omega)) (hr i (by omega)))
  have hE : unpackE ws (packS ws l) = 0 := by
    rw [unpackE, if_pos (by simpa only [widthsOk, decide_eq_true_eq] using hw), hs, if_pos, if_pos]
    · simp only [piecesOk, decide_eq_true_eq]
      intro i hi
      have h1 := hget i hi
      have h2 := hr i (by omega)
      have h3 := hw i hi
      simp only [getOk, decide_eq_true_eq]
      rw [h1, hpc i hi, putL_length]
      omega
    · show (packTo ws l l.length).length = _
      rw [packTo_length_eq, hl]
  refine ⟨hE, ?_⟩
  rw [unpackL, if_pos hE, hs]
  apply List.ext_getElem
  · simp [unpackTo, hl]
  · intro i h1 h2
    simp only [unpackTo, List.getElem_map, List.getElem_range]
    have h3 := hget i (by omega)
    have h4 := putOk_width (hok i h2)
    rw [h3]
    have h5 : l.getD i 0 = l[i] := by simp [h2]
    rw [h5] at h4 ⊢
    omega

theorem put_get (s : ByteArray) (h : getE s = 0) : putS (getV s) s.size = s ∧ putE (getV s) s.size = 0 := by
  have hg : getOk s.data.toList = true := by
    rw [getE] at h
    split at h
    · assumption
    · cases h
  have hv : getV s = getN s.data.toList := by rw [getV, if_pos hg]
  simp only [getOk, decide_eq_true_eq] at hg
  have hl := data_length s
  have hlt := getN_lt s.data.toList
  have hp : putOk (getV s) s.size = true := by
    rw [hv]
    simp only [putOk, decide_eq_true_eq]
    refine ⟨by omega, by omega, by omega, fun _ => ?_⟩
    rw [Int.toNat_natCast, Int.toNat_natCast]
    apply Nat.div_eq_of_lt
    rw [show (2 : Nat) ^ (8 * s.size) = 256 ^ s.size by rw [Nat.pow_mul], ← hl]
    exact hlt
  refine ⟨?_, by rw [putE, if_pos hp]⟩
  rw [putS, if_pos hp, hv, Int.toNat_natCast, Int.toNat_natCast, ← hl, putL_getN]

end Ks
/- What was put is taken as it was: plain. -/
namespace Ks
open Go
set_option linter.unusedVariables false

theorem bytes_ext {a b : ByteArray} (h : a.data.toList = b.data.toList) : a = b := by
  obtain ⟨⟨x⟩⟩ := a
  obtain ⟨⟨y⟩⟩ := b
  have : x = y := h
  rw [this]
theorem piece_mid (A M C : List UInt8) (i n : Nat) (hi : A.length = i) (hn : M.length = n) : ((A ++ (M ++ C)).drop i).take n = M := by
  subst hi hn
  rw [List.drop_left, List.take_left]
theorem getN_put4 (n : Nat) (h : n < 4294967296) : getN (putL 4 n) = n := by
  rw [getN_putL, show (256 : Nat) ^ 4 = 4294967296 by decide]
  exact Nat.mod_eq_of_lt h

theorem cell_data (e s l : Int) (g : Bool) (t : ByteArray) (hok : cellOk e s l g t = true) : (cellS e s l g t).data.toList = cellB e s l g t := by rw [cellS, if_pos hok]
theorem cell_size (e s l : Int) (g : Bool) (t : ByteArray) (hok : cellOk e s l g t = true) : (cellS e s l g t).size = 4096 := by
  rw [← data_length, cell_data e s l g t hok, cellB, List.length_append, List.length_replicate, cellH_length]
  have hc := hok
  simp only [cellOk, decide_eq_true_eq] at hc
  omega

theorem cell_nums (e s l : Int) (g : Bool) (t : ByteArray) (hok : cellOk e s l g t = true) :
    numAt (cellS e s l g t) 0 1 = (if g then 2 else 1) ∧ (numAt (cellS e s l g t) 1 4 : Int) = e ∧ (numAt (cellS e s l g t) 5 4 : Int) = s ∧ (numAt (cellS e s l g t) 9 4 : Int) = l := by
  have hc := hok
  simp only [cellOk, decide_eq_true_eq] at hc
  obtain ⟨c1, c2, c3, c4, c5, c6, c7, c8⟩ := hc
  unfold numAt
  rw [cell_data e s l g t hok, cellB, cellH]
  generalize List.replicate _ (0 : UInt8) = Z
  refine ⟨?_, ?_, ?_, ?_⟩
  · cases g <;> rfl
  · rw [show (if g then (2 : UInt8) else 1) :: (putL 4 e.toNat ++ putL 4 s.toNat ++ putL 4 l.toNat ++ (putL 4 t.size ++ t.data.toList)) ++ Z = [if g then (2 : UInt8) else 1] ++ (putL 4 e.toNat ++ (putL 4 s.toNat ++ putL 4 l.toNat ++ (putL 4 t.size ++ t.data.toList) ++ Z)) by simp,
      piece_mid _ _ _ 1 4 rfl (putL_length _ _), getN_put4 _ (by omega)]
    omega
  · rw [show (if g then (2 : UInt8) else 1) :: (putL 4 e.toNat ++ putL 4 s.toNat ++ putL 4 l.toNat ++ (putL 4 t.size ++ t.data.toList)) ++ Z = ([if g then (2 : UInt8) else 1] ++ putL 4 e.toNat) ++ (putL 4 s.toNat ++ (putL 4 l.toNat ++ (putL 4 t.size ++ t.data.toList) ++ Z)) by simp,
      piece_mid _ _ _ 5 4 (by simp) (putL_length _ _), getN_put4 _ (by omega)]
    omega
  · rw [show (if g then (2 : UInt8) else 1) :: (putL 4 e.toNat ++ putL 4 s.toNat ++ putL 4 l.toNat ++ (putL 4 t.size ++ t.data.toList)) ++ Z = ([if g then (2 : UInt8) else 1] ++ putL 4 e.toNat ++ putL 4 s.toNat) ++ (putL 4 l.toNat ++ ((putL 4 t.size ++ t.data.toList) ++ Z)) by simp,
      piece_mid _ _ _ 9 4 (by simp) (putL_length _ _), getN_put4 _ (by omega)]
    omega

/-- a text with its length, and whatever behind it, is cut off as it was -/
theorem cut_text (r t : ByteArray) (Z : List UInt8) (h : r.data.toList = putL 4 t.size ++ t.data.toList ++ Z) (ht : t.size < 4294967296) : cutOk r = true ∧ cutA r = t := by
  have hn : cutN r = t.size := by
    rw [cutN, h, show putL 4 t.size ++ t.data.toList ++ Z = [] ++ (putL 4 t.size ++ (t.data.toList ++ Z)) by simp]
    have := piece_mid [] (putL 4 t.size) (t.data.toList ++ Z) 0 4 rfl (putL_length _ _)
    rw [List.drop_zero] at this
    rw [this, getN_put4 _ ht]
  have hr : r.size = 4 + t.size + Z.length := by
    rw [← data_length, h, List.length_append, List.length_append, putL_length, data_length]
  have hok : cutOk r = true := by
    simp only [cutOk, decide_eq_true_eq]
    rw [hn]; omega
  refine ⟨hok, ?_⟩
  rw [cutA, if_pos hok, hn]
  apply bytes_ext
  rw [data_extract, h, show 4 + t.size - 4 = t.size by omega, List.append_assoc]
  exact piece_mid _ _ _ 4 t.size (putL_length _ _) (data_length t)

theorem drop_append_of (A B : List UInt8) (i : Nat) (h : A.length = i) : (A ++ B).drop i = B := by subst h; exact List.drop_left
theorem extract_end (b : ByteArray) (i : Nat) (hi : i ≤ b.size) : (b.extract i b.size).data.toList = b.data.toList.drop i := by
  rw [data_extract, List.take_of_length_le (by rw [List.length_drop, data_length]; omega)]

theorem take_cell (e s l : Int) (g : Bool) (t : ByteArray) (hok : cellOk e s l g t = true) : takeOk (cellS e s l g t) = true ∧ takeV (cellS e s l g t) = cellV e s l g t ∧ takeE (cellS e s l g t) = 0 ∧ takeG (cellS e s l g t) = g := by
  have hz := cell_size e s l g t hok
  obtain ⟨n0, n1, n2, n3⟩ := cell_nums e s l g t hok
  have hg : takeG (cellS e s l g t) = g := by rw [takeG, n0]; cases g <;> rfl
  have hc := hok
  simp only [cellOk, decide_eq_true_eq] at hc
  obtain ⟨c1, c2, c3, c4, c5, c6, c7, c8⟩ := hc
  have hd : ((cellS e s l g t).extract 13 (cellS e s l g t).size).data.toList = putL 4 t.size ++ t.data.toList ++ List.replicate (4096 - (cellH e s l g t).length) 0 := by
    rw [extract_end _ _ (by omega), cell_data e s l g t hok, cellB]
    generalize List.replicate _ (0 : UInt8) = Z
    rw [cellH, show (if g then (2 : UInt8) else 1) :: (putL 4 e.toNat ++ putL 4 s.toNat ++ putL 4 l.toNat ++ (putL 4 t.size ++ t.data.toList)) ++ Z = ([if g then (2 : UInt8) else 1] ++ putL 4 e.toNat ++ putL 4 s.toNat ++ putL 4 l.toNat) ++ (putL 4 t.size ++ t.data.toList ++ Z) by simp]
    exact drop_append_of _ _ 13 (by simp)
  obtain ⟨hk, ha⟩ := cut_text _ t _ hd (by omega)
  have ht : takeT (cellS e s l g t) = t := ha
  have hT : takeOk (cellS e s l g t) = true := by
    simp only [takeOk, decide_eq_true_eq]
    rw [hg, ht, n1, n2, n3]
    exact ⟨hz, hk, hok, rfl⟩
  obtain ⟨q1, q2⟩ := take_yes _ hT
  rw [hg, ht, n1, n2, n3] at q1
  exact ⟨hT, q1, q2, hg⟩

theorem held_hold (t : ByteArray) (hok : holdOk t = true) : heldS (holdS t) = t ∧ heldE (holdS t) = 0 ∧ (holdS t).size = 4096 := by
  have hc := hok
  simp only [holdOk, decide_eq_true_eq] at hc
  have hd : (holdS t).data.toList = holdB t := by rw [holdS, if_pos hok]
  have hz : (holdS t).size = 4096 := by
    rw [← data_length, hd, holdB, List.length_append, List.length_replicate, List.length_cons, List.length_append, putL_length, data_length]
    omega
  have hx : ((holdS t).extract 1 (holdS t).size).data.toList = putL 4 t.size ++ t.data.toList ++ List.replicate (4096 - (5 + t.size)) 0 := by
    rw [extract_end _ _ (by omega), hd, holdB]
    rfl
  obtain ⟨hk, ha⟩ := cut_text _ t _ hx (by omega)
  have ht : heldT (holdS t) = t := ha
  have hH : heldOk (holdS t) = true := by
    simp only [heldOk, decide_eq_true_eq]
    rw [ht]
    exact ⟨hz, hk, hok, rfl⟩
  refine ⟨by rw [heldS, if_pos hH, ht], by rw [heldE, if_pos hH], hz⟩

theorem take_back (b : ByteArray) (h : takeOk b = true) : cellOk (numAt b 1 4) (numAt b 5 4) (numAt b 9 4) (takeG b) (takeT b) = true ∧ cellS (numAt b 1 4) (numAt b 5 4) (numAt b 9 4) (takeG b) (takeT b) = b ∧ cellE (numAt b 1 4) (numAt b 5 4) (numAt b 9 4) (takeG b) (takeT b) = 0 := by
  simp only [takeOk, decide_eq_true_eq] at h
  exact ⟨h.2.2.1, h.2.2.2, by rw [cellE, if_pos h.2.2.1]⟩
theorem held_back (b : ByteArray) (h : heldOk b = true) : heldS b = heldT b ∧ holdOk (heldT b) = true ∧ holdS (heldT b) = b ∧ holdE (heldT b) = 0 := by
  have h0 := h
  simp only [heldOk, decide_eq_true_eq] at h
  exact ⟨by rw [heldS, if_pos h0], h.2.2.1, h.2.2.2, by rw [holdE, if_pos h.2.2.1]⟩
theorem not_both (b : ByteArray) (h : takeOk b = true) : heldOk b = false := by
  obtain ⟨h1, h2, _⟩ := take_back b h
  have hn := (cell_nums _ _ _ _ _ h1).1
  rw [h2] at hn
  cases hh : heldOk b with
  | false => rfl
  | true =>
    have := held_head b hh
    rw [this] at hn
    exact absurd hn (by split <;> decide)

theorem left_cell (e s l : Int) (g : Bool) (t : ByteArray) (hok : cellOk e s l g t = true) : cellOk e s l true ⟨#[]⟩ = true ∧ (cellS e s l true ⟨#[]⟩).extract 17 4096 = zerosS 4079 := by
  have hc := hok
  simp only [cellOk, decide_eq_true_eq] at hc
  obtain ⟨c1, c2, c3, c4, c5, c6, c7, c8⟩ := hc
  have hk : cellOk e s l true ⟨#[]⟩ = true := by
    simp only [cellOk, decide_eq_true_eq]
    exact ⟨c1, c2, c3, c4, c5, c6, Nat.zero_le _, fun _ => rfl⟩
  refine ⟨hk, ?_⟩
  apply bytes_ext
  rw [data_extract, cell_data _ _ _ _ _ hk, cellB, zerosS]
  have hl : (cellH e s l true ⟨#[]⟩).length = 17 := cellH_length _ _ _ _ _
  rw [drop_append_of _ _ 17 hl, hl]
  show List.take 4079 (List.replicate 4079 0) = List.replicate 4079 0
  rw [List.take_of_length_le (by rw [List.length_replicate]; omega)]

end Ks
