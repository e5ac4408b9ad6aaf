/- Texts that the claim rests on, part 1: Frame, Base, Frame2, Seq, SeqObj, StrE, OctetPlain, RecPlain, ArrRow, After, QuietTail, BlkRow, Foot. -/
import Derived.ProofKit
import Derived.WalkKit
import Derived.JoinedCond
import Derived.WalkSpells
import Derived.WalkLawsBesides
import Derived.Laws.IdiomStrings
import Derived.Deep.OwnRows
import Derived.Lib.Hide
import Derived.ArgAppend
import Derived.Laws.OwnMore
import Derived.Deep.RegionLaw
import Derived.Lib.AppendStr
import Derived.Lib.UnsafeStr
import Derived.Deep.WholeRow
import Derived.Laws.CopyOwn
import Derived.BigQuiet
import Derived.Lib.QuietBelow
import Derived.StillTail
import Derived.Deep.MidRow
/- From 'the call returns true, and of what was there nothing has turned' to what a law's row asks behind the call: for whatever types of arguments. No program is in sight. -/
namespace Ks
open Go Go.RowKit Go.ChangeShapes Go.WideShapes Go.ChangeAt

theorem trodAll_below {H : Type} {enc : TypeId × Value → H} {P : Program} (hl : laidOutB P = true) {W W' : World} (hb : Below W.heap.size W W') :
    ∀ (ts : List TypeId) (vs : List Value) (ds : List (DataW H)) (ps : List MemPlace), (∀ t ∈ ts, P.readableRec t = true ∧ t < P.types.size) → (∀ x ∈ ps, x.block < W.heap.size) →
      DataW.TrodAll enc P W 0 (fun _ => true) true ts vs ds ps → DataW.TrodAll enc P W' 0 (fun b => decide (b < W.heap.size)) true ts vs ds ps
  | [], [], [], ps, _, _, h => h
  | t :: ts, v :: vs, d :: ds, ps, hr, hlt, h => by
    obtain ⟨p, q, h1, h2, rfl⟩ := h
    have ht := hr t (by simp)
    exact ⟨p, q, Below.trod hl ht.1 ht.2 h1 hb (fun x hx => hlt x (by simp [hx])), trodAll_below hl hb ts vs ds q (fun t' h' => hr t' (by simp [h'])) (fun x hx => hlt x (by simp [hx])) h2, rfl⟩
  | [], _ :: _, _, _, _, _, h => h.elim
  | [], [], _ :: _, _, _, _, h => h.elim
  | _ :: _, [], _, _, _, _, h => h.elim
  | _ :: _, _ :: _, [], _, _, _, h => h.elim

theorem law_post {H : Type} {enc : TypeId × Value → H} {P : Program} {f : Func} {s : ChangeSpec} {W W' : World} {args : Array Value} {ds : List (DataW H)} {before : List MemPlace} {tb : TypeId}
    (hW : DataW.Whole enc P f.params.toList s.vars false W args.toList ds [] before) (hv : s.vars = []) (hl : laidOutB P = true)
    (hrec : ∀ t ∈ f.params.toList, P.readableRec t = true ∧ t < P.types.size) (hres : f.resultTypes = #[tb]) (htb : P.underlying tb = some .bool)
    (hs : s.fn H (ds ++ []) = { results := [.lit (.bool true)], args := ds }) (hb : Below W.heap.size W W') :
    s.post enc P f false true false false W args (.bool true) W' := by
  have hlt := fun x hx => hW.lt x hx
  have hW' := hW
  obtain ⟨p, q, hA, hV, hpq, hfz, hnd⟩ := hW
  rw [hv] at hV
  have hq : q = [] := hV
  subst hq
  rw [List.append_nil] at hpq
  subst hpq
  refine ⟨ds, [], before, [], before, [], hW', ?_, ?_, ?_, hb.frame _, fun h => by cases h⟩
  · rw [hs, hres]
    exact trodAll_mk1 (shut_bool htb _)
  · rw [hs]
    exact trodAll_below hl hb _ _ _ _ hrec (fun x hx => by simpa using hlt x hx) hA
  · rw [hs, hv]
    rfl

theorem i64_range {n : Int} (h : (Lit.int .i64 n).wf = true) : -9223372036854775808 ≤ n ∧ n ≤ 9223372036854775807 := by
  simpa [Lit.wf, IntKind.min, IntKind.max, IntKind.signed, IntKind.bits] using h
theorem u8_range {n : Int} (h : (Lit.int .u8 n).wf = true) : 0 ≤ n ∧ n ≤ 255 := by
  simpa [Lit.wf, IntKind.min, IntKind.max, IntKind.signed, IntKind.bits] using h

end Ks
/- Small laws of the walk that every text of this seat uses: a row of bytes made a string, a one-byte string, a string cut and joined. No program is in sight. -/
namespace Ks
open Go Go.RowKit

/-- the post behind a variable, so that the walk does not reckon in it -/
theorem calls_by {P : Program} {f : FuncId} {args : Array Value} {w : World} {Q : Ending → World → Prop}
    (h : ∀ R : Ending → World → Prop, Hid (∀ e w', Q e w' → R e w') → Calls P f args w R) : Calls P f args w Q := h Q (Lib.hid fun _ _ h => h)

/-- a string value of these bytes -/
abbrev str (l : List UInt8) : Value := .string ⟨l.toArray⟩

theorem conv_row {P : Program} {src dst e : TypeId} {b cap : Nat} {w : World} {n : Nat} {f : Nat → Value} (l : List UInt8) (hs : P.underlying src = some (.slice e)) (he : P.underlying e = some (.int .u8)) (hd : P.underlying dst = some .string)
    (hrow : w.rowIs b e n f) (hn : n = l.length) (hf : ∀ j (hj : j < l.length), f j = .int .u8 (l[j].toNat : Int)) :
    (convert src dst (.slice (some ⟨b, 0, none⟩) n cap)).run P w = .ok (.string ⟨l.toArray⟩) w := by
  subst hn
  refine run_convert_bytes_back w src dst e _ cap l hs he hd (fun j hj => ?_)
  rw [← hf j hj, ← hrow.cell hj]
  unfold Addr.add
  split <;> simp_all

/-- a new block of one byte, made a string -/
theorem conv_one {P : Program} {src dst e : TypeId} (hs : P.underlying src = some (.slice e)) (he : P.underlying e = some (.int .u8)) (hd : P.underlying dst = some .string) (x : Int) (cap : Nat) (t : TypeId) (w : World) :
    (convert src dst (.slice (some ⟨w.heap.size, 0, none⟩) 1 cap)).run P (w.alloc (.cells #[.int .u8 x] t)) = .ok (.string ⟨#[UInt8.ofNat x.toNat]⟩) (w.alloc (.cells #[.int .u8 x] t)) := by
  rw [run_convert_bytes_string _ src dst e _ 1 cap hs he hd]
  have hl := run_loadCells_list (P := P) (w.alloc (.cells #[.int .u8 x] t)) ⟨w.heap.size, 0, none⟩ [Value.int .u8 x] (fun j v hj => by
    match j, hj with
    | 0, hj => simp at hj; subst hj; simp [Addr.add])
  rw [run_bytesToString _ _ 1 cap [x] (by simpa using hl)]
  rfl

theorem str_some (s : ByteArray) (h : 0 < s.size) : s.toList.isEmpty = false ∧ ¬ s.toList = [] := by
  have h1 : s.toList.length = s.size := by rw [ByteArray.toList_eq]; cases s; simp [ByteArray.size]
  cases h2 : s.toList with
  | nil => rw [h2] at h1; simp at h1; omega
  | cons a l => simp

theorem str_none (s : ByteArray) (h : s.size = 0) : s = ⟨#[]⟩ := by
  cases s with
  | mk d => congr 1; exact Array.eq_empty_of_size_eq_zero h

theorem data_length (s : ByteArray) : s.data.toList.length = s.size := by cases s; simp [ByteArray.size]

theorem ByteArray.mk_append_one (x : UInt8) (l : List UInt8) : (ByteArray.mk #[x] ++ ByteArray.mk l.toArray) = ByteArray.mk (x :: l).toArray := by
  have := ByteArray.mk_append_mk [x] l
  simpa using this

/-- A slice value reads, in a world, as these numbers. -/
def RdI (w : World) (v : Value) (l : List Int) : Prop :=
  ∃ a cap, v = .slice a l.length cap ∧ l.length ≤ cap ∧ ∀ (i : Nat) (x : Int), l[i]? = some x → (∃ b off, a = some ⟨b, off, none⟩ ∧ b < w.heap.size ∧ w.cell? ⟨b, off + i, none⟩ = some (.int .i64 x)) ∧ -9223372036854775808 ≤ x ∧ x ≤ 9223372036854775807

theorem RdI.below {w w' : World} {v : Value} {l : List Int} (h : RdI w v l) (hb : Below w.heap.size w w') : RdI w' v l := by
  obtain ⟨a, cap, rfl, hc, h⟩ := h
  refine ⟨a, cap, rfl, hc, fun i x hx => ?_⟩
  obtain ⟨⟨b, off, ha, hlt, hcell⟩, hr⟩ := h i x hx
  exact ⟨⟨b, off, ha, Nat.lt_of_lt_of_le hlt hb.size, (hb.cell (p := ⟨b, off + i, none⟩) hlt).trans hcell⟩, hr⟩

/-- the place of an element, for a walk -/
theorem RdI.cell {w : World} {a : Option Addr} {n cap : Nat} {l : List Int} (h : RdI w (.slice a n cap) l) (i : Nat) (hi : i < l.length) :
    ∃ b off, a = some ⟨b, off, none⟩ ∧ b < w.heap.size ∧ w.cell? ⟨b, off + i, none⟩ = some (.int .i64 l[i]) := by
  obtain ⟨a', cap', he, _, h⟩ := h
  cases he
  obtain ⟨⟨b, off, ha, hlt, hcell⟩, _⟩ := h i l[i] (List.getElem?_eq_getElem hi)
  exact ⟨b, off, ha, hlt, hcell⟩

theorem RdI.range {w : World} {v : Value} {l : List Int} (h : RdI w v l) (i : Nat) (hi : i < l.length) : -9223372036854775808 ≤ l[i] ∧ l[i] ≤ 9223372036854775807 := by
  obtain ⟨a', cap', he, _, h⟩ := h
  exact (h i l[i] (List.getElem?_eq_getElem hi)).2

theorem RdI.nil (w : World) : RdI w (.slice none 0 0) [] := ⟨none, 0, rfl, Nat.le_refl _, fun i x hx => by simp at hx⟩

/-- out of a row that the call owns -/
theorem RdI.owned {w : World} {B : Nat} {e : TypeId} {v : Value} {l : List Int} (h : w.ownsRow B e 1 v l.length (l.map (Value.int .i64))) (hr : ∀ x ∈ l, -9223372036854775808 ≤ x ∧ x ≤ 9223372036854775807) : RdI w v l := by
  rcases h.2 with ⟨rfl, hn⟩ | ⟨g, cap, cur, rfl, hg, hh, hcap, hm, hsz, htk⟩
  · have : l = [] := List.length_eq_zero_iff.1 hn
    subst this
    exact RdI.nil w
  · refine ⟨_, cap, rfl, hcap, fun i x hx => ⟨⟨g, 0, rfl, lt_of_block hh, ?_⟩, hr x (List.mem_of_getElem? hx)⟩⟩
    have hi : i < l.length := (List.getElem?_eq_some_iff.1 hx).1
    rw [Nat.zero_add, cell_of_row w g i cur e (0, 0) hh]
    have h1 : (cur.toList.take (l.length * 1))[i]? = some (.int .i64 x) := by rw [htk]; simp [hx]
    rw [List.getElem?_take, if_pos (by omega)] at h1
    simpa using h1

/-- out of a new block of numbers -/
theorem RdI.fresh {w : World} (l : List Int) (t : TypeId) (fr : Nat × Nat) (hr : ∀ x ∈ l, -9223372036854775808 ≤ x ∧ x ≤ 9223372036854775807) :
    RdI (w.alloc (.cells (l.map (Value.int .i64)).toArray t fr)) (.slice (some ⟨w.heap.size, 0, none⟩) l.length l.length) l := by
  refine ⟨_, _, rfl, Nat.le_refl _, fun i x hx => ⟨⟨w.heap.size, 0, rfl, by simp, ?_⟩, hr x (List.mem_of_getElem? hx)⟩⟩
  rw [Nat.zero_add, World.cell?_alloc_mark]
  simp [hx]

end Ks
/- Slices of numbers among a law's arguments: what they read as. No program is in sight. -/
namespace Ks
open Go Go.RowKit Go.ChangeShapes Go.WideShapes Go.ChangeAt
set_option linter.unusedVariables false

theorem add_place (b o i : Nat) : (⟨b, o, none⟩ : Addr).add i = ⟨b, o + i, none⟩ := by
  unfold Addr.add; split <;> simp_all

theorem spot_none {w : World} {a : Addr} {v : Value} (h : w.cell? a = some v) : a.spot = none := by
  unfold World.cell? at h
  split at h
  · cases hs : a.spot with
    | none => rfl
    | some x => simp [hs] at h
  · cases h

theorem rdI_open {H : Type} {enc : TypeId × Value → H} {P : Program} {T E : TypeId} {W : World} {base : Nat} {v : Value} {d : DataW H} {ps : List MemPlace}
    (hT : P.underlying T = some (.slice E)) (hE : P.underlying E = some (.int .i64)) (hc : P.cellsOf E = 1)
    (hok : Value.okWide P W .any base T v) (h : DataW.Trod enc P W 0 (fun _ => true) true T v d ps) : ∃ l : List Int, RdI W v l ∧ l.length ≤ maxLen := by
  obtain ⟨a0, len, cap, rfl⟩ := okWide_slice hT hok
  obtain ⟨fuel, hf⟩ := h
  rcases open_ints hT hE hc hf with ⟨hcs, hx⟩ | ⟨a, len', cap', zs, hcs, _, hl, hm, hz, hx, hcell, hwz⟩
  · simp only [Value.cells, List.cons.injEq, Value.slice.injEq, and_true] at hcs
    obtain ⟨rfl, rfl, rfl⟩ := hcs
    exact ⟨[], RdI.nil W, by simp⟩
  · simp only [Value.cells, List.cons.injEq, Value.slice.injEq, and_true] at hcs
    obtain ⟨rfl, rfl, rfl⟩ := hcs
    simp only [if_true] at hz
    have hlen : (zs.take len).length = len := by rw [List.length_take]; omega
    refine ⟨zs.take len, ⟨some a, cap, by rw [hlen], by omega, fun i x hx => ?_⟩, by rw [hlen]; omega⟩
    have hi : i < len := by have := (List.getElem?_eq_some_iff.1 hx).1; omega
    have hx' : zs[i]? = some x := by rw [List.getElem?_take, if_pos hi] at hx; exact hx
    have hc0 := hcell 0 (by omega)
    have hci := hcell i (by omega)
    have h0 : a.add 0 = a := by unfold Addr.add; simp
    rw [h0] at hc0
    obtain ⟨b, o, s⟩ := a
    have hs := spot_none hc0
    simp only at hs
    subst hs
    rw [add_place] at hci
    have hg : zs.getD i 0 = x := by simp [hx']
    rw [hg] at hci
    exact ⟨⟨b, o, rfl, World.block_lt_of_cell? _ _ hci, hci⟩, i64_range (hwz x (List.mem_of_getElem? hx'))⟩

end Ks
/- Slices of whatever elements of so many cells: what they read as, what a call owns, what is appended. Plain. No program is in sight. -/
namespace Ks
open Go Go.RowKit
set_option linter.unusedVariables false
set_option linter.unusedSimpArgs false

/-- how an element lies: in so many cells -/
structure Enc (α : Type) where
  k : Nat
  enc : α → List Value
  len : ∀ x, (enc x).length = k
  one : ∀ x, ∀ u ∈ enc x, u.oneCell' = true
  pos : 0 < k

namespace Enc
variable {α : Type} (E : Enc α)

def cs (l : List α) : List Value := l.flatMap E.enc
theorem cs_nil : E.cs [] = [] := rfl
theorem cs_cons (x : α) (l : List α) : E.cs (x :: l) = E.enc x ++ E.cs l := by simp [cs]
theorem cs_append (a b : List α) : E.cs (a ++ b) = E.cs a ++ E.cs b := by simp [cs]
theorem cs_length (l : List α) : (E.cs l).length = l.length * E.k := by
  induction l with
  | nil => simp [cs_nil]
  | cons x l ih => rw [cs_cons, List.length_append, ih, E.len, List.length_cons, Nat.add_mul, Nat.one_mul, Nat.add_comm]
theorem cs_get (l : List α) (i : Nat) (x : α) (h : l[i]? = some x) (j : Nat) (hj : j < E.k) : (E.cs l)[i * E.k + j]? = (E.enc x)[j]? := by
  induction l generalizing i with
  | nil => simp at h
  | cons y l ih =>
    rw [cs_cons]
    match i, h with
    | 0, h =>
      simp only [List.getElem?_cons_zero, Option.some.injEq] at h
      subst h
      rw [Nat.zero_mul, Nat.zero_add, List.getElem?_append_left (by rw [E.len]; exact hj)]
    | i + 1, h =>
      rw [List.getElem?_append_right (by rw [E.len, Nat.add_mul]; omega), E.len, show (i + 1) * E.k + j - E.k = i * E.k + j by rw [Nat.add_mul]; omega]
      exact ih i (by simpa using h)
theorem cs_cell (l : List α) (m : Nat) (u : Value) (h : (E.cs l)[m]? = some u) : ∃ i x j, l[i]? = some x ∧ j < E.k ∧ m = i * E.k + j ∧ (E.enc x)[j]? = some u := by
  have hm : m < l.length * E.k := by rw [← cs_length]; exact (List.getElem?_eq_some_iff.1 h).1
  have hi : m / E.k < l.length := Nat.div_lt_of_lt_mul (by rw [Nat.mul_comm]; exact hm)
  have hj : m % E.k < E.k := Nat.mod_lt _ E.pos
  have e : m / E.k * E.k + m % E.k = m := by rw [Nat.mul_comm]; exact Nat.div_add_mod m E.k
  have hg := E.cs_get l (m / E.k) l[m / E.k] (List.getElem?_eq_getElem hi) (m % E.k) hj
  rw [e, h] at hg
  exact ⟨_, _, _, List.getElem?_eq_getElem hi, hj, e.symm, hg.symm⟩
theorem cs_one (l : List α) : ∀ u ∈ E.cs l, u.oneCell' = true := by
  intro u hu
  simp only [cs, List.mem_flatMap] at hu
  obtain ⟨x, _, hx⟩ := hu
  exact E.one x u hx
theorem cs_take (l : List α) (n : Nat) : (E.cs l).take (n * E.k) = E.cs (l.take n) := by
  induction l generalizing n with
  | nil => simp [cs_nil]
  | cons x l ih =>
    cases n with
    | zero => simp [cs_nil]
    | succ n =>
      rw [List.take_succ_cons, cs_cons, cs_cons, List.take_append, List.take_of_length_le (by rw [E.len, Nat.add_mul]; omega), E.len, show (n + 1) * E.k - E.k = n * E.k by rw [Nat.add_mul]; omega, ih]

end Enc

variable {α : Type} {E : Enc α}

/-- a slice value reads as these -/
def Rd (E : Enc α) (w : World) (v : Value) (l : List α) : Prop :=
  ∃ a cap, v = .slice a l.length cap ∧ l.length ≤ cap ∧ (a = none → cap = 0) ∧ ∀ i x, l[i]? = some x →
    ∃ b o, a = some ⟨b, o, none⟩ ∧ b < w.heap.size ∧ ∀ j u, (E.enc x)[j]? = some u → w.cell? ⟨b, o + i * E.k + j, none⟩ = some u
/-- a slice value owns them: the block is its own -/
def Row (E : Enc α) (w : World) (B : Nat) (T : TypeId) (v : Value) (l : List α) : Prop := w.ownsRow B T E.k v l.length (E.cs l)

theorem Rd.keep {w w' : World} {v : Value} {l : List α} (h : Rd E w v l) (hs : w.heap.size ≤ w'.heap.size) (hb : ∀ b, v.ownBlock = some b → w'.heap[b]? = w.heap[b]?) : Rd E w' v l := by
  obtain ⟨a, cap, rfl, hc, hn, h⟩ := h
  refine ⟨a, cap, rfl, hc, hn, fun i x hx => ?_⟩
  obtain ⟨b, o, rfl, hlt, h1⟩ := h i x hx
  exact ⟨b, o, rfl, Nat.lt_of_lt_of_le hlt hs, fun j u hu => (World.cell?_of_block (a := ⟨b, o + i * E.k + j, none⟩) (hb b rfl)).trans (h1 j u hu)⟩
theorem Rd.below {w w' : World} {v : Value} {l : List α} (h : Rd E w v l) (hb : Below w.heap.size w w') : Rd E w' v l := by
  obtain ⟨a, cap, rfl, hc, hn, h⟩ := h
  refine ⟨a, cap, rfl, hc, hn, fun i x hx => ?_⟩
  obtain ⟨b, o, rfl, hlt, h1⟩ := h i x hx
  exact ⟨b, o, rfl, Nat.lt_of_lt_of_le hlt hb.size, fun j u hu => (World.cell?_of_block (a := ⟨b, o + i * E.k + j, none⟩) (hb.block b hlt)).trans (h1 j u hu)⟩
theorem Rd.nil (w : World) : Rd E w (.slice none 0 0) [] := ⟨none, 0, rfl, Nat.le_refl _, fun _ => rfl, fun i x hx => by simp at hx⟩
theorem Rd.shape {w : World} {v : Value} {l : List α} (h : Rd E w v l) : ∃ a cap, v = .slice a l.length cap ∧ l.length ≤ cap ∧ (a = none → cap = 0) := by
  obtain ⟨a, cap, e, hc, hn, _⟩ := h
  exact ⟨a, cap, e, hc, hn⟩
/-- an element's cells -/
theorem Rd.at {w : World} {a : Option Addr} {n c : Nat} {l : List α} (h : Rd E w (.slice a n c) l) (i : Nat) (x : α) (hx : l[i]? = some x) :
    ∃ b o, a = some ⟨b, o, none⟩ ∧ b < w.heap.size ∧ ∀ j u, (E.enc x)[j]? = some u → w.cell? ⟨b, o + i * E.k + j, none⟩ = some u := by
  obtain ⟨a', cap, e, hc, hn, hh⟩ := h
  cases e
  exact hh i x hx
theorem Rd.cells {w : World} {b o n c : Nat} {l : List α} (h : Rd E w (.slice (some ⟨b, o, none⟩) n c) l) : n = l.length ∧ ∀ j u, (E.cs l)[j]? = some u → w.cell? ⟨b, o + j, none⟩ = some u := by
  have hh := h
  obtain ⟨a, cap, e, _⟩ := h
  cases e
  refine ⟨rfl, fun m u hm => ?_⟩
  obtain ⟨i, x, j, hx, hj, rfl, hu⟩ := E.cs_cell l m u hm
  obtain ⟨b', o', e, _, h1⟩ := hh.at i x hx
  cases e
  rw [← Nat.add_assoc]
  exact h1 j u hu
theorem Rd.of_cells {w : World} {b o c : Nat} {l : List α} (hb : b < w.heap.size) (hc : l.length ≤ c) (h : ∀ j u, (E.cs l)[j]? = some u → w.cell? ⟨b, o + j, none⟩ = some u) : Rd E w (.slice (some ⟨b, o, none⟩) l.length c) l := by
  refine ⟨_, c, rfl, hc, fun e => by simp at e, fun i x hx => ⟨b, o, rfl, hb, fun j u hu => ?_⟩⟩
  have hj : j < E.k := by have := (List.getElem?_eq_some_iff.1 hu).1; rwa [E.len] at this
  have := h (i * E.k + j) u (by rw [E.cs_get l i x hx j hj]; exact hu)
  rwa [← Nat.add_assoc] at this
/-- a block known whole -/
theorem Rd.block {w : World} {b : Nat} {l : List α} {T : TypeId} {fr : Nat × Nat} {cs : Array Value} (h : w.heap[b]? = some (.cells cs T fr)) (e : cs.toList = E.cs l) : Rd E w (.slice (some ⟨b, 0, none⟩) l.length l.length) l :=
  Rd.of_cells (lt_of_block h) (Nat.le_refl _) fun j u hj => by
    rw [Nat.zero_add, cell_of_row w b j cs T fr h, ← Array.getElem?_toList, e]
    exact hj

theorem Rd.single {w : World} {b : Nat} (x : α) {T : TypeId} {fr : Nat × Nat} {cs : Array Value} (h : w.heap[b]? = some (.cells cs T fr)) (e : cs.toList = E.enc x) : Rd E w (.slice (some ⟨b, 0, none⟩) 1 1) [x] :=
  Rd.block (l := [x]) h (by rw [e, E.cs_cons, E.cs_nil, List.append_nil])

theorem Row.rd {w : World} {B : Nat} {T : TypeId} {v : Value} {l : List α} (h : Row E w B T v l) : Rd E w v l := by
  rcases h.2 with ⟨rfl, h0⟩ | ⟨g, cap, cur, rfl, hb, hg, hn, hc, hs, ht⟩
  · have : l = [] := List.length_eq_zero_iff.1 h0
    subst this
    exact Rd.nil w
  · refine Rd.of_cells (lt_of_block hg) hn fun j u hj => ?_
    rw [Nat.zero_add, cell_of_row w g j cur T (0, 0) hg]
    rw [← ht, List.getElem?_take] at hj
    split at hj
    · simpa using hj
    · cases hj
theorem Row.nil (w : World) (B : Nat) (T : TypeId) : Row E w B T (.slice none 0 0) [] := World.ownsRow_nil w B T E.k
theorem Row.made (w : World) (B : Nat) (T : TypeId) (h : B ≤ w.heap.size) : Row E (w.alloc (.cells #[] T)) B T (.slice (some ⟨w.heap.size, 0, none⟩) 0 0) [] :=
  World.ownsRow_made w #[] 0 h (Nat.zero_le _) (by simp)
theorem Row.keep {w w' : World} {B : Nat} {T : TypeId} {v : Value} {l : List α} (h : Row E w B T v l) (hb : ∀ b, v.ownBlock = some b → w'.heap[b]? = w.heap[b]?) : Row E w' B T v l := by
  refine ⟨h.1, ?_⟩
  rcases h.2 with h2 | ⟨g, cap, cur, rfl, r1, r2, r3⟩
  · exact Or.inl h2
  · exact Or.inr ⟨g, cap, cur, rfl, r1, (hb g rfl).trans r2, r3⟩
theorem Row.lt {w : World} {B : Nat} {T : TypeId} {v : Value} {l : List α} (h : Row E w B T v l) {b : Nat} (hb : v.ownBlock = some b) : B ≤ b ∧ b < w.heap.size := World.ownsRow.lt h b hb
theorem Row.below {w w' : World} {B : Nat} {T : TypeId} {v : Value} {l : List α} (h : Row E w B T v l) (hb : Below w.heap.size w w') : Row E w' B T v l :=
  h.keep fun b e => hb.block b (h.lt e).2
theorem Row.down {w : World} {B B' : Nat} {T : TypeId} {v : Value} {l : List α} (h : Row E w B T v l) (hB : B' ≤ B) : Row E w B' T v l := by
  refine ⟨h.1, ?_⟩
  rcases h.2 with h2 | ⟨g, cap, cur, r0, r1, r2⟩
  · exact Or.inl h2
  · exact Or.inr ⟨g, cap, cur, r0, Nat.le_trans hB r1, r2⟩
theorem Row.shape {w : World} {B : Nat} {T : TypeId} {v : Value} {l : List α} (h : Row E w B T v l) : ∃ a cap, v = .slice a l.length cap ∧ l.length ≤ cap ∧ (a = none → cap = 0) := h.rd.shape
/-- an own row that has elements -/
theorem Row.pos {w : World} {B : Nat} {T : TypeId} {v : Value} {l : List α} (h : Row E w B T v l) (hl : 0 < l.length) : ∃ g cap, v = .slice (some ⟨g, 0, none⟩) l.length cap ∧ l.length ≤ cap ∧ B ≤ g ∧ g < w.heap.size ∧ cap ≤ maxLen := by
  rcases h.2 with ⟨_, h0⟩ | ⟨g, cap, cur, rfl, hb, hg, hn, hc, _⟩
  · omega
  · exact ⟨g, cap, rfl, hn, hb, lt_of_block hg, hc⟩
/-- the first so many of an own row -/
theorem Row.take {w : World} {B : Nat} {T : TypeId} {g n cap : Nat} {l : List α} (h : Row E w B T (.slice (some ⟨g, 0, none⟩) n cap) l) (k : Nat) (hk : k ≤ l.length) : Row E w B T (.slice (some ⟨g, 0, none⟩) k cap) (l.take k) := by
  have hl : (l.take k).length = k := by rw [List.length_take]; omega
  refine ⟨E.cs_length _, ?_⟩
  rcases h.2 with ⟨e, _⟩ | ⟨g', cap', cur, e, hb, hg, hn, hc, hs, ht⟩
  · cases e
  · cases e
    refine Or.inr ⟨g, cap, cur, by rw [hl], hb, hg, by rw [hl]; omega, hc, hs, ?_⟩
    rw [hl, ← E.cs_take l k, ← ht, List.take_take]
    congr 1
    exact (Nat.min_eq_left (Nat.mul_le_mul_right _ hk)).symm
/-- the cells behind so many -/
theorem Rd.drop {w : World} {b o n cap k : Nat} {l : List α} (h : Rd E w (.slice (some ⟨b, o, none⟩) n cap) l) (hk : k ≤ l.length) (a : Option Addr) (ha : k < l.length → a = some ⟨b, o + k * E.k, none⟩) (ha2 : a ≠ none) (c : Nat) (hc : l.length - k ≤ c) :
    Rd E w (.slice a (l.length - k) c) (l.drop k) := by
  refine ⟨a, c, by rw [List.length_drop], by rw [List.length_drop]; exact hc, fun e => absurd e ha2, fun i x hx => ?_⟩
  rw [List.getElem?_drop] at hx
  have hlt : k + i < l.length := (List.getElem?_eq_some_iff.1 hx).1
  obtain ⟨b', o', e, hb, h1⟩ := h.at (k + i) x hx
  cases e
  refine ⟨b, o + k * E.k, ha (by omega), hb, fun j u hu => ?_⟩
  have := h1 j u hu
  rw [show o + k * E.k + i * E.k + j = o + (k + i) * E.k + j by rw [Nat.add_mul]; omega]
  exact this
theorem Rd.take {w : World} {b o n cap k : Nat} {l : List α} (h : Rd E w (.slice (some ⟨b, o, none⟩) n cap) l) (hk : k ≤ l.length) (c : Nat) (hc : k ≤ c) :
    Rd E w (.slice (some ⟨b, o, none⟩) k c) (l.take k) := by
  have hl : (l.take k).length = k := by rw [List.length_take]; omega
  refine ⟨_, c, by rw [hl], by rw [hl]; exact hc, fun e => by simp at e, fun i x hx => ?_⟩
  have hi : i < k := by have := (List.getElem?_eq_some_iff.1 hx).1; omega
  rw [List.getElem?_take, if_pos hi] at hx
  exact h.at i x hx

theorem run_append_none {P : Program} (w : World) (t ty e : TypeId) (i : TypeInfo) (ht : P.underlying t = some (.slice e)) (hi : P.info? e = some i) (a : Option Addr) (n cap : Nat) (hnc : n ≤ cap) (b : Option Addr) (c2 : Nat) :
    (Builtin.append_ #[t, t] ty #[.slice a n cap, .slice b 0 c2]).run P w = .ok (.slice a n cap) w := by
  cases b with
  | none => cases a <;> simp [Builtin.append_, run_underlying ht, Go.sizeOf, typeInfo, hi, Builtin.lenOf, Builtin.firstCells, hnc, storeCells]
  | some b =>
    have hf := run_firstCells_some (P := P) w i.size 0 b 0 c2 [] (by simp) (by simp)
    cases a <;> simp [Builtin.append_, run_underlying ht, Go.sizeOf, typeInfo, hi, Builtin.lenOf, hf, hnc, storeCells]

/-- an element type's row of the table, for `append` -/
structure ElemT (P : Program) (t e : TypeId) (k bytes : Nat) : Prop where
  under : P.underlying t = some (.slice e)
  info : ∃ i z, P.info? e = some i ∧ i.zero = some z ∧ i.size = k ∧ i.bytes = bytes ∧ z.cells.size = k
theorem elemT_of {P : Program} {t e : TypeId} {k bytes : Nat} {z : Value} (h : P.underlying t = some (.slice e)) (hi : (P.info? e).map (fun i => (i.zero, i.size, i.bytes)) = some (some z, k, bytes)) (hz : z.cells.size = k) : ElemT P t e k bytes := by
  obtain ⟨i, h1, h2, h3, h4⟩ := info_parts hi
  exact ⟨h, i, z, h1, h2, h3, h4, hz⟩

/-- what append makes of an own row -/
def Grew (E : Enc α) (w w' : World) (B : Nat) (e : TypeId) (v v' : Value) (l : List α) : Prop :=
  Row E w' B e v' l ∧ w.grownBy w' v.ownBlock ∧ (v'.ownBlock = v.ownBlock ∨ ∀ b, v'.ownBlock = some b → w.heap.size ≤ b) ∧ (l ≠ [] → v' ≠ .slice none 0 0)

theorem run_append_row {P : Program} {t ty e : TypeId} {bytes : Nat} (T : ElemT P t e E.k bytes) (w : World) (B : Nat)
    (v lv : Value) (L l : List α) (hown : Row E w B e v L) (hl : Rd E w lv l) (hB : B ≤ w.heap.size) (b1 : L.length + l.length ≤ 140000000) (b2 : bytes ≤ 1000) :
    ∃ v' w', (Builtin.append_ #[t, t] ty #[v, lv]).run P w = .ok v' w' ∧ Grew E w w' B e v v' (L ++ l) := by
  obtain ⟨h1, i, z, h2, h3, h4, h5, h6⟩ := T
  have hmax : L.length + l.length ≤ maxLen := by unfold maxLen; omega
  have hby : (L.length + l.length) * bytes ≤ 140737488355328 := by
    have : (L.length + l.length) * bytes ≤ 140000000 * 1000 := Nat.mul_le_mul b1 b2
    omega
  have hne : ∀ {w' : World} {v' : Value}, Row E w' B e v' (L ++ l) → L ++ l ≠ [] → v' ≠ .slice none 0 0 := fun r hn e => by
    obtain ⟨a, cap, e2, _⟩ := r.shape
    rw [e] at e2
    simp only [Value.slice.injEq] at e2
    exact hn (List.length_eq_zero_iff.1 e2.2.1.symm)
  cases l with
  | nil =>
    obtain ⟨a, cap, rfl, hc, _⟩ := hown.shape
    obtain ⟨b, c2, rfl, _⟩ := hl
    have r : Row E w B e (.slice a L.length cap) (L ++ []) := by rw [List.append_nil]; exact hown
    exact ⟨_, w, run_append_none w t ty e i h1 h2 a _ cap hc b c2, r, World.grownBy.refl _ _, Or.inl rfl, hne r⟩
  | cons x l =>
    generalize hm : x :: l = m at *
    have hpos : 0 < m.length := by rw [← hm]; simp
    obtain ⟨a, c2, rfl, _, _⟩ := hl.shape
    obtain ⟨b, o, rfl, _⟩ := hl.at 0 m[0] (List.getElem?_eq_getElem hpos)
    have hsrc : ∀ j u, (E.cs m)[j]? = some u → w.cell? ((⟨b, o, none⟩ : Addr).add j) = some u := fun j u hj => by rw [Addr.add_lit]; exact hl.cells.2 j u hj
    have hlen2 : (L ++ m).length = L.length + m.length := List.length_append
    rcases id hown.2 with ⟨rfl, h0⟩ | ⟨g, cap, cur, rfl, hBg, hgb, hn, hc, hsz, ht⟩
    · obtain rfl : L = [] := List.length_eq_zero_iff.1 h0
      obtain ⟨v', w', hrun, r1, r2, _⟩ := run_append_own (P := P) w w.heap.size t ty e i z E.k bytes h1 h2 h3 h4 h5 h6 E.pos (.slice none 0 0) 0 [] (World.ownsRow_nil w _ e E.k) ⟨b, o, none⟩ m.length c2 (E.cs m) (E.cs_length m) hsrc (E.cs_one m) (by simpa using hmax) (by simpa using hby) (Nat.le_refl _)
      rw [Nat.zero_add, List.nil_append] at r1
      have r : Row E w' B e v' ([] ++ m) := Row.down (B := w.heap.size) r1 hB
      exact ⟨v', w', hrun, r, r2, Or.inr fun b hb => (r1.lt b hb).1, hne r⟩
    · by_cases hfit : L.length + m.length ≤ cap
      · obtain ⟨w', hrun, r1, r2⟩ := run_append_fits (P := P) w B t ty e i E.k h1 h2 h4 g L.length cap (E.cs L) hown ⟨b, o, none⟩ m.length c2 (E.cs m) (E.cs_length m) hsrc (E.cs_one m) hfit
        have r : Row E w' B e (.slice (some ⟨g, 0, none⟩) (L.length + m.length) cap) (L ++ m) := by
          show w'.ownsRow B e E.k _ (L ++ m).length (E.cs (L ++ m))
          rw [hlen2, E.cs_append]
          exact r1
        exact ⟨_, w', hrun, r, r2, Or.inl rfl, hne r⟩
      · obtain ⟨v', w', hrun, r1, r2⟩ := run_append_arg_grows (P := P) w t ty e i z E.k bytes h1 h2 h3 h4 h5 h6 E.pos ⟨g, 0, none⟩ L.length cap (E.cs L) (E.cs_length L) (fun j u hj => (Row.rd hown).cells.2 j u hj |> fun h => by rw [Addr.add_lit]; exact h) ⟨b, o, none⟩ m.length c2 (E.cs m) (E.cs_length m) hsrc (by omega) hmax hby
        have r : Row E w' B e v' (L ++ m) := by
          refine Row.down (B := w.heap.size) ?_ hB
          show w'.ownsRow _ e E.k _ (L ++ m).length (E.cs (L ++ m))
          rw [hlen2, E.cs_append]
          exact r1
        exact ⟨v', w', hrun, r, ⟨r2.os, r2.tape, r2.output, r2.size, fun k hk _ => r2.block k hk (by simp)⟩, Or.inr fun b hb => (r1.lt b hb).1, hne r⟩

/-- `append` at a plain region's list -/
theorem wpList_append_row {P : Program} (w : World) {ops : Array Oper} {rest : List Oper} {o : Oper} {a : Act} {Q : Exit → Act → World → Prop} (hg : o.guard = none) (s x : Operand) (t : TypeId)
    (ho : o.op = .call { callee := .builtin .append, args := #[s, x], argTypes := #[t, t] }) {e : TypeId} {bytes : Nat} (T : ElemT P t e E.k bytes) (B : Nat)
    (v lv : Value) (L l : List α) (hs : a.eval s = v) (hx : a.eval x = lv) (hown : Row E w B e v L) (hl : Rd E w lv l) (hB : B ≤ w.heap.size) (b1 : L.length + l.length ≤ 140000000) (b2 : bytes ≤ 1000)
    (hK : ∀ v' w', Grew E w w' B e v v' (L ++ l) → wpList P ops Q rest (a.put o.dst v') w') : wpList P ops Q (o :: rest) a w := by
  refine wpList_plain hg fun K hK' => ?_
  obtain ⟨v', w', hrun, r⟩ := run_append_row (P := P) (t := t) (ty := o.type) T w B v lv L l hown hl hB b1 b2
  unfold Oper.wp
  simp [execOp, ho, resolve, invoke, builtin, hs, hx, hrun, Result.andThen]
  exact hK' _ _ (hK v' w' r)

/-- `append` at a step of a region that draws its order, by its run -/
theorem step_append_of {P : Program} {ops : Array Oper} {o : Oper} {a : Act} {w : World} {K : Act → World → Prop} {Q : Exit → Act → World → Prop} {F : Prop} (hg : o.guard = none) (s x : Operand) (t : TypeId)
    (hop : o.op = Op.call { callee := Callee.builtin Builtin.append, args := #[s, x], argTypes := #[t, t] }) {v lv v' : Value} {w' : World} (hrun : (Builtin.append_ #[t, t] o.type #[v, lv]).run P w = .ok v' w')
    (hs : a.eval s = v) (hx : a.eval x = lv) (hK : K (a.put o.dst v') w') : if Region.wanted o (yielded ops a.tmps) = true then Oper.wp P o a w K Q else F := by
  have hw : Region.wanted o (yielded ops a.tmps) = true := by simp [Region.wanted, hg]
  rw [if_pos hw]
  unfold Oper.wp
  simp [execOp, hop, resolve, invoke, builtin, hs, hx, hrun, Result.andThen]
  exact hK

/-- `append` at a step of a region that draws its order, by its law -/
theorem step_append_row {P : Program} {ops : Array Oper} {o : Oper} {a : Act} {w : World} {K : Act → World → Prop} {Q : Exit → Act → World → Prop} {F : Prop} (hg : o.guard = none) (s x : Operand) (t : TypeId)
    (hop : o.op = Op.call { callee := Callee.builtin Builtin.append, args := #[s, x], argTypes := #[t, t] }) {e : TypeId} {bytes : Nat} (T : ElemT P t e E.k bytes) (B : Nat)
    (v lv : Value) (L l : List α) (hs : a.eval s = v) (hx : a.eval x = lv) (hown : Row E w B e v L) (hl : Rd E w lv l) (hB : B ≤ w.heap.size) (b1 : L.length + l.length ≤ 140000000) (b2 : bytes ≤ 1000)
    (hK : ∀ v' w', Grew E w w' B e v v' (L ++ l) → K (a.put o.dst v') w') : if Region.wanted o (yielded ops a.tmps) = true then Oper.wp P o a w K Q else F := by
  obtain ⟨v', w', hrun, r⟩ := run_append_row (P := P) (t := t) (ty := o.type) T w B v lv L l hown hl hB b1 b2
  exact step_append_of hg s x t hop hrun hs hx (hK v' w' r)

theorem Grew.below {w w' w0 : World} {B B0 : Nat} {e : TypeId} {v v' : Value} {l : List α} (h : Grew E w w' B e v v' l) (hb : Below B0 w0 w) (hB : B0 ≤ w.heap.size) (hv : ∀ b, v.ownBlock = some b → B0 ≤ b) : Below B0 w0 w' :=
  hb.grown h.2.1 hB hv
theorem Grew.low {w w' : World} {B B0 : Nat} {e : TypeId} {v v' : Value} {l : List α} (h : Grew E w w' B e v v' l) (hB : B0 ≤ w.heap.size) (hv : ∀ b, v.ownBlock = some b → B0 ≤ b) : ∀ b, v'.ownBlock = some b → B0 ≤ b := by
  intro b hb
  rcases h.2.2.1 with e | e
  · exact hv b (e ▸ hb)
  · exact Nat.le_trans hB (e b hb)
theorem Grew.block {w w' : World} {B : Nat} {e : TypeId} {v v' : Value} {l : List α} (h : Grew E w w' B e v v' l) {b : Nat} {o : Obj} (hb : w.heap[b]? = some o) (hv : v.ownBlock ≠ some b) : w'.heap[b]? = some o :=
  (h.2.1.block b (lt_of_block hb) (fun e => hv e.symm)).trans hb
theorem Grew.rd {w w' : World} {B : Nat} {e : TypeId} {v v' : Value} {l : List α} {β : Type} {E' : Enc β} {u : Value} {m : List β} (h : Grew E w w' B e v v' l) (hr : Rd E' w u m) (hv : ∀ b, u.ownBlock = some b → v.ownBlock ≠ some b) : Rd E' w' u m := by
  obtain ⟨a, cap, rfl, hc, hn, hh⟩ := hr
  refine ⟨a, cap, rfl, hc, hn, fun i x hx => ?_⟩
  obtain ⟨b, o, rfl, hlt, h1⟩ := hh i x hx
  have e := h.2.1.block b hlt (fun e => hv b rfl e.symm)
  exact ⟨b, o, rfl, Nat.lt_of_lt_of_le hlt h.2.1.size, fun j u hu => (World.cell?_of_block (a := ⟨b, o + i * E'.k + j, none⟩) e).trans (h1 j u hu)⟩

end Ks
/- A thing that was made, with a row of its own: what stands of it, what a call turns. Plain. No program is in sight. -/
namespace Ks
open Go Go.RowKit
set_option linter.unusedVariables false

variable {α : Type} {E : Enc α}

/-- a thing of two cells: that it was made, and its row -/
structure Held (E : Enc α) (w : World) (TN TL : TypeId) (n : Nat) (v : Value) (l : List α) : Prop where
  blk : w.heap[n]? = some (.cells #[.bool true, v] TN (0, 0))
  own : Row E w 0 TL v l
  ne : v.ownBlock ≠ some n
theorem Held.lt {w : World} {TN TL : TypeId} {n : Nat} {v : Value} {l : List α} (h : Held E w TN TL n v l) : n < w.heap.size := lt_of_block h.blk
theorem Held.keep {w w' : World} {TN TL : TypeId} {n : Nat} {v : Value} {l : List α} (h : Held E w TN TL n v l) (hb : Below w.heap.size w w') : Held E w' TN TL n v l :=
  ⟨(hb.block n h.lt).trans h.blk, h.own.below hb, h.ne⟩
theorem Held.cells {w : World} {TN TL : TypeId} {n : Nat} {v : Value} {l : List α} (h : Held E w TN TL n v l) : w.cell? ⟨n, 0, none⟩ = some (.bool true) ∧ w.cell? ⟨n, 1, none⟩ = some v ∧ w.frozen? ⟨n, 0, none⟩ = false ∧ w.frozen? ⟨n, 1, none⟩ = false :=
  ⟨by rw [cell_of_row w n 0 _ _ _ h.blk]; rfl, by rw [cell_of_row w n 1 _ _ _ h.blk]; rfl, frozen_of_row w n 0 _ _ h.blk, frozen_of_row w n 1 _ _ h.blk⟩
/-- a thing that is none, or that no call made -/
def Dead (w : World) (TN : TypeId) (v : Value) : Prop := v = .pointer none ∨ ∃ n, v = .pointer (some ⟨n, 0, none⟩) ∧ w.heap[n]? = some (.cells #[.bool false, .slice none 0 0] TN (0, 0))
theorem Dead.keep {w w' : World} {TN : TypeId} {v : Value} (h : Dead w TN v) (hb : Below w.heap.size w w') : Dead w' TN v := by
  rcases h with h | ⟨n, rfl, h⟩
  · exact Or.inl h
  · exact Or.inr ⟨n, rfl, (hb.block n (lt_of_block h)).trans h⟩

/-- only the thing and its own row are turned -/
structure Turned (w w' : World) (n : Nat) (v v' : Value) : Prop where
  os : w'.os = w.os
  tape : w'.tape = w.tape
  output : w'.output = w.output
  size : w.heap.size ≤ w'.heap.size
  block : ∀ k, k < w.heap.size → k ≠ n → v.ownBlock ≠ some k → w'.heap[k]? = w.heap[k]?
  own : v'.ownBlock = v.ownBlock ∨ ∀ b, v'.ownBlock = some b → w.heap.size ≤ b
theorem Turned.of_below {w w' : World} {n : Nat} {v : Value} (hb : Below w.heap.size w w') : Turned w w' n v v :=
  ⟨hb.os, hb.tape, hb.output, hb.size, fun k hk _ _ => hb.block k hk, Or.inl rfl⟩
theorem Turned.below {w w' : World} {n B : Nat} {v v' : Value} (h : Turned w w' n v v') (hn : B ≤ n) (hv : ∀ b, v.ownBlock = some b → B ≤ b) (hB : B ≤ w.heap.size) : Below B w w' :=
  ⟨h.os, h.tape, h.output, h.size, fun k hk => h.block k (by omega) (by omega) fun e => by have := hv k e; omega⟩
theorem Turned.after {w w1 w2 : World} {n : Nat} {v v' : Value} (hb : Below w.heap.size w w1) (h : Turned w1 w2 n v v') : Turned w w2 n v v' :=
  ⟨h.os.trans hb.os, h.tape.trans hb.tape, h.output.trans hb.output, Nat.le_trans hb.size h.size, fun k hk h1 h2 => (h.block k (Nat.lt_of_lt_of_le hk hb.size) h1 h2).trans (hb.block k hk),
    h.own.imp id fun h b e => Nat.le_trans hb.size (h b e)⟩
theorem Turned.then {w w1 w2 : World} {n : Nat} {v v' : Value} (h : Turned w w1 n v v') (hb : Below w1.heap.size w1 w2) : Turned w w2 n v v' :=
  ⟨hb.os.trans h.os, hb.tape.trans h.tape, hb.output.trans h.output, Nat.le_trans h.size hb.size, fun k hk h1 h2 => (hb.block k (Nat.lt_of_lt_of_le hk h.size)).trans (h.block k hk h1 h2), h.own⟩
theorem Turned.low {w w' : World} {n B : Nat} {v v' : Value} (h : Turned w w' n v v') (hv : ∀ b, v.ownBlock = some b → B ≤ b) (hB : B ≤ w.heap.size) : ∀ b, v'.ownBlock = some b → B ≤ b := by
  intro b hb
  rcases h.own with e | e
  · exact hv b (e ▸ hb)
  · exact Nat.le_trans hB (e b hb)
theorem set_ne {w : World} {n k o : Nat} (u : Value) (h : k ≠ n) : (w.setCell ⟨n, o, none⟩ u).heap[k]? = w.heap[k]? := Below.heap_setCell _ _ _ _ h
theorem set_one {w : World} {n : Nat} {c0 c1 : Value} {T : TypeId} (u : Value) (h : w.heap[n]? = some (.cells #[c0, c1] T (0, 0))) : (w.setCell ⟨n, 1, none⟩ u).heap[n]? = some (.cells #[c0, u] T (0, 0)) := by
  simp [World.setCell, Array.getElem?_modify, h]
theorem Rd.put {w : World} {v : Value} {l : List α} (h : Rd E w v l) {m o : Nat} (u : Value) (hm : v.ownBlock ≠ some m) : Rd E (w.setCell ⟨m, o, none⟩ u) v l :=
  h.keep (by simp) fun b e => set_ne u fun e2 => hm (by rw [e, e2])
theorem Rd.turned {w w' : World} {n : Nat} {v v' u : Value} {β : Type} {E' : Enc β} {l : List β} (hl : Rd E' w u l) (h : Turned w w' n v v') (h1 : u.ownBlock ≠ some n) (h2 : ∀ b, u.ownBlock = some b → v.ownBlock ≠ some b) : Rd E' w' u l := by
  obtain ⟨a, cap, rfl, hc, hn, hh⟩ := hl
  refine ⟨a, cap, rfl, hc, hn, fun i x hx => ?_⟩
  obtain ⟨b, o, rfl, hlt, hcs⟩ := hh i x hx
  have e := h.block b hlt (fun e => h1 (by simp [Value.ownBlock, e])) (h2 b rfl)
  exact ⟨b, o, rfl, Nat.lt_of_lt_of_le hlt h.size, fun j u hu => (World.cell?_of_block (a := ⟨b, o + i * E'.k + j, none⟩) e).trans (hcs j u hu)⟩
theorem Rd.lt' {w : World} {v : Value} {l : List α} (h : Rd E w v l) (hl : l ≠ []) {b : Nat} (hb : v.ownBlock = some b) : b < w.heap.size := by
  cases l with
  | nil => exact absurd rfl hl
  | cons x l =>
    obtain ⟨a, cap, rfl, _⟩ := h.shape
    obtain ⟨b', o, rfl, hb', _⟩ := h.at 0 x rfl
    simp [Value.ownBlock] at hb
    omega
theorem Rd.empty {w : World} {v : Value} (h : Rd E w v []) (w' : World) : Rd E w' v [] := by
  obtain ⟨a, cap, rfl, h1, h2, _⟩ := h
  exact ⟨a, cap, rfl, h1, h2, fun i x hx => by simp at hx⟩

theorem Row.any {w : World} {B : Nat} {T : TypeId} {v : Value} {l : List α} (h : Row E w B T v l) : ∃ a n cap, v = .slice a n cap := by
  obtain ⟨a, cap, e, _⟩ := h.shape
  exact ⟨a, _, cap, e⟩
/-- the store that ends a call -/
theorem Held.store {w w2 : World} {TN TL : TypeId} {n : Nat} {v v' : Value} {L L' : List α} (h : Held E w TN TL n v L) (hg : Grew E w w2 0 TL v v' L') :
    Held E (w2.setCell ⟨n, 1, none⟩ v') TN TL n v' L' ∧ Turned w (w2.setCell ⟨n, 1, none⟩ v') n v v' := by
  obtain ⟨ho, hg, hor, _⟩ := hg
  have hne : v'.ownBlock ≠ some n := by
    rcases hor with e | e
    · rw [e]; exact h.ne
    · intro e2; have := e n e2; have := h.lt; omega
  have hb2 : w2.heap[n]? = some (.cells #[.bool true, v] TN (0, 0)) := (hg.block n h.lt (fun e => h.ne e.symm)).trans h.blk
  have hs : (w2.setCell ⟨n, 1, none⟩ v').heap.size = w2.heap.size := by simp
  refine ⟨⟨set_one v' hb2, ho.keep fun b e => set_ne v' fun e2 => hne (by rw [e, e2]), hne⟩, ?_⟩
  have hB : Below 0 w2 (w2.setCell ⟨n, 1, none⟩ v') := (Below.refl 0 w2).setCell (Nat.zero_le _) v'
  refine ⟨hB.os.trans hg.os, hB.tape.trans hg.tape, hB.output.trans hg.output, by rw [hs]; exact hg.size, fun k hk h1 h2 => ?_, hor⟩
  rw [set_ne v' h1]
  exact hg.block k hk fun e => h2 e.symm

/-- cells of a block known whole -/
theorem blk1 {w : World} {b : Nat} {c0 : Value} {T : TypeId} (h : w.heap[b]? = some (.cells #[c0] T (0, 0))) : w.cell? ⟨b, 0, none⟩ = some c0 ∧ w.frozen? ⟨b, 0, none⟩ = false :=
  ⟨by rw [cell_of_row w b 0 _ _ _ h]; rfl, frozen_of_row w b 0 _ _ h⟩
theorem blk2 {w : World} {b : Nat} {c0 c1 : Value} {T : TypeId} (h : w.heap[b]? = some (.cells #[c0, c1] T (0, 0))) : w.cell? ⟨b, 0, none⟩ = some c0 ∧ w.cell? ⟨b, 1, none⟩ = some c1 ∧ w.frozen? ⟨b, 0, none⟩ = false ∧ w.frozen? ⟨b, 1, none⟩ = false :=
  ⟨by rw [cell_of_row w b 0 _ _ _ h]; rfl, by rw [cell_of_row w b 1 _ _ _ h]; rfl, frozen_of_row w b 0 _ _ h, frozen_of_row w b 1 _ _ h⟩
theorem blk3 {w : World} {b : Nat} {c0 c1 c2 : Value} {T : TypeId} (h : w.heap[b]? = some (.cells #[c0, c1, c2] T (0, 0))) : w.cell? ⟨b, 0, none⟩ = some c0 ∧ w.cell? ⟨b, 1, none⟩ = some c1 ∧ w.cell? ⟨b, 2, none⟩ = some c2 ∧ w.frozen? ⟨b, 0, none⟩ = false ∧ w.frozen? ⟨b, 1, none⟩ = false ∧ w.frozen? ⟨b, 2, none⟩ = false :=
  ⟨by rw [cell_of_row w b 0 _ _ _ h]; rfl, by rw [cell_of_row w b 1 _ _ _ h]; rfl, by rw [cell_of_row w b 2 _ _ _ h]; rfl, frozen_of_row w b 0 _ _ h, frozen_of_row w b 1 _ _ h, frozen_of_row w b 2 _ _ h⟩
theorem alloc_new (w : World) (o : Obj) : (w.alloc o).heap[w.heap.size]? = some o := heap_alloc_new w o
theorem alloc_below (w : World) (o : Obj) : Below w.heap.size w (w.alloc o) := (Below.refl _ _).alloc (Nat.le_refl _) _
theorem drew_below (w : World) : Below w.heap.size w w.drew := (Below.refl _ _).drew
end Ks
/- Texts in a slice. Plain. No program is in sight. -/
namespace Ks
open Go Go.RowKit
set_option linter.unusedVariables false
def strE : Enc ByteArray := ⟨1, fun s => [.string s], fun _ => rfl, fun x u hu => by simp only [List.mem_singleton] at hu; subst hu; rfl, by decide⟩
theorem Rd.str {w : World} {a : Option Addr} {n c : Nat} {l : List ByteArray} (h : Rd strE w (.slice a n c) l) (i : Nat) (hi : i < l.length) : ∃ b o, a = some ⟨b, o, none⟩ ∧ b < w.heap.size ∧ w.cell? ⟨b, o + i, none⟩ = some (.string l[i]) := by
  obtain ⟨b, o, h1, h2, h3⟩ := h.at i l[i] (List.getElem?_eq_getElem hi)
  refine ⟨b, o, h1, h2, ?_⟩
  have := h3 0 (.string l[i]) rfl
  simpa [strE] using this
/-- texts, one behind the other -/
def joinL (l : List ByteArray) : List UInt8 := l.flatMap fun s => s.data.toList
theorem joinL_take (l : List ByteArray) (k : Nat) (h : k < l.length) : joinL (l.take (k + 1)) = joinL (l.take k) ++ l[k].data.toList := by
  rw [joinL, List.take_succ_eq_append_getElem h, List.flatMap_append]; simp [joinL]
theorem joinL_append (a b : List ByteArray) : joinL (a ++ b) = joinL a ++ joinL b := by simp [joinL]
theorem joinL_le (l : List ByteArray) (k : Nat) : (joinL (l.take k)).length ≤ (joinL l).length := by
  have : joinL l = joinL (l.take k) ++ joinL (l.drop k) := by rw [← joinL_append, List.take_append_drop]
  rw [this, List.length_append]; omega
end Ks
/- Plain facts about bytes and numbers; no program is in sight. -/
namespace Ks
open Go

/-- a number's bytes, so many, the highest first -/
def putL : Nat → Nat → List UInt8
  | 0, _ => []
  | k + 1, n => putL k (n / 256) ++ [UInt8.ofNat n]

@[simp] theorem putL_length (k n : Nat) : (putL k n).length = k := by
  induction k generalizing n with
  | zero => rfl
  | succ k ih => simp [putL, ih]

theorem putL_get (k n i : Nat) (h : i < k) : (putL k n)[i]? = some (UInt8.ofNat (n / 256 ^ (k - 1 - i))) := by
  induction k generalizing n i with
  | zero => omega
  | succ k ih =>
    simp only [putL]
    by_cases hi : i < k
    · rw [List.getElem?_append_left (by simpa using hi), ih _ _ hi, Nat.div_div_eq_div_mul, show k + 1 - 1 - i = (k - 1 - i) + 1 by omega, Nat.pow_succ']
    · have : i = k := by omega
      subst this
      rw [List.getElem?_append_right (by simp)]
      simp

theorem ofNat_mod (n : Nat) : UInt8.ofNat (n % 256) = UInt8.ofNat n := by
  apply UInt8.toNat.inj; simp

/-- one byte more ahead -/
theorem putL_succ' (k n : Nat) : putL (k + 1) n = UInt8.ofNat (n / 256 ^ k) :: putL k n := by
  apply List.ext_getElem?
  intro i
  match i with
  | 0 => rw [putL_get _ _ _ (by omega)]; simp
  | i + 1 =>
    simp only [List.getElem?_cons_succ]
    by_cases h : i < k
    · rw [putL_get _ _ _ (by omega), putL_get _ _ _ h, show k + 1 - 1 - (i + 1) = k - 1 - i by omega]
    · rw [List.getElem?_eq_none (by simp; omega), List.getElem?_eq_none (by simp; omega)]

/-- the cells that hold a number's bytes when k of them are laid, from the last one on -/
def putCell (n width k : Nat) (j : Nat) : Value :=
  if width - 1 - j < k then Value.int .u8 (((n / 2 ^ (8 * (width - 1 - j)) : Nat) : Int) % 256) else Value.int .u8 0

theorem putCell_done (n width j : Nat) (h : j < (putL width n).length) : putCell n width width j = .int .u8 (((putL width n)[j]).toNat : Int) := by
  have h' : j < width := by simpa using h
  have := putL_get width n j h'
  rw [List.getElem?_eq_getElem h] at this
  injection this with this
  rw [this, putCell, if_pos (by omega)]
  rw [show (256 : Nat) ^ (width - 1 - j) = 2 ^ (8 * (width - 1 - j)) by rw [Nat.pow_mul]]
  simp

theorem putCell_succ (n width k j : Nat) (hk : k < width) (hj : j < width) :
    (if j = width - 1 - k then Value.int .u8 ((n : Int) / 2 ^ (8 * k) % 256) else putCell n width k j) = putCell n width (k + 1) j := by
  unfold putCell
  by_cases h : j = width - 1 - k
  · subst h
    rw [if_pos rfl, if_pos (by omega), show width - 1 - (width - 1 - k) = k by omega]
    simp
  · rw [if_neg h]
    by_cases h2 : width - 1 - j < k
    · rw [if_pos h2, if_pos (by omega)]
    · rw [if_neg h2, if_neg (by omega)]

/-- may a number stand in so many bytes? -/
def putOk (n width : Int) : Bool := decide (1 ≤ width ∧ width ≤ 8 ∧ 0 ≤ n ∧ (width < 8 → n.toNat / 2 ^ (8 * width.toNat) = 0))
def putS (n width : Int) : ByteArray := if putOk n width then ⟨(putL width.toNat n.toNat).toArray⟩ else ⟨#[]⟩
def putE (n width : Int) : Int := if putOk n width then 0 else 2

/-- the number of bytes -/
def getN (l : List UInt8) : Nat := l.foldl (fun n b => n * 256 + b.toNat) 0

theorem getN_snoc (l : List UInt8) (b : UInt8) : getN (l ++ [b]) = getN l * 256 + b.toNat := by simp [getN]

theorem getN_foldl (l : List UInt8) (a : Nat) : l.foldl (fun n b => n * 256 + b.toNat) a = a * 256 ^ l.length + getN l := by
  induction l generalizing a with
  | nil => simp [getN]
  | cons b l ih =>
    simp only [List.foldl_cons, getN, List.length_cons]
    rw [ih, ih (0 * 256 + b.toNat), Nat.pow_succ', Nat.add_mul, Nat.add_mul]
    simp [Nat.mul_assoc, Nat.add_assoc]

theorem getN_cons (b : UInt8) (l : List UInt8) : getN (b :: l) = b.toNat * 256 ^ l.length + getN l := by
  have := getN_foldl l (0 * 256 + b.toNat)
  simpa [getN] using this

theorem getN_append (a b : List UInt8) : getN (a ++ b) = getN a * 256 ^ b.length + getN b := by
  rw [getN, List.foldl_append]; exact getN_foldl b _

theorem getN_lt (l : List UInt8) : getN l < 256 ^ l.length := by
  induction l with
  | nil => simp [getN]
  | cons b l ih =>
    rw [getN_cons, List.length_cons, Nat.pow_succ]
    have := b.toNat_lt
    have h2 : b.toNat * 256 ^ l.length ≤ 255 * 256 ^ l.length := Nat.mul_le_mul_right _ (by omega)
    omega

theorem getN_take_le (l : List UInt8) (k : Nat) : getN (l.take k) ≤ getN l := by
  have := getN_append (l.take k) (l.drop k)
  rw [List.take_append_drop] at this
  rw [this]
  have : 1 ≤ 256 ^ (l.drop k).length := Nat.one_le_pow _ _ (by omega)
  have := Nat.mul_le_mul_left (getN (l.take k)) this
  omega

theorem take_snoc (s : ByteArray) (k : Nat) (h : k < s.size) : s.data.toList.take (k + 1) = s.data.toList.take k ++ [s[k]] := by
  rw [List.take_succ_eq_append_getElem (by simpa using h)]; rfl

/-- is there a number of these bytes? -/
def getOk (l : List UInt8) : Bool := decide (1 ≤ l.length ∧ l.length ≤ 8 ∧ getN l ≤ 9223372036854775807)
def getV (s : ByteArray) : Int := if getOk s.data.toList then getN s.data.toList else 0
def getE (s : ByteArray) : Int := if getOk s.data.toList then 0 else 3

theorem getN_head (s : ByteArray) (h : s.size = 8) : getN s.data.toList ≤ 9223372036854775807 ↔ ¬ 127 < (s[0]'(by omega)).toNat := by
  obtain ⟨⟨l⟩⟩ := s
  have hl : l.length = 8 := h
  show getN l ≤ _ ↔ ¬ 127 < (l[0]'(by omega)).toNat
  match l, hl with
  | b :: l, hl =>
    simp only [List.getElem_cons_zero]
    rw [getN_cons]
    have := getN_lt l
    have hl7 : l.length = 7 := by simpa using hl
    rw [hl7] at this ⊢
    have h7 : (256 : Nat) ^ 7 = 72057594037927936 := by decide
    rw [h7] at this ⊢
    omega

theorem or8 (m b : Nat) (hm : m * 256 + b ≤ 9223372036854775807) (hb : b < 256) : bits .or .i64 ((m : Int) * 256) (b : Int) = (m : Int) * 256 + b :=
  bits_join .i64 63 (by decide) (fun n h0 h1 => by rw [IntKind.wrap_i64]; omega) 8 _ _ (by omega) (by omega) (by omega) (by omega) (by omega) (by omega)

/-- numbers' bytes, one behind the other: of the first k -/
def packTo (ws l : List Int) : Nat → List UInt8
  | 0 => []
  | k + 1 => packTo ws l k ++ putL (ws.getD k 0).toNat (l.getD k 0).toNat
def packOk (ws l : List Int) : Bool := decide (ws.length = l.length ∧ ∀ i, i < l.length → putOk (l.getD i 0) (ws.getD i 0) = true)
def packS (ws l : List Int) : ByteArray := if packOk ws l then ⟨(packTo ws l l.length).toArray⟩ else ⟨#[]⟩
def packE (ws l : List Int) : Int := if packOk ws l then 0 else 2

theorem putOk_width {n w : Int} (h : putOk n w = true) : 1 ≤ w ∧ w ≤ 8 ∧ 0 ≤ n := by
  simp only [putOk, decide_eq_true_eq] at h; omega

theorem packTo_length (ws l : List Int) (k : Nat) (h : ∀ i, i < k → putOk (l.getD i 0) (ws.getD i 0) = true) : (packTo ws l k).length ≤ 8 * k := by
  induction k with
  | zero => simp [packTo]
  | succ k ih =>
    have := putOk_width (h k (by omega))
    have := ih (fun i hi => h i (by omega))
    simp only [packTo, List.length_append, putL_length]
    omega

theorem strCells_mk (l : List UInt8) : Lib.strCells ⟨l.toArray⟩ = Lib.byteCells l := rfl
theorem byteCells_append (a b : List UInt8) : Lib.byteCells (a ++ b) = Lib.byteCells a ++ Lib.byteCells b := by simp [Lib.byteCells]
theorem byteCells_length (a : List UInt8) : (Lib.byteCells a).length = a.length := by simp [Lib.byteCells]

theorem get_cases (s : ByteArray) : (getOk s.data.toList = true ∧ 0 < s.size ∧ (s.size < 8 ∨ ∃ h : s.size = 8, ¬ 127 < (s[0]'(by omega)).toNat) ∧ getN s.data.toList ≤ 9223372036854775807) ∨
    (getOk s.data.toList = false ∧ (s.size = 0 ∨ 8 < s.size ∨ ∃ h : s.size = 8, 127 < (s[0]'(by omega)).toNat)) := by
  have hl := data_length s
  by_cases h : getOk s.data.toList = true
  · refine .inl ⟨h, ?_⟩
    simp only [getOk, decide_eq_true_eq, hl] at h
    refine ⟨by omega, ?_, h.2.2⟩
    by_cases h8 : s.size = 8
    · exact .inr ⟨h8, (getN_head s h8).1 h.2.2⟩
    · exact .inl (by omega)
  · refine .inr ⟨by simpa using h, ?_⟩
    simp only [getOk, decide_eq_true_eq, hl] at h
    by_cases h0 : s.size = 0
    · exact .inl h0
    by_cases h8 : 8 < s.size
    · exact .inr (.inl h8)
    have hn : ¬ getN s.data.toList ≤ 9223372036854775807 := fun hh => h ⟨by omega, by omega, hh⟩
    by_cases h9 : s.size = 8
    · refine .inr (.inr ⟨h9, ?_⟩)
      have := mt (getN_head s h9).2 hn
      omega
    · exfalso
      have h1 := getN_lt s.data.toList
      have h2 : 256 ^ s.data.toList.length ≤ 256 ^ 7 := Nat.pow_le_pow_right (by omega) (by omega)
      have h7 : (256 : Nat) ^ 7 = 72057594037927936 := by decide
      omega

end Ks
/- Records, and which may be. Plain. No program is in sight. -/
namespace Ks
open Go Go.RowKit
set_option linter.unusedVariables false
/-- a record -/
structure RecT where
  kind : Int
  epoch : Int
  time : Int
  count : Int
  target : Int
  till : Int
  root : ByteArray
  name : ByteArray
deriving DecidableEq
abbrev recC (r : RecT) : Array Value := #[.int .i64 r.kind, .int .i64 r.epoch, .int .i64 r.time, .int .i64 r.count, .int .i64 r.target, .int .i64 r.till, .string r.root, .string r.name]
abbrev recV (r : RecT) : Value := .agg (recC r)
def noRec : RecT := ⟨0, 0, 0, 0, 0, 0, ⟨#[]⟩, ⟨#[]⟩⟩
def recE : Enc RecT := ⟨8, fun r => [.int .i64 r.kind, .int .i64 r.epoch, .int .i64 r.time, .int .i64 r.count, .int .i64 r.target, .int .i64 r.till, .string r.root, .string r.name], fun _ => rfl, fun x u hu => by simp only [List.mem_cons, List.not_mem_nil, or_false] at hu; rcases hu with rfl | rfl | rfl | rfl | rfl | rfl | rfl | rfl <;> rfl, by decide⟩
def withB (n m : Int) : Bool := decide (0 ≤ n ∧ n ≤ m)
def okB (b : UInt8) : Bool := decide ((97 ≤ b.toNat ∧ b.toNat ≤ 122) ∨ (48 ≤ b.toNat ∧ b.toNat ≤ 57))
def nameB (s : ByteArray) : Bool := s.data.toList.all okB && decide (s ≠ ⟨#[]⟩) && decide (s.size ≤ 16)
/-- what of a record its kind does not say -/
def restX (r : RecT) : RecT :=
  if r.kind = 1 then ⟨0, 0, 0, 0, r.target, r.till, ⟨#[]⟩, r.name⟩
  else if r.kind = 2 ∨ r.kind = 5 then ⟨0, 0, 0, r.count, 0, 0, r.root, r.name⟩
  else if r.kind = 3 then ⟨0, 0, 0, r.count, 0, r.till, r.root, ⟨#[]⟩⟩
  else if r.kind = 4 then ⟨0, 0, 0, r.count, r.target, r.till, r.root, ⟨#[]⟩⟩
  else ⟨0, 0, 0, r.count, r.target, r.till, r.root, r.name⟩
/-- may what it says be? -/
def restB (r : RecT) : Bool :=
  if r.kind = 1 then withB r.count 4096 && decide (r.root.size = 32)
  else if r.kind = 2 ∨ r.kind = 5 then withB r.till 1099511627776 && withB r.target (wrap64 (r.epoch - 1))
  else if r.kind = 3 then withB r.target (wrap64 (r.epoch - 1)) && nameB r.name
  else if r.kind = 4 then nameB r.name
  else false
def chkB (r : RecT) : Bool := restB r && decide (restX r = noRec) && withB r.epoch 4294967295 && withB r.time 1099511627776
theorem data_at (s : ByteArray) (k : Nat) (h : k < s.size) : s.data.toList[k]? = some s[k] := by
  rw [List.getElem?_eq_getElem (by rw [data_length]; exact h)]; rfl
theorem all_take {s : ByteArray} (k : Nat) (h : k < s.size) (p : UInt8 → Bool) : (s.data.toList.take (k + 1)).all p = ((s.data.toList.take k).all p && p s[k]) := by
  rw [List.take_add_one, data_at s k h]
  simp
theorem all_stop {s : ByteArray} (k : Nat) (h : k < s.size) (p : UInt8 → Bool) (hp : p s[k] = false) : s.data.toList.all p = false := by
  rw [List.all_eq_false]
  exact ⟨s[k], List.mem_of_getElem? (data_at s k h), by rw [hp]; decide⟩
end Ks
/- Whole arrays out of and into their blocks, by law: no program is in sight. -/
namespace Ks
open Go Go.RowKit
set_option linter.unusedVariables false
/-- numbers, as an array's cells -/
def u32s (l : List Nat) : Array Value := (l.map fun (n : Nat) => Value.int .u32 (n : Int)).toArray
def i64s (l : List Nat) : Array Value := (l.map fun (n : Nat) => Value.int .i64 (n : Int)).toArray
@[simp] theorem u32s_size (l : List Nat) : (u32s l).size = l.length := by simp [u32s]
@[simp] theorem i64s_size (l : List Nat) : (i64s l).size = l.length := by simp [i64s]
theorem u32s_one (l : List Nat) : (u32s l).all (·.oneCell') = true := by simp [u32s]; intro a _; rfl
theorem i64s_one (l : List Nat) : (i64s l).all (·.oneCell') = true := by simp [i64s]; intro a _; rfl
theorem u32s_set (l : List Nat) (i x : Nat) : (u32s l).setIfInBounds i (.int .u32 (x : Int)) = u32s (l.set i x) := by simp [u32s, List.map_set]
theorem i64s_set (l : List Nat) (i x : Nat) : (i64s l).setIfInBounds i (.int .i64 (x : Int)) = i64s (l.set i x) := by simp [i64s, List.map_set]
theorem u32s_get (l : List Nat) (i : Nat) (h : i < l.length) : (u32s l)[i]? = some (.int .u32 ((l.getD i 0 : Nat) : Int)) := by simp [u32s, h]
theorem i64s_get (l : List Nat) (i : Nat) (h : i < l.length) : (i64s l)[i]? = some (.int .i64 ((l.getD i 0 : Nat) : Int)) := by simp [i64s, h]

theorem blk_keep {w : World} {b : Nat} {o : Obj} (h : w.heap[b]? = some o) (o' : Obj) : (w.alloc o').heap[b]? = some o :=
  ((alloc_below w o').block b (Array.getElem?_eq_some_iff.1 h).1).trans h
theorem alloc_new2 (w : World) (o o' : Obj) : ((w.alloc o).alloc o').heap[w.heap.size + 1]? = some o' := by
  rw [← World.size_alloc (w := w) (o := o)]; exact alloc_new _ _
theorem code_cut {P : Program} {c : Code} {Q : Exit → Act → World → Prop} {a : Act} {w : World} (F : World → Prop) (hF : F w) (h : ∀ w', F w' → c.wp P Q a w') : c.wp P Q a w := h w hF
variable {P : Program}
theorem results_one {fn : Func} {p : Tmp} {ty : TypeId} (h : fn.results = #[.cell p ty]) {tmps : Array Value} {w : World} {a : Addr} {v : Value}
    (hp : tmps.getD p undef = .pointer (some a)) (hl : (loadVar ty a).run P w = .ok v w) : (results fn tmps).run P w = .ok v w := by
  simp only [results, h]
  simp only [Array.mapM_eq_mapM_toList, List.mapM_cons, List.mapM_nil, hp]
  simp [asAddr, hl]
/-- a result that lies in a variable of its own: an array's cells, known whole -/
theorem ret_arr {fn : Func} {R : Ending → World → Prop} {a : Act} {w : World} {p : Tmp} {ty t e : TypeId} {n b N : Nat} {C : Array Value} (h : fn.results = #[.cell p ty])
    (hp : a.tmps.getD p undef = .pointer (some ⟨b, 0, none⟩)) (hb : w.heap[b]? = some (.cells C t (0, 0))) (hu : P.underlying ty = some (.array n e)) (hi : (P.info? ty).map (·.size) = some N) (hn : C.size = N)
    (hd : a.defers = []) (hR : R (.returned (.agg C)) w) : bodyPost P fn R .ret a w :=
  bodyPost_ret (results_one h hp (run_loadVar_row _ _ t ty C (0, 0) _ hb hu rfl (by rw [hi, hn]))) hd hR

theorem wp_storeA {op : Oper} {a : Act} {w : World} {K : Act → World → Prop} {Q : Exit → Act → World → Prop} (ty : TypeId) (x y : Operand) (ho : op.op = .store ty x y)
    (b : Nat) (t : TypeId) (old C : Array Value) (N : Nat) (hx : a.eval x = .pointer (some ⟨b, 0, none⟩)) (hy : a.eval y = .agg C) (hb : w.heap[b]? = some (.cells old t (0, 0)))
    (hi : (P.info? ty).map (·.size) = some N) (hn : C.size = N) (hs : old.size = N) (h1 : C.all (·.oneCell') = true)
    (h : K (a.put op.dst undef) (w.setRow b C)) : op.wp P a w K Q := by
  unfold Oper.wp execOp
  simp only [ho, hx, hy, Instr.storeAt, Instr.sureAddr, Sem.run_bind, Sem.run_pure, Result.andThen_ok, run_storeVar_row w b t ty old C hb (by rw [hi, hn]) (by rw [hs, hn]) h1]
  exact h
theorem wpList_storeA {ops : Array Oper} {rest : List Oper} {op : Oper} {a : Act} {w : World} {Q : Exit → Act → World → Prop} (hgd : op.guard = none) (ty : TypeId) (x y : Operand) (ho : op.op = .store ty x y)
    (b : Nat) (t : TypeId) (old C : Array Value) (N : Nat) (hx : a.eval x = .pointer (some ⟨b, 0, none⟩)) (hy : a.eval y = .agg C) (hb : w.heap[b]? = some (.cells old t (0, 0)))
    (hi : (P.info? ty).map (·.size) = some N) (hn : C.size = N) (hs : old.size = N) (h1 : C.all (·.oneCell') = true)
    (h : wpList P ops Q rest (a.put op.dst undef) (w.setRow b C)) : wpList P ops Q (op :: rest) a w :=
  wpList_plain hgd fun _ hK => wp_storeA ty x y ho b t old C N hx hy hb hi hn hs h1 (hK _ _ h)
/-- into the block that was made last -/
theorem wpList_storeN {ops : Array Oper} {rest : List Oper} {op : Oper} {a : Act} {w : World} {Q : Exit → Act → World → Prop} (hgd : op.guard = none) (ty : TypeId) (x y : Operand) (ho : op.op = .store ty x y)
    (t : TypeId) (old C : Array Value) (N : Nat) (hx : a.eval x = .pointer (some ⟨w.heap.size, 0, none⟩)) (hy : a.eval y = .agg C)
    (hi : (P.info? ty).map (·.size) = some N) (hn : C.size = N) (hs : old.size = N) (h1 : C.all (·.oneCell') = true)
    (h : wpList P ops Q rest (a.put op.dst undef) (w.alloc (.cells C t))) : wpList P ops Q (op :: rest) a (w.alloc (.cells old t)) :=
  wpList_storeA hgd ty x y ho _ t old C N hx hy (alloc_new _ _) hi hn hs h1 (by rw [World.setRow_alloc_new]; exact h)
theorem wp_loadA {op : Oper} {a : Act} {w : World} {K : Act → World → Prop} {Q : Exit → Act → World → Prop} (ty : TypeId) (x : Operand) (ho : op.op = .load ty x)
    (b : Nat) (t e : TypeId) (C : Array Value) (n N : Nat) (hx : a.eval x = .pointer (some ⟨b, 0, none⟩)) (hb : w.heap[b]? = some (.cells C t (0, 0))) (hu : P.underlying ty = some (.array n e))
    (hi : (P.info? ty).map (·.size) = some N) (hn : C.size = N) (h : K (a.put op.dst (.agg C)) w) : op.wp P a w K Q := by
  unfold Oper.wp execOp
  simp only [ho, hx, Instr.loadAt, Instr.sureAddr, Sem.run_bind, Sem.run_pure, Result.andThen_ok, run_loadVar_row w b t ty C (0, 0) _ hb hu rfl (by rw [hi, hn])]
  exact h
theorem wpList_loadA {ops : Array Oper} {rest : List Oper} {op : Oper} {a : Act} {w : World} {Q : Exit → Act → World → Prop} (hgd : op.guard = none) (ty : TypeId) (x : Operand) (ho : op.op = .load ty x)
    (b : Nat) (t e : TypeId) (C : Array Value) (n N : Nat) (hx : a.eval x = .pointer (some ⟨b, 0, none⟩)) (hb : w.heap[b]? = some (.cells C t (0, 0))) (hu : P.underlying ty = some (.array n e))
    (hi : (P.info? ty).map (·.size) = some N) (hn : C.size = N) (h : wpList P ops Q rest (a.put op.dst (.agg C)) w) : wpList P ops Q (op :: rest) a w :=
  wpList_plain hgd fun _ hK => wp_loadA ty x ho b t e C n N hx hb hu hi hn (hK _ _ h)
end Ks
/- A region that draws its order, whose operations read and whose callees make memory but turn none that was there: walked once, in the order of the text. (Over the library's theorem on quiet regions.) -/
namespace Ks
open Go Go.RowKit

/-- a world behind another one: so many draws, such blocks more -/
def After (w : World) (p : Regrown) : World := Sort.grow (redrawn w p.d) p.os

theorem after_below (w : World) (p : Regrown) : Below w.heap.size w (After w p) := below_regrown w p.d p.os
theorem after_of {w w' : World} (h : Below w.heap.size w w') : ∃ p, w' = After w p := regrown_of_below h
theorem after_cell {w : World} {a : Addr} {v : Value} (h : w.cell? a = some v) (p : Regrown) : (After w p).cell? a = some v := cell_regrown h p.d p.os
theorem wp_region_after {P : Program} {id : Nat} {Q : Exit → Act → World → Prop} {a : Act} {w : World} {l : List Oper} (hm : P.follows .mixedOrders = true) (hB : Region.lexB .any l.toArray = true)
    (h : wpQuiet P l.toArray (fun w' => ∃ p : Regrown, w' = After w p) (fun a' => ∀ w', (∃ p : Regrown, w' = After w p) → Q .normal a' w') l a) : (Code.region id l.toArray true).wp P Q a w :=
  wp_region_quiet_below hm hB h
theorem calls_after {P : Program} {f : FuncId} {args : Array Value} {w : World} {p : Regrown} {v : Value}
    (h : Calls P f args (After w p) fun e w' => e = .returned v ∧ Below (After w p).heap.size (After w p) w') : Calls P f args (After w p) fun e w'' => e = .returned v ∧ ∃ p : Regrown, w'' = After w p :=
  Calls.regrown_of h
theorem calls_after_same {P : Program} {f : FuncId} {args : Array Value} {w : World} {p : Regrown} {v : Value}
    (h : Calls P f args (After w p) fun e w' => e = .returned v ∧ After w p = w') : Calls P f args (After w p) fun e w'' => e = .returned v ∧ ∃ p : Regrown, w'' = After w p :=
  h.mono fun _ _ ⟨he, hw⟩ => ⟨he, p, hw.symm⟩
theorem after_frozen {w : World} {a : Addr} (h : a.block < w.heap.size) (p : Regrown) : (After w p).frozen? a = w.frozen? a := (after_below w p).frozen h

theorem RdI.after {w : World} {v : Value} {l : List Int} (h : RdI w v l) (p : Regrown) : RdI (After w p) v l := h.below (after_below w p)

end Ks
/- A region that draws its order: reads and callees that turn nothing of what was there, ahead of a tail whose order is forced (a store of what was called): walked once. Plain. No program is in sight. -/
namespace Ks
open Go Go.RowKit
set_option linter.unusedVariables false

section
variable {P : Program} {ops : Array Oper} {md : Region.Mode} {C : World → Prop}

/-- the head of the region, in whatever order; behind it L -/
def headQ (P : Program) (md : Region.Mode) (ops : Array Oper) (C : World → Prop) (n : Nat) (L : Array Bool → Act → Prop) : Nat → Array Bool → Act → Prop
  | 0, listed, a => L listed a
  | f + 1, listed, a => Region.ready md ops listed ≠ [] ∧ ∀ i ∈ Region.ready md ops listed, i < n ∧ qOp P ops C i (headQ P md ops C n L f (listed.setIfInBounds i true)) a

theorem any_of_headQ {n g : Nat} {L : Array Bool → Act → Prop} {Q' : Exit → Act → World → Prop} (hL : ∀ listed a w, C w → L listed a → wpAny P md ops Q' g listed a w) :
    ∀ (f : Nat) (listed : Array Bool) (a : Act) (w : World), C w → headQ P md ops C n L f listed a → wpAny P md ops Q' (f + g) listed a w := by
  intro f
  induction f with
  | zero => intro listed a w hw h; rw [Nat.zero_add]; exact hL _ _ _ hw h
  | succ f ih =>
    intro listed a w hw h
    rw [show f + 1 + g = (f + g) + 1 by omega]
    exact ⟨fun e => absurd e h.1, fun i hi => wpOp_of_qOp hw (fun a' w' hw' hh => ih _ a' w' hw' hh) (h.2 i hi).2⟩

/-- an operation of the head that may come up now, and is apart from all others that may, is taken first -/
theorem headQ_first {n i : Nat} {oi : Oper} {v : Value} {L : Array Bool → Act → Prop} (hi : ops[i]? = some oi) (hsel : ∀ (j : Nat) (o : Oper) cs b, ops[j]? = some o → o.op ≠ .select cs b)
    (hs : Region.sinkB md ops n = true) (hc : Region.chainB md ops n = true) (hn : n < ops.size) (hin : i < n)
    (hdone : ∀ listed a, L listed a → ∀ j ∈ Region.ready md ops listed, n ≤ j) (f : Nat) :
    ∀ (listed : Array Bool) (a : Act), HeadInv md ops n listed →
      (∀ j oj, ops[j]? = some oj → j ≠ i → listed.getD j true = false → (∀ e ∈ oj.after, Region.binds md e = true → e.on ≠ i) → oi.apart ops oj = true) →
      i ∈ Region.ready md ops listed → YieldsIn P ops C oi v a →
      headQ P md ops C n L f (listed.setIfInBounds i true) (a.put oi.dst v) → headQ P md ops C n L (f + 1) listed a := by
  induction f with
  | zero =>
    intro listed a inv hfree hr hy H
    have hun := (mem_ready.1 hr).1
    refine ⟨(fun e => by rw [e] at hr; cases hr), fun j hj => ?_⟩
    rcases Nat.lt_or_ge j n with hjn | hjn
    · refine ⟨hjn, ?_⟩
      by_cases e : j = i
      · subst e; exact hy.qOp hi H
      · exact absurd (hdone _ _ H j (ready_mono hj e)) (by omega)
    · exact absurd hj (tail_waits hs hc hn inv _ i rfl hin hun j hjn)
  | succ f ih =>
    intro listed a inv hfree hr hy H
    have hun := (mem_ready.1 hr).1
    refine ⟨(fun e => by rw [e] at hr; cases hr), fun j hj => ?_⟩
    rcases Nat.lt_or_ge j n with hjn | hjn
    · refine ⟨hjn, ?_⟩
      by_cases e : j = i
      · subst e; exact hy.qOp hi H
      · have h1 := (H.2 j (ready_mono hj e)).2
        obtain ⟨hjun, oj, hoj, hall⟩ := mem_ready.1 hj
        have hnot : ∀ ed ∈ oj.after, Region.binds md ed = true → ed.on ≠ i := fun ed he hb heq => by
          have h2 := hall ed he hb
          rw [heq, getD_both hun] at h2
          cases h2
        have h2 := qOp_put hoj (hfree j oj hoj e hjun hnot) (fun cs b => hsel i oi cs b hi) (fun cs b => hsel j oj cs b hoj) hy h1
        refine qOp_mono (fun a' h3 => ih (listed.setIfInBounds j true) a' (inv.set hj hjn) (fun k ok hk hki hku hno => ?_) (ready_mono hr (Ne.symm e)) h3.1 ?_) h2
        · refine hfree k ok hk hki ?_ hno
          by_cases hjk : j = k
          · subst hjk; exact hjun
          · rwa [getD_set_ne true hjk] at hku
        · rw [Array.setIfInBounds_comm _ _ e]
          exact h3.2
    · exact absurd hj (tail_waits hs hc hn inv _ i rfl hin hun j hjn)

theorem headQ_lex {n g : Nat} {Lq : Act → Prop} (hsel : Region.noSelect ops = true) (hs : Region.sinkB md ops n = true) (hc : Region.chainB md ops n = true) (hn : n < ops.size) (l : List Oper) :
    ∀ (k : Nat) (listed : Array Bool) (a : Act), (∀ j, j < l.length → l[j]? = ops[k + j]?) → k + l.length = n → HeadInv md ops n listed →
    Region.lexHead md ops g l.length k listed = true → wpQuiet P ops C Lq l a →
    headQ P md ops C n (fun listed' a' => Region.seqB md ops g n listed' = true ∧ Lq a') l.length listed a := by
  induction l with
  | nil =>
    intro k listed a _ hk _ hB h
    obtain rfl : k = n := by simpa using hk
    exact ⟨by simpa [Region.lexHead] using hB, h⟩
  | cons o l ih =>
    intro k listed a hl hk inv hB h
    have h0 : ops[k]? = some o := by simpa using (hl 0 (by simp)).symm
    simp only [List.length_cons, Region.lexHead, Bool.and_eq_true] at hB hk
    obtain ⟨⟨hr, hf⟩, hB'⟩ := hB
    have hr' : k ∈ Region.ready md ops listed := by simpa using hr
    have hq : qOp P ops C k (wpQuiet P ops C Lq l) a := by unfold qOp; simp only [h0]; exact h
    obtain ⟨v, hy, hK⟩ := yieldsIn_of_qOp h0 hq
    refine headQ_first h0 (Region.noSelect_spec hsel) hs hc hn (by omega) (fun listed' a' hL => seqB_ready hL.1) l.length listed a inv (Region.free_spec h0 hf) hr' hy ?_
    refine ih (k + 1) _ _ (fun j hj => ?_) (by omega) (inv.set hr' (by omega)) hB' hK
    have := hl (j + 1) (by simp; omega)
    simpa [Nat.add_assoc, Nat.add_comm 1 j] using this

theorem wp_region_quiet_tail {id : Nat} {Q : Exit → Act → World → Prop} {a : Act} {w : World} {l : List Oper} (n : Nat) (hm : P.follows .mixedOrders = true) (hB : Region.lexTailB .any l.toArray n = true) (hC : C { w with drawn := w.drawn + 1 })
    (h : wpQuiet P l.toArray C (fun a' => ∀ w', C w' → wpList P l.toArray Q (l.drop n) a' w') (l.take n) a) : (Code.region id l.toArray true).wp P Q a w := by
  simp only [Region.lexTailB, Bool.and_eq_true, decide_eq_true_eq] at hB
  obtain ⟨⟨⟨⟨hsel, hn⟩, hs⟩, hc⟩, hlex⟩ := hB
  have hn' : n < l.length := by simpa using hn
  have htl : (l.take n).length = n := by simp; omega
  have hdl : (l.drop n).length = l.toArray.size - n := by simp
  have inv0 : HeadInv .any l.toArray n (Array.replicate l.toArray.size false) :=
    ⟨by simp, fun j oj _ hl => (by rw [getD_replicate_false] at hl; cases hl), fun t _ ht => getD_in (by simpa using ht) (getD_replicate_false _ _)⟩
  have H := headQ_lex (md := .any) (g := l.toArray.size - n) hsel hs hc hn (l.take n) 0 (Array.replicate l.toArray.size false) a
    (fun j hj => by rw [htl] at hj; simp [hj]) (by simpa using htl) inv0 (by rw [htl]; exact hlex) h
  refine wp_region_any hm ?_
  have key := any_of_headQ (Q' := Q) (g := l.toArray.size - n) (fun listed a' w' hw' hL => by
    have := wpAny_of_seq (md := .any) (Q' := Q) (l.drop n) n listed a' w' (fun j => by simp [List.getElem?_drop]) (by rw [hdl]; exact hL.1) (hL.2 w' hw')
    rwa [hdl] at this) _ _ _ _ hC H
  rwa [htl, show n + (l.toArray.size - n) = l.toArray.size by omega] at key
end

theorem drew_below0 (w : World) : Below w.heap.size w w.drew := (Below.refl _ _).drew
/-- at the class 'behind w' -/
theorem wp_region_after_tail {P : Program} {id : Nat} {Q : Exit → Act → World → Prop} {a : Act} {w : World} {l : List Oper} (n : Nat) (hm : P.follows .mixedOrders = true) (hB : Region.lexTailB .any l.toArray n = true)
    (h : wpQuiet P l.toArray (fun w' => ∃ p : Regrown, w' = After w p) (fun a' => ∀ w', (∃ p : Regrown, w' = After w p) → wpList P l.toArray Q (l.drop n) a' w') (l.take n) a) : (Code.region id l.toArray true).wp P Q a w :=
  wp_region_quiet_tail n hm hB (after_of (drew_below0 w)) h

end Ks
/- Parts of a block that is known whole: what is loaded out of its midst, what is stored there; also in a region that draws its order. Plain. No program is in sight. -/
namespace Ks
open Go Go.RowKit
set_option linter.unusedVariables false

/-- a block's cells, with others from a place on -/
def splice (C : Array Value) (o : Nat) (D : Array Value) : Array Value := (C.toList.take o ++ D.toList ++ C.toList.drop (o + D.size)).toArray
theorem splice_all (C D : Array Value) (h : D.size = C.size) : splice C 0 D = D := by
  have : C.toList.drop D.size = [] := List.drop_eq_nil_of_le (by simp [h])
  simp [splice, this]
theorem setCells_row (b : Nat) (t : TypeId) : ∀ (D : List Value) (o : Nat) (w : World) (C : Array Value), w.heap[b]? = some (.cells C t (0, 0)) → o + D.length ≤ C.size →
    w.setCells b o D = w.setRow b (splice C o D.toArray) := by
  intro D
  induction D with
  | nil =>
    intro o w C h _
    have : splice C o #[] = C := by simp [splice]
    rw [World.setCells, show ([] : List Value).toArray = #[] from rfl, this, setRow_self w b C t (0, 0) h]
  | cons v D ih =>
    intro o w C h hs
    simp only [List.length_cons] at hs
    rw [World.setCells, setCell_eq_setRow w b o C t (0, 0) v h]
    rw [ih (o + 1) _ (C.setIfInBounds o v) (setRow_heap _ _ _ _ _ _ h) (by simp; omega), setRow_setRow]
    congr 1
    simp only [splice, Array.toList_setIfInBounds, List.size_toArray, List.length_cons]
    have hlt : o < C.toList.length := by simp; omega
    rw [List.take_set, List.drop_set_of_lt (by omega), List.take_succ_eq_append_getElem hlt, List.set_append_right _ _ (by simp; omega)]
    congr 1
    simp [Nat.min_eq_left (Nat.le_of_lt (show o < C.size by omega)), Nat.add_assoc, Nat.add_comm 1]

variable {P : Program}
theorem run_loadAt_blk (w : World) (b o n : Nat) (ty : TypeId) (C D : Array Value) (t : TypeId) (fr : Nat × Nat) (d : TypeDesc) (hb : w.heap[b]? = some (.cells C t fr)) (hD : C.extract o (o + n) = D) (hn : D.size = n)
    (hu : P.underlying ty = some d) (hd : d.isRow = true) (hi : (P.info? ty).map (·.size) = some n) :
    (Instr.loadAt ty (.pointer (some ⟨b, o, none⟩))).run P w = .ok (.agg D) w := by
  have := run_loadAt_mid (P := P) w b o ty D.toList d (by rw [← hD]; exact World.rangeAt_of_block hb o n) hu hd (by rw [hi]; simp [hn])
  simpa using this
theorem wpList_load_blk {ops : Array Oper} {rest : List Oper} {op : Oper} {a : Act} {w : World} {Q : Exit → Act → World → Prop} (hgd : op.guard = none) (ty : TypeId) (x : Operand) (ho : op.op = .load ty x)
    (b o n : Nat) (hx : a.eval x = .pointer (some ⟨b, o, none⟩)) (C D : Array Value) (t : TypeId) (fr : Nat × Nat) (d : TypeDesc) (hb : w.heap[b]? = some (.cells C t fr)) (hD : C.extract o (o + n) = D) (hn : D.size = n)
    (hu : P.underlying ty = some d) (hd : d.isRow = true) (hi : (P.info? ty).map (·.size) = some n)
    (h : wpList P ops Q rest (a.put op.dst (.agg D)) w) : wpList P ops Q (op :: rest) a w := by
  refine wpList_plain hgd fun _ hK => ?_
  unfold Oper.wp execOp
  have := run_loadAt_blk (P := P) w b o n ty C D t fr d hb hD hn hu hd hi
  simp only [ho, hx, Sem.run_bind, Sem.run_pure, Result.andThen_ok, this]
  exact hK _ _ h
theorem wpList_store_blk {ops : Array Oper} {rest : List Oper} {op : Oper} {a : Act} {w : World} {Q : Exit → Act → World → Prop} (hgd : op.guard = none) (ty : TypeId) (x y : Operand) (ho : op.op = .store ty x y)
    (b o n : Nat) (hx : a.eval x = .pointer (some ⟨b, o, none⟩)) (C D E : Array Value) (hy : a.eval y = .agg D) (t : TypeId) (hb : w.heap[b]? = some (.cells C t (0, 0))) (hn : D.size = n) (hfit : o + n ≤ C.size)
    (hi : (P.info? ty).map (·.size) = some n) (h1 : D.all (·.oneCell') = true) (hE : splice C o D = E)
    (h : wpList P ops Q rest (a.put op.dst undef) (w.setRow b E)) : wpList P ops Q (op :: rest) a w := by
  refine wpList_store_mid hgd ty x y ho b o D hx hy (fun j hj => ⟨?_, frozen_of_row w b _ _ _ hb⟩) (by rw [hi, hn]) h1 ?_
  · rw [cell_of_row w b (o + j) C t (0, 0) hb, Array.getElem?_eq_getElem (by omega)]; rfl
  · rw [setCells_row b t D.toList o w C hb (by simp; omega), Array.toArray_toList, hE]
    exact h
/-- a result that lies in a variable of its own -/
theorem ret_blk {fn : Func} {R : Ending → World → Prop} {a : Act} {w : World} {p : Tmp} {ty t : TypeId} {b : Nat} {C : Array Value} {d : TypeDesc} {fr : Nat × Nat} (h : fn.results = #[.cell p ty])
    (hp : a.tmps.getD p undef = .pointer (some ⟨b, 0, none⟩)) (hb : w.heap[b]? = some (.cells C t fr)) (hu : P.underlying ty = some d) (hd : d.isRow = true) (hi : (P.info? ty).map (·.size) = some C.size)
    (hdf : a.defers = []) (hR : R (.returned (.agg C)) w) : bodyPost P fn R .ret a w := by
  refine bodyPost_ret (results_one h hp ?_) hdf hR
  have := run_loadVar_mid (P := P) w b 0 ty C.toList d (fun j v hj => by rw [Nat.zero_add, cell_of_row w b j C t fr hb]; simpa using hj) hu hd (by rw [hi]; simp)
  simpa using this
/-- a load in a region that draws its order -/
theorem wpQuiet_load_blk {ops : Array Oper} {rest : List Oper} {op : Oper} {a : Act} {Cw : World → Prop} {Q : Act → Prop} (hgd : op.guard = none) (ty : TypeId) (x : Operand) (ho : op.op = .load ty x)
    (b o n : Nat) (hx : a.eval x = .pointer (some ⟨b, o, none⟩)) (C D : Array Value) (t : TypeId) (fr : Nat × Nat) (d : TypeDesc) (hb : ∀ w, Cw w → w.heap[b]? = some (.cells C t fr)) (hD : C.extract o (o + n) = D) (hn : D.size = n)
    (hu : P.underlying ty = some d) (hd : d.isRow = true) (hi : (P.info? ty).map (·.size) = some n)
    (h : wpQuiet P ops Cw Q rest (a.put op.dst (.agg D))) : wpQuiet P ops Cw Q (op :: rest) a := by
  refine wpQuiet_step fun K hK => ?_
  rw [if_pos (by simp [Region.wanted, hgd])]
  refine ⟨.agg D, fun w hw => ?_, hK _ h⟩
  unfold Oper.quietAt execOp
  have := run_loadAt_blk (P := P) w b o n ty C D t fr d (hb w hw) hD hn hu hd hi
  simp only [ho, hx, Sem.run_bind, Sem.run_pure, Result.andThen_ok, this]
  exact ⟨rfl, rfl⟩
/-- a block that was there, behind w -/
theorem after_blk {w : World} {b : Nat} {o : Obj} (h : w.heap[b]? = some o) : ∀ w', (∃ p : Regrown, w' = After w p) → w'.heap[b]? = some o := by
  rintro w' ⟨p, rfl⟩
  exact ((after_below w p).block b (Array.getElem?_eq_some_iff.1 h).1).trans h
end Ks
/- Things made of several blocks: which blocks a call turns. Plain. No program is in sight. -/
namespace Ks
open Go Go.RowKit
set_option linter.unusedVariables false

/-- only the blocks of F are turned; what the thing has behind it, F', is of F or new -/
structure Turn (w w' : World) (F F' : Nat → Prop) : Prop where
  os : w'.os = w.os
  tape : w'.tape = w.tape
  output : w'.output = w.output
  size : w.heap.size ≤ w'.heap.size
  block : ∀ k, k < w.heap.size → ¬ F k → w'.heap[k]? = w.heap[k]?
  foot : ∀ k, F' k → F k ∨ w.heap.size ≤ k
theorem Turn.of_below {w w' : World} (F : Nat → Prop) (h : Below w.heap.size w w') : Turn w w' F F := ⟨h.os, h.tape, h.output, h.size, fun k hk _ => h.block k hk, fun k hk => Or.inl hk⟩
theorem Turn.refl (w : World) (F : Nat → Prop) : Turn w w F F := Turn.of_below F (Below.refl _ _)
theorem Turn.trans {w w1 w2 : World} {F F1 F2 : Nat → Prop} (h : Turn w w1 F F1) (g : Turn w1 w2 F1 F2) : Turn w w2 F F2 := by
  refine ⟨g.os.trans h.os, g.tape.trans h.tape, g.output.trans h.output, Nat.le_trans h.size g.size, fun k hk hF => ?_, fun k hk => ?_⟩
  · refine (g.block k (Nat.lt_of_lt_of_le hk h.size) fun h1 => ?_).trans (h.block k hk hF)
    rcases h.foot k h1 with h2 | h2
    · exact hF h2
    · omega
  · rcases g.foot k hk with h1 | h1
    · exact h.foot k h1
    · exact Or.inr (Nat.le_trans h.size h1)
theorem Turn.below {w w' : World} {F F' : Nat → Prop} {B : Nat} (h : Turn w w' F F') (hF : ∀ k, F k → B ≤ k) (hB : B ≤ w.heap.size) : Below B w w' :=
  ⟨h.os, h.tape, h.output, h.size, fun k hk => h.block k (by omega) fun h1 => by have := hF k h1; omega⟩
theorem Turn.low {w w' : World} {F F' : Nat → Prop} {B : Nat} (h : Turn w w' F F') (hF : ∀ k, F k → B ≤ k) (hB : B ≤ w.heap.size) : ∀ k, F' k → B ≤ k := by
  intro k hk
  rcases h.foot k hk with h1 | h1
  · exact hF k h1
  · omega
/-- another thing is not turned -/
theorem Turn.other {w w' : World} {F F' G : Nat → Prop} (h : Turn w w' F F') (hG : ∀ k, G k → k < w.heap.size) (hd : ∀ k, F k → ¬ G k) : ∀ k, G k → w'.heap[k]? = w.heap[k]? := fun k hk => h.block k (hG k hk) fun h1 => hd k h1 hk
theorem Turn.apart {w w' : World} {F F' G : Nat → Prop} (h : Turn w w' F F') (hG : ∀ k, G k → k < w.heap.size) (hd : ∀ k, F k → ¬ G k) : ∀ k, F' k → ¬ G k := fun k hk hg => by
  rcases h.foot k hk with h1 | h1
  · exact hd k h1 hg
  · have := hG k hg; omega
theorem Turn.mono {w w' : World} {F F' G : Nat → Prop} (h : Turn w w' F F') (hG : ∀ k, G k → F' k) : Turn w w' F G := ⟨h.os, h.tape, h.output, h.size, h.block, fun k hk => h.foot k (hG k hk)⟩
theorem Turn.wide {w w' : World} {F F' G G' : Nat → Prop} (h : Turn w w' F F') (hF : ∀ k, F k → G k) (hG : ∀ k, G' k → F' k ∨ G k ∨ w.heap.size ≤ k) : Turn w w' G G' := by
  refine ⟨h.os, h.tape, h.output, h.size, fun k hk hn => h.block k hk fun h1 => hn (hF k h1), fun k hk => ?_⟩
  rcases hG k hk with h1 | h1 | h1
  · rcases h.foot k h1 with h2 | h2
    · exact Or.inl (hF k h2)
    · exact Or.inr h2
  · exact Or.inl h1
  · exact Or.inr h1
theorem Turn.cell (w : World) {F : Nat → Prop} (b o : Nat) (v : Value) (h : F b) : Turn w (w.setCell ⟨b, o, none⟩ v) F F :=
  have h1 : Below 0 w (w.setCell ⟨b, o, none⟩ v) := (Below.refl 0 w).setCell (Nat.zero_le _) v
  ⟨h1.os, h1.tape, h1.output, by simp, fun k hk hn => set_ne v fun e => hn (e ▸ h), fun k hk => Or.inl hk⟩
theorem Turn.row (w : World) {F : Nat → Prop} (b : Nat) (C : Array Value) (h : F b) : Turn w (w.setRow b C) F F :=
  ⟨rfl, rfl, rfl, by simp, fun k hk hn => setRow_other w b k C fun e => hn (e ▸ h), fun k hk => Or.inl hk⟩
theorem Turn.grown {w w' : World} {F : Nat → Prop} {row : Option Nat} (h : w.grownBy w' row) (hF : ∀ b, row = some b → F b) : Turn w w' F F :=
  ⟨h.os, h.tape, h.output, h.size, fun k hk hn => h.block k hk fun e => hn (hF k e.symm), fun k hk => Or.inl hk⟩

/-- a cell of a block known whole is written -/
theorem set_blk {w : World} {b : Nat} {C : Array Value} {t : TypeId} (h : w.heap[b]? = some (.cells C t (0, 0))) (o : Nat) (v : Value) : (w.setCell ⟨b, o, none⟩ v).heap[b]? = some (.cells (C.setIfInBounds o v) t (0, 0)) := by
  rw [setCell_eq_setRow w b o _ _ _ _ h, setRow_heap w b _ _ _ _ h]
theorem Turn.cell1 (w : World) (b o : Nat) (v : Value) : Turn w (w.setCell ⟨b, o, none⟩ v) (fun k => k = b) (fun k => k = b) := Turn.cell w (F := fun k => k = b) b o v rfl

variable {α : Type} {E : Enc α}
/-- a cell of an own row, of elements of one cell -/
theorem Row.set1 {w : World} {B : Nat} {T : TypeId} {g n cap : Nat} {l : List α} (h : Row E w B T (.slice (some ⟨g, 0, none⟩) n cap) l) (hk : E.k = 1) (i : Nat) (hi : i < l.length) (x : α) (v : Value) (hv : E.enc x = [v]) :
    Row E (w.setCell ⟨g, i, none⟩ v) B T (.slice (some ⟨g, 0, none⟩) n cap) (l.set i x) := by
  have hcs : ∀ l : List α, ∀ j y, l[j]? = some y → (E.cs l)[j]? = (E.enc y)[0]? := fun l j y hj => by
    have := E.cs_get l j y hj 0 (by omega)
    rwa [hk, Nat.mul_one] at this
  refine ⟨by rw [E.cs_length, List.length_set], ?_⟩
  rcases h.2 with ⟨e, h0⟩ | ⟨g', cap', cur, e, hB, hg, hn, hc, hs, ht⟩
  · cases e
  · cases e
    rw [hk, Nat.mul_one] at ht hs
    have hlen : (l.set i x).length = l.length := List.length_set
    refine Or.inr ⟨g, cap, cur.setIfInBounds i v, by rw [hlen], hB, ?_, by rw [hlen]; exact hn, hc, by simpa [hk] using hs, ?_⟩
    · rw [setCell_eq_setRow w g i _ _ _ _ hg, setRow_heap w g _ _ _ _ hg]
    · rw [hk, Nat.mul_one, hlen, Array.toList_setIfInBounds]
      have hcl : l.length ≤ cur.toList.length := by simp; omega
      have hm : (E.cs l).length = l.length := by rw [E.cs_length, hk, Nat.mul_one]
      refine List.ext_getElem? fun j => ?_
      rw [List.getElem?_take]
      by_cases hj : j < l.length
      · rw [if_pos hj, List.getElem?_set]
        by_cases e : i = j
        · subst e
          have := hcs (l.set i x) i x (by rw [List.getElem?_set_self hi])
          rw [this, hv]
          simp; omega
        · rw [if_neg e]
          have hy : (l.set i x)[j]? = some l[j] := by rw [List.getElem?_set_ne e, List.getElem?_eq_getElem hj]
          rw [hcs _ j _ hy, ← hcs l j _ (List.getElem?_eq_getElem hj), ← ht, List.getElem?_take, if_pos hj]
      · rw [if_neg hj]
        exact (List.getElem?_eq_none (by rw [E.cs_length, hk, Nat.mul_one, hlen]; omega)).symm
theorem Row.own_lt {w : World} {B : Nat} {T : TypeId} {v : Value} {l : List α} (h : Row E w B T v l) {b : Nat} (hb : v.ownBlock = some b) : b < w.heap.size := (h.lt hb).2
/-- a row is kept where its block is -/
theorem Row.turn {w w' : World} {B : Nat} {T : TypeId} {v : Value} {l : List α} {F F' : Nat → Prop} (h : Row E w B T v l) (hT : Turn w w' F F') (hd : ∀ b, v.ownBlock = some b → ¬ F b) : Row E w' B T v l :=
  h.keep fun b e => hT.block b (h.own_lt e) (hd b e)
theorem Grew.turn {w w' : World} {B : Nat} {e : TypeId} {v v' : Value} {l : List α} (h : Grew E w w' B e v v' l) {F : Nat → Prop} (hF : ∀ b, v.ownBlock = some b → F b) : Turn w w' F F := Turn.grown h.2.1 hF
theorem Grew.foot {w w' : World} {B : Nat} {e : TypeId} {v v' : Value} {l : List α} (h : Grew E w w' B e v v' l) : ∀ b, v'.ownBlock = some b → v.ownBlock = some b ∨ w.heap.size ≤ b := fun b hb => by
  rcases h.2.2.1 with e | e
  · exact Or.inl (e ▸ hb)
  · exact Or.inr (e b hb)
end Ks
