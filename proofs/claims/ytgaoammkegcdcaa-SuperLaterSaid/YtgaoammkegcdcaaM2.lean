/- Texts that the claim rests on, part 2: Seq, SeqObj, GeoActs, Builder, OctetPut, OctetPack, OctetGet, OctetUnpack, OctetRPut, OctetRGet, Block, GeoPut. -/
import Derived.ArgAppend
import Derived.Laws.OwnMore
import Derived.Deep.RegionLaw
import Derived.Test.YtgaoammkegcdcaaProg
import Derived.Test.YtgaoammkegcdcaaShelf
import Derived.Lib.Builder
import Derived.Lib.AppendStr
import Derived.Lib.UnsafeStr
import Derived.Deep.RegionHeld3
import Derived.Test.YtgaoammkegcdcaaM1
/- Slices of whatever elements of so many cells: what they read as, what a call owns, what is appended. Plain. No program is in sight. -/
namespace Ks
open Go Go.RowKit
set_option linter.unusedVariables false
set_option linter.unusedSimpArgs false

/-- how an element lies: in so many cells -/
structure Enc (α : Type) where
  k : Nat
  enc : α → List Value
  len : ∀ x, (enc x).length = k
  one : ∀ x, ∀ u ∈ enc x, u.oneCell' = true
  pos : 0 < k

namespace Enc
variable {α : Type} (E : Enc α)

def cs (l : List α) : List Value := l.flatMap E.enc
theorem cs_nil : E.cs [] = [] := rfl
theorem cs_cons (x : α) (l : List α) : E.cs (x :: l) = E.enc x ++ E.cs l := by simp [cs]
theorem cs_append (a b : List α) : E.cs (a ++ b) = E.cs a ++ E.cs b := by simp [cs]
theorem cs_length (l : List α) : (E.cs l).length = l.length * E.k := by
  induction l with
  | nil => simp [cs_nil]
  | cons x l ih => rw [cs_cons, List.length_append, ih, E.len, List.length_cons, Nat.add_mul, Nat.one_mul, Nat.add_comm]
theorem cs_get (l : List α) (i : Nat) (x : α) (h : l[i]? = some x) (j : Nat) (hj : j < E.k) : (E.cs l)[i * E.k + j]? = (E.enc x)[j]? := by
  induction l generalizing i with
  | nil => simp at h
  | cons y l ih =>
    rw [cs_cons]
    match i, h with
    | 0, h =>
      simp only [List.getElem?_cons_zero, Option.some.injEq] at h
      subst h
      rw [Nat.zero_mul, Nat.zero_add, List.getElem?_append_left (by rw [E.len]; exact hj)]
    | i + 1, h =>
      rw [List.getElem?_append_right (by rw [E.len, Nat.add_mul]; omega), E.len, show (i + 1) * E.k + j - E.k = i * E.k + j by rw [Nat.add_mul]; omega]
      exact ih i (by simpa using h)
theorem cs_cell (l : List α) (m : Nat) (u : Value) (h : (E.cs l)[m]? = some u) : ∃ i x j, l[i]? = some x ∧ j < E.k ∧ m = i * E.k + j ∧ (E.enc x)[j]? = some u := by
  have hm : m < l.length * E.k := by rw [← cs_length]; exact (List.getElem?_eq_some_iff.1 h).1
  have hi : m / E.k < l.length := Nat.div_lt_of_lt_mul (by rw [Nat.mul_comm]; exact hm)
  have hj : m % E.k < E.k := Nat.mod_lt _ E.pos
  have e : m / E.k * E.k + m % E.k = m := by rw [Nat.mul_comm]; exact Nat.div_add_mod m E.k
  have hg := E.cs_get l (m / E.k) l[m / E.k] (List.getElem?_eq_getElem hi) (m % E.k) hj
  rw [e, h] at hg
  exact ⟨_, _, _, List.getElem?_eq_getElem hi, hj, e.symm, hg.symm⟩
theorem cs_one (l : List α) : ∀ u ∈ E.cs l, u.oneCell' = true := by
  intro u hu
  simp only [cs, List.mem_flatMap] at hu
  obtain ⟨x, _, hx⟩ := hu
  exact E.one x u hx
theorem cs_take (l : List α) (n : Nat) : (E.cs l).take (n * E.k) = E.cs (l.take n) := by
  induction l generalizing n with
  | nil => simp [cs_nil]
  | cons x l ih =>
    cases n with
    | zero => simp [cs_nil]
    | succ n =>
      rw [List.take_succ_cons, cs_cons, cs_cons, List.take_append, List.take_of_length_le (by rw [E.len, Nat.add_mul]; omega), E.len, show (n + 1) * E.k - E.k = n * E.k by rw [Nat.add_mul]; omega, ih]

end Enc

variable {α : Type} {E : Enc α}

/-- a slice value reads as these -/
def Rd (E : Enc α) (w : World) (v : Value) (l : List α) : Prop :=
  ∃ a cap, v = .slice a l.length cap ∧ l.length ≤ cap ∧ (a = none → cap = 0) ∧ ∀ i x, l[i]? = some x →
    ∃ b o, a = some ⟨b, o, none⟩ ∧ b < w.heap.size ∧ ∀ j u, (E.enc x)[j]? = some u → w.cell? ⟨b, o + i * E.k + j, none⟩ = some u
/-- a slice value owns them: the block is its own -/
def Row (E : Enc α) (w : World) (B : Nat) (T : TypeId) (v : Value) (l : List α) : Prop := w.ownsRow B T E.k v l.length (E.cs l)

theorem Rd.keep {w w' : World} {v : Value} {l : List α} (h : Rd E w v l) (hs : w.heap.size ≤ w'.heap.size) (hb : ∀ b, v.ownBlock = some b → w'.heap[b]? = w.heap[b]?) : Rd E w' v l := by
  obtain ⟨a, cap, rfl, hc, hn, h⟩ := h
  refine ⟨a, cap, rfl, hc, hn, fun i x hx => ?_⟩
  obtain ⟨b, o, rfl, hlt, h1⟩ := h i x hx
  exact ⟨b, o, rfl, Nat.lt_of_lt_of_le hlt hs, fun j u hu => (World.cell?_of_block (a := ⟨b, o + i * E.k + j, none⟩) (hb b rfl)).trans (h1 j u hu)⟩
theorem Rd.below {w w' : World} {v : Value} {l : List α} (h : Rd E w v l) (hb : Below w.heap.size w w') : Rd E w' v l := by
  obtain ⟨a, cap, rfl, hc, hn, h⟩ := h
  refine ⟨a, cap, rfl, hc, hn, fun i x hx => ?_⟩
  obtain ⟨b, o, rfl, hlt, h1⟩ := h i x hx
  exact ⟨b, o, rfl, Nat.lt_of_lt_of_le hlt hb.size, fun j u hu => (World.cell?_of_block (a := ⟨b, o + i * E.k + j, none⟩) (hb.block b hlt)).trans (h1 j u hu)⟩
theorem Rd.nil (w : World) : Rd E w (.slice none 0 0) [] := ⟨none, 0, rfl, Nat.le_refl _, fun _ => rfl, fun i x hx => by simp at hx⟩
theorem Rd.shape {w : World} {v : Value} {l : List α} (h : Rd E w v l) : ∃ a cap, v = .slice a l.length cap ∧ l.length ≤ cap ∧ (a = none → cap = 0) := by
  obtain ⟨a, cap, e, hc, hn, _⟩ := h
  exact ⟨a, cap, e, hc, hn⟩
/-- an element's cells -/
theorem Rd.at {w : World} {a : Option Addr} {n c : Nat} {l : List α} (h : Rd E w (.slice a n c) l) (i : Nat) (x : α) (hx : l[i]? = some x) :
    ∃ b o, a = some ⟨b, o, none⟩ ∧ b < w.heap.size ∧ ∀ j u, (E.enc x)[j]? = some u → w.cell? ⟨b, o + i * E.k + j, none⟩ = some u := by
  obtain ⟨a', cap, e, hc, hn, hh⟩ := h
  cases e
  exact hh i x hx
theorem Rd.cells {w : World} {b o n c : Nat} {l : List α} (h : Rd E w (.slice (some ⟨b, o, none⟩) n c) l) : n = l.length ∧ ∀ j u, (E.cs l)[j]? = some u → w.cell? ⟨b, o + j, none⟩ = some u := by
  have hh := h
  obtain ⟨a, cap, e, _⟩ := h
  cases e
  refine ⟨rfl, fun m u hm => ?_⟩
  obtain ⟨i, x, j, hx, hj, rfl, hu⟩ := E.cs_cell l m u hm
  obtain ⟨b', o', e, _, h1⟩ := hh.at i x hx
  cases e
  rw [← Nat.add_assoc]
  exact h1 j u hu
theorem Rd.of_cells {w : World} {b o c : Nat} {l : List α} (hb : b < w.heap.size) (hc : l.length ≤ c) (h : ∀ j u, (E.cs l)[j]? = some u → w.cell? ⟨b, o + j, none⟩ = some u) : Rd E w (.slice (some ⟨b, o, none⟩) l.length c) l := by
  refine ⟨_, c, rfl, hc, fun e => by simp at e, fun i x hx => ⟨b, o, rfl, hb, fun j u hu => ?_⟩⟩
  have hj : j < E.k := by have := (List.getElem?_eq_some_iff.1 hu).1; rwa [E.len] at this
  have := h (i * E.k + j) u (by rw [E.cs_get l i x hx j hj]; exact hu)
  rwa [← Nat.add_assoc] at this
/-- a block known whole -/
theorem Rd.block {w : World} {b : Nat} {l : List α} {T : TypeId} {fr : Nat × Nat} {cs : Array Value} (h : w.heap[b]? = some (.cells cs T fr)) (e : cs.toList = E.cs l) : Rd E w (.slice (some ⟨b, 0, none⟩) l.length l.length) l :=
  Rd.of_cells (lt_of_block h) (Nat.le_refl _) fun j u hj => by
    rw [Nat.zero_add, cell_of_row w b j cs T fr h, ← Array.getElem?_toList, e]
    exact hj

theorem Rd.single {w : World} {b : Nat} (x : α) {T : TypeId} {fr : Nat × Nat} {cs : Array Value} (h : w.heap[b]? = some (.cells cs T fr)) (e : cs.toList = E.enc x) : Rd E w (.slice (some ⟨b, 0, none⟩) 1 1) [x] :=
  Rd.block (l := [x]) h (by rw [e, E.cs_cons, E.cs_nil, List.append_nil])

theorem Row.rd {w : World} {B : Nat} {T : TypeId} {v : Value} {l : List α} (h : Row E w B T v l) : Rd E w v l := by
  rcases h.2 with ⟨rfl, h0⟩ | ⟨g, cap, cur, rfl, hb, hg, hn, hc, hs, ht⟩
  · have : l = [] := List.length_eq_zero_iff.1 h0
    subst this
    exact Rd.nil w
  · refine Rd.of_cells (lt_of_block hg) hn fun j u hj => ?_
    rw [Nat.zero_add, cell_of_row w g j cur T (0, 0) hg]
    rw [← ht, List.getElem?_take] at hj
    split at hj
    · simpa using hj
    · cases hj
theorem Row.nil (w : World) (B : Nat) (T : TypeId) : Row E w B T (.slice none 0 0) [] := World.ownsRow_nil w B T E.k
theorem Row.made (w : World) (B : Nat) (T : TypeId) (h : B ≤ w.heap.size) : Row E (w.alloc (.cells #[] T)) B T (.slice (some ⟨w.heap.size, 0, none⟩) 0 0) [] :=
  World.ownsRow_made w #[] 0 h (Nat.zero_le _) (by simp)
theorem Row.keep {w w' : World} {B : Nat} {T : TypeId} {v : Value} {l : List α} (h : Row E w B T v l) (hb : ∀ b, v.ownBlock = some b → w'.heap[b]? = w.heap[b]?) : Row E w' B T v l := by
  refine ⟨h.1, ?_⟩
  rcases h.2 with h2 | ⟨g, cap, cur, rfl, r1, r2, r3⟩
  · exact Or.inl h2
  · exact Or.inr ⟨g, cap, cur, rfl, r1, (hb g rfl).trans r2, r3⟩
theorem Row.lt {w : World} {B : Nat} {T : TypeId} {v : Value} {l : List α} (h : Row E w B T v l) {b : Nat} (hb : v.ownBlock = some b) : B ≤ b ∧ b < w.heap.size := World.ownsRow.lt h b hb
theorem Row.below {w w' : World} {B : Nat} {T : TypeId} {v : Value} {l : List α} (h : Row E w B T v l) (hb : Below w.heap.size w w') : Row E w' B T v l :=
  h.keep fun b e => hb.block b (h.lt e).2
theorem Row.down {w : World} {B B' : Nat} {T : TypeId} {v : Value} {l : List α} (h : Row E w B T v l) (hB : B' ≤ B) : Row E w B' T v l := by
  refine ⟨h.1, ?_⟩
  rcases h.2 with h2 | ⟨g, cap, cur, r0, r1, r2⟩
  · exact Or.inl h2
  · exact Or.inr ⟨g, cap, cur, r0, Nat.le_trans hB r1, r2⟩
theorem Row.shape {w : World} {B : Nat} {T : TypeId} {v : Value} {l : List α} (h : Row E w B T v l) : ∃ a cap, v = .slice a l.length cap ∧ l.length ≤ cap ∧ (a = none → cap = 0) := h.rd.shape
/-- an own row that has elements -/
theorem Row.pos {w : World} {B : Nat} {T : TypeId} {v : Value} {l : List α} (h : Row E w B T v l) (hl : 0 < l.length) : ∃ g cap, v = .slice (some ⟨g, 0, none⟩) l.length cap ∧ l.length ≤ cap ∧ B ≤ g ∧ g < w.heap.size ∧ cap ≤ maxLen := by
  rcases h.2 with ⟨_, h0⟩ | ⟨g, cap, cur, rfl, hb, hg, hn, hc, _⟩
  · omega
  · exact ⟨g, cap, rfl, hn, hb, lt_of_block hg, hc⟩
/-- the first so many of an own row -/
theorem Row.take {w : World} {B : Nat} {T : TypeId} {g n cap : Nat} {l : List α} (h : Row E w B T (.slice (some ⟨g, 0, none⟩) n cap) l) (k : Nat) (hk : k ≤ l.length) : Row E w B T (.slice (some ⟨g, 0, none⟩) k cap) (l.take k) := by
  have hl : (l.take k).length = k := by rw [List.length_take]; omega
  refine ⟨E.cs_length _, ?_⟩
  rcases h.2 with ⟨e, _⟩ | ⟨g', cap', cur, e, hb, hg, hn, hc, hs, ht⟩
  · cases e
  · cases e
    refine Or.inr ⟨g, cap, cur, by rw [hl], hb, hg, by rw [hl]; omega, hc, hs, ?_⟩
    rw [hl, ← E.cs_take l k, ← ht, List.take_take]
    congr 1
    exact (Nat.min_eq_left (Nat.mul_le_mul_right _ hk)).symm
/-- the cells behind so many -/
theorem Rd.drop {w : World} {b o n cap k : Nat} {l : List α} (h : Rd E w (.slice (some ⟨b, o, none⟩) n cap) l) (hk : k ≤ l.length) (a : Option Addr) (ha : k < l.length → a = some ⟨b, o + k * E.k, none⟩) (ha2 : a ≠ none) (c : Nat) (hc : l.length - k ≤ c) :
    Rd E w (.slice a (l.length - k) c) (l.drop k) := by
  refine ⟨a, c, by rw [List.length_drop], by rw [List.length_drop]; exact hc, fun e => absurd e ha2, fun i x hx => ?_⟩
  rw [List.getElem?_drop] at hx
  have hlt : k + i < l.length := (List.getElem?_eq_some_iff.1 hx).1
  obtain ⟨b', o', e, hb, h1⟩ := h.at (k + i) x hx
  cases e
  refine ⟨b, o + k * E.k, ha (by omega), hb, fun j u hu => ?_⟩
  have := h1 j u hu
  rw [show o + k * E.k + i * E.k + j = o + (k + i) * E.k + j by rw [Nat.add_mul]; omega]
  exact this
theorem Rd.take {w : World} {b o n cap k : Nat} {l : List α} (h : Rd E w (.slice (some ⟨b, o, none⟩) n cap) l) (hk : k ≤ l.length) (c : Nat) (hc : k ≤ c) :
    Rd E w (.slice (some ⟨b, o, none⟩) k c) (l.take k) := by
  have hl : (l.take k).length = k := by rw [List.length_take]; omega
  refine ⟨_, c, by rw [hl], by rw [hl]; exact hc, fun e => by simp at e, fun i x hx => ?_⟩
  have hi : i < k := by have := (List.getElem?_eq_some_iff.1 hx).1; omega
  rw [List.getElem?_take, if_pos hi] at hx
  exact h.at i x hx

theorem run_append_none {P : Program} (w : World) (t ty e : TypeId) (i : TypeInfo) (ht : P.underlying t = some (.slice e)) (hi : P.info? e = some i) (a : Option Addr) (n cap : Nat) (hnc : n ≤ cap) (b : Option Addr) (c2 : Nat) :
    (Builtin.append_ #[t, t] ty #[.slice a n cap, .slice b 0 c2]).run P w = .ok (.slice a n cap) w := by
  cases b with
  | none => cases a <;> simp [Builtin.append_, run_underlying ht, Go.sizeOf, typeInfo, hi, Builtin.lenOf, Builtin.firstCells, hnc, storeCells]
  | some b =>
    have hf := run_firstCells_some (P := P) w i.size 0 b 0 c2 [] (by simp) (by simp)
    cases a <;> simp [Builtin.append_, run_underlying ht, Go.sizeOf, typeInfo, hi, Builtin.lenOf, hf, hnc, storeCells]

/-- an element type's row of the table, for `append` -/
structure ElemT (P : Program) (t e : TypeId) (k bytes : Nat) : Prop where
  under : P.underlying t = some (.slice e)
  info : ∃ i z, P.info? e = some i ∧ i.zero = some z ∧ i.size = k ∧ i.bytes = bytes ∧ z.cells.size = k
theorem elemT_of {P : Program} {t e : TypeId} {k bytes : Nat} {z : Value} (h : P.underlying t = some (.slice e)) (hi : (P.info? e).map (fun i => (i.zero, i.size, i.bytes)) = some (some z, k, bytes)) (hz : z.cells.size = k) : ElemT P t e k bytes := by
  obtain ⟨i, h1, h2, h3, h4⟩ := info_parts hi
  exact ⟨h, i, z, h1, h2, h3, h4, hz⟩

/-- what append makes of an own row -/
def Grew (E : Enc α) (w w' : World) (B : Nat) (e : TypeId) (v v' : Value) (l : List α) : Prop :=
  Row E w' B e v' l ∧ w.grownBy w' v.ownBlock ∧ (v'.ownBlock = v.ownBlock ∨ ∀ b, v'.ownBlock = some b → w.heap.size ≤ b) ∧ (l ≠ [] → v' ≠ .slice none 0 0)

theorem run_append_row {P : Program} {t ty e : TypeId} {bytes : Nat} (T : ElemT P t e E.k bytes) (w : World) (B : Nat)
    (v lv : Value) (L l : List α) (hown : Row E w B e v L) (hl : Rd E w lv l) (hB : B ≤ w.heap.size) (b1 : L.length + l.length ≤ 140000000) (b2 : bytes ≤ 1000) :
    ∃ v' w', (Builtin.append_ #[t, t] ty #[v, lv]).run P w = .ok v' w' ∧ Grew E w w' B e v v' (L ++ l) := by
  obtain ⟨h1, i, z, h2, h3, h4, h5, h6⟩ := T
  have hmax : L.length + l.length ≤ maxLen := by unfold maxLen; omega
  have hby : (L.length + l.length) * bytes ≤ 140737488355328 := by
    have : (L.length + l.length) * bytes ≤ 140000000 * 1000 := Nat.mul_le_mul b1 b2
    omega
  have hne : ∀ {w' : World} {v' : Value}, Row E w' B e v' (L ++ l) → L ++ l ≠ [] → v' ≠ .slice none 0 0 := fun r hn e => by
    obtain ⟨a, cap, e2, _⟩ := r.shape
    rw [e] at e2
    simp only [Value.slice.injEq] at e2
    exact hn (List.length_eq_zero_iff.1 e2.2.1.symm)
  cases l with
  | nil =>
    obtain ⟨a, cap, rfl, hc, _⟩ := hown.shape
    obtain ⟨b, c2, rfl, _⟩ := hl
    have r : Row E w B e (.slice a L.length cap) (L ++ []) := by rw [List.append_nil]; exact hown
    exact ⟨_, w, run_append_none w t ty e i h1 h2 a _ cap hc b c2, r, World.grownBy.refl _ _, Or.inl rfl, hne r⟩
  | cons x l =>
    generalize hm : x :: l = m at *
    have hpos : 0 < m.length := by rw [← hm]; simp
    obtain ⟨a, c2, rfl, _, _⟩ := hl.shape
    obtain ⟨b, o, rfl, _⟩ := hl.at 0 m[0] (List.getElem?_eq_getElem hpos)
    have hsrc : ∀ j u, (E.cs m)[j]? = some u → w.cell? ((⟨b, o, none⟩ : Addr).add j) = some u := fun j u hj => by rw [Addr.add_lit]; exact hl.cells.2 j u hj
    have hlen2 : (L ++ m).length = L.length + m.length := List.length_append
    rcases id hown.2 with ⟨rfl, h0⟩ | ⟨g, cap, cur, rfl, hBg, hgb, hn, hc, hsz, ht⟩
    · obtain rfl : L = [] := List.length_eq_zero_iff.1 h0
      obtain ⟨v', w', hrun, r1, r2, _⟩ := run_append_own (P := P) w w.heap.size t ty e i z E.k bytes h1 h2 h3 h4 h5 h6 E.pos (.slice none 0 0) 0 [] (World.ownsRow_nil w _ e E.k) ⟨b, o, none⟩ m.length c2 (E.cs m) (E.cs_length m) hsrc (E.cs_one m) (by simpa using hmax) (by simpa using hby) (Nat.le_refl _)
      rw [Nat.zero_add, List.nil_append] at r1
      have r : Row E w' B e v' ([] ++ m) := Row.down (B := w.heap.size) r1 hB
      exact ⟨v', w', hrun, r, r2, Or.inr fun b hb => (r1.lt b hb).1, hne r⟩
    · by_cases hfit : L.length + m.length ≤ cap
      · obtain ⟨w', hrun, r1, r2⟩ := run_append_fits (P := P) w B t ty e i E.k h1 h2 h4 g L.length cap (E.cs L) hown ⟨b, o, none⟩ m.length c2 (E.cs m) (E.cs_length m) hsrc (E.cs_one m) hfit
        have r : Row E w' B e (.slice (some ⟨g, 0, none⟩) (L.length + m.length) cap) (L ++ m) := by
          show w'.ownsRow B e E.k _ (L ++ m).length (E.cs (L ++ m))
          rw [hlen2, E.cs_append]
          exact r1
        exact ⟨_, w', hrun, r, r2, Or.inl rfl, hne r⟩
      · obtain ⟨v', w', hrun, r1, r2⟩ := run_append_arg_grows (P := P) w t ty e i z E.k bytes h1 h2 h3 h4 h5 h6 E.pos ⟨g, 0, none⟩ L.length cap (E.cs L) (E.cs_length L) (fun j u hj => (Row.rd hown).cells.2 j u hj |> fun h => by rw [Addr.add_lit]; exact h) ⟨b, o, none⟩ m.length c2 (E.cs m) (E.cs_length m) hsrc (by omega) hmax hby
        have r : Row E w' B e v' (L ++ m) := by
          refine Row.down (B := w.heap.size) ?_ hB
          show w'.ownsRow _ e E.k _ (L ++ m).length (E.cs (L ++ m))
          rw [hlen2, E.cs_append]
          exact r1
        exact ⟨v', w', hrun, r, ⟨r2.os, r2.tape, r2.output, r2.size, fun k hk _ => r2.block k hk (by simp)⟩, Or.inr fun b hb => (r1.lt b hb).1, hne r⟩

/-- `append` at a plain region's list -/
theorem wpList_append_row {P : Program} (w : World) {ops : Array Oper} {rest : List Oper} {o : Oper} {a : Act} {Q : Exit → Act → World → Prop} (hg : o.guard = none) (s x : Operand) (t : TypeId)
    (ho : o.op = .call { callee := .builtin .append, args := #[s, x], argTypes := #[t, t] }) {e : TypeId} {bytes : Nat} (T : ElemT P t e E.k bytes) (B : Nat)
    (v lv : Value) (L l : List α) (hs : a.eval s = v) (hx : a.eval x = lv) (hown : Row E w B e v L) (hl : Rd E w lv l) (hB : B ≤ w.heap.size) (b1 : L.length + l.length ≤ 140000000) (b2 : bytes ≤ 1000)
    (hK : ∀ v' w', Grew E w w' B e v v' (L ++ l) → wpList P ops Q rest (a.put o.dst v') w') : wpList P ops Q (o :: rest) a w := by
  refine wpList_plain hg fun K hK' => ?_
  obtain ⟨v', w', hrun, r⟩ := run_append_row (P := P) (t := t) (ty := o.type) T w B v lv L l hown hl hB b1 b2
  unfold Oper.wp
  simp [execOp, ho, resolve, invoke, builtin, hs, hx, hrun, Result.andThen]
  exact hK' _ _ (hK v' w' r)

/-- `append` at a step of a region that draws its order, by its run -/
theorem step_append_of {P : Program} {ops : Array Oper} {o : Oper} {a : Act} {w : World} {K : Act → World → Prop} {Q : Exit → Act → World → Prop} {F : Prop} (hg : o.guard = none) (s x : Operand) (t : TypeId)
    (hop : o.op = Op.call { callee := Callee.builtin Builtin.append, args := #[s, x], argTypes := #[t, t] }) {v lv v' : Value} {w' : World} (hrun : (Builtin.append_ #[t, t] o.type #[v, lv]).run P w = .ok v' w')
    (hs : a.eval s = v) (hx : a.eval x = lv) (hK : K (a.put o.dst v') w') : if Region.wanted o (yielded ops a.tmps) = true then Oper.wp P o a w K Q else F := by
  have hw : Region.wanted o (yielded ops a.tmps) = true := by simp [Region.wanted, hg]
  rw [if_pos hw]
  unfold Oper.wp
  simp [execOp, hop, resolve, invoke, builtin, hs, hx, hrun, Result.andThen]
  exact hK

/-- `append` at a step of a region that draws its order, by its law -/
theorem step_append_row {P : Program} {ops : Array Oper} {o : Oper} {a : Act} {w : World} {K : Act → World → Prop} {Q : Exit → Act → World → Prop} {F : Prop} (hg : o.guard = none) (s x : Operand) (t : TypeId)
    (hop : o.op = Op.call { callee := Callee.builtin Builtin.append, args := #[s, x], argTypes := #[t, t] }) {e : TypeId} {bytes : Nat} (T : ElemT P t e E.k bytes) (B : Nat)
    (v lv : Value) (L l : List α) (hs : a.eval s = v) (hx : a.eval x = lv) (hown : Row E w B e v L) (hl : Rd E w lv l) (hB : B ≤ w.heap.size) (b1 : L.length + l.length ≤ 140000000) (b2 : bytes ≤ 1000)
    (hK : ∀ v' w', Grew E w w' B e v v' (L ++ l) → K (a.put o.dst v') w') : if Region.wanted o (yielded ops a.tmps) = true then Oper.wp P o a w K Q else F := by
  obtain ⟨v', w', hrun, r⟩ := run_append_row (P := P) (t := t) (ty := o.type) T w B v lv L l hown hl hB b1 b2
  exact step_append_of hg s x t hop hrun hs hx (hK v' w' r)

theorem Grew.below {w w' w0 : World} {B B0 : Nat} {e : TypeId} {v v' : Value} {l : List α} (h : Grew E w w' B e v v' l) (hb : Below B0 w0 w) (hB : B0 ≤ w.heap.size) (hv : ∀ b, v.ownBlock = some b → B0 ≤ b) : Below B0 w0 w' :=
  hb.grown h.2.1 hB hv
theorem Grew.low {w w' : World} {B B0 : Nat} {e : TypeId} {v v' : Value} {l : List α} (h : Grew E w w' B e v v' l) (hB : B0 ≤ w.heap.size) (hv : ∀ b, v.ownBlock = some b → B0 ≤ b) : ∀ b, v'.ownBlock = some b → B0 ≤ b := by
  intro b hb
  rcases h.2.2.1 with e | e
  · exact hv b (e ▸ hb)
  · exact Nat.le_trans hB (e b hb)
theorem Grew.block {w w' : World} {B : Nat} {e : TypeId} {v v' : Value} {l : List α} (h : Grew E w w' B e v v' l) {b : Nat} {o : Obj} (hb : w.heap[b]? = some o) (hv : v.ownBlock ≠ some b) : w'.heap[b]? = some o :=
  (h.2.1.block b (lt_of_block hb) (fun e => hv e.symm)).trans hb
theorem Grew.rd {w w' : World} {B : Nat} {e : TypeId} {v v' : Value} {l : List α} {β : Type} {E' : Enc β} {u : Value} {m : List β} (h : Grew E w w' B e v v' l) (hr : Rd E' w u m) (hv : ∀ b, u.ownBlock = some b → v.ownBlock ≠ some b) : Rd E' w' u m := by
  obtain ⟨a, cap, rfl, hc, hn, hh⟩ := hr
  refine ⟨a, cap, rfl, hc, hn, fun i x hx => ?_⟩
  obtain ⟨b, o, rfl, hlt, h1⟩ := hh i x hx
  have e := h.2.1.block b hlt (fun e => hv b rfl e.symm)
  exact ⟨b, o, rfl, Nat.lt_of_lt_of_le hlt h.2.1.size, fun j u hu => (World.cell?_of_block (a := ⟨b, o + i * E'.k + j, none⟩) e).trans (h1 j u hu)⟩

end Ks
/- A thing that was made, with a row of its own: what stands of it, what a call turns. Plain. No program is in sight. -/
namespace Ks
open Go Go.RowKit
set_option linter.unusedVariables false

variable {α : Type} {E : Enc α}

/-- a thing of two cells: that it was made, and its row -/
structure Held (E : Enc α) (w : World) (TN TL : TypeId) (n : Nat) (v : Value) (l : List α) : Prop where
  blk : w.heap[n]? = some (.cells #[.bool true, v] TN (0, 0))
  own : Row E w 0 TL v l
  ne : v.ownBlock ≠ some n
theorem Held.lt {w : World} {TN TL : TypeId} {n : Nat} {v : Value} {l : List α} (h : Held E w TN TL n v l) : n < w.heap.size := lt_of_block h.blk
theorem Held.keep {w w' : World} {TN TL : TypeId} {n : Nat} {v : Value} {l : List α} (h : Held E w TN TL n v l) (hb : Below w.heap.size w w') : Held E w' TN TL n v l :=
  ⟨(hb.block n h.lt).trans h.blk, h.own.below hb, h.ne⟩
theorem Held.cells {w : World} {TN TL : TypeId} {n : Nat} {v : Value} {l : List α} (h : Held E w TN TL n v l) : w.cell? ⟨n, 0, none⟩ = some (.bool true) ∧ w.cell? ⟨n, 1, none⟩ = some v ∧ w.frozen? ⟨n, 0, none⟩ = false ∧ w.frozen? ⟨n, 1, none⟩ = false :=
  ⟨by rw [cell_of_row w n 0 _ _ _ h.blk]; rfl, by rw [cell_of_row w n 1 _ _ _ h.blk]; rfl, frozen_of_row w n 0 _ _ h.blk, frozen_of_row w n 1 _ _ h.blk⟩
/-- a thing that is none, or that no call made -/
def Dead (w : World) (TN : TypeId) (v : Value) : Prop := v = .pointer none ∨ ∃ n, v = .pointer (some ⟨n, 0, none⟩) ∧ w.heap[n]? = some (.cells #[.bool false, .slice none 0 0] TN (0, 0))
theorem Dead.keep {w w' : World} {TN : TypeId} {v : Value} (h : Dead w TN v) (hb : Below w.heap.size w w') : Dead w' TN v := by
  rcases h with h | ⟨n, rfl, h⟩
  · exact Or.inl h
  · exact Or.inr ⟨n, rfl, (hb.block n (lt_of_block h)).trans h⟩

/-- only the thing and its own row are turned -/
structure Turned (w w' : World) (n : Nat) (v v' : Value) : Prop where
  os : w'.os = w.os
  tape : w'.tape = w.tape
  output : w'.output = w.output
  size : w.heap.size ≤ w'.heap.size
  block : ∀ k, k < w.heap.size → k ≠ n → v.ownBlock ≠ some k → w'.heap[k]? = w.heap[k]?
  own : v'.ownBlock = v.ownBlock ∨ ∀ b, v'.ownBlock = some b → w.heap.size ≤ b
theorem Turned.of_below {w w' : World} {n : Nat} {v : Value} (hb : Below w.heap.size w w') : Turned w w' n v v :=
  ⟨hb.os, hb.tape, hb.output, hb.size, fun k hk _ _ => hb.block k hk, Or.inl rfl⟩
theorem Turned.below {w w' : World} {n B : Nat} {v v' : Value} (h : Turned w w' n v v') (hn : B ≤ n) (hv : ∀ b, v.ownBlock = some b → B ≤ b) (hB : B ≤ w.heap.size) : Below B w w' :=
  ⟨h.os, h.tape, h.output, h.size, fun k hk => h.block k (by omega) (by omega) fun e => by have := hv k e; omega⟩
theorem Turned.after {w w1 w2 : World} {n : Nat} {v v' : Value} (hb : Below w.heap.size w w1) (h : Turned w1 w2 n v v') : Turned w w2 n v v' :=
  ⟨h.os.trans hb.os, h.tape.trans hb.tape, h.output.trans hb.output, Nat.le_trans hb.size h.size, fun k hk h1 h2 => (h.block k (Nat.lt_of_lt_of_le hk hb.size) h1 h2).trans (hb.block k hk),
    h.own.imp id fun h b e => Nat.le_trans hb.size (h b e)⟩
theorem Turned.then {w w1 w2 : World} {n : Nat} {v v' : Value} (h : Turned w w1 n v v') (hb : Below w1.heap.size w1 w2) : Turned w w2 n v v' :=
  ⟨hb.os.trans h.os, hb.tape.trans h.tape, hb.output.trans h.output, Nat.le_trans h.size hb.size, fun k hk h1 h2 => (hb.block k (Nat.lt_of_lt_of_le hk h.size)).trans (h.block k hk h1 h2), h.own⟩
theorem Turned.low {w w' : World} {n B : Nat} {v v' : Value} (h : Turned w w' n v v') (hv : ∀ b, v.ownBlock = some b → B ≤ b) (hB : B ≤ w.heap.size) : ∀ b, v'.ownBlock = some b → B ≤ b := by
  intro b hb
  rcases h.own with e | e
  · exact hv b (e ▸ hb)
  · exact Nat.le_trans hB (e b hb)
theorem set_ne {w : World} {n k o : Nat} (u : Value) (h : k ≠ n) : (w.setCell ⟨n, o, none⟩ u).heap[k]? = w.heap[k]? := Below.heap_setCell _ _ _ _ h
theorem set_one {w : World} {n : Nat} {c0 c1 : Value} {T : TypeId} (u : Value) (h : w.heap[n]? = some (.cells #[c0, c1] T (0, 0))) : (w.setCell ⟨n, 1, none⟩ u).heap[n]? = some (.cells #[c0, u] T (0, 0)) := by
  simp [World.setCell, Array.getElem?_modify, h]
theorem Rd.put {w : World} {v : Value} {l : List α} (h : Rd E w v l) {m o : Nat} (u : Value) (hm : v.ownBlock ≠ some m) : Rd E (w.setCell ⟨m, o, none⟩ u) v l :=
  h.keep (by simp) fun b e => set_ne u fun e2 => hm (by rw [e, e2])
theorem Rd.turned {w w' : World} {n : Nat} {v v' u : Value} {β : Type} {E' : Enc β} {l : List β} (hl : Rd E' w u l) (h : Turned w w' n v v') (h1 : u.ownBlock ≠ some n) (h2 : ∀ b, u.ownBlock = some b → v.ownBlock ≠ some b) : Rd E' w' u l := by
  obtain ⟨a, cap, rfl, hc, hn, hh⟩ := hl
  refine ⟨a, cap, rfl, hc, hn, fun i x hx => ?_⟩
  obtain ⟨b, o, rfl, hlt, hcs⟩ := hh i x hx
  have e := h.block b hlt (fun e => h1 (by simp [Value.ownBlock, e])) (h2 b rfl)
  exact ⟨b, o, rfl, Nat.lt_of_lt_of_le hlt h.size, fun j u hu => (World.cell?_of_block (a := ⟨b, o + i * E'.k + j, none⟩) e).trans (hcs j u hu)⟩
theorem Rd.lt' {w : World} {v : Value} {l : List α} (h : Rd E w v l) (hl : l ≠ []) {b : Nat} (hb : v.ownBlock = some b) : b < w.heap.size := by
  cases l with
  | nil => exact absurd rfl hl
  | cons x l =>
    obtain ⟨a, cap, rfl, _⟩ := h.shape
    obtain ⟨b', o, rfl, hb', _⟩ := h.at 0 x rfl
    simp [Value.ownBlock] at hb
    omega
theorem Rd.empty {w : World} {v : Value} (h : Rd E w v []) (w' : World) : Rd E w' v [] := by
  obtain ⟨a, cap, rfl, h1, h2, _⟩ := h
  exact ⟨a, cap, rfl, h1, h2, fun i x hx => by simp at hx⟩

theorem Row.any {w : World} {B : Nat} {T : TypeId} {v : Value} {l : List α} (h : Row E w B T v l) : ∃ a n cap, v = .slice a n cap := by
  obtain ⟨a, cap, e, _⟩ := h.shape
  exact ⟨a, _, cap, e⟩
/-- the store that ends a call -/
theorem Held.store {w w2 : World} {TN TL : TypeId} {n : Nat} {v v' : Value} {L L' : List α} (h : Held E w TN TL n v L) (hg : Grew E w w2 0 TL v v' L') :
    Held E (w2.setCell ⟨n, 1, none⟩ v') TN TL n v' L' ∧ Turned w (w2.setCell ⟨n, 1, none⟩ v') n v v' := by
  obtain ⟨ho, hg, hor, _⟩ := hg
  have hne : v'.ownBlock ≠ some n := by
    rcases hor with e | e
    · rw [e]; exact h.ne
    · intro e2; have := e n e2; have := h.lt; omega
  have hb2 : w2.heap[n]? = some (.cells #[.bool true, v] TN (0, 0)) := (hg.block n h.lt (fun e => h.ne e.symm)).trans h.blk
  have hs : (w2.setCell ⟨n, 1, none⟩ v').heap.size = w2.heap.size := by simp
  refine ⟨⟨set_one v' hb2, ho.keep fun b e => set_ne v' fun e2 => hne (by rw [e, e2]), hne⟩, ?_⟩
  have hB : Below 0 w2 (w2.setCell ⟨n, 1, none⟩ v') := (Below.refl 0 w2).setCell (Nat.zero_le _) v'
  refine ⟨hB.os.trans hg.os, hB.tape.trans hg.tape, hB.output.trans hg.output, by rw [hs]; exact hg.size, fun k hk h1 h2 => ?_, hor⟩
  rw [set_ne v' h1]
  exact hg.block k hk fun e => h2 e.symm

/-- cells of a block known whole -/
theorem blk1 {w : World} {b : Nat} {c0 : Value} {T : TypeId} (h : w.heap[b]? = some (.cells #[c0] T (0, 0))) : w.cell? ⟨b, 0, none⟩ = some c0 ∧ w.frozen? ⟨b, 0, none⟩ = false :=
  ⟨by rw [cell_of_row w b 0 _ _ _ h]; rfl, frozen_of_row w b 0 _ _ h⟩
theorem blk2 {w : World} {b : Nat} {c0 c1 : Value} {T : TypeId} (h : w.heap[b]? = some (.cells #[c0, c1] T (0, 0))) : w.cell? ⟨b, 0, none⟩ = some c0 ∧ w.cell? ⟨b, 1, none⟩ = some c1 ∧ w.frozen? ⟨b, 0, none⟩ = false ∧ w.frozen? ⟨b, 1, none⟩ = false :=
  ⟨by rw [cell_of_row w b 0 _ _ _ h]; rfl, by rw [cell_of_row w b 1 _ _ _ h]; rfl, frozen_of_row w b 0 _ _ h, frozen_of_row w b 1 _ _ h⟩
theorem blk3 {w : World} {b : Nat} {c0 c1 c2 : Value} {T : TypeId} (h : w.heap[b]? = some (.cells #[c0, c1, c2] T (0, 0))) : w.cell? ⟨b, 0, none⟩ = some c0 ∧ w.cell? ⟨b, 1, none⟩ = some c1 ∧ w.cell? ⟨b, 2, none⟩ = some c2 ∧ w.frozen? ⟨b, 0, none⟩ = false ∧ w.frozen? ⟨b, 1, none⟩ = false ∧ w.frozen? ⟨b, 2, none⟩ = false :=
  ⟨by rw [cell_of_row w b 0 _ _ _ h]; rfl, by rw [cell_of_row w b 1 _ _ _ h]; rfl, by rw [cell_of_row w b 2 _ _ _ h]; rfl, frozen_of_row w b 0 _ _ h, frozen_of_row w b 1 _ _ h, frozen_of_row w b 2 _ _ h⟩
theorem alloc_new (w : World) (o : Obj) : (w.alloc o).heap[w.heap.size]? = some o := heap_alloc_new w o
theorem alloc_below (w : World) (o : Obj) : Below w.heap.size w (w.alloc o) := (Below.refl _ _).alloc (Nat.le_refl _) _
theorem drew_below (w : World) : Below w.heap.size w w.drew := (Below.refl _ _).drew
end Ks
/- A volume's shape: geom.Check, Data and the reference's Right, Data. -/
namespace Go.Proofs.Ytgaoammkegcdcaa
open Go.RowKit Ks
set_option linter.unusedVariables false
abbrev geoV (b l f : Int) : Value := .agg #[.int .i64 b, .int .i64 l, .int .i64 f]
set_option maxHeartbeats 1000000 in
theorem gcheck_any (b l f : Int) (w : World) : Calls Try.prog 26 #[geoV b l f] w fun e w' => e = .returned (.int .i64 (geoE b l f)) ∧ Below w.heap.size w w' := by
  refine calls_by fun R HR => ?_
  have HB := Lib.hid (alloc_below w (.cells #[.int .i64 b, .int .i64 l, .int .i64 f] 24))
  rcases geo_cases b l f with ⟨h1, h⟩ | ⟨h1, h2, h⟩ | ⟨h1, h2, h3, h⟩ | ⟨h1, h2, h3, h4, h⟩ | ⟨h1, h2, h3, h4, h5, h⟩ | ⟨h1, h2, h3, h4, h5, h6, h⟩ | ⟨h1, h2, h3, h4, h5, h6, h⟩
  all_goals
    have HV : Hid (geoE b l f = (if geoOk b l f then 0 else 2)) := Lib.hid rfl
    rw [h] at HV
    clear h
    go_enter Try.func26, Try.ntmps26
    go_wp2
    exact HR.out _ _ ⟨by rw [HV.out] <;> rfl, HB.out⟩
set_option maxHeartbeats 1000000 in
theorem gright_any (b l f : Int) (w : World) : Calls Try.prog 35 #[geoV b l f] w fun e w' => e = .returned (.bool (geoOk b l f)) ∧ Below w.heap.size w w' := by
  refine calls_by fun R HR => ?_
  have HB := Lib.hid (alloc_below w (.cells #[.int .i64 b, .int .i64 l, .int .i64 f] 24))
  rcases geo_cases b l f with ⟨h1, h⟩ | ⟨h1, h2, h⟩ | ⟨h1, h2, h3, h⟩ | ⟨h1, h2, h3, h4, h⟩ | ⟨h1, h2, h3, h4, h5, h⟩ | ⟨h1, h2, h3, h4, h5, h6, h⟩ | ⟨h1, h2, h3, h4, h5, h6, h⟩
  all_goals
    have HV := Lib.hid h
    clear h
    try have hd : decide (f ≤ 4294967295) = false := by rw [decide_eq_false_iff_not]; omega
    go_enter Try.func35, Try.ntmps35
    go_wp2
    exact HR.out _ _ ⟨by rw [HV.out] <;> rfl, HB.out⟩
theorem gdata_any (b l f : Int) (w : World) (hb : -9223372036854775808 ≤ b ∧ b ≤ 9223372036854775807) : Calls Try.prog 27 #[geoV b l f] w fun e w' => e = .returned (.int .i64 (geoD b l f)) ∧ Below w.heap.size w w' := by
  refine calls_by fun R HR => ?_
  have HC := Lib.hid (fun w => gcheck_any b l f w)
  obtain ⟨W, hW⟩ : ∃ W, w.alloc (.cells #[.int .i64 b, .int .i64 l, .int .i64 f] 24) = W := ⟨_, rfl⟩
  have HW := Lib.hid (And.intro (show Below w.heap.size w W by rw [← hW]; exact alloc_below w _) (show W.heap[w.heap.size]? = some (.cells #[.int .i64 b, .int .i64 l, .int .i64 f] 24 (0, 0)) by rw [← hW]; exact alloc_new w _))
  obtain ⟨c0, c1, c2, -, -, -⟩ := blk3 HW.out.2
  cases h : geoOk b l f
  · have HV := Lib.hid (geo_no h).2.2
    rw [(geo_no h).2.1] at HC
    clear h hb
    go_enter Try.func27, Try.ntmps27
    go_wp2_with fail
    refine (HC.out _).mono ?_
    rintro e w1 ⟨rfl, hb1⟩
    have H1 := Lib.hid (HW.out.1.trans (hb1.mono HW.out.1.size))
    clear hb1
    go_wp2
    exact HR.out _ _ ⟨by rw [HV.out] <;> rfl, H1.out⟩
  · have HV := Lib.hid (geo_yes h).2
    rw [(geo_yes h).1] at HC
    obtain ⟨g1, g2, -⟩ := geo_ok.1 h
    clear h hb
    go_enter Try.func27, Try.ntmps27
    go_wp2_with fail
    refine (HC.out _).mono ?_
    rintro e w1 ⟨rfl, hb1⟩
    have H1 := Lib.hid (And.intro (HW.out.1.trans (hb1.mono HW.out.1.size)) ((hb1.block _ (lt_of_block HW.out.2)).trans HW.out.2))
    clear hb1 c0 c1 c2
    obtain ⟨c0, c1, c2, -, -, -⟩ := blk3 H1.out.2
    go_wp2
    exact HR.out _ _ ⟨by rw [HV.out] <;> rfl, H1.out.1⟩
theorem rgdata_any (b l f : Int) (w : World) (hb : -9223372036854775808 ≤ b ∧ b ≤ 9223372036854775807) : Calls Try.prog 43 #[geoV b l f] w fun e w' => e = .returned (.int .i64 (geoD b l f)) ∧ Below w.heap.size w w' := by
  refine calls_by fun R HR => ?_
  have HC := Lib.hid (fun w => gright_any b l f w)
  obtain ⟨W, hW⟩ : ∃ W, w.alloc (.cells #[.int .i64 b, .int .i64 l, .int .i64 f] 24) = W := ⟨_, rfl⟩
  have HW := Lib.hid (And.intro (show Below w.heap.size w W by rw [← hW]; exact alloc_below w _) (show W.heap[w.heap.size]? = some (.cells #[.int .i64 b, .int .i64 l, .int .i64 f] 24 (0, 0)) by rw [← hW]; exact alloc_new w _))
  obtain ⟨c0, c1, c2, -, -, -⟩ := blk3 HW.out.2
  cases h : geoOk b l f
  · have HV := Lib.hid (geo_no h).2.2
    simp only [h] at HC
    clear h hb
    go_enter Try.func43, Try.ntmps43
    go_wp2_with fail
    refine (HC.out _).mono ?_
    rintro e w1 ⟨rfl, hb1⟩
    have H1 := Lib.hid (HW.out.1.trans (hb1.mono HW.out.1.size))
    clear hb1
    go_wp2
    exact HR.out _ _ ⟨by rw [HV.out] <;> rfl, H1.out⟩
  · have HV := Lib.hid (geo_yes h).2
    obtain ⟨g1, g2, -⟩ := geo_ok.1 h
    simp only [h] at HC
    clear h hb
    go_enter Try.func43, Try.ntmps43
    go_wp2_with fail
    refine (HC.out _).mono ?_
    rintro e w1 ⟨rfl, hb1⟩
    have H1 := Lib.hid (And.intro (HW.out.1.trans (hb1.mono HW.out.1.size)) ((hb1.block _ (lt_of_block HW.out.2)).trans HW.out.2))
    clear hb1 c0 c1 c2
    obtain ⟨c0, c1, c2, -, -, -⟩ := blk3 H1.out.2
    go_wp2
    exact HR.out _ _ ⟨by rw [HV.out] <;> rfl, H1.out.1⟩
end Go.Proofs.Ytgaoammkegcdcaa
/- strings.Builder at this program: copyCheck and WriteString (the shelf's own contracts of these two do not fit the newer loader's text), and what a builder in other worlds is. -/
namespace Go.Proofs.Ytgaoammkegcdcaa
open Go.RowKit Ks
set_option linter.unusedVariables false

theorem Try.sizeBuilder : (Try.prog.info? 73).map (·.size) = some 2 := by kernel_rfl
theorem Try.liesBuilder : liesAt Try.prog Try.prog.depth 73 (2 / Try.prog.cellsOf 73) 0 73 1 = true := by kernel_rfl
theorem Try.infoByte' : (Try.prog.info? 5).map (fun i => (i.zero, i.size, i.bytes)) = some (some (.int .u8 0), 1, 1) := by kernel_rfl

set_option maxHeartbeats 1000000 in
set_option maxRecDepth 100000 in
theorem builder_check (B b : Nat) (bs : List Value) (w : World) (h : Lib.IsBuilder 73 5 B b bs w) :
    Calls Try.prog 49 #[.pointer (some ⟨b, 0, none⟩)] w fun e w' => e = .returned (.tuple #[]) ∧ (Lib.BuilderAt 73 5 B b (.pointer (some ⟨b, 0, none⟩)) bs w' ∧ Below B w w') := by
  obtain ⟨j, hj, hjs⟩ := Option.map_eq_some_iff.1 Try.sizeBuilder
  rcases h with h | h
  · have h0 := h.cell0
    have hsh := h.shape
    have hfz := h.frozen0
    have H := Lib.hid h
    clear h
    go_enter Try.func49, Try.ntmps49
    go_wp2
    rw [Lib.run_to_unsafe w ⟨b, 0, none⟩ Try.underlying71 Try.underlying108 hj (by rw [hjs]; decide) hsh (Nat.zero_lt_succ 1)]
    simp only [Result.andThen]
    rw [Oper.upon_value]
    go_wp2
    rw [run_callFunc_extern Try.func61 (by kernel_rfl) (by kernel_rfl) (by kernel_rfl) (e := Extern.AbiNoEscape.same) (by kernel_rfl)]
    rw [Lib.run_noEscape]
    simp only [Result.andThen]
    rw [Oper.upon_value]
    go_wp2
    rw [Lib.run_from_unsafe w ⟨b, 0, none⟩ Try.underlying108 Try.underlying71 hj hsh Try.liesBuilder]
    simp only [Result.andThen]
    rw [Oper.upon_value]
    go_wp2
    go_end0
    exact ⟨rfl, H.out.used _, (Below.refl B w).setCell (p := ⟨b, 0, none⟩) H.out.1 _⟩
  · have h0 := h.cell0
    have H := Lib.hid h
    clear h
    go_enter Try.func49, Try.ntmps49
    go_wp2
    rw [Lib.run_neq_ptr_same w _ Try.underlying71 hj]
    go_wp2
    go_end0
    exact ⟨rfl, H.out, Below.refl B _⟩

set_option maxHeartbeats 1000000 in
set_option maxRecDepth 100000 in
theorem builder_write (B b : Nat) (bs : List Value) (s : ByteArray) (w : World) (h : Lib.IsBuilder 73 5 B b bs w) (hlen : bs.length + s.size ≤ 140737488355328) (hBw : B ≤ w.heap.size) :
    Calls Try.prog 37 #[.pointer (some ⟨b, 0, none⟩), .string s] w fun e w' => e = .returned (.tuple #[.int .i64 s.size, .nilIface]) ∧ (Lib.BuilderAt 73 5 B b (.pointer (some ⟨b, 0, none⟩)) (bs ++ Lib.strCells s) w' ∧ Below B w w') := by
  obtain ⟨i0, hi, hz0, hz1, hz2⟩ := info_parts Try.infoByte'
  go_enter Try.func37, Try.ntmps37
  go_wp2_with (go_at_call 49; refine (builder_check B b bs _ h).mono ?_)
  rintro e w1 ⟨rfl, h1, hb1⟩
  obtain ⟨hB, v, hbk, hown, hne⟩ := h1
  have c0 : w1.cell? ⟨b, 0, none⟩ = some (.pointer (some ⟨b, 0, none⟩)) := by rw [Lib.cell_of_heap hbk]; rfl
  have c1 : w1.cell? ⟨b, 1, none⟩ = some v := by rw [Lib.cell_of_heap hbk]; rfl
  go_wp2_with (at_builtin; refine Lib.wpList_append_own_string _ rfl _ _ 67 9 rfl B 5 i0 Try.underlying67 Try.underlying9 hi hz0 hz1 hz2 _ _ _ rfl hown s rfl ?c3 ?c4 ?c5 ?_)
  case c3 => unfold maxLen; omega
  case c4 => omega
  case c5 => have := hb1.size; omega
  intro v' w2 hown' hgrow _
  have hlt : b < w1.heap.size := by
    rcases Nat.lt_or_ge b w1.heap.size with h' | h'
    · exact h'
    · simp [Array.getElem?_eq_none h'] at hbk
  have hb2 : w2.heap[b]? = some (.cells #[.pointer (some ⟨b, 0, none⟩), v] 73 (0, 0)) := by
    rw [hgrow.block b hlt (fun e => hne e.symm)]
    exact hbk
  have d0 : w2.cell? ⟨b, 0, none⟩ = some (.pointer (some ⟨b, 0, none⟩)) := by rw [Lib.cell_of_heap hb2]; rfl
  have d1 : w2.cell? ⟨b, 1, none⟩ = some v := by rw [Lib.cell_of_heap hb2]; rfl
  have f1 : w2.frozen? ⟨b, 1, none⟩ = false := Lib.frozen_of_heap hb2 1
  obtain ⟨ao, n', cap, rfl⟩ : ∃ ao n' cap, v' = .slice ao n' cap := by
    rcases hown'.2 with ⟨hv, _⟩ | ⟨g, cap, cur, hv, _⟩
    · exact ⟨_, _, _, hv⟩
    · exact ⟨_, _, _, hv⟩
  go_wp2
  go_ret2
  refine ⟨rfl, ?_, ?_⟩
  · exact Lib.BuilderAt.put (T := 73) (e := 5) hB hb2 (bs' := bs ++ Lib.strCells s) (by simpa [Lib.strCells_length] using hown') (by decide)
  · exact (hb1.grown hgrow (by have := hb1.size; omega) (fun k hk => (hown.lt k hk).1)).setCell (p := ⟨b, 1, none⟩) hB _

/-- a builder stays a builder where nothing that was there has turned -/
theorem builder_below {T e : TypeId} {B b : Nat} {p : Value} {bs : List Value} {w w' : World} (h : Lib.BuilderAt T e B b p bs w) (hb : Below w.heap.size w w') : Lib.BuilderAt T e B b p bs w' := by
  obtain ⟨hB, v, hbk, hown, hne⟩ := h
  have hlt : b < w.heap.size := Lib.BuilderAt.lt ⟨hB, v, hbk, hown, hne⟩
  exact ⟨hB, v, (hb.block b hlt).trans hbk, hown.kept (row := none) ⟨hb.os, hb.tape, hb.output, hb.size, fun k hk _ => hb.block k hk⟩ (by cases v.ownBlock <;> simp), hne⟩
theorem isBuilder_below {T e : TypeId} {B b : Nat} {bs : List Value} {w w' : World} (h : Lib.IsBuilder T e B b bs w) (hb : Below w.heap.size w w') : Lib.IsBuilder T e B b bs w' := by
  rcases h with h | h
  · exact .inl (builder_below h hb)
  · exact .inr (builder_below h hb)

end Go.Proofs.Ytgaoammkegcdcaa
/- What octet.Put answers. -/
namespace Go.Proofs.Ytgaoammkegcdcaa
open Go.RowKit Ks
set_option linter.unusedVariables false

theorem Try.infoByte : (Try.prog.info? 5).map (fun i => (i.zero, i.size, i.bytes)) = some (some (.int .u8 0), 1, 1) := by kernel_rfl

set_option maxHeartbeats 400000 in
theorem put_ok (n : Nat) (width : Nat) (w : World) (h1 : 1 ≤ width) (h2 : width ≤ 8) (h4 : n ≤ 9223372036854775807) (h5 : width < 8 → (n : Int) / 2 ^ (8 * width) ≤ 0) :
    Calls Try.prog 36 #[.int .i64 n, .int .i64 width] w fun e w' => e = .returned (.tuple #[.string ⟨(putL width n).toArray⟩, .int .i64 0]) ∧ Below w.heap.size w w' := by
  have hmk := fun w => run_make_row' (P := Try.prog) 67 5 (.int .u8 0) 1 Try.underlying67 Try.infoByte rfl .i64 .i64 width (by omega) (by omega) w
  have hcase : (width < 8 ∧ ¬ (0 < (n : Int) / 2 ^ (8 * width))) ∨ ¬ width < 8 := by
    by_cases h : width < 8
    · exact .inl ⟨h, by have := h5 h; omega⟩
    · exact .inr h
  clear h5
  rcases hcase with ⟨hA, hB⟩ | hA
  all_goals
    go_enter Try.func36, Try.ntmps36
    go_wp2
    go_loopw [32, 7] (fun i _ wr => ∃ k : Nat, k ≤ width ∧ i = .int .i64 k ∧ wr.rowIs w.heap.size 5 width (putCell n width k) ∧ Below w.heap.size w wr) (fun i _ _ => width - (intOf i).toNat)
    case atStart => exact ⟨0, by omega, rfl, (World.rowIs_made w (.int .u8 0) width 5).congr (by simp [putCell]), (Below.refl _ _).alloc (Nat.le_refl _) _⟩
    case round =>
      obtain ⟨k, hk, rfl, hrow, hbel⟩ := hrel
      by_cases hlt : k < width
      · have hcell : wr.cell? ⟨w.heap.size, width - 1 - k, none⟩ = some (putCell n width k (width - 1 - k)) := hrow.cell (by omega)
        have hfr := hrow.frozen (width - 1 - k)
        go_wp2
        go_roundw
        case rel => exact ⟨k + 1, by omega, by go_num, (hrow.set _ _).congr (fun j hj => putCell_succ n width k j hlt hj), hbel.setCell (Nat.le_refl _) _⟩
        case measure => simp [intOf]; omega
      · obtain rfl : k = width := by omega
        have hconv := conv_row (P := Try.prog) (src := 67) (dst := 9) (cap := k) (putL k n) Try.underlying67 Try.underlying5 Try.underlying9 hrow (by simp) (putCell_done n k)
        go_wp2
        go_ret2
        exact ⟨rfl, hbel⟩

set_option maxHeartbeats 400000 in
theorem put_err (n width : Int) (w : World) (h : width < 1 ∨ 8 < width ∨ n < 0 ∨ (1 ≤ width ∧ width < 8 ∧ 0 < n / 2 ^ (8 * width).toNat)) :
    Calls Try.prog 36 #[.int .i64 n, .int .i64 width] w fun e w' => e = .returned (.tuple #[.string ⟨#[]⟩, .int .i64 2]) ∧ w = w' := by
  rcases h with h | h | h | ⟨h1, h2, h3⟩
  · go_enter Try.func36, Try.ntmps36
    go_wp2
    go_ret2
    exact ⟨rfl, rfl⟩
  · go_enter Try.func36, Try.ntmps36
    go_wp2
    go_ret2
    exact ⟨rfl, rfl⟩
  · go_enter Try.func36, Try.ntmps36
    go_wp2
    all_goals first
      | (go_ret2; exact ⟨rfl, rfl⟩)
      | (exfalso; omega)
  · go_enter Try.func36, Try.ntmps36
    go_wp2
    all_goals first
      | (go_ret2; exact ⟨rfl, rfl⟩)
      | (go_ways; exfalso; omega)

theorem put_any (n width : Int) (w : World) (hn : n ≤ 9223372036854775807) :
    Calls Try.prog 36 #[.int .i64 n, .int .i64 width] w fun e w' => e = .returned (.tuple #[.string (putS n width), .int .i64 (putE n width)]) ∧ Below w.heap.size w w' := by
  unfold putS putE
  by_cases h : putOk n width = true
  · rw [if_pos h, if_pos h]
    simp only [putOk, decide_eq_true_eq] at h
    obtain ⟨h1, h2, h3, h4⟩ := h
    obtain ⟨n, rfl⟩ := Int.eq_ofNat_of_zero_le h3
    obtain ⟨width, rfl⟩ := Int.eq_ofNat_of_zero_le (show 0 ≤ width by omega)
    simp only [Int.toNat_natCast] at h4 ⊢
    refine put_ok n width w (by omega) (by omega) (by omega) (fun hw => ?_)
    have := h4 (by omega)
    have h2 : ((n / 2 ^ (8 * width) : Nat) : Int) = (n : Int) / 2 ^ (8 * width) := by simp
    omega
  · rw [if_neg h, if_neg h]
    simp only [putOk, decide_eq_true_eq] at h
    refine (put_err n width w ?_).mono fun e w' ⟨he, hw⟩ => ⟨he, hw ▸ Below.refl _ _⟩
    by_cases h1 : width < 1
    · exact .inl h1
    by_cases h2 : 8 < width
    · exact .inr (.inl h2)
    by_cases h3 : n < 0
    · exact .inr (.inr (.inl h3))
    refine .inr (.inr (.inr ?_))
    have h4 : ¬ (width < 8 → n.toNat / 2 ^ (8 * width.toNat) = 0) := fun hh => h ⟨by omega, by omega, by omega, hh⟩
    have h5 : width < 8 := by
      by_cases hh : width < 8
      · exact hh
      · exact absurd (fun x => absurd x hh) h4
    refine ⟨by omega, h5, ?_⟩
    have h6 : ¬ (n.toNat / 2 ^ (8 * width.toNat) = 0) := fun hh => h4 (fun _ => hh)
    obtain ⟨n, rfl⟩ := Int.eq_ofNat_of_zero_le (show 0 ≤ n by omega)
    obtain ⟨width, rfl⟩ := Int.eq_ofNat_of_zero_le (show 0 ≤ width by omega)
    have h2 : ((n / 2 ^ (8 * width) : Nat) : Int) = (n : Int) / 2 ^ (8 * width) := by simp
    rw [show (8 * (width : Int)).toNat = 8 * width by omega]
    rw [Int.toNat_natCast, Int.toNat_natCast] at h6
    rw [← h2]
    exact Int.natCast_pos.2 (Nat.pos_of_ne_zero h6)

end Go.Proofs.Ytgaoammkegcdcaa
/- What octet.Pack and the reference's Pack answer. -/
namespace Go.Proofs.Ytgaoammkegcdcaa
open Go.RowKit Ks
set_option linter.unusedVariables false

set_option maxHeartbeats 400000 in
theorem pack_any (wv lv : Value) (ws l : List Int) (w : World) (hw : RdI w wv ws) (hl : RdI w lv l) (hlen : l.length ≤ 1000000) :
    Calls Try.prog 22 #[wv, lv] w fun e w' => e = .returned (.tuple #[.string (packS ws l), .int .i64 (packE ws l)]) ∧ Below w.heap.size w w' := by
  refine calls_by fun R HR => ?_
  have Hw := Lib.hid hw
  have Hl := Lib.hid hl
  obtain ⟨aw, cw, rfl, -, -⟩ := hw
  obtain ⟨al, cl, rfl, -, -⟩ := hl
  by_cases hne : ws.length = l.length
  · have hb : ((l.length : Int) != (ws.length : Int)) = false := by simp [hne]
    have Hne := Lib.hid hne
    clear hne
    go_enter Try.func22, Try.ntmps22
    go_wp2
    go_loopw [18] (fun i wr => ∃ k : Nat, k ≤ l.length ∧ i = .int .i64 k ∧ Hid (∀ i, i < k → putOk (l.getD i 0) (ws.getD i 0) = true) ∧ Lib.IsBuilder 73 5 w.heap.size w.heap.size (Lib.byteCells (packTo ws l k)) wr ∧ Below w.heap.size w wr) (fun i _ => l.length - (intOf i).toNat)
    case atStart => exact ⟨0, by omega, rfl, Lib.hid (fun i hi => absurd hi (by omega)), Lib.fresh_isBuilder _ _ _, (Below.refl _ _).alloc (Nat.le_refl _) _⟩
    case round =>
      obtain ⟨k, hk, rfl, hok, hbu, hbel⟩ := hrel
      have Hbu := Lib.hid hbu
      clear hbu
      by_cases hlt : k < l.length
      · obtain ⟨bl, ol, rfl, hlb, hlc⟩ := Hl.out.cell k hlt
        obtain ⟨bw, ow, rfl, hwb, hwc⟩ := Hw.out.cell k (by have := Hne.out; omega)
        have hlc' := (hbel.cell (p := ⟨bl, ol + k, none⟩) hlb).trans hlc
        have hwc' := (hbel.cell (p := ⟨bw, ow + k, none⟩) hwb).trans hwc
        have hr := Hl.out.range k hlt
        have hkw : k < ws.length := by have := Hne.out; omega
        clear hlc hwc
        go_wp2_with fail
        refine (put_any _ _ _ (by omega)).mono ?_
        rintro e w1 ⟨rfl, hb1⟩
        by_cases hp : putOk l[k] ws[k] = true
        · have he : putE l[k] ws[k] = 0 := by unfold putE; rw [if_pos hp]
          have hs : putS l[k] ws[k] = ⟨(putL (ws.getD k 0).toNat (l.getD k 0).toNat).toArray⟩ := by
            unfold putS; rw [if_pos hp]; simp [hlt, hkw]
          have Hs := Lib.hid hs
          clear hs
          have Hp := Lib.hid hp
          clear hp
          go_wp2_with fail
          refine (builder_write w.heap.size w.heap.size (Lib.byteCells (packTo ws l k)) _ _ (isBuilder_below Hbu.out hb1) ?_ ?_).mono ?_
          · have h1 := packTo_length ws l k hok.out
            have h2 := putOk_width Hp.out
            rw [byteCells_length, Hs.out]
            have h3 : (⟨(putL (ws.getD k 0).toNat (l.getD k 0).toNat).toArray⟩ : ByteArray).size = (ws.getD k 0).toNat := by
              show (putL (ws.getD k 0).toNat (l.getD k 0).toNat).length = _
              simp
            have h4 : ws.getD k 0 = ws[k] := by simp [hkw]
            rw [h3, h4]
            omega
          · have := hbel.size; have := hb1.size; omega
          rintro e w2 ⟨rfl, hbu2, hb2⟩
          have Hbu2 := Lib.hid hbu2
          clear hbu2
          go_wp2
          go_roundw
          case rel =>
            refine ⟨k + 1, by omega, by go_num, ?_, ?_, ?_⟩
            · refine Lib.hid fun i hi => ?_
              by_cases hik : i = k
              · subst hik
                simpa [hlt, hkw] using Hp.out
              · exact hok.out i (by omega)
            · rw [Hs.out, strCells_mk, ← byteCells_append] at Hbu2
              exact .inr Hbu2.out
            · exact hbel.trans ((hb1.mono hbel.size).trans hb2)
          case measure => simp [intOf]; omega
        · have he : putE l[k] ws[k] = 2 := by unfold putE; rw [if_neg hp]
          have Hp := Lib.hid hp
          clear hp
          go_wp2
          refine HR.out _ _ ⟨?_, hbel.trans (hb1.mono hbel.size)⟩
          have hf : ¬ packOk ws l = true := by
            intro h
            simp only [packOk, decide_eq_true_eq] at h
            exact Hp.out (by simpa [hlt, hkw] using h.2 k hlt)
          rw [packS, packE, if_neg hf, if_neg hf]
          rfl
      · obtain rfl : k = l.length := by omega
        go_wp2_with fail
        refine (Try.Builder_String_any w.heap.size w.heap.size _ _ Hbu.out hbel.size).mono ?_
        rintro e w1 ⟨rfl, hb1⟩
        go_wp2
        refine HR.out _ _ ⟨?_, hbel.trans hb1⟩
        have hf : packOk ws l = true := by
          simp only [packOk, decide_eq_true_eq]
          exact ⟨Hne.out, hok.out⟩
        rw [packS, packE, if_pos hf, if_pos hf]
        rfl
  · have hb : ((l.length : Int) != (ws.length : Int)) = true := by simp; omega
    have Hne := Lib.hid hne
    clear hne
    go_enter Try.func22, Try.ntmps22
    go_wp2
    refine HR.out _ _ ⟨?_, Below.refl _ _⟩
    have hf : ¬ packOk ws l = true := by
      intro h
      simp only [packOk, decide_eq_true_eq] at h
      exact Hne.out h.1
    rw [packS, packE, if_neg hf, if_neg hf]
    rfl

end Go.Proofs.Ytgaoammkegcdcaa
/- What octet.Get and the reference's Get answer. -/
namespace Go.Proofs.Ytgaoammkegcdcaa
open Go.RowKit Ks
set_option linter.unusedVariables false

set_option maxHeartbeats 400000 in
theorem get_err (s : ByteArray) (w : World) (h : s.size = 0 ∨ 8 < s.size ∨ ∃ h : s.size = 8, 127 < (s[0]'(by omega)).toNat) :
    Calls Try.prog 33 #[.string s] w fun e w' => e = .returned (.tuple #[.int .i64 0, .int .i64 3]) ∧ w = w' := by
  refine calls_by fun R HR => ?_
  rcases h with h | h | ⟨h, h'⟩
  · obtain rfl := str_none s h
    go_enter Try.func33, Try.ntmps33
    go_wp2
    exact HR.out _ _ ⟨rfl, rfl⟩
  · obtain ⟨h1, h2⟩ := str_some s (by omega)
    go_enter Try.func33, Try.ntmps33
    go_wp2
    exact HR.out _ _ ⟨rfl, rfl⟩
  · obtain ⟨h1, h2⟩ := str_some s (by omega)
    go_enter Try.func33, Try.ntmps33
    go_wp2
    exact HR.out _ _ ⟨rfl, rfl⟩

set_option maxHeartbeats 400000 in
theorem get_ok (s : ByteArray) (w : World) (h : 0 < s.size) (hs : s.size < 8 ∨ ∃ h : s.size = 8, ¬ 127 < (s[0]'(by omega)).toNat) (hN : getN s.data.toList ≤ 9223372036854775807) :
    Calls Try.prog 33 #[.string s] w fun e w' => e = .returned (.tuple #[.int .i64 (getN s.data.toList), .int .i64 0]) ∧ w = w' := by
  refine calls_by fun R HR => ?_
  obtain ⟨h1, h2⟩ := str_some s (by omega)
  have h8 : ¬ 8 < (s.size : Int) := by rcases hs with hs | ⟨hs, _⟩ <;> omega
  have HS : Hid (∀ k, (hk : k < s.size) → getN (s.data.toList.take (k + 1)) = getN (s.data.toList.take k) * 256 + (s[k]).toNat) := by
    intro k hk; rw [take_snoc s k hk, getN_snoc]
  have HL : Hid (∀ k, getN (s.data.toList.take k) ≤ 9223372036854775807) := fun k => Nat.le_trans (getN_take_le _ _) hN
  have HE : Hid (getN (s.data.toList.take s.size) = getN s.data.toList) := Lib.hid (by rw [List.take_of_length_le (by rw [data_length]; omega)])
  clear hN
  rcases hs with hs | ⟨hs, hs'⟩
  all_goals
    go_enter Try.func33, Try.ntmps33
    go_wp2
    go_loop [4, 25, 5] (fun n i _ => ∃ k m : Nat, k ≤ s.size ∧ i = .int .i64 k ∧ n = .int .i64 m ∧ Hid (m = getN (s.data.toList.take k))) (fun _ i _ => s.size - (intOf i).toNat)
    case atStart => exact ⟨0, 0, by omega, rfl, rfl, Lib.hid (by simp [getN])⟩
    case round =>
      obtain ⟨k, m, hk, rfl, rfl, hm⟩ := hrel
      by_cases hlt : k < s.size
      · have hb := (s[k]).toNat_lt
        have hm1 : m * 256 + (s[k]).toNat ≤ 9223372036854775807 := by have a := HS.out k hlt; have b := HL.out (k + 1); rw [hm.out]; omega
        have hm2 : (m : Int) * 256 ≤ 9223372036854775807 := by omega
        have hor := or8 m (s[k]).toNat hm1 hb
        go_wp2
        go_round
        case rel => exact ⟨k + 1, m * 256 + (s[k]).toNat, by omega, by go_num, by go_num, Lib.hid (by rw [hm.out, HS.out k hlt])⟩
        case measure => simp [intOf]; omega
      · obtain rfl : k = s.size := by omega
        go_wp2
        refine HR.out _ _ ⟨?_, rfl⟩
        rw [hm.out, HE.out]

theorem get_any (s : ByteArray) (w : World) :
    Calls Try.prog 33 #[.string s] w fun e w' => e = .returned (.tuple #[.int .i64 (getV s), .int .i64 (getE s)]) ∧ w = w' := by
  unfold getV getE
  have hl := data_length s
  by_cases h : getOk s.data.toList = true
  · rw [if_pos h, if_pos h]
    simp only [getOk, decide_eq_true_eq, hl] at h
    refine get_ok s w (by omega) ?_ h.2.2
    by_cases h8 : s.size = 8
    · exact .inr ⟨h8, (getN_head s h8).1 h.2.2⟩
    · exact .inl (by omega)
  · rw [if_neg h, if_neg h]
    simp only [getOk, decide_eq_true_eq, hl] at h
    refine get_err s w ?_
    by_cases h0 : s.size = 0
    · exact .inl h0
    by_cases h8 : 8 < s.size
    · exact .inr (.inl h8)
    have hn : ¬ getN s.data.toList ≤ 9223372036854775807 := fun hh => h ⟨by omega, by omega, hh⟩
    by_cases h9 : s.size = 8
    · refine .inr (.inr ⟨h9, ?_⟩)
      have := mt (getN_head s h9).2 hn
      omega
    · exfalso
      have h1 := getN_lt s.data.toList
      have h2 : 256 ^ s.data.toList.length ≤ 256 ^ 7 := Nat.pow_le_pow_right (by omega) (by omega)
      have h7 : (256 : Nat) ^ 7 = 72057594037927936 := by decide
      omega

end Go.Proofs.Ytgaoammkegcdcaa
/- What octet.Unpack answers. -/
namespace Go.Proofs.Ytgaoammkegcdcaa
open Go.RowKit Ks
set_option linter.unusedVariables false

/-- the closure cuts so many bytes off its text -/
theorem cut_off (n : Nat) (b : Nat) (s : ByteArray) (t : TypeId) (w : World) (hn : n ≤ s.size) (hs : s.size ≤ 9223372036854775807) (hb : w.heap[b]? = some (.cells #[.string s] t (0, 0))) :
    Calls Try.prog 32 #[.int .i64 n, .pointer (some ⟨b, 0, none⟩)] w fun e w' => e = .returned (.string (s.extract 0 n)) ∧ w' = w.setCell ⟨b, 0, none⟩ (.string (s.extract n s.size)) := by
  have hc := cell_of_one hb
  have hf := free_of_one hb
  refine calls_by fun R HR => ?_
  go_enter Try.func32, Try.ntmps32
  go_wp2
  exact HR.out _ _ ⟨rfl, rfl⟩

theorem Try.infoInt : (Try.prog.info? 3).map (fun i => (i.zero, i.size, i.bytes)) = some (some (.int .i64 0), 1, 8) := by kernel_rfl

set_option maxHeartbeats 1000000 in
theorem unpack_any (wv : Value) (ws : List Int) (s : ByteArray) (w : World) (hw : RdI w wv ws) (hlen : ws.length ≤ 1000000) (hs : s.size ≤ 9223372036854775807) :
    Calls Try.prog 18 #[wv, .string s] w fun e w' => ∃ v, e = .returned (.tuple #[v, .int .i64 (unpackE ws s)]) ∧ RdI w' v (unpackL ws s) ∧ Below w.heap.size w w' := by
  refine calls_by fun R HR => ?_
  have Hw := Lib.hid hw
  obtain ⟨aw, cw, rfl, -, -⟩ := hw
  obtain ⟨i0, hi, hz0, hz1, hz2⟩ := info_parts Try.infoInt
  have hmf : ∀ (fn : Fn) (first cap : Array Value) (w : World), (Instr.makeFunc fn first cap).run Try.prog w = .ok (.func fn first cap) w := fun _ _ _ _ => rfl
  go_enter Try.func18, Try.ntmps18
  go_wp2
  go_loop [17, 6] (fun i a => ∃ k m : Nat, k ≤ ws.length ∧ i = .int .i64 k ∧ a = .int .i64 m ∧ Hid (m = sumTo ws k ∧ ∀ i, i < k → 1 ≤ ws.getD i 0 ∧ ws.getD i 0 ≤ 8)) (fun i _ => ws.length - (intOf i).toNat)
  case atStart => exact ⟨0, 0, by omega, rfl, rfl, Lib.hid ⟨rfl, fun i hi => absurd hi (by omega)⟩⟩
  case round =>
    obtain ⟨k, m, hk, rfl, rfl, hkm⟩ := hrel
    by_cases hlt : k < ws.length
    · obtain ⟨bw, ow, rfl, hwb, hwc⟩ := Hw.out.cell k hlt
      have hm : m ≤ 8 * k := by rw [hkm.out.1]; exact sumTo_le ws k hkm.out.2
      have hg : ws.getD k 0 = ws[k] := by simp [hlt]
      have Hg := Lib.hid hg
      clear hg
      have hbad : (ws[k] < 1 ∨ 8 < ws[k]) → unpackE ws s = 2 := fun h => by
        rw [unpackE, if_neg]
        simp only [widthsOk, decide_eq_true_eq]
        intro hh
        have := hh k hlt
        rw [Hg.out] at this
        omega
      by_cases h1 : ws[k] < 1
      · have Hb := Lib.hid (hbad (.inl h1))
        clear hbad
        go_wp2
        refine HR.out _ _ ⟨.slice none 0 0, ?_, ?_, (Below.refl _ _).alloc (Nat.le_refl _) _⟩
        · rw [Hb.out]
        · rw [unpackL, Hb.out]; exact RdI.nil _
      by_cases h2 : 8 < ws[k]
      · have Hb := Lib.hid (hbad (.inr h2))
        clear hbad
        go_wp2
        refine HR.out _ _ ⟨.slice none 0 0, ?_, ?_, (Below.refl _ _).alloc (Nat.le_refl _) _⟩
        · rw [Hb.out]
        · rw [unpackL, Hb.out]; exact RdI.nil _
      clear hbad
      go_wp2
      go_round
      case rel =>
        refine ⟨k + 1, m + ws[k].toNat, by omega, by go_num, by go_num, Lib.hid ⟨?_, ?_⟩⟩
        · rw [hkm.out.1, sumTo, Hg.out]
        · intro i hi
          by_cases hik : i = k
          · subst hik; rw [Hg.out]; omega
          · exact hkm.out.2 i (by omega)
      case measure => simp [intOf]; omega
    · obtain rfl : k = ws.length := by omega
      have hm : m ≤ 8 * ws.length := by rw [hkm.out.1]; exact sumTo_le ws _ hkm.out.2
      have Hok : Hid (widthsOk ws = true) := Lib.hid (by simp only [widthsOk, decide_eq_true_eq]; exact hkm.out.2)
      by_cases hsz : s.size = m
      · have hb : ((s.size : Int) != (m : Int)) = false := by simp [hsz]
        have Hsz := Lib.hid hsz
        clear hsz
        have hwok := Hok.out
        simp only [widthsOk, decide_eq_true_eq] at hwok
        have HW := Lib.hid hwok
        clear hwok
        go_wp2
        go_loopw [38, 10] (fun i v wr => ∃ k : Nat, k ≤ ws.length ∧ i = .int .i64 k ∧ wr.ownsRow (w.heap.size + 1) 3 1 v k ((unpackTo ws s.data.toList k).map (Value.int .i64)) ∧
            wr.heap[w.heap.size]? = some (.cells #[.string (s.extract (sumTo ws k) s.size)] 9 (0, 0)) ∧ Hid (∀ i, i < k → getOk (piece ws s.data.toList i) = true) ∧ Below w.heap.size w wr) (fun i _ _ => ws.length - (intOf i).toNat)
        case atStart => exact ⟨0, by omega, rfl, World.ownsRow_nil _ _ _ _, by rw [heap_alloc_new]; simp [sumTo], Lib.hid (fun i hi => absurd hi (by omega)), (Below.refl _ _).alloc (Nat.le_refl _) _⟩
        case round =>
          obtain ⟨k, hk, rfl, hown, hblk, hpk, hbel⟩ := hrel
          by_cases hlt : k < ws.length
          · obtain ⟨bw, ow, rfl, hwb, hwc⟩ := Hw.out.cell k hlt
            have hg : ws.getD k 0 = ws[k] := by simp [hlt]
            have hr := HW.out k hlt
            rw [hg] at hr
            obtain ⟨n, hn⟩ : ∃ n : Nat, ws[k] = n := ⟨ws[k].toNat, by omega⟩
            have hgn : (ws.getD k 0).toNat = n := by rw [hg, hn]; rfl
            have hwc' : wr.cell? ⟨bw, ow + k, none⟩ = some (.int .i64 (n : Int)) := by rw [← hn]; exact (hbel.cell (p := ⟨bw, ow + k, none⟩) hwb).trans hwc
            clear hwc hg
            have hsum : sumTo ws (k + 1) ≤ s.size := by rw [Hsz.out, hkm.out.1]; exact sumTo_mono ws _ _ (by omega)
            have hrp := rest_piece ws s k hsum
            have hrn := rest_next ws s k hsum
            rw [hgn] at hrp hrn
            have Hrp := Lib.hid hrp
            have Hrn := Lib.hid hrn
            have Hn := Lib.hid hn
            have hsz1 : (s.extract (sumTo ws k) s.size).size = s.size - sumTo ws k := by simp [ByteArray.size_extract]
            have hnl : n ≤ (s.extract (sumTo ws k) s.size).size := by
              rw [hsz1]; simp only [sumTo, hgn] at hsum; omega
            have HS1 := Lib.hid hsz1
            clear hrp hrn hn hsz1 hgn
            go_wp2_with fail
            refine (cut_off n w.heap.size _ 9 wr hnl (by rw [HS1.out]; omega) hblk).mono ?_
            rintro e w1 ⟨rfl, rfl⟩
            go_wp2_with fail
            refine (get_any _ _).mono ?_
            rintro e w1 ⟨rfl, rfl⟩
            have own1 := ownsRow_setCell_below hown (a := ⟨w.heap.size, 0, none⟩) (by show w.heap.size < _; omega) (.string ((s.extract (sumTo ws k) s.size).extract n (s.size - sumTo ws k)))
            have blk1 := one_setCell (u := .string ((s.extract (sumTo ws k) s.size).extract n (s.size - sumTo ws k))) hblk
            have bel1 := hbel.setCell (p := ⟨w.heap.size, 0, none⟩) (Nat.le_refl _) (.string ((s.extract (sumTo ws k) s.size).extract n (s.size - sumTo ws k)))
            generalize wr.setCell ⟨w.heap.size, 0, none⟩ (.string ((s.extract (sumTo ws k) s.size).extract n (s.size - sumTo ws k))) = w1 at *
            rw [Hrn.out] at blk1
            have Own := Lib.hid own1
            have Blk := Lib.hid blk1
            clear own1 blk1 hown hblk hbel
            by_cases hp : getOk (piece ws s.data.toList k) = true
            · have hv : getV ((s.extract (sumTo ws k) s.size).extract 0 n) = (getN (piece ws s.data.toList k) : Int) := by rw [getV, Hrp.out, if_pos hp]
              have he : getE ((s.extract (sumTo ws k) s.size).extract 0 n) = 0 := by rw [getE, Hrp.out, if_pos hp]
              rw [hv, he]
              have Hp := Lib.hid hp
              have hx : getN (piece ws s.data.toList k) ≤ 9223372036854775807 := by simp only [getOk, decide_eq_true_eq] at hp; exact hp.2.2
              generalize hx0 : getN (piece ws s.data.toList k) = x at *
              have Hx := Lib.hid hx0
              clear hp hv he hx0 hwc'
              have hwsz := bel1.size
              go_wp2_with (at_builtin; refine wpList_append_own _ rfl _ _ 47 rfl (w.heap.size + 1) 3 i0 (.int .i64 0) 1 8 Try.underlying47 hi hz0 hz1 hz2 rfl (by decide) _ _ _ rfl (Own.out.alloc _) ⟨w1.heap.size, 0, none⟩ 1 1 [.int .i64 (x : Int)] rfl rfl ?c1 ?c2 ?c3 ?c4 ?c5 ?_)
              case c1 =>
                intro j u hj
                match j, hj with
                | 0, hj => simp at hj; subst hj; simp [Addr.add]
              case c2 => intro u hu; simp at hu; subst hu; rfl
              case c3 => unfold maxLen; omega
              case c4 => omega
              case c5 => simp; omega
              intro v' w2 hown' hgrow _
              have Own2 := Lib.hid hown'
              have Grow := Lib.hid hgrow
              clear hown' hgrow
              go_wp2
              go_roundw
              case rel =>
                refine ⟨k + 1, by omega, by go_num, ?_, ?_, ?_, ?_⟩
                · have := Own2.out
                  rw [unpackTo_succ, List.map_append, Hx.out]
                  exact this
                · rw [Grow.out.block w.heap.size (by simp; omega) (fun e => by have := (Own.out.lt w.heap.size e.symm).1; omega), Below.heap_alloc _ _ _ (lt_of_block Blk.out)]
                  exact Blk.out
                · refine Lib.hid fun i hi => ?_
                  by_cases hik : i = k
                  · subst hik; exact Hp.out
                  · exact hpk.out i (by omega)
                · exact (bel1.alloc hwsz _).grown Grow.out (by simp; omega) (fun j hj => by have := (Own.out.lt j hj).1; omega)
              case measure => simp [intOf]; omega
            · have he : getE ((s.extract (sumTo ws k) s.size).extract 0 n) = 3 := by rw [getE, Hrp.out, if_neg hp]
              rw [he]
              have Hp := Lib.hid hp
              clear hp he hwc'
              go_wp2
              have hpo : ¬ piecesOk ws s.data.toList = true := by simp only [piecesOk, decide_eq_true_eq]; exact fun h => Hp.out (h k hlt)
              have he : unpackE ws s = 3 := by rw [unpackE, if_pos Hok.out, if_pos (by rw [← hkm.out.1]; exact Hsz.out), if_neg hpo]
              refine HR.out _ _ ⟨.slice none 0 0, ?_, ?_, bel1⟩
              · rw [he]; try rfl
              · rw [unpackL, he]; exact RdI.nil _
          · obtain rfl : k = ws.length := by omega
            go_wp2
            have hpo : piecesOk ws s.data.toList = true := by simp only [piecesOk, decide_eq_true_eq]; exact hpk.out
            have he : unpackE ws s = 0 := by rw [unpackE, if_pos Hok.out, if_pos (by rw [← hkm.out.1]; exact Hsz.out), if_pos hpo]
            refine HR.out _ _ ⟨u10, ?_, ?_, hbel⟩
            · rw [he]; try rfl
            · rw [unpackL, if_pos he]
              refine RdI.owned (B := w.heap.size + 1) (e := 3) (by rw [unpackTo_length]; exact hown) ?_
              intro x hx
              simp only [unpackTo, List.mem_map, List.mem_range] at hx
              obtain ⟨i, hi', rfl⟩ := hx
              have := hpk.out i hi'
              simp only [getOk, decide_eq_true_eq] at this
              omega
      · have hb : ((s.size : Int) != (m : Int)) = true := by simp; omega
        have Hsz := Lib.hid hsz
        clear hsz
        go_wp2
        have he : unpackE ws s = 3 := by rw [unpackE, if_pos Hok.out, if_neg (by rw [← hkm.out.1]; exact Hsz.out)]
        refine HR.out _ _ ⟨.slice none 0 0, ?_, ?_, (Below.refl _ _).alloc (Nat.le_refl _) _⟩
        · rw [he]; try rfl
        · rw [unpackL, he]; exact RdI.nil _

end Go.Proofs.Ytgaoammkegcdcaa
/- What the reference's Put answers. -/
namespace Go.Proofs.Ytgaoammkegcdcaa
open Go.RowKit Ks
set_option linter.unusedVariables false

set_option maxHeartbeats 400000 in
theorem rput_err (n width : Int) (w : World) (h : width < 1 ∨ 8 < width ∨ n < 0) :
    Calls Try.prog 29 #[.int .i64 n, .int .i64 width] w fun e w' => e = .returned (.tuple #[.string ⟨#[]⟩, .int .i64 2]) ∧ w = w' := by
  rcases h with h | h | h
  all_goals
    go_enter Try.func29, Try.ntmps29
    go_wp2
    all_goals first
      | (go_ret2; exact ⟨rfl, rfl⟩)
      | (exfalso; omega)

set_option maxHeartbeats 400000 in
theorem rput_ok (n : Nat) (width : Nat) (w : World) (h1 : 1 ≤ width) (h2 : width ≤ 8) (h4 : n ≤ 9223372036854775807) :
    Calls Try.prog 29 #[.int .i64 n, .int .i64 width] w fun e w' => (n / 256 ^ width = 0 → e = .returned (.tuple #[.string ⟨(putL width n).toArray⟩, .int .i64 0])) ∧ (0 < n / 256 ^ width → e = .returned (.tuple #[.string ⟨#[]⟩, .int .i64 2])) ∧ Below w.heap.size w w' := by
  refine calls_by fun R HR => ?_
  have hc := @conv_one Try.prog 67 9 5 Try.underlying67 Try.underlying5 Try.underlying9
  go_enter Try.func29, Try.ntmps29
  go_wp2
  go_loopw [0, 6, 7] (fun nv out i wr => ∃ k m : Nat, k ≤ width ∧ i = .int .i64 k ∧ nv = .int .i64 m ∧ m ≤ n ∧ Hid (m = n / 256 ^ k) ∧ out = .string ⟨(putL k n).toArray⟩ ∧ Below w.heap.size w wr) (fun _ _ i _ => width - (intOf i).toNat)
  case atStart => exact ⟨0, n, by omega, rfl, rfl, by omega, Lib.hid (by simp), rfl, Below.refl _ _⟩
  case round =>
    obtain ⟨k, m, hk, rfl, rfl, hm, hmk, rfl, hbel⟩ := hrel
    by_cases hlt : k < width
    · go_wp2
      go_roundw
      case rel =>
        refine ⟨k + 1, m / 256, by omega, by go_num, by simp, by omega, Lib.hid ?_, ?_, hbel.alloc hbel.size _⟩
        · rw [hmk.out, Nat.div_div_eq_div_mul, Nat.pow_succ]
        · rw [putL_succ', hmk.out, ByteArray.mk_append_one, ofNat_mod]
      case measure => simp [intOf]; omega
    · obtain rfl : k = width := by omega
      by_cases h0 : 0 < (m : Int)
      · go_wp2
        exact HR.out _ _ ⟨fun h => absurd h (by rw [← hmk.out]; omega), fun _ => rfl, hbel⟩
      · go_wp2
        exact HR.out _ _ ⟨fun _ => rfl, fun h => absurd h (by rw [← hmk.out]; omega), hbel⟩

theorem rput_any (n width : Int) (w : World) (hn : n ≤ 9223372036854775807) :
    Calls Try.prog 29 #[.int .i64 n, .int .i64 width] w fun e w' => e = .returned (.tuple #[.string (putS n width), .int .i64 (putE n width)]) ∧ Below w.heap.size w w' := by
  unfold putS putE
  by_cases h : width < 1 ∨ 8 < width ∨ n < 0
  · have hf : ¬ putOk n width = true := by simp only [putOk, decide_eq_true_eq]; omega
    rw [if_neg hf, if_neg hf]
    exact (rput_err n width w h).mono fun e w' ⟨he, hw⟩ => ⟨he, hw ▸ Below.refl _ _⟩
  · obtain ⟨n, rfl⟩ := Int.eq_ofNat_of_zero_le (show 0 ≤ n by omega)
    obtain ⟨width, rfl⟩ := Int.eq_ofNat_of_zero_le (show 0 ≤ width by omega)
    refine (rput_ok n width w (by omega) (by omega) (by omega)).mono fun e w' ⟨h1, h2, h3⟩ => ?_
    have hp : putOk n width = true ↔ n / 256 ^ width = 0 := by
      simp only [putOk, decide_eq_true_eq, Int.toNat_natCast]
      rw [show (256 : Nat) ^ width = 2 ^ (8 * width) by rw [Nat.pow_mul]]
      constructor
      · rintro ⟨_, _, _, h⟩
        by_cases hw : width < 8
        · exact h (by omega)
        · obtain rfl : width = 8 := by omega
          exact Nat.div_eq_of_lt (by omega)
      · exact fun h => ⟨by omega, by omega, by omega, fun _ => h⟩
    by_cases h0 : n / 256 ^ width = 0
    · rw [if_pos (hp.2 h0), if_pos (hp.2 h0)]
      exact ⟨h1 h0, h3⟩
    · have hf : ¬ putOk n width = true := fun h => h0 (hp.1 h)
      rw [if_neg hf, if_neg hf]
      exact ⟨h2 (Nat.pos_of_ne_zero h0), h3⟩

end Go.Proofs.Ytgaoammkegcdcaa
/- What the reference's Get answers. -/
namespace Go.Proofs.Ytgaoammkegcdcaa
open Go.RowKit Ks
set_option linter.unusedVariables false

set_option maxHeartbeats 400000 in
theorem rget_err (s : ByteArray) (w : World) (h : s.size = 0 ∨ 8 < s.size ∨ ∃ h : s.size = 8, 127 < (s[0]'(by omega)).toNat) :
    Calls Try.prog 20 #[.string s] w fun e w' => e = .returned (.tuple #[.int .i64 0, .int .i64 3]) ∧ w = w' := by
  refine calls_by fun R HR => ?_
  replace h : s.size = 0 ∨ 8 < s.size ∨ ∃ h : s.size = 8, (128 : Int) ≤ ((s[0]'(by omega)).toNat : Int) := by
    rcases h with h | h | ⟨h, h'⟩
    · exact .inl h
    · exact .inr (.inl h)
    · exact .inr (.inr ⟨h, by omega⟩)
  rcases h with h | h | ⟨h, h'⟩
  all_goals
    go_enter Try.func20, Try.ntmps20
    go_wp2
    exact HR.out _ _ ⟨rfl, rfl⟩

set_option maxHeartbeats 400000 in
theorem rget_ok (s : ByteArray) (w : World) (h : 0 < s.size) (hs : s.size < 8 ∨ ∃ h : s.size = 8, ¬ 127 < (s[0]'(by omega)).toNat) (hN : getN s.data.toList ≤ 9223372036854775807) :
    Calls Try.prog 20 #[.string s] w fun e w' => e = .returned (.tuple #[.int .i64 (getN s.data.toList), .int .i64 0]) ∧ w = w' := by
  refine calls_by fun R HR => ?_
  have h8 : ¬ 8 < (s.size : Int) := by rcases hs with hs | ⟨hs, _⟩ <;> omega
  have HS : Hid (∀ k, (hk : k < s.size) → getN (s.data.toList.take (k + 1)) = getN (s.data.toList.take k) * 256 + (s[k]).toNat) := by
    intro k hk; rw [take_snoc s k hk, getN_snoc]
  have HL : Hid (∀ k, getN (s.data.toList.take k) ≤ 9223372036854775807) := fun k => Nat.le_trans (getN_take_le _ _) hN
  have HE : Hid (getN (s.data.toList.take s.size) = getN s.data.toList) := Lib.hid (by rw [List.take_of_length_le (by rw [data_length]; omega)])
  clear hN
  replace hs : s.size < 8 ∨ ∃ h : s.size = 8, ¬ (128 : Int) ≤ ((s[0]'(by omega)).toNat : Int) := by
    rcases hs with hs | ⟨hs, h'⟩
    · exact .inl hs
    · exact .inr ⟨hs, by omega⟩
  rcases hs with hs | ⟨hs, hs'⟩
  all_goals
    go_enter Try.func20, Try.ntmps20
    go_wp2
    go_loop [4, 5] (fun n i => ∃ k m : Nat, k ≤ s.size ∧ i = .int .i64 k ∧ n = .int .i64 m ∧ Hid (m = getN (s.data.toList.take k))) (fun _ i => s.size - (intOf i).toNat)
    case atStart => exact ⟨0, 0, by omega, rfl, rfl, Lib.hid (by simp [getN])⟩
    case round =>
      obtain ⟨k, m, hk, rfl, rfl, hm⟩ := hrel
      try clear hs'
      by_cases hlt : k < s.size
      · have hb := (s[k]).toNat_lt
        have hm1 : m * 256 + (s[k]).toNat ≤ 9223372036854775807 := by have a := HS.out k hlt; have b := HL.out (k + 1); rw [hm.out]; omega
        have hm2 : 256 * (m : Int) + (s[k]).toNat ≤ 9223372036854775807 := by omega
        go_wp2
        go_round
        case rel => exact ⟨k + 1, m * 256 + (s[k]).toNat, by omega, by go_num, by go_num, Lib.hid (by rw [hm.out, HS.out k hlt])⟩
        case measure => simp [intOf]; omega
      · obtain rfl : k = s.size := by omega
        go_wp2
        refine HR.out _ _ ⟨?_, rfl⟩
        rw [hm.out, HE.out]

theorem rget_any (s : ByteArray) (w : World) :
    Calls Try.prog 20 #[.string s] w fun e w' => e = .returned (.tuple #[.int .i64 (getV s), .int .i64 (getE s)]) ∧ w = w' := by
  unfold getV getE
  rcases get_cases s with ⟨h, h1, h2, h3⟩ | ⟨h, h1⟩
  · rw [if_pos h, if_pos h]
    exact rget_ok s w h1 h2 h3
  · rw [if_neg (by simp [h]), if_neg (by simp [h])]
    exact rget_err s w h1

end Go.Proofs.Ytgaoammkegcdcaa
/- A slice over a new block reads as its numbers. -/
namespace Ks
open Go Go.RowKit
set_option linter.unusedVariables false

theorem RdI.block {w : World} {b : Nat} (l : List Int) (t : TypeId) (fr : Nat × Nat) (n : Nat) (hn : n = l.length) (hr : ∀ x ∈ l, -9223372036854775808 ≤ x ∧ x ≤ 9223372036854775807)
    (h : w.heap[b]? = some (.cells (l.map (Value.int .i64)).toArray t fr)) : RdI w (.slice (some ⟨b, 0, none⟩) n n) l := by
  subst hn
  refine ⟨_, _, rfl, Nat.le_refl _, fun i x hx => ⟨⟨b, 0, rfl, lt_of_block h, ?_⟩, hr x (List.mem_of_getElem? hx)⟩⟩
  rw [Nat.zero_add, cell_of_row w b i _ t fr h]
  simp [hx]

/-- a new block of one byte, behind a draw, made a string -/
theorem conv_one_drew {P : Program} {src dst e : TypeId} (hs : P.underlying src = some (.slice e)) (he : P.underlying e = some (.int .u8)) (hd : P.underlying dst = some .string) (x : Int) (cap : Nat) (t : TypeId) (w : World) :
    (convert src dst (.slice (some ⟨w.heap.size, 0, none⟩) 1 cap)).run P (w.alloc (.cells #[.int .u8 x] t)).drew = .ok (.string ⟨#[UInt8.ofNat x.toNat]⟩) (w.alloc (.cells #[.int .u8 x] t)).drew :=
  conv_one hs he hd x cap t w.drew

/-- a slice's elements, when there are four -/
theorem RdI.four {w : World} {v : Value} {x0 x1 x2 x3 : Int} (h : RdI w v [x0, x1, x2, x3]) : ∃ b o cap, v = .slice (some ⟨b, o, none⟩) 4 cap ∧ b < w.heap.size ∧
    w.cell? ⟨b, o, none⟩ = some (.int .i64 x0) ∧ w.cell? ⟨b, o + 1, none⟩ = some (.int .i64 x1) ∧ w.cell? ⟨b, o + 2, none⟩ = some (.int .i64 x2) ∧ w.cell? ⟨b, o + 3, none⟩ = some (.int .i64 x3) := by
  obtain ⟨a, cap, rfl, _, h⟩ := h
  obtain ⟨⟨b, o, rfl, hb, h0⟩, _⟩ := h 0 x0 rfl
  obtain ⟨⟨b1, o1, e1, _, h1⟩, _⟩ := h 1 x1 rfl
  obtain ⟨⟨b2, o2, e2, _, h2⟩, _⟩ := h 2 x2 rfl
  obtain ⟨⟨b3, o3, e3, _, h3⟩, _⟩ := h 3 x3 rfl
  cases e1; cases e2; cases e3
  exact ⟨b, o, cap, rfl, hb, h0, h1, h2, h3⟩

/-- a block of one byte, made a string -/
theorem conv_blk {P : Program} {src dst e : TypeId} (hs : P.underlying src = some (.slice e)) (he : P.underlying e = some (.int .u8)) (hd : P.underlying dst = some .string) (x : Int) (cap b : Nat) (t : TypeId) (fr : Nat × Nat) (w : World)
    (h : w.heap[b]? = some (.cells #[.int .u8 x] t fr)) :
    (convert src dst (.slice (some ⟨b, 0, none⟩) 1 cap)).run P w = .ok (.string ⟨#[UInt8.ofNat x.toNat]⟩) w := by
  rw [run_convert_bytes_string _ src dst e _ 1 cap hs he hd]
  have hl := run_loadCells_list (P := P) w ⟨b, 0, none⟩ [Value.int .u8 x] (fun j v hj => by
    match j, hj with
    | 0, hj => simp at hj; subst hj; simp [Addr.add, World.cell?, h])
  rw [run_bytesToString _ _ 1 cap [x] (by simpa using hl)]
  rfl

/-- what a callee that turned nothing leaves of the cells that were there -/
theorem bcells {W W' : World} (h : Below W.heap.size W W') : (∀ b o, b < W.heap.size → W'.cell? ⟨b, o, none⟩ = W.cell? ⟨b, o, none⟩) ∧ (∀ b o, b < W.heap.size → W'.frozen? ⟨b, o, none⟩ = W.frozen? ⟨b, o, none⟩) :=
  ⟨fun b o hb => h.cell (p := ⟨b, o, none⟩) hb, fun b o hb => h.frozen (p := ⟨b, o, none⟩) hb⟩

end Ks
/- A shape's bytes, and the shape of bytes: geom.Put, Take and the reference's. -/
namespace Go.Proofs.Ytgaoammkegcdcaa
open Go.RowKit Ks
set_option linter.unusedVariables false
theorem gwidths_any (w : World) : Calls Try.prog 34 #[] w fun e w' => e = .returned (.slice (some ⟨w.heap.size, 0, none⟩) 3 3) ∧ w' = w.alloc (.cells #[.int .i64 4, .int .i64 4, .int .i64 4] 93) := by
  go_enter Try.func34, Try.ntmps34
  go_wp2
  go_ret
  exact ⟨rfl, rfl⟩
set_option maxHeartbeats 1000000 in
set_option maxRecDepth 100000 in
theorem gput_any (b l f : Int) (w : World) (hb : -9223372036854775808 ≤ b ∧ b ≤ 9223372036854775807) (hl : -9223372036854775808 ≤ l ∧ l ≤ 9223372036854775807) (hf : -9223372036854775808 ≤ f ∧ f ≤ 9223372036854775807) :
    Calls Try.prog 23 #[geoV b l f] w fun e w' => e = .returned (.tuple #[.string (geoS b l f), .int .i64 (geoE b l f)]) ∧ Below w.heap.size w w' := by
  refine calls_by fun R HR => ?_
  have HC := Lib.hid (fun w => gcheck_any b l f w)
  cases h : geoOk b l f
  · have HV := Lib.hid (geo_no h)
    rw [(geo_no h).2.1] at HC
    clear h
    go_enter Try.func23, Try.ntmps23
    go_wp2_with fail
    refine (HC.out _).mono ?_
    rintro e w1 ⟨rfl, hb1⟩
    have H1 := Lib.hid ((alloc_below w _).trans (hb1.mono (by simp)))
    clear hb1
    go_wp2
    exact HR.out _ _ ⟨by rw [HV.out.1, HV.out.2.1] <;> rfl, H1.out⟩
  · have HV := Lib.hid (And.intro (geo_yes h).1 (geo_pack b l f h))
    rw [(geo_yes h).1] at HC
    obtain ⟨g1, g2, g3, g4, g5, g6⟩ := geo_ok.1 h
    clear h
    go_enter Try.func23, Try.ntmps23
    go_wp2_with fail
    refine (HC.out _).mono ?_
    rintro e w1 ⟨rfl, hb1⟩
    have c0 : w1.cell? ⟨w.heap.size, 0, none⟩ = some (.int .i64 b) := (hb1.cell (p := ⟨w.heap.size, 0, none⟩) (by simp)).trans (by simp [World.cell?_alloc_at])
    have c1 : w1.cell? ⟨w.heap.size, 1, none⟩ = some (.int .i64 l) := (hb1.cell (p := ⟨w.heap.size, 1, none⟩) (by simp)).trans (by simp [World.cell?_alloc_at])
    have c2 : w1.cell? ⟨w.heap.size, 2, none⟩ = some (.int .i64 f) := (hb1.cell (p := ⟨w.heap.size, 2, none⟩) (by simp)).trans (by simp [World.cell?_alloc_at])
    have hB1 : Below w.heap.size w w1 := ((Below.refl _ _).alloc (Nat.le_refl _) _).trans (hb1.mono (by simp))
    have hz1 : w.heap.size < w1.heap.size := by have := hb1.size; simp at this; omega
    clear hb1
    go_wp2_with fail
    go_region_held3 (fun w' => w'.cell? ⟨w.heap.size, 0, none⟩ = some (.int .i64 b) ∧ w'.cell? ⟨w.heap.size, 1, none⟩ = some (.int .i64 l) ∧ w'.cell? ⟨w.heap.size, 2, none⟩ = some (.int .i64 f))
      (first | go_keep)
      (first
        | (go_at_call 34; refine (gwidths_any _).mono ?_; rintro en w2 ⟨rfl, rfl⟩)
        | (go_at_call 22; refine (pack_any _ _ [4, 4, 4] [b, l, f] _ (RdI.block _ 93 (0, 0) 3 rfl (by decide) (by first | exact heap_alloc2_old _ _ _ | exact heap_alloc2_new _ _ _)) (RdI.block _ 3 (0, 0) 3 rfl (by intro x hx; simp at hx; omega) (by first | exact heap_alloc2_old _ _ _ | exact heap_alloc2_new _ _ _)) (by simp)).mono ?_; rintro en w3 ⟨rfl, hb3⟩; have hbb := Below.trans ((((Below.refl w1.heap.size w1).alloc (Nat.le_refl _) _).alloc (by simp) _).drew) (hb3.mono (by simp; omega)); clear hb3; have k0 := (hbb.cell (p := ⟨w.heap.size, 0, none⟩) hz1).trans c0; have k1 := (hbb.cell (p := ⟨w.heap.size, 1, none⟩) hz1).trans c1; have k2 := (hbb.cell (p := ⟨w.heap.size, 2, none⟩) hz1).trans c2; have hB3 := hB1.trans (hbb.mono hB1.size); clear hbb))
    all_goals
      go_wp2
      exact HR.out _ _ ⟨by rw [HV.out.1, ← HV.out.2.2, HV.out.2.1] <;> rfl, hB3⟩
end Go.Proofs.Ytgaoammkegcdcaa
