/- Slices of whatever elements of so many cells: what they read as, what a call owns, what is appended. Plain. No program is in sight. -/
import Derived.Test.YtophfeapmmfppaaBase
import Derived.ArgAppend
import Derived.Laws.OwnMore
import Derived.Deep.RegionLaw
namespace Ks
open Go Go.RowKit
set_option linter.unusedVariables false
set_option linter.unusedSimpArgs false

/-- how an element lies: in so many cells -/
structure Enc (α : Type) where
  k : Nat
  enc : α → List Value
  len : ∀ x, (enc x).length = k
  one : ∀ x, ∀ u ∈ enc x, u.oneCell' = true
  pos : 0 < k

namespace Enc
variable {α : Type} (E : Enc α)

def cs (l : List α) : List Value := l.flatMap E.enc
theorem cs_nil : E.cs [] = [] := rfl
theorem cs_cons (x : α) (l : List α) : E.cs (x :: l) = E.enc x ++ E.cs l := by simp [cs]
theorem cs_append (a b : List α) : E.cs (a ++ b) = E.cs a ++ E.cs b := by simp [cs]
theorem cs_length (l : List α) : (E.cs l).length = l.length * E.k := by
  induction l with
  | nil => simp [cs_nil]
  | cons x l ih => rw [cs_cons, List.length_append, ih, E.len, List.length_cons, Nat.add_mul, Nat.one_mul, Nat.add_comm]
theorem cs_get (l : List α) (i : Nat) (x : α) (h : l[i]? = some x) (j : Nat) (hj : j < E.k) : (E.cs l)[i * E.k + j]? = (E.enc x)[j]? := by
  induction l generalizing i with
  | nil => simp at h
  | cons y l ih =>
    rw [cs_cons]
    match i, h with
    | 0, h =>
      simp only [List.getElem?_cons_zero, Option.some.injEq] at h
      subst h
      rw [Nat.zero_mul, Nat.zero_add, List.getElem?_append_left (by rw [E.len]; exact hj)]
    | i + 1, h =>
      rw [List.getElem?_append_right (by rw [E.len, Nat.add_mul]; omega), E.len, show (i + 1) * E.k + j - E.k = i * E.k + j by rw [Nat.add_mul]; omega]
      exact ih i (by simpa using h)
theorem cs_cell (l : List α) (m : Nat) (u : Value) (h : (E.cs l)[m]? = some u) : ∃ i x j, l[i]? = some x ∧ j < E.k ∧ m = i * E.k + j ∧ (E.enc x)[j]? = some u := by
  have hm : m < l.length * E.k := by rw [← cs_length]; exact (List.getElem?_eq_some_iff.1 h).1
  have hi : m / E.k < l.length := Nat.div_lt_of_lt_mul (by rw [Nat.mul_comm]; exact hm)
  have hj : m % E.k < E.k := Nat.mod_lt _ E.pos
  have e : m / E.k * E.k + m % E.k = m := by rw [Nat.mul_comm]; exact Nat.div_add_mod m E.k
  have hg := E.cs_get l (m / E.k) l[m / E.k] (List.getElem?_eq_getElem hi) (m % E.k) hj
  rw [e, h] at hg
  exact ⟨_, _, _, List.getElem?_eq_getElem hi, hj, e.symm, hg.symm⟩
theorem cs_one (l : List α) : ∀ u ∈ E.cs l, u.oneCell' = true := by
  intro u hu
  simp only [cs, List.mem_flatMap] at hu
  obtain ⟨x, _, hx⟩ := hu
  exact E.one x u hx
theorem cs_take (l : List α) (n : Nat) : (E.cs l).take (n * E.k) = E.cs (l.take n) := by
  induction l generalizing n with
  | nil => simp [cs_nil]
  | cons x l ih =>
    cases n with
    | zero => simp [cs_nil]
    | succ n =>
      rw [List.take_succ_cons, cs_cons, cs_cons, List.take_append, List.take_of_length_le (by rw [E.len, Nat.add_mul]; omega), E.len, show (n + 1) * E.k - E.k = n * E.k by rw [Nat.add_mul]; omega, ih]

end Enc

variable {α : Type} {E : Enc α}

/-- a slice value reads as these -/
def Rd (E : Enc α) (w : World) (v : Value) (l : List α) : Prop :=
  ∃ a cap, v = .slice a l.length cap ∧ l.length ≤ cap ∧ (a = none → cap = 0) ∧ ∀ i x, l[i]? = some x →
    ∃ b o, a = some ⟨b, o, none⟩ ∧ b < w.heap.size ∧ ∀ j u, (E.enc x)[j]? = some u → w.cell? ⟨b, o + i * E.k + j, none⟩ = some u
/-- a slice value owns them: the block is its own -/
def Row (E : Enc α) (w : World) (B : Nat) (T : TypeId) (v : Value) (l : List α) : Prop := w.ownsRow B T E.k v l.length (E.cs l)

theorem Rd.keep {w w' : World} {v : Value} {l : List α} (h : Rd E w v l) (hs : w.heap.size ≤ w'.heap.size) (hb : ∀ b, v.ownBlock = some b → w'.heap[b]? = w.heap[b]?) : Rd E w' v l := by
  obtain ⟨a, cap, rfl, hc, hn, h⟩ := h
  refine ⟨a, cap, rfl, hc, hn, fun i x hx => ?_⟩
  obtain ⟨b, o, rfl, hlt, h1⟩ := h i x hx
  exact ⟨b, o, rfl, Nat.lt_of_lt_of_le hlt hs, fun j u hu => (World.cell?_of_block (a := ⟨b, o + i * E.k + j, none⟩) (hb b rfl)).trans (h1 j u hu)⟩
theorem Rd.below {w w' : World} {v : Value} {l : List α} (h : Rd E w v l) (hb : Below w.heap.size w w') : Rd E w' v l := by
  obtain ⟨a, cap, rfl, hc, hn, h⟩ := h
  refine ⟨a, cap, rfl, hc, hn, fun i x hx => ?_⟩
  obtain ⟨b, o, rfl, hlt, h1⟩ := h i x hx
  exact ⟨b, o, rfl, Nat.lt_of_lt_of_le hlt hb.size, fun j u hu => (World.cell?_of_block (a := ⟨b, o + i * E.k + j, none⟩) (hb.block b hlt)).trans (h1 j u hu)⟩
theorem Rd.nil (w : World) : Rd E w (.slice none 0 0) [] := ⟨none, 0, rfl, Nat.le_refl _, fun _ => rfl, fun i x hx => by simp at hx⟩
theorem Rd.shape {w : World} {v : Value} {l : List α} (h : Rd E w v l) : ∃ a cap, v = .slice a l.length cap ∧ l.length ≤ cap ∧ (a = none → cap = 0) := by
  obtain ⟨a, cap, e, hc, hn, _⟩ := h
  exact ⟨a, cap, e, hc, hn⟩
/-- an element's cells -/
theorem Rd.at {w : World} {a : Option Addr} {n c : Nat} {l : List α} (h : Rd E w (.slice a n c) l) (i : Nat) (x : α) (hx : l[i]? = some x) :
    ∃ b o, a = some ⟨b, o, none⟩ ∧ b < w.heap.size ∧ ∀ j u, (E.enc x)[j]? = some u → w.cell? ⟨b, o + i * E.k + j, none⟩ = some u := by
  obtain ⟨a', cap, e, hc, hn, hh⟩ := h
  cases e
  exact hh i x hx
theorem Rd.cells {w : World} {b o n c : Nat} {l : List α} (h : Rd E w (.slice (some ⟨b, o, none⟩) n c) l) : n = l.length ∧ ∀ j u, (E.cs l)[j]? = some u → w.cell? ⟨b, o + j, none⟩ = some u := by
  have hh := h
  obtain ⟨a, cap, e, _⟩ := h
  cases e
  refine ⟨rfl, fun m u hm => ?_⟩
  obtain ⟨i, x, j, hx, hj, rfl, hu⟩ := E.cs_cell l m u hm
  obtain ⟨b', o', e, _, h1⟩ := hh.at i x hx
  cases e
  rw [← Nat.add_assoc]
  exact h1 j u hu
theorem Rd.of_cells {w : World} {b o c : Nat} {l : List α} (hb : b < w.heap.size) (hc : l.length ≤ c) (h : ∀ j u, (E.cs l)[j]? = some u → w.cell? ⟨b, o + j, none⟩ = some u) : Rd E w (.slice (some ⟨b, o, none⟩) l.length c) l := by
  refine ⟨_, c, rfl, hc, fun e => by simp at e, fun i x hx => ⟨b, o, rfl, hb, fun j u hu => ?_⟩⟩
  have hj : j < E.k := by have := (List.getElem?_eq_some_iff.1 hu).1; rwa [E.len] at this
  have := h (i * E.k + j) u (by rw [E.cs_get l i x hx j hj]; exact hu)
  rwa [← Nat.add_assoc] at this
/-- a block known whole -/
theorem Rd.block {w : World} {b : Nat} {l : List α} {T : TypeId} {fr : Nat × Nat} {cs : Array Value} (h : w.heap[b]? = some (.cells cs T fr)) (e : cs.toList = E.cs l) : Rd E w (.slice (some ⟨b, 0, none⟩) l.length l.length) l :=
  Rd.of_cells (lt_of_block h) (Nat.le_refl _) fun j u hj => by
    rw [Nat.zero_add, cell_of_row w b j cs T fr h, ← Array.getElem?_toList, e]
    exact hj

theorem Rd.single {w : World} {b : Nat} (x : α) {T : TypeId} {fr : Nat × Nat} {cs : Array Value} (h : w.heap[b]? = some (.cells cs T fr)) (e : cs.toList = E.enc x) : Rd E w (.slice (some ⟨b, 0, none⟩) 1 1) [x] :=
  Rd.block (l := [x]) h (by rw [e, E.cs_cons, E.cs_nil, List.append_nil])

theorem Row.rd {w : World} {B : Nat} {T : TypeId} {v : Value} {l : List α} (h : Row E w B T v l) : Rd E w v l := by
  rcases h.2 with ⟨rfl, h0⟩ | ⟨g, cap, cur, rfl, hb, hg, hn, hc, hs, ht⟩
  · have : l = [] := List.length_eq_zero_iff.1 h0
    subst this
    exact Rd.nil w
  · refine Rd.of_cells (lt_of_block hg) hn fun j u hj => ?_
    rw [Nat.zero_add, cell_of_row w g j cur T (0, 0) hg]
    rw [← ht, List.getElem?_take] at hj
    split at hj
    · simpa using hj
    · cases hj
theorem Row.nil (w : World) (B : Nat) (T : TypeId) : Row E w B T (.slice none 0 0) [] := World.ownsRow_nil w B T E.k
theorem Row.made (w : World) (B : Nat) (T : TypeId) (h : B ≤ w.heap.size) : Row E (w.alloc (.cells #[] T)) B T (.slice (some ⟨w.heap.size, 0, none⟩) 0 0) [] :=
  World.ownsRow_made w #[] 0 h (Nat.zero_le _) (by simp)
theorem Row.keep {w w' : World} {B : Nat} {T : TypeId} {v : Value} {l : List α} (h : Row E w B T v l) (hb : ∀ b, v.ownBlock = some b → w'.heap[b]? = w.heap[b]?) : Row E w' B T v l := by
  refine ⟨h.1, ?_⟩
  rcases h.2 with h2 | ⟨g, cap, cur, rfl, r1, r2, r3⟩
  · exact Or.inl h2
  · exact Or.inr ⟨g, cap, cur, rfl, r1, (hb g rfl).trans r2, r3⟩
theorem Row.lt {w : World} {B : Nat} {T : TypeId} {v : Value} {l : List α} (h : Row E w B T v l) {b : Nat} (hb : v.ownBlock = some b) : B ≤ b ∧ b < w.heap.size := World.ownsRow.lt h b hb
theorem Row.below {w w' : World} {B : Nat} {T : TypeId} {v : Value} {l : List α} (h : Row E w B T v l) (hb : Below w.heap.size w w') : Row E w' B T v l :=
  h.keep fun b e => hb.block b (h.lt e).2
theorem Row.down {w : World} {B B' : Nat} {T : TypeId} {v : Value} {l : List α} (h : Row E w B T v l) (hB : B' ≤ B) : Row E w B' T v l := by
  refine ⟨h.1, ?_⟩
  rcases h.2 with h2 | ⟨g, cap, cur, r0, r1, r2⟩
  · exact Or.inl h2
  · exact Or.inr ⟨g, cap, cur, r0, Nat.le_trans hB r1, r2⟩
theorem Row.shape {w : World} {B : Nat} {T : TypeId} {v : Value} {l : List α} (h : Row E w B T v l) : ∃ a cap, v = .slice a l.length cap ∧ l.length ≤ cap ∧ (a = none → cap = 0) := h.rd.shape
/-- an own row that has elements -/
theorem Row.pos {w : World} {B : Nat} {T : TypeId} {v : Value} {l : List α} (h : Row E w B T v l) (hl : 0 < l.length) : ∃ g cap, v = .slice (some ⟨g, 0, none⟩) l.length cap ∧ l.length ≤ cap ∧ B ≤ g ∧ g < w.heap.size ∧ cap ≤ maxLen := by
  rcases h.2 with ⟨_, h0⟩ | ⟨g, cap, cur, rfl, hb, hg, hn, hc, _⟩
  · omega
  · exact ⟨g, cap, rfl, hn, hb, lt_of_block hg, hc⟩
/-- the first so many of an own row -/
theorem Row.take {w : World} {B : Nat} {T : TypeId} {g n cap : Nat} {l : List α} (h : Row E w B T (.slice (some ⟨g, 0, none⟩) n cap) l) (k : Nat) (hk : k ≤ l.length) : Row E w B T (.slice (some ⟨g, 0, none⟩) k cap) (l.take k) := by
  have hl : (l.take k).length = k := by rw [List.length_take]; omega
  refine ⟨E.cs_length _, ?_⟩
  rcases h.2 with ⟨e, _⟩ | ⟨g', cap', cur, e, hb, hg, hn, hc, hs, ht⟩
  · cases e
  · cases e
    refine Or.inr ⟨g, cap, cur, by rw [hl], hb, hg, by rw [hl]; omega, hc, hs, ?_⟩
    rw [hl, ← E.cs_take l k, ← ht, List.take_take]
    congr 1
    exact (Nat.min_eq_left (Nat.mul_le_mul_right _ hk)).symm
/-- the cells behind so many -/
theorem Rd.drop {w : World} {b o n cap k : Nat} {l : List α} (h : Rd E w (.slice (some ⟨b, o, none⟩) n cap) l) (hk : k ≤ l.length) (a : Option Addr) (ha : k < l.length → a = some ⟨b, o + k * E.k, none⟩) (ha2 : a ≠ none) (c : Nat) (hc : l.length - k ≤ c) :
    Rd E w (.slice a (l.length - k) c) (l.drop k) := by
  refine ⟨a, c, by rw [List.length_drop], by rw [List.length_drop]; exact hc, fun e => absurd e ha2, fun i x hx => ?_⟩
  rw [List.getElem?_drop] at hx
  have hlt : k + i < l.length := (List.getElem?_eq_some_iff.1 hx).1
  obtain ⟨b', o', e, hb, h1⟩ := h.at (k + i) x hx
  cases e
  refine ⟨b, o + k * E.k, ha (by omega), hb, fun j u hu => ?_⟩
  have := h1 j u hu
  rw [show o + k * E.k + i * E.k + j = o + (k + i) * E.k + j by rw [Nat.add_mul]; omega]
  exact this
theorem Rd.take {w : World} {b o n cap k : Nat} {l : List α} (h : Rd E w (.slice (some ⟨b, o, none⟩) n cap) l) (hk : k ≤ l.length) (c : Nat) (hc : k ≤ c) :
    Rd E w (.slice (some ⟨b, o, none⟩) k c) (l.take k) := by
  have hl : (l.take k).length = k := by rw [List.length_take]; omega
  refine ⟨_, c, by rw [hl], by rw [hl]; exact hc, fun e => by simp at e, fun i x hx => ?_⟩
  have hi : i < k := by have := (List.getElem?_eq_some_iff.1 hx).1; omega
  rw [List.getElem?_take, if_pos hi] at hx
  exact h.at i x hx

theorem run_append_none {P : Program} (w : World) (t ty e : TypeId) (i : TypeInfo) (ht : P.underlying t = some (.slice e)) (hi : P.info? e = some i) (a : Option Addr) (n cap : Nat) (hnc : n ≤ cap) (b : Option Addr) (c2 : Nat) :
    (Builtin.append_ #[t, t] ty #[.slice a n cap, .slice b 0 c2]).run P w = .ok (.slice a n cap) w := by
  cases b with
  | none => cases a <;> simp [Builtin.append_, run_underlying ht, Go.sizeOf, typeInfo, hi, Builtin.lenOf, Builtin.firstCells, hnc, storeCells]
  | some b =>
    have hf := run_firstCells_some (P := P) w i.size 0 b 0 c2 [] (by simp) (by simp)
    cases a <;> simp [Builtin.append_, run_underlying ht, Go.sizeOf, typeInfo, hi, Builtin.lenOf, hf, hnc, storeCells]

/-- an element type's row of the table, for `append` -/
structure ElemT (P : Program) (t e : TypeId) (k bytes : Nat) : Prop where
  under : P.underlying t = some (.slice e)
  info : ∃ i z, P.info? e = some i ∧ i.zero = some z ∧ i.size = k ∧ i.bytes = bytes ∧ z.cells.size = k
theorem elemT_of {P : Program} {t e : TypeId} {k bytes : Nat} {z : Value} (h : P.underlying t = some (.slice e)) (hi : (P.info? e).map (fun i => (i.zero, i.size, i.bytes)) = some (some z, k, bytes)) (hz : z.cells.size = k) : ElemT P t e k bytes := by
  obtain ⟨i, h1, h2, h3, h4⟩ := info_parts hi
  exact ⟨h, i, z, h1, h2, h3, h4, hz⟩

/-- what append makes of an own row -/
def Grew (E : Enc α) (w w' : World) (B : Nat) (e : TypeId) (v v' : Value) (l : List α) : Prop :=
  Row E w' B e v' l ∧ w.grownBy w' v.ownBlock ∧ (v'.ownBlock = v.ownBlock ∨ ∀ b, v'.ownBlock = some b → w.heap.size ≤ b) ∧ (l ≠ [] → v' ≠ .slice none 0 0)

theorem run_append_row {P : Program} {t ty e : TypeId} {bytes : Nat} (T : ElemT P t e E.k bytes) (w : World) (B : Nat)
    (v lv : Value) (L l : List α) (hown : Row E w B e v L) (hl : Rd E w lv l) (hB : B ≤ w.heap.size) (b1 : L.length + l.length ≤ 140000000) (b2 : bytes ≤ 1000) :
    ∃ v' w', (Builtin.append_ #[t, t] ty #[v, lv]).run P w = .ok v' w' ∧ Grew E w w' B e v v' (L ++ l) := by
  obtain ⟨h1, i, z, h2, h3, h4, h5, h6⟩ := T
  have hmax : L.length + l.length ≤ maxLen := by unfold maxLen; omega
  have hby : (L.length + l.length) * bytes ≤ 140737488355328 := by
    have : (L.length + l.length) * bytes ≤ 140000000 * 1000 := Nat.mul_le_mul b1 b2
    omega
  have hne : ∀ {w' : World} {v' : Value}, Row E w' B e v' (L ++ l) → L ++ l ≠ [] → v' ≠ .slice none 0 0 := fun r hn e => by
    obtain ⟨a, cap, e2, _⟩ := r.shape
    rw [e] at e2
    simp only [Value.slice.injEq] at e2
    exact hn (List.length_eq_zero_iff.1 e2.2.1.symm)
  cases l with
  | nil =>
    obtain ⟨a, cap, rfl, hc, _⟩ := hown.shape
    obtain ⟨b, c2, rfl, _⟩ := hl
    have r : Row E w B e (.slice a L.length cap) (L ++ []) := by rw [List.append_nil]; exact hown
    exact ⟨_, w, run_append_none w t ty e i h1 h2 a _ cap hc b c2, r, World.grownBy.refl _ _, Or.inl rfl, hne r⟩
  | cons x l =>
    generalize hm : x :: l = m at *
    have hpos : 0 < m.length := by rw [← hm]; simp
    obtain ⟨a, c2, rfl, _, _⟩ := hl.shape
    obtain ⟨b, o, rfl, _⟩ := hl.at 0 m[0] (List.getElem?_eq_getElem hpos)
    have hsrc : ∀ j u, (E.cs m)[j]? = some u → w.cell? ((⟨b, o, none⟩ : Addr).add j) = some u := fun j u hj => by rw [Addr.add_lit]; exact hl.cells.2 j u hj
    have hlen2 : (L ++ m).length = L.length + m.length := List.length_append
    rcases id hown.2 with ⟨rfl, h0⟩ | ⟨g, cap, cur, rfl, hBg, hgb, hn, hc, hsz, ht⟩
    · obtain rfl : L = [] := List.length_eq_zero_iff.1 h0
      obtain ⟨v', w', hrun, r1, r2, _⟩ := run_append_own (P := P) w w.heap.size t ty e i z E.k bytes h1 h2 h3 h4 h5 h6 E.pos (.slice none 0 0) 0 [] (World.ownsRow_nil w _ e E.k) ⟨b, o, none⟩ m.length c2 (E.cs m) (E.cs_length m) hsrc (E.cs_one m) (by simpa using hmax) (by simpa using hby) (Nat.le_refl _)
      rw [Nat.zero_add, List.nil_append] at r1
      have r : Row E w' B e v' ([] ++ m) := Row.down (B := w.heap.size) r1 hB
      exact ⟨v', w', hrun, r, r2, Or.inr fun b hb => (r1.lt b hb).1, hne r⟩
    · by_cases hfit : L.length + m.length ≤ cap
      · obtain ⟨w', hrun, r1, r2⟩ := run_append_fits (P := P) w B t ty e i E.k h1 h2 h4 g L.length cap (E.cs L) hown ⟨b, o, none⟩ m.length c2 (E.cs m) (E.cs_length m) hsrc (E.cs_one m) hfit
        have r : Row E w' B e (.slice (some ⟨g, 0, none⟩) (L.length + m.length) cap) (L ++ m) := by
          show w'.ownsRow B e E.k _ (L ++ m).length (E.cs (L ++ m))
          rw [hlen2, E.cs_append]
          exact r1
        exact ⟨_, w', hrun, r, r2, Or.inl rfl, hne r⟩
      · obtain ⟨v', w', hrun, r1, r2⟩ := run_append_arg_grows (P := P) w t ty e i z E.k bytes h1 h2 h3 h4 h5 h6 E.pos ⟨g, 0, none⟩ L.length cap (E.cs L) (E.cs_length L) (fun j u hj => (Row.rd hown).cells.2 j u hj |> fun h => by rw [Addr.add_lit]; exact h) ⟨b, o, none⟩ m.length c2 (E.cs m) (E.cs_length m) hsrc (by omega) hmax hby
        have r : Row E w' B e v' (L ++ m) := by
          refine Row.down (B := w.heap.size) ?_ hB
          show w'.ownsRow _ e E.k _ (L ++ m).length (E.cs (L ++ m))
          rw [hlen2, E.cs_append]
          exact r1
        exact ⟨v', w', hrun, r, ⟨r2.os, r2.tape, r2.output, r2.size, fun k hk _ => r2.block k hk (by simp)⟩, Or.inr fun b hb => (r1.lt b hb).1, hne r⟩

/-- `append` at a plain region's list -/
theorem wpList_append_row {P : Program} (w : World) {ops : Array Oper} {rest : List Oper} {o : Oper} {a : Act} {Q : Exit → Act → World → Prop} (hg : o.guard = none) (s x : Operand) (t : TypeId)
    (ho : o.op = .call { callee := .builtin .append, args := #[s, x], argTypes := #[t, t] }) {e : TypeId} {bytes : Nat} (T : ElemT P t e E.k bytes) (B : Nat)
    (v lv : Value) (L l : List α) (hs : a.eval s = v) (hx : a.eval x = lv) (hown : Row E w B e v L) (hl : Rd E w lv l) (hB : B ≤ w.heap.size) (b1 : L.length + l.length ≤ 140000000) (b2 : bytes ≤ 1000)
    (hK : ∀ v' w', Grew E w w' B e v v' (L ++ l) → wpList P ops Q rest (a.put o.dst v') w') : wpList P ops Q (o :: rest) a w := by
  refine wpList_plain hg fun K hK' => ?_
  obtain ⟨v', w', hrun, r⟩ := run_append_row (P := P) (t := t) (ty := o.type) T w B v lv L l hown hl hB b1 b2
  unfold Oper.wp
  simp [execOp, ho, resolve, invoke, builtin, hs, hx, hrun, Result.andThen]
  exact hK' _ _ (hK v' w' r)

/-- `append` at a step of a region that draws its order, by its run -/
theorem step_append_of {P : Program} {ops : Array Oper} {o : Oper} {a : Act} {w : World} {K : Act → World → Prop} {Q : Exit → Act → World → Prop} {F : Prop} (hg : o.guard = none) (s x : Operand) (t : TypeId)
    (hop : o.op = Op.call { callee := Callee.builtin Builtin.append, args := #[s, x], argTypes := #[t, t] }) {v lv v' : Value} {w' : World} (hrun : (Builtin.append_ #[t, t] o.type #[v, lv]).run P w = .ok v' w')
    (hs : a.eval s = v) (hx : a.eval x = lv) (hK : K (a.put o.dst v') w') : if Region.wanted o (yielded ops a.tmps) = true then Oper.wp P o a w K Q else F := by
  have hw : Region.wanted o (yielded ops a.tmps) = true := by simp [Region.wanted, hg]
  rw [if_pos hw]
  unfold Oper.wp
  simp [execOp, hop, resolve, invoke, builtin, hs, hx, hrun, Result.andThen]
  exact hK

/-- `append` at a step of a region that draws its order, by its law -/
theorem step_append_row {P : Program} {ops : Array Oper} {o : Oper} {a : Act} {w : World} {K : Act → World → Prop} {Q : Exit → Act → World → Prop} {F : Prop} (hg : o.guard = none) (s x : Operand) (t : TypeId)
    (hop : o.op = Op.call { callee := Callee.builtin Builtin.append, args := #[s, x], argTypes := #[t, t] }) {e : TypeId} {bytes : Nat} (T : ElemT P t e E.k bytes) (B : Nat)
    (v lv : Value) (L l : List α) (hs : a.eval s = v) (hx : a.eval x = lv) (hown : Row E w B e v L) (hl : Rd E w lv l) (hB : B ≤ w.heap.size) (b1 : L.length + l.length ≤ 140000000) (b2 : bytes ≤ 1000)
    (hK : ∀ v' w', Grew E w w' B e v v' (L ++ l) → K (a.put o.dst v') w') : if Region.wanted o (yielded ops a.tmps) = true then Oper.wp P o a w K Q else F := by
  obtain ⟨v', w', hrun, r⟩ := run_append_row (P := P) (t := t) (ty := o.type) T w B v lv L l hown hl hB b1 b2
  exact step_append_of hg s x t hop hrun hs hx (hK v' w' r)

theorem Grew.below {w w' w0 : World} {B B0 : Nat} {e : TypeId} {v v' : Value} {l : List α} (h : Grew E w w' B e v v' l) (hb : Below B0 w0 w) (hB : B0 ≤ w.heap.size) (hv : ∀ b, v.ownBlock = some b → B0 ≤ b) : Below B0 w0 w' :=
  hb.grown h.2.1 hB hv
theorem Grew.low {w w' : World} {B B0 : Nat} {e : TypeId} {v v' : Value} {l : List α} (h : Grew E w w' B e v v' l) (hB : B0 ≤ w.heap.size) (hv : ∀ b, v.ownBlock = some b → B0 ≤ b) : ∀ b, v'.ownBlock = some b → B0 ≤ b := by
  intro b hb
  rcases h.2.2.1 with e | e
  · exact hv b (e ▸ hb)
  · exact Nat.le_trans hB (e b hb)
theorem Grew.block {w w' : World} {B : Nat} {e : TypeId} {v v' : Value} {l : List α} (h : Grew E w w' B e v v' l) {b : Nat} {o : Obj} (hb : w.heap[b]? = some o) (hv : v.ownBlock ≠ some b) : w'.heap[b]? = some o :=
  (h.2.1.block b (lt_of_block hb) (fun e => hv e.symm)).trans hb
theorem Grew.rd {w w' : World} {B : Nat} {e : TypeId} {v v' : Value} {l : List α} {β : Type} {E' : Enc β} {u : Value} {m : List β} (h : Grew E w w' B e v v' l) (hr : Rd E' w u m) (hv : ∀ b, u.ownBlock = some b → v.ownBlock ≠ some b) : Rd E' w' u m := by
  obtain ⟨a, cap, rfl, hc, hn, hh⟩ := hr
  refine ⟨a, cap, rfl, hc, hn, fun i x hx => ?_⟩
  obtain ⟨b, o, rfl, hlt, h1⟩ := hh i x hx
  have e := h.2.1.block b hlt (fun e => hv b rfl e.symm)
  exact ⟨b, o, rfl, Nat.lt_of_lt_of_le hlt h.2.1.size, fun j u hu => (World.cell?_of_block (a := ⟨b, o + i * E'.k + j, none⟩) e).trans (h1 j u hu)⟩

end Ks
