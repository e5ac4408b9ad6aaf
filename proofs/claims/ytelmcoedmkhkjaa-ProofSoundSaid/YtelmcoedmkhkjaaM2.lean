/- Texts that the claim rests on, part 2: Seq, SeqObj, ProofPlain, After, ShaLow, ArrRow, ShaText, ShaWords, ShaConst. -/
import Derived.ArgAppend
import Derived.Laws.OwnMore
import Derived.Deep.RegionLaw
import Derived.Lib.QuietBelow
import Derived.BigQuiet
import Derived.Test.YtelmcoedmkhkjaaProg
import Derived.Deep.WholeRow
import Derived.Laws.CopyOwn
import Derived.Deep.DeepCutAuto
import Derived.StillTailTactics
import Derived.Test.YtelmcoedmkhkjaaM1
/- Slices of whatever elements of so many cells: what they read as, what a call owns, what is appended. Plain. No program is in sight. -/
namespace Ks
open Go Go.RowKit
set_option linter.unusedVariables false
set_option linter.unusedSimpArgs false

/-- how an element lies: in so many cells -/
structure Enc (α : Type) where
  k : Nat
  enc : α → List Value
  len : ∀ x, (enc x).length = k
  one : ∀ x, ∀ u ∈ enc x, u.oneCell' = true
  pos : 0 < k

namespace Enc
variable {α : Type} (E : Enc α)

def cs (l : List α) : List Value := l.flatMap E.enc
theorem cs_nil : E.cs [] = [] := rfl
theorem cs_cons (x : α) (l : List α) : E.cs (x :: l) = E.enc x ++ E.cs l := by simp [cs]
theorem cs_append (a b : List α) : E.cs (a ++ b) = E.cs a ++ E.cs b := by simp [cs]
theorem cs_length (l : List α) : (E.cs l).length = l.length * E.k := by
  induction l with
  | nil => simp [cs_nil]
  | cons x l ih => rw [cs_cons, List.length_append, ih, E.len, List.length_cons, Nat.add_mul, Nat.one_mul, Nat.add_comm]
theorem cs_get (l : List α) (i : Nat) (x : α) (h : l[i]? = some x) (j : Nat) (hj : j < E.k) : (E.cs l)[i * E.k + j]? = (E.enc x)[j]? := by
  induction l generalizing i with
  | nil => simp at h
  | cons y l ih =>
    rw [cs_cons]
    match i, h with
    | 0, h =>
      simp only [List.getElem?_cons_zero, Option.some.injEq] at h
      subst h
      rw [Nat.zero_mul, Nat.zero_add, List.getElem?_append_left (by rw [E.len]; exact hj)]
    | i + 1, h =>
      rw [List.getElem?_append_right (by rw [E.len, Nat.add_mul]; omega), E.len, show (i + 1) * E.k + j - E.k = i * E.k + j by rw [Nat.add_mul]; omega]
      exact ih i (by simpa using h)
theorem cs_cell (l : List α) (m : Nat) (u : Value) (h : (E.cs l)[m]? = some u) : ∃ i x j, l[i]? = some x ∧ j < E.k ∧ m = i * E.k + j ∧ (E.enc x)[j]? = some u := by
  have hm : m < l.length * E.k := by rw [← cs_length]; exact (List.getElem?_eq_some_iff.1 h).1
  have hi : m / E.k < l.length := Nat.div_lt_of_lt_mul (by rw [Nat.mul_comm]; exact hm)
  have hj : m % E.k < E.k := Nat.mod_lt _ E.pos
  have e : m / E.k * E.k + m % E.k = m := by rw [Nat.mul_comm]; exact Nat.div_add_mod m E.k
  have hg := E.cs_get l (m / E.k) l[m / E.k] (List.getElem?_eq_getElem hi) (m % E.k) hj
  rw [e, h] at hg
  exact ⟨_, _, _, List.getElem?_eq_getElem hi, hj, e.symm, hg.symm⟩
theorem cs_one (l : List α) : ∀ u ∈ E.cs l, u.oneCell' = true := by
  intro u hu
  simp only [cs, List.mem_flatMap] at hu
  obtain ⟨x, _, hx⟩ := hu
  exact E.one x u hx
theorem cs_take (l : List α) (n : Nat) : (E.cs l).take (n * E.k) = E.cs (l.take n) := by
  induction l generalizing n with
  | nil => simp [cs_nil]
  | cons x l ih =>
    cases n with
    | zero => simp [cs_nil]
    | succ n =>
      rw [List.take_succ_cons, cs_cons, cs_cons, List.take_append, List.take_of_length_le (by rw [E.len, Nat.add_mul]; omega), E.len, show (n + 1) * E.k - E.k = n * E.k by rw [Nat.add_mul]; omega, ih]

end Enc

variable {α : Type} {E : Enc α}

/-- a slice value reads as these -/
def Rd (E : Enc α) (w : World) (v : Value) (l : List α) : Prop :=
  ∃ a cap, v = .slice a l.length cap ∧ l.length ≤ cap ∧ (a = none → cap = 0) ∧ ∀ i x, l[i]? = some x →
    ∃ b o, a = some ⟨b, o, none⟩ ∧ b < w.heap.size ∧ ∀ j u, (E.enc x)[j]? = some u → w.cell? ⟨b, o + i * E.k + j, none⟩ = some u
/-- a slice value owns them: the block is its own -/
def Row (E : Enc α) (w : World) (B : Nat) (T : TypeId) (v : Value) (l : List α) : Prop := w.ownsRow B T E.k v l.length (E.cs l)

theorem Rd.keep {w w' : World} {v : Value} {l : List α} (h : Rd E w v l) (hs : w.heap.size ≤ w'.heap.size) (hb : ∀ b, v.ownBlock = some b → w'.heap[b]? = w.heap[b]?) : Rd E w' v l := by
  obtain ⟨a, cap, rfl, hc, hn, h⟩ := h
  refine ⟨a, cap, rfl, hc, hn, fun i x hx => ?_⟩
  obtain ⟨b, o, rfl, hlt, h1⟩ := h i x hx
  exact ⟨b, o, rfl, Nat.lt_of_lt_of_le hlt hs, fun j u hu => (World.cell?_of_block (a := ⟨b, o + i * E.k + j, none⟩) (hb b rfl)).trans (h1 j u hu)⟩
theorem Rd.below {w w' : World} {v : Value} {l : List α} (h : Rd E w v l) (hb : Below w.heap.size w w') : Rd E w' v l := by
  obtain ⟨a, cap, rfl, hc, hn, h⟩ := h
  refine ⟨a, cap, rfl, hc, hn, fun i x hx => ?_⟩
  obtain ⟨b, o, rfl, hlt, h1⟩ := h i x hx
  exact ⟨b, o, rfl, Nat.lt_of_lt_of_le hlt hb.size, fun j u hu => (World.cell?_of_block (a := ⟨b, o + i * E.k + j, none⟩) (hb.block b hlt)).trans (h1 j u hu)⟩
theorem Rd.nil (w : World) : Rd E w (.slice none 0 0) [] := ⟨none, 0, rfl, Nat.le_refl _, fun _ => rfl, fun i x hx => by simp at hx⟩
theorem Rd.shape {w : World} {v : Value} {l : List α} (h : Rd E w v l) : ∃ a cap, v = .slice a l.length cap ∧ l.length ≤ cap ∧ (a = none → cap = 0) := by
  obtain ⟨a, cap, e, hc, hn, _⟩ := h
  exact ⟨a, cap, e, hc, hn⟩
/-- an element's cells -/
theorem Rd.at {w : World} {a : Option Addr} {n c : Nat} {l : List α} (h : Rd E w (.slice a n c) l) (i : Nat) (x : α) (hx : l[i]? = some x) :
    ∃ b o, a = some ⟨b, o, none⟩ ∧ b < w.heap.size ∧ ∀ j u, (E.enc x)[j]? = some u → w.cell? ⟨b, o + i * E.k + j, none⟩ = some u := by
  obtain ⟨a', cap, e, hc, hn, hh⟩ := h
  cases e
  exact hh i x hx
theorem Rd.cells {w : World} {b o n c : Nat} {l : List α} (h : Rd E w (.slice (some ⟨b, o, none⟩) n c) l) : n = l.length ∧ ∀ j u, (E.cs l)[j]? = some u → w.cell? ⟨b, o + j, none⟩ = some u := by
  have hh := h
  obtain ⟨a, cap, e, _⟩ := h
  cases e
  refine ⟨rfl, fun m u hm => ?_⟩
  obtain ⟨i, x, j, hx, hj, rfl, hu⟩ := E.cs_cell l m u hm
  obtain ⟨b', o', e, _, h1⟩ := hh.at i x hx
  cases e
  rw [← Nat.add_assoc]
  exact h1 j u hu
theorem Rd.of_cells {w : World} {b o c : Nat} {l : List α} (hb : b < w.heap.size) (hc : l.length ≤ c) (h : ∀ j u, (E.cs l)[j]? = some u → w.cell? ⟨b, o + j, none⟩ = some u) : Rd E w (.slice (some ⟨b, o, none⟩) l.length c) l := by
  refine ⟨_, c, rfl, hc, fun e => by simp at e, fun i x hx => ⟨b, o, rfl, hb, fun j u hu => ?_⟩⟩
  have hj : j < E.k := by have := (List.getElem?_eq_some_iff.1 hu).1; rwa [E.len] at this
  have := h (i * E.k + j) u (by rw [E.cs_get l i x hx j hj]; exact hu)
  rwa [← Nat.add_assoc] at this
/-- a block known whole -/
theorem Rd.block {w : World} {b : Nat} {l : List α} {T : TypeId} {fr : Nat × Nat} {cs : Array Value} (h : w.heap[b]? = some (.cells cs T fr)) (e : cs.toList = E.cs l) : Rd E w (.slice (some ⟨b, 0, none⟩) l.length l.length) l :=
  Rd.of_cells (lt_of_block h) (Nat.le_refl _) fun j u hj => by
    rw [Nat.zero_add, cell_of_row w b j cs T fr h, ← Array.getElem?_toList, e]
    exact hj

theorem Rd.single {w : World} {b : Nat} (x : α) {T : TypeId} {fr : Nat × Nat} {cs : Array Value} (h : w.heap[b]? = some (.cells cs T fr)) (e : cs.toList = E.enc x) : Rd E w (.slice (some ⟨b, 0, none⟩) 1 1) [x] :=
  Rd.block (l := [x]) h (by rw [e, E.cs_cons, E.cs_nil, List.append_nil])

theorem Row.rd {w : World} {B : Nat} {T : TypeId} {v : Value} {l : List α} (h : Row E w B T v l) : Rd E w v l := by
  rcases h.2 with ⟨rfl, h0⟩ | ⟨g, cap, cur, rfl, hb, hg, hn, hc, hs, ht⟩
  · have : l = [] := List.length_eq_zero_iff.1 h0
    subst this
    exact Rd.nil w
  · refine Rd.of_cells (lt_of_block hg) hn fun j u hj => ?_
    rw [Nat.zero_add, cell_of_row w g j cur T (0, 0) hg]
    rw [← ht, List.getElem?_take] at hj
    split at hj
    · simpa using hj
    · cases hj
theorem Row.nil (w : World) (B : Nat) (T : TypeId) : Row E w B T (.slice none 0 0) [] := World.ownsRow_nil w B T E.k
theorem Row.made (w : World) (B : Nat) (T : TypeId) (h : B ≤ w.heap.size) : Row E (w.alloc (.cells #[] T)) B T (.slice (some ⟨w.heap.size, 0, none⟩) 0 0) [] :=
  World.ownsRow_made w #[] 0 h (Nat.zero_le _) (by simp)
theorem Row.keep {w w' : World} {B : Nat} {T : TypeId} {v : Value} {l : List α} (h : Row E w B T v l) (hb : ∀ b, v.ownBlock = some b → w'.heap[b]? = w.heap[b]?) : Row E w' B T v l := by
  refine ⟨h.1, ?_⟩
  rcases h.2 with h2 | ⟨g, cap, cur, rfl, r1, r2, r3⟩
  · exact Or.inl h2
  · exact Or.inr ⟨g, cap, cur, rfl, r1, (hb g rfl).trans r2, r3⟩
theorem Row.lt {w : World} {B : Nat} {T : TypeId} {v : Value} {l : List α} (h : Row E w B T v l) {b : Nat} (hb : v.ownBlock = some b) : B ≤ b ∧ b < w.heap.size := World.ownsRow.lt h b hb
theorem Row.below {w w' : World} {B : Nat} {T : TypeId} {v : Value} {l : List α} (h : Row E w B T v l) (hb : Below w.heap.size w w') : Row E w' B T v l :=
  h.keep fun b e => hb.block b (h.lt e).2
theorem Row.down {w : World} {B B' : Nat} {T : TypeId} {v : Value} {l : List α} (h : Row E w B T v l) (hB : B' ≤ B) : Row E w B' T v l := by
  refine ⟨h.1, ?_⟩
  rcases h.2 with h2 | ⟨g, cap, cur, r0, r1, r2⟩
  · exact Or.inl h2
  · exact Or.inr ⟨g, cap, cur, r0, Nat.le_trans hB r1, r2⟩
theorem Row.shape {w : World} {B : Nat} {T : TypeId} {v : Value} {l : List α} (h : Row E w B T v l) : ∃ a cap, v = .slice a l.length cap ∧ l.length ≤ cap ∧ (a = none → cap = 0) := h.rd.shape
/-- an own row that has elements -/
theorem Row.pos {w : World} {B : Nat} {T : TypeId} {v : Value} {l : List α} (h : Row E w B T v l) (hl : 0 < l.length) : ∃ g cap, v = .slice (some ⟨g, 0, none⟩) l.length cap ∧ l.length ≤ cap ∧ B ≤ g ∧ g < w.heap.size ∧ cap ≤ maxLen := by
  rcases h.2 with ⟨_, h0⟩ | ⟨g, cap, cur, rfl, hb, hg, hn, hc, _⟩
  · omega
  · exact ⟨g, cap, rfl, hn, hb, lt_of_block hg, hc⟩
/-- the first so many of an own row -/
theorem Row.take {w : World} {B : Nat} {T : TypeId} {g n cap : Nat} {l : List α} (h : Row E w B T (.slice (some ⟨g, 0, none⟩) n cap) l) (k : Nat) (hk : k ≤ l.length) : Row E w B T (.slice (some ⟨g, 0, none⟩) k cap) (l.take k) := by
  have hl : (l.take k).length = k := by rw [List.length_take]; omega
  refine ⟨E.cs_length _, ?_⟩
  rcases h.2 with ⟨e, _⟩ | ⟨g', cap', cur, e, hb, hg, hn, hc, hs, ht⟩
  · cases e
  · cases e
    refine Or.inr ⟨g, cap, cur, by rw [hl], hb, hg, by rw [hl]; omega, hc, hs, ?_⟩
    rw [hl, ← E.cs_take l k, ← ht, List.take_take]
    congr 1
    exact (Nat.min_eq_left (Nat.mul_le_mul_right _ hk)).symm
/-- the cells behind so many -/
theorem Rd.drop {w : World} {b o n cap k : Nat} {l : List α} (h : Rd E w (.slice (some ⟨b, o, none⟩) n cap) l) (hk : k ≤ l.length) (a : Option Addr) (ha : k < l.length → a = some ⟨b, o + k * E.k, none⟩) (ha2 : a ≠ none) (c : Nat) (hc : l.length - k ≤ c) :
    Rd E w (.slice a (l.length - k) c) (l.drop k) := by
  refine ⟨a, c, by rw [List.length_drop], by rw [List.length_drop]; exact hc, fun e => absurd e ha2, fun i x hx => ?_⟩
  rw [List.getElem?_drop] at hx
  have hlt : k + i < l.length := (List.getElem?_eq_some_iff.1 hx).1
  obtain ⟨b', o', e, hb, h1⟩ := h.at (k + i) x hx
  cases e
  refine ⟨b, o + k * E.k, ha (by omega), hb, fun j u hu => ?_⟩
  have := h1 j u hu
  rw [show o + k * E.k + i * E.k + j = o + (k + i) * E.k + j by rw [Nat.add_mul]; omega]
  exact this
theorem Rd.take {w : World} {b o n cap k : Nat} {l : List α} (h : Rd E w (.slice (some ⟨b, o, none⟩) n cap) l) (hk : k ≤ l.length) (c : Nat) (hc : k ≤ c) :
    Rd E w (.slice (some ⟨b, o, none⟩) k c) (l.take k) := by
  have hl : (l.take k).length = k := by rw [List.length_take]; omega
  refine ⟨_, c, by rw [hl], by rw [hl]; exact hc, fun e => by simp at e, fun i x hx => ?_⟩
  have hi : i < k := by have := (List.getElem?_eq_some_iff.1 hx).1; omega
  rw [List.getElem?_take, if_pos hi] at hx
  exact h.at i x hx

theorem run_append_none {P : Program} (w : World) (t ty e : TypeId) (i : TypeInfo) (ht : P.underlying t = some (.slice e)) (hi : P.info? e = some i) (a : Option Addr) (n cap : Nat) (hnc : n ≤ cap) (b : Option Addr) (c2 : Nat) :
    (Builtin.append_ #[t, t] ty #[.slice a n cap, .slice b 0 c2]).run P w = .ok (.slice a n cap) w := by
  cases b with
  | none => cases a <;> simp [Builtin.append_, run_underlying ht, Go.sizeOf, typeInfo, hi, Builtin.lenOf, Builtin.firstCells, hnc, storeCells]
  | some b =>
    have hf := run_firstCells_some (P := P) w i.size 0 b 0 c2 [] (by simp) (by simp)
    cases a <;> simp [Builtin.append_, run_underlying ht, Go.sizeOf, typeInfo, hi, Builtin.lenOf, hf, hnc, storeCells]

/-- an element type's row of the table, for `append` -/
structure ElemT (P : Program) (t e : TypeId) (k bytes : Nat) : Prop where
  under : P.underlying t = some (.slice e)
  info : ∃ i z, P.info? e = some i ∧ i.zero = some z ∧ i.size = k ∧ i.bytes = bytes ∧ z.cells.size = k
theorem elemT_of {P : Program} {t e : TypeId} {k bytes : Nat} {z : Value} (h : P.underlying t = some (.slice e)) (hi : (P.info? e).map (fun i => (i.zero, i.size, i.bytes)) = some (some z, k, bytes)) (hz : z.cells.size = k) : ElemT P t e k bytes := by
  obtain ⟨i, h1, h2, h3, h4⟩ := info_parts hi
  exact ⟨h, i, z, h1, h2, h3, h4, hz⟩

/-- what append makes of an own row -/
def Grew (E : Enc α) (w w' : World) (B : Nat) (e : TypeId) (v v' : Value) (l : List α) : Prop :=
  Row E w' B e v' l ∧ w.grownBy w' v.ownBlock ∧ (v'.ownBlock = v.ownBlock ∨ ∀ b, v'.ownBlock = some b → w.heap.size ≤ b) ∧ (l ≠ [] → v' ≠ .slice none 0 0)

theorem run_append_row {P : Program} {t ty e : TypeId} {bytes : Nat} (T : ElemT P t e E.k bytes) (w : World) (B : Nat)
    (v lv : Value) (L l : List α) (hown : Row E w B e v L) (hl : Rd E w lv l) (hB : B ≤ w.heap.size) (b1 : L.length + l.length ≤ 140000000) (b2 : bytes ≤ 1000) :
    ∃ v' w', (Builtin.append_ #[t, t] ty #[v, lv]).run P w = .ok v' w' ∧ Grew E w w' B e v v' (L ++ l) := by
  obtain ⟨h1, i, z, h2, h3, h4, h5, h6⟩ := T
  have hmax : L.length + l.length ≤ maxLen := by unfold maxLen; omega
  have hby : (L.length + l.length) * bytes ≤ 140737488355328 := by
    have : (L.length + l.length) * bytes ≤ 140000000 * 1000 := Nat.mul_le_mul b1 b2
    omega
  have hne : ∀ {w' : World} {v' : Value}, Row E w' B e v' (L ++ l) → L ++ l ≠ [] → v' ≠ .slice none 0 0 := fun r hn e => by
    obtain ⟨a, cap, e2, _⟩ := r.shape
    rw [e] at e2
    simp only [Value.slice.injEq] at e2
    exact hn (List.length_eq_zero_iff.1 e2.2.1.symm)
  cases l with
  | nil =>
    obtain ⟨a, cap, rfl, hc, _⟩ := hown.shape
    obtain ⟨b, c2, rfl, _⟩ := hl
    have r : Row E w B e (.slice a L.length cap) (L ++ []) := by rw [List.append_nil]; exact hown
    exact ⟨_, w, run_append_none w t ty e i h1 h2 a _ cap hc b c2, r, World.grownBy.refl _ _, Or.inl rfl, hne r⟩
  | cons x l =>
    generalize hm : x :: l = m at *
    have hpos : 0 < m.length := by rw [← hm]; simp
    obtain ⟨a, c2, rfl, _, _⟩ := hl.shape
    obtain ⟨b, o, rfl, _⟩ := hl.at 0 m[0] (List.getElem?_eq_getElem hpos)
    have hsrc : ∀ j u, (E.cs m)[j]? = some u → w.cell? ((⟨b, o, none⟩ : Addr).add j) = some u := fun j u hj => by rw [Addr.add_lit]; exact hl.cells.2 j u hj
    have hlen2 : (L ++ m).length = L.length + m.length := List.length_append
    rcases id hown.2 with ⟨rfl, h0⟩ | ⟨g, cap, cur, rfl, hBg, hgb, hn, hc, hsz, ht⟩
    · obtain rfl : L = [] := List.length_eq_zero_iff.1 h0
      obtain ⟨v', w', hrun, r1, r2, _⟩ := run_append_own (P := P) w w.heap.size t ty e i z E.k bytes h1 h2 h3 h4 h5 h6 E.pos (.slice none 0 0) 0 [] (World.ownsRow_nil w _ e E.k) ⟨b, o, none⟩ m.length c2 (E.cs m) (E.cs_length m) hsrc (E.cs_one m) (by simpa using hmax) (by simpa using hby) (Nat.le_refl _)
      rw [Nat.zero_add, List.nil_append] at r1
      have r : Row E w' B e v' ([] ++ m) := Row.down (B := w.heap.size) r1 hB
      exact ⟨v', w', hrun, r, r2, Or.inr fun b hb => (r1.lt b hb).1, hne r⟩
    · by_cases hfit : L.length + m.length ≤ cap
      · obtain ⟨w', hrun, r1, r2⟩ := run_append_fits (P := P) w B t ty e i E.k h1 h2 h4 g L.length cap (E.cs L) hown ⟨b, o, none⟩ m.length c2 (E.cs m) (E.cs_length m) hsrc (E.cs_one m) hfit
        have r : Row E w' B e (.slice (some ⟨g, 0, none⟩) (L.length + m.length) cap) (L ++ m) := by
          show w'.ownsRow B e E.k _ (L ++ m).length (E.cs (L ++ m))
          rw [hlen2, E.cs_append]
          exact r1
        exact ⟨_, w', hrun, r, r2, Or.inl rfl, hne r⟩
      · obtain ⟨v', w', hrun, r1, r2⟩ := run_append_arg_grows (P := P) w t ty e i z E.k bytes h1 h2 h3 h4 h5 h6 E.pos ⟨g, 0, none⟩ L.length cap (E.cs L) (E.cs_length L) (fun j u hj => (Row.rd hown).cells.2 j u hj |> fun h => by rw [Addr.add_lit]; exact h) ⟨b, o, none⟩ m.length c2 (E.cs m) (E.cs_length m) hsrc (by omega) hmax hby
        have r : Row E w' B e v' (L ++ m) := by
          refine Row.down (B := w.heap.size) ?_ hB
          show w'.ownsRow _ e E.k _ (L ++ m).length (E.cs (L ++ m))
          rw [hlen2, E.cs_append]
          exact r1
        exact ⟨v', w', hrun, r, ⟨r2.os, r2.tape, r2.output, r2.size, fun k hk _ => r2.block k hk (by simp)⟩, Or.inr fun b hb => (r1.lt b hb).1, hne r⟩

/-- `append` at a plain region's list -/
theorem wpList_append_row {P : Program} (w : World) {ops : Array Oper} {rest : List Oper} {o : Oper} {a : Act} {Q : Exit → Act → World → Prop} (hg : o.guard = none) (s x : Operand) (t : TypeId)
    (ho : o.op = .call { callee := .builtin .append, args := #[s, x], argTypes := #[t, t] }) {e : TypeId} {bytes : Nat} (T : ElemT P t e E.k bytes) (B : Nat)
    (v lv : Value) (L l : List α) (hs : a.eval s = v) (hx : a.eval x = lv) (hown : Row E w B e v L) (hl : Rd E w lv l) (hB : B ≤ w.heap.size) (b1 : L.length + l.length ≤ 140000000) (b2 : bytes ≤ 1000)
    (hK : ∀ v' w', Grew E w w' B e v v' (L ++ l) → wpList P ops Q rest (a.put o.dst v') w') : wpList P ops Q (o :: rest) a w := by
  refine wpList_plain hg fun K hK' => ?_
  obtain ⟨v', w', hrun, r⟩ := run_append_row (P := P) (t := t) (ty := o.type) T w B v lv L l hown hl hB b1 b2
  unfold Oper.wp
  simp [execOp, ho, resolve, invoke, builtin, hs, hx, hrun, Result.andThen]
  exact hK' _ _ (hK v' w' r)

/-- `append` at a step of a region that draws its order, by its run -/
theorem step_append_of {P : Program} {ops : Array Oper} {o : Oper} {a : Act} {w : World} {K : Act → World → Prop} {Q : Exit → Act → World → Prop} {F : Prop} (hg : o.guard = none) (s x : Operand) (t : TypeId)
    (hop : o.op = Op.call { callee := Callee.builtin Builtin.append, args := #[s, x], argTypes := #[t, t] }) {v lv v' : Value} {w' : World} (hrun : (Builtin.append_ #[t, t] o.type #[v, lv]).run P w = .ok v' w')
    (hs : a.eval s = v) (hx : a.eval x = lv) (hK : K (a.put o.dst v') w') : if Region.wanted o (yielded ops a.tmps) = true then Oper.wp P o a w K Q else F := by
  have hw : Region.wanted o (yielded ops a.tmps) = true := by simp [Region.wanted, hg]
  rw [if_pos hw]
  unfold Oper.wp
  simp [execOp, hop, resolve, invoke, builtin, hs, hx, hrun, Result.andThen]
  exact hK

/-- `append` at a step of a region that draws its order, by its law -/
theorem step_append_row {P : Program} {ops : Array Oper} {o : Oper} {a : Act} {w : World} {K : Act → World → Prop} {Q : Exit → Act → World → Prop} {F : Prop} (hg : o.guard = none) (s x : Operand) (t : TypeId)
    (hop : o.op = Op.call { callee := Callee.builtin Builtin.append, args := #[s, x], argTypes := #[t, t] }) {e : TypeId} {bytes : Nat} (T : ElemT P t e E.k bytes) (B : Nat)
    (v lv : Value) (L l : List α) (hs : a.eval s = v) (hx : a.eval x = lv) (hown : Row E w B e v L) (hl : Rd E w lv l) (hB : B ≤ w.heap.size) (b1 : L.length + l.length ≤ 140000000) (b2 : bytes ≤ 1000)
    (hK : ∀ v' w', Grew E w w' B e v v' (L ++ l) → K (a.put o.dst v') w') : if Region.wanted o (yielded ops a.tmps) = true then Oper.wp P o a w K Q else F := by
  obtain ⟨v', w', hrun, r⟩ := run_append_row (P := P) (t := t) (ty := o.type) T w B v lv L l hown hl hB b1 b2
  exact step_append_of hg s x t hop hrun hs hx (hK v' w' r)

theorem Grew.below {w w' w0 : World} {B B0 : Nat} {e : TypeId} {v v' : Value} {l : List α} (h : Grew E w w' B e v v' l) (hb : Below B0 w0 w) (hB : B0 ≤ w.heap.size) (hv : ∀ b, v.ownBlock = some b → B0 ≤ b) : Below B0 w0 w' :=
  hb.grown h.2.1 hB hv
theorem Grew.low {w w' : World} {B B0 : Nat} {e : TypeId} {v v' : Value} {l : List α} (h : Grew E w w' B e v v' l) (hB : B0 ≤ w.heap.size) (hv : ∀ b, v.ownBlock = some b → B0 ≤ b) : ∀ b, v'.ownBlock = some b → B0 ≤ b := by
  intro b hb
  rcases h.2.2.1 with e | e
  · exact hv b (e ▸ hb)
  · exact Nat.le_trans hB (e b hb)
theorem Grew.block {w w' : World} {B : Nat} {e : TypeId} {v v' : Value} {l : List α} (h : Grew E w w' B e v v' l) {b : Nat} {o : Obj} (hb : w.heap[b]? = some o) (hv : v.ownBlock ≠ some b) : w'.heap[b]? = some o :=
  (h.2.1.block b (lt_of_block hb) (fun e => hv e.symm)).trans hb
theorem Grew.rd {w w' : World} {B : Nat} {e : TypeId} {v v' : Value} {l : List α} {β : Type} {E' : Enc β} {u : Value} {m : List β} (h : Grew E w w' B e v v' l) (hr : Rd E' w u m) (hv : ∀ b, u.ownBlock = some b → v.ownBlock ≠ some b) : Rd E' w' u m := by
  obtain ⟨a, cap, rfl, hc, hn, hh⟩ := hr
  refine ⟨a, cap, rfl, hc, hn, fun i x hx => ?_⟩
  obtain ⟨b, o, rfl, hlt, h1⟩ := hh i x hx
  have e := h.2.1.block b hlt (fun e => hv b rfl e.symm)
  exact ⟨b, o, rfl, Nat.lt_of_lt_of_le hlt h.2.1.size, fun j u hu => (World.cell?_of_block (a := ⟨b, o + i * E'.k + j, none⟩) e).trans (h1 j u hu)⟩

end Ks
/- A thing that was made, with a row of its own: what stands of it, what a call turns. Plain. No program is in sight. -/
namespace Ks
open Go Go.RowKit
set_option linter.unusedVariables false

variable {α : Type} {E : Enc α}

/-- a thing of two cells: that it was made, and its row -/
structure Held (E : Enc α) (w : World) (TN TL : TypeId) (n : Nat) (v : Value) (l : List α) : Prop where
  blk : w.heap[n]? = some (.cells #[.bool true, v] TN (0, 0))
  own : Row E w 0 TL v l
  ne : v.ownBlock ≠ some n
theorem Held.lt {w : World} {TN TL : TypeId} {n : Nat} {v : Value} {l : List α} (h : Held E w TN TL n v l) : n < w.heap.size := lt_of_block h.blk
theorem Held.keep {w w' : World} {TN TL : TypeId} {n : Nat} {v : Value} {l : List α} (h : Held E w TN TL n v l) (hb : Below w.heap.size w w') : Held E w' TN TL n v l :=
  ⟨(hb.block n h.lt).trans h.blk, h.own.below hb, h.ne⟩
theorem Held.cells {w : World} {TN TL : TypeId} {n : Nat} {v : Value} {l : List α} (h : Held E w TN TL n v l) : w.cell? ⟨n, 0, none⟩ = some (.bool true) ∧ w.cell? ⟨n, 1, none⟩ = some v ∧ w.frozen? ⟨n, 0, none⟩ = false ∧ w.frozen? ⟨n, 1, none⟩ = false :=
  ⟨by rw [cell_of_row w n 0 _ _ _ h.blk]; rfl, by rw [cell_of_row w n 1 _ _ _ h.blk]; rfl, frozen_of_row w n 0 _ _ h.blk, frozen_of_row w n 1 _ _ h.blk⟩
/-- a thing that is none, or that no call made -/
def Dead (w : World) (TN : TypeId) (v : Value) : Prop := v = .pointer none ∨ ∃ n, v = .pointer (some ⟨n, 0, none⟩) ∧ w.heap[n]? = some (.cells #[.bool false, .slice none 0 0] TN (0, 0))
theorem Dead.keep {w w' : World} {TN : TypeId} {v : Value} (h : Dead w TN v) (hb : Below w.heap.size w w') : Dead w' TN v := by
  rcases h with h | ⟨n, rfl, h⟩
  · exact Or.inl h
  · exact Or.inr ⟨n, rfl, (hb.block n (lt_of_block h)).trans h⟩

/-- only the thing and its own row are turned -/
structure Turned (w w' : World) (n : Nat) (v v' : Value) : Prop where
  os : w'.os = w.os
  tape : w'.tape = w.tape
  output : w'.output = w.output
  size : w.heap.size ≤ w'.heap.size
  block : ∀ k, k < w.heap.size → k ≠ n → v.ownBlock ≠ some k → w'.heap[k]? = w.heap[k]?
  own : v'.ownBlock = v.ownBlock ∨ ∀ b, v'.ownBlock = some b → w.heap.size ≤ b
theorem Turned.of_below {w w' : World} {n : Nat} {v : Value} (hb : Below w.heap.size w w') : Turned w w' n v v :=
  ⟨hb.os, hb.tape, hb.output, hb.size, fun k hk _ _ => hb.block k hk, Or.inl rfl⟩
theorem Turned.below {w w' : World} {n B : Nat} {v v' : Value} (h : Turned w w' n v v') (hn : B ≤ n) (hv : ∀ b, v.ownBlock = some b → B ≤ b) (hB : B ≤ w.heap.size) : Below B w w' :=
  ⟨h.os, h.tape, h.output, h.size, fun k hk => h.block k (by omega) (by omega) fun e => by have := hv k e; omega⟩
theorem Turned.after {w w1 w2 : World} {n : Nat} {v v' : Value} (hb : Below w.heap.size w w1) (h : Turned w1 w2 n v v') : Turned w w2 n v v' :=
  ⟨h.os.trans hb.os, h.tape.trans hb.tape, h.output.trans hb.output, Nat.le_trans hb.size h.size, fun k hk h1 h2 => (h.block k (Nat.lt_of_lt_of_le hk hb.size) h1 h2).trans (hb.block k hk),
    h.own.imp id fun h b e => Nat.le_trans hb.size (h b e)⟩
theorem Turned.then {w w1 w2 : World} {n : Nat} {v v' : Value} (h : Turned w w1 n v v') (hb : Below w1.heap.size w1 w2) : Turned w w2 n v v' :=
  ⟨hb.os.trans h.os, hb.tape.trans h.tape, hb.output.trans h.output, Nat.le_trans h.size hb.size, fun k hk h1 h2 => (hb.block k (Nat.lt_of_lt_of_le hk h.size)).trans (h.block k hk h1 h2), h.own⟩
theorem Turned.low {w w' : World} {n B : Nat} {v v' : Value} (h : Turned w w' n v v') (hv : ∀ b, v.ownBlock = some b → B ≤ b) (hB : B ≤ w.heap.size) : ∀ b, v'.ownBlock = some b → B ≤ b := by
  intro b hb
  rcases h.own with e | e
  · exact hv b (e ▸ hb)
  · exact Nat.le_trans hB (e b hb)
theorem set_ne {w : World} {n k o : Nat} (u : Value) (h : k ≠ n) : (w.setCell ⟨n, o, none⟩ u).heap[k]? = w.heap[k]? := Below.heap_setCell _ _ _ _ h
theorem set_one {w : World} {n : Nat} {c0 c1 : Value} {T : TypeId} (u : Value) (h : w.heap[n]? = some (.cells #[c0, c1] T (0, 0))) : (w.setCell ⟨n, 1, none⟩ u).heap[n]? = some (.cells #[c0, u] T (0, 0)) := by
  simp [World.setCell, Array.getElem?_modify, h]
theorem Rd.put {w : World} {v : Value} {l : List α} (h : Rd E w v l) {m o : Nat} (u : Value) (hm : v.ownBlock ≠ some m) : Rd E (w.setCell ⟨m, o, none⟩ u) v l :=
  h.keep (by simp) fun b e => set_ne u fun e2 => hm (by rw [e, e2])
theorem Rd.turned {w w' : World} {n : Nat} {v v' u : Value} {β : Type} {E' : Enc β} {l : List β} (hl : Rd E' w u l) (h : Turned w w' n v v') (h1 : u.ownBlock ≠ some n) (h2 : ∀ b, u.ownBlock = some b → v.ownBlock ≠ some b) : Rd E' w' u l := by
  obtain ⟨a, cap, rfl, hc, hn, hh⟩ := hl
  refine ⟨a, cap, rfl, hc, hn, fun i x hx => ?_⟩
  obtain ⟨b, o, rfl, hlt, hcs⟩ := hh i x hx
  have e := h.block b hlt (fun e => h1 (by simp [Value.ownBlock, e])) (h2 b rfl)
  exact ⟨b, o, rfl, Nat.lt_of_lt_of_le hlt h.size, fun j u hu => (World.cell?_of_block (a := ⟨b, o + i * E'.k + j, none⟩) e).trans (hcs j u hu)⟩
theorem Rd.lt' {w : World} {v : Value} {l : List α} (h : Rd E w v l) (hl : l ≠ []) {b : Nat} (hb : v.ownBlock = some b) : b < w.heap.size := by
  cases l with
  | nil => exact absurd rfl hl
  | cons x l =>
    obtain ⟨a, cap, rfl, _⟩ := h.shape
    obtain ⟨b', o, rfl, hb', _⟩ := h.at 0 x rfl
    simp [Value.ownBlock] at hb
    omega
theorem Rd.empty {w : World} {v : Value} (h : Rd E w v []) (w' : World) : Rd E w' v [] := by
  obtain ⟨a, cap, rfl, h1, h2, _⟩ := h
  exact ⟨a, cap, rfl, h1, h2, fun i x hx => by simp at hx⟩

theorem Row.any {w : World} {B : Nat} {T : TypeId} {v : Value} {l : List α} (h : Row E w B T v l) : ∃ a n cap, v = .slice a n cap := by
  obtain ⟨a, cap, e, _⟩ := h.shape
  exact ⟨a, _, cap, e⟩
/-- the store that ends a call -/
theorem Held.store {w w2 : World} {TN TL : TypeId} {n : Nat} {v v' : Value} {L L' : List α} (h : Held E w TN TL n v L) (hg : Grew E w w2 0 TL v v' L') :
    Held E (w2.setCell ⟨n, 1, none⟩ v') TN TL n v' L' ∧ Turned w (w2.setCell ⟨n, 1, none⟩ v') n v v' := by
  obtain ⟨ho, hg, hor, _⟩ := hg
  have hne : v'.ownBlock ≠ some n := by
    rcases hor with e | e
    · rw [e]; exact h.ne
    · intro e2; have := e n e2; have := h.lt; omega
  have hb2 : w2.heap[n]? = some (.cells #[.bool true, v] TN (0, 0)) := (hg.block n h.lt (fun e => h.ne e.symm)).trans h.blk
  have hs : (w2.setCell ⟨n, 1, none⟩ v').heap.size = w2.heap.size := by simp
  refine ⟨⟨set_one v' hb2, ho.keep fun b e => set_ne v' fun e2 => hne (by rw [e, e2]), hne⟩, ?_⟩
  have hB : Below 0 w2 (w2.setCell ⟨n, 1, none⟩ v') := (Below.refl 0 w2).setCell (Nat.zero_le _) v'
  refine ⟨hB.os.trans hg.os, hB.tape.trans hg.tape, hB.output.trans hg.output, by rw [hs]; exact hg.size, fun k hk h1 h2 => ?_, hor⟩
  rw [set_ne v' h1]
  exact hg.block k hk fun e => h2 e.symm

/-- cells of a block known whole -/
theorem blk1 {w : World} {b : Nat} {c0 : Value} {T : TypeId} (h : w.heap[b]? = some (.cells #[c0] T (0, 0))) : w.cell? ⟨b, 0, none⟩ = some c0 ∧ w.frozen? ⟨b, 0, none⟩ = false :=
  ⟨by rw [cell_of_row w b 0 _ _ _ h]; rfl, frozen_of_row w b 0 _ _ h⟩
theorem blk2 {w : World} {b : Nat} {c0 c1 : Value} {T : TypeId} (h : w.heap[b]? = some (.cells #[c0, c1] T (0, 0))) : w.cell? ⟨b, 0, none⟩ = some c0 ∧ w.cell? ⟨b, 1, none⟩ = some c1 ∧ w.frozen? ⟨b, 0, none⟩ = false ∧ w.frozen? ⟨b, 1, none⟩ = false :=
  ⟨by rw [cell_of_row w b 0 _ _ _ h]; rfl, by rw [cell_of_row w b 1 _ _ _ h]; rfl, frozen_of_row w b 0 _ _ h, frozen_of_row w b 1 _ _ h⟩
theorem blk3 {w : World} {b : Nat} {c0 c1 c2 : Value} {T : TypeId} (h : w.heap[b]? = some (.cells #[c0, c1, c2] T (0, 0))) : w.cell? ⟨b, 0, none⟩ = some c0 ∧ w.cell? ⟨b, 1, none⟩ = some c1 ∧ w.cell? ⟨b, 2, none⟩ = some c2 ∧ w.frozen? ⟨b, 0, none⟩ = false ∧ w.frozen? ⟨b, 1, none⟩ = false ∧ w.frozen? ⟨b, 2, none⟩ = false :=
  ⟨by rw [cell_of_row w b 0 _ _ _ h]; rfl, by rw [cell_of_row w b 1 _ _ _ h]; rfl, by rw [cell_of_row w b 2 _ _ _ h]; rfl, frozen_of_row w b 0 _ _ h, frozen_of_row w b 1 _ _ h, frozen_of_row w b 2 _ _ h⟩
theorem alloc_new (w : World) (o : Obj) : (w.alloc o).heap[w.heap.size]? = some o := heap_alloc_new w o
theorem alloc_below (w : World) (o : Obj) : Below w.heap.size w (w.alloc o) := (Below.refl _ _).alloc (Nat.le_refl _) _
theorem drew_below (w : World) : Below w.heap.size w w.drew := (Below.refl _ _).drew
end Ks
/- Leaves and proofs: plain. No program is in sight. -/
namespace Ks
open Go Go.RowKit
set_option linter.unusedVariables false
/-- a leaf: its place, its data's hash -/
abbrev LeafT := Int × ByteArray
def leafE : Enc LeafT := ⟨2, fun x => [.int .i64 x.1, .string x.2], fun _ => rfl, fun x u hu => by simp only [List.mem_cons, List.not_mem_nil, or_false] at hu; rcases hu with rfl | rfl <;> rfl, by decide⟩
abbrev leafV (x : LeafT) : Value := .agg #[.int .i64 x.1, .string x.2]
def noLeaf : LeafT := (0, ⟨#[]⟩)
def mayLeaf (x : LeafT) : Prop := 0 ≤ x.1 ∧ x.1 < 4096 ∧ x.2.size = 32
instance (x : LeafT) : Decidable (mayLeaf x) := by unfold mayLeaf; infer_instance
def saidS (x : LeafT) : ByteArray := if mayLeaf x then putS x.1 4 ++ x.2 else ⟨#[]⟩
def hashS (x : LeafT) : ByteArray := leafS (saidS x)
def hashL (l : List LeafT) : List ByteArray := l.map hashS
theorem said_may {x : LeafT} (h : mayLeaf x) : saidS x = putS x.1 4 ++ x.2 := if_pos h
theorem said_no {x : LeafT} (h : ¬ mayLeaf x) : saidS x = ⟨#[]⟩ := if_neg h
theorem put4_ok {n : Int} (h0 : 0 ≤ n) (h : n < 4096) : putOk n 4 = true := by
  rw [putOk, decide_eq_true_iff]
  refine ⟨by omega, by omega, h0, fun _ => ?_⟩
  have : n.toNat < 4096 := by omega
  exact Nat.div_eq_of_lt (by rw [show (8 * (4 : Int).toNat) = 32 from rfl]; omega)
theorem put4_size {n : Int} (h0 : 0 ≤ n) (h : n < 4096) : (putS n 4).size = 4 := by
  rw [putS, if_pos (put4_ok h0 h)]
  show (putL 4 n.toNat).toArray.size = 4
  simp
theorem said_size {x : LeafT} (h : mayLeaf x) : (saidS x).size = 36 := by
  rw [said_may h, ByteArray.size_append, put4_size h.1 h.2.1, h.2.2]
theorem said_le (x : LeafT) : (saidS x).size ≤ 36 := by
  by_cases h : mayLeaf x
  · rw [said_size h]; exact Nat.le_refl _
  · rw [said_no h]; decide
theorem said_ne {x : LeafT} : saidS x ≠ ⟨#[]⟩ ↔ mayLeaf x := by
  constructor
  · intro h
    exact Classical.byContradiction fun hn => h (said_no hn)
  · intro h e
    have := said_size h
    rw [e] at this
    exact absurd this (by decide)
theorem put4_inj {a b : Int} (ha : 0 ≤ a) (ha2 : a < 4096) (hb : 0 ≤ b) (hb2 : b < 4096) (h : putS a 4 = putS b 4) : a = b := by
  rw [putS, putS, if_pos (put4_ok ha ha2), if_pos (put4_ok hb hb2)] at h
  have h1 : (putL 4 a.toNat) = putL 4 b.toNat := by
    have := congrArg (fun s : ByteArray => s.data.toList) h
    simpa using this
  have g0 := congrArg (·[3]?) h1
  have g1 := congrArg (·[2]?) h1
  rw [putL_get 4 _ 3 (by omega), putL_get 4 _ 3 (by omega)] at g0
  rw [putL_get 4 _ 2 (by omega), putL_get 4 _ 2 (by omega)] at g1
  have e0 : (a.toNat / 256 ^ 0) % 256 = (b.toNat / 256 ^ 0) % 256 := by
    have := congrArg UInt8.toNat (Option.some.inj g0)
    simpa using this
  have e1 : (a.toNat / 256 ^ 1) % 256 = (b.toNat / 256 ^ 1) % 256 := by
    have := congrArg UInt8.toNat (Option.some.inj g1)
    simpa using this
  simp only [Nat.pow_zero, Nat.div_one, Nat.pow_one] at e0 e1
  omega
theorem said_inj {x y : LeafT} (hx : mayLeaf x) (hy : mayLeaf y) (h : saidS x = saidS y) : x = y := by
  rw [said_may hx, said_may hy] at h
  have hl : (putS x.1 4).data.toList ++ x.2.data.toList = (putS y.1 4).data.toList ++ y.2.data.toList := by
    have := congrArg (fun s : ByteArray => s.data.toList) h
    simpa using this
  have hlen : (putS x.1 4).data.toList.length = (putS y.1 4).data.toList.length := by
    rw [data_length, data_length, put4_size hx.1 hx.2.1, put4_size hy.1 hy.2.1]
  obtain ⟨e1, e2⟩ := List.append_inj hl hlen
  have a1 : putS x.1 4 = putS y.1 4 := by
    rcases hA : putS x.1 4 with ⟨⟨A⟩⟩
    rcases hB : putS y.1 4 with ⟨⟨B⟩⟩
    rw [hA, hB] at e1
    have : A = B := e1
    rw [this]
  have a2 : x.2 = y.2 := by
    rcases hA : x.2 with ⟨⟨A⟩⟩
    rcases hB : y.2 with ⟨⟨B⟩⟩
    rw [hA, hB] at e2
    have : A = B := e2
    rw [this]
  exact Prod.ext (put4_inj hx.1 hx.2.1 hy.1 hy.2.1 a1) a2
theorem hashS_size (x : LeafT) : (hashS x).size = 32 := sha1_size _
theorem hashL_whole (l : List LeafT) : wholeL (hashL l) = true := by
  simp only [wholeL, hashL, List.all_eq_true, List.mem_map, beq_iff_eq]
  rintro _ ⟨x, _, rfl⟩
  exact hashS_size x
theorem hashL_length (l : List LeafT) : (hashL l).length = l.length := List.length_map _
/-- may leaves be, behind a place? -/
def rightFrom : Int → List LeafT → Bool
  | _, [] => true
  | was, x :: l => decide (was < x.1 ∧ mayLeaf x) && rightFrom x.1 l
def rightB (l : List LeafT) : Bool := rightFrom (-1) l
theorem right_spec : ∀ (l : List LeafT) (was : Int), rightFrom was l = true ↔ (∀ x ∈ l, was < x.1 ∧ mayLeaf x) ∧ l.Pairwise fun a b => a.1 < b.1
  | [], was => by simp [rightFrom]
  | x :: l, was => by
    rw [rightFrom, Bool.and_eq_true, decide_eq_true_iff, right_spec l x.1, List.pairwise_cons]
    constructor
    · rintro ⟨⟨h1, h2⟩, h3, h4⟩
      refine ⟨fun y hy => ?_, fun y hy => (h3 y hy).1, h4⟩
      rcases List.mem_cons.1 hy with rfl | hy
      · exact ⟨h1, h2⟩
      · have := h3 y hy; exact ⟨by omega, this.2⟩
    · rintro ⟨h1, h2, h3⟩
      exact ⟨h1 x (by simp), fun y hy => ⟨h2 y hy, (h1 y (by simp [hy])).2⟩, h3⟩
theorem rightB_spec (l : List LeafT) : rightB l = true ↔ (∀ x ∈ l, mayLeaf x) ∧ l.Pairwise fun a b => a.1 < b.1 := by
  rw [rightB, right_spec]
  exact ⟨fun h => ⟨fun x hx => (h.1 x hx).2, h.2⟩, fun h => ⟨fun x hx => ⟨by have := (h.1 x hx).1; omega, h.1 x hx⟩, h.2⟩⟩
theorem right_sorted {l : List LeafT} (h : l.Pairwise fun a b => a.1 < b.1) {i j : Nat} {x y : LeafT} (hij : i < j) (hx : l[i]? = some x) (hy : l[j]? = some y) : x.1 < y.1 := by
  rw [List.pairwise_iff_getElem] at h
  obtain ⟨hi, rfl⟩ := List.getElem?_eq_some_iff.1 hx
  obtain ⟨hj, rfl⟩ := List.getElem?_eq_some_iff.1 hy
  exact h i j hi hj hij
/-- how many stand ahead of a place -/
def aheadN (lba : Int) (l : List LeafT) : Nat := (l.takeWhile fun x => decide (x.1 < lba)).length
theorem ahead_le (lba : Int) (l : List LeafT) : aheadN lba l ≤ l.length := (List.takeWhile_prefix _).length_le
theorem ahead_lt (lba : Int) : ∀ (l : List LeafT) (i : Nat) (x : LeafT), i < aheadN lba l → l[i]? = some x → x.1 < lba
  | [], i, x, h, hx => by simp at hx
  | y :: l, i, x, h, hx => by
    unfold aheadN at h
    rw [List.takeWhile_cons] at h
    split at h
    · rename_i hy
      cases i with
      | zero => simp at hx; subst hx; simpa using hy
      | succ i => exact ahead_lt lba l i x (by unfold aheadN; simpa using h) (by simpa using hx)
    · simp at h
theorem ahead_at (lba : Int) : ∀ (l : List LeafT) (x : LeafT), l[aheadN lba l]? = some x → ¬ x.1 < lba
  | [], x, hx => by simp at hx
  | y :: l, x, hx => by
    unfold aheadN at hx
    rw [List.takeWhile_cons] at hx
    split at hx
    · rename_i hy
      exact ahead_at lba l x (by unfold aheadN; simpa using hx)
    · rename_i hy
      simp at hx
      subst hx
      simpa using hy
theorem ahead_ge {lba : Int} {l : List LeafT} (h : l.Pairwise fun a b => a.1 < b.1) (i : Nat) (x : LeafT) (hi : aheadN lba l ≤ i) (hx : l[i]? = some x) : ¬ x.1 < lba := by
  rcases Nat.lt_or_ge (aheadN lba l) i with hlt | hge
  · have hlen : i < l.length := (List.getElem?_eq_some_iff.1 hx).1
    obtain ⟨y, hy⟩ : ∃ y, l[aheadN lba l]? = some y := ⟨_, List.getElem?_eq_getElem (by omega)⟩
    have h1 := ahead_at lba l y hy
    have h2 := right_sorted h hlt hy hx
    omega
  · obtain rfl : aheadN lba l = i := by omega
    exact ahead_at lba l x hx
/-- a proof -/
structure PrfD where
  found : Bool
  at_ : Int
  here : LeafT
  ahead : LeafT
  up : List ByteArray
  left : List ByteArray
def noPrf : PrfD := ⟨false, 0, noLeaf, noLeaf, [], []⟩
def hereOf (l : List LeafT) (n : Nat) : LeafT := (l[n]?).getD noLeaf
def metP (l : List LeafT) (lba : Int) : Bool := match l[aheadN lba l]? with | some x => decide (x.1 = lba) | none => false
/-- the proof of a place -/
def proveP (l : List LeafT) (lba : Int) : PrfD :=
  ⟨metP l lba, aheadN lba l, hereOf l (aheadN lba l), if metP l lba = false ∧ 0 < aheadN lba l then hereOf l (aheadN lba l - 1) else noLeaf,
   if aheadN lba l < l.length then pathL (hashL l) (aheadN lba l) else [], if metP l lba = false ∧ 0 < aheadN lba l then pathL (hashL l) (aheadN lba l - 1) else []⟩
/-- the hash of data -/
def dataE (epoch slot : Int) : Int := packE [4, 4] [epoch, slot]
def dataS (epoch slot : Int) (s : ByteArray) : ByteArray := if dataE epoch slot = 0 then sha1 ((packS [4, 4] [epoch, slot]).data.toList ++ s.data.toList) else ⟨#[]⟩
/-- what a law wants of a place -/
def wantP (l : List LeafT) (lba : Int) : ByteArray × Bool := l.foldl (fun r x => if x.1 = lba then (x.2, true) else r) (⟨#[]⟩, false)
theorem want_snoc (l : List LeafT) (x : LeafT) (lba : Int) : wantP (l ++ [x]) lba = if x.1 = lba then (x.2, true) else wantP l lba := by
  rw [wantP, List.foldl_append]; rfl
theorem want_from (lba : Int) : ∀ (l : List LeafT) (r : ByteArray × Bool), (∀ x ∈ l, x.1 ≠ lba) → l.foldl (fun r x => if x.1 = lba then (x.2, true) else r) r = r
  | [], r, _ => rfl
  | x :: l, r, h => by
    rw [List.foldl_cons, if_neg (h x (by simp))]
    exact want_from lba l r fun y hy => h y (by simp [hy])
theorem want_none (l : List LeafT) (lba : Int) (h : ∀ x ∈ l, x.1 ≠ lba) : wantP l lba = (⟨#[]⟩, false) := want_from lba l _ h
theorem want_at (lba : Int) : ∀ (l : List LeafT) (r : ByteArray × Bool) (i : Nat) (x : LeafT), (l.Pairwise fun a b => a.1 < b.1) → l[i]? = some x → x.1 = lba → l.foldl (fun r x => if x.1 = lba then (x.2, true) else r) r = (x.2, true)
  | [], r, i, x, _, hx, _ => by simp at hx
  | y :: l, r, i, x, h, hx, he => by
    rw [List.pairwise_cons] at h
    rw [List.foldl_cons]
    cases i with
    | zero =>
      simp at hx
      subst hx
      rw [if_pos he]
      exact want_from lba l _ fun z hz => by have := h.1 z hz; omega
    | succ i =>
      have hx' : l[i]? = some x := by simpa using hx
      have := h.1 x (List.mem_of_getElem? hx')
      rw [if_neg (by omega)]
      exact want_at lba l r i x h.2 hx' he
theorem want_some (l : List LeafT) (lba : Int) (h : l.Pairwise fun a b => a.1 < b.1) (i : Nat) (x : LeafT) (hx : l[i]? = some x) (he : x.1 = lba) : wantP l lba = (x.2, true) := want_at lba l _ i x h hx he
end Ks
/- A region that draws its order, whose operations read and whose callees make memory but turn none that was there: walked once, in the order of the text. (Over the library's theorem on quiet regions.) -/
namespace Ks
open Go Go.RowKit

/-- a world behind another one: so many draws, such blocks more -/
def After (w : World) (p : Regrown) : World := Sort.grow (redrawn w p.d) p.os

theorem after_below (w : World) (p : Regrown) : Below w.heap.size w (After w p) := below_regrown w p.d p.os
theorem after_of {w w' : World} (h : Below w.heap.size w w') : ∃ p, w' = After w p := regrown_of_below h
theorem after_cell {w : World} {a : Addr} {v : Value} (h : w.cell? a = some v) (p : Regrown) : (After w p).cell? a = some v := cell_regrown h p.d p.os
theorem wp_region_after {P : Program} {id : Nat} {Q : Exit → Act → World → Prop} {a : Act} {w : World} {l : List Oper} (hm : P.follows .mixedOrders = true) (hB : Region.lexB .any l.toArray = true)
    (h : wpQuiet P l.toArray (fun w' => ∃ p : Regrown, w' = After w p) (fun a' => ∀ w', (∃ p : Regrown, w' = After w p) → Q .normal a' w') l a) : (Code.region id l.toArray true).wp P Q a w :=
  wp_region_quiet_below hm hB h
theorem calls_after {P : Program} {f : FuncId} {args : Array Value} {w : World} {p : Regrown} {v : Value}
    (h : Calls P f args (After w p) fun e w' => e = .returned v ∧ Below (After w p).heap.size (After w p) w') : Calls P f args (After w p) fun e w'' => e = .returned v ∧ ∃ p : Regrown, w'' = After w p :=
  Calls.regrown_of h
theorem calls_after_same {P : Program} {f : FuncId} {args : Array Value} {w : World} {p : Regrown} {v : Value}
    (h : Calls P f args (After w p) fun e w' => e = .returned v ∧ After w p = w') : Calls P f args (After w p) fun e w'' => e = .returned v ∧ ∃ p : Regrown, w'' = After w p :=
  h.mono fun _ _ ⟨he, hw⟩ => ⟨he, p, hw.symm⟩
theorem after_frozen {w : World} {a : Addr} (h : a.block < w.heap.size) (p : Regrown) : (After w p).frozen? a = w.frozen? a := (after_below w p).frozen h

theorem RdI.after {w : World} {v : Value} {l : List Int} (h : RdI w v l) (p : Regrown) : RdI (After w p) v l := h.below (after_below w p)

end Ks
/- The digest's small functions: a number turned, three of them, a number of four bytes; the reference's turn. -/
namespace Ks
open Go Go.RowKit
theorem num_or (a b c d : Nat) (ha : a < 256) (hb : b < 256) (hc : c < 256) (hd : d < 256) :
    bits .or .u32 (bits .or .u32 (bits .or .u32 ((a : Int) % 4294967296 * 16777216 % 4294967296) ((b : Int) % 4294967296 * 65536 % 4294967296)) ((c : Int) % 4294967296 * 256 % 4294967296)) ((d : Int) % 4294967296)
      = ((((a * 256 + b) * 256 + c) * 256 + d : Nat) : Int) := by
  have e1 : ((a : Int) % 4294967296 * 16777216 % 4294967296) = (a : Int) * 16777216 := by omega
  have e2 : ((b : Int) % 4294967296 * 65536 % 4294967296) = (b : Int) * 65536 := by omega
  have e3 : ((c : Int) % 4294967296 * 256 % 4294967296) = (c : Int) * 256 := by omega
  have e4 : ((d : Int) % 4294967296) = (d : Int) := by omega
  have p32 : (2 : Int) ^ 32 = 4294967296 := by decide
  have p24 : (2 : Int) ^ 24 = 16777216 := by decide
  have p16 : (2 : Int) ^ 16 = 65536 := by decide
  have p8 : (2 : Int) ^ 8 = 256 := by decide
  have j1 := bits_join .u32 32 (by decide) wraps_u32 24 ((a : Int) * 16777216) ((b : Int) * 65536) (by omega) (by rw [p24]; omega) (by rw [p32]; omega) (by omega) (by rw [p24]; omega) (by rw [p32]; omega)
  have j2 := bits_join .u32 32 (by decide) wraps_u32 16 ((a : Int) * 16777216 + (b : Int) * 65536) ((c : Int) * 256) (by omega) (by rw [p16]; omega) (by rw [p32]; omega) (by omega) (by rw [p16]; omega) (by rw [p32]; omega)
  have j3 := bits_join .u32 32 (by decide) wraps_u32 8 ((a : Int) * 16777216 + (b : Int) * 65536 + (c : Int) * 256) (d : Int) (by omega) (by rw [p8]; omega) (by rw [p32]; omega) (by omega) (by rw [p8]; omega) (by rw [p32]; omega)
  rw [e1, e2, e3, e4, j1, j2, j3]
  omega
theorem num_bytes (s : ByteArray) (h : 4 ≤ s.size) : getN (s.data.toList.take 4) = (((s[0]).toNat * 256 + (s[1]).toNat) * 256 + (s[2]).toNat) * 256 + (s[3]).toNat := by
  rw [take_snoc s 3 (by omega), getN_snoc, take_snoc s 2 (by omega), getN_snoc, take_snoc s 1 (by omega), getN_snoc, take_snoc s 0 (by omega), getN_snoc]
  simp [getN]
end Ks
namespace Go.Proofs.Ytelmcoedmkhkjaa
open Go.RowKit Ks
set_option linter.unusedVariables false

set_option maxHeartbeats 1000000 in
theorem rot_any (x n : Nat) (w : World) (hx : x < 4294967296) (h1 : 1 ≤ n) (h2 : n ≤ 31) :
    Calls Try.prog 87 #[.int .u32 x, .int .i64 (-(n : Int))] w fun e w' => e = .returned (.int .u32 (rotr x n : Nat)) ∧ w' = w := by
  refine calls_by fun R HR => ?_
  have hw : IntKind.u64.wrap (-(n : Int)) = 18446744073709551616 - n := by simp [IntKind.wrap, IntKind.bits, IntKind.signed]; omega
  have hb : bits .and .u64 (18446744073709551616 - (n : Int)) 31 = 32 - n := by
    have e := bits_mask .u64 64 (by decide) (fun m h0 h1 => by rw [show (2 : Int) ^ 64 = 18446744073709551616 from by decide] at h1; simp [IntKind.wrap, IntKind.bits, IntKind.signed]; omega) 5 (by decide) (18446744073709551616 - (n : Int)) (by omega) (by rw [show (2 : Int) ^ 64 = 18446744073709551616 from by decide]; omega)
    rw [show (2 : Int) ^ 5 - 1 = 31 from by decide, show (2 : Int) ^ 5 = 32 from by decide] at e
    rw [e]; omega
  have h0 : (0 : Int) ≤ 32 - n := by omega
  go_enter Try.func87, Try.ntmps87
  go_wp2
  refine HR.out _ _ ⟨?_, rfl⟩
  show Ending.returned (Value.int .u32 (bits .or .u32 ((x : Int) * 2 ^ (32 - n) % 4294967296) ((x : Int) / 2 ^ (32 - (32 - n))))) = _
  rw [← rot_parts x n hx, ← or_u32 _ _ (Nat.mod_lt _ (by decide)) (shr_lt hx n), show 32 - (32 - n) = n by omega, Nat.shiftLeft_eq, Nat.shiftRight_eq_div_pow]
  simp only [Int.natCast_emod, Int.natCast_mul, Int.natCast_pow, Int.natCast_ediv]
  rfl

set_option maxHeartbeats 1000000 in
theorem number_any (s : ByteArray) (w : World) (h : 4 ≤ s.size) :
    Calls Try.prog 86 #[.string s] w fun e w' => e = .returned (.int .u32 (getN (s.data.toList.take 4) : Nat)) ∧ Below w.heap.size w w' := by
  refine calls_by fun R HR => ?_
  have k0 : 0 < s.size := by omega
  have k1 : (1 : Int) < (s.size : Int) := by omega
  have k2 : (2 : Int) < (s.size : Int) := by omega
  have k3 : (3 : Int) < (s.size : Int) := by omega
  go_enter Try.func86, Try.ntmps86
  go_wp2_with fail
  go_quiet (fail)
  go_wp2
  refine HR.out _ _ ⟨?_, below_drewN (Below.refl _ _) _⟩
  rw [num_bytes s h, ← num_or _ _ _ _ (s[0]).toNat_lt (s[1]).toNat_lt (s[2]).toNat_lt (s[3]).toNat_lt]
  rfl

set_option maxHeartbeats 1000000 in
theorem turn_any (x n : Nat) (w : World) (hx : x < 4294967296) (h1 : 1 ≤ n) (h2 : n ≤ 31) :
    Calls Try.prog 68 #[.int .i64 x, .int .i64 n] w fun e w' => e = .returned (.int .i64 (rotr x n : Nat)) ∧ Below w.heap.size w w' := by
  refine calls_by fun R HR => ?_
  go_enter Try.func68, Try.ntmps68
  go_wp2_with fail
  go_quiet (fail)
  go_wp2
  refine HR.out _ _ ⟨?_, below_drewN (Below.refl _ _) _⟩
  show Ending.returned (Value.int .i64 ((bits .or .i64 ((x : Int) / 2 ^ n) (wrap64 ((x : Int) * 2 ^ (32 - n)))).tmod 4294967296)) = _
  have hp : 2 ^ (32 - n) ≤ 2 ^ 31 := Nat.pow_le_pow_right (by decide) (by omega)
  rw [show (2:Nat) ^ 31 = 2147483648 from by decide] at hp
  have hm : x * 2 ^ (32 - n) < 9223372036854775808 := Nat.lt_of_le_of_lt (Nat.mul_le_mul (show x ≤ 4294967295 by omega) hp) (by decide)
  have hw : wrap64 ((x : Int) * 2 ^ (32 - n)) = ((x * 2 ^ (32 - n) : Nat) : Int) := by
    have : ((x * 2 ^ (32 - n) : Nat) : Int) < 9223372036854775808 := by omega
    simp only [Int.natCast_mul, Int.natCast_pow] at this ⊢
    change (x : Int) * 2 ^ (32 - n) < _ at this
    change _ = (x : Int) * 2 ^ (32 - n)
    have h0 : (0 : Int) ≤ (x : Int) * 2 ^ (32 - n) := Int.mul_nonneg (by omega) (Int.pow_nonneg (by decide))
    rw [wrap64]; omega
  have h63 : (2 : Nat) ^ 63 = 9223372036854775808 := by decide
  rw [hw, show (x : Int) / 2 ^ n = ((x / 2 ^ n : Nat) : Int) by simp only [Int.natCast_ediv, Int.natCast_pow]; rfl, or_i64 _ _ (by rw [h63]; exact Nat.lt_of_le_of_lt (Nat.div_le_self _ _) (by omega)) (by rw [h63]; exact hm), rotr, Nat.shiftLeft_eq, Nat.shiftRight_eq_div_pow]
  rw [Int.tmod_eq_emod_of_nonneg (by omega)]
  simp only [Int.natCast_emod]
  rfl

set_option maxHeartbeats 1000000 in
theorem three_shift (x a b c : Nat) (w : World) (hx : x < 4294967296) (ha : 1 ≤ a ∧ a ≤ 31) (hb : 1 ≤ b ∧ b ≤ 31) (hc : 1 ≤ c ∧ c ≤ 31) :
    Calls Try.prog 80 #[.int .u32 x, .int .i64 a, .int .i64 b, .int .i64 c, .bool true] w fun e w' => e = .returned (.int .u32 (sigS x a b c : Nat)) ∧ w' = w := by
  refine calls_by fun R HR => ?_
  obtain ⟨a1, a2⟩ := ha
  obtain ⟨b1, b2⟩ := hb
  obtain ⟨c1, c2⟩ := hc
  go_enter Try.func80, Try.ntmps80
  go_wp2_with fail
  refine (rot_any x c _ hx c1 c2).mono ?_
  rintro e w1 ⟨rfl, rfl⟩
  go_wp2_with fail
  refine (rot_any x a _ hx a1 a2).mono ?_
  rintro e w1 ⟨rfl, rfl⟩
  go_wp2_with fail
  refine (rot_any x b _ hx b1 b2).mono ?_
  rintro e w1 ⟨rfl, rfl⟩
  go_wp2_with fail
  refine HR.out _ _ ⟨?_, rfl⟩
  rw [sigS, ← xor_u32 _ _ (xor32 (rotr_lt _ _) (rotr_lt _ _)) (shr_lt hx c), ← xor_u32 _ _ (rotr_lt _ _) (rotr_lt _ _), Nat.shiftRight_eq_div_pow]
  simp only [Int.natCast_pow, Int.natCast_ediv]
  rfl
set_option maxHeartbeats 1000000 in
theorem three_turn (x a b c : Nat) (w : World) (hx : x < 4294967296) (ha : 1 ≤ a ∧ a ≤ 31) (hb : 1 ≤ b ∧ b ≤ 31) (hc : 1 ≤ c ∧ c ≤ 31) :
    Calls Try.prog 80 #[.int .u32 x, .int .i64 a, .int .i64 b, .int .i64 c, .bool false] w fun e w' => e = .returned (.int .u32 (sigR x a b c : Nat)) ∧ w' = w := by
  refine calls_by fun R HR => ?_
  obtain ⟨a1, a2⟩ := ha
  obtain ⟨b1, b2⟩ := hb
  obtain ⟨c1, c2⟩ := hc
  go_enter Try.func80, Try.ntmps80
  go_wp2_with fail
  refine (rot_any x c _ hx c1 c2).mono ?_
  rintro e w1 ⟨rfl, rfl⟩
  go_wp2_with fail
  refine (rot_any x a _ hx a1 a2).mono ?_
  rintro e w1 ⟨rfl, rfl⟩
  go_wp2_with fail
  refine (rot_any x b _ hx b1 b2).mono ?_
  rintro e w1 ⟨rfl, rfl⟩
  go_wp2_with fail
  refine HR.out _ _ ⟨?_, rfl⟩
  rw [sigR, ← xor_u32 _ _ (xor32 (rotr_lt _ _) (rotr_lt _ _)) (rotr_lt _ _), ← xor_u32 _ _ (rotr_lt _ _) (rotr_lt _ _)]
  rfl
end Go.Proofs.Ytelmcoedmkhkjaa
/- Whole arrays out of and into their blocks, by law: no program is in sight. -/
namespace Ks
open Go Go.RowKit
set_option linter.unusedVariables false
/-- numbers, as an array's cells -/
def u32s (l : List Nat) : Array Value := (l.map fun (n : Nat) => Value.int .u32 (n : Int)).toArray
def i64s (l : List Nat) : Array Value := (l.map fun (n : Nat) => Value.int .i64 (n : Int)).toArray
@[simp] theorem u32s_size (l : List Nat) : (u32s l).size = l.length := by simp [u32s]
@[simp] theorem i64s_size (l : List Nat) : (i64s l).size = l.length := by simp [i64s]
theorem u32s_one (l : List Nat) : (u32s l).all (·.oneCell') = true := by simp [u32s]; intro a _; rfl
theorem i64s_one (l : List Nat) : (i64s l).all (·.oneCell') = true := by simp [i64s]; intro a _; rfl
theorem u32s_set (l : List Nat) (i x : Nat) : (u32s l).setIfInBounds i (.int .u32 (x : Int)) = u32s (l.set i x) := by simp [u32s, List.map_set]
theorem i64s_set (l : List Nat) (i x : Nat) : (i64s l).setIfInBounds i (.int .i64 (x : Int)) = i64s (l.set i x) := by simp [i64s, List.map_set]
theorem u32s_get (l : List Nat) (i : Nat) (h : i < l.length) : (u32s l)[i]? = some (.int .u32 ((l.getD i 0 : Nat) : Int)) := by simp [u32s, h]
theorem i64s_get (l : List Nat) (i : Nat) (h : i < l.length) : (i64s l)[i]? = some (.int .i64 ((l.getD i 0 : Nat) : Int)) := by simp [i64s, h]

theorem blk_keep {w : World} {b : Nat} {o : Obj} (h : w.heap[b]? = some o) (o' : Obj) : (w.alloc o').heap[b]? = some o :=
  ((alloc_below w o').block b (Array.getElem?_eq_some_iff.1 h).1).trans h
theorem alloc_new2 (w : World) (o o' : Obj) : ((w.alloc o).alloc o').heap[w.heap.size + 1]? = some o' := by
  rw [← World.size_alloc (w := w) (o := o)]; exact alloc_new _ _
theorem code_cut {P : Program} {c : Code} {Q : Exit → Act → World → Prop} {a : Act} {w : World} (F : World → Prop) (hF : F w) (h : ∀ w', F w' → c.wp P Q a w') : c.wp P Q a w := h w hF
variable {P : Program}
theorem results_one {fn : Func} {p : Tmp} {ty : TypeId} (h : fn.results = #[.cell p ty]) {tmps : Array Value} {w : World} {a : Addr} {v : Value}
    (hp : tmps.getD p undef = .pointer (some a)) (hl : (loadVar ty a).run P w = .ok v w) : (results fn tmps).run P w = .ok v w := by
  simp only [results, h]
  simp only [Array.mapM_eq_mapM_toList, List.mapM_cons, List.mapM_nil, hp]
  simp [asAddr, hl]
/-- a result that lies in a variable of its own: an array's cells, known whole -/
theorem ret_arr {fn : Func} {R : Ending → World → Prop} {a : Act} {w : World} {p : Tmp} {ty t e : TypeId} {n b N : Nat} {C : Array Value} (h : fn.results = #[.cell p ty])
    (hp : a.tmps.getD p undef = .pointer (some ⟨b, 0, none⟩)) (hb : w.heap[b]? = some (.cells C t (0, 0))) (hu : P.underlying ty = some (.array n e)) (hi : (P.info? ty).map (·.size) = some N) (hn : C.size = N)
    (hd : a.defers = []) (hR : R (.returned (.agg C)) w) : bodyPost P fn R .ret a w :=
  bodyPost_ret (results_one h hp (run_loadVar_row _ _ t ty C (0, 0) _ hb hu rfl (by rw [hi, hn]))) hd hR

theorem wp_storeA {op : Oper} {a : Act} {w : World} {K : Act → World → Prop} {Q : Exit → Act → World → Prop} (ty : TypeId) (x y : Operand) (ho : op.op = .store ty x y)
    (b : Nat) (t : TypeId) (old C : Array Value) (N : Nat) (hx : a.eval x = .pointer (some ⟨b, 0, none⟩)) (hy : a.eval y = .agg C) (hb : w.heap[b]? = some (.cells old t (0, 0)))
    (hi : (P.info? ty).map (·.size) = some N) (hn : C.size = N) (hs : old.size = N) (h1 : C.all (·.oneCell') = true)
    (h : K (a.put op.dst undef) (w.setRow b C)) : op.wp P a w K Q := by
  unfold Oper.wp execOp
  simp only [ho, hx, hy, Instr.storeAt, Instr.sureAddr, Sem.run_bind, Sem.run_pure, Result.andThen_ok, run_storeVar_row w b t ty old C hb (by rw [hi, hn]) (by rw [hs, hn]) h1]
  exact h
theorem wpList_storeA {ops : Array Oper} {rest : List Oper} {op : Oper} {a : Act} {w : World} {Q : Exit → Act → World → Prop} (hgd : op.guard = none) (ty : TypeId) (x y : Operand) (ho : op.op = .store ty x y)
    (b : Nat) (t : TypeId) (old C : Array Value) (N : Nat) (hx : a.eval x = .pointer (some ⟨b, 0, none⟩)) (hy : a.eval y = .agg C) (hb : w.heap[b]? = some (.cells old t (0, 0)))
    (hi : (P.info? ty).map (·.size) = some N) (hn : C.size = N) (hs : old.size = N) (h1 : C.all (·.oneCell') = true)
    (h : wpList P ops Q rest (a.put op.dst undef) (w.setRow b C)) : wpList P ops Q (op :: rest) a w :=
  wpList_plain hgd fun _ hK => wp_storeA ty x y ho b t old C N hx hy hb hi hn hs h1 (hK _ _ h)
/-- into the block that was made last -/
theorem wpList_storeN {ops : Array Oper} {rest : List Oper} {op : Oper} {a : Act} {w : World} {Q : Exit → Act → World → Prop} (hgd : op.guard = none) (ty : TypeId) (x y : Operand) (ho : op.op = .store ty x y)
    (t : TypeId) (old C : Array Value) (N : Nat) (hx : a.eval x = .pointer (some ⟨w.heap.size, 0, none⟩)) (hy : a.eval y = .agg C)
    (hi : (P.info? ty).map (·.size) = some N) (hn : C.size = N) (hs : old.size = N) (h1 : C.all (·.oneCell') = true)
    (h : wpList P ops Q rest (a.put op.dst undef) (w.alloc (.cells C t))) : wpList P ops Q (op :: rest) a (w.alloc (.cells old t)) :=
  wpList_storeA hgd ty x y ho _ t old C N hx hy (alloc_new _ _) hi hn hs h1 (by rw [World.setRow_alloc_new]; exact h)
theorem wp_loadA {op : Oper} {a : Act} {w : World} {K : Act → World → Prop} {Q : Exit → Act → World → Prop} (ty : TypeId) (x : Operand) (ho : op.op = .load ty x)
    (b : Nat) (t e : TypeId) (C : Array Value) (n N : Nat) (hx : a.eval x = .pointer (some ⟨b, 0, none⟩)) (hb : w.heap[b]? = some (.cells C t (0, 0))) (hu : P.underlying ty = some (.array n e))
    (hi : (P.info? ty).map (·.size) = some N) (hn : C.size = N) (h : K (a.put op.dst (.agg C)) w) : op.wp P a w K Q := by
  unfold Oper.wp execOp
  simp only [ho, hx, Instr.loadAt, Instr.sureAddr, Sem.run_bind, Sem.run_pure, Result.andThen_ok, run_loadVar_row w b t ty C (0, 0) _ hb hu rfl (by rw [hi, hn])]
  exact h
theorem wpList_loadA {ops : Array Oper} {rest : List Oper} {op : Oper} {a : Act} {w : World} {Q : Exit → Act → World → Prop} (hgd : op.guard = none) (ty : TypeId) (x : Operand) (ho : op.op = .load ty x)
    (b : Nat) (t e : TypeId) (C : Array Value) (n N : Nat) (hx : a.eval x = .pointer (some ⟨b, 0, none⟩)) (hb : w.heap[b]? = some (.cells C t (0, 0))) (hu : P.underlying ty = some (.array n e))
    (hi : (P.info? ty).map (·.size) = some N) (hn : C.size = N) (h : wpList P ops Q rest (a.put op.dst (.agg C)) w) : wpList P ops Q (op :: rest) a w :=
  wpList_plain hgd fun _ hK => wp_loadA ty x ho b t e C n N hx hb hu hi hn (hK _ _ h)
end Ks
/- A state's bytes: the program's text. -/
namespace Ks
open Go Go.RowKit
def u8s (l : List UInt8) : Array Value := (l.map fun b => Value.int .u8 (b.toNat : Int)).toArray
@[simp] theorem u8s_size (l : List UInt8) : (u8s l).size = l.length := by simp [u8s]
theorem u8s_set (l : List UInt8) (i : Nat) (b : UInt8) : (u8s l).setIfInBounds i (.int .u8 (b.toNat : Int)) = u8s (l.set i b) := by simp [u8s, List.map_set]
theorem set4 {α : Type} (A : List α) (z : α) (m n : Nat) (b0 b1 b2 b3 : α) (hA : A.length = n) :
    ((((A ++ List.replicate (m + 4) z).set n b0).set (n + 1) b1).set (n + 2) b2).set (n + 3) b3 = (A ++ [b0, b1, b2, b3]) ++ List.replicate m z := by
  subst hA
  simp [List.replicate_succ, List.set_append_right]
theorem putL4 (n : Nat) : putL 4 n = [UInt8.ofNat (n / 16777216), UInt8.ofNat (n / 65536), UInt8.ofNat (n / 256), UInt8.ofNat n] := by
  simp [putL, Nat.div_div_eq_div_mul]
def textTo (s : St) (k : Nat) : List UInt8 := (s.list.take k).flatMap (putL 4)
theorem run_index_agg {P : Program} {t e : TypeId} {n : Nat} {C : Array Value} {k : Nat} {v : Value} {ik : IntKind} (ht : P.underlying t = some (.array n e)) (he : P.underlying e = some (.int ik)) (hs : (P.info? e).map (·.size) = some 1)
    (hk : k < n) (hv : C[k]? = some v) (w : World) : (Instr.index t (.agg C) (.int .i64 (k : Int))).run P w = .ok v w := by
  have hz : (Go.sizeOf e).run P w = .ok 1 w := by
    cases hq : P.info? e with
    | none => simp [hq] at hs
    | some i =>
      simp [hq] at hs
      simp [Go.sizeOf, typeInfo, hq, hs]
  have hp : (part e C k).run P w = .ok v w := by simp [part, isAgg, run_underlying he, hv]
  have h1 : (0 : Int) ≤ (k : Int) ∧ (k : Int) < (n : Int) := by omega
  unfold Instr.index
  simp [run_underlying ht, asIntOf, h1, hz, hp, hk]
theorem textTo_length (s : St) (k : Nat) (hk : k ≤ 8) : (textTo s k).length = 4 * k := by
  have : ∀ l : List Nat, (l.flatMap (putL 4)).length = 4 * l.length := by
    intro l
    induction l with
    | nil => rfl
    | cons x l ih => simp only [List.flatMap_cons, List.length_append, ih, List.length_cons, putL4, List.length_nil]; omega
  rw [textTo, this, List.length_take]
  show 4 * min k 8 = _
  omega
theorem textTo_pad (s : St) (k : Nat) (hk : k ≤ 8) : (textTo s k ++ List.replicate (32 - 4 * k) (0 : UInt8)).length = 32 := by
  rw [List.length_append, textTo_length s k hk, List.length_replicate]; omega
theorem st_lt {s : St} (hs : s.ok) (k : Nat) : s.list.getD k 0 < 4294967296 := by
  obtain ⟨h1, h2, h3, h4, h5, h6, h7, h8⟩ := hs
  refine getD_lt ?_ k
  intro x hx
  simp only [St.list, List.mem_cons, List.not_mem_nil, or_false] at hx
  rcases hx with rfl | rfl | rfl | rfl | rfl | rfl | rfl | rfl <;> assumption
theorem textTo_succ (s : St) (k : Nat) (hk : k < 8) : textTo s (k + 1) = textTo s k ++ putL 4 (s.list.getD k 0) := by
  have h : k < s.list.length := hk
  rw [textTo, textTo, List.take_add_one, List.getElem?_eq_getElem h, List.flatMap_append, List.getD_eq_getElem?_getD, List.getElem?_eq_getElem h]
  simp
theorem text_step (s : St) (k : Nat) (hk : k < 8) :
    (((((textTo s k ++ List.replicate (32 - 4 * k) 0).set (4 * k) (UInt8.ofNat (s.list.getD k 0 / 16777216))).set (4 * k + 1) (UInt8.ofNat (s.list.getD k 0 / 65536))).set (4 * k + 2) (UInt8.ofNat (s.list.getD k 0 / 256))).set (4 * k + 3) (UInt8.ofNat (s.list.getD k 0))
      = textTo s (k + 1) ++ List.replicate (32 - 4 * (k + 1)) (0 : UInt8)) := by
  rw [show 32 - 4 * k = 32 - 4 * (k + 1) + 4 by omega, set4 _ _ _ _ _ _ _ _ (textTo_length s k (by omega)), textTo_succ s k hk, putL4]
theorem byteV (n : Nat) : (UInt8.ofNat n).toNat = n % 256 := by simp
theorem conv_u8s {P : Program} {src dst e : TypeId} {cap : Nat} (w : World) (t : TypeId) (l : List UInt8) (hs : P.underlying src = some (.slice e)) (he : P.underlying e = some (.int .u8)) (hd : P.underlying dst = some .string) :
    (convert src dst (.slice (some ⟨w.heap.size, 0, none⟩) l.length cap)).run P (w.alloc (.cells (u8s l) t)) = .ok (.string ⟨l.toArray⟩) (w.alloc (.cells (u8s l) t)) := by
  refine run_convert_bytes_back _ src dst e _ cap l hs he hd (fun j hj => ?_)
  have hadd : (⟨w.heap.size, 0, none⟩ : Addr).add j = ⟨w.heap.size, j, none⟩ := by unfold Addr.add; split <;> simp_all
  rw [hadd, cell_of_row _ _ j (u8s l) t (0, 0) (alloc_new _ _)]
  simp [u8s, hj]
theorem textTo_all (s : St) : textTo s 8 = textL s := by
  simp [textTo, St.list, textL]
end Ks
namespace Go.Proofs.Ytelmcoedmkhkjaa
open Go.RowKit Ks
set_option linter.unusedVariables false

set_option maxRecDepth 20000 in
set_option maxHeartbeats 1000000 in
theorem text_any (s : St) (w : World) (hs : s.ok) : Calls Try.prog 64 #[.agg (u32s s.list)] w fun e w' => e = .returned (.string ⟨(textL s).toArray⟩) ∧ Below w.heap.size w w' := by
  refine calls_by fun R HR => ?_
  obtain ⟨C, hC⟩ : ∃ C, u32s s.list = C := ⟨_, rfl⟩
  rw [hC]
  go_enter Try.func64, Try.ntmps64
  go_wp2_with (refine wpList_loadA rfl 106 _ rfl _ 106 _ C 8 8 rfl (blk_keep (alloc_new _ _) _) Try.underlying106 (by kernel_rfl) (by rw [← hC]; rfl) ?_)
  go_loopw [7] (fun i wx => ∃ k L, k ≤ 8 ∧ i = .int .i64 (k : Nat) ∧ wx = (w.alloc (.cells C 106)).alloc (.cells (u8s L) 131) ∧ Hid (L = textTo s k ++ List.replicate (32 - 4 * k) 0)) (fun i _ => 8 - (intOf i).toNat)
  case atStart => exact ⟨0, List.replicate 32 0, by omega, rfl, rfl, Lib.hid rfl⟩
  case round =>
    obtain ⟨k, L, hk, rfl, rfl, hL⟩ := hrel
    have hlen : L.length = 32 := by rw [hL.out]; exact textTo_pad s k hk
    by_cases hlt : k < 8
    · obtain ⟨n, hn⟩ : ∃ n, s.list.getD k 0 = n := ⟨_, rfl⟩
      have hn1 : n < 4294967296 := by rw [← hn]; exact st_lt hs k
      have hCk : C[k]? = some (.int .u32 (n : Int)) := by rw [← hC, ← hn]; exact u32s_get _ _ hlt
      have hn' := Lib.hid hn
      have hix := fun w => run_index_agg (P := Try.prog) Try.underlying106 Try.underlying104 (by kernel_rfl) hlt hCk w
      obtain ⟨D, hD⟩ : ∃ D, u8s L = D := ⟨_, rfl⟩
      have hDs : D.size = 32 := by rw [← hD, u8s_size, hlen]
      have hD' := Lib.hid hD
      rw [hD]
      have HC := Lib.hid hC
      have HS := Lib.hid hs
      obtain ⟨z0, hz0⟩ : ∃ z, D[4 * k]? = some z := ⟨_, Array.getElem?_eq_getElem (by omega)⟩
      obtain ⟨z1, hz1⟩ : ∃ z, D[4 * k + 1]? = some z := ⟨_, Array.getElem?_eq_getElem (by omega)⟩
      obtain ⟨z2, hz2⟩ : ∃ z, D[4 * k + 2]? = some z := ⟨_, Array.getElem?_eq_getElem (by omega)⟩
      obtain ⟨z3, hz3⟩ : ∃ z, D[4 * k + 3]? = some z := ⟨_, Array.getElem?_eq_getElem (by omega)⟩
      clear hD hn hC hs hlen hCk
      go_wp2
      go_round
      case rel =>
        refine ⟨k + 1, textTo s (k + 1) ++ List.replicate (32 - 4 * (k + 1)) 0, by omega, by go_num, ?_, Lib.hid rfl⟩
        rw [← text_step s k hlt, hn'.out, ← hL.out, ← u8s_set, ← u8s_set, ← u8s_set, ← u8s_set, hD'.out, byteV (n / 16777216), byteV (n / 65536), byteV (n / 256), byteV n, Nat.mod_eq_of_lt (show n / 16777216 < 256 by omega)]
        rfl
      case measure => simp [intOf]; omega
    · obtain rfl : k = 8 := by omega
      clear hC hs hk hlt
      have hconv := conv_u8s (P := Try.prog) (src := 81) (dst := 9) (cap := 32) (w.alloc (.cells C 106)) 131 L Try.underlying81 Try.underlying5 Try.underlying9
      simp only [World.size_alloc] at hconv
      rw [hlen] at hconv
      go_wp2
      refine HR.out _ _ ⟨?_, ((alloc_below w _).alloc (by simp) _)⟩
      rw [← textTo_all, hL.out]
      simp
end Go.Proofs.Ytelmcoedmkhkjaa
/- A block's numbers: the program's words. -/
namespace Ks
open Go Go.RowKit
theorem wpad_length (B : List UInt8) (k : Nat) (hk : k ≤ 64) : (wordsN B k ++ List.replicate (64 - k) 0).length = 64 := by
  rw [List.length_append, wordsN_length, List.length_replicate]; omega
theorem wpad_set (B : List UInt8) (k x : Nat) (hk : k < 64) (hx : (if k < 16 then num4 B k else wNext (wordsN B k)) = x) :
    (wordsN B k ++ List.replicate (64 - k) 0).set k x = wordsN B (k + 1) ++ List.replicate (64 - (k + 1)) 0 := by
  have h1 := List.set_append_right (s := wordsN B k) (t := 0 :: List.replicate (64 - (k + 1)) 0) k x (by rw [wordsN_length]; omega)
  rw [show 64 - k = 64 - (k + 1) + 1 by omega, List.replicate_succ, h1, wordsN_length, Nat.sub_self, wordsN, hx]
  simp
theorem wpad_get (B : List UInt8) (k j : Nat) (hj : j < k) : (wordsN B k ++ List.replicate (64 - k) 0).getD j 0 = (wordsN B k).getD j 0 := by
  rw [List.getD_eq_getElem?_getD, List.getD_eq_getElem?_getD, List.getElem?_append_left (by rw [wordsN_length]; omega)]
theorem wpad_lt (B : List UInt8) (k : Nat) : ∀ x ∈ wordsN B k ++ List.replicate (64 - k) 0, x < 4294967296 := by
  intro x hx
  rcases List.mem_append.1 hx with hx | hx
  · exact wordsN_lt B k x hx
  · rw [List.eq_of_mem_replicate hx]; decide
theorem num4_extract (s : ByteArray) (k : Nat) (h : s.size = 64) : getN ((s.extract (4 * k) 64).data.toList.take 4) = num4 s.data.toList k := by
  have hl : s.data.toList.length = 64 := by rw [data_length, h]
  rw [num4]
  congr 2
  rw [ByteArray.data_extract, Array.toList_extract, List.extract_eq_take_drop]
  rw [List.take_of_length_le]
  rw [List.length_drop]; omega
theorem wrap_u32_mod (n : Int) : IntKind.u32.wrap n = n % 4294967296 := by simp [IntKind.wrap, IntKind.bits, IntKind.signed]
/-- an array of numbers in a block -/
structure Nums (w : World) (b : Nat) (t : TypeId) (L : List Nat) : Prop where
  blk : w.heap[b]? = some (.cells (u32s L) t (0, 0))
theorem Nums.cell {w : World} {b : Nat} {t : TypeId} {L : List Nat} (h : Nums w b t L) (j : Nat) (hj : j < L.length) : w.cell? ⟨b, j, none⟩ = some (.int .u32 ((L.getD j 0 : Nat) : Int)) := by
  rw [cell_of_row w b j _ _ _ h.blk, u32s_get L j hj]
theorem Nums.frozen {w : World} {b : Nat} {t : TypeId} {L : List Nat} (h : Nums w b t L) (j : Nat) : w.frozen? ⟨b, j, none⟩ = false := frozen_of_row w b j _ _ h.blk
theorem Nums.lt {w : World} {b : Nat} {t : TypeId} {L : List Nat} (h : Nums w b t L) : b < w.heap.size := lt_of_block h.blk
theorem Nums.keep {w w' : World} {b : Nat} {t : TypeId} {L : List Nat} (h : Nums w b t L) (hb : Below w.heap.size w w') : Nums w' b t L := ⟨(hb.block b h.lt).trans h.blk⟩
theorem Nums.set {w : World} {b : Nat} {t : TypeId} {L : List Nat} (h : Nums w b t L) (j x : Nat) : Nums (w.setCell ⟨b, j, none⟩ (.int .u32 (x : Int))) b t (L.set j x) :=
  ⟨by rw [setCell_eq_setRow w b j _ _ _ _ h.blk, setRow_heap w b _ _ _ _ h.blk, u32s_set]⟩
theorem Nums.other {w : World} {b c : Nat} {t : TypeId} {L : List Nat} (h : Nums w b t L) (j : Nat) (v : Value) (hc : b ≠ c) : Nums (w.setCell ⟨c, j, none⟩ v) b t L := ⟨(set_ne v hc).trans h.blk⟩
end Ks
namespace Go.Proofs.Ytelmcoedmkhkjaa
open Go.RowKit Ks
set_option linter.unusedVariables false

set_option maxRecDepth 20000 in
set_option maxHeartbeats 4000000 in
theorem words_any (s : ByteArray) (w : World) (h : s.size = 64) : Calls Try.prog 78 #[.string s] w fun e w' => e = .returned (.agg (u32s (wordsN s.data.toList 64))) ∧ Below w.heap.size w w' := by
  refine calls_by fun R HR => ?_
  go_enter Try.func78, Try.ntmps78
  go_wp2_with fail
  obtain ⟨W, hW⟩ : ∃ W, (w.alloc (.cells (u32s (List.replicate 64 0)) 126)).alloc (.cells (u32s (List.replicate 64 0)) 126) = W := ⟨_, rfl⟩
  have k2 : Nums W w.heap.size 126 (List.replicate 64 0) := ⟨by rw [← hW]; exact blk_keep (alloc_new _ _) _⟩
  have k3 : Nums W (w.heap.size + 1) 126 (List.replicate 64 0) := ⟨by rw [← hW, ← World.size_alloc (w := w) (o := .cells (u32s (List.replicate 64 0)) 126)]; exact alloc_new _ _⟩
  have kb : Below w.heap.size w W := by rw [← hW]; exact (alloc_below w _).alloc (by simp) _
  change Code.wp _ _ _ _ ((w.alloc (.cells (u32s (List.replicate 64 0)) 126)).alloc (.cells (u32s (List.replicate 64 0)) 126))
  rw [hW]
  have hk2 := Lib.hid k2
  have hk3 := Lib.hid k3
  have hkb := Lib.hid kb
  clear hW k2 k3 kb
  go_loopw [5] (fun i wx => ∃ k L, k ≤ 64 ∧ i = .int .i64 (k : Nat) ∧ Hid (L = wordsN s.data.toList k ++ List.replicate (64 - k) 0) ∧ Hid (Nums wx (w.heap.size + 1) 126 L ∧ Nums wx w.heap.size 126 (List.replicate 64 0) ∧ Below w.heap.size w wx)) (fun i _ => 64 - (intOf i).toNat)
  case atStart => exact ⟨0, _, by omega, rfl, Lib.hid rfl, Lib.hid ⟨hk3.out, hk2.out, hkb.out⟩⟩
  case round =>
    obtain ⟨k, L, hk, rfl, hL, hN⟩ := hrel
    have hlen : L.length = 64 := by rw [hL.out]; exact wpad_length _ k hk
    by_cases hlt : k < 64
    · by_cases h16 : k < 16
      · have hx := Lib.hid (wpad_set s.data.toList k (num4 s.data.toList k) hlt (if_pos h16))
        go_wp2_with fail
        refine (number_any (s.extract (4 * k) 64) _ (by rw [ByteArray.size_extract]; omega)).mono ?_
        rintro e w1 ⟨rfl, hb⟩
        rw [num4_extract s k h]
        obtain ⟨n3, n2, nb⟩ := hN.out
        have n3' := n3.keep hb
        have n2' := n2.keep hb
        have c1 := n3'.cell k (by omega)
        have f1 := n3'.frozen k
        have hM := Lib.hid (And.intro n3' (And.intro n2' (nb.trans (hb.mono nb.size))))
        clear n3 n2 nb n3' n2' hb hN
        go_wp2
        go_round
        case rel =>
          refine ⟨k + 1, _, by omega, by go_num, Lib.hid rfl, Lib.hid ⟨?_, hM.out.2.1.other _ _ (by omega), hM.out.2.2.setCell (by simp) _⟩⟩
          rw [← hx.out, ← hL.out]
          exact hM.out.1.set _ _
        case measure => simp [intOf]; omega
      · have hx := Lib.hid (wpad_set s.data.toList k (wNext (wordsN s.data.toList k)) hlt (if_neg h16))
        go_wp2_with fail
        obtain ⟨n3, n2, nb⟩ := hN.out
        obtain ⟨y16, h16'⟩ : ∃ y, L.getD (k - 16) 0 = y := ⟨_, rfl⟩
        obtain ⟨y15, h15'⟩ : ∃ y, L.getD (k - 15) 0 = y := ⟨_, rfl⟩
        obtain ⟨y7, h7'⟩ : ∃ y, L.getD (k - 7) 0 = y := ⟨_, rfl⟩
        obtain ⟨y2, h2'⟩ : ∃ y, L.getD (k - 2) 0 = y := ⟨_, rfl⟩
        have c16 := n3.cell (k - 16) (by omega)
        have c15 := n3.cell (k - 15) (by omega)
        have c7 := n3.cell (k - 7) (by omega)
        have c2 := n3.cell (k - 2) (by omega)
        rw [h16'] at c16
        rw [h15'] at c15
        rw [h7'] at c7
        rw [h2'] at c2
        have hl : ∀ j, L.getD j 0 < 4294967296 := fun j => by rw [hL.out]; exact getD_lt (wpad_lt s.data.toList k) j
        have l15 : y15 < 4294967296 := by rw [← h15']; exact hl _
        have l2 : y2 < 4294967296 := by rw [← h2']; exact hl _
        have hV : Hid ((y16 + sigS y15 7 18 3 + y7 + sigS y2 17 19 10) % 4294967296 = wNext (wordsN s.data.toList k)) := Lib.hid (by
          rw [wNext, wordsN_length, ← wpad_get _ k (k - 16) (by omega), ← wpad_get _ k (k - 15) (by omega), ← wpad_get _ k (k - 7) (by omega), ← wpad_get _ k (k - 2) (by omega), ← hL.out, h16', h15', h7', h2'])
        have n3f := n3.frozen k
        have n3c := n3.cell k (by omega)
        clear h16' h15' h7' h2' hl n2 nb n3
        obtain ⟨j16, r16⟩ : ∃ j, k - 16 = j := ⟨_, rfl⟩
        obtain ⟨j15, r15⟩ : ∃ j, k - 15 = j := ⟨_, rfl⟩
        obtain ⟨j7, r7⟩ : ∃ j, k - 7 = j := ⟨_, rfl⟩
        obtain ⟨j2, r2⟩ : ∃ j, k - 2 = j := ⟨_, rfl⟩
        rw [r16] at c16
        rw [r15] at c15
        rw [r7] at c7
        rw [r2] at c2
        have w16 : IntKind.i64.wrap ((k : Int) - 16) = (j16 : Int) := by rw [IntKind.wrap_i64]; omega
        have w15 : IntKind.i64.wrap ((k : Int) - 15) = (j15 : Int) := by rw [IntKind.wrap_i64]; omega
        have w7 : IntKind.i64.wrap ((k : Int) - 7) = (j7 : Int) := by rw [IntKind.wrap_i64]; omega
        have w2 : IntKind.i64.wrap ((k : Int) - 2) = (j2 : Int) := by rw [IntKind.wrap_i64]; omega
        have b16 : (j16 : Int) < 64 := by omega
        have b15 : (j15 : Int) < 64 := by omega
        have b7 : (j7 : Int) < 64 := by omega
        have b2 : (j2 : Int) < 64 := by omega
        clear r16 r15 r7 r2
        have t15 : ∀ w : World, Calls Try.prog 80 #[.int .u32 y15, .int .i64 7, .int .i64 18, .int .i64 3, .bool true] w fun e w' => e = .returned (.int .u32 (sigS y15 7 18 3 : Nat)) ∧ w' = w :=
          fun w => three_shift y15 7 18 3 w l15 (by decide) (by decide) (by decide)
        have t2 : ∀ w : World, Calls Try.prog 80 #[.int .u32 y2, .int .i64 17, .int .i64 19, .int .i64 10, .bool true] w fun e w' => e = .returned (.int .u32 (sigS y2 17 19 10 : Nat)) ∧ w' = w :=
          fun w => three_shift y2 17 19 10 w l2 (by decide) (by decide) (by decide)
        obtain ⟨A, hA⟩ : ∃ A, sigS y15 7 18 3 = A := ⟨_, rfl⟩
        obtain ⟨E, hE⟩ : ∃ E, sigS y2 17 19 10 = E := ⟨_, rfl⟩
        rw [hA] at t15 hV
        rw [hE] at t2 hV
        have T15 := Lib.hid t15
        have T2 := Lib.hid t2
        clear hA hE t15 t2 l15 l2
        refine wp_region_still_tail 22 (by kernel_rfl) (by kernel_rfl) ?_
        simp only [List.take_succ_cons, List.take_zero, List.drop_succ_cons, List.drop_zero]
        repeat still_step
        still_call (T15.out _)
        repeat still_step
        still_call (T2.out _)
        repeat still_step
        refine wpStill_nil ?_
        change wpList _ _ _ _ _ wr.drew
        obtain ⟨V, hVV⟩ : ∃ V, wNext (wordsN s.data.toList k) = V := ⟨_, rfl⟩
        have hw : IntKind.u32.wrap (IntKind.u32.wrap (IntKind.u32.wrap ((y16 : Int) + A) + y7) + E) = (V : Int) := by
          have := hV.out
          simp only [wrap_u32_mod]
          omega
        rw [hw]
        have hbd := drew_below wr
        have hM := Lib.hid (And.intro (hN.out.1.keep hbd) (And.intro (hN.out.2.1.keep hbd) (hN.out.2.2.trans (hbd.mono hN.out.2.2.size))))
        rw [hVV] at hx
        clear hVV hw hV hbd hN c16 c15 c7 c2 w16 w15 w7 w2 b16 b15 b7 b2 n3c n3f
        generalize wr.drew = w1 at *
        have c1 := hM.out.1.cell k (by omega)
        have f1 := hM.out.1.frozen k
        go_wp2
        go_round
        case rel =>
          refine ⟨k + 1, _, by omega, by go_num, Lib.hid rfl, Lib.hid ⟨?_, hM.out.2.1.other _ _ (by omega), hM.out.2.2.setCell (by simp) _⟩⟩
          rw [← hx.out, ← hL.out]
          exact hM.out.1.set _ _
        case measure => simp [intOf]; omega
    · obtain rfl : k = 64 := by omega
      obtain ⟨n3, n2, nb⟩ := hN.out
      have e1 := Lib.hid n3.blk
      have e2 := Lib.hid n2.blk
      have e3 := Lib.hid nb
      have e4 := Lib.hid (show (u32s L).size = 64 by rw [u32s_size, hlen])
      have e5 := Lib.hid (show L = wordsN s.data.toList 64 by rw [hL.out]; simp)
      clear n3 n2 nb hN hL hlen
      go_wp2_with (first
        | refine wpList_loadA rfl 126 _ rfl _ 126 _ _ 64 64 rfl e1.out Try.underlying126 (by kernel_rfl) e4.out ?_
        | refine wpList_storeA rfl 126 _ _ rfl _ 126 _ _ 64 rfl rfl e2.out (by kernel_rfl) e4.out (by simp) (u32s_one _) ?_)
      exact ret_arr (N := 64) (C := u32s L) Try.results78 rfl (setRow_heap _ _ _ _ _ _ e2.out) Try.underlying126 (by kernel_rfl) e4.out rfl (HR.out _ _ ⟨by rw [e5.out], below_setRow e3.out (Nat.le_refl _) _⟩)
end Go.Proofs.Ytelmcoedmkhkjaa
/- The digest's constants: the first state, the rounds' numbers; the reference's. -/
namespace Go.Proofs.Ytelmcoedmkhkjaa
open Go.RowKit Ks
set_option linter.unusedVariables false

set_option maxHeartbeats 1000000 in
theorem first_any (w : World) : Calls Try.prog 59 #[] w fun e w' => e = .returned (.agg (u32s st0.list)) ∧ Below w.heap.size w w' := by
  refine calls_by fun R HR => ?_
  go_enter Try.func59, Try.ntmps59
  go_wp2_with fail
  exact ret_arr (N := 8) (C := u32s st0.list) Try.results59 rfl (alloc_new _ _) Try.underlying106 (by kernel_rfl) rfl rfl (HR.out _ _ ⟨rfl, alloc_below _ _⟩)
set_option maxHeartbeats 4000000 in
set_option maxRecDepth 100000 in
theorem constants_any (w : World) : Calls Try.prog 79 #[] w fun e w' => e = .returned (.agg (u32s kays)) ∧ Below w.heap.size w w' := by
  refine calls_by fun R HR => ?_
  go_enter Try.func79, Try.ntmps79
  go_wp2_with (refine wpList_storeN rfl 126 _ _ rfl 126 _ (u32s kays) 64 rfl rfl (by kernel_rfl) rfl rfl (u32s_one _) ?_)
  exact ret_arr (N := 64) (C := u32s kays) Try.results79 rfl (alloc_new _ _) Try.underlying126 (by kernel_rfl) rfl rfl (HR.out _ _ ⟨rfl, alloc_below _ _⟩)
set_option maxHeartbeats 1000000 in
theorem begin_any (w : World) : Calls Try.prog 47 #[] w fun e w' => e = .returned (.agg (i64s st0.list)) ∧ Below w.heap.size w w' := by
  refine calls_by fun R HR => ?_
  go_enter Try.func47, Try.ntmps47
  go_wp2_with fail
  exact ret_arr (N := 8) (C := i64s st0.list) Try.results47 rfl (alloc_new _ _) Try.underlying90 (by kernel_rfl) rfl rfl (HR.out _ _ ⟨rfl, alloc_below _ _⟩)
set_option maxHeartbeats 4000000 in
set_option maxRecDepth 100000 in
theorem rounds_any (w : World) : Calls Try.prog 48 #[] w fun e w' => e = .returned (.agg (i64s kays)) ∧ Below w.heap.size w w' := by
  refine calls_by fun R HR => ?_
  go_enter Try.func48, Try.ntmps48
  go_wp2_with (refine wpList_storeN rfl 92 _ _ rfl 92 _ (i64s kays) 64 rfl rfl (by kernel_rfl) rfl rfl (i64s_one _) ?_)
  exact ret_arr (N := 64) (C := i64s kays) Try.results48 rfl (alloc_new _ _) Try.underlying92 (by kernel_rfl) rfl rfl (HR.out _ _ ⟨rfl, alloc_below _ _⟩)
end Go.Proofs.Ytelmcoedmkhkjaa
