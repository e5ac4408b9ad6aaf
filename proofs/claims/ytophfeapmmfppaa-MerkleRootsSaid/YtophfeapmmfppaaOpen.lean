/- Slices among a law's arguments, of whatever elements: what they read as. No program is in sight. -/
import Derived.Test.YtophfeapmmfppaaSeq
import Derived.Test.YtophfeapmmfppaaFrame2
import Derived.Deep.Slices
namespace Ks
open Go Go.RowKit Go.ChangeShapes Go.WideShapes Go.ChangeAt
set_option linter.unusedVariables false

section
variable {α : Type} {E : Enc α} {H : Type} {enc : TypeId × Value → H} {P : Program} {W : World}

theorem cells_at {w : World} {base : Nat} {a : Addr} {k : Nat} {cs : List Value} (h : w.cells? base a k = some cs) : cs.length = k ∧ ∀ j u, cs[j]? = some u → w.cell? (a.add j) = some u := by
  obtain ⟨_, h2, h3⟩ := World.cells?_some h
  refine ⟨h2, fun j u hj => ?_⟩
  have hlt : j < k := by have := (List.getElem?_eq_some_iff.1 hj).1; omega
  have := h3 j hlt
  rw [hj] at this
  exact this

theorem rd_opens {T e : TypeId} {fuel : Nat} {cs : List Value} {d : DataW H × List MemPlace} (hT : P.underlying T = some (.slice e)) (hc : P.cellsOf e = E.k) (G : α → Prop)
    (hE : ∀ n cs d, DataW.trod enc P W 0 (fun _ => true) true n e cs = some d → cs.length = E.k → ∃ x, cs = E.enc x ∧ G x)
    (h : DataW.trod enc P W 0 (fun _ => true) true fuel T cs = some d) : ∃ v l, cs = [v] ∧ v.oneCell' = true ∧ Rd E W v l ∧ l.length ≤ maxLen ∧ ∀ x ∈ l, G x := by
  rcases Go.Deep.open_slice hT h with ⟨rfl, _⟩ | ⟨a, len, cap, m, n, D, Pl, rfl, _, hl, hm, hmm, _, hxx⟩
  · exact ⟨_, [], rfl, rfl, Rd.nil W, by simp, fun x hx => by simp at hx⟩
  · simp only [if_true] at hmm
    have hall : ∀ i, i < len → ∃ x : α, G x ∧ ∀ j u, (E.enc x)[j]? = some u → W.cell? ((a.add (i * E.k)).add j) = some u := by
      intro i hi
      obtain ⟨cs', h1, h2⟩ := hxx i (by omega)
      rw [hc] at h1
      obtain ⟨h3, h4⟩ := cells_at h1
      obtain ⟨x, rfl, hG⟩ := hE _ _ _ h2 h3
      exact ⟨x, hG, h4⟩
    have key : ∀ k, k ≤ len → ∃ l : List α, l.length = k ∧ (∀ x ∈ l, G x) ∧ ∀ i x, l[i]? = some x → ∀ j u, (E.enc x)[j]? = some u → W.cell? ((a.add (i * E.k)).add j) = some u := by
      intro k
      induction k with
      | zero => exact fun _ => ⟨[], rfl, fun x hx => by simp at hx, fun i x hx => by simp at hx⟩
      | succ k ih =>
        intro hk
        obtain ⟨l, h1, h2, h3⟩ := ih (by omega)
        obtain ⟨x, hG, hc⟩ := hall k (by omega)
        refine ⟨l ++ [x], by simp [h1], fun y hy => ?_, fun i y hy => ?_⟩
        · rcases List.mem_append.1 hy with h | h
          · exact h2 y h
          · simp at h; subst h; exact hG
        · by_cases hi : i < l.length
          · rw [List.getElem?_append_left hi] at hy
            exact h3 i y hy
          · have hik : i = k := by have := (List.getElem?_eq_some_iff.1 hy).1; simp at this; omega
            subst hik
            rw [List.getElem?_append_right (by omega), h1, Nat.sub_self] at hy
            simp at hy
            subst hy
            exact hc
    obtain ⟨l, hlen, hG, hcell⟩ := key len (Nat.le_refl _)
    subst hlen
    refine ⟨_, l, rfl, rfl, ⟨some a, cap, rfl, hl, fun e => by simp at e, fun i x hx => ?_⟩, by omega, hG⟩
    have h0 : 0 < (E.enc x).length := by rw [E.len]; exact E.pos
    have hlt : 0 < l.length := by have := (List.getElem?_eq_some_iff.1 hx).1; omega
    have h00 : 0 < (E.enc l[0]).length := by rw [E.len]; exact E.pos
    have hc0 := hcell 0 l[0] (List.getElem?_eq_getElem hlt) 0 _ (List.getElem?_eq_getElem h00)
    obtain ⟨b, o, s⟩ := a
    have ha : ((⟨b, o, s⟩ : Addr).add (0 * E.k)).add 0 = ⟨b, o, s⟩ := by simp [Addr.add]
    rw [ha] at hc0
    have hs : s = none := spot_none hc0
    subst hs
    refine ⟨b, o, rfl, ?_, fun j u hu => ?_⟩
    · exact World.block_lt_of_cell? _ _ hc0
    · have := hcell i x hx j u hu
      rwa [add_place, add_place] at this

theorem rd_open {T e : TypeId} {base : Nat} {v : Value} {d : DataW H} {ps : List MemPlace} (hT : P.underlying T = some (.slice e)) (hc : P.cellsOf e = E.k) (G : α → Prop)
    (hE : ∀ n cs d, DataW.trod enc P W 0 (fun _ => true) true n e cs = some d → cs.length = E.k → ∃ x, cs = E.enc x ∧ G x)
    (hok : Value.okWide P W .any base T v) (h : DataW.Trod enc P W 0 (fun _ => true) true T v d ps) : ∃ l, Rd E W v l ∧ l.length ≤ maxLen ∧ ∀ x ∈ l, G x := by
  obtain ⟨a0, len, cap, rfl⟩ := okWide_slice hT hok
  obtain ⟨fuel, hf⟩ := h
  obtain ⟨v', l, e, _, h1, h2, h3⟩ := rd_opens (E := E) hT hc G hE hf
  simp only [Value.cells, List.cons.injEq, and_true] at e
  subst e
  exact ⟨l, h1, h2, h3⟩
end

theorem choose_list {α β : Type} {p : α → β → Prop} : ∀ (l : List α), (∀ x ∈ l, ∃ y, p x y) → ∃ l' : List β, l'.length = l.length ∧ ∀ (i : Nat) (x : α) (y : β), l[i]? = some x → l'[i]? = some y → p x y
  | [], _ => ⟨[], rfl, fun i x y hx => by simp at hx⟩
  | x :: l, h => by
    obtain ⟨y, hy⟩ := h x (by simp)
    obtain ⟨l', h1, h2⟩ := choose_list l fun z hz => h z (by simp [hz])
    refine ⟨y :: l', by simp [h1], fun i a b ha hb => ?_⟩
    match i, ha, hb with
    | 0, ha, hb => simp at ha hb; subst ha hb; exact hy
    | i + 1, ha, hb => exact h2 i a b (by simpa using ha) (by simpa using hb)

/-- a slice's head, as data -/
abbrev Hdr := Option Addr × Nat × Nat
abbrev hdrV (h : Hdr) : Value := .slice h.1 h.2.1 h.2.2
end Ks
