/- What a net's row of letters is, joined to others: for the walk. No program is in sight. -/
import Derived.Test.YtpdnjhofmngfdaaNetOwn
import Derived.ArgAppend
import Derived.Laws.OwnMore
namespace Ks
open Go Go.RowKit
set_option linter.unusedVariables false
set_option linter.unusedSimpArgs false

theorem run_append_nothing {P : Program} (w : World) (t ty e : TypeId) (i : TypeInfo) (ht : P.underlying t = some (.slice e)) (hi : P.info? e = some i) (a : Option Addr) (n cap : Nat) (hnc : n ≤ cap) (b : Option Addr) (c2 : Nat) :
    (Builtin.append_ #[t, t] ty #[.slice a n cap, .slice b 0 c2]).run P w = .ok (.slice a n cap) w := by
  cases b with
  | none => cases a <;> simp [Builtin.append_, run_underlying ht, Go.sizeOf, typeInfo, hi, Builtin.lenOf, Builtin.firstCells, hnc, storeCells]
  | some b =>
    have hf := run_firstCells_some (P := P) w i.size 0 b 0 c2 [] (by simp) (by simp)
    cases a <;> simp [Builtin.append_, run_underlying ht, Go.sizeOf, typeInfo, hi, Builtin.lenOf, hf, hnc, storeCells]

theorem ownsRow_down {w : World} {B : Nat} {T : TypeId} {s : Nat} {v : Value} {n : Nat} {xs : List Value} (h : w.ownsRow B T s v n xs) : w.ownsRow 0 T s v n xs :=
  ⟨h.1, h.2.imp id fun ⟨g, cap, cur, h1, h2, h3⟩ => ⟨g, cap, cur, h1, Nat.zero_le _, h3⟩⟩

theorem letCs_append (a b : List Let) : letCs (a ++ b) = letCs a ++ letCs b := by simp [letCs]

theorem own_shape {w : World} {T : TypeId} {v : Value} {l : List Let} (h : Own w T v l) : ∃ a cap, v = .slice a l.length cap ∧ l.length ≤ cap := by
  obtain ⟨a, cap, rfl, hc, _⟩ := h.rd
  exact ⟨a, cap, rfl, hc⟩

theorem own_any {w : World} {T : TypeId} {v : Value} {l : List Let} (h : Own w T v l) : ∃ a n cap, v = .slice a n cap := by
  obtain ⟨a, cap, e, _⟩ := own_shape h
  exact ⟨a, _, cap, e⟩
theorem RdL.one {w : World} {b : Nat} {T : TypeId} {fr : Nat × Nat} {t : Int} {s : ByteArray} (h : w.heap[b]? = some (.cells #[.int .i64 t, .string s] T fr)) : RdL w (.slice (some ⟨b, 0, none⟩) 1 1) [(t, s)] := by
  refine ⟨_, _, rfl, Nat.le_refl _, fun e => by simp at e, fun i x hx => ⟨b, 0, rfl, lt_of_block h, ?_⟩⟩
  match i, hx with
  | 0, hx =>
    simp at hx
    subst hx
    exact ⟨by rw [cell_of_row w b _ _ _ _ h]; rfl, by rw [cell_of_row w b _ _ _ _ h]; rfl⟩

/-- some value and some world, of which this is known -/
theorem run_append_net {P : Program} (w : World) (t ty e : TypeId) (i : TypeInfo) (z : Value) (bytes : Nat) (h1 : P.underlying t = some (.slice e)) (h2 : P.info? e = some i) (h3 : i.zero = some z) (h4 : i.size = 2) (h5 : i.bytes = bytes) (h6 : z.cells.size = 2)
    (v lv : Value) (L l : List Let) (hown : Own w e v L) (hl : RdL w lv l) (b1 : L.length + l.length ≤ 1000000) (b2 : bytes ≤ 1000) :
    ∃ v' w', (Builtin.append_ #[t, t] ty #[v, lv]).run P w = .ok v' w' ∧ Own w' e v' (L ++ l) ∧ w.grownBy w' v.ownBlock ∧ (v'.ownBlock = v.ownBlock ∨ ∀ b, v'.ownBlock = some b → w.heap.size ≤ b) := by
  have hmax : L.length + l.length ≤ maxLen := by unfold maxLen; omega
  have hby : (L.length + l.length) * bytes ≤ 140737488355328 := by
    have : (L.length + l.length) * bytes ≤ 1000000 * 1000 := Nat.mul_le_mul b1 b2
    omega
  cases l with
  | nil =>
    obtain ⟨a, cap, rfl, hc⟩ := own_shape hown
    obtain ⟨b, c2, rfl, _⟩ := hl
    exact ⟨_, w, run_append_nothing w t ty e i h1 h2 a _ cap hc b c2, by rw [List.append_nil]; exact hown, World.grownBy.refl _ _, Or.inl rfl⟩
  | cons x l =>
    generalize hm : x :: l = m at *
    have hpos : 0 < m.length := by rw [← hm]; simp
    obtain ⟨a, c2, rfl, _, _, hh⟩ := id hl
    obtain ⟨b, o, rfl, _⟩ := hh 0 m[0] (List.getElem?_eq_getElem hpos)
    have hsrc : ∀ j u, (letCs m)[j]? = some u → w.cell? ((⟨b, o, none⟩ : Addr).add j) = some u := fun j u hj => by rw [Addr.add_lit]; exact hl.cells.2 j u hj
    have hlen2 : (L ++ m).length = L.length + m.length := List.length_append
    rcases hown with ⟨k1, k2⟩ | ⟨g, rfl, hg, hc⟩
    · rcases id k2 with ⟨rfl, h0⟩ | ⟨g, cap, cur, rfl, _, hgb, hn, hc, hsz, ht⟩
      · obtain rfl : L = [] := List.length_eq_zero_iff.1 h0
        obtain ⟨v', w', hrun, r1, r2, _⟩ := run_append_own (P := P) w w.heap.size t ty e i z 2 bytes h1 h2 h3 h4 h5 h6 (by decide) (.slice none 0 0) 0 [] (World.ownsRow_nil w _ e 2) ⟨b, o, none⟩ m.length c2 (letCs m) (letCs_length m) hsrc (letCs_one m) (by simpa using hmax) (by simpa using hby) (Nat.le_refl _)
        refine ⟨v', w', hrun, Or.inl ?_, r2, Or.inr fun b hb => (r1.lt b hb).1⟩
        have := ownsRow_down r1
        rw [Nat.zero_add, List.nil_append] at this
        exact this
      · by_cases hfit : L.length + m.length ≤ cap
        · obtain ⟨w', hrun, r1, r2⟩ := run_append_fits (P := P) w 0 t ty e i 2 h1 h2 h4 g L.length cap (letCs L) ⟨k1, k2⟩ ⟨b, o, none⟩ m.length c2 (letCs m) (letCs_length m) hsrc (letCs_one m) hfit
          refine ⟨_, w', hrun, Or.inl ?_, r2, Or.inl rfl⟩
          rw [hlen2, letCs_append]
          exact r1
        · obtain ⟨v', w', hrun, r1, r2⟩ := run_append_arg_grows (P := P) w t ty e i z 2 bytes h1 h2 h3 h4 h5 h6 (by decide) ⟨g, 0, none⟩ L.length cap (letCs L) (letCs_length L) (fun j u hj => (ownsRow_rd ⟨k1, k2⟩ |>.cells).2 j u hj |> fun h => by rw [Addr.add_lit]; exact h) ⟨b, o, none⟩ m.length c2 (letCs m) (letCs_length m) hsrc (by omega) hmax hby
          refine ⟨v', w', hrun, Or.inl ?_, ⟨r2.os, r2.tape, r2.output, r2.size, fun k hk _ => r2.block k hk (by simp)⟩, Or.inr fun b hb => (r1.lt b hb).1⟩
          rw [hlen2, letCs_append]
          exact ownsRow_down r1
    · obtain ⟨v', w', hrun, r1, r2⟩ := run_append_arg_grows (P := P) w t ty e i z 2 bytes h1 h2 h3 h4 h5 h6 (by decide) ⟨g, 0, none⟩ L.length L.length (letCs L) (letCs_length L) (fun j u hj => by rw [Addr.add_lit, Nat.zero_add]; exact hc j u hj) ⟨b, o, none⟩ m.length c2 (letCs m) (letCs_length m) hsrc (by omega) hmax hby
      refine ⟨v', w', hrun, Or.inl ?_, ⟨r2.os, r2.tape, r2.output, r2.size, fun k hk _ => r2.block k hk (by simp)⟩, Or.inr fun b hb => (r1.lt b hb).1⟩
      rw [hlen2, letCs_append]
      exact ownsRow_down r1

theorem wp_append_net {P : Program} (w : World) {o : Oper} {a : Act} {K : Act → World → Prop} {Q : Exit → Act → World → Prop} (s x : Operand) (t : TypeId)
    (ho : o.op = .call { callee := .builtin .append, args := #[s, x], argTypes := #[t, t] })
    (e : TypeId) (i : TypeInfo) (z : Value) (bytes : Nat) (h1 : P.underlying t = some (.slice e)) (h2 : P.info? e = some i) (h3 : i.zero = some z) (h4 : i.size = 2) (h5 : i.bytes = bytes) (h6 : z.cells.size = 2)
    (v lv : Value) (L l : List Let) (hs : a.eval s = v) (hx : a.eval x = lv) (hown : Own w e v L) (hl : RdL w lv l) (b1 : L.length + l.length ≤ 1000000) (b2 : bytes ≤ 1000)
    (hK : ∀ v' w', Own w' e v' (L ++ l) → w.grownBy w' v.ownBlock → (v'.ownBlock = v.ownBlock ∨ ∀ b, v'.ownBlock = some b → w.heap.size ≤ b) → K (a.put o.dst v') w') : o.wp P a w K Q := by
  obtain ⟨v', w', hrun, r1, r2, r3⟩ := run_append_net (P := P) w t o.type e i z bytes h1 h2 h3 h4 h5 h6 v lv L l hown hl b1 b2
  unfold Oper.wp
  simp [execOp, ho, resolve, invoke, builtin, hs, hx, hrun, Result.andThen]
  exact hK v' w' r1 r2 r3
theorem wpList_append_net {P : Program} (w : World) {ops : Array Oper} {rest : List Oper} {o : Oper} {a : Act} {Q : Exit → Act → World → Prop} (hg : o.guard = none) (s x : Operand) (t : TypeId)
    (ho : o.op = .call { callee := .builtin .append, args := #[s, x], argTypes := #[t, t] })
    (e : TypeId) (i : TypeInfo) (z : Value) (bytes : Nat) (h1 : P.underlying t = some (.slice e)) (h2 : P.info? e = some i) (h3 : i.zero = some z) (h4 : i.size = 2) (h5 : i.bytes = bytes) (h6 : z.cells.size = 2)
    (v lv : Value) (L l : List Let) (hs : a.eval s = v) (hx : a.eval x = lv) (hown : Own w e v L) (hl : RdL w lv l) (b1 : L.length + l.length ≤ 1000000) (b2 : bytes ≤ 1000)
    (hK : ∀ v' w', Own w' e v' (L ++ l) → w.grownBy w' v.ownBlock → (v'.ownBlock = v.ownBlock ∨ ∀ b, v'.ownBlock = some b → w.heap.size ≤ b) → wpList P ops Q rest (a.put o.dst v') w') : wpList P ops Q (o :: rest) a w :=
  wpList_plain hg fun K hK' => wp_append_net w s x t ho e i z bytes h1 h2 h3 h4 h5 h6 v lv L l hs hx hown hl b1 b2 fun v' w' r1 r2 r3 => hK' _ _ (hK v' w' r1 r2 r3)

end Ks
