/- Texts that the claim rests on, part 2: MapList, BookPlain, RecLow, StepCall, Moved, MovedMore, MovedStore. -/
import Derived.Maps.OwnSet
import Derived.Maps.RangeWalk
import Derived.Test.YtnkiokaeooopgaaProg
import Derived.BigQuiet
import Derived.Test.YtnkiokaeooopgaaM1
/- A map in a block as the list of its entries: what is looked up, put, struck, counted, gone through. Plain. No program is in sight. -/
namespace Ks
open Go Go.RowKit Go.ChangeMaps Go.MapKept Go.Maps
set_option linter.unusedVariables false
set_option linter.unusedSectionVars false
section plain
variable {κ α : Type} [DecidableEq κ]
def look : List (κ × α) → κ → Option α
  | [], _ => none
  | p :: m, x => if p.1 = x then some p.2 else look m x
def putM : List (κ × α) → κ → α → List (κ × α)
  | [], x, v => [(x, v)]
  | p :: m, x, v => if p.1 = x then (x, v) :: m else p :: putM m x v
def delM : List (κ × α) → κ → List (κ × α)
  | [], _ => []
  | p :: m, x => if p.1 = x then m else p :: delM m x
/-- no key stands twice -/
def Once (m : List (κ × α)) : Prop := m.Pairwise fun p q => p.1 ≠ q.1
theorem look_none {m : List (κ × α)} {x : κ} : look m x = none ↔ ∀ p ∈ m, p.1 ≠ x := by
  induction m with
  | nil => simp [look]
  | cons p m ih =>
    rw [look]
    split
    · rename_i h; simp [h]
    · rename_i h; rw [ih]; simp [h]
theorem look_mem {m : List (κ × α)} {x : κ} {v : α} (h : look m x = some v) : (x, v) ∈ m := by
  induction m with
  | nil => cases h
  | cons p m ih =>
    rw [look] at h
    split at h
    · rename_i e; cases h; subst e; simp
    · exact List.mem_cons_of_mem _ (ih h)
theorem look_of_mem {m : List (κ × α)} (ho : Once m) {p : κ × α} (h : p ∈ m) : look m p.1 = some p.2 := by
  induction m with
  | nil => cases h
  | cons q m ih =>
    obtain ⟨h1, h2⟩ := List.pairwise_cons.1 ho
    rw [look]
    rcases List.mem_cons.1 h with rfl | h
    · rw [if_pos rfl]
    · rw [if_neg (h1 p h)]; exact ih h2 h
theorem look_at {m : List (κ × α)} (ho : Once m) {j : Nat} {p : κ × α} (h : m[j]? = some p) : look m p.1 = some p.2 := look_of_mem ho (List.mem_of_getElem? h)
theorem put_none {m : List (κ × α)} {x : κ} (v : α) (h : ∀ p ∈ m, p.1 ≠ x) : putM m x v = m ++ [(x, v)] := by
  induction m with
  | nil => rfl
  | cons p m ih =>
    rw [putM, if_neg (h p (by simp)), ih fun q hq => h q (by simp [hq])]; rfl
theorem put_at {m : List (κ × α)} (ho : Once m) {j : Nat} {p : κ × α} (v : α) (h : m[j]? = some p) : putM m p.1 v = m.set j (p.1, v) := by
  induction m generalizing j with
  | nil => simp at h
  | cons q m ih =>
    obtain ⟨h1, h2⟩ := List.pairwise_cons.1 ho
    rw [putM]
    cases j with
    | zero => simp at h; subst h; simp
    | succ j =>
      have hm : m[j]? = some p := by simpa using h
      rw [if_neg (h1 p (List.mem_of_getElem? hm)), ih h2 hm]; rfl
theorem del_none {m : List (κ × α)} {x : κ} (h : ∀ p ∈ m, p.1 ≠ x) : delM m x = m := by
  induction m with
  | nil => rfl
  | cons p m ih => rw [delM, if_neg (h p (by simp)), ih fun q hq => h q (by simp [hq])]
theorem del_at {m : List (κ × α)} (ho : Once m) {j : Nat} {p : κ × α} (h : m[j]? = some p) : delM m p.1 = m.eraseIdx j := by
  induction m generalizing j with
  | nil => simp at h
  | cons q m ih =>
    obtain ⟨h1, h2⟩ := List.pairwise_cons.1 ho
    rw [delM]
    cases j with
    | zero => simp at h; subst h; simp
    | succ j =>
      have hm : m[j]? = some p := by simpa using h
      rw [if_neg (h1 p (List.mem_of_getElem? hm)), ih h2 hm]; rfl
theorem mem_put {m : List (κ × α)} {x : κ} {v : α} {p : κ × α} (h : p ∈ putM m x v) : p = (x, v) ∨ p ∈ m := by
  induction m with
  | nil => simp [putM] at h; exact Or.inl h
  | cons q m ih =>
    rw [putM] at h
    split at h
    · rcases List.mem_cons.1 h with h | h
      · exact Or.inl h
      · exact Or.inr (List.mem_cons_of_mem _ h)
    · rcases List.mem_cons.1 h with rfl | h
      · exact Or.inr (by simp)
      · rcases ih h with h | h
        · exact Or.inl h
        · exact Or.inr (List.mem_cons_of_mem _ h)
theorem mem_del {m : List (κ × α)} {x : κ} {p : κ × α} (h : p ∈ delM m x) : p ∈ m := by
  induction m with
  | nil => cases h
  | cons q m ih =>
    rw [delM] at h
    split at h
    · exact List.mem_cons_of_mem _ h
    · rcases List.mem_cons.1 h with rfl | h
      · simp
      · exact List.mem_cons_of_mem _ (ih h)
theorem once_put {m : List (κ × α)} (ho : Once m) (x : κ) (v : α) : Once (putM m x v) := by
  induction m with
  | nil => simp [putM, Once]
  | cons q m ih =>
    obtain ⟨h1, h2⟩ := List.pairwise_cons.1 ho
    rw [putM]
    split
    · rename_i e
      subst e
      exact List.pairwise_cons.2 ⟨h1, h2⟩
    · rename_i e
      refine List.pairwise_cons.2 ⟨fun p hp => ?_, ih h2⟩
      rcases mem_put hp with rfl | hp
      · exact e
      · exact h1 p hp
theorem once_del {m : List (κ × α)} (ho : Once m) (x : κ) : Once (delM m x) := by
  induction m with
  | nil => exact ho
  | cons q m ih =>
    obtain ⟨h1, h2⟩ := List.pairwise_cons.1 ho
    rw [delM]
    split
    · exact h2
    · exact List.pairwise_cons.2 ⟨fun p hp => h1 p (mem_del hp), ih h2⟩
theorem look_put (m : List (κ × α)) (x : κ) (v : α) (y : κ) : look (putM m x v) y = if x = y then some v else look m y := by
  induction m with
  | nil => simp [putM, look]
  | cons q m ih =>
    rw [putM]
    split
    · rename_i e
      subst e
      rw [look, look]
      by_cases h : q.1 = y <;> simp [h]
    · rename_i e
      rw [look, look, ih]
      by_cases h : q.1 = y
      · have : ¬ x = y := fun e2 => e (by rw [h, e2])
        simp [h, this]
      · simp [h]
theorem look_del {m : List (κ × α)} (ho : Once m) (x y : κ) : look (delM m x) y = if x = y then none else look m y := by
  induction m with
  | nil => simp [delM, look]
  | cons q m ih =>
    obtain ⟨h1, h2⟩ := List.pairwise_cons.1 ho
    rw [delM]
    split
    · rename_i e
      subst e
      rw [look]
      by_cases h : q.1 = y
      · subst h
        rw [if_pos rfl]
        exact look_none.2 fun p hp => (h1 p hp).symm
      · rw [if_neg h, if_neg h]
    · rename_i e
      rw [look, look, ih h2]
      by_cases h : q.1 = y
      · have : ¬ x = y := fun e2 => e (by rw [h, e2])
        simp [h, this]
      · simp [h]
theorem length_put (m : List (κ × α)) (x : κ) (v : α) : (putM m x v).length = m.length + if look m x = none then 1 else 0 := by
  induction m with
  | nil => simp [putM, look]
  | cons q m ih =>
    rw [putM, look]
    split
    · simp
    · rw [List.length_cons, ih, List.length_cons]; omega
theorem length_put_le (m : List (κ × α)) (x : κ) (v : α) : (putM m x v).length ≤ m.length + 1 := by
  rw [length_put]; split <;> omega
end plain
section map
variable {κ α : Type} [DecidableEq κ]
/-- how keys and elements stand in a map -/
structure KV (P : Program) (k : TypeId) (κ α : Type) where
  key : κ → Value
  val : α → Value
  inj : ∀ {a b : κ}, key a = key b → a = b
variable {P : Program} {k : TypeId} {K : KV P k κ α} {w : World} {b : Nat} {m : List (κ × α)}
def KV.ok (K : KV P k κ α) (x : κ) : Prop := ∃ l, keyOf P k (K.key x) = some l
/-- block b is a map with these entries -/
def MapAt (K : KV P k κ α) (w : World) (b : Nat) (m : List (κ × α)) : Prop :=
  ∃ es clock, w.heap[b]? = some (.map es clock) ∧ Stamped es clock ∧ es.toList.map (fun e => (e.key, e.val)) = m.map (fun p => (K.key p.1, K.val p.2)) ∧ ∀ p ∈ m, K.ok p.1
theorem MapAt.lt (h : MapAt K w b m) : b < w.heap.size := by
  obtain ⟨es, clock, hb, _⟩ := h
  exact (Array.getElem?_eq_some_iff.1 hb).1
theorem MapAt.keep {w' : World} (h : MapAt K w b m) (e : w'.heap[b]? = w.heap[b]?) : MapAt K w' b m := by
  obtain ⟨es, clock, hb, r⟩ := h
  exact ⟨es, clock, e.trans hb, r⟩
theorem MapAt.below {w' : World} (h : MapAt K w b m) (hb : Below w.heap.size w w') : MapAt K w' b m := h.keep (hb.block b h.lt)
theorem MapAt.turn {w' : World} {F F' : Nat → Prop} (h : MapAt K w b m) (hT : Turn w w' F F') (hF : ¬ F b) : MapAt K w' b m := h.keep (hT.block b h.lt hF)
theorem MapAt.made (K : KV P k κ α) (w : World) : MapAt K (w.alloc (.map #[] 0)) w.heap.size [] :=
  ⟨#[], 0, alloc_new w _, stamped_empty 0, rfl, by simp⟩
theorem MapAt.of_blk (h : w.heap[b]? = some (.map #[] 0)) : MapAt K w b [] := ⟨#[], 0, h, stamped_empty 0, rfl, by simp⟩
theorem map_nth {es : List MapEntry} (h : es.map (fun e => (e.key, e.val)) = m.map (fun p => (K.key p.1, K.val p.2))) (j : Nat) {e : MapEntry} (he : es[j]? = some e) : ∃ p, m[j]? = some p ∧ e.key = K.key p.1 ∧ e.val = K.val p.2 := by
  have := congrArg (·[j]?) h
  simp only [List.getElem?_map, he, Option.map_some] at this
  cases hm : m[j]? with
  | none => rw [hm] at this; cases this
  | some p =>
    rw [hm] at this
    simp only [Option.map_some, Option.some.injEq, Prod.mk.injEq] at this
    exact ⟨p, rfl, this.1, this.2⟩
theorem map_nth' {es : List MapEntry} (h : es.map (fun e => (e.key, e.val)) = m.map (fun p => (K.key p.1, K.val p.2))) (j : Nat) {p : κ × α} (hp : m[j]? = some p) : ∃ e, es[j]? = some e ∧ e.key = K.key p.1 ∧ e.val = K.val p.2 := by
  have := congrArg (·[j]?) h
  simp only [List.getElem?_map, hp, Option.map_some] at this
  cases hm : es[j]? with
  | none => rw [hm] at this; cases this
  | some e =>
    rw [hm] at this
    simp only [Option.map_some, Option.some.injEq, Prod.mk.injEq] at this
    exact ⟨e, rfl, this.1, this.2⟩
theorem MapAt.once (h : MapAt K w b m) : Once m := by
  obtain ⟨es, clock, hb, hs, he, -⟩ := h
  have hn := ((stamped_iff es clock).1 hs).2.2
  rw [Once, List.pairwise_iff_getElem]
  intro i j hi hj hij e
  obtain ⟨x, hx, kx, -⟩ := map_nth' he i (List.getElem?_eq_getElem hi)
  obtain ⟨y, hy, ky, -⟩ := map_nth' he j (List.getElem?_eq_getElem hj)
  rw [List.pairwise_iff_getElem] at hn
  obtain ⟨hi', rfl⟩ := List.getElem?_eq_some_iff.1 hx
  obtain ⟨hj', rfl⟩ := List.getElem?_eq_some_iff.1 hy
  exact hn i j hi' hj' hij (by rw [kx, ky, e])
theorem MapAt.len (h : MapAt K w b m) {t e : TypeId} (ht : P.underlying t = some (.map k e)) (ty : TypeId) : (Builtin.len_ #[t] ty #[.map (some b)]).run P w = .ok (.int .i64 m.length) w := by
  obtain ⟨es, clock, hb, hs, he, -⟩ := h
  have e1 : m.length = es.size := by
    have := congrArg List.length he
    simpa using this.symm
  rw [e1]
  simp [Builtin.len_, run_underlying ht, run_getObj_map hb, goInt, Result.andThen]
/-- what a look-up yields -/
def lookV (val : α → Value) (z : Value) (c : Bool) : Option α → Value
  | none => if c then .tuple #[z, .bool false] else z
  | some v => if c then .tuple #[val v, .bool true] else val v
/-- where a key stands among the entries -/
theorem MapAt.find (h : MapAt K w b m) (KL : Keyed P k) {x : κ} (hx : K.ok x) :
    ∃ es clock, w.heap[b]? = some (.map es clock) ∧ Stamped es clock ∧ es.toList.map (fun e => (e.key, e.val)) = m.map (fun p => (K.key p.1, K.val p.2)) ∧ (∀ p ∈ m, K.ok p.1) ∧
      (((Instr.findKey k (K.key x) es.toList).run P w = .ok none w ∧ (∀ p ∈ m, p.1 ≠ x) ∧ ∀ e ∈ es.toList, e.key ≠ K.key x) ∨
       ∃ j e v, (Instr.findKey k (K.key x) es.toList).run P w = .ok (some (j, K.val v)) w ∧ es.toList[j]? = some e ∧ e.key = K.key x ∧ e.val = K.val v ∧ m[j]? = some (x, v)) := by
  obtain ⟨es, clock, hb, hs, he, hk⟩ := h
  obtain ⟨l, hl⟩ := hx
  have hkeys : ∀ e ∈ es.toList, ∃ l, keyOf P k e.key = some l := fun e hm => by
    obtain ⟨j, hj⟩ := List.mem_iff_getElem?.1 hm
    obtain ⟨p, hp, kp, -⟩ := map_nth he j hj
    obtain ⟨l, hl⟩ := hk p (List.mem_of_getElem? hp)
    exact ⟨l, kp ▸ hl⟩
  refine ⟨es, clock, hb, hs, he, hk, ?_⟩
  rcases KL.find w hl es.toList hkeys with ⟨h1, h2⟩ | ⟨j, e, h1, h2, h3⟩
  · refine Or.inl ⟨h1, fun p hp e => ?_, h2⟩
    obtain ⟨j, hj⟩ := List.mem_iff_getElem?.1 hp
    obtain ⟨y, hy, ky, -⟩ := map_nth' he j hj
    exact h2 y (List.mem_of_getElem? hy) (by rw [ky, e])
  · obtain ⟨p, hp, kp, vp⟩ := map_nth he j h2
    have : p.1 = x := K.inj (kp.symm.trans h3)
    refine Or.inr ⟨j, e, p.2, by rw [← vp]; exact h1, h2, h3, vp, by rw [hp, ← this]⟩
theorem MapAt.look (h : MapAt K w b m) (KL : Keyed P k) {t e : TypeId} (ht : P.underlying t = some (.map k e)) {z : Value} (hz : (zeroValue e).run P w = .ok z w) {x : κ} (hx : K.ok x) (c : Bool) :
    (Instr.lookup t (.map (some b)) (K.key x) c).run P w = .ok (lookV K.val z c (Ks.look m x)) w := by
  have ho := h.once
  obtain ⟨es, clock, hb, hs, he, hk, hf⟩ := h.find KL hx
  obtain ⟨l, hl⟩ := hx
  rcases hf with ⟨h1, h2, -⟩ | ⟨j, e0, v, h1, h2, h3, h4, h5⟩
  · rw [look_none.2 h2]
    simp [Instr.lookup, run_underlying ht, run_getObj_map hb, KL.check w _ hl, h1, hz, Result.andThen, lookV]
  · rw [show Ks.look m x = some v from look_at ho h5]
    simp [Instr.lookup, run_underlying ht, run_getObj_map hb, KL.check w _ hl, h1, Result.andThen, lookV]
theorem MapAt.put (h : MapAt K w b m) (KL : Keyed P k) {t e : TypeId} (ht : P.underlying t = some (.map k e)) {x : κ} (hx : K.ok x) (v : α) :
    ∃ w', (Instr.mapUpdate t (.map (some b)) (K.key x) (K.val v)).run P w = .ok () w' ∧ MapAt K w' b (putM m x v) ∧ Turn w w' (fun k => k = b) (fun k => k = b) := by
  have ho := h.once
  obtain ⟨es, clock, hb, hs, he, hk, hf⟩ := h.find KL hx
  have hx0 := hx
  obtain ⟨l, hl⟩ := hx
  have hT : ∀ o, Turn w (setBlock w b o) (fun k => k = b) (fun k => k = b) := fun o => ⟨rfl, rfl, rfl, by simp [setBlock], fun k _ hk => heap_setBlock_other hb o hk, fun k hk => Or.inl hk⟩
  have hok : ∀ p ∈ putM m x v, K.ok p.1 := fun p hp => by
    rcases mem_put hp with rfl | hp
    · exact hx0
    · exact hk p hp
  rcases hf with ⟨h1, h2, h3⟩ | ⟨j, e0, v0, h1, h2, h3, h4, h5⟩
  · refine ⟨setBlock w b (.map (es.push ⟨K.key x, K.val v, clock⟩) (clock + 1)), ?_, ⟨_, _, heap_setBlock_same hb _, stamped_push hs h3, ?_, hok⟩, hT _⟩
    · simp [Instr.mapUpdate, run_underlying ht, run_getObj_map hb, KL.check w false hl, h1, run_setObj_map _ hb, Result.andThen, setBlock]
    · rw [put_none v h2, Array.toList_push, List.map_append, he, List.map_append]; rfl
  · have hj : es[j]? = some e0 := by simpa using h2
    refine ⟨setBlock w b (.map (es.modify j (fun e' => { e' with key := K.key x, val := K.val v })) clock), ?_, ⟨_, _, heap_setBlock_same hb _, stamped_modify hs _ _ (fun _ _ => rfl) (fun e' _ he' => ?_), ?_, hok⟩, hT _⟩
    · simp [Instr.mapUpdate, run_underlying ht, run_getObj_map hb, KL.check w false hl, h1, hj, h3, KL.stays w hl, run_setObj_map _ hb, Result.andThen, setBlock]
    · rw [hj] at he'; cases he'; exact h3.symm
    · rw [show putM m x v = m.set j (x, v) from put_at ho v h5, Array.toList_modify, modify_eq_set _ _ _ _ h2, List.map_set, he, List.map_set]
theorem MapAt.del (h : MapAt K w b m) (KL : Keyed P k) {t e : TypeId} (ht : P.underlying t = some (.map k e)) {x : κ} (hx : K.ok x) (ty : TypeId) :
    ∃ w', (Builtin.delete_ #[t, k] ty #[.map (some b), K.key x]).run P w = .ok (.tuple #[]) w' ∧ MapAt K w' b (delM m x) ∧ Turn w w' (fun k => k = b) (fun k => k = b) := by
  have ho := h.once
  obtain ⟨es, clock, hb, hs, he, hk, hf⟩ := h.find KL hx
  obtain ⟨l, hl⟩ := hx
  have hT : ∀ o, Turn w (setBlock w b o) (fun k => k = b) (fun k => k = b) := fun o => ⟨rfl, rfl, rfl, by simp [setBlock], fun k _ hk => heap_setBlock_other hb o hk, fun k hk => Or.inl hk⟩
  have hok : ∀ p ∈ delM m x, K.ok p.1 := fun p hp => hk p (mem_del hp)
  rcases hf with ⟨h1, h2, h3⟩ | ⟨j, e0, v0, h1, h2, h3, h4, h5⟩
  · refine ⟨setBlock w b (.map es clock), ?_, ⟨_, _, heap_setBlock_same hb _, hs, ?_, hok⟩, hT _⟩
    · simp [Builtin.delete_, run_underlying ht, run_getObj_map hb, KL.check w _ hl, h1, run_setObj_map _ hb, Result.andThen, setBlock]
    · rw [del_none h2]; exact he
  · have hjl : j < es.toList.length := (List.getElem?_eq_some_iff.1 h2).1
    have hjs : j < es.size := by simpa using hjl
    have hsub : (es.eraseIdxIfInBounds j).toList = es.toList.eraseIdx j := by
      unfold Array.eraseIdxIfInBounds
      rw [dif_pos hjs]
      simp
    refine ⟨setBlock w b (.map (es.eraseIdxIfInBounds j) clock), ?_, ⟨_, _, heap_setBlock_same hb _, stamped_erase hs j, ?_, hok⟩, hT _⟩
    · simp [Builtin.delete_, run_underlying ht, run_getObj_map hb, KL.check w _ hl, h1, run_setObj_map _ hb, Result.andThen, setBlock]
    · rw [show delM m x = m.eraseIdx j from del_at ho h5, hsub, ChangeMaps.map_eraseIdx, he, ChangeMaps.map_eraseIdx]
end map
/-! ### at the operation -/
section walk
variable {κ α : Type} [DecidableEq κ] {P : Program} {k : TypeId} {K : KV P k κ α} (w : World) {ops : Array Oper} {rest : List Oper} {o : Oper} {a : Act} {Q : Exit → Act → World → Prop} {b : Nat} {m : List (κ × α)}
theorem wpList_look (hg : o.guard = none) (mm x : Operand) (t : TypeId) (c : Bool) (hop : o.op = Op.lookup t mm x c) (e : TypeId) (KL : Keyed P k) (ht : P.underlying t = some (.map k e)) {z : Value} (hz : (zeroValue e).run P w = .ok z w)
    (h : MapAt K w b m) (hm : a.eval mm = .map (some b)) (y : κ) (hx : a.eval x = K.key y) (hy : K.ok y) (V : Value) (hV : lookV K.val z c (look m y) = V)
    (hK : wpList P ops Q rest (a.put o.dst V) w) : wpList P ops Q (o :: rest) a w := by
  refine wpList_plain hg fun K' hK' => ?_
  have hrun := h.look KL ht hz hy c
  rw [hV] at hrun
  unfold Oper.wp
  simp [execOp, hop, hm, hx, hrun, Result.andThen]
  exact hK' _ _ hK
theorem wpList_put (hg : o.guard = none) (mm x v : Operand) (t : TypeId) (hop : o.op = Op.mapUpdate t mm x v) (e : TypeId) (KL : Keyed P k) (ht : P.underlying t = some (.map k e))
    (h : MapAt K w b m) (hm : a.eval mm = .map (some b)) (y : κ) (u : α) (hx : a.eval x = K.key y) (hv : a.eval v = K.val u) (hy : K.ok y)
    (hK : ∀ w', MapAt K w' b (putM m y u) → Turn w w' (fun k => k = b) (fun k => k = b) → wpList P ops Q rest (a.put o.dst undef) w') : wpList P ops Q (o :: rest) a w := by
  refine wpList_plain hg fun K' hK' => ?_
  obtain ⟨w', hrun, r1, r2⟩ := h.put KL ht hy u
  unfold Oper.wp
  simp [execOp, hop, hm, hx, hv, hrun, Result.andThen]
  exact hK' _ _ (hK w' r1 r2)
theorem wpList_mlen (hg : o.guard = none) (mm : Operand) (t : TypeId) (hop : o.op = Op.call { callee := Callee.builtin Builtin.len, args := #[mm], argTypes := #[t] }) (e : TypeId) (ht : P.underlying t = some (.map k e))
    (h : MapAt K w b m) (hm : a.eval mm = .map (some b)) (hK : wpList P ops Q rest (a.put o.dst (.int .i64 m.length)) w) : wpList P ops Q (o :: rest) a w := by
  refine wpList_plain hg fun K' hK' => ?_
  have hrun := h.len ht o.type
  unfold Oper.wp
  simp [execOp, hop, resolve, invoke, builtin, hm, hrun, Result.andThen]
  exact hK' _ _ hK
theorem wpList_del (hg : o.guard = none) (mm x : Operand) (t : TypeId) (hop : o.op = Op.call { callee := Callee.builtin Builtin.delete, args := #[mm, x], argTypes := #[t, k] }) (e : TypeId) (KL : Keyed P k) (ht : P.underlying t = some (.map k e))
    (h : MapAt K w b m) (hm : a.eval mm = .map (some b)) (y : κ) (hx : a.eval x = K.key y) (hy : K.ok y)
    (hK : ∀ w', MapAt K w' b (delM m y) → Turn w w' (fun k => k = b) (fun k => k = b) → wpList P ops Q rest (a.put o.dst (.tuple #[])) w') : wpList P ops Q (o :: rest) a w := by
  refine wpList_plain hg fun K' hK' => ?_
  obtain ⟨w', hrun, r1, r2⟩ := h.del KL ht hy o.type
  unfold Oper.wp
  simp [execOp, hop, resolve, invoke, builtin, hm, hx, hrun, Result.andThen]
  exact hK' _ _ (hK w' r1 r2)
end walk
end Ks
/- A book of records: what it tells, what it refuses, what a record makes of it. Plain. No program is in sight. -/
namespace Ks
open Go Go.RowKit
set_option linter.unusedVariables false
structure BookT where
  now : Int
  first : Int
  epoch : Int
  till : List (Int × Int)
  holds : List (ByteArray × Int)
  gone : List (Int × Bool)
def tillN (b : BookT) (t : Int) : Int := (look b.till t).getD 0
def goneB (b : BookT) (t : Int) : Bool := (look b.gone t).getD false
def heldN (b : BookT) (t : Int) : Nat := (b.holds.filter fun p => p.2 == t).length
def targetE (b : BookT) (r : RecT) : Int :=
  if r.kind = 1 then 0 else if r.kind = 4 then (if (look b.holds r.name).isSome then 0 else 7) else if r.target < b.first then 7 else if goneB b r.target then 13 else 0
def bookHoldE (b : BookT) (r : RecT) : Int := if (look b.holds r.name).isSome then 19 else if 64 ≤ b.holds.length then 5 else 0
def purgeE (b : BookT) (r : RecT) : Int := if r.time < tillN b r.target then 9 else if 0 < heldN b r.target then 10 else if r.till ≠ tillN b r.target then 2 else 0
def kindE (b : BookT) (r : RecT) : Int := if r.kind = 2 then (if r.till < tillN b r.target then 12 else 0) else if r.kind = 3 then bookHoldE b r else if r.kind = 5 then purgeE b r else 0
def mayE (b : BookT) (r : RecT) : Int :=
  if chkB r = false then 2 else if r.epoch ≠ b.epoch ∨ r.time < b.now then 16 else if targetE b r ≠ 0 then targetE b r else kindE b r
/-- what a record that may be makes of a book -/
def putB (b : BookT) (r : RecT) : BookT :=
  if r.kind = 1 then { b with now := r.time, epoch := b.epoch + 1 }
  else if r.kind = 2 then { b with now := r.time, till := putM b.till r.target r.till }
  else if r.kind = 3 then { b with now := r.time, holds := putM b.holds r.name r.target }
  else if r.kind = 4 then { b with now := r.time, holds := delM b.holds r.name }
  else { b with now := r.time, gone := putM b.gone r.target true }
def applyB (b : BookT) (r : RecT) : BookT := if mayE b r = 0 then putB b r else b
def newB (first : Int) : BookT := ⟨0, first, first, [], [], []⟩
theorem chk_epoch {r : RecT} (h : chkB r = true) : 0 ≤ r.epoch ∧ r.epoch ≤ 4294967295 := by
  unfold chkB at h
  simp only [Bool.and_eq_true] at h
  exact of_decide_eq_true h.1.2
theorem chk_time {r : RecT} (h : chkB r = true) : 0 ≤ r.time ∧ r.time ≤ 1099511627776 := by
  unfold chkB at h
  simp only [Bool.and_eq_true] at h
  exact of_decide_eq_true h.2
/-- what a record that may be has: its checks -/
theorem may_zero {b : BookT} {r : RecT} (h : mayE b r = 0) : chkB r = true ∧ r.epoch = b.epoch ∧ b.now ≤ r.time ∧ targetE b r = 0 ∧ kindE b r = 0 := by
  unfold mayE at h
  split at h
  · cases h
  · rename_i h1
    split at h
    · cases h
    · rename_i h2
      split at h
      · rename_i h3; exact absurd h h3
      · rename_i h3
        exact ⟨by simpa using h1, Classical.byContradiction fun q => h2 (Or.inl q), by have : ¬ r.time < b.now := fun q => h2 (Or.inr q); omega, Classical.byContradiction h3, h⟩
/-- the deadline never becomes less, what was purged stays so; a purge is late enough, of what is not held, nor gone -/
theorem longer (b : BookT) (r : RecT) : ¬ tillN (applyB b r) r.target < tillN b r.target ∧ (goneB b r.target = true → goneB (applyB b r) r.target = true) ∧
    (mayE b r = 0 → r.kind = 5 → ¬ r.time < tillN b r.target ∧ heldN b r.target = 0 ∧ goneB b r.target = false ∧ r.till = tillN b r.target ∧ goneB (applyB b r) r.target = true) := by
  unfold applyB
  by_cases h : mayE b r = 0
  · rw [if_pos h]
    obtain ⟨h1, h2, h3, h4, h5⟩ := may_zero h
    unfold putB
    by_cases k1 : r.kind = 1
    · rw [if_pos k1]
      exact ⟨Int.lt_irrefl _, fun q => q, fun _ k => by omega⟩
    · rw [if_neg k1]
      by_cases k2 : r.kind = 2
      · rw [if_pos k2]
        refine ⟨?_, fun q => q, fun _ k => by omega⟩
        rw [kindE, if_pos k2] at h5
        show ¬ (look (putM b.till r.target r.till) r.target).getD 0 < tillN b r.target
        rw [look_put, if_pos rfl]
        intro q
        rw [if_pos (show r.till < tillN b r.target from q)] at h5
        cases h5
      · rw [if_neg k2]
        by_cases k3 : r.kind = 3
        · rw [if_pos k3]
          exact ⟨Int.lt_irrefl _, fun q => q, fun _ k => by omega⟩
        · rw [if_neg k3]
          by_cases k4 : r.kind = 4
          · rw [if_pos k4]
            exact ⟨Int.lt_irrefl _, fun q => q, fun _ k => by omega⟩
          · rw [if_neg k4]
            have hg : (look (putM b.gone r.target true) r.target).getD false = true := by rw [look_put, if_pos rfl]; rfl
            refine ⟨Int.lt_irrefl _, fun _ => hg, fun _ k => ?_⟩
            rw [kindE, if_neg k2, if_neg k3, if_pos k, purgeE] at h5
            rw [targetE, if_neg k1, if_neg k4] at h4
            have g1 : ¬ r.time < tillN b r.target := fun q => by rw [if_pos q] at h5; cases h5
            rw [if_neg g1] at h5
            have g2 : ¬ 0 < heldN b r.target := fun q => by rw [if_pos q] at h5; cases h5
            rw [if_neg g2] at h5
            have g3 : ¬ r.till ≠ tillN b r.target := fun q => by rw [if_pos q] at h5; cases h5
            have g4 : ¬ r.target < b.first := fun q => by rw [if_pos q] at h4; cases h4
            rw [if_neg g4] at h4
            have g5 : goneB b r.target = false := by
              cases q : goneB b r.target
              · rfl
              · rw [q] at h4; cases h4
            exact ⟨g1, by omega, g5, Classical.byContradiction g3, hg⟩
  · rw [if_neg h]
    exact ⟨Int.lt_irrefl _, fun q => q, fun q => absurd q h⟩
end Ks
/- Is a number within, is a text a name: of the program. -/
set_option maxRecDepth 100000
namespace Ks
open Go Go.RowKit
theorem nil_str {s : ByteArray} (h : s ≠ ⟨#[]⟩) : (s.toList == []) = false := by
  rw [ByteArray.toList_eq]
  cases hd : s.data.toList with
  | nil =>
    refine absurd ?_ h
    rcases s with ⟨⟨l⟩⟩
    simp at hd
    rw [hd]
  | cons x l => rfl
end Ks
namespace Go.Proofs.Ytnkiokaeooopgaa
open Go.RowKit Ks
set_option linter.unusedVariables false
theorem within_any (n m : Int) (w : World) : Calls Try.prog 77 #[.int .i64 n, .int .i64 m] w fun e w' => e = .returned (.bool (withB n m)) ∧ w' = w := by
  refine calls_by fun R HR => ?_
  by_cases h0 : n < 0
  · have HZ := Lib.hid (show withB n m = false from decide_eq_false fun h => by omega)
    have h1 : decide (0 ≤ n) = false := decide_eq_false (by omega)
    go_enter Try.func77, Try.ntmps77
    go_wp2
    exact HR.out _ _ ⟨by rw [HZ.out]; try rfl, rfl⟩
  · have h1 : decide (0 ≤ n) = true := decide_eq_true (by omega)
    have h2 : 0 ≤ n := by omega
    by_cases h3 : n ≤ m
    · have HZ := Lib.hid (show withB n m = true from decide_eq_true ⟨h2, h3⟩)
      go_enter Try.func77, Try.ntmps77
      go_wp2
      exact HR.out _ _ ⟨by rw [HZ.out]; try rfl, rfl⟩
    · have HZ := Lib.hid (show withB n m = false from decide_eq_false fun h => h3 h.2)
      have h4 : decide (n ≤ m) = false := decide_eq_false h3
      go_enter Try.func77, Try.ntmps77
      go_wp2
      exact HR.out _ _ ⟨by rw [HZ.out]; try rfl, rfl⟩
theorem name_any (s : ByteArray) (w : World) (hs : s.size ≤ 9223372036854775807) : Calls Try.prog 62 #[.string s] w fun e w' => e = .returned (.bool (nameB s)) ∧ w' = w := by
  refine calls_by fun R HR => ?_
  have hsi : (s.size : Int) ≤ 9223372036854775807 := by omega
  go_enter Try.func62, Try.ntmps62
  go_wp2_with fail
  go_loopw [6] (fun i wx => ∃ (k : Nat), k ≤ s.size ∧ i = .int .i64 k ∧ wx = w ∧ Hid ((s.data.toList.take k).all okB = true)) (fun i _ => s.size - (intOf i).toNat)
  case atStart => exact ⟨0, Nat.zero_le _, rfl, rfl, Lib.hid rfl⟩
  case round =>
    obtain ⟨k, hk, rfl, hwr, hN⟩ := hrel
    subst hwr
    by_cases hlt : k < s.size
    · have HA := Lib.hid (all_take k hlt okB)
      have HS := Lib.hid (fun h => all_stop k hlt okB h)
      have HK : Hid (∀ b : UInt8, okB b = decide ((97 ≤ b.toNat ∧ b.toNat ≤ 122) ∨ (48 ≤ b.toNat ∧ b.toNat ≤ 57))) := Lib.hid fun _ => rfl
      by_cases c1 : ((s[k]).toNat : Int) < 97
      · by_cases c3 : ((s[k]).toNat : Int) < 48
        · have HZ := Lib.hid (show nameB s = false by rw [nameB, HS.out (by rw [HK.out, decide_eq_false_iff_not]; omega)]; rfl)
          go_wp2
          exact HR.out _ _ ⟨by rw [HZ.out]; try rfl, rfl⟩
        · by_cases c4 : 57 < ((s[k]).toNat : Int)
          · have HZ := Lib.hid (show nameB s = false by rw [nameB, HS.out (by rw [HK.out, decide_eq_false_iff_not]; omega)]; rfl)
            go_wp2
            exact HR.out _ _ ⟨by rw [HZ.out]; try rfl, rfl⟩
          · have HQ := Lib.hid (show (s.data.toList.take (k + 1)).all okB = true by rw [HA.out, hN.out, HK.out, decide_eq_true (by omega)]; rfl)
            go_wp2
            go_roundw
            case rel => exact ⟨k + 1, by omega, by go_num, trivial, HQ⟩
            case measure => simp [intOf]; omega
      · by_cases c2 : 122 < ((s[k]).toNat : Int)
        · have c3 : ¬ ((s[k]).toNat : Int) < 48 := by omega
          have c4 : 57 < ((s[k]).toNat : Int) := by omega
          have HZ := Lib.hid (show nameB s = false by rw [nameB, HS.out (by rw [HK.out, decide_eq_false_iff_not]; omega)]; rfl)
          go_wp2
          exact HR.out _ _ ⟨by rw [HZ.out]; try rfl, rfl⟩
        · have HQ := Lib.hid (show (s.data.toList.take (k + 1)).all okB = true by rw [HA.out, hN.out, HK.out, decide_eq_true (by omega)]; rfl)
          go_wp2
          go_roundw
          case rel => exact ⟨k + 1, by omega, by go_num, trivial, HQ⟩
          case measure => simp [intOf]; omega
    · obtain rfl : k = s.size := by omega
      have HN := Lib.hid (show s.data.toList.all okB = true by have h := hN.out; rwa [List.take_of_length_le (by rw [data_length]; exact Nat.le_refl _)] at h)
      clear hN
      by_cases h0 : s = ⟨#[]⟩
      · have HZ := Lib.hid (show nameB s = false by rw [nameB, decide_eq_false (fun h => h h0)]; simp)
        subst h0
        go_wp2
        exact HR.out _ _ ⟨by rw [HZ.out]; try rfl, rfl⟩
      · have h1 := nil_str h0
        by_cases h2 : s.size ≤ 16
        · have HZ := Lib.hid (show nameB s = true by rw [nameB, HN.out, decide_eq_true h0, decide_eq_true h2]; rfl)
          have h3 : (s.size : Int) ≤ 16 := by omega
          go_wp2
          exact HR.out _ _ ⟨by rw [HZ.out]; try rfl, rfl⟩
        · have HZ := Lib.hid (show nameB s = false by rw [nameB, decide_eq_false h2]; simp)
          have h3 : ¬ (s.size : Int) ≤ 16 := by omega
          have h4 : decide ((s.size : Int) ≤ 16) = false := decide_eq_false h3
          have h5 : decide (s.size ≤ 16) = false := decide_eq_false h2
          go_wp2
          exact HR.out _ _ ⟨by rw [HZ.out]; try rfl, rfl⟩
end Go.Proofs.Ytnkiokaeooopgaa
/- A call of a function at a step of a region that draws its order, by its contract. Plain. No program is in sight. -/
namespace Ks
open Go Go.RowKit
set_option linter.unusedVariables false
theorem step_call {P : Program} {ops : Array Oper} {o : Oper} {a : Act} {w : World} {K : Act → World → Prop} {Q : Exit → Act → World → Prop} {F : Prop} (hg : o.guard = none) (f : FuncId) (xs : Array Operand) (ts : Array TypeId)
    (hop : o.op = Op.call { callee := Callee.value (.func f), args := xs, argTypes := ts }) (eg : ∀ args w, (callFunc f args).run P w = .ok (.enter f args) w) (args : Array Value) (hargs : xs.toList.map a.eval = args.toList)
    {Φ : Value → World → Prop} (hc : Calls P f args w fun e w' => ∃ v, e = .returned v ∧ Φ v w') (hK : ∀ v w', Φ v w' → K (a.put o.dst v) w') : if Region.wanted o (yielded ops a.tmps) = true then Oper.wp P o a w K Q else F := by
  have hw : Region.wanted o (yielded ops a.tmps) = true := by simp [Region.wanted, hg]
  rw [if_pos hw]
  have hrun : (execOp a.eval o).run P w = .ok (.enter f args) w := by
    have h : xs.map a.eval = args := Array.toList_inj.1 (by simpa using hargs)
    simp [execOp, hop, resolve, Deferred.ofValue, Act.eval, invoke, eg, ← h]
  unfold Oper.wp
  rw [hrun, Oper.upon_enter]
  exact hc.mono fun e w' ⟨v, he, h⟩ => by subst he; exact hK v w' h
/-- a cell that was there, behind a callee that turned nothing -/
theorem cell_on {w w1 : World} {n o : Nat} {v : Value} (hb : Below w.heap.size w w1) (h : w.cell? ⟨n, o, none⟩ = some v) : w1.cell? ⟨n, o, none⟩ = some v ∧ ∀ ob, (w1.alloc ob).cell? ⟨n, o, none⟩ = some v := by
  have hlt : n < w.heap.size := World.block_lt_of_cell? w _ h
  have h1 := (hb.cell (p := ⟨n, o, none⟩) hlt).trans h
  exact ⟨h1, fun ob => (((Below.refl w1.heap.size w1).alloc (Nat.le_refl _) ob).cell (p := ⟨n, o, none⟩) (Nat.lt_of_lt_of_le hlt hb.size)).trans h1⟩
theorem blk_on {w w1 : World} {b : Nat} {o : Obj} (hb : Below w.heap.size w w1) (h : w.heap[b]? = some o) : w1.heap[b]? = some o := (hb.block b (Array.getElem?_eq_some_iff.1 h).1).trans h
end Ks
/- A region that draws its order, some of whose calls turn what was there, each at most once: walked once. The class of worlds goes by what was done, and what it yielded. Plain. No program is in sight. -/
namespace Ks
open Go Go.RowKit
set_option linter.unusedVariables false

abbrev Told := Nat → Option Value
def upd (f : Told) (k : Nat) (v : Value) : Told := fun j => bif Nat.beq j k then some v else f j
theorem beq_ne {j k : Nat} (h : j ≠ k) : Nat.beq j k = false := by rw [← Bool.not_eq_true]; exact fun e => h (Nat.eq_of_beq_eq_true e)
theorem beq_self (k : Nat) : Nat.beq k k = true := Nat.beq_refl k
theorem upd_self (f : Told) (k : Nat) (v : Value) : upd f k v k = some v := by unfold upd; rw [beq_self]; rfl
theorem upd_ne (f : Told) {j k : Nat} (v : Value) (h : j ≠ k) : upd f k v j = f j := by unfold upd; rw [beq_ne h]; rfl
theorem upd_comm (f : Told) {i j : Nat} (u v : Value) (h : i ≠ j) : upd (upd f i u) j v = upd (upd f j v) i u := by
  funext k
  by_cases e : k = i
  · subst e; rw [upd_ne _ _ h, upd_self, upd_self]
  · by_cases e2 : k = j
    · subst e2; rw [upd_self, upd_ne _ _ e, upd_self]
    · rw [upd_ne _ _ e2, upd_ne _ _ e, upd_ne _ _ e, upd_ne _ _ e2]

section
variable {P : Program} {ops : Array Oper} {md : Region.Mode} {C : Told → World → Prop}

def movesUpon (P : Program) (D : Value → World → Prop) : Result Next → Prop
  | .ok (.value u) w' => D u w'
  | .ok .skip w' => D undef w'
  | .ok (.enter f args) w' => Calls P f args w' (fun e w'' => ∃ v, e = .returned v ∧ D v w'')
  | _ => False
/-- what it waits for yielded the same -/
def agree (md : Region.Mode) (o : Oper) (f g : Told) : Prop := ∀ e ∈ o.after, Region.binds md e = true → g e.on = f e.on

theorem agree_on {o : Oper} {f g : Told} (i : Nat) (h : agree md o f g) (hb : (o.after.any fun e => Nat.beq e.on i && Region.binds md e) = true) : g i = f i := by
  obtain ⟨e, he, h2⟩ : ∃ e, e ∈ o.after ∧ (Nat.beq e.on i && Region.binds md e) = true := by simpa using Array.any_eq_true'.1 hb
  simp only [Bool.and_eq_true] at h2
  have h3 := h e he h2.2
  rwa [Nat.eq_of_beq_eq_true h2.1] at h3

/-- wherever it is done, and whatever else was done, it yields one of these -/
def Moves (P : Program) (md : Region.Mode) (ops : Array Oper) (C : Told → World → Prop) (o : Oper) (k : Nat) (V : Value → Prop) (f : Told) (a : Act) : Prop :=
  (Region.wanted o (yielded ops a.tmps) = true ∧ ∀ g w, agree md o f g → g k = none → C g w → movesUpon P (fun v w' => V v ∧ C (upd g k v) w') ((execOp a.eval o).run P w)) ∨
  (Region.wanted o (yielded ops a.tmps) = false ∧ V undef ∧ ∀ g w, agree md o f g → g k = none → C g w → C (upd g k undef) w)

def mOp (P : Program) (md : Region.Mode) (ops : Array Oper) (C : Told → World → Prop) (i : Nat) (K : Told → Act → Prop) (f : Told) (a : Act) : Prop :=
  match ops[i]? with
  | none => False
  | some o => ∃ V, Moves P md ops C o i V f a ∧ ∀ v, V v → K (upd f i v) (a.put o.dst v)
theorem mOp_mono {i : Nat} {f : Told} {a : Act} {K K' : Told → Act → Prop} (h : ∀ f a, K f a → K' f a) (hh : mOp P md ops C i K f a) : mOp P md ops C i K' f a := by
  unfold mOp at *
  split
  · rename_i ho; simp only [ho] at hh
  · rename_i o ho
    simp only [ho] at hh
    obtain ⟨V, h1, h2⟩ := hh
    exact ⟨V, h1, fun v hv => h _ _ (h2 v hv)⟩

def wpAnyM (P : Program) (md : Region.Mode) (ops : Array Oper) (C : Told → World → Prop) (Q : Told → Act → Prop) : Nat → Array Bool → Told → Act → Prop
  | 0, listed, f, a => Region.ready md ops listed = [] ∧ Q f a
  | fuel + 1, listed, f, a => Region.ready md ops listed ≠ [] ∧ ∀ i ∈ Region.ready md ops listed, mOp P md ops C i (wpAnyM P md ops C Q fuel (listed.setIfInBounds i true)) f a

theorem wpOp_of_mOp {i : Nat} {f : Told} {a : Act} {K : Told → Act → Prop} {K' : Act → World → Prop} {Q' : Exit → Act → World → Prop} {w : World} (hf : f i = none) (hC : C f w) (h : ∀ v a w', C (upd f i v) w' → K (upd f i v) a → K' a w') (hh : mOp P md ops C i K f a) : wpOp P ops Q' i K' a w := by
  unfold mOp at hh
  unfold wpOp
  split
  · rename_i ho; simp only [ho] at hh
  · rename_i o ho
    simp only [ho] at hh
    obtain ⟨V, h1, h2⟩ := hh
    rcases h1 with ⟨hw, h1⟩ | ⟨hw, hV, h1⟩
    · rw [if_pos hw]
      refine .inl ?_
      have h3 := h1 f w (fun _ _ _ => rfl) hf hC
      unfold Oper.wp
      generalize (execOp a.eval o).run P w = r at *
      cases r with
      | ok n w' =>
        cases n <;> simp only [movesUpon] at h3 <;> simp only [Oper.upon]
        case value u => exact h _ _ _ h3.2 (h2 _ h3.1)
        case skip => exact h _ _ _ h3.2 (h2 _ h3.1)
        case enter g args => exact h3.mono fun e w'' ⟨v, he, hv, hw''⟩ => by subst he; exact h _ _ _ hw'' (h2 _ hv)
      | halt x w' => simp only [movesUpon] at h3
    · rw [if_neg (by simp [hw])]
      exact h _ _ _ (h1 f w (fun _ _ _ => rfl) hf hC) (h2 _ hV)

theorem wpAny_of_moved {Q : Told → Act → Prop} {Q' : Exit → Act → World → Prop} (hQ : ∀ f a w, C f w → Q f a → Q' .normal a w) : ∀ (fuel : Nat) (listed : Array Bool) (f : Told) (a : Act) (w : World), (∀ i, listed.getD i true = false → f i = none) → C f w →
    wpAnyM P md ops C Q fuel listed f a → wpAny P md ops Q' fuel listed a w
  | 0, _, _, _, _, _, hw, h => ⟨h.1, hQ _ _ _ hw h.2⟩
  | fuel + 1, listed, f, _, _, hi, hw, h => ⟨fun h0 => absurd h0 h.1, fun i hr => by
      have h0 := (mem_ready.1 hr).1
      refine wpOp_of_mOp (hi i h0) hw (fun v a' w' hw' => wpAny_of_moved hQ fuel _ _ a' w' (fun j hj => ?_) hw') (h.2 i hr)
      by_cases e : j = i
      · subst e
        have hlt : j < listed.size := by
          rcases Nat.lt_or_ge j listed.size with h' | h'
          · exact h'
          · simp [Array.getElem?_eq_none h'] at h0
        simp [hlt] at hj
      · rw [getD_set_ne true (Ne.symm e)] at hj
        rw [upd_ne _ _ e]; exact hi j hj⟩

theorem Moves.mOp {i : Nat} {o : Oper} {V : Value → Prop} {f : Told} {a : Act} (hi : ops[i]? = some o) (hy : Moves P md ops C o i V f a) {K : Told → Act → Prop} (h : ∀ v, V v → K (upd f i v) (a.put o.dst v)) : mOp P md ops C i K f a := by
  unfold Ks.mOp
  simp only [hi]
  exact ⟨V, hy, h⟩
theorem Moves.of_same {o : Oper} {i : Nat} {V : Value → Prop} {f f' : Told} {a a' : Act} (hy : Moves P md ops C o i V f a) (hf : ∀ e ∈ o.after, Region.binds md e = true → f' e.on = f e.on) (he : execOp a'.eval o = execOp a.eval o)
    (hw : Region.wanted o (yielded ops a'.tmps) = Region.wanted o (yielded ops a.tmps)) : Moves P md ops C o i V f' a' := by
  unfold Moves at *
  rw [he, hw]
  rcases hy with ⟨h1, h2⟩ | ⟨h1, h2, h3⟩
  · exact .inl ⟨h1, fun g w ha => h2 g w fun e hm hb => (ha e hm hb).trans (hf e hm hb)⟩
  · exact .inr ⟨h1, h2, fun g w ha => h3 g w fun e hm hb => (ha e hm hb).trans (hf e hm hb)⟩
theorem mOp_put {i j : Nat} {oi oj : Oper} {u : Value} (hij : i ≠ j) (hj : ops[j]? = some oj) (hap : oi.apart ops oj = true)
    (hsi : ∀ cs b, oi.op ≠ .select cs b) (hsj : ∀ cs b, oj.op ≠ .select cs b) {K : Told → Act → Prop} {f : Told} {a : Act}
    (hai : ∀ e ∈ oi.after, Region.binds md e = true → e.on ≠ j) (haj : ∀ e ∈ oj.after, Region.binds md e = true → e.on ≠ i)
    (hy : Moves P md ops C oi i (fun v => v = u) f a) (h : mOp P md ops C j K (upd f i u) (a.put oi.dst u)) :
    mOp P md ops C j (fun f' a' => Moves P md ops C oi i (fun v => v = u) f' a' ∧ K (upd f' i u) (a'.put oi.dst u)) f a := by
  obtain ⟨h1, h2, h3⟩ := Oper.apart_spec hap
  have keep : ∀ v, Moves P md ops C oi i (fun v => v = u) (upd f j v) (a.put oj.dst v) := fun v =>
    hy.of_same (fun e he hb => upd_ne _ _ (hai e he hb)) (execOp_put oi hsi a oj.dst v h3) (wanted_put oi a oj.dst v h3)
  unfold mOp at *
  simp only [hj] at *
  obtain ⟨V, hV, hn⟩ := h
  refine ⟨V, ?_, fun v hv => ⟨keep v, ?_⟩⟩
  · exact hV.of_same (fun e he hb => (upd_ne _ _ (haj e he hb)).symm) (execOp_put oj hsj a oi.dst u h1).symm (wanted_put oj a oi.dst u h1).symm
  · rw [← Act.put_comm a u v h2, ← upd_comm f u v hij]
    exact hn v hv

theorem wpAnyM_first {Q : Told → Act → Prop} {i : Nat} {oi : Oper} {u : Value} (hi : ops[i]? = some oi) (hsel : ∀ (j : Nat) (o : Oper) cs b, ops[j]? = some o → o.op ≠ .select cs b) :
    ∀ (fuel : Nat) (listed : Array Bool) (f : Told) (a : Act),
      (∀ j oj, ops[j]? = some oj → j ≠ i → listed.getD j true = false → (∀ e ∈ oj.after, Region.binds md e = true → e.on ≠ i) → oi.apart ops oj = true) →
      i ∈ Region.ready md ops listed → Moves P md ops C oi i (fun v => v = u) f a →
      wpAnyM P md ops C Q fuel (listed.setIfInBounds i true) (upd f i u) (a.put oi.dst u) → wpAnyM P md ops C Q (fuel + 1) listed f a := by
  intro fuel
  induction fuel with
  | zero =>
    intro listed f a _ hr hy H
    refine ⟨fun h => (by rw [h] at hr; cases hr), fun j hj => ?_⟩
    by_cases hji : j = i
    · subst hji; exact hy.mOp hi (fun v hv => by subst hv; exact H)
    · have := ready_mono hj hji
      rw [H.1] at this
      cases this
  | succ fuel ih =>
    intro listed f a hfree hr hy H
    refine ⟨fun h => (by rw [h] at hr; cases hr), fun j hj => ?_⟩
    by_cases hji : j = i
    · subst hji; exact hy.mOp hi (fun v hv => by subst hv; exact H)
    · have h1 := H.2 j (ready_mono hj hji)
      obtain ⟨hjun, oj, hoj, hall⟩ := mem_ready.1 hj
      have both : ∀ {k : Nat} {b : Bool}, listed.getD k true = false → listed.getD k false = b → b = false := fun {k b} h0 hb => by
        rcases Nat.lt_or_ge k listed.size with h' | h'
        · simp [h'] at h0 hb; rw [h0] at hb; exact hb.symm
        · simp [Array.getElem?_eq_none h'] at h0
      have hnot : ∀ e ∈ oj.after, Region.binds md e = true → e.on ≠ i := fun e he hb heq => by
        have h1 := hall e he hb
        rw [heq] at h1
        exact Bool.noConfusion (both (mem_ready.1 hr).1 h1)
      have hnoti : ∀ e ∈ oi.after, Region.binds md e = true → e.on ≠ j := fun e he hb heq => by
        obtain ⟨_, o', ho', hall'⟩ := mem_ready.1 hr
        rw [hi] at ho'
        cases ho'
        have h1 := hall' e he hb
        rw [heq] at h1
        exact Bool.noConfusion (both hjun h1)
      have h2 := mOp_put (Ne.symm hji) hoj (hfree j oj hoj hji hjun hnot) (fun cs b => hsel i oi cs b hi) (fun cs b => hsel j oj cs b hoj) hnoti hnot hy h1
      have hfree' : ∀ k ok, ops[k]? = some ok → k ≠ i → (listed.setIfInBounds j true).getD k true = false →
          (∀ e ∈ ok.after, Region.binds md e = true → e.on ≠ i) → oi.apart ops ok = true := fun k ok hk hki hun hno => by
        refine hfree k ok hk hki ?_ hno
        by_cases hjk : j = k
        · subst hjk; exact hjun
        · rw [getD_set_ne true hjk] at hun; exact hun
      refine mOp_mono (fun f' a' h3 => ih (listed.setIfInBounds j true) f' a' hfree' (ready_mono hr (Ne.symm hji)) h3.1 ?_) h2
      rw [Array.setIfInBounds_comm _ _ hji]
      exact h3.2

theorem wp_region_mv {id : Nat} {Q : Exit → Act → World → Prop} {a : Act} {w : World} {l : List Oper} (C : Told → World → Prop) (hm : P.follows .mixedOrders = true) (hC : C (fun _ => none) w.drew)
    (h : wpAnyM P .any l.toArray C (fun f a' => ∀ w', C f w' → Q .normal a' w') l.length (Array.replicate l.length false) (fun _ => none) a) : (Code.region id l.toArray true).wp P Q a w :=
  wp_region_any hm (wpAny_of_moved (C := C) (Q := fun f a => ∀ w', C f w' → Q .normal a w') (fun f a w hw h => h w hw) _ _ (fun _ => none) _ _ (fun _ _ => rfl) hC (by simpa using h))
theorem mv_end {Q : Told → Act → Prop} {listed : Array Bool} {f : Told} {a : Act} (h0 : Region.ready md ops listed = []) (h : Q f a) : wpAnyM P md ops C Q 0 listed f a := ⟨h0, h⟩

/-- all worlds of the class, by a name -/
theorem moved_class (C : Told → World → Prop) : ∃ (S : Type) (F : S → World), (∀ f w, C f w → ∃ s, w = F s) ∧ ∀ s, ∃ f, C f (F s) :=
  ⟨{ x : Told × World // C x.1 x.2 }, fun s => s.1.2, fun f w h => ⟨⟨(f, w), h⟩, rfl⟩, fun s => ⟨s.1.1, s.2⟩⟩
/-- what is read, or reckoned, in all of them: taken first -/
theorem mv_read {Q : Told → Act → Prop} {fuel : Nat} {listed : Array Bool} {f : Told} {a : Act} (i : Nat) {o : Oper} {S : Type} {F : S → World} (hF : ∀ f w, C f w → ∃ s, w = F s) (hm : ∀ f w v, C f w → C (upd f i v) w)
    (ho : ops[i]? = some o) (hs : Region.noSelect ops = true) (hfree : Region.free md ops listed i = true) (hr : (Region.ready md ops listed).contains i = true)
    (h : ∀ K : Value → Act → Prop, (∀ v a, wpAnyM P md ops C Q fuel (listed.setIfInBounds i true) (upd f i v) a → K v a) → if Region.wanted o (yielded ops a.tmps) then ∃ v, (∀ s, Oper.quietUpon P (fun w' => w' = F s) (F s) v ((execOp a.eval o).run P (F s))) ∧ K v (a.put o.dst v) else K undef (a.put o.dst undef)) :
    wpAnyM P md ops C Q (fuel + 1) listed f a := by
  have h := h (fun v a => wpAnyM P md ops C Q fuel (listed.setIfInBounds i true) (upd f i v) a) fun _ _ h => h
  have key : ∀ u, Moves P md ops C o i (fun v => v = u) f a → wpAnyM P md ops C Q fuel (listed.setIfInBounds i true) (upd f i u) (a.put o.dst u) → wpAnyM P md ops C Q (fuel + 1) listed f a := fun u h1 h2 =>
    wpAnyM_first ho (Region.noSelect_spec hs) fuel listed f a (Region.free_spec ho hfree) (by simpa using hr) h1 h2
  split at h
  · rename_i hw
    obtain ⟨v, h1, h2⟩ := h
    refine key v (.inl ⟨hw, fun g w _ hn hC => ?_⟩) h2
    obtain ⟨s, rfl⟩ := hF g w hC
    have h3 := h1 s
    generalize (execOp a.eval o).run P (F s) = r at *
    cases r with
    | ok n w' =>
      cases n <;> simp only [Oper.quietUpon] at h3 <;> simp only [movesUpon]
      case value u => obtain ⟨rfl, rfl⟩ := h3; exact ⟨rfl, hm _ _ _ hC⟩
      case skip => obtain ⟨rfl, rfl⟩ := h3; exact ⟨rfl, hm _ _ _ hC⟩
      case enter g args =>
        obtain ⟨rfl, h4⟩ := h3
        exact h4.mono fun e w'' ⟨he, hw''⟩ => by subst hw''; exact ⟨v, he, rfl, hm _ _ _ hC⟩
    | halt x w' => simp only [Oper.quietUpon] at h3
  · rename_i hw
    exact key undef (.inr ⟨by simpa using hw, rfl, fun g w _ _ hC => hm _ _ _ hC⟩) h
/-- a call that yields one value, wherever it is done: taken first -/
theorem mv_call1 {Q : Told → Act → Prop} {fuel : Nat} {listed : Array Bool} {F : Told} {a : Act} (i : Nat) {o : Oper} (f : FuncId) {xs : Array Operand} {ts : Array TypeId}
    (ho : ops[i]? = some o) (hs : Region.noSelect ops = true) (hfree : Region.free md ops listed i = true) (hr : (Region.ready md ops listed).contains i = true) (hw : Region.wanted o (yielded ops a.tmps) = true)
    (hop : o.op = Op.call { callee := Callee.value (.func f), args := xs, argTypes := ts }) (eg : ∀ args w, (callFunc f args).run P w = .ok (.enter f args) w) {args : Array Value} (hargs : xs.toList.map a.eval = args.toList)
    {u : Value} (hc : ∀ g w, agree md o F g → g i = none → C g w → Calls P f args w fun e w' => e = .returned u ∧ C (upd g i u) w')
    (hK : wpAnyM P md ops C Q fuel (listed.setIfInBounds i true) (upd F i u) (a.put o.dst u)) : wpAnyM P md ops C Q (fuel + 1) listed F a := by
  refine wpAnyM_first (u := u) ho (Region.noSelect_spec hs) fuel listed F a (Region.free_spec ho hfree) (by simpa using hr) (.inl ⟨hw, fun g w h0 h1 h2 => ?_⟩) hK
  have hrun : (execOp a.eval o).run P w = .ok (.enter f args) w := by
    have h : xs.map a.eval = args := Array.toList_inj.1 (by simpa using hargs)
    simp [execOp, hop, resolve, Deferred.ofValue, Act.eval, invoke, eg, ← h]
  rw [hrun]
  exact (hc g w h0 h1 h2).mono fun e w' ⟨h1, h2⟩ => ⟨u, h1, rfl, h2⟩
/-- a call that alone may be done now -/
theorem mv_call {Q : Told → Act → Prop} {fuel : Nat} {listed : Array Bool} {F : Told} {a : Act} (i : Nat) {o : Oper} (f : FuncId) {xs : Array Operand} {ts : Array TypeId}
    (ho : ops[i]? = some o) (hr : Region.ready md ops listed = [i]) (hw : Region.wanted o (yielded ops a.tmps) = true)
    (hop : o.op = Op.call { callee := Callee.value (.func f), args := xs, argTypes := ts }) (eg : ∀ args w, (callFunc f args).run P w = .ok (.enter f args) w) {args : Array Value} (hargs : xs.toList.map a.eval = args.toList)
    (V : Value → Prop) (hc : ∀ g w, agree md o F g → g i = none → C g w → Calls P f args w fun e w' => ∃ v, e = .returned v ∧ V v ∧ C (upd g i v) w')
    (hK : ∀ v, V v → wpAnyM P md ops C Q fuel (listed.setIfInBounds i true) (upd F i v) (a.put o.dst v)) : wpAnyM P md ops C Q (fuel + 1) listed F a := by
  refine ⟨by rw [hr]; simp, fun j hj => ?_⟩
  rw [hr] at hj
  obtain rfl : j = i := by simpa using hj
  refine Moves.mOp (V := V) ho (.inl ⟨hw, fun g w h0 h1 h2 => ?_⟩) hK
  have hrun : (execOp a.eval o).run P w = .ok (.enter f args) w := by
    have h : xs.map a.eval = args := Array.toList_inj.1 (by simpa using hargs)
    simp [execOp, hop, resolve, Deferred.ofValue, Act.eval, invoke, eg, ← h]
  rw [hrun]
  exact hc g w h0 h1 h2
end
end Ks
/- A region that draws its order, some of whose steps turn what was there: an operation that alone may be done now; an append. Plain. No program is in sight. -/
namespace Ks
open Go Go.RowKit
set_option linter.unusedVariables false
section
variable {P : Program} {ops : Array Oper} {md : Region.Mode} {C : Told → World → Prop}
/-- an operation that alone may be done now -/
theorem mv_alone {Q : Told → Act → Prop} {fuel : Nat} {listed : Array Bool} {F : Told} {a : Act} (i : Nat) {o : Oper}
    (ho : ops[i]? = some o) (hr : Region.ready md ops listed = [i]) (hw : Region.wanted o (yielded ops a.tmps) = true) (V : Value → Prop)
    (hc : ∀ g w, agree md o F g → g i = none → C g w → ∀ D : Value → World → Prop, (∀ v w', V v → C (upd g i v) w' → D v w') → movesUpon P D ((execOp a.eval o).run P w))
    (hK : ∀ v, V v → wpAnyM P md ops C Q fuel (listed.setIfInBounds i true) (upd F i v) (a.put o.dst v)) : wpAnyM P md ops C Q (fuel + 1) listed F a := by
  refine ⟨by rw [hr]; simp, fun j hj => ?_⟩
  rw [hr] at hj
  obtain rfl : j = i := by simpa using hj
  exact Moves.mOp (V := V) ho (.inl ⟨hw, fun g w h0 h1 h2 => hc g w h0 h1 h2 _ fun v w' a b => ⟨a, b⟩⟩) hK
/-- an append that alone may be done now -/
theorem mv_append {α : Type} {E : Enc α} {Q : Told → Act → Prop} {fuel : Nat} {listed : Array Bool} {F : Told} {a : Act} (i : Nat) {o : Oper}
    (ho : ops[i]? = some o) (hr : Region.ready md ops listed = [i]) (hg : o.guard = none) (s x : Operand) (t : TypeId)
    (hop : o.op = .call { callee := .builtin .append, args := #[s, x], argTypes := #[t, t] }) {e : TypeId} {bytes : Nat} (T : ElemT P t e E.k bytes) (B : Nat)
    (v lv : Value) (L l : List α) (hs : a.eval s = v) (hx : a.eval x = lv) (b1 : L.length + l.length ≤ 140000000) (b2 : bytes ≤ 1000)
    (hrow : ∀ g w, agree md o F g → g i = none → C g w → Row E w B e v L ∧ Rd E w lv l ∧ B ≤ w.heap.size)
    (V : Value → Prop) (hV : ∀ g w v' w', agree md o F g → g i = none → C g w → Grew E w w' B e v v' (L ++ l) → V v' ∧ C (upd g i v') w')
    (hK : ∀ v', V v' → wpAnyM P md ops C Q fuel (listed.setIfInBounds i true) (upd F i v') (a.put o.dst v')) : wpAnyM P md ops C Q (fuel + 1) listed F a := by
  refine mv_alone i ho hr (by simp [Region.wanted, hg]) V (fun g w h0 h1 h2 D hD => ?_) hK
  obtain ⟨r1, r2, r3⟩ := hrow g w h0 h1 h2
  obtain ⟨v', w', hrun, r⟩ := run_append_row (P := P) (t := t) (ty := o.type) T w B v lv L l r1 r2 r3 b1 b2
  simp [execOp, hop, resolve, invoke, builtin, hs, hx, hrun, Result.andThen, movesUpon]
  exact hD _ _ (hV g w v' w' h0 h1 h2 r).1 (hV g w v' w' h0 h1 h2 r).2
end
/-- what is read, or reckoned, wherever it was not yet -/
theorem mv_readN {P : Program} {ops : Array Oper} {md : Region.Mode} {C : Told → World → Prop} {Q : Told → Act → Prop} {fuel : Nat} {listed : Array Bool} {f : Told} {a : Act} (i : Nat) {o : Oper} {S : Type} {F : S → World} (hF : ∀ f w, f i = none → C f w → ∃ s, w = F s) (hm : ∀ f w v, f i = none → C f w → C (upd f i v) w)
    (ho : ops[i]? = some o) (hs : Region.noSelect ops = true) (hfree : Region.free md ops listed i = true) (hr : (Region.ready md ops listed).contains i = true)
    (h : ∀ K : Value → Act → Prop, (∀ v a, wpAnyM P md ops C Q fuel (listed.setIfInBounds i true) (upd f i v) a → K v a) → if Region.wanted o (yielded ops a.tmps) then ∃ v, (∀ s, Oper.quietUpon P (fun w' => w' = F s) (F s) v ((execOp a.eval o).run P (F s))) ∧ K v (a.put o.dst v) else K undef (a.put o.dst undef)) :
    wpAnyM P md ops C Q (fuel + 1) listed f a := by
  have h := h (fun v a => wpAnyM P md ops C Q fuel (listed.setIfInBounds i true) (upd f i v) a) fun _ _ h => h
  have key : ∀ u, Moves P md ops C o i (fun v => v = u) f a → wpAnyM P md ops C Q fuel (listed.setIfInBounds i true) (upd f i u) (a.put o.dst u) → wpAnyM P md ops C Q (fuel + 1) listed f a := fun u h1 h2 =>
    wpAnyM_first ho (Region.noSelect_spec hs) fuel listed f a (Region.free_spec ho hfree) (by simpa using hr) h1 h2
  split at h
  · rename_i hw
    obtain ⟨v, h1, h2⟩ := h
    refine key v (.inl ⟨hw, fun g w _ hn hC => ?_⟩) h2
    obtain ⟨s, rfl⟩ := hF g w hn hC
    have h3 := h1 s
    generalize (execOp a.eval o).run P (F s) = r at *
    cases r with
    | ok n w' =>
      cases n <;> simp only [Oper.quietUpon] at h3 <;> simp only [movesUpon]
      case value u => obtain ⟨rfl, rfl⟩ := h3; exact ⟨rfl, hm _ _ _ hn hC⟩
      case skip => obtain ⟨rfl, rfl⟩ := h3; exact ⟨rfl, hm _ _ _ hn hC⟩
      case enter g args =>
        obtain ⟨rfl, h4⟩ := h3
        exact h4.mono fun e w'' ⟨he, hw''⟩ => by subst hw''; exact ⟨v, he, rfl, hm _ _ _ hn hC⟩
    | halt x w' => simp only [Oper.quietUpon] at h3
  · rename_i hw
    exact key undef (.inr ⟨by simpa using hw, rfl, fun g w _ hn hC => hm _ _ _ hn hC⟩) h
theorem moved_classN (C : Told → World → Prop) (i : Nat) : ∃ (S : Type) (F : S → World), (∀ f w, f i = none → C f w → ∃ s, w = F s) ∧ ∀ s, ∃ f, f i = none ∧ C f (F s) :=
  ⟨{ x : Told × World // x.1 i = none ∧ C x.1 x.2 }, fun s => s.1.2, fun f w h1 h => ⟨⟨(f, w), h1, h⟩, rfl⟩, fun s => ⟨s.1.1, s.2⟩⟩
theorem grown_trans {w w1 w2 : World} {r : Option Nat} (h : w.grownBy w1 r) (k : Below w1.heap.size w1 w2) : w.grownBy w2 r :=
  ⟨k.os.trans h.os, k.tape.trans h.tape, k.output.trans h.output, Nat.le_trans h.size k.size, fun j hj hr => (k.block j (Nat.lt_of_lt_of_le hj h.size)).trans (h.block j hj hr)⟩
theorem below_grown {w w1 w2 : World} {r : Option Nat} (h : Below w.heap.size w w1) (k : w1.grownBy w2 r) : w.grownBy w2 r :=
  ⟨k.os.trans h.os, k.tape.trans h.tape, k.output.trans h.output, Nat.le_trans h.size k.size, fun j hj hr => (k.block j (Nat.lt_of_lt_of_le hj h.size) hr).trans (h.block j hj)⟩
theorem grown_of {w w1 : World} (h : Below w.heap.size w w1) (r : Option Nat) : w.grownBy w1 r := below_grown h (World.grownBy.refl w1 r)
/-- a class of worlds behind one, where an own row grows: s is what is appended, u the row that it becomes -/
def Appends {α : Type} (E : Enc α) (B : Nat) (w0 : World) (T : TypeId) (v : Value) (L l : List α) (s u : Option Value) (w : World) : Prop :=
  match u with
  | none => Below w0.heap.size w0 w ∧ Row E w B T v L ∧ ∀ x, s = some x → Rd E w x l
  | some u => w0.grownBy w v.ownBlock ∧ (u.ownBlock = v.ownBlock ∨ ∀ b, u.ownBlock = some b → w0.heap.size ≤ b) ∧ Row E w B T u (L ++ l)
section
variable {α : Type} {E : Enc α} {B : Nat} {w0 w w' : World} {T : TypeId} {v : Value} {L l : List α} {s u : Option Value}
theorem Appends.start (h : Row E w0 B T v L) (hb : Below w0.heap.size w0 w) : Appends E B w0 T v L l none none w := ⟨hb, h.below hb, fun x hx => by cases hx⟩
theorem Appends.on (h : Appends E B w0 T v L l s u w) (hb : Below w.heap.size w w') : Appends E B w0 T v L l s u w' := by
  cases u with
  | none => exact ⟨h.1.trans (hb.mono h.1.size), h.2.1.below hb, fun x hx => (h.2.2 x hx).below hb⟩
  | some u => exact ⟨grown_trans h.1 hb, h.2.1, h.2.2.below hb⟩
theorem Appends.size (h : Appends E B w0 T v L l s u w) : w0.heap.size ≤ w.heap.size := by
  cases u with
  | none => exact h.1.size
  | some u => exact h.1.size
theorem Appends.grown (h : Appends E B w0 T v L l s u w) : w0.grownBy w v.ownBlock := by
  cases u with
  | none => exact grown_of h.1 _
  | some u => exact h.1
theorem Appends.cell {a : Addr} {x : Value} (h : Appends E B w0 T v L l s u w) (hc : w0.cell? a = some x) (hne : v.ownBlock ≠ some a.block) : w.cell? a = some x :=
  h.grown.cell hc fun e => hne e.symm
theorem Appends.block {b : Nat} {o : Obj} (h : Appends E B w0 T v L l s u w) (hc : w0.heap[b]? = some o) (hne : v.ownBlock ≠ some b) : w.heap[b]? = some o :=
  (h.grown.block b (lt_of_block hc) fun e => hne e.symm).trans hc
/-- what is appended, in a new block -/
theorem Appends.made (h : Appends E B w0 T v L l s u w) (cs : Array Value) (e : cs.toList = E.cs l) (fr : Nat × Nat := (0, 0)) : Appends E B w0 T v L l (some (.slice (some ⟨w.heap.size, 0, none⟩) l.length l.length)) u (w.alloc (.cells cs T fr)) := by
  have hb := alloc_below w (.cells cs T fr)
  cases u with
  | none => exact ⟨h.1.trans (hb.mono h.1.size), h.2.1.below hb, fun x hx => by cases hx; exact Rd.block (alloc_new w _) e⟩
  | some u => exact ⟨grown_trans h.1 hb, h.2.1, h.2.2.below hb⟩
theorem Appends.grew {v' : Value} (h : Appends E B w0 T v L l s none w) (hG : Grew E w w' B T v v' (L ++ l)) : Appends E B w0 T v L l s (some v') w' :=
  ⟨below_grown h.1 hG.2.1, hG.2.2.1.imp id fun hh b e => Nat.le_trans h.1.size (hh b e), hG.1⟩
theorem Appends.rows {lv : Value} (h : Appends E B w0 T v L l (some lv) none w) (hB : B ≤ w0.heap.size) : Row E w B T v L ∧ Rd E w lv l ∧ B ≤ w.heap.size := ⟨h.2.1, h.2.2 lv rfl, Nat.le_trans hB h.1.size⟩
end
/-- the same, where the row lies in a box: a: what was read of it, z: that it was stored -/
def AppStore {α : Type} (E : Enc α) (B : Nat) (w0 : World) (T : TypeId) (v : Value) (L l : List α) (bo : Nat) (a s u z : Option Value) (w : World) : Prop :=
  match z with
  | none => Appends E B w0 T v L l s u w ∧ (u ≠ none → a ≠ none ∧ s ≠ none)
  | some _ => (a ≠ none ∧ s ≠ none) ∧ ∃ u' w1, u = some u' ∧ Appends E B w0 T v L l s (some u') w1 ∧ w = w1.setCell ⟨bo, 0, none⟩ u'
section
variable {α : Type} {E : Enc α} {B bo : Nat} {w0 w w' : World} {T : TypeId} {v : Value} {L l : List α} {a s u z : Option Value}
theorem AppStore.start (h : Row E w0 B T v L) (hb : Below w0.heap.size w0 w) : AppStore E B w0 T v L l bo none none none none w := ⟨Appends.start h hb, fun h => absurd rfl h⟩
theorem AppStore.read (x : Value) (h : AppStore E B w0 T v L l bo a s u z w) : AppStore E B w0 T v L l bo (some x) s u z w := by
  cases z with
  | none => exact ⟨h.1, fun hu => ⟨(fun e => by cases e), (h.2 hu).2⟩⟩
  | some z => exact ⟨⟨(fun e => by cases e), h.1.2⟩, h.2⟩
/-- what was there stands, but for the row and its box -/
theorem AppStore.cell {ad : Addr} {x : Value} (h : AppStore E B w0 T v L l bo a s u z w) (hc : w0.cell? ad = some x) (hne : v.ownBlock ≠ some ad.block) (hbo : ad.block ≠ bo) : w.cell? ad = some x := by
  cases z with
  | none => exact h.1.cell hc hne
  | some z =>
    obtain ⟨_, u', w1, _, h1, rfl⟩ := h
    have hfar : (w1.setCell ⟨bo, 0, none⟩ u').cell? ad = w1.cell? ad := World.cell?_of_block (Below.heap_setCell _ _ _ _ hbo)
    rw [hfar]
    exact h1.cell hc hne
/-- the box, ahead of its reading -/
theorem AppStore.box {x : Value} (h : AppStore E B w0 T v L l bo none s u z w) (hc : w0.cell? ⟨bo, 0, none⟩ = some x) (hne : v.ownBlock ≠ some bo) : w.cell? ⟨bo, 0, none⟩ = some x := by
  cases z with
  | none => exact h.1.cell hc hne
  | some z => exact absurd rfl h.1.1
theorem AppStore.unread (h : AppStore E B w0 T v L l bo a s u none w) : Appends E B w0 T v L l s u w := h.1
theorem AppStore.early (h : AppStore E B w0 T v L l bo a none u z w) : u = none ∧ z = none := by
  cases z with
  | none =>
    cases u with
    | none => exact ⟨rfl, rfl⟩
    | some u => exact absurd rfl (h.2 (fun e => by cases e)).2
  | some z => exact absurd rfl h.1.2
theorem AppStore.mid (h : AppStore E B w0 T v L l bo a s none z w) : z = none := by
  cases z with
  | none => rfl
  | some z => obtain ⟨_, u', w1, e, _⟩ := h; cases e
theorem AppStore.made (h : AppStore E B w0 T v L l bo a none u z w) (cs : Array Value) (e : cs.toList = E.cs l) (fr : Nat × Nat := (0, 0)) : AppStore E B w0 T v L l bo a (some (.slice (some ⟨w.heap.size, 0, none⟩) l.length l.length)) u z (w.alloc (.cells cs T fr)) := by
  obtain ⟨rfl, rfl⟩ := h.early
  exact ⟨h.1.made cs e fr, fun h => absurd rfl h⟩
theorem AppStore.rows {lv : Value} (h : AppStore E B w0 T v L l bo a (some lv) none z w) (hB : B ≤ w0.heap.size) : Row E w B T v L ∧ Rd E w lv l ∧ B ≤ w.heap.size := by
  obtain rfl := h.mid
  exact h.1.rows hB
theorem AppStore.grew {v' : Value} {x y : Value} (h : AppStore E B w0 T v L l bo (some x) (some y) none z w) (hG : Grew E w w' B T v v' (L ++ l)) : AppStore E B w0 T v L l bo (some x) (some y) (some v') z w' := by
  obtain rfl := h.mid
  exact ⟨h.1.grew hG, fun _ => ⟨(fun e => by cases e), (fun e => by cases e)⟩⟩
theorem AppStore.stored {v' y : Value} (h : AppStore E B w0 T v L l bo a s (some v') none w) : AppStore E B w0 T v L l bo a s (some v') (some y) (w.setCell ⟨bo, 0, none⟩ v') :=
  ⟨h.2 (fun e => by cases e), v', w, rfl, h.1, rfl⟩
theorem AppStore.done {u' y : Value} (h : AppStore E B w0 T v L l bo a s (some u') (some y) w) : ∃ w1, w0.grownBy w1 v.ownBlock ∧ Row E w1 B T u' (L ++ l) ∧ w = w1.setCell ⟨bo, 0, none⟩ u' := by
  obtain ⟨_, u2, w1, e, h1, rfl⟩ := h
  cases e
  exact ⟨w1, h1.1, h1.2.2, rfl⟩
theorem Appends.frozen {ad : Addr} {x : Value} (h : Appends E B w0 T v L l s u w) (hc : w0.cell? ad = some x) (hf : w0.frozen? ad = false) (hne : v.ownBlock ≠ some ad.block) : w.frozen? ad = false := by
  rw [World.frozen?_of_block (h.grown.block ad.block (World.block_lt_of_cell? _ _ hc) fun e => hne e.symm)]
  exact hf
end
end Ks
/- A drawn region walked by its class: a struct's store onto a block known whole; a struct and another value returned. Plain. No program is in sight. -/
namespace Ks
open Go Go.RowKit
set_option linter.unusedVariables false
section
variable {P : Program} {ops : Array Oper} {md : Region.Mode} {C : Told → World → Prop}
theorem mv_store_blk {Q : Told → Act → Prop} {fuel : Nat} {listed : Array Bool} {F : Told} {a : Act} (i : Nat) {o : Oper}
    (ho : ops[i]? = some o) (hr : Region.ready md ops listed = [i]) (hg : o.guard = none) (ty : TypeId) (x y : Operand) (hop : o.op = .store ty x y) (b off : Nat) (D : Array Value)
    (hx : a.eval x = .pointer (some ⟨b, off, none⟩)) (hy : a.eval y = .agg D) (hi : (P.info? ty).map (·.size) = some D.size) (h1 : D.all (·.oneCell') = true)
    (hc : ∀ g w, agree md o F g → g i = none → C g w → ∃ E t, w.heap[b]? = some (.cells E t (0, 0)) ∧ off + D.size ≤ E.size ∧ C (upd g i undef) (w.setRow b (splice E off D)))
    (hK : wpAnyM P md ops C Q fuel (listed.setIfInBounds i true) (upd F i undef) (a.put o.dst undef)) : wpAnyM P md ops C Q (fuel + 1) listed F a := by
  refine mv_alone i ho hr (by simp [Region.wanted, hg]) (fun v => v = undef) (fun g w h0 h2 h3 D' hD => ?_) (fun v e => e ▸ hK)
  obtain ⟨E, t, hb, hfit, hC⟩ := hc g w h0 h2 h3
  have hth : w.there b off D.size := fun j hj => ⟨by rw [cell_of_row w b (off + j) E t (0, 0) hb, Array.getElem?_eq_getElem (by omega)]; rfl, frozen_of_row w b _ _ _ hb⟩
  have hrun := run_storeAt_mid (P := P) w b off ty D hth hi h1
  rw [setCells_row b t D.toList off w E hb (by simp; omega), Array.toArray_toList] at hrun
  simp [execOp, hop, hx, hy, hrun, Result.andThen, movesUpon]
  exact hD _ _ rfl hC
end
/-- worlds where a struct is returned: the result's block has what it had, or what was stored -/
structure RetCls (B : Nat) (w0 : World) (bx : Nat) (ox : Obj) (bo : Nat) (oo : Obj) (bz : Nat) (C E : Array Value) (t : TypeId) (r : Option Value) (w : World) : Prop where
  b : Below B w0 w
  x : w.heap[bx]? = some ox
  o : w.heap[bo]? = some oo
  z : w.heap[bz]? = some (.cells (match r with | none => C | some _ => E) t (0, 0))
section
variable {B : Nat} {w0 w : World} {bx bo bz : Nat} {ox oo : Obj} {C E : Array Value} {t : TypeId}
theorem RetCls.start (hb : Below B w0 w) (hB : B ≤ w.heap.size) (hx : w.heap[bx]? = some ox) (ho : w.heap[bo]? = some oo) (hz : w.heap[bz]? = some (.cells C t (0, 0))) : RetCls B w0 bx ox bo oo bz C E t none w.drew :=
  ⟨hb.trans ((drew_below w).mono hB), ((drew_below w).block _ (lt_of_block hx)).trans hx, ((drew_below w).block _ (lt_of_block ho)).trans ho, ((drew_below w).block _ (lt_of_block hz)).trans hz⟩
theorem RetCls.stored (h : RetCls B w0 bx ox bo oo bz C E t none w) (h1 : bx ≠ bz) (h2 : bo ≠ bz) (h3 : B ≤ bz) : RetCls B w0 bx ox bo oo bz C E t (some undef) (w.setRow bz E) :=
  ⟨below_setRow h.b h3 _, (setRow_other _ _ _ _ h1).trans h.x, (setRow_other _ _ _ _ h2).trans h.o, setRow_heap w _ _ _ _ _ h.z⟩
end
end Ks
