/- Texts that the claim rests on, part 3: MapList, SegPlain, StrE, Act17, SegLaw, FrontPlain, FrontObj, SegObj, ShaLow, ShaText, ShaWords, ShaConst. -/
import Derived.Maps.OwnSet
import Derived.Maps.RangeWalk
import Derived.Test.YtdbabkkmdlkjaaaProg
import Derived.Deep.DeepCutAuto
import Derived.StillTailTactics
import Derived.Test.YtdbabkkmdlkjaaaM2
/- A map in a block as the list of its entries: what is looked up, put, struck, counted, gone through. Plain. No program is in sight. -/
namespace Ks
open Go Go.RowKit Go.ChangeMaps Go.MapKept Go.Maps
set_option linter.unusedVariables false
set_option linter.unusedSectionVars false
section plain
variable {κ α : Type} [DecidableEq κ]
def look : List (κ × α) → κ → Option α
  | [], _ => none
  | p :: m, x => if p.1 = x then some p.2 else look m x
def putM : List (κ × α) → κ → α → List (κ × α)
  | [], x, v => [(x, v)]
  | p :: m, x, v => if p.1 = x then (x, v) :: m else p :: putM m x v
def delM : List (κ × α) → κ → List (κ × α)
  | [], _ => []
  | p :: m, x => if p.1 = x then m else p :: delM m x
/-- no key stands twice -/
def Once (m : List (κ × α)) : Prop := m.Pairwise fun p q => p.1 ≠ q.1
theorem look_none {m : List (κ × α)} {x : κ} : look m x = none ↔ ∀ p ∈ m, p.1 ≠ x := by
  induction m with
  | nil => simp [look]
  | cons p m ih =>
    rw [look]
    split
    · rename_i h; simp [h]
    · rename_i h; rw [ih]; simp [h]
theorem look_mem {m : List (κ × α)} {x : κ} {v : α} (h : look m x = some v) : (x, v) ∈ m := by
  induction m with
  | nil => cases h
  | cons p m ih =>
    rw [look] at h
    split at h
    · rename_i e; cases h; subst e; simp
    · exact List.mem_cons_of_mem _ (ih h)
theorem look_of_mem {m : List (κ × α)} (ho : Once m) {p : κ × α} (h : p ∈ m) : look m p.1 = some p.2 := by
  induction m with
  | nil => cases h
  | cons q m ih =>
    obtain ⟨h1, h2⟩ := List.pairwise_cons.1 ho
    rw [look]
    rcases List.mem_cons.1 h with rfl | h
    · rw [if_pos rfl]
    · rw [if_neg (h1 p h)]; exact ih h2 h
theorem look_at {m : List (κ × α)} (ho : Once m) {j : Nat} {p : κ × α} (h : m[j]? = some p) : look m p.1 = some p.2 := look_of_mem ho (List.mem_of_getElem? h)
theorem put_none {m : List (κ × α)} {x : κ} (v : α) (h : ∀ p ∈ m, p.1 ≠ x) : putM m x v = m ++ [(x, v)] := by
  induction m with
  | nil => rfl
  | cons p m ih =>
    rw [putM, if_neg (h p (by simp)), ih fun q hq => h q (by simp [hq])]; rfl
theorem put_at {m : List (κ × α)} (ho : Once m) {j : Nat} {p : κ × α} (v : α) (h : m[j]? = some p) : putM m p.1 v = m.set j (p.1, v) := by
  induction m generalizing j with
  | nil => simp at h
  | cons q m ih =>
    obtain ⟨h1, h2⟩ := List.pairwise_cons.1 ho
    rw [putM]
    cases j with
    | zero => simp at h; subst h; simp
    | succ j =>
      have hm : m[j]? = some p := by simpa using h
      rw [if_neg (h1 p (List.mem_of_getElem? hm)), ih h2 hm]; rfl
theorem del_none {m : List (κ × α)} {x : κ} (h : ∀ p ∈ m, p.1 ≠ x) : delM m x = m := by
  induction m with
  | nil => rfl
  | cons p m ih => rw [delM, if_neg (h p (by simp)), ih fun q hq => h q (by simp [hq])]
theorem del_at {m : List (κ × α)} (ho : Once m) {j : Nat} {p : κ × α} (h : m[j]? = some p) : delM m p.1 = m.eraseIdx j := by
  induction m generalizing j with
  | nil => simp at h
  | cons q m ih =>
    obtain ⟨h1, h2⟩ := List.pairwise_cons.1 ho
    rw [delM]
    cases j with
    | zero => simp at h; subst h; simp
    | succ j =>
      have hm : m[j]? = some p := by simpa using h
      rw [if_neg (h1 p (List.mem_of_getElem? hm)), ih h2 hm]; rfl
theorem mem_put {m : List (κ × α)} {x : κ} {v : α} {p : κ × α} (h : p ∈ putM m x v) : p = (x, v) ∨ p ∈ m := by
  induction m with
  | nil => simp [putM] at h; exact Or.inl h
  | cons q m ih =>
    rw [putM] at h
    split at h
    · rcases List.mem_cons.1 h with h | h
      · exact Or.inl h
      · exact Or.inr (List.mem_cons_of_mem _ h)
    · rcases List.mem_cons.1 h with rfl | h
      · exact Or.inr (by simp)
      · rcases ih h with h | h
        · exact Or.inl h
        · exact Or.inr (List.mem_cons_of_mem _ h)
theorem mem_del {m : List (κ × α)} {x : κ} {p : κ × α} (h : p ∈ delM m x) : p ∈ m := by
  induction m with
  | nil => cases h
  | cons q m ih =>
    rw [delM] at h
    split at h
    · exact List.mem_cons_of_mem _ h
    · rcases List.mem_cons.1 h with rfl | h
      · simp
      · exact List.mem_cons_of_mem _ (ih h)
theorem once_put {m : List (κ × α)} (ho : Once m) (x : κ) (v : α) : Once (putM m x v) := by
  induction m with
  | nil => simp [putM, Once]
  | cons q m ih =>
    obtain ⟨h1, h2⟩ := List.pairwise_cons.1 ho
    rw [putM]
    split
    · rename_i e
      subst e
      exact List.pairwise_cons.2 ⟨h1, h2⟩
    · rename_i e
      refine List.pairwise_cons.2 ⟨fun p hp => ?_, ih h2⟩
      rcases mem_put hp with rfl | hp
      · exact e
      · exact h1 p hp
theorem once_del {m : List (κ × α)} (ho : Once m) (x : κ) : Once (delM m x) := by
  induction m with
  | nil => exact ho
  | cons q m ih =>
    obtain ⟨h1, h2⟩ := List.pairwise_cons.1 ho
    rw [delM]
    split
    · exact h2
    · exact List.pairwise_cons.2 ⟨fun p hp => h1 p (mem_del hp), ih h2⟩
theorem look_put (m : List (κ × α)) (x : κ) (v : α) (y : κ) : look (putM m x v) y = if x = y then some v else look m y := by
  induction m with
  | nil => simp [putM, look]
  | cons q m ih =>
    rw [putM]
    split
    · rename_i e
      subst e
      rw [look, look]
      by_cases h : q.1 = y <;> simp [h]
    · rename_i e
      rw [look, look, ih]
      by_cases h : q.1 = y
      · have : ¬ x = y := fun e2 => e (by rw [h, e2])
        simp [h, this]
      · simp [h]
theorem look_del {m : List (κ × α)} (ho : Once m) (x y : κ) : look (delM m x) y = if x = y then none else look m y := by
  induction m with
  | nil => simp [delM, look]
  | cons q m ih =>
    obtain ⟨h1, h2⟩ := List.pairwise_cons.1 ho
    rw [delM]
    split
    · rename_i e
      subst e
      rw [look]
      by_cases h : q.1 = y
      · subst h
        rw [if_pos rfl]
        exact look_none.2 fun p hp => (h1 p hp).symm
      · rw [if_neg h, if_neg h]
    · rename_i e
      rw [look, look, ih h2]
      by_cases h : q.1 = y
      · have : ¬ x = y := fun e2 => e (by rw [h, e2])
        simp [h, this]
      · simp [h]
theorem length_put (m : List (κ × α)) (x : κ) (v : α) : (putM m x v).length = m.length + if look m x = none then 1 else 0 := by
  induction m with
  | nil => simp [putM, look]
  | cons q m ih =>
    rw [putM, look]
    split
    · simp
    · rw [List.length_cons, ih, List.length_cons]; omega
theorem length_put_le (m : List (κ × α)) (x : κ) (v : α) : (putM m x v).length ≤ m.length + 1 := by
  rw [length_put]; split <;> omega
end plain
section map
variable {κ α : Type} [DecidableEq κ]
/-- how keys and elements stand in a map -/
structure KV (P : Program) (k : TypeId) (κ α : Type) where
  key : κ → Value
  val : α → Value
  inj : ∀ {a b : κ}, key a = key b → a = b
variable {P : Program} {k : TypeId} {K : KV P k κ α} {w : World} {b : Nat} {m : List (κ × α)}
def KV.ok (K : KV P k κ α) (x : κ) : Prop := ∃ l, keyOf P k (K.key x) = some l
/-- block b is a map with these entries -/
def MapAt (K : KV P k κ α) (w : World) (b : Nat) (m : List (κ × α)) : Prop :=
  ∃ es clock, w.heap[b]? = some (.map es clock) ∧ Stamped es clock ∧ es.toList.map (fun e => (e.key, e.val)) = m.map (fun p => (K.key p.1, K.val p.2)) ∧ ∀ p ∈ m, K.ok p.1
theorem MapAt.lt (h : MapAt K w b m) : b < w.heap.size := by
  obtain ⟨es, clock, hb, _⟩ := h
  exact (Array.getElem?_eq_some_iff.1 hb).1
theorem MapAt.keep {w' : World} (h : MapAt K w b m) (e : w'.heap[b]? = w.heap[b]?) : MapAt K w' b m := by
  obtain ⟨es, clock, hb, r⟩ := h
  exact ⟨es, clock, e.trans hb, r⟩
theorem MapAt.below {w' : World} (h : MapAt K w b m) (hb : Below w.heap.size w w') : MapAt K w' b m := h.keep (hb.block b h.lt)
theorem MapAt.turn {w' : World} {F F' : Nat → Prop} (h : MapAt K w b m) (hT : Turn w w' F F') (hF : ¬ F b) : MapAt K w' b m := h.keep (hT.block b h.lt hF)
theorem MapAt.made (K : KV P k κ α) (w : World) : MapAt K (w.alloc (.map #[] 0)) w.heap.size [] :=
  ⟨#[], 0, alloc_new w _, stamped_empty 0, rfl, by simp⟩
theorem MapAt.of_blk (h : w.heap[b]? = some (.map #[] 0)) : MapAt K w b [] := ⟨#[], 0, h, stamped_empty 0, rfl, by simp⟩
theorem map_nth {es : List MapEntry} (h : es.map (fun e => (e.key, e.val)) = m.map (fun p => (K.key p.1, K.val p.2))) (j : Nat) {e : MapEntry} (he : es[j]? = some e) : ∃ p, m[j]? = some p ∧ e.key = K.key p.1 ∧ e.val = K.val p.2 := by
  have := congrArg (·[j]?) h
  simp only [List.getElem?_map, he, Option.map_some] at this
  cases hm : m[j]? with
  | none => rw [hm] at this; cases this
  | some p =>
    rw [hm] at this
    simp only [Option.map_some, Option.some.injEq, Prod.mk.injEq] at this
    exact ⟨p, rfl, this.1, this.2⟩
theorem map_nth' {es : List MapEntry} (h : es.map (fun e => (e.key, e.val)) = m.map (fun p => (K.key p.1, K.val p.2))) (j : Nat) {p : κ × α} (hp : m[j]? = some p) : ∃ e, es[j]? = some e ∧ e.key = K.key p.1 ∧ e.val = K.val p.2 := by
  have := congrArg (·[j]?) h
  simp only [List.getElem?_map, hp, Option.map_some] at this
  cases hm : es[j]? with
  | none => rw [hm] at this; cases this
  | some e =>
    rw [hm] at this
    simp only [Option.map_some, Option.some.injEq, Prod.mk.injEq] at this
    exact ⟨e, rfl, this.1, this.2⟩
theorem MapAt.once (h : MapAt K w b m) : Once m := by
  obtain ⟨es, clock, hb, hs, he, -⟩ := h
  have hn := ((stamped_iff es clock).1 hs).2.2
  rw [Once, List.pairwise_iff_getElem]
  intro i j hi hj hij e
  obtain ⟨x, hx, kx, -⟩ := map_nth' he i (List.getElem?_eq_getElem hi)
  obtain ⟨y, hy, ky, -⟩ := map_nth' he j (List.getElem?_eq_getElem hj)
  rw [List.pairwise_iff_getElem] at hn
  obtain ⟨hi', rfl⟩ := List.getElem?_eq_some_iff.1 hx
  obtain ⟨hj', rfl⟩ := List.getElem?_eq_some_iff.1 hy
  exact hn i j hi' hj' hij (by rw [kx, ky, e])
theorem MapAt.len (h : MapAt K w b m) {t e : TypeId} (ht : P.underlying t = some (.map k e)) (ty : TypeId) : (Builtin.len_ #[t] ty #[.map (some b)]).run P w = .ok (.int .i64 m.length) w := by
  obtain ⟨es, clock, hb, hs, he, -⟩ := h
  have e1 : m.length = es.size := by
    have := congrArg List.length he
    simpa using this.symm
  rw [e1]
  simp [Builtin.len_, run_underlying ht, run_getObj_map hb, goInt, Result.andThen]
/-- what a look-up yields -/
def lookV (val : α → Value) (z : Value) (c : Bool) : Option α → Value
  | none => if c then .tuple #[z, .bool false] else z
  | some v => if c then .tuple #[val v, .bool true] else val v
/-- where a key stands among the entries -/
theorem MapAt.find (h : MapAt K w b m) (KL : Keyed P k) {x : κ} (hx : K.ok x) :
    ∃ es clock, w.heap[b]? = some (.map es clock) ∧ Stamped es clock ∧ es.toList.map (fun e => (e.key, e.val)) = m.map (fun p => (K.key p.1, K.val p.2)) ∧ (∀ p ∈ m, K.ok p.1) ∧
      (((Instr.findKey k (K.key x) es.toList).run P w = .ok none w ∧ (∀ p ∈ m, p.1 ≠ x) ∧ ∀ e ∈ es.toList, e.key ≠ K.key x) ∨
       ∃ j e v, (Instr.findKey k (K.key x) es.toList).run P w = .ok (some (j, K.val v)) w ∧ es.toList[j]? = some e ∧ e.key = K.key x ∧ e.val = K.val v ∧ m[j]? = some (x, v)) := by
  obtain ⟨es, clock, hb, hs, he, hk⟩ := h
  obtain ⟨l, hl⟩ := hx
  have hkeys : ∀ e ∈ es.toList, ∃ l, keyOf P k e.key = some l := fun e hm => by
    obtain ⟨j, hj⟩ := List.mem_iff_getElem?.1 hm
    obtain ⟨p, hp, kp, -⟩ := map_nth he j hj
    obtain ⟨l, hl⟩ := hk p (List.mem_of_getElem? hp)
    exact ⟨l, kp ▸ hl⟩
  refine ⟨es, clock, hb, hs, he, hk, ?_⟩
  rcases KL.find w hl es.toList hkeys with ⟨h1, h2⟩ | ⟨j, e, h1, h2, h3⟩
  · refine Or.inl ⟨h1, fun p hp e => ?_, h2⟩
    obtain ⟨j, hj⟩ := List.mem_iff_getElem?.1 hp
    obtain ⟨y, hy, ky, -⟩ := map_nth' he j hj
    exact h2 y (List.mem_of_getElem? hy) (by rw [ky, e])
  · obtain ⟨p, hp, kp, vp⟩ := map_nth he j h2
    have : p.1 = x := K.inj (kp.symm.trans h3)
    refine Or.inr ⟨j, e, p.2, by rw [← vp]; exact h1, h2, h3, vp, by rw [hp, ← this]⟩
theorem MapAt.look (h : MapAt K w b m) (KL : Keyed P k) {t e : TypeId} (ht : P.underlying t = some (.map k e)) {z : Value} (hz : (zeroValue e).run P w = .ok z w) {x : κ} (hx : K.ok x) (c : Bool) :
    (Instr.lookup t (.map (some b)) (K.key x) c).run P w = .ok (lookV K.val z c (Ks.look m x)) w := by
  have ho := h.once
  obtain ⟨es, clock, hb, hs, he, hk, hf⟩ := h.find KL hx
  obtain ⟨l, hl⟩ := hx
  rcases hf with ⟨h1, h2, -⟩ | ⟨j, e0, v, h1, h2, h3, h4, h5⟩
  · rw [look_none.2 h2]
    simp [Instr.lookup, run_underlying ht, run_getObj_map hb, KL.check w _ hl, h1, hz, Result.andThen, lookV]
  · rw [show Ks.look m x = some v from look_at ho h5]
    simp [Instr.lookup, run_underlying ht, run_getObj_map hb, KL.check w _ hl, h1, Result.andThen, lookV]
theorem MapAt.put (h : MapAt K w b m) (KL : Keyed P k) {t e : TypeId} (ht : P.underlying t = some (.map k e)) {x : κ} (hx : K.ok x) (v : α) :
    ∃ w', (Instr.mapUpdate t (.map (some b)) (K.key x) (K.val v)).run P w = .ok () w' ∧ MapAt K w' b (putM m x v) ∧ Turn w w' (fun k => k = b) (fun k => k = b) := by
  have ho := h.once
  obtain ⟨es, clock, hb, hs, he, hk, hf⟩ := h.find KL hx
  have hx0 := hx
  obtain ⟨l, hl⟩ := hx
  have hT : ∀ o, Turn w (setBlock w b o) (fun k => k = b) (fun k => k = b) := fun o => ⟨rfl, rfl, rfl, by simp [setBlock], fun k _ hk => heap_setBlock_other hb o hk, fun k hk => Or.inl hk⟩
  have hok : ∀ p ∈ putM m x v, K.ok p.1 := fun p hp => by
    rcases mem_put hp with rfl | hp
    · exact hx0
    · exact hk p hp
  rcases hf with ⟨h1, h2, h3⟩ | ⟨j, e0, v0, h1, h2, h3, h4, h5⟩
  · refine ⟨setBlock w b (.map (es.push ⟨K.key x, K.val v, clock⟩) (clock + 1)), ?_, ⟨_, _, heap_setBlock_same hb _, stamped_push hs h3, ?_, hok⟩, hT _⟩
    · simp [Instr.mapUpdate, run_underlying ht, run_getObj_map hb, KL.check w false hl, h1, run_setObj_map _ hb, Result.andThen, setBlock]
    · rw [put_none v h2, Array.toList_push, List.map_append, he, List.map_append]; rfl
  · have hj : es[j]? = some e0 := by simpa using h2
    refine ⟨setBlock w b (.map (es.modify j (fun e' => { e' with key := K.key x, val := K.val v })) clock), ?_, ⟨_, _, heap_setBlock_same hb _, stamped_modify hs _ _ (fun _ _ => rfl) (fun e' _ he' => ?_), ?_, hok⟩, hT _⟩
    · simp [Instr.mapUpdate, run_underlying ht, run_getObj_map hb, KL.check w false hl, h1, hj, h3, KL.stays w hl, run_setObj_map _ hb, Result.andThen, setBlock]
    · rw [hj] at he'; cases he'; exact h3.symm
    · rw [show putM m x v = m.set j (x, v) from put_at ho v h5, Array.toList_modify, modify_eq_set _ _ _ _ h2, List.map_set, he, List.map_set]
theorem MapAt.del (h : MapAt K w b m) (KL : Keyed P k) {t e : TypeId} (ht : P.underlying t = some (.map k e)) {x : κ} (hx : K.ok x) (ty : TypeId) :
    ∃ w', (Builtin.delete_ #[t, k] ty #[.map (some b), K.key x]).run P w = .ok (.tuple #[]) w' ∧ MapAt K w' b (delM m x) ∧ Turn w w' (fun k => k = b) (fun k => k = b) := by
  have ho := h.once
  obtain ⟨es, clock, hb, hs, he, hk, hf⟩ := h.find KL hx
  obtain ⟨l, hl⟩ := hx
  have hT : ∀ o, Turn w (setBlock w b o) (fun k => k = b) (fun k => k = b) := fun o => ⟨rfl, rfl, rfl, by simp [setBlock], fun k _ hk => heap_setBlock_other hb o hk, fun k hk => Or.inl hk⟩
  have hok : ∀ p ∈ delM m x, K.ok p.1 := fun p hp => hk p (mem_del hp)
  rcases hf with ⟨h1, h2, h3⟩ | ⟨j, e0, v0, h1, h2, h3, h4, h5⟩
  · refine ⟨setBlock w b (.map es clock), ?_, ⟨_, _, heap_setBlock_same hb _, hs, ?_, hok⟩, hT _⟩
    · simp [Builtin.delete_, run_underlying ht, run_getObj_map hb, KL.check w _ hl, h1, run_setObj_map _ hb, Result.andThen, setBlock]
    · rw [del_none h2]; exact he
  · have hjl : j < es.toList.length := (List.getElem?_eq_some_iff.1 h2).1
    have hjs : j < es.size := by simpa using hjl
    have hsub : (es.eraseIdxIfInBounds j).toList = es.toList.eraseIdx j := by
      unfold Array.eraseIdxIfInBounds
      rw [dif_pos hjs]
      simp
    refine ⟨setBlock w b (.map (es.eraseIdxIfInBounds j) clock), ?_, ⟨_, _, heap_setBlock_same hb _, stamped_erase hs j, ?_, hok⟩, hT _⟩
    · simp [Builtin.delete_, run_underlying ht, run_getObj_map hb, KL.check w _ hl, h1, run_setObj_map _ hb, Result.andThen, setBlock]
    · rw [show delM m x = m.eraseIdx j from del_at ho h5, hsub, ChangeMaps.map_eraseIdx, he, ChangeMaps.map_eraseIdx]
end map
/-! ### at the operation -/
section walk
variable {κ α : Type} [DecidableEq κ] {P : Program} {k : TypeId} {K : KV P k κ α} (w : World) {ops : Array Oper} {rest : List Oper} {o : Oper} {a : Act} {Q : Exit → Act → World → Prop} {b : Nat} {m : List (κ × α)}
theorem wpList_look (hg : o.guard = none) (mm x : Operand) (t : TypeId) (c : Bool) (hop : o.op = Op.lookup t mm x c) (e : TypeId) (KL : Keyed P k) (ht : P.underlying t = some (.map k e)) {z : Value} (hz : (zeroValue e).run P w = .ok z w)
    (h : MapAt K w b m) (hm : a.eval mm = .map (some b)) (y : κ) (hx : a.eval x = K.key y) (hy : K.ok y) (V : Value) (hV : lookV K.val z c (look m y) = V)
    (hK : wpList P ops Q rest (a.put o.dst V) w) : wpList P ops Q (o :: rest) a w := by
  refine wpList_plain hg fun K' hK' => ?_
  have hrun := h.look KL ht hz hy c
  rw [hV] at hrun
  unfold Oper.wp
  simp [execOp, hop, hm, hx, hrun, Result.andThen]
  exact hK' _ _ hK
theorem wpList_put (hg : o.guard = none) (mm x v : Operand) (t : TypeId) (hop : o.op = Op.mapUpdate t mm x v) (e : TypeId) (KL : Keyed P k) (ht : P.underlying t = some (.map k e))
    (h : MapAt K w b m) (hm : a.eval mm = .map (some b)) (y : κ) (u : α) (hx : a.eval x = K.key y) (hv : a.eval v = K.val u) (hy : K.ok y)
    (hK : ∀ w', MapAt K w' b (putM m y u) → Turn w w' (fun k => k = b) (fun k => k = b) → wpList P ops Q rest (a.put o.dst undef) w') : wpList P ops Q (o :: rest) a w := by
  refine wpList_plain hg fun K' hK' => ?_
  obtain ⟨w', hrun, r1, r2⟩ := h.put KL ht hy u
  unfold Oper.wp
  simp [execOp, hop, hm, hx, hv, hrun, Result.andThen]
  exact hK' _ _ (hK w' r1 r2)
theorem wpList_mlen (hg : o.guard = none) (mm : Operand) (t : TypeId) (hop : o.op = Op.call { callee := Callee.builtin Builtin.len, args := #[mm], argTypes := #[t] }) (e : TypeId) (ht : P.underlying t = some (.map k e))
    (h : MapAt K w b m) (hm : a.eval mm = .map (some b)) (hK : wpList P ops Q rest (a.put o.dst (.int .i64 m.length)) w) : wpList P ops Q (o :: rest) a w := by
  refine wpList_plain hg fun K' hK' => ?_
  have hrun := h.len ht o.type
  unfold Oper.wp
  simp [execOp, hop, resolve, invoke, builtin, hm, hrun, Result.andThen]
  exact hK' _ _ hK
theorem wpList_del (hg : o.guard = none) (mm x : Operand) (t : TypeId) (hop : o.op = Op.call { callee := Callee.builtin Builtin.delete, args := #[mm, x], argTypes := #[t, k] }) (e : TypeId) (KL : Keyed P k) (ht : P.underlying t = some (.map k e))
    (h : MapAt K w b m) (hm : a.eval mm = .map (some b)) (y : κ) (hx : a.eval x = K.key y) (hy : K.ok y)
    (hK : ∀ w', MapAt K w' b (delM m y) → Turn w w' (fun k => k = b) (fun k => k = b) → wpList P ops Q rest (a.put o.dst (.tuple #[])) w') : wpList P ops Q (o :: rest) a w := by
  refine wpList_plain hg fun K' hK' => ?_
  obtain ⟨w', hrun, r1, r2⟩ := h.del KL ht hy o.type
  unfold Oper.wp
  simp [execOp, hop, resolve, invoke, builtin, hm, hx, hrun, Result.andThen]
  exact hK' _ _ (hK w' r1 r2)
end walk
end Ks
/- An epoch's leaves by places: a map, and the row of its leaves. Plain. No program is in sight. -/
namespace Ks
open Go Go.RowKit
set_option linter.unusedVariables false
set_option linter.unusedSimpArgs false
abbrev SegM := List (Int × ByteArray)
/-- the leaves of a map from a place on -/
def leavesTo (m : SegM) (k : Nat) : List LeafT := (List.range k).filterMap fun (i : Nat) => (look m (i : Int)).map fun h => ((i : Int), h)
theorem leaves_succ (m : SegM) (k : Nat) : leavesTo m (k + 1) = leavesTo m k ++ (match look m (k : Int) with | some h => [((k : Int), h)] | none => []) := by
  rw [leavesTo, List.range_succ, List.filterMap_append]
  show leavesTo m k ++ _ = _
  cases h : look m (k : Int) <;> simp [List.filterMap, h]
theorem leaves_mem {m : SegM} {k : Nat} {x : LeafT} : x ∈ leavesTo m k ↔ look m x.1 = some x.2 ∧ 0 ≤ x.1 ∧ x.1 < (k : Int) := by
  induction k with
  | zero =>
    simp [leavesTo]
    try omega
  | succ k ih =>
    rw [leaves_succ, List.mem_append, ih]
    constructor
    · rintro (h | h)
      · exact ⟨h.1, h.2.1, by have := h.2.2; omega⟩
      · cases e : look m (k : Int) with
        | none => rw [e] at h; simp at h
        | some v =>
          rw [e] at h
          simp at h
          subst h
          exact ⟨e, by simp, by simp; omega⟩
    · rintro ⟨h1, h2, h3⟩
      by_cases hk : x.1 < (k : Int)
      · exact Or.inl ⟨h1, h2, hk⟩
      · have e : x.1 = (k : Int) := by omega
        right
        rw [e] at h1
        rw [h1]
        simp
        exact Prod.ext e rfl
theorem leaves_sorted (m : SegM) (k : Nat) : (leavesTo m k).Pairwise fun a b => a.1 < b.1 := by
  induction k with
  | zero => simp [leavesTo]
  | succ k ih =>
    rw [leaves_succ, List.pairwise_append]
    refine ⟨ih, ?_, fun a ha b hb => ?_⟩
    · cases look m (k : Int) <;> simp
    · have h1 := (leaves_mem.1 ha).2.2
      cases e : look m (k : Int) with
      | none => rw [e] at hb; simp at hb
      | some v =>
        rw [e] at hb
        simp at hb
        subst hb
        exact h1
/-- two sorted rows with the same leaves are the same -/
theorem sorted_eq : ∀ (l r : List LeafT), (l.Pairwise fun a b => a.1 < b.1) → (r.Pairwise fun a b => a.1 < b.1) → (∀ x, x ∈ l ↔ x ∈ r) → l = r
  | [], [], _, _, _ => rfl
  | [], y :: r, _, _, h => by have := (h y).2 (by simp); simp at this
  | x :: l, [], _, _, h => by have := (h x).1 (by simp); simp at this
  | x :: l, y :: r, hl, hr, h => by
    rw [List.pairwise_cons] at hl hr
    have hxy : x = y := by
      rcases List.mem_cons.1 ((h x).1 (by simp)) with e | e
      · exact e
      · rcases List.mem_cons.1 ((h y).2 (by simp)) with e2 | e2
        · exact e2.symm
        · have h1 := hr.1 x e
          have h2 := hl.1 y e2
          omega
    subst hxy
    congr 1
    refine sorted_eq l r hl.2 hr.2 fun z => ?_
    constructor
    · intro hz
      rcases List.mem_cons.1 ((h z).1 (by simp [hz])) with e | e
      · subst e; have := hl.1 z hz; omega
      · exact e
    · intro hz
      rcases List.mem_cons.1 ((h z).2 (by simp [hz])) with e | e
      · subst e; have := hr.1 z hz; omega
      · exact e
/-- the reference's round -/
def putStep (lba : Int) (h : ByteArray) (s : List LeafT × Bool) (x : LeafT) : List LeafT × Bool :=
  let s1 := if s.2 = false ∧ lba ≤ x.1 then (s.1 ++ [(lba, h)], true) else s
  if x.1 = lba then s1 else (s1.1 ++ [x], s1.2)
def putFold (lba : Int) (h : ByteArray) (l : List LeafT) : List LeafT × Bool := l.foldl (putStep lba h) ([], false)
def insL (lba : Int) (h : ByteArray) (l : List LeafT) : List LeafT := if (putFold lba h l).2 then (putFold lba h l).1 else (putFold lba h l).1 ++ [(lba, h)]
end Ks
namespace Ks
open Go Go.RowKit
set_option linter.unusedVariables false
set_option linter.unusedSimpArgs false
theorem putFold_take (lba : Int) (h : ByteArray) (l : List LeafT) (k : Nat) (x : LeafT) (hx : l[k]? = some x) : putFold lba h (l.take (k + 1)) = putStep lba h (putFold lba h (l.take k)) x := by
  rw [putFold, List.take_add_one, hx, List.foldl_append]; rfl
theorem snoc_ind {α : Type} {P : List α → Prop} (h0 : P []) (hs : ∀ l x, P l → P (l ++ [x])) (l : List α) : P l := by
  have h : ∀ r : List α, P r.reverse := fun r => by
    induction r with
    | nil => exact h0
    | cons x r ih => rw [List.reverse_cons]; exact hs _ _ ih
  have := h l.reverse
  rwa [List.reverse_reverse] at this
/-- what stands after a run of rounds, in a sorted row -/
theorem putFold_mem {lba : Int} {h : ByteArray} : ∀ (l : List LeafT), (l.Pairwise fun a b => a.1 < b.1) →
    ((putFold lba h l).2 = true ↔ ∃ x ∈ l, lba ≤ x.1) ∧ (∀ y, y ∈ (putFold lba h l).1 ↔ (y ∈ l ∧ y.1 ≠ lba) ∨ (y = (lba, h) ∧ (putFold lba h l).2 = true)) ∧
      ((putFold lba h l).1.Pairwise fun a b => a.1 < b.1) ∧ (∀ y ∈ (putFold lba h l).1, (∃ x ∈ l, y.1 ≤ x.1)) ∧ ((putFold lba h l).2 = false → ∀ y ∈ (putFold lba h l).1, y.1 < lba) ∧
      (putFold lba h l).1.length = l.length + (if (putFold lba h l).2 then 1 else 0) - (if ∃ x ∈ l, x.1 = lba then 1 else 0) ∧ ((∃ x ∈ l, x.1 = lba) → (putFold lba h l).2 = true) := by
  intro l
  induction l using snoc_ind with
  | h0 => intro _; simp [putFold]
  | hs l x ih =>
    intro hs
    rw [List.pairwise_append] at hs
    obtain ⟨hs1, -, hs2⟩ := hs
    have hs3 : ∀ a ∈ l, a.1 < x.1 := fun a ha => hs2 a ha x (by simp)
    obtain ⟨i1, i2, i3, i4, i5, i6, i7⟩ := ih hs1
    have e : putFold lba h (l ++ [x]) = putStep lba h (putFold lba h l) x := by rw [putFold, List.foldl_append]; rfl
    rw [e]
    generalize putFold lba h l = S at *
    obtain ⟨out, put⟩ := S
    simp only at i1 i2 i3 i4 i5 i6 i7 ⊢
    have hlt : ∀ y ∈ out, y.1 < x.1 := fun y hy => by
      obtain ⟨z, hz, hyz⟩ := i4 y hy
      have := hs3 z hz
      omega
    by_cases h1 : put = false ∧ lba ≤ x.1
    · obtain ⟨rfl, h1⟩ := h1
      have hno : ¬ ∃ z ∈ l, lba ≤ z.1 := fun hz => by have := i1.2 hz; cases this
      have hno2 : ¬ ∃ z ∈ l, z.1 = lba := fun ⟨z, hz, e⟩ => hno ⟨z, hz, by omega⟩
      simp only [if_neg hno2] at i6
      have h5 := i5 rfl
      by_cases h2 : x.1 = lba
      · have hq : ∃ z ∈ l ++ [x], z.1 = lba := ⟨x, by simp, h2⟩
        simp only [putStep, h1, h2, and_self, if_true, true_and, Int.le_refl, if_pos hq]
        refine ⟨⟨fun _ => ⟨x, by simp, by omega⟩, fun _ => by trivial⟩, fun y => ?_, ?_, ?_, by simp, ?_, fun _ => by trivial⟩
        · rw [List.mem_append, i2 y]
          simp
          constructor
          · rintro (⟨q1, q2⟩ | q)
            · exact Or.inl ⟨Or.inl q1, q2⟩
            · exact Or.inr q
          · rintro (⟨q1 | q1, q2⟩ | q)
            · exact Or.inl ⟨q1, q2⟩
            · subst q1; exact absurd h2 q2
            · exact Or.inr q
        · rw [List.pairwise_append]
          exact ⟨i3, by simp, fun a ha b hb => by simp at hb; subst hb; exact h5 a ha⟩
        · intro y hy
          refine ⟨x, by simp, ?_⟩
          rcases List.mem_append.1 hy with hy | hy
          · have := hlt y hy; omega
          · simp at hy; subst hy; simp; omega
        · simp at i6 ⊢; omega
      · have hq : ¬ ∃ z ∈ l ++ [x], z.1 = lba := by
          rintro ⟨z, hz, e8⟩
          rcases List.mem_append.1 hz with hz | hz
          · exact hno2 ⟨z, hz, e8⟩
          · simp at hz; subst hz; exact h2 e8
        simp only [putStep, h1, h2, and_self, if_true, if_false, true_and, if_neg hq]
        refine ⟨⟨fun _ => ⟨x, by simp, by omega⟩, fun _ => by trivial⟩, fun y => ?_, ?_, ?_, by simp, ?_, fun _ => by trivial⟩
        · rw [List.mem_append, List.mem_append, i2 y]
          simp
          constructor
          · rintro ((⟨q1, q2⟩ | q) | q)
            · exact Or.inl ⟨Or.inl q1, q2⟩
            · exact Or.inr q
            · subst q; exact Or.inl ⟨Or.inr rfl, h2⟩
          · rintro (⟨q1 | q1, q2⟩ | q)
            · exact Or.inl (Or.inl ⟨q1, q2⟩)
            · exact Or.inr q1
            · exact Or.inl (Or.inr q)
        · rw [List.pairwise_append, List.pairwise_append]
          refine ⟨⟨i3, by simp, fun a ha b hb => by simp at hb; subst hb; exact h5 a ha⟩, by simp, fun a ha b hb => ?_⟩
          simp at hb
          subst hb
          rcases List.mem_append.1 ha with ha | ha
          · exact hlt a ha
          · simp at ha; subst ha; simp; omega
        · intro y hy
          refine ⟨x, by simp, ?_⟩
          rcases List.mem_append.1 hy with hy | hy
          · rcases List.mem_append.1 hy with hy | hy
            · have := hlt y hy; omega
            · simp at hy; subst hy; simp; omega
          · simp at hy; subst hy; omega
        · simp at i6 ⊢; omega
    · have hstep : putStep lba h (out, put) x = if x.1 = lba then (out, put) else (out ++ [x], put) := by simp only [putStep, if_neg h1]
      rw [hstep]
      have hput : put = true ∨ (put = false ∧ x.1 < lba) := by
        cases put
        · right; exact ⟨rfl, by have : ¬ lba ≤ x.1 := fun q => h1 ⟨rfl, q⟩; omega⟩
        · exact Or.inl rfl
      have hx : put = true → x.1 ≠ lba := fun hp => by
        obtain ⟨z, hz, hz2⟩ := i1.1 hp
        have := hs3 z hz
        omega
      have hne : x.1 ≠ lba := by
        rcases hput with q | ⟨-, q⟩
        · exact hx q
        · omega
      rw [if_neg hne]
      have hq : (∃ z ∈ l ++ [x], z.1 = lba) ↔ ∃ z ∈ l, z.1 = lba := by
        constructor
        · rintro ⟨z, hz, e8⟩
          rcases List.mem_append.1 hz with hz | hz
          · exact ⟨z, hz, e8⟩
          · simp at hz; subst hz; exact absurd e8 hne
        · rintro ⟨z, hz, e⟩
          exact ⟨z, by simp [hz], e⟩
      refine ⟨?_, fun y => ?_, ?_, ?_, ?_, ?_, fun q => i7 (hq.1 q)⟩
      · simp only
        rw [i1]
        constructor
        · rintro ⟨z, hz, e⟩; exact ⟨z, by simp [hz], e⟩
        · rintro ⟨z, hz, e⟩
          rcases List.mem_append.1 hz with hz | hz
          · exact ⟨z, hz, e⟩
          · simp at hz
            subst hz
            rcases hput with q | ⟨-, q⟩
            · exact i1.1 q
            · omega
      · simp only
        rw [List.mem_append, i2 y]
        simp
        constructor
        · rintro ((⟨q1, q2⟩ | q) | q)
          · exact Or.inl ⟨Or.inl q1, q2⟩
          · exact Or.inr q
          · subst q; exact Or.inl ⟨Or.inr rfl, hne⟩
        · rintro (⟨q1 | q1, q2⟩ | q)
          · exact Or.inl (Or.inl ⟨q1, q2⟩)
          · exact Or.inr q1
          · exact Or.inl (Or.inr q)
      · simp only
        rw [List.pairwise_append]
        exact ⟨i3, by simp, fun a ha b hb => by simp at hb; subst hb; exact hlt a ha⟩
      · intro y hy
        rcases List.mem_append.1 hy with hy | hy
        · obtain ⟨z, hz, e⟩ := i4 y hy
          exact ⟨z, by simp [hz], e⟩
        · simp at hy; subst hy; exact ⟨y, by simp, Int.le_refl _⟩
      · intro hp y hy
        simp only at hp
        rcases List.mem_append.1 hy with hy | hy
        · exact i5 hp y hy
        · simp at hy
          subst hy
          rcases hput with q | ⟨-, q⟩
          · rw [q] at hp; cases hp
          · exact q
      · simp only [hq, List.length_append, List.length_singleton]
        rw [i6]
        by_cases q : ∃ z ∈ l, z.1 = lba
        · have hl : 0 < l.length := by obtain ⟨z, hz, -⟩ := q; exact List.length_pos_of_mem hz
          rw [if_pos q]; omega
        · rw [if_neg q]; omega
/-- a map and a row that stand for the same -/
structure SegR (m : SegM) (l : List LeafT) : Prop where
  sorted : l.Pairwise fun a b => a.1 < b.1
  mem : ∀ x, x ∈ l ↔ look m x.1 = some x.2
  may : ∀ x ∈ l, mayLeaf x
  len : m.length = l.length
theorem SegR.nil : SegR [] [] := ⟨List.Pairwise.nil, fun x => by simp [look], fun x h => by simp at h, rfl⟩
theorem SegR.leaves {m : SegM} {l : List LeafT} (h : SegR m l) : leavesTo m 4096 = l := by
  refine sorted_eq _ _ (leaves_sorted m _) h.sorted fun x => ?_
  rw [leaves_mem, h.mem]
  constructor
  · exact fun q => q.1
  · intro q
    have := h.may x ((h.mem x).2 q)
    exact ⟨q, this.1, this.2.1⟩
theorem SegR.right {m : SegM} {l : List LeafT} (h : SegR m l) : rightB l = true := (rightB_spec l).2 ⟨h.may, h.sorted⟩
theorem SegR.uniq {m m' : SegM} {l l' : List LeafT} (h : SegR m l) (h' : SegR m' l') (e : ∀ x, look m x = look m' x) : l = l' :=
  sorted_eq _ _ h.sorted h'.sorted fun x => by rw [h.mem, h'.mem, e]
theorem SegR.put {m : SegM} {l : List LeafT} (h : SegR m l) {lba : Int} {v : ByteArray} (hm : mayLeaf (lba, v)) : SegR (putM m lba v) (insL lba v l) := by
  obtain ⟨i1, i2, i3, i4, i5, i6, i7⟩ := putFold_mem (lba := lba) (h := v) l h.sorted
  have hex : (∃ x ∈ l, x.1 = lba) ↔ look m lba ≠ none := by
    constructor
    · rintro ⟨x, hx, rfl⟩
      rw [(h.mem x).1 hx]; simp
    · intro q
      cases e : look m lba with
      | none => exact absurd e q
      | some u => exact ⟨(lba, u), (h.mem _).2 e, rfl⟩
  have hmem : ∀ y, y ∈ insL lba v l ↔ (y ∈ l ∧ y.1 ≠ lba) ∨ y = (lba, v) := by
    intro y
    rw [insL]
    split
    · rename_i hp
      rw [i2 y]
      simp [hp]
    · rename_i hp
      rw [List.mem_append, i2 y]
      simp [hp]
  refine ⟨?_, fun x => ?_, fun x hx => ?_, ?_⟩
  · rw [insL]
    split
    · exact i3
    · rename_i hp
      rw [List.pairwise_append]
      exact ⟨i3, by simp, fun a ha b hb => by simp at hb; subst hb; exact i5 (by simpa using hp) a ha⟩
  · rw [hmem, look_put]
    by_cases e : lba = x.1
    · rw [if_pos e]
      constructor
      · rintro (⟨_, q⟩ | q)
        · exact absurd e.symm q
        · rw [q]
      · intro q
        exact Or.inr (Prod.ext e.symm (Option.some.inj q).symm)
    · rw [if_neg e, ← h.mem]
      constructor
      · rintro (⟨q, _⟩ | q)
        · exact q
        · rw [q] at e; exact absurd rfl e
      · exact fun q => Or.inl ⟨q, fun e2 => e e2.symm⟩
  · rcases (hmem x).1 hx with ⟨q, _⟩ | q
    · exact h.may x q
    · rw [q]; exact hm
  · rw [length_put, h.len]
    have hl : (∃ x ∈ l, x.1 = lba) → 0 < l.length := fun ⟨z, hz, _⟩ => List.length_pos_of_mem hz
    by_cases q : ∃ x ∈ l, x.1 = lba
    · rw [if_neg (hex.1 q), insL, i7 q, if_pos rfl, i6, if_pos q, i7 q]
      simp
    · have : look m lba = none := Classical.byContradiction fun e => q (hex.2 e)
      rw [if_pos this, insL]
      rw [if_neg q] at i6
      split
      · rename_i hp
        rw [i6, hp]; simp
      · rename_i hp
        rw [List.length_append, i6]
        simp [hp]
end Ks
/- Texts in a slice. Plain. No program is in sight. -/
namespace Ks
open Go Go.RowKit
set_option linter.unusedVariables false
def strE : Enc ByteArray := ⟨1, fun s => [.string s], fun _ => rfl, fun x u hu => by simp only [List.mem_singleton] at hu; subst hu; rfl, by decide⟩
theorem Rd.str {w : World} {a : Option Addr} {n c : Nat} {l : List ByteArray} (h : Rd strE w (.slice a n c) l) (i : Nat) (hi : i < l.length) : ∃ b o, a = some ⟨b, o, none⟩ ∧ b < w.heap.size ∧ w.cell? ⟨b, o + i, none⟩ = some (.string l[i]) := by
  obtain ⟨b, o, h1, h2, h3⟩ := h.at i l[i] (List.getElem?_eq_getElem hi)
  refine ⟨b, o, h1, h2, ?_⟩
  have := h3 0 (.string l[i]) rfl
  simpa [strE] using this
/-- texts, one behind the other -/
def joinL (l : List ByteArray) : List UInt8 := l.flatMap fun s => s.data.toList
theorem joinL_take (l : List ByteArray) (k : Nat) (h : k < l.length) : joinL (l.take (k + 1)) = joinL (l.take k) ++ l[k].data.toList := by
  rw [joinL, List.take_succ_eq_append_getElem h, List.flatMap_append]; simp [joinL]
theorem joinL_append (a b : List ByteArray) : joinL (a ++ b) = joinL a ++ joinL b := by simp [joinL]
theorem joinL_le (l : List ByteArray) (k : Nat) : (joinL (l.take k)).length ≤ (joinL l).length := by
  have : joinL l = joinL (l.take k) ++ joinL (l.drop k) := by rw [← joinL_append, List.take_append_drop]
  rw [this, List.length_append]; omega
end Ks
/- Data put to a place: a law's act. Plain. No program is in sight. -/
namespace Ks
open Go Go.RowKit
set_option linter.unusedVariables false
/-- a place, a slot, a text -/
abbrev ActT := Int × Int × ByteArray
def actE17 : Enc ActT := ⟨3, fun x => [.int .i64 x.1, .int .i64 x.2.1, .string x.2.2], fun _ => rfl, fun x u hu => by simp only [List.mem_cons, List.not_mem_nil, or_false] at hu; rcases hu with rfl | rfl | rfl <;> rfl, by decide⟩
abbrev actV17 (x : ActT) : Value := .agg #[.int .i64 x.1, .int .i64 x.2.1, .string x.2.2]
/-- numbers are such as a number may be, a text is no longer than a text may be -/
def fitAct (x : ActT) : Prop := (-9223372036854775808 ≤ x.1 ∧ x.1 ≤ 9223372036854775807) ∧ (-9223372036854775808 ≤ x.2.1 ∧ x.2.1 ≤ 9223372036854775807) ∧ x.2.2.size ≤ maxLen
end Ks
/- What acts make of a segment, in order and from behind. Plain. No program is in sight. -/
namespace Ks
open Go Go.RowKit
set_option linter.unusedVariables false
set_option linter.unusedSimpArgs false
def okAct (e : Int) (a : ActT) : Bool := decide (0 ≤ a.1 ∧ a.1 < 4096 ∧ a.2.2.size ≤ 4000 ∧ dataE e a.2.1 = 0)
theorem okAct_spec {e : Int} {a : ActT} : okAct e a = true ↔ 0 ≤ a.1 ∧ a.1 < 4096 ∧ a.2.2.size ≤ 4000 ∧ dataE e a.2.1 = 0 := decide_eq_true_iff
def segPut (e : Int) (m : SegM) (a : ActT) : SegM := if okAct e a then putM m a.1 (dataS e a.2.1 a.2.2) else m
def refPut (e : Int) (l : List LeafT) (a : ActT) : List LeafT := if okAct e a then insL a.1 (dataS e a.2.1 a.2.2) l else l
def segE (e : Int) (a : ActT) : Int := if okAct e a then 0 else 2
def playM (e : Int) (al : List ActT) : SegM := al.foldl (segPut e) []
def playL (e : Int) (al : List ActT) : List LeafT := al.foldl (refPut e) []
theorem playM_take (e : Int) (al : List ActT) (k : Nat) (a : ActT) (h : al[k]? = some a) : playM e (al.take (k + 1)) = segPut e (playM e (al.take k)) a := by
  rw [playM, List.take_add_one, h, List.foldl_append]; rfl
theorem playL_take (e : Int) (al : List ActT) (k : Nat) (a : ActT) (h : al[k]? = some a) : playL e (al.take (k + 1)) = refPut e (playL e (al.take k)) a := by
  rw [playL, List.take_add_one, h, List.foldl_append]; rfl
theorem ok_may {e : Int} {a : ActT} (h : okAct e a = true) : mayLeaf (a.1, dataS e a.2.1 a.2.2) := by
  obtain ⟨h1, h2, h3, h4⟩ := okAct_spec.1 h
  refine ⟨h1, h2, ?_⟩
  show (dataS e a.2.1 a.2.2).size = 32
  rw [dataS, if_pos h4]
  exact sha1_size _
theorem SegR.step {e : Int} {m : SegM} {l : List LeafT} (h : SegR m l) (a : ActT) : SegR (segPut e m a) (refPut e l a) := by
  unfold segPut refPut
  by_cases ha : okAct e a = true
  · rw [if_pos ha, if_pos ha]; exact h.put (ok_may ha)
  · rw [if_neg ha, if_neg ha]; exact h
theorem play_R (e : Int) (al : List ActT) : SegR (playM e al) (playL e al) := by
  induction al using snoc_ind with
  | h0 => exact SegR.nil
  | hs l x ih =>
    have e1 : playM e (l ++ [x]) = segPut e (playM e l) x := by rw [playM, List.foldl_append]; rfl
    have e2 : playL e (l ++ [x]) = refPut e (playL e l) x := by rw [playL, List.foldl_append]; rfl
    rw [e1, e2]
    exact ih.step x
theorem segPut_len (e : Int) (m : SegM) (a : ActT) : (segPut e m a).length ≤ m.length + 1 := by
  unfold segPut
  split
  · exact length_put_le _ _ _
  · omega
theorem play_len (e : Int) (al : List ActT) : (playM e al).length ≤ al.length := by
  induction al using snoc_ind with
  | h0 => exact Nat.le_refl _
  | hs l x ih =>
    have e1 : playM e (l ++ [x]) = segPut e (playM e l) x := by rw [playM, List.foldl_append]; rfl
    rw [e1, List.length_append, List.length_singleton]
    have := segPut_len e (playM e l) x
    omega
theorem playL_len (e : Int) (al : List ActT) : (playL e al).length ≤ al.length := by
  rw [← (play_R e al).len]; exact play_len e al
/-- what a law wants of a place -/
def wantStep (e lba : Int) (r : ByteArray × Bool) (a : ActT) : ByteArray × Bool := if okAct e a = true ∧ a.1 = lba then (dataS e a.2.1 a.2.2, true) else r
def wantA (e : Int) (al : List ActT) (lba : Int) : ByteArray × Bool := al.foldl (wantStep e lba) (⟨#[]⟩, false)
theorem wantA_take (e : Int) (al : List ActT) (lba : Int) (k : Nat) (a : ActT) (h : al[k]? = some a) : wantA e (al.take (k + 1)) lba = wantStep e lba (wantA e (al.take k) lba) a := by
  rw [wantA, List.take_add_one, h, List.foldl_append]; rfl
def optW (r : ByteArray × Bool) : Option ByteArray := if r.2 then some r.1 else none
theorem want_look (e : Int) (al : List ActT) (lba : Int) : look (playM e al) lba = optW (wantA e al lba) ∧ ((wantA e al lba).2 = false → wantA e al lba = (⟨#[]⟩, false)) := by
  induction al using snoc_ind with
  | h0 => exact ⟨rfl, fun _ => rfl⟩
  | hs l x ih =>
    have e1 : playM e (l ++ [x]) = segPut e (playM e l) x := by rw [playM, List.foldl_append]; rfl
    have e2 : wantA e (l ++ [x]) lba = wantStep e lba (wantA e l lba) x := by rw [wantA, List.foldl_append]; rfl
    rw [e1, e2, segPut, wantStep]
    by_cases ho : okAct e x = true
    · rw [if_pos ho, look_put]
      by_cases hl : x.1 = lba
      · rw [if_pos hl, if_pos ⟨ho, hl⟩]; exact ⟨rfl, fun h => by cases h⟩
      · rw [if_neg hl, if_neg fun h => hl h.2]; exact ih
    · rw [if_neg ho, if_neg fun h => ho h.1]; exact ih
/-- what is proved of a place is what was put last -/
theorem want_play (e : Int) (al : List ActT) (lba : Int) : wantP (playL e al) lba = wantA e al lba := by
  have hR := play_R e al
  obtain ⟨h1, h2⟩ := want_look e al lba
  generalize wantA e al lba = r at *
  obtain ⟨s, b⟩ := r
  cases b with
  | true =>
    have hm : (lba, s) ∈ playL e al := (hR.mem _).2 h1
    obtain ⟨i, hi⟩ := List.mem_iff_getElem?.1 hm
    exact want_some _ _ hR.sorted i _ hi rfl
  | false =>
    rw [h2 rfl]
    refine want_none _ _ fun x hx e9 => ?_
    have := (hR.mem x).1 hx
    rw [e9, h1] at this
    cases this
/-! ### from behind -/
abbrev LastT := List ActT × SegM
def metA (last : List ActT) (x : Int) : Bool := last.any fun b => b.1 == x
def lastStep (e : Int) (a : ActT) (s : LastT) : LastT := if metA s.1 a.1 = false ∧ okAct e a = true then (s.1 ++ [a], segPut e s.2 a) else s
def lastS (e : Int) (al : List ActT) : LastT := al.foldr (lastStep e) ([], [])
theorem lastS_drop (e : Int) (al : List ActT) (k : Nat) (a : ActT) (h : al[k]? = some a) : lastS e (al.drop k) = lastStep e a (lastS e (al.drop (k + 1))) := by
  obtain ⟨hk, rfl⟩ := List.getElem?_eq_some_iff.1 h
  rw [List.drop_eq_getElem_cons hk]; rfl
theorem want_from17 (e lba : Int) : ∀ (l : List ActT) (r : ByteArray × Bool), l.foldl (wantStep e lba) r = if (wantA e l lba).2 then wantA e l lba else r
  | [], r => rfl
  | a :: l, r => by
    have e1 : wantA e (a :: l) lba = l.foldl (wantStep e lba) (wantStep e lba (⟨#[]⟩, false) a) := rfl
    rw [List.foldl_cons, want_from17 e lba l, e1, want_from17 e lba l]
    by_cases h : (wantA e l lba).2 = true
    · simp [h]
    · simp only [h, if_false, Bool.false_eq_true]
      unfold wantStep
      split <;> simp
theorem wantA_cons (e lba : Int) (a : ActT) (l : List ActT) : wantA e (a :: l) lba = if (wantA e l lba).2 then wantA e l lba else wantStep e lba (⟨#[]⟩, false) a :=
  want_from17 e lba l _
theorem last_look (e : Int) : ∀ (l : List ActT), (∀ x, look (lastS e l).2 x = optW (wantA e l x) ∧ (metA (lastS e l).1 x = true ↔ (wantA e l x).2 = true)) ∧ (∃ r, SegR (lastS e l).2 r) ∧ (lastS e l).1.length ≤ l.length ∧ (lastS e l).2.length ≤ l.length
  | [] => ⟨fun x => ⟨rfl, by simp [lastS, metA, wantA]⟩, ⟨[], SegR.nil⟩, Nat.le_refl _, Nat.le_refl _⟩
  | a :: l => by
    obtain ⟨h1, ⟨r, h2⟩, h3, h4⟩ := last_look e l
    have es : lastS e (a :: l) = lastStep e a (lastS e l) := rfl
    rw [es]
    generalize lastS e l = s at *
    obtain ⟨last, m⟩ := s
    simp only at h1 h2 h3 h4
    unfold lastStep
    simp only
    by_cases hc : metA last a.1 = false ∧ okAct e a = true
    · rw [if_pos hc]
      simp only
      have hno : (wantA e l a.1).2 = false := by
        cases q : (wantA e l a.1).2
        · rfl
        · rw [(h1 a.1).2.2 q] at hc; cases hc.1
      refine ⟨fun x => ?_, ⟨_, h2.step (e := e) a⟩, by rw [List.length_append, List.length_singleton, List.length_cons]; omega, by have := segPut_len e m a; rw [List.length_cons]; omega⟩
      have hm : metA (last ++ [a]) x = (metA last x || (a.1 == x)) := by simp [metA]
      rw [segPut, if_pos hc.2, look_put, hm, wantA_cons]
      by_cases hx : a.1 = x
      · subst hx
        rw [if_pos rfl, hno]
        simp [wantStep, hc.2, optW]
      · rw [if_neg hx]
        have hx2 : (a.1 == x) = false := by simpa using hx
        rw [hx2, Bool.or_false, (h1 x).1]
        have hs : wantStep e x (⟨#[]⟩, false) a = (⟨#[]⟩, false) := by rw [wantStep, if_neg fun q => hx q.2]
        rw [hs]
        cases q : (wantA e l x).2
        · have := (h1 x).2
          rw [q] at this
          simp [optW, q]
          simpa using this
        · have := (h1 x).2
          rw [q] at this
          simp [optW, q]
          simpa using this
    · rw [if_neg hc]
      simp only
      refine ⟨fun x => ?_, ⟨_, h2⟩, by rw [List.length_cons]; omega, by rw [List.length_cons]; omega⟩
      rw [wantA_cons]
      cases q : (wantA e l x).2
      · have hs : wantStep e x (⟨#[]⟩, false) a = (⟨#[]⟩, false) := by
          rw [wantStep, if_neg]
          rintro ⟨q1, q2⟩
          subst q2
          refine hc ⟨?_, q1⟩
          cases q3 : metA last a.1
          · rfl
          · rw [(h1 a.1).2.1 q3] at q; cases q
        simp only [if_false, Bool.false_eq_true, hs]
        have h9 := h1 x
        rw [h9.1]
        refine ⟨by simp [optW, q], ?_⟩
        rw [h9.2, q]
        simp
      · simp only [if_true]
        exact h1 x
/-- the same leaves stand, in whatever order they were put -/
theorem last_same (e : Int) (l : List ActT) : SegR (lastS e l).2 (playL e l) := by
  obtain ⟨h1, ⟨r, h2⟩, h3, h4⟩ := last_look e l
  have := h2.uniq (play_R e l) fun x => by rw [(h1 x).1, (want_look e l x).1]
  rw [← this]; exact h2
end Ks
/- Peaks of leaves, from below: what one more leaf makes of them. Plain. No program is in sight. -/
namespace Ks
open Go
set_option linter.unusedVariables false
/-- the peaks: of an even row those of the row above; of an odd one those of all but the last, and it -/
def peaksB (l : List ByteArray) : List ByteArray :=
  if h : l = [] then [] else if l.length % 2 = 0 then peaksB (aboveL l) else peaksB (aboveL l.dropLast) ++ [l.getLastD ⟨#[]⟩]
termination_by l.length
decreasing_by
  all_goals
    have := List.length_pos_iff.2 h
    rw [above_length]
    try rw [List.length_dropLast]
    omega
theorem peaks_nil : peaksB [] = [] := by rw [peaksB]; simp
theorem peaks_even (l : List ByteArray) (h : l.length % 2 = 0) : peaksB l = peaksB (aboveL l) := by
  by_cases h0 : l = []
  · subst h0; rfl
  · rw [peaksB, dif_neg h0, if_pos h]
theorem peaks_odd (l : List ByteArray) (x : ByteArray) (h : l.length % 2 = 0) : peaksB (l ++ [x]) = peaksB l ++ [x] := by
  rw [peaksB, dif_neg (by simp), if_neg (by rw [List.length_append]; simp; omega), List.dropLast_concat, peaks_even l h, List.getLastD_concat]
theorem peaks_pair (l : List ByteArray) (y x : ByteArray) (h : l.length % 2 = 0) : peaksB (l ++ [y] ++ [x]) = peaksB (aboveL l ++ [nodeS y x]) := by
  rw [List.append_assoc, peaks_even _ (by rw [List.length_append]; simp; omega), above_append (l.length / 2) l _ (by omega)]
  rfl
/-- the ones of a number in digits to the base 2 -/
def onesN (n : Nat) : Nat := if h : n = 0 then 0 else n % 2 + onesN (n / 2)
theorem ones_half (n : Nat) : onesN n = n % 2 + onesN (n / 2) := by
  by_cases h : n = 0
  · subst h; simp [onesN]
  · rw [onesN, dif_neg h]
theorem peaks_ones : ∀ (n : Nat) (l : List ByteArray), l.length = n → (peaksB l).length = onesN n := by
  intro n
  induction n using Nat.strongRecOn with
  | ind n ih =>
    intro l hl
    by_cases h0 : n = 0
    · obtain rfl : l = [] := List.length_eq_zero_iff.1 (hl.trans h0)
      rw [h0, peaks_nil, onesN, dif_pos rfl]; rfl
    · rw [ones_half]
      by_cases h2 : n % 2 = 0
      · rw [peaks_even l (hl ▸ h2), ih (n / 2) (by omega) _ (by rw [above_length]; omega), h2, Nat.zero_add]
      · obtain ⟨m, x, rfl⟩ : ∃ m x, l = m ++ [x] := ⟨l.dropLast, l.getLast (fun e => by subst e; exact h0 hl.symm), (List.dropLast_concat_getLast _).symm⟩
        rw [List.length_append, List.length_singleton] at hl
        have he : m.length % 2 = 0 := by omega
        rw [peaks_odd m x he, List.length_append, List.length_singleton, peaks_even m he, ih (n / 2) (by omega) _ (by rw [above_length]; omega)]
        omega
theorem ones_le (n : Nat) : onesN n ≤ n := by
  induction n using Nat.strongRecOn with
  | ind n ih =>
    by_cases h0 : n = 0
    · subst h0; simp [onesN]
    · rw [ones_half]
      have := ih (n / 2) (by omega)
      omega
theorem peaks_le (l : List ByteArray) : (peaksB l).length ≤ l.length := by rw [peaks_ones _ l rfl]; exact ones_le _
theorem node_size (a b : ByteArray) : (nodeS a b).size = 32 := sha1_size _
theorem above_wide : ∀ l : List ByteArray, (∀ s ∈ l, s.size = 32) → ∀ s ∈ aboveL l, s.size = 32
  | [], _, s, hs => by simp [aboveL] at hs
  | [a], h, s, hs => by rw [aboveL] at hs; exact h s hs
  | a :: b :: l, h, s, hs => by
    rw [aboveL, List.mem_cons] at hs
    rcases hs with rfl | hs
    · exact node_size a b
    · exact above_wide l (fun s hs => h s (by simp [hs])) s hs
theorem odd_last (l : List ByteArray) (h : l.length % 2 = 1) : ∃ m x, l = m ++ [x] ∧ m.length % 2 = 0 := by
  have hne : l ≠ [] := fun e => by subst e; simp at h
  have e := (List.dropLast_concat_getLast hne).symm
  have h2 : l.dropLast.length = l.length - 1 := List.length_dropLast
  exact ⟨l.dropLast, l.getLast hne, e, by omega⟩
end Ks
/- A frontier: what stands of it, what a call turns. Plain. No program is in sight. -/
namespace Ks
open Go Go.RowKit
set_option linter.unusedVariables false
/-- a frontier of leaves -/
structure FrontAt (w : World) (TN : TypeId) (n : Nat) (v : Value) (l : List ByteArray) : Prop where
  blk : w.heap[n]? = some (.cells #[.bool true, .int .i64 (l.length : Int), v] TN (0, 0))
  row : Rd strE w v (peaksB l)
  ne : v.ownBlock ≠ some n
  wide : ∀ s ∈ l, s.size = 32
  few : l.length ≤ 1048576
theorem FrontAt.lt {w : World} {TN : TypeId} {n : Nat} {v : Value} {l : List ByteArray} (h : FrontAt w TN n v l) : n < w.heap.size := lt_of_block h.blk
theorem FrontAt.keep {w w' : World} {TN : TypeId} {n : Nat} {v : Value} {l : List ByteArray} (h : FrontAt w TN n v l) (hb : Below w.heap.size w w') : FrontAt w' TN n v l :=
  ⟨(hb.block n h.lt).trans h.blk, h.row.below hb, h.ne, h.wide, h.few⟩
/-- a frontier that is none, or that no call made -/
def FrontNo (w : World) (TN : TypeId) (v : Value) : Prop := v = .pointer none ∨ ∃ n, v = .pointer (some ⟨n, 0, none⟩) ∧ w.heap[n]? = some (.cells #[.bool false, .int .i64 0, .slice none 0 0] TN (0, 0))
theorem FrontNo.keep {w w' : World} {TN : TypeId} {v : Value} (h : FrontNo w TN v) (hb : Below w.heap.size w w') : FrontNo w' TN v := by
  rcases h with h | ⟨n, rfl, h⟩
  · exact Or.inl h
  · exact Or.inr ⟨n, rfl, (hb.block n (lt_of_block h)).trans h⟩
/-- only one block is turned -/
structure Solo (w w' : World) (n : Nat) : Prop where
  os : w'.os = w.os
  tape : w'.tape = w.tape
  output : w'.output = w.output
  size : w.heap.size ≤ w'.heap.size
  block : ∀ k, k < w.heap.size → k ≠ n → w'.heap[k]? = w.heap[k]?
theorem Solo.of_below {w w' : World} {n : Nat} (hb : Below w.heap.size w w') : Solo w w' n := ⟨hb.os, hb.tape, hb.output, hb.size, fun k hk _ => hb.block k hk⟩
theorem Solo.below {w w' : World} {n B : Nat} (h : Solo w w' n) (hn : B ≤ n) (hB : B ≤ w.heap.size) : Below B w w' := ⟨h.os, h.tape, h.output, h.size, fun k hk => h.block k (by omega) (by omega)⟩
theorem Solo.then {w w1 w2 : World} {n : Nat} (h : Solo w w1 n) (k : Solo w1 w2 n) : Solo w w2 n :=
  ⟨k.os.trans h.os, k.tape.trans h.tape, k.output.trans h.output, Nat.le_trans h.size k.size, fun j hj hne => (k.block j (Nat.lt_of_lt_of_le hj h.size) hne).trans (h.block j hj hne)⟩
theorem Solo.set (w : World) (n o : Nat) (u : Value) : Solo w (w.setCell ⟨n, o, none⟩ u) n :=
  ⟨((Below.refl 0 w).setCell (Nat.zero_le _) u).os, ((Below.refl 0 w).setCell (Nat.zero_le _) u).tape, ((Below.refl 0 w).setCell (Nat.zero_le _) u).output, by simp, fun k hk hne => set_ne u hne⟩
theorem Solo.rd {w w' : World} {n : Nat} {v : Value} {l : List ByteArray} (h : Solo w w' n) (hr : Rd strE w v l) (hne : v.ownBlock ≠ some n) : Rd strE w' v l := by
  obtain ⟨a, cap, rfl, hc, hn, hh⟩ := hr
  refine ⟨a, cap, rfl, hc, hn, fun i x hx => ?_⟩
  obtain ⟨b, o, rfl, hlt, hcs⟩ := hh i x hx
  have e := h.block b hlt (fun e => hne (by simp [Value.ownBlock, e]))
  exact ⟨b, o, rfl, Nat.lt_of_lt_of_le hlt h.size, fun j u hu => (World.cell?_of_block (a := ⟨b, o + i * strE.k + j, none⟩) e).trans (hcs j u hu)⟩
theorem set_at1 {w : World} {n : Nat} {c0 c1 c2 : Value} {T : TypeId} (u : Value) (h : w.heap[n]? = some (.cells #[c0, c1, c2] T (0, 0))) : (w.setCell ⟨n, 1, none⟩ u).heap[n]? = some (.cells #[c0, u, c2] T (0, 0)) := by
  simp [World.setCell, Array.getElem?_modify, h]
theorem set_at2 {w : World} {n : Nat} {c0 c1 c2 : Value} {T : TypeId} (u : Value) (h : w.heap[n]? = some (.cells #[c0, c1, c2] T (0, 0))) : (w.setCell ⟨n, 2, none⟩ u).heap[n]? = some (.cells #[c0, c1, u] T (0, 0)) := by
  simp [World.setCell, Array.getElem?_modify, h]
end Ks
/- A segment: what stands of it, what a call turns. Plain. No program is in sight. -/
namespace Ks
open Go Go.RowKit Go.Maps
set_option linter.unusedVariables false
section
variable {P : Program} {kt : TypeId} {K : KV P kt Int ByteArray} {T : TypeId} {w w' : World} {n mb : Nat} {e : Int} {m : SegM}
/-- a segment of leaves, by places -/
structure SegAt (K : KV P kt Int ByteArray) (w : World) (T : TypeId) (n mb : Nat) (e : Int) (m : SegM) : Prop where
  blk : w.heap[n]? = some (.cells #[.int .i64 e, .map (some mb)] T (0, 0))
  map : MapAt K w mb m
  ne : n ≠ mb
theorem SegAt.lt (h : SegAt K w T n mb e m) : n < w.heap.size := lt_of_block h.blk
theorem SegAt.mlt (h : SegAt K w T n mb e m) : mb < w.heap.size := h.map.lt
theorem SegAt.below (h : SegAt K w T n mb e m) (hb : Below w.heap.size w w') : SegAt K w' T n mb e m := ⟨(hb.block n h.lt).trans h.blk, h.map.below hb, h.ne⟩
/-- another block is turned -/
theorem SegAt.solo {k : Nat} (h : SegAt K w T n mb e m) (hs : Solo w w' k) (h1 : n ≠ k) (h2 : mb ≠ k) : SegAt K w' T n mb e m := ⟨(hs.block n h.lt h1).trans h.blk, h.map.keep (hs.block mb h.mlt h2), h.ne⟩
/-- a segment that is none, or that no call made -/
def SegNo (w : World) (T : TypeId) (v : Value) : Prop := v = .pointer none ∨ ∃ n, v = .pointer (some ⟨n, 0, none⟩) ∧ w.heap[n]? = some (.cells #[.int .i64 0, .map none] T (0, 0))
theorem SegNo.below {v : Value} (h : SegNo w T v) (hb : Below w.heap.size w w') : SegNo w' T v := by
  rcases h with h | ⟨n, rfl, h⟩
  · exact Or.inl h
  · exact Or.inr ⟨n, rfl, (hb.block n (lt_of_block h)).trans h⟩
end
theorem Solo.turn {w w' : World} {n : Nat} (h : Turn w w' (fun k => k = n) (fun k => k = n)) : Solo w w' n := ⟨h.os, h.tape, h.output, h.size, fun k hk hne => h.block k hk hne⟩
end Ks
/- The digest's small functions: a number turned, three of them, a number of four bytes; the reference's turn. -/
namespace Ks
open Go Go.RowKit
theorem num_or (a b c d : Nat) (ha : a < 256) (hb : b < 256) (hc : c < 256) (hd : d < 256) :
    bits .or .u32 (bits .or .u32 (bits .or .u32 ((a : Int) % 4294967296 * 16777216 % 4294967296) ((b : Int) % 4294967296 * 65536 % 4294967296)) ((c : Int) % 4294967296 * 256 % 4294967296)) ((d : Int) % 4294967296)
      = ((((a * 256 + b) * 256 + c) * 256 + d : Nat) : Int) := by
  have e1 : ((a : Int) % 4294967296 * 16777216 % 4294967296) = (a : Int) * 16777216 := by omega
  have e2 : ((b : Int) % 4294967296 * 65536 % 4294967296) = (b : Int) * 65536 := by omega
  have e3 : ((c : Int) % 4294967296 * 256 % 4294967296) = (c : Int) * 256 := by omega
  have e4 : ((d : Int) % 4294967296) = (d : Int) := by omega
  have p32 : (2 : Int) ^ 32 = 4294967296 := by decide
  have p24 : (2 : Int) ^ 24 = 16777216 := by decide
  have p16 : (2 : Int) ^ 16 = 65536 := by decide
  have p8 : (2 : Int) ^ 8 = 256 := by decide
  have j1 := bits_join .u32 32 (by decide) wraps_u32 24 ((a : Int) * 16777216) ((b : Int) * 65536) (by omega) (by rw [p24]; omega) (by rw [p32]; omega) (by omega) (by rw [p24]; omega) (by rw [p32]; omega)
  have j2 := bits_join .u32 32 (by decide) wraps_u32 16 ((a : Int) * 16777216 + (b : Int) * 65536) ((c : Int) * 256) (by omega) (by rw [p16]; omega) (by rw [p32]; omega) (by omega) (by rw [p16]; omega) (by rw [p32]; omega)
  have j3 := bits_join .u32 32 (by decide) wraps_u32 8 ((a : Int) * 16777216 + (b : Int) * 65536 + (c : Int) * 256) (d : Int) (by omega) (by rw [p8]; omega) (by rw [p32]; omega) (by omega) (by rw [p8]; omega) (by rw [p32]; omega)
  rw [e1, e2, e3, e4, j1, j2, j3]
  omega
theorem num_bytes (s : ByteArray) (h : 4 ≤ s.size) : getN (s.data.toList.take 4) = (((s[0]).toNat * 256 + (s[1]).toNat) * 256 + (s[2]).toNat) * 256 + (s[3]).toNat := by
  rw [take_snoc s 3 (by omega), getN_snoc, take_snoc s 2 (by omega), getN_snoc, take_snoc s 1 (by omega), getN_snoc, take_snoc s 0 (by omega), getN_snoc]
  simp [getN]
end Ks
namespace Go.Proofs.Ytdbabkkmdlkjaaa
open Go.RowKit Ks
set_option linter.unusedVariables false

set_option maxHeartbeats 1000000 in
theorem rot_any (x n : Nat) (w : World) (hx : x < 4294967296) (h1 : 1 ≤ n) (h2 : n ≤ 31) :
    Calls Try.prog 90 #[.int .u32 x, .int .i64 (-(n : Int))] w fun e w' => e = .returned (.int .u32 (rotr x n : Nat)) ∧ w' = w := by
  refine calls_by fun R HR => ?_
  have hw : IntKind.u64.wrap (-(n : Int)) = 18446744073709551616 - n := by simp [IntKind.wrap, IntKind.bits, IntKind.signed]; omega
  have hb : bits .and .u64 (18446744073709551616 - (n : Int)) 31 = 32 - n := by
    have e := bits_mask .u64 64 (by decide) (fun m h0 h1 => by rw [show (2 : Int) ^ 64 = 18446744073709551616 from by decide] at h1; simp [IntKind.wrap, IntKind.bits, IntKind.signed]; omega) 5 (by decide) (18446744073709551616 - (n : Int)) (by omega) (by rw [show (2 : Int) ^ 64 = 18446744073709551616 from by decide]; omega)
    rw [show (2 : Int) ^ 5 - 1 = 31 from by decide, show (2 : Int) ^ 5 = 32 from by decide] at e
    rw [e]; omega
  have h0 : (0 : Int) ≤ 32 - n := by omega
  go_enter Try.func90, Try.ntmps90
  go_wp2
  refine HR.out _ _ ⟨?_, rfl⟩
  show Ending.returned (Value.int .u32 (bits .or .u32 ((x : Int) * 2 ^ (32 - n) % 4294967296) ((x : Int) / 2 ^ (32 - (32 - n))))) = _
  rw [← rot_parts x n hx, ← or_u32 _ _ (Nat.mod_lt _ (by decide)) (shr_lt hx n), show 32 - (32 - n) = n by omega, Nat.shiftLeft_eq, Nat.shiftRight_eq_div_pow]
  simp only [Int.natCast_emod, Int.natCast_mul, Int.natCast_pow, Int.natCast_ediv]
  rfl

set_option maxHeartbeats 1000000 in
theorem number_any (s : ByteArray) (w : World) (h : 4 ≤ s.size) :
    Calls Try.prog 89 #[.string s] w fun e w' => e = .returned (.int .u32 (getN (s.data.toList.take 4) : Nat)) ∧ Below w.heap.size w w' := by
  refine calls_by fun R HR => ?_
  have k0 : 0 < s.size := by omega
  have k1 : (1 : Int) < (s.size : Int) := by omega
  have k2 : (2 : Int) < (s.size : Int) := by omega
  have k3 : (3 : Int) < (s.size : Int) := by omega
  go_enter Try.func89, Try.ntmps89
  go_wp2_with fail
  go_quiet (fail)
  go_wp2
  refine HR.out _ _ ⟨?_, below_drewN (Below.refl _ _) _⟩
  rw [num_bytes s h, ← num_or _ _ _ _ (s[0]).toNat_lt (s[1]).toNat_lt (s[2]).toNat_lt (s[3]).toNat_lt]
  rfl

set_option maxHeartbeats 1000000 in
theorem turn_any (x n : Nat) (w : World) (hx : x < 4294967296) (h1 : 1 ≤ n) (h2 : n ≤ 31) :
    Calls Try.prog 65 #[.int .i64 x, .int .i64 n] w fun e w' => e = .returned (.int .i64 (rotr x n : Nat)) ∧ Below w.heap.size w w' := by
  refine calls_by fun R HR => ?_
  go_enter Try.func65, Try.ntmps65
  go_wp2_with fail
  go_quiet (fail)
  go_wp2
  refine HR.out _ _ ⟨?_, below_drewN (Below.refl _ _) _⟩
  show Ending.returned (Value.int .i64 ((bits .or .i64 ((x : Int) / 2 ^ n) (wrap64 ((x : Int) * 2 ^ (32 - n)))).tmod 4294967296)) = _
  have hp : 2 ^ (32 - n) ≤ 2 ^ 31 := Nat.pow_le_pow_right (by decide) (by omega)
  rw [show (2:Nat) ^ 31 = 2147483648 from by decide] at hp
  have hm : x * 2 ^ (32 - n) < 9223372036854775808 := Nat.lt_of_le_of_lt (Nat.mul_le_mul (show x ≤ 4294967295 by omega) hp) (by decide)
  have hw : wrap64 ((x : Int) * 2 ^ (32 - n)) = ((x * 2 ^ (32 - n) : Nat) : Int) := by
    have : ((x * 2 ^ (32 - n) : Nat) : Int) < 9223372036854775808 := by omega
    simp only [Int.natCast_mul, Int.natCast_pow] at this ⊢
    change (x : Int) * 2 ^ (32 - n) < _ at this
    change _ = (x : Int) * 2 ^ (32 - n)
    have h0 : (0 : Int) ≤ (x : Int) * 2 ^ (32 - n) := Int.mul_nonneg (by omega) (Int.pow_nonneg (by decide))
    rw [wrap64]; omega
  have h63 : (2 : Nat) ^ 63 = 9223372036854775808 := by decide
  rw [hw, show (x : Int) / 2 ^ n = ((x / 2 ^ n : Nat) : Int) by simp only [Int.natCast_ediv, Int.natCast_pow]; rfl, or_i64 _ _ (by rw [h63]; exact Nat.lt_of_le_of_lt (Nat.div_le_self _ _) (by omega)) (by rw [h63]; exact hm), rotr, Nat.shiftLeft_eq, Nat.shiftRight_eq_div_pow]
  rw [Int.tmod_eq_emod_of_nonneg (by omega)]
  simp only [Int.natCast_emod]
  rfl

set_option maxHeartbeats 1000000 in
theorem three_shift (x a b c : Nat) (w : World) (hx : x < 4294967296) (ha : 1 ≤ a ∧ a ≤ 31) (hb : 1 ≤ b ∧ b ≤ 31) (hc : 1 ≤ c ∧ c ≤ 31) :
    Calls Try.prog 83 #[.int .u32 x, .int .i64 a, .int .i64 b, .int .i64 c, .bool true] w fun e w' => e = .returned (.int .u32 (sigS x a b c : Nat)) ∧ w' = w := by
  refine calls_by fun R HR => ?_
  obtain ⟨a1, a2⟩ := ha
  obtain ⟨b1, b2⟩ := hb
  obtain ⟨c1, c2⟩ := hc
  go_enter Try.func83, Try.ntmps83
  go_wp2_with fail
  refine (rot_any x c _ hx c1 c2).mono ?_
  rintro e w1 ⟨rfl, rfl⟩
  go_wp2_with fail
  refine (rot_any x a _ hx a1 a2).mono ?_
  rintro e w1 ⟨rfl, rfl⟩
  go_wp2_with fail
  refine (rot_any x b _ hx b1 b2).mono ?_
  rintro e w1 ⟨rfl, rfl⟩
  go_wp2_with fail
  refine HR.out _ _ ⟨?_, rfl⟩
  rw [sigS, ← xor_u32 _ _ (xor32 (rotr_lt _ _) (rotr_lt _ _)) (shr_lt hx c), ← xor_u32 _ _ (rotr_lt _ _) (rotr_lt _ _), Nat.shiftRight_eq_div_pow]
  simp only [Int.natCast_pow, Int.natCast_ediv]
  rfl
set_option maxHeartbeats 1000000 in
theorem three_turn (x a b c : Nat) (w : World) (hx : x < 4294967296) (ha : 1 ≤ a ∧ a ≤ 31) (hb : 1 ≤ b ∧ b ≤ 31) (hc : 1 ≤ c ∧ c ≤ 31) :
    Calls Try.prog 83 #[.int .u32 x, .int .i64 a, .int .i64 b, .int .i64 c, .bool false] w fun e w' => e = .returned (.int .u32 (sigR x a b c : Nat)) ∧ w' = w := by
  refine calls_by fun R HR => ?_
  obtain ⟨a1, a2⟩ := ha
  obtain ⟨b1, b2⟩ := hb
  obtain ⟨c1, c2⟩ := hc
  go_enter Try.func83, Try.ntmps83
  go_wp2_with fail
  refine (rot_any x c _ hx c1 c2).mono ?_
  rintro e w1 ⟨rfl, rfl⟩
  go_wp2_with fail
  refine (rot_any x a _ hx a1 a2).mono ?_
  rintro e w1 ⟨rfl, rfl⟩
  go_wp2_with fail
  refine (rot_any x b _ hx b1 b2).mono ?_
  rintro e w1 ⟨rfl, rfl⟩
  go_wp2_with fail
  refine HR.out _ _ ⟨?_, rfl⟩
  rw [sigR, ← xor_u32 _ _ (xor32 (rotr_lt _ _) (rotr_lt _ _)) (rotr_lt _ _), ← xor_u32 _ _ (rotr_lt _ _) (rotr_lt _ _)]
  rfl
end Go.Proofs.Ytdbabkkmdlkjaaa
/- A state's bytes: the program's text. -/
namespace Ks
open Go Go.RowKit
def u8s (l : List UInt8) : Array Value := (l.map fun b => Value.int .u8 (b.toNat : Int)).toArray
@[simp] theorem u8s_size (l : List UInt8) : (u8s l).size = l.length := by simp [u8s]
theorem u8s_set (l : List UInt8) (i : Nat) (b : UInt8) : (u8s l).setIfInBounds i (.int .u8 (b.toNat : Int)) = u8s (l.set i b) := by simp [u8s, List.map_set]
theorem set4 {α : Type} (A : List α) (z : α) (m n : Nat) (b0 b1 b2 b3 : α) (hA : A.length = n) :
    ((((A ++ List.replicate (m + 4) z).set n b0).set (n + 1) b1).set (n + 2) b2).set (n + 3) b3 = (A ++ [b0, b1, b2, b3]) ++ List.replicate m z := by
  subst hA
  simp [List.replicate_succ, List.set_append_right]
theorem putL4 (n : Nat) : putL 4 n = [UInt8.ofNat (n / 16777216), UInt8.ofNat (n / 65536), UInt8.ofNat (n / 256), UInt8.ofNat n] := by
  simp [putL, Nat.div_div_eq_div_mul]
def textTo (s : St) (k : Nat) : List UInt8 := (s.list.take k).flatMap (putL 4)
theorem run_index_agg {P : Program} {t e : TypeId} {n : Nat} {C : Array Value} {k : Nat} {v : Value} {ik : IntKind} (ht : P.underlying t = some (.array n e)) (he : P.underlying e = some (.int ik)) (hs : (P.info? e).map (·.size) = some 1)
    (hk : k < n) (hv : C[k]? = some v) (w : World) : (Instr.index t (.agg C) (.int .i64 (k : Int))).run P w = .ok v w := by
  have hz : (Go.sizeOf e).run P w = .ok 1 w := by
    cases hq : P.info? e with
    | none => simp [hq] at hs
    | some i =>
      simp [hq] at hs
      simp [Go.sizeOf, typeInfo, hq, hs]
  have hp : (part e C k).run P w = .ok v w := by simp [part, isAgg, run_underlying he, hv]
  have h1 : (0 : Int) ≤ (k : Int) ∧ (k : Int) < (n : Int) := by omega
  unfold Instr.index
  simp [run_underlying ht, asIntOf, h1, hz, hp, hk]
theorem textTo_length (s : St) (k : Nat) (hk : k ≤ 8) : (textTo s k).length = 4 * k := by
  have : ∀ l : List Nat, (l.flatMap (putL 4)).length = 4 * l.length := by
    intro l
    induction l with
    | nil => rfl
    | cons x l ih => simp only [List.flatMap_cons, List.length_append, ih, List.length_cons, putL4, List.length_nil]; omega
  rw [textTo, this, List.length_take]
  show 4 * min k 8 = _
  omega
theorem textTo_pad (s : St) (k : Nat) (hk : k ≤ 8) : (textTo s k ++ List.replicate (32 - 4 * k) (0 : UInt8)).length = 32 := by
  rw [List.length_append, textTo_length s k hk, List.length_replicate]; omega
theorem st_lt {s : St} (hs : s.ok) (k : Nat) : s.list.getD k 0 < 4294967296 := by
  obtain ⟨h1, h2, h3, h4, h5, h6, h7, h8⟩ := hs
  refine getD_lt ?_ k
  intro x hx
  simp only [St.list, List.mem_cons, List.not_mem_nil, or_false] at hx
  rcases hx with rfl | rfl | rfl | rfl | rfl | rfl | rfl | rfl <;> assumption
theorem textTo_succ (s : St) (k : Nat) (hk : k < 8) : textTo s (k + 1) = textTo s k ++ putL 4 (s.list.getD k 0) := by
  have h : k < s.list.length := hk
  rw [textTo, textTo, List.take_add_one, List.getElem?_eq_getElem h, List.flatMap_append, List.getD_eq_getElem?_getD, List.getElem?_eq_getElem h]
  simp
theorem text_step (s : St) (k : Nat) (hk : k < 8) :
    (((((textTo s k ++ List.replicate (32 - 4 * k) 0).set (4 * k) (UInt8.ofNat (s.list.getD k 0 / 16777216))).set (4 * k + 1) (UInt8.ofNat (s.list.getD k 0 / 65536))).set (4 * k + 2) (UInt8.ofNat (s.list.getD k 0 / 256))).set (4 * k + 3) (UInt8.ofNat (s.list.getD k 0))
      = textTo s (k + 1) ++ List.replicate (32 - 4 * (k + 1)) (0 : UInt8)) := by
  rw [show 32 - 4 * k = 32 - 4 * (k + 1) + 4 by omega, set4 _ _ _ _ _ _ _ _ (textTo_length s k (by omega)), textTo_succ s k hk, putL4]
theorem byteV (n : Nat) : (UInt8.ofNat n).toNat = n % 256 := by simp
theorem conv_u8s {P : Program} {src dst e : TypeId} {cap : Nat} (w : World) (t : TypeId) (l : List UInt8) (hs : P.underlying src = some (.slice e)) (he : P.underlying e = some (.int .u8)) (hd : P.underlying dst = some .string) :
    (convert src dst (.slice (some ⟨w.heap.size, 0, none⟩) l.length cap)).run P (w.alloc (.cells (u8s l) t)) = .ok (.string ⟨l.toArray⟩) (w.alloc (.cells (u8s l) t)) := by
  refine run_convert_bytes_back _ src dst e _ cap l hs he hd (fun j hj => ?_)
  have hadd : (⟨w.heap.size, 0, none⟩ : Addr).add j = ⟨w.heap.size, j, none⟩ := by unfold Addr.add; split <;> simp_all
  rw [hadd, cell_of_row _ _ j (u8s l) t (0, 0) (alloc_new _ _)]
  simp [u8s, hj]
theorem textTo_all (s : St) : textTo s 8 = textL s := by
  simp [textTo, St.list, textL]
end Ks
namespace Go.Proofs.Ytdbabkkmdlkjaaa
open Go.RowKit Ks
set_option linter.unusedVariables false

set_option maxRecDepth 20000 in
set_option maxHeartbeats 1000000 in
theorem text_any (s : St) (w : World) (hs : s.ok) : Calls Try.prog 73 #[.agg (u32s s.list)] w fun e w' => e = .returned (.string ⟨(textL s).toArray⟩) ∧ Below w.heap.size w w' := by
  refine calls_by fun R HR => ?_
  obtain ⟨C, hC⟩ : ∃ C, u32s s.list = C := ⟨_, rfl⟩
  rw [hC]
  go_enter Try.func73, Try.ntmps73
  go_wp2_with (refine wpList_loadA rfl 120 _ rfl _ 120 _ C 8 8 rfl (blk_keep (alloc_new _ _) _) Try.underlying120 (by kernel_rfl) (by rw [← hC]; rfl) ?_)
  go_loopw [7] (fun i wx => ∃ k L, k ≤ 8 ∧ i = .int .i64 (k : Nat) ∧ wx = (w.alloc (.cells C 120)).alloc (.cells (u8s L) 138) ∧ Hid (L = textTo s k ++ List.replicate (32 - 4 * k) 0)) (fun i _ => 8 - (intOf i).toNat)
  case atStart => exact ⟨0, List.replicate 32 0, by omega, rfl, rfl, Lib.hid rfl⟩
  case round =>
    obtain ⟨k, L, hk, rfl, rfl, hL⟩ := hrel
    have hlen : L.length = 32 := by rw [hL.out]; exact textTo_pad s k hk
    by_cases hlt : k < 8
    · obtain ⟨n, hn⟩ : ∃ n, s.list.getD k 0 = n := ⟨_, rfl⟩
      have hn1 : n < 4294967296 := by rw [← hn]; exact st_lt hs k
      have hCk : C[k]? = some (.int .u32 (n : Int)) := by rw [← hC, ← hn]; exact u32s_get _ _ hlt
      have hn' := Lib.hid hn
      have hix := fun w => run_index_agg (P := Try.prog) Try.underlying120 Try.underlying118 (by kernel_rfl) hlt hCk w
      obtain ⟨D, hD⟩ : ∃ D, u8s L = D := ⟨_, rfl⟩
      have hDs : D.size = 32 := by rw [← hD, u8s_size, hlen]
      have hD' := Lib.hid hD
      rw [hD]
      have HC := Lib.hid hC
      have HS := Lib.hid hs
      obtain ⟨z0, hz0⟩ : ∃ z, D[4 * k]? = some z := ⟨_, Array.getElem?_eq_getElem (by omega)⟩
      obtain ⟨z1, hz1⟩ : ∃ z, D[4 * k + 1]? = some z := ⟨_, Array.getElem?_eq_getElem (by omega)⟩
      obtain ⟨z2, hz2⟩ : ∃ z, D[4 * k + 2]? = some z := ⟨_, Array.getElem?_eq_getElem (by omega)⟩
      obtain ⟨z3, hz3⟩ : ∃ z, D[4 * k + 3]? = some z := ⟨_, Array.getElem?_eq_getElem (by omega)⟩
      clear hD hn hC hs hlen hCk
      go_wp2
      go_round
      case rel =>
        refine ⟨k + 1, textTo s (k + 1) ++ List.replicate (32 - 4 * (k + 1)) 0, by omega, by go_num, ?_, Lib.hid rfl⟩
        rw [← text_step s k hlt, hn'.out, ← hL.out, ← u8s_set, ← u8s_set, ← u8s_set, ← u8s_set, hD'.out, byteV (n / 16777216), byteV (n / 65536), byteV (n / 256), byteV n, Nat.mod_eq_of_lt (show n / 16777216 < 256 by omega)]
        rfl
      case measure => simp [intOf]; omega
    · obtain rfl : k = 8 := by omega
      clear hC hs hk hlt
      have hconv := conv_u8s (P := Try.prog) (src := 97) (dst := 9) (cap := 32) (w.alloc (.cells C 120)) 138 L Try.underlying97 Try.underlying5 Try.underlying9
      simp only [World.size_alloc] at hconv
      rw [hlen] at hconv
      go_wp2
      refine HR.out _ _ ⟨?_, ((alloc_below w _).alloc (by simp) _)⟩
      rw [← textTo_all, hL.out]
      simp
end Go.Proofs.Ytdbabkkmdlkjaaa
/- A block's numbers: the program's words. -/
namespace Ks
open Go Go.RowKit
theorem wpad_length (B : List UInt8) (k : Nat) (hk : k ≤ 64) : (wordsN B k ++ List.replicate (64 - k) 0).length = 64 := by
  rw [List.length_append, wordsN_length, List.length_replicate]; omega
theorem wpad_set (B : List UInt8) (k x : Nat) (hk : k < 64) (hx : (if k < 16 then num4 B k else wNext (wordsN B k)) = x) :
    (wordsN B k ++ List.replicate (64 - k) 0).set k x = wordsN B (k + 1) ++ List.replicate (64 - (k + 1)) 0 := by
  have h1 := List.set_append_right (s := wordsN B k) (t := 0 :: List.replicate (64 - (k + 1)) 0) k x (by rw [wordsN_length]; omega)
  rw [show 64 - k = 64 - (k + 1) + 1 by omega, List.replicate_succ, h1, wordsN_length, Nat.sub_self, wordsN, hx]
  simp
theorem wpad_get (B : List UInt8) (k j : Nat) (hj : j < k) : (wordsN B k ++ List.replicate (64 - k) 0).getD j 0 = (wordsN B k).getD j 0 := by
  rw [List.getD_eq_getElem?_getD, List.getD_eq_getElem?_getD, List.getElem?_append_left (by rw [wordsN_length]; omega)]
theorem wpad_lt (B : List UInt8) (k : Nat) : ∀ x ∈ wordsN B k ++ List.replicate (64 - k) 0, x < 4294967296 := by
  intro x hx
  rcases List.mem_append.1 hx with hx | hx
  · exact wordsN_lt B k x hx
  · rw [List.eq_of_mem_replicate hx]; decide
theorem num4_extract (s : ByteArray) (k : Nat) (h : s.size = 64) : getN ((s.extract (4 * k) 64).data.toList.take 4) = num4 s.data.toList k := by
  have hl : s.data.toList.length = 64 := by rw [data_length, h]
  rw [num4]
  congr 2
  rw [ByteArray.data_extract, Array.toList_extract, List.extract_eq_take_drop]
  rw [List.take_of_length_le]
  rw [List.length_drop]; omega
theorem wrap_u32_mod (n : Int) : IntKind.u32.wrap n = n % 4294967296 := by simp [IntKind.wrap, IntKind.bits, IntKind.signed]
/-- an array of numbers in a block -/
structure Nums (w : World) (b : Nat) (t : TypeId) (L : List Nat) : Prop where
  blk : w.heap[b]? = some (.cells (u32s L) t (0, 0))
theorem Nums.cell {w : World} {b : Nat} {t : TypeId} {L : List Nat} (h : Nums w b t L) (j : Nat) (hj : j < L.length) : w.cell? ⟨b, j, none⟩ = some (.int .u32 ((L.getD j 0 : Nat) : Int)) := by
  rw [cell_of_row w b j _ _ _ h.blk, u32s_get L j hj]
theorem Nums.frozen {w : World} {b : Nat} {t : TypeId} {L : List Nat} (h : Nums w b t L) (j : Nat) : w.frozen? ⟨b, j, none⟩ = false := frozen_of_row w b j _ _ h.blk
theorem Nums.lt {w : World} {b : Nat} {t : TypeId} {L : List Nat} (h : Nums w b t L) : b < w.heap.size := lt_of_block h.blk
theorem Nums.keep {w w' : World} {b : Nat} {t : TypeId} {L : List Nat} (h : Nums w b t L) (hb : Below w.heap.size w w') : Nums w' b t L := ⟨(hb.block b h.lt).trans h.blk⟩
theorem Nums.set {w : World} {b : Nat} {t : TypeId} {L : List Nat} (h : Nums w b t L) (j x : Nat) : Nums (w.setCell ⟨b, j, none⟩ (.int .u32 (x : Int))) b t (L.set j x) :=
  ⟨by rw [setCell_eq_setRow w b j _ _ _ _ h.blk, setRow_heap w b _ _ _ _ h.blk, u32s_set]⟩
theorem Nums.other {w : World} {b c : Nat} {t : TypeId} {L : List Nat} (h : Nums w b t L) (j : Nat) (v : Value) (hc : b ≠ c) : Nums (w.setCell ⟨c, j, none⟩ v) b t L := ⟨(set_ne v hc).trans h.blk⟩
end Ks
namespace Go.Proofs.Ytdbabkkmdlkjaaa
open Go.RowKit Ks
set_option linter.unusedVariables false

set_option maxRecDepth 20000 in
set_option maxHeartbeats 4000000 in
theorem words_any (s : ByteArray) (w : World) (h : s.size = 64) : Calls Try.prog 81 #[.string s] w fun e w' => e = .returned (.agg (u32s (wordsN s.data.toList 64))) ∧ Below w.heap.size w w' := by
  refine calls_by fun R HR => ?_
  go_enter Try.func81, Try.ntmps81
  go_wp2_with fail
  obtain ⟨W, hW⟩ : ∃ W, (w.alloc (.cells (u32s (List.replicate 64 0)) 133)).alloc (.cells (u32s (List.replicate 64 0)) 133) = W := ⟨_, rfl⟩
  have k2 : Nums W w.heap.size 133 (List.replicate 64 0) := ⟨by rw [← hW]; exact blk_keep (alloc_new _ _) _⟩
  have k3 : Nums W (w.heap.size + 1) 133 (List.replicate 64 0) := ⟨by rw [← hW, ← World.size_alloc (w := w) (o := .cells (u32s (List.replicate 64 0)) 133)]; exact alloc_new _ _⟩
  have kb : Below w.heap.size w W := by rw [← hW]; exact (alloc_below w _).alloc (by simp) _
  change Code.wp _ _ _ _ ((w.alloc (.cells (u32s (List.replicate 64 0)) 133)).alloc (.cells (u32s (List.replicate 64 0)) 133))
  rw [hW]
  have hk2 := Lib.hid k2
  have hk3 := Lib.hid k3
  have hkb := Lib.hid kb
  clear hW k2 k3 kb
  go_loopw [5] (fun i wx => ∃ k L, k ≤ 64 ∧ i = .int .i64 (k : Nat) ∧ Hid (L = wordsN s.data.toList k ++ List.replicate (64 - k) 0) ∧ Hid (Nums wx (w.heap.size + 1) 133 L ∧ Nums wx w.heap.size 133 (List.replicate 64 0) ∧ Below w.heap.size w wx)) (fun i _ => 64 - (intOf i).toNat)
  case atStart => exact ⟨0, _, by omega, rfl, Lib.hid rfl, Lib.hid ⟨hk3.out, hk2.out, hkb.out⟩⟩
  case round =>
    obtain ⟨k, L, hk, rfl, hL, hN⟩ := hrel
    have hlen : L.length = 64 := by rw [hL.out]; exact wpad_length _ k hk
    by_cases hlt : k < 64
    · by_cases h16 : k < 16
      · have hx := Lib.hid (wpad_set s.data.toList k (num4 s.data.toList k) hlt (if_pos h16))
        go_wp2_with fail
        refine (number_any (s.extract (4 * k) 64) _ (by rw [ByteArray.size_extract]; omega)).mono ?_
        rintro e w1 ⟨rfl, hb⟩
        rw [num4_extract s k h]
        obtain ⟨n3, n2, nb⟩ := hN.out
        have n3' := n3.keep hb
        have n2' := n2.keep hb
        have c1 := n3'.cell k (by omega)
        have f1 := n3'.frozen k
        have hM := Lib.hid (And.intro n3' (And.intro n2' (nb.trans (hb.mono nb.size))))
        clear n3 n2 nb n3' n2' hb hN
        go_wp2
        go_round
        case rel =>
          refine ⟨k + 1, _, by omega, by go_num, Lib.hid rfl, Lib.hid ⟨?_, hM.out.2.1.other _ _ (by omega), hM.out.2.2.setCell (by simp) _⟩⟩
          rw [← hx.out, ← hL.out]
          exact hM.out.1.set _ _
        case measure => simp [intOf]; omega
      · have hx := Lib.hid (wpad_set s.data.toList k (wNext (wordsN s.data.toList k)) hlt (if_neg h16))
        go_wp2_with fail
        obtain ⟨n3, n2, nb⟩ := hN.out
        obtain ⟨y16, h16'⟩ : ∃ y, L.getD (k - 16) 0 = y := ⟨_, rfl⟩
        obtain ⟨y15, h15'⟩ : ∃ y, L.getD (k - 15) 0 = y := ⟨_, rfl⟩
        obtain ⟨y7, h7'⟩ : ∃ y, L.getD (k - 7) 0 = y := ⟨_, rfl⟩
        obtain ⟨y2, h2'⟩ : ∃ y, L.getD (k - 2) 0 = y := ⟨_, rfl⟩
        have c16 := n3.cell (k - 16) (by omega)
        have c15 := n3.cell (k - 15) (by omega)
        have c7 := n3.cell (k - 7) (by omega)
        have c2 := n3.cell (k - 2) (by omega)
        rw [h16'] at c16
        rw [h15'] at c15
        rw [h7'] at c7
        rw [h2'] at c2
        have hl : ∀ j, L.getD j 0 < 4294967296 := fun j => by rw [hL.out]; exact getD_lt (wpad_lt s.data.toList k) j
        have l15 : y15 < 4294967296 := by rw [← h15']; exact hl _
        have l2 : y2 < 4294967296 := by rw [← h2']; exact hl _
        have hV : Hid ((y16 + sigS y15 7 18 3 + y7 + sigS y2 17 19 10) % 4294967296 = wNext (wordsN s.data.toList k)) := Lib.hid (by
          rw [wNext, wordsN_length, ← wpad_get _ k (k - 16) (by omega), ← wpad_get _ k (k - 15) (by omega), ← wpad_get _ k (k - 7) (by omega), ← wpad_get _ k (k - 2) (by omega), ← hL.out, h16', h15', h7', h2'])
        have n3f := n3.frozen k
        have n3c := n3.cell k (by omega)
        clear h16' h15' h7' h2' hl n2 nb n3
        obtain ⟨j16, r16⟩ : ∃ j, k - 16 = j := ⟨_, rfl⟩
        obtain ⟨j15, r15⟩ : ∃ j, k - 15 = j := ⟨_, rfl⟩
        obtain ⟨j7, r7⟩ : ∃ j, k - 7 = j := ⟨_, rfl⟩
        obtain ⟨j2, r2⟩ : ∃ j, k - 2 = j := ⟨_, rfl⟩
        rw [r16] at c16
        rw [r15] at c15
        rw [r7] at c7
        rw [r2] at c2
        have w16 : IntKind.i64.wrap ((k : Int) - 16) = (j16 : Int) := by rw [IntKind.wrap_i64]; omega
        have w15 : IntKind.i64.wrap ((k : Int) - 15) = (j15 : Int) := by rw [IntKind.wrap_i64]; omega
        have w7 : IntKind.i64.wrap ((k : Int) - 7) = (j7 : Int) := by rw [IntKind.wrap_i64]; omega
        have w2 : IntKind.i64.wrap ((k : Int) - 2) = (j2 : Int) := by rw [IntKind.wrap_i64]; omega
        have b16 : (j16 : Int) < 64 := by omega
        have b15 : (j15 : Int) < 64 := by omega
        have b7 : (j7 : Int) < 64 := by omega
        have b2 : (j2 : Int) < 64 := by omega
        clear r16 r15 r7 r2
        have t15 : ∀ w : World, Calls Try.prog 83 #[.int .u32 y15, .int .i64 7, .int .i64 18, .int .i64 3, .bool true] w fun e w' => e = .returned (.int .u32 (sigS y15 7 18 3 : Nat)) ∧ w' = w :=
          fun w => three_shift y15 7 18 3 w l15 (by decide) (by decide) (by decide)
        have t2 : ∀ w : World, Calls Try.prog 83 #[.int .u32 y2, .int .i64 17, .int .i64 19, .int .i64 10, .bool true] w fun e w' => e = .returned (.int .u32 (sigS y2 17 19 10 : Nat)) ∧ w' = w :=
          fun w => three_shift y2 17 19 10 w l2 (by decide) (by decide) (by decide)
        obtain ⟨A, hA⟩ : ∃ A, sigS y15 7 18 3 = A := ⟨_, rfl⟩
        obtain ⟨E, hE⟩ : ∃ E, sigS y2 17 19 10 = E := ⟨_, rfl⟩
        rw [hA] at t15 hV
        rw [hE] at t2 hV
        have T15 := Lib.hid t15
        have T2 := Lib.hid t2
        clear hA hE t15 t2 l15 l2
        refine wp_region_still_tail 22 (by kernel_rfl) (by kernel_rfl) ?_
        simp only [List.take_succ_cons, List.take_zero, List.drop_succ_cons, List.drop_zero]
        repeat still_step
        still_call (T15.out _)
        repeat still_step
        still_call (T2.out _)
        repeat still_step
        refine wpStill_nil ?_
        change wpList _ _ _ _ _ wr.drew
        obtain ⟨V, hVV⟩ : ∃ V, wNext (wordsN s.data.toList k) = V := ⟨_, rfl⟩
        have hw : IntKind.u32.wrap (IntKind.u32.wrap (IntKind.u32.wrap ((y16 : Int) + A) + y7) + E) = (V : Int) := by
          have := hV.out
          simp only [wrap_u32_mod]
          omega
        rw [hw]
        have hbd := drew_below wr
        have hM := Lib.hid (And.intro (hN.out.1.keep hbd) (And.intro (hN.out.2.1.keep hbd) (hN.out.2.2.trans (hbd.mono hN.out.2.2.size))))
        rw [hVV] at hx
        clear hVV hw hV hbd hN c16 c15 c7 c2 w16 w15 w7 w2 b16 b15 b7 b2 n3c n3f
        generalize wr.drew = w1 at *
        have c1 := hM.out.1.cell k (by omega)
        have f1 := hM.out.1.frozen k
        go_wp2
        go_round
        case rel =>
          refine ⟨k + 1, _, by omega, by go_num, Lib.hid rfl, Lib.hid ⟨?_, hM.out.2.1.other _ _ (by omega), hM.out.2.2.setCell (by simp) _⟩⟩
          rw [← hx.out, ← hL.out]
          exact hM.out.1.set _ _
        case measure => simp [intOf]; omega
    · obtain rfl : k = 64 := by omega
      obtain ⟨n3, n2, nb⟩ := hN.out
      have e1 := Lib.hid n3.blk
      have e2 := Lib.hid n2.blk
      have e3 := Lib.hid nb
      have e4 := Lib.hid (show (u32s L).size = 64 by rw [u32s_size, hlen])
      have e5 := Lib.hid (show L = wordsN s.data.toList 64 by rw [hL.out]; simp)
      clear n3 n2 nb hN hL hlen
      go_wp2_with (first
        | refine wpList_loadA rfl 133 _ rfl _ 133 _ _ 64 64 rfl e1.out Try.underlying133 (by kernel_rfl) e4.out ?_
        | refine wpList_storeA rfl 133 _ _ rfl _ 133 _ _ 64 rfl rfl e2.out (by kernel_rfl) e4.out (by simp) (u32s_one _) ?_)
      exact ret_arr (N := 64) (C := u32s L) Try.results81 rfl (setRow_heap _ _ _ _ _ _ e2.out) Try.underlying133 (by kernel_rfl) e4.out rfl (HR.out _ _ ⟨by rw [e5.out], below_setRow e3.out (Nat.le_refl _) _⟩)
end Go.Proofs.Ytdbabkkmdlkjaaa
/- The digest's constants: the first state, the rounds' numbers; the reference's. -/
namespace Go.Proofs.Ytdbabkkmdlkjaaa
open Go.RowKit Ks
set_option linter.unusedVariables false

set_option maxHeartbeats 1000000 in
theorem first_any (w : World) : Calls Try.prog 68 #[] w fun e w' => e = .returned (.agg (u32s st0.list)) ∧ Below w.heap.size w w' := by
  refine calls_by fun R HR => ?_
  go_enter Try.func68, Try.ntmps68
  go_wp2_with fail
  exact ret_arr (N := 8) (C := u32s st0.list) Try.results68 rfl (alloc_new _ _) Try.underlying120 (by kernel_rfl) rfl rfl (HR.out _ _ ⟨rfl, alloc_below _ _⟩)
set_option maxHeartbeats 4000000 in
set_option maxRecDepth 100000 in
theorem constants_any (w : World) : Calls Try.prog 82 #[] w fun e w' => e = .returned (.agg (u32s kays)) ∧ Below w.heap.size w w' := by
  refine calls_by fun R HR => ?_
  go_enter Try.func82, Try.ntmps82
  go_wp2_with (refine wpList_storeN rfl 133 _ _ rfl 133 _ (u32s kays) 64 rfl rfl (by kernel_rfl) rfl rfl (u32s_one _) ?_)
  exact ret_arr (N := 64) (C := u32s kays) Try.results82 rfl (alloc_new _ _) Try.underlying133 (by kernel_rfl) rfl rfl (HR.out _ _ ⟨rfl, alloc_below _ _⟩)
set_option maxHeartbeats 1000000 in
theorem begin_any (w : World) : Calls Try.prog 42 #[] w fun e w' => e = .returned (.agg (i64s st0.list)) ∧ Below w.heap.size w w' := by
  refine calls_by fun R HR => ?_
  go_enter Try.func42, Try.ntmps42
  go_wp2_with fail
  exact ret_arr (N := 8) (C := i64s st0.list) Try.results42 rfl (alloc_new _ _) Try.underlying84 (by kernel_rfl) rfl rfl (HR.out _ _ ⟨rfl, alloc_below _ _⟩)
set_option maxHeartbeats 4000000 in
set_option maxRecDepth 100000 in
theorem rounds_any (w : World) : Calls Try.prog 43 #[] w fun e w' => e = .returned (.agg (i64s kays)) ∧ Below w.heap.size w w' := by
  refine calls_by fun R HR => ?_
  go_enter Try.func43, Try.ntmps43
  go_wp2_with (refine wpList_storeN rfl 86 _ _ rfl 86 _ (i64s kays) 64 rfl rfl (by kernel_rfl) rfl rfl (i64s_one _) ?_)
  exact ret_arr (N := 64) (C := i64s kays) Try.results43 rfl (alloc_new _ _) Try.underlying86 (by kernel_rfl) rfl rfl (HR.out _ _ ⟨rfl, alloc_below _ _⟩)
end Go.Proofs.Ytdbabkkmdlkjaaa
