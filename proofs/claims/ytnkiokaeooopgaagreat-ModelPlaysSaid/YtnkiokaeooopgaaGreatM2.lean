/- Texts that the claim rests on, part 2: MapList, BookPlain, UnpackPlain, CellPlain, TextPlain, CellPlain2, CellPlain3, OctetOrderPlain, OctetBackPlain, CellBackPlain, ShaPlain, ShaFold, GeoPlain, ModPlain. -/
import Derived.Maps.OwnSet
import Derived.Maps.RangeWalk
import Derived.Lib.Repeat
import Derived.Laws.Bits64
import Derived.Laws.Bits64b
import Derived.Test.YtnkiokaeooopgaaGreatM1
/- A map in a block as the list of its entries: what is looked up, put, struck, counted, gone through. Plain. No program is in sight. -/
namespace Ks
open Go Go.RowKit Go.ChangeMaps Go.MapKept Go.Maps
set_option linter.unusedVariables false
set_option linter.unusedSectionVars false
section plain
variable {κ α : Type} [DecidableEq κ]
def look : List (κ × α) → κ → Option α
  | [], _ => none
  | p :: m, x => if p.1 = x then some p.2 else look m x
def putM : List (κ × α) → κ → α → List (κ × α)
  | [], x, v => [(x, v)]
  | p :: m, x, v => if p.1 = x then (x, v) :: m else p :: putM m x v
def delM : List (κ × α) → κ → List (κ × α)
  | [], _ => []
  | p :: m, x => if p.1 = x then m else p :: delM m x
/-- no key stands twice -/
def Once (m : List (κ × α)) : Prop := m.Pairwise fun p q => p.1 ≠ q.1
theorem look_none {m : List (κ × α)} {x : κ} : look m x = none ↔ ∀ p ∈ m, p.1 ≠ x := by
  induction m with
  | nil => simp [look]
  | cons p m ih =>
    rw [look]
    split
    · rename_i h; simp [h]
    · rename_i h; rw [ih]; simp [h]
theorem look_mem {m : List (κ × α)} {x : κ} {v : α} (h : look m x = some v) : (x, v) ∈ m := by
  induction m with
  | nil => cases h
  | cons p m ih =>
    rw [look] at h
    split at h
    · rename_i e; cases h; subst e; simp
    · exact List.mem_cons_of_mem _ (ih h)
theorem look_of_mem {m : List (κ × α)} (ho : Once m) {p : κ × α} (h : p ∈ m) : look m p.1 = some p.2 := by
  induction m with
  | nil => cases h
  | cons q m ih =>
    obtain ⟨h1, h2⟩ := List.pairwise_cons.1 ho
    rw [look]
    rcases List.mem_cons.1 h with rfl | h
    · rw [if_pos rfl]
    · rw [if_neg (h1 p h)]; exact ih h2 h
theorem look_at {m : List (κ × α)} (ho : Once m) {j : Nat} {p : κ × α} (h : m[j]? = some p) : look m p.1 = some p.2 := look_of_mem ho (List.mem_of_getElem? h)
theorem put_none {m : List (κ × α)} {x : κ} (v : α) (h : ∀ p ∈ m, p.1 ≠ x) : putM m x v = m ++ [(x, v)] := by
  induction m with
  | nil => rfl
  | cons p m ih =>
    rw [putM, if_neg (h p (by simp)), ih fun q hq => h q (by simp [hq])]; rfl
theorem put_at {m : List (κ × α)} (ho : Once m) {j : Nat} {p : κ × α} (v : α) (h : m[j]? = some p) : putM m p.1 v = m.set j (p.1, v) := by
  induction m generalizing j with
  | nil => simp at h
  | cons q m ih =>
    obtain ⟨h1, h2⟩ := List.pairwise_cons.1 ho
    rw [putM]
    cases j with
    | zero => simp at h; subst h; simp
    | succ j =>
      have hm : m[j]? = some p := by simpa using h
      rw [if_neg (h1 p (List.mem_of_getElem? hm)), ih h2 hm]; rfl
theorem del_none {m : List (κ × α)} {x : κ} (h : ∀ p ∈ m, p.1 ≠ x) : delM m x = m := by
  induction m with
  | nil => rfl
  | cons p m ih => rw [delM, if_neg (h p (by simp)), ih fun q hq => h q (by simp [hq])]
theorem del_at {m : List (κ × α)} (ho : Once m) {j : Nat} {p : κ × α} (h : m[j]? = some p) : delM m p.1 = m.eraseIdx j := by
  induction m generalizing j with
  | nil => simp at h
  | cons q m ih =>
    obtain ⟨h1, h2⟩ := List.pairwise_cons.1 ho
    rw [delM]
    cases j with
    | zero => simp at h; subst h; simp
    | succ j =>
      have hm : m[j]? = some p := by simpa using h
      rw [if_neg (h1 p (List.mem_of_getElem? hm)), ih h2 hm]; rfl
theorem mem_put {m : List (κ × α)} {x : κ} {v : α} {p : κ × α} (h : p ∈ putM m x v) : p = (x, v) ∨ p ∈ m := by
  induction m with
  | nil => simp [putM] at h; exact Or.inl h
  | cons q m ih =>
    rw [putM] at h
    split at h
    · rcases List.mem_cons.1 h with h | h
      · exact Or.inl h
      · exact Or.inr (List.mem_cons_of_mem _ h)
    · rcases List.mem_cons.1 h with rfl | h
      · exact Or.inr (by simp)
      · rcases ih h with h | h
        · exact Or.inl h
        · exact Or.inr (List.mem_cons_of_mem _ h)
theorem mem_del {m : List (κ × α)} {x : κ} {p : κ × α} (h : p ∈ delM m x) : p ∈ m := by
  induction m with
  | nil => cases h
  | cons q m ih =>
    rw [delM] at h
    split at h
    · exact List.mem_cons_of_mem _ h
    · rcases List.mem_cons.1 h with rfl | h
      · simp
      · exact List.mem_cons_of_mem _ (ih h)
theorem once_put {m : List (κ × α)} (ho : Once m) (x : κ) (v : α) : Once (putM m x v) := by
  induction m with
  | nil => simp [putM, Once]
  | cons q m ih =>
    obtain ⟨h1, h2⟩ := List.pairwise_cons.1 ho
    rw [putM]
    split
    · rename_i e
      subst e
      exact List.pairwise_cons.2 ⟨h1, h2⟩
    · rename_i e
      refine List.pairwise_cons.2 ⟨fun p hp => ?_, ih h2⟩
      rcases mem_put hp with rfl | hp
      · exact e
      · exact h1 p hp
theorem once_del {m : List (κ × α)} (ho : Once m) (x : κ) : Once (delM m x) := by
  induction m with
  | nil => exact ho
  | cons q m ih =>
    obtain ⟨h1, h2⟩ := List.pairwise_cons.1 ho
    rw [delM]
    split
    · exact h2
    · exact List.pairwise_cons.2 ⟨fun p hp => h1 p (mem_del hp), ih h2⟩
theorem look_put (m : List (κ × α)) (x : κ) (v : α) (y : κ) : look (putM m x v) y = if x = y then some v else look m y := by
  induction m with
  | nil => simp [putM, look]
  | cons q m ih =>
    rw [putM]
    split
    · rename_i e
      subst e
      rw [look, look]
      by_cases h : q.1 = y <;> simp [h]
    · rename_i e
      rw [look, look, ih]
      by_cases h : q.1 = y
      · have : ¬ x = y := fun e2 => e (by rw [h, e2])
        simp [h, this]
      · simp [h]
theorem look_del {m : List (κ × α)} (ho : Once m) (x y : κ) : look (delM m x) y = if x = y then none else look m y := by
  induction m with
  | nil => simp [delM, look]
  | cons q m ih =>
    obtain ⟨h1, h2⟩ := List.pairwise_cons.1 ho
    rw [delM]
    split
    · rename_i e
      subst e
      rw [look]
      by_cases h : q.1 = y
      · subst h
        rw [if_pos rfl]
        exact look_none.2 fun p hp => (h1 p hp).symm
      · rw [if_neg h, if_neg h]
    · rename_i e
      rw [look, look, ih h2]
      by_cases h : q.1 = y
      · have : ¬ x = y := fun e2 => e (by rw [h, e2])
        simp [h, this]
      · simp [h]
theorem length_put (m : List (κ × α)) (x : κ) (v : α) : (putM m x v).length = m.length + if look m x = none then 1 else 0 := by
  induction m with
  | nil => simp [putM, look]
  | cons q m ih =>
    rw [putM, look]
    split
    · simp
    · rw [List.length_cons, ih, List.length_cons]; omega
theorem length_put_le (m : List (κ × α)) (x : κ) (v : α) : (putM m x v).length ≤ m.length + 1 := by
  rw [length_put]; split <;> omega
end plain
section map
variable {κ α : Type} [DecidableEq κ]
/-- how keys and elements stand in a map -/
structure KV (P : Program) (k : TypeId) (κ α : Type) where
  key : κ → Value
  val : α → Value
  inj : ∀ {a b : κ}, key a = key b → a = b
variable {P : Program} {k : TypeId} {K : KV P k κ α} {w : World} {b : Nat} {m : List (κ × α)}
def KV.ok (K : KV P k κ α) (x : κ) : Prop := ∃ l, keyOf P k (K.key x) = some l
/-- block b is a map with these entries -/
def MapAt (K : KV P k κ α) (w : World) (b : Nat) (m : List (κ × α)) : Prop :=
  ∃ es clock, w.heap[b]? = some (.map es clock) ∧ Stamped es clock ∧ es.toList.map (fun e => (e.key, e.val)) = m.map (fun p => (K.key p.1, K.val p.2)) ∧ ∀ p ∈ m, K.ok p.1
theorem MapAt.lt (h : MapAt K w b m) : b < w.heap.size := by
  obtain ⟨es, clock, hb, _⟩ := h
  exact (Array.getElem?_eq_some_iff.1 hb).1
theorem MapAt.keep {w' : World} (h : MapAt K w b m) (e : w'.heap[b]? = w.heap[b]?) : MapAt K w' b m := by
  obtain ⟨es, clock, hb, r⟩ := h
  exact ⟨es, clock, e.trans hb, r⟩
theorem MapAt.below {w' : World} (h : MapAt K w b m) (hb : Below w.heap.size w w') : MapAt K w' b m := h.keep (hb.block b h.lt)
theorem MapAt.turn {w' : World} {F F' : Nat → Prop} (h : MapAt K w b m) (hT : Turn w w' F F') (hF : ¬ F b) : MapAt K w' b m := h.keep (hT.block b h.lt hF)
theorem MapAt.made (K : KV P k κ α) (w : World) : MapAt K (w.alloc (.map #[] 0)) w.heap.size [] :=
  ⟨#[], 0, alloc_new w _, stamped_empty 0, rfl, by simp⟩
theorem MapAt.of_blk (h : w.heap[b]? = some (.map #[] 0)) : MapAt K w b [] := ⟨#[], 0, h, stamped_empty 0, rfl, by simp⟩
theorem map_nth {es : List MapEntry} (h : es.map (fun e => (e.key, e.val)) = m.map (fun p => (K.key p.1, K.val p.2))) (j : Nat) {e : MapEntry} (he : es[j]? = some e) : ∃ p, m[j]? = some p ∧ e.key = K.key p.1 ∧ e.val = K.val p.2 := by
  have := congrArg (·[j]?) h
  simp only [List.getElem?_map, he, Option.map_some] at this
  cases hm : m[j]? with
  | none => rw [hm] at this; cases this
  | some p =>
    rw [hm] at this
    simp only [Option.map_some, Option.some.injEq, Prod.mk.injEq] at this
    exact ⟨p, rfl, this.1, this.2⟩
theorem map_nth' {es : List MapEntry} (h : es.map (fun e => (e.key, e.val)) = m.map (fun p => (K.key p.1, K.val p.2))) (j : Nat) {p : κ × α} (hp : m[j]? = some p) : ∃ e, es[j]? = some e ∧ e.key = K.key p.1 ∧ e.val = K.val p.2 := by
  have := congrArg (·[j]?) h
  simp only [List.getElem?_map, hp, Option.map_some] at this
  cases hm : es[j]? with
  | none => rw [hm] at this; cases this
  | some e =>
    rw [hm] at this
    simp only [Option.map_some, Option.some.injEq, Prod.mk.injEq] at this
    exact ⟨e, rfl, this.1, this.2⟩
theorem MapAt.once (h : MapAt K w b m) : Once m := by
  obtain ⟨es, clock, hb, hs, he, -⟩ := h
  have hn := ((stamped_iff es clock).1 hs).2.2
  rw [Once, List.pairwise_iff_getElem]
  intro i j hi hj hij e
  obtain ⟨x, hx, kx, -⟩ := map_nth' he i (List.getElem?_eq_getElem hi)
  obtain ⟨y, hy, ky, -⟩ := map_nth' he j (List.getElem?_eq_getElem hj)
  rw [List.pairwise_iff_getElem] at hn
  obtain ⟨hi', rfl⟩ := List.getElem?_eq_some_iff.1 hx
  obtain ⟨hj', rfl⟩ := List.getElem?_eq_some_iff.1 hy
  exact hn i j hi' hj' hij (by rw [kx, ky, e])
theorem MapAt.len (h : MapAt K w b m) {t e : TypeId} (ht : P.underlying t = some (.map k e)) (ty : TypeId) : (Builtin.len_ #[t] ty #[.map (some b)]).run P w = .ok (.int .i64 m.length) w := by
  obtain ⟨es, clock, hb, hs, he, -⟩ := h
  have e1 : m.length = es.size := by
    have := congrArg List.length he
    simpa using this.symm
  rw [e1]
  simp [Builtin.len_, run_underlying ht, run_getObj_map hb, goInt, Result.andThen]
/-- what a look-up yields -/
def lookV (val : α → Value) (z : Value) (c : Bool) : Option α → Value
  | none => if c then .tuple #[z, .bool false] else z
  | some v => if c then .tuple #[val v, .bool true] else val v
/-- where a key stands among the entries -/
theorem MapAt.find (h : MapAt K w b m) (KL : Keyed P k) {x : κ} (hx : K.ok x) :
    ∃ es clock, w.heap[b]? = some (.map es clock) ∧ Stamped es clock ∧ es.toList.map (fun e => (e.key, e.val)) = m.map (fun p => (K.key p.1, K.val p.2)) ∧ (∀ p ∈ m, K.ok p.1) ∧
      (((Instr.findKey k (K.key x) es.toList).run P w = .ok none w ∧ (∀ p ∈ m, p.1 ≠ x) ∧ ∀ e ∈ es.toList, e.key ≠ K.key x) ∨
       ∃ j e v, (Instr.findKey k (K.key x) es.toList).run P w = .ok (some (j, K.val v)) w ∧ es.toList[j]? = some e ∧ e.key = K.key x ∧ e.val = K.val v ∧ m[j]? = some (x, v)) := by
  obtain ⟨es, clock, hb, hs, he, hk⟩ := h
  obtain ⟨l, hl⟩ := hx
  have hkeys : ∀ e ∈ es.toList, ∃ l, keyOf P k e.key = some l := fun e hm => by
    obtain ⟨j, hj⟩ := List.mem_iff_getElem?.1 hm
    obtain ⟨p, hp, kp, -⟩ := map_nth he j hj
    obtain ⟨l, hl⟩ := hk p (List.mem_of_getElem? hp)
    exact ⟨l, kp ▸ hl⟩
  refine ⟨es, clock, hb, hs, he, hk, ?_⟩
  rcases KL.find w hl es.toList hkeys with ⟨h1, h2⟩ | ⟨j, e, h1, h2, h3⟩
  · refine Or.inl ⟨h1, fun p hp e => ?_, h2⟩
    obtain ⟨j, hj⟩ := List.mem_iff_getElem?.1 hp
    obtain ⟨y, hy, ky, -⟩ := map_nth' he j hj
    exact h2 y (List.mem_of_getElem? hy) (by rw [ky, e])
  · obtain ⟨p, hp, kp, vp⟩ := map_nth he j h2
    have : p.1 = x := K.inj (kp.symm.trans h3)
    refine Or.inr ⟨j, e, p.2, by rw [← vp]; exact h1, h2, h3, vp, by rw [hp, ← this]⟩
theorem MapAt.look (h : MapAt K w b m) (KL : Keyed P k) {t e : TypeId} (ht : P.underlying t = some (.map k e)) {z : Value} (hz : (zeroValue e).run P w = .ok z w) {x : κ} (hx : K.ok x) (c : Bool) :
    (Instr.lookup t (.map (some b)) (K.key x) c).run P w = .ok (lookV K.val z c (Ks.look m x)) w := by
  have ho := h.once
  obtain ⟨es, clock, hb, hs, he, hk, hf⟩ := h.find KL hx
  obtain ⟨l, hl⟩ := hx
  rcases hf with ⟨h1, h2, -⟩ | ⟨j, e0, v, h1, h2, h3, h4, h5⟩
  · rw [look_none.2 h2]
    simp [Instr.lookup, run_underlying ht, run_getObj_map hb, KL.check w _ hl, h1, hz, Result.andThen, lookV]
  · rw [show Ks.look m x = some v from look_at ho h5]
    simp [Instr.lookup, run_underlying ht, run_getObj_map hb, KL.check w _ hl, h1, Result.andThen, lookV]
theorem MapAt.put (h : MapAt K w b m) (KL : Keyed P k) {t e : TypeId} (ht : P.underlying t = some (.map k e)) {x : κ} (hx : K.ok x) (v : α) :
    ∃ w', (Instr.mapUpdate t (.map (some b)) (K.key x) (K.val v)).run P w = .ok () w' ∧ MapAt K w' b (putM m x v) ∧ Turn w w' (fun k => k = b) (fun k => k = b) := by
  have ho := h.once
  obtain ⟨es, clock, hb, hs, he, hk, hf⟩ := h.find KL hx
  have hx0 := hx
  obtain ⟨l, hl⟩ := hx
  have hT : ∀ o, Turn w (setBlock w b o) (fun k => k = b) (fun k => k = b) := fun o => ⟨rfl, rfl, rfl, by simp [setBlock], fun k _ hk => heap_setBlock_other hb o hk, fun k hk => Or.inl hk⟩
  have hok : ∀ p ∈ putM m x v, K.ok p.1 := fun p hp => by
    rcases mem_put hp with rfl | hp
    · exact hx0
    · exact hk p hp
  rcases hf with ⟨h1, h2, h3⟩ | ⟨j, e0, v0, h1, h2, h3, h4, h5⟩
  · refine ⟨setBlock w b (.map (es.push ⟨K.key x, K.val v, clock⟩) (clock + 1)), ?_, ⟨_, _, heap_setBlock_same hb _, stamped_push hs h3, ?_, hok⟩, hT _⟩
    · simp [Instr.mapUpdate, run_underlying ht, run_getObj_map hb, KL.check w false hl, h1, run_setObj_map _ hb, Result.andThen, setBlock]
    · rw [put_none v h2, Array.toList_push, List.map_append, he, List.map_append]; rfl
  · have hj : es[j]? = some e0 := by simpa using h2
    refine ⟨setBlock w b (.map (es.modify j (fun e' => { e' with key := K.key x, val := K.val v })) clock), ?_, ⟨_, _, heap_setBlock_same hb _, stamped_modify hs _ _ (fun _ _ => rfl) (fun e' _ he' => ?_), ?_, hok⟩, hT _⟩
    · simp [Instr.mapUpdate, run_underlying ht, run_getObj_map hb, KL.check w false hl, h1, hj, h3, KL.stays w hl, run_setObj_map _ hb, Result.andThen, setBlock]
    · rw [hj] at he'; cases he'; exact h3.symm
    · rw [show putM m x v = m.set j (x, v) from put_at ho v h5, Array.toList_modify, modify_eq_set _ _ _ _ h2, List.map_set, he, List.map_set]
theorem MapAt.del (h : MapAt K w b m) (KL : Keyed P k) {t e : TypeId} (ht : P.underlying t = some (.map k e)) {x : κ} (hx : K.ok x) (ty : TypeId) :
    ∃ w', (Builtin.delete_ #[t, k] ty #[.map (some b), K.key x]).run P w = .ok (.tuple #[]) w' ∧ MapAt K w' b (delM m x) ∧ Turn w w' (fun k => k = b) (fun k => k = b) := by
  have ho := h.once
  obtain ⟨es, clock, hb, hs, he, hk, hf⟩ := h.find KL hx
  obtain ⟨l, hl⟩ := hx
  have hT : ∀ o, Turn w (setBlock w b o) (fun k => k = b) (fun k => k = b) := fun o => ⟨rfl, rfl, rfl, by simp [setBlock], fun k _ hk => heap_setBlock_other hb o hk, fun k hk => Or.inl hk⟩
  have hok : ∀ p ∈ delM m x, K.ok p.1 := fun p hp => hk p (mem_del hp)
  rcases hf with ⟨h1, h2, h3⟩ | ⟨j, e0, v0, h1, h2, h3, h4, h5⟩
  · refine ⟨setBlock w b (.map es clock), ?_, ⟨_, _, heap_setBlock_same hb _, hs, ?_, hok⟩, hT _⟩
    · simp [Builtin.delete_, run_underlying ht, run_getObj_map hb, KL.check w _ hl, h1, run_setObj_map _ hb, Result.andThen, setBlock]
    · rw [del_none h2]; exact he
  · have hjl : j < es.toList.length := (List.getElem?_eq_some_iff.1 h2).1
    have hjs : j < es.size := by simpa using hjl
    have hsub : (es.eraseIdxIfInBounds j).toList = es.toList.eraseIdx j := by
      unfold Array.eraseIdxIfInBounds
      rw [dif_pos hjs]
      simp
    refine ⟨setBlock w b (.map (es.eraseIdxIfInBounds j) clock), ?_, ⟨_, _, heap_setBlock_same hb _, stamped_erase hs j, ?_, hok⟩, hT _⟩
    · simp [Builtin.delete_, run_underlying ht, run_getObj_map hb, KL.check w _ hl, h1, run_setObj_map _ hb, Result.andThen, setBlock]
    · rw [show delM m x = m.eraseIdx j from del_at ho h5, hsub, ChangeMaps.map_eraseIdx, he, ChangeMaps.map_eraseIdx]
end map
/-! ### at the operation -/
section walk
variable {κ α : Type} [DecidableEq κ] {P : Program} {k : TypeId} {K : KV P k κ α} (w : World) {ops : Array Oper} {rest : List Oper} {o : Oper} {a : Act} {Q : Exit → Act → World → Prop} {b : Nat} {m : List (κ × α)}
theorem wpList_look (hg : o.guard = none) (mm x : Operand) (t : TypeId) (c : Bool) (hop : o.op = Op.lookup t mm x c) (e : TypeId) (KL : Keyed P k) (ht : P.underlying t = some (.map k e)) {z : Value} (hz : (zeroValue e).run P w = .ok z w)
    (h : MapAt K w b m) (hm : a.eval mm = .map (some b)) (y : κ) (hx : a.eval x = K.key y) (hy : K.ok y) (V : Value) (hV : lookV K.val z c (look m y) = V)
    (hK : wpList P ops Q rest (a.put o.dst V) w) : wpList P ops Q (o :: rest) a w := by
  refine wpList_plain hg fun K' hK' => ?_
  have hrun := h.look KL ht hz hy c
  rw [hV] at hrun
  unfold Oper.wp
  simp [execOp, hop, hm, hx, hrun, Result.andThen]
  exact hK' _ _ hK
theorem wpList_put (hg : o.guard = none) (mm x v : Operand) (t : TypeId) (hop : o.op = Op.mapUpdate t mm x v) (e : TypeId) (KL : Keyed P k) (ht : P.underlying t = some (.map k e))
    (h : MapAt K w b m) (hm : a.eval mm = .map (some b)) (y : κ) (u : α) (hx : a.eval x = K.key y) (hv : a.eval v = K.val u) (hy : K.ok y)
    (hK : ∀ w', MapAt K w' b (putM m y u) → Turn w w' (fun k => k = b) (fun k => k = b) → wpList P ops Q rest (a.put o.dst undef) w') : wpList P ops Q (o :: rest) a w := by
  refine wpList_plain hg fun K' hK' => ?_
  obtain ⟨w', hrun, r1, r2⟩ := h.put KL ht hy u
  unfold Oper.wp
  simp [execOp, hop, hm, hx, hv, hrun, Result.andThen]
  exact hK' _ _ (hK w' r1 r2)
theorem wpList_mlen (hg : o.guard = none) (mm : Operand) (t : TypeId) (hop : o.op = Op.call { callee := Callee.builtin Builtin.len, args := #[mm], argTypes := #[t] }) (e : TypeId) (ht : P.underlying t = some (.map k e))
    (h : MapAt K w b m) (hm : a.eval mm = .map (some b)) (hK : wpList P ops Q rest (a.put o.dst (.int .i64 m.length)) w) : wpList P ops Q (o :: rest) a w := by
  refine wpList_plain hg fun K' hK' => ?_
  have hrun := h.len ht o.type
  unfold Oper.wp
  simp [execOp, hop, resolve, invoke, builtin, hm, hrun, Result.andThen]
  exact hK' _ _ hK
theorem wpList_del (hg : o.guard = none) (mm x : Operand) (t : TypeId) (hop : o.op = Op.call { callee := Callee.builtin Builtin.delete, args := #[mm, x], argTypes := #[t, k] }) (e : TypeId) (KL : Keyed P k) (ht : P.underlying t = some (.map k e))
    (h : MapAt K w b m) (hm : a.eval mm = .map (some b)) (y : κ) (hx : a.eval x = K.key y) (hy : K.ok y)
    (hK : ∀ w', MapAt K w' b (delM m y) → Turn w w' (fun k => k = b) (fun k => k = b) → wpList P ops Q rest (a.put o.dst (.tuple #[])) w') : wpList P ops Q (o :: rest) a w := by
  refine wpList_plain hg fun K' hK' => ?_
  obtain ⟨w', hrun, r1, r2⟩ := h.del KL ht hy o.type
  unfold Oper.wp
  simp [execOp, hop, resolve, invoke, builtin, hm, hx, hrun, Result.andThen]
  exact hK' _ _ (hK w' r1 r2)
end walk
end Ks
/- A book of records: what it tells, what it refuses, what a record makes of it. Plain. No program is in sight. -/
namespace Ks
open Go Go.RowKit
set_option linter.unusedVariables false
structure BookT where
  now : Int
  first : Int
  epoch : Int
  till : List (Int × Int)
  holds : List (ByteArray × Int)
  gone : List (Int × Bool)
def tillN (b : BookT) (t : Int) : Int := (look b.till t).getD 0
def goneB (b : BookT) (t : Int) : Bool := (look b.gone t).getD false
def heldN (b : BookT) (t : Int) : Nat := (b.holds.filter fun p => p.2 == t).length
def targetE (b : BookT) (r : RecT) : Int :=
  if r.kind = 1 then 0 else if r.kind = 4 then (if (look b.holds r.name).isSome then 0 else 7) else if r.target < b.first then 7 else if goneB b r.target then 13 else 0
def bookHoldE (b : BookT) (r : RecT) : Int := if (look b.holds r.name).isSome then 19 else if 64 ≤ b.holds.length then 5 else 0
def purgeE (b : BookT) (r : RecT) : Int := if r.time < tillN b r.target then 9 else if 0 < heldN b r.target then 10 else if r.till ≠ tillN b r.target then 2 else 0
def kindE (b : BookT) (r : RecT) : Int := if r.kind = 2 then (if r.till < tillN b r.target then 12 else 0) else if r.kind = 3 then bookHoldE b r else if r.kind = 5 then purgeE b r else 0
def mayE (b : BookT) (r : RecT) : Int :=
  if chkB r = false then 2 else if r.epoch ≠ b.epoch ∨ r.time < b.now then 16 else if targetE b r ≠ 0 then targetE b r else kindE b r
/-- what a record that may be makes of a book -/
def putB (b : BookT) (r : RecT) : BookT :=
  if r.kind = 1 then { b with now := r.time, epoch := b.epoch + 1 }
  else if r.kind = 2 then { b with now := r.time, till := putM b.till r.target r.till }
  else if r.kind = 3 then { b with now := r.time, holds := putM b.holds r.name r.target }
  else if r.kind = 4 then { b with now := r.time, holds := delM b.holds r.name }
  else { b with now := r.time, gone := putM b.gone r.target true }
def applyB (b : BookT) (r : RecT) : BookT := if mayE b r = 0 then putB b r else b
def newB (first : Int) : BookT := ⟨0, first, first, [], [], []⟩
theorem chk_epoch {r : RecT} (h : chkB r = true) : 0 ≤ r.epoch ∧ r.epoch ≤ 4294967295 := by
  unfold chkB at h
  simp only [Bool.and_eq_true] at h
  exact of_decide_eq_true h.1.2
theorem chk_time {r : RecT} (h : chkB r = true) : 0 ≤ r.time ∧ r.time ≤ 1099511627776 := by
  unfold chkB at h
  simp only [Bool.and_eq_true] at h
  exact of_decide_eq_true h.2
/-- what a record that may be has: its checks -/
theorem may_zero {b : BookT} {r : RecT} (h : mayE b r = 0) : chkB r = true ∧ r.epoch = b.epoch ∧ b.now ≤ r.time ∧ targetE b r = 0 ∧ kindE b r = 0 := by
  unfold mayE at h
  split at h
  · cases h
  · rename_i h1
    split at h
    · cases h
    · rename_i h2
      split at h
      · rename_i h3; exact absurd h h3
      · rename_i h3
        exact ⟨by simpa using h1, Classical.byContradiction fun q => h2 (Or.inl q), by have : ¬ r.time < b.now := fun q => h2 (Or.inr q); omega, Classical.byContradiction h3, h⟩
/-- the deadline never becomes less, what was purged stays so; a purge is late enough, of what is not held, nor gone -/
theorem longer (b : BookT) (r : RecT) : ¬ tillN (applyB b r) r.target < tillN b r.target ∧ (goneB b r.target = true → goneB (applyB b r) r.target = true) ∧
    (mayE b r = 0 → r.kind = 5 → ¬ r.time < tillN b r.target ∧ heldN b r.target = 0 ∧ goneB b r.target = false ∧ r.till = tillN b r.target ∧ goneB (applyB b r) r.target = true) := by
  unfold applyB
  by_cases h : mayE b r = 0
  · rw [if_pos h]
    obtain ⟨h1, h2, h3, h4, h5⟩ := may_zero h
    unfold putB
    by_cases k1 : r.kind = 1
    · rw [if_pos k1]
      exact ⟨Int.lt_irrefl _, fun q => q, fun _ k => by omega⟩
    · rw [if_neg k1]
      by_cases k2 : r.kind = 2
      · rw [if_pos k2]
        refine ⟨?_, fun q => q, fun _ k => by omega⟩
        rw [kindE, if_pos k2] at h5
        show ¬ (look (putM b.till r.target r.till) r.target).getD 0 < tillN b r.target
        rw [look_put, if_pos rfl]
        intro q
        rw [if_pos (show r.till < tillN b r.target from q)] at h5
        cases h5
      · rw [if_neg k2]
        by_cases k3 : r.kind = 3
        · rw [if_pos k3]
          exact ⟨Int.lt_irrefl _, fun q => q, fun _ k => by omega⟩
        · rw [if_neg k3]
          by_cases k4 : r.kind = 4
          · rw [if_pos k4]
            exact ⟨Int.lt_irrefl _, fun q => q, fun _ k => by omega⟩
          · rw [if_neg k4]
            have hg : (look (putM b.gone r.target true) r.target).getD false = true := by rw [look_put, if_pos rfl]; rfl
            refine ⟨Int.lt_irrefl _, fun _ => hg, fun _ k => ?_⟩
            rw [kindE, if_neg k2, if_neg k3, if_pos k, purgeE] at h5
            rw [targetE, if_neg k1, if_neg k4] at h4
            have g1 : ¬ r.time < tillN b r.target := fun q => by rw [if_pos q] at h5; cases h5
            rw [if_neg g1] at h5
            have g2 : ¬ 0 < heldN b r.target := fun q => by rw [if_pos q] at h5; cases h5
            rw [if_neg g2] at h5
            have g3 : ¬ r.till ≠ tillN b r.target := fun q => by rw [if_pos q] at h5; cases h5
            have g4 : ¬ r.target < b.first := fun q => by rw [if_pos q] at h4; cases h4
            rw [if_neg g4] at h4
            have g5 : goneB b r.target = false := by
              cases q : goneB b r.target
              · rfl
              · rw [q] at h4; cases h4
            exact ⟨g1, by omega, g5, Classical.byContradiction g3, hg⟩
  · rw [if_neg h]
    exact ⟨Int.lt_irrefl _, fun q => q, fun q => absurd q h⟩
end Ks
/- The numbers of bytes: plain. -/
namespace Ks
open Go

/-- how many bytes the first k widths take -/
def sumTo (ws : List Int) : Nat → Nat
  | 0 => 0
  | k + 1 => sumTo ws k + (ws.getD k 0).toNat
/-- the piece of width k -/
def piece (ws : List Int) (s : List UInt8) (k : Nat) : List UInt8 := (s.drop (sumTo ws k)).take (ws.getD k 0).toNat
def widthsOk (ws : List Int) : Bool := decide (∀ i, i < ws.length → 1 ≤ ws.getD i 0 ∧ ws.getD i 0 ≤ 8)
def piecesOk (ws : List Int) (s : List UInt8) : Bool := decide (∀ i, i < ws.length → getOk (piece ws s i) = true)
def unpackTo (ws : List Int) (s : List UInt8) (k : Nat) : List Int := (List.range k).map fun i => (getN (piece ws s i) : Int)
def unpackE (ws : List Int) (s : ByteArray) : Int :=
  if widthsOk ws then (if s.size = sumTo ws ws.length then (if piecesOk ws s.data.toList then 0 else 3) else 3) else 2
def unpackL (ws : List Int) (s : ByteArray) : List Int := if unpackE ws s = 0 then unpackTo ws s.data.toList ws.length else []

theorem sumTo_le (ws : List Int) (k : Nat) (h : ∀ i, i < k → 1 ≤ ws.getD i 0 ∧ ws.getD i 0 ≤ 8) : sumTo ws k ≤ 8 * k := by
  induction k with
  | zero => simp [sumTo]
  | succ k ih =>
    have h1 := h k (by omega)
    have := ih (fun i hi => h i (by omega))
    simp only [sumTo]
    omega
theorem sumTo_mono (ws : List Int) (k m : Nat) (h : k ≤ m) : sumTo ws k ≤ sumTo ws m := by
  induction m with
  | zero => have : k = 0 := by omega
            subst this; exact Nat.le_refl _
  | succ m ih =>
    by_cases hk : k = m + 1
    · subst hk; exact Nat.le_refl _
    · have := ih (by omega)
      simp only [sumTo]
      omega

theorem data_extract (s : ByteArray) (a b : Nat) : (s.extract a b).data.toList = (s.data.toList.drop a).take (b - a) := by
  obtain ⟨⟨l⟩⟩ := s
  rw [ByteArray.extract_mk]
theorem rest_piece (ws : List Int) (s : ByteArray) (k : Nat) (h : sumTo ws (k + 1) ≤ s.size) :
    ((s.extract (sumTo ws k) s.size).extract 0 (ws.getD k 0).toNat).data.toList = piece ws s.data.toList k := by
  have hl := data_length s
  simp only [sumTo] at h
  rw [data_extract, data_extract, List.drop_zero, List.take_take, piece]
  congr 1
  omega
theorem rest_next (ws : List Int) (s : ByteArray) (k : Nat) (h : sumTo ws (k + 1) ≤ s.size) :
    (s.extract (sumTo ws k) s.size).extract (ws.getD k 0).toNat (s.size - sumTo ws k) = s.extract (sumTo ws (k + 1)) s.size := by
  obtain ⟨⟨l⟩⟩ := s
  simp only [sumTo] at h ⊢
  have h' : sumTo ws k + (ws.getD k 0).toNat ≤ l.length := h
  show ((ByteArray.mk l.toArray).extract (sumTo ws k) l.length).extract _ (l.length - _) = (ByteArray.mk l.toArray).extract _ l.length
  rw [ByteArray.extract_mk, ByteArray.extract_mk, ByteArray.extract_mk, List.drop_take, List.take_take, List.drop_drop]
  congr 3
  omega
theorem unpackTo_succ (ws : List Int) (s : List UInt8) (k : Nat) : unpackTo ws s (k + 1) = unpackTo ws s k ++ [(getN (piece ws s k) : Int)] := by
  simp [unpackTo, List.range_succ]
theorem unpackTo_length (ws : List Int) (s : List UInt8) (k : Nat) : (unpackTo ws s k).length = k := by simp [unpackTo]

end Ks
/- The blocks of the data: plain. -/
namespace Ks
open Go

/-- may a cell be? -/
def cellOk (e s l : Int) (g : Bool) (t : ByteArray) : Bool :=
  decide (0 ≤ e ∧ e ≤ 4294967295 ∧ 0 ≤ s ∧ s ≤ 4294967295 ∧ 0 ≤ l ∧ l ≤ 4095 ∧ t.size ≤ 4000 ∧ (g = true → t.size = 0))
/-- a cell's bytes ahead of the noughts -/
def cellH (e s l : Int) (g : Bool) (t : ByteArray) : List UInt8 :=
  (if g then 2 else 1) :: (putL 4 e.toNat ++ putL 4 s.toNat ++ putL 4 l.toNat ++ (putL 4 t.size ++ t.data.toList))
def cellB (e s l : Int) (g : Bool) (t : ByteArray) : List UInt8 := cellH e s l g t ++ List.replicate (4096 - (cellH e s l g t).length) 0
def cellS (e s l : Int) (g : Bool) (t : ByteArray) : ByteArray := if cellOk e s l g t then ⟨(cellB e s l g t).toArray⟩ else ⟨#[]⟩
def cellE (e s l : Int) (g : Bool) (t : ByteArray) : Int := if cellOk e s l g t then 0 else 2

theorem cellH_length (e s l : Int) (g : Bool) (t : ByteArray) : (cellH e s l g t).length = 17 + t.size := by
  have := data_length t
  simp [cellH]
  omega

end Ks
/- Texts with their lengths, texts cut off, noughts: plain. -/
namespace Ks
open Go Go.RowKit
set_option linter.unusedVariables false

theorem text_mask (n : Nat) (h : n < 4294967296) : bits .and .i64 (n : Int) 4294967295 = (n : Int) := by
  have := bits_mask .i64 63 (by decide) (fun n h0 h1 => by rw [IntKind.wrap_i64]; omega) 32 (by decide) (n : Int) (by omega) (by omega)
  rw [show ((2 : Int) ^ 32 - 1) = 4294967295 from by decide] at this
  rw [this]; omega

theorem putS_four (n : Nat) (h : n < 4294967296) : putS n 4 = ⟨(putL 4 n).toArray⟩ := by
  have hp : putOk n 4 = true := by
    simp only [putOk, decide_eq_true_eq]
    refine ⟨by omega, by omega, by omega, fun _ => ?_⟩
    have : (2 : Nat) ^ (8 * (4 : Int).toNat) = 4294967296 := by decide
    rw [this]
    exact Nat.div_eq_of_lt (by omega)
  rw [putS, if_pos hp]; rfl

/-- a text with its length ahead -/
def textS (s : ByteArray) : ByteArray := ⟨(putL 4 s.size ++ s.data.toList).toArray⟩

theorem textS_size (s : ByteArray) : (textS s).size = 4 + s.size := by
  show (putL 4 s.size ++ s.data.toList).length = _
  rw [List.length_append, putL_length, data_length]

theorem textS_eq (s : ByteArray) (h : s.size < 4294967296) : putS s.size 4 ++ s = textS s := by
  rw [putS_four _ h]
  obtain ⟨⟨l⟩⟩ := s
  exact ByteArray.mk_append_mk _ _

theorem putS_size (n w : Int) : (putS n w).size ≤ 8 := by
  unfold putS
  split
  · rename_i h
    have := putOk_width h
    show (putL _ _).length ≤ 8
    rw [putL_length]; omega
  · show (0 : Nat) ≤ 8
    omega

/-- the number that a text begins with; whether as many bytes are there; the text, and the rest -/
def cutN (s : ByteArray) : Nat := getN (s.data.toList.take 4)
def cutOk (s : ByteArray) : Bool := decide (4 ≤ s.size ∧ cutN s ≤ s.size - 4)
def cutA (s : ByteArray) : ByteArray := if cutOk s then s.extract 4 (4 + cutN s) else ⟨#[]⟩
def cutB (s : ByteArray) : ByteArray := if cutOk s then s.extract (4 + cutN s) s.size else ⟨#[]⟩
def cutE (s : ByteArray) : Int := if cutOk s then 0 else 3

theorem getV_four (s : ByteArray) (h : 4 ≤ s.size) : getV (s.extract 0 4) = (cutN s : Int) ∧ cutN s < 4294967296 := by
  obtain ⟨⟨l⟩⟩ := s
  have hl : 4 ≤ l.length := h
  have he : (ByteArray.mk l.toArray).extract 0 4 = ⟨(l.take 4).toArray⟩ := by rw [ByteArray.extract_mk]; simp
  have hlt := getN_lt (l.take 4)
  have h4 : (l.take 4).length = 4 := by rw [List.length_take]; omega
  rw [h4, show (256 : Nat) ^ 4 = 4294967296 by decide] at hlt
  have ho : getOk (l.take 4) = true := by
    simp only [getOk, decide_eq_true_eq]
    omega
  refine ⟨?_, hlt⟩
  rw [he, getV, if_pos ho]
  rfl

theorem extract_list (s : ByteArray) (a b : Nat) : s.extract a b = ⟨((s.data.toList.drop a).take (b - a)).toArray⟩ := by
  obtain ⟨⟨l⟩⟩ := s
  exact ByteArray.extract_mk l a b

theorem extract_twice (s : ByteArray) (a b c d : Nat) (h : a + d ≤ b) : (s.extract a b).extract c d = s.extract (a + c) (a + d) := by
  obtain ⟨⟨l⟩⟩ := s
  rw [ByteArray.extract_mk, ByteArray.extract_mk, ByteArray.extract_mk]
  congr 2
  rw [List.drop_take, List.take_take, List.drop_drop]
  congr 1
  omega

/-- noughts -/
def zerosS (n : Int) : ByteArray := ⟨(List.replicate n.toNat (0 : UInt8)).toArray⟩
def fillOk (s : ByteArray) (n : Int) : Bool := decide (s.size ≤ n ∧ n ≤ 65536)
def fillS (s : ByteArray) (n : Int) : ByteArray := if fillOk s n then s ++ zerosS (n - s.size) else ⟨#[]⟩
def fillE (s : ByteArray) (n : Int) : Int := if fillOk s n then 0 else 2

theorem repeat_zero (n : Nat) : Lib.repeatL [(0 : UInt8)] n = List.replicate n 0 := by
  induction n with
  | zero => rfl
  | succ n ih => simp [Lib.repeatL, ih, List.replicate_succ]

theorem zerosS_size (m : Nat) : (zerosS m).size = m := by
  show (List.replicate _ _).length = _
  simp
theorem repeat_zeros (m : Nat) : (⟨(Lib.repeatL (ByteArray.mk #[0]).data.toList m).toArray⟩ : ByteArray) = zerosS m := by
  show (⟨(Lib.repeatL [(0 : UInt8)] m).toArray⟩ : ByteArray) = ⟨(List.replicate m (0 : UInt8)).toArray⟩
  rw [repeat_zero]

end Ks
/- A cell's bytes, as they are put together: plain. -/
namespace Ks
open Go
set_option linter.unusedVariables false

theorem putOk4 (n : Int) (h0 : 0 ≤ n) (h : n ≤ 4294967295) : putOk n 4 = true := by
  simp only [putOk, decide_eq_true_eq]
  refine ⟨by omega, by omega, h0, fun _ => ?_⟩
  have : (2 : Nat) ^ (8 * (4 : Int).toNat) = 4294967296 := by decide
  rw [this]
  exact Nat.div_eq_of_lt (by omega)

theorem cell_head (k e s l : Int) (hk : 0 ≤ k ∧ k ≤ 255) (he : 0 ≤ e ∧ e ≤ 4294967295) (hs : 0 ≤ s ∧ s ≤ 4294967295) (hl : 0 ≤ l ∧ l ≤ 4095) :
    packS [1, 4, 4, 4] [k, e, s, l] = ⟨(UInt8.ofNat k.toNat :: (putL 4 e.toNat ++ putL 4 s.toNat ++ putL 4 l.toNat)).toArray⟩ ∧ packE [1, 4, 4, 4] [k, e, s, l] = 0 := by
  have h1 : putOk k 1 = true := by
    simp only [putOk, decide_eq_true_eq]
    refine ⟨by omega, by omega, by omega, fun _ => ?_⟩
    have : (2 : Nat) ^ (8 * (1 : Int).toNat) = 256 := by decide
    rw [this]
    exact Nat.div_eq_of_lt (by omega)
  have hp : packOk [1, 4, 4, 4] [k, e, s, l] = true := by
    simp only [packOk, decide_eq_true_eq]
    refine ⟨rfl, fun i hi => ?_⟩
    match i, hi with
    | 0, _ => exact h1
    | 1, _ => exact putOk4 e he.1 he.2
    | 2, _ => exact putOk4 s hs.1 hs.2
    | 3, _ => exact putOk4 l hl.1 (by omega)
    | n + 4, hi => exact absurd hi (by simp)
  rw [packS, packE, if_pos hp, if_pos hp]
  refine ⟨?_, rfl⟩
  simp [packTo, putL]

/-- a cell's bytes, as they are put together -/
theorem cellS_eq (e s l : Int) (g : Bool) (t : ByteArray) (k : Int) (hk : k = if g then 2 else 1) (hok : cellOk e s l g t = true) :
    packE [1, 4, 4, 4] [k, e, s, l] = 0 ∧ (packS [1, 4, 4, 4] [k, e, s, l]).size = 13 ∧ (packS [1, 4, 4, 4] [k, e, s, l] ++ textS t).size = 17 + t.size ∧
      fillS (packS [1, 4, 4, 4] [k, e, s, l] ++ textS t) 4096 = cellS e s l g t ∧ fillE (packS [1, 4, 4, 4] [k, e, s, l] ++ textS t) 4096 = 0 := by
  have hc := hok
  simp only [cellOk, decide_eq_true_eq] at hc
  have hk2 : 0 ≤ k ∧ k ≤ 255 := by subst hk; cases g <;> simp
  obtain ⟨h1, h2⟩ := cell_head k e s l hk2 ⟨hc.1, hc.2.1⟩ ⟨hc.2.2.1, hc.2.2.2.1⟩ ⟨hc.2.2.2.2.1, hc.2.2.2.2.2.1⟩
  have hkb : UInt8.ofNat k.toNat = if g then 2 else 1 := by subst hk; cases g <;> rfl
  have e1 : packS [1, 4, 4, 4] [k, e, s, l] ++ textS t = ⟨(cellH e s l g t).toArray⟩ := by
    rw [h1, textS, ByteArray.mk_append_mk, cellH, hkb]
    simp
  have hz : (packS [1, 4, 4, 4] [k, e, s, l] ++ textS t).size = 17 + t.size := by
    rw [e1]; exact cellH_length e s l g t
  have hf : fillOk (packS [1, 4, 4, 4] [k, e, s, l] ++ textS t) 4096 = true := by
    simp only [fillOk, decide_eq_true_eq]; rw [hz]; omega
  refine ⟨h2, ?_, hz, ?_, by rw [fillE, if_pos hf]⟩
  · rw [h1]
    show (UInt8.ofNat k.toNat :: (putL 4 e.toNat ++ putL 4 s.toNat ++ putL 4 l.toNat)).length = 13
    simp
  · rw [fillS, if_pos hf, hz, e1, cellS, if_pos hok, cellB, zerosS, ByteArray.mk_append_mk, cellH_length]
    congr 4
    omega

theorem putS4 (n : Int) (h0 : 0 ≤ n) (h : n ≤ 4294967295) : putS n 4 = ⟨(putL 4 n.toNat).toArray⟩ := by
  rw [putS, if_pos (putOk4 n h0 h)]; rfl
theorem cellR_size (e s l : Int) (t : ByteArray) (r1 : 0 ≤ e) (r2 : e ≤ 4294967295) (r3 : 0 ≤ s) (r4 : s ≤ 4294967295) (r5 : 0 ≤ l) (r6 : l ≤ 4095) :
    (putS e 4).size = 4 ∧ (putS s 4).size = 4 ∧ (putS l 4).size = 4 := by
  rw [putS4 e r1 r2, putS4 s r3 r4, putS4 l r5 (by omega)]
  exact ⟨putL_length 4 _, putL_length 4 _, putL_length 4 _⟩
theorem cellR_eq (e s l : Int) (g : Bool) (t : ByteArray) (k : UInt8) (hk : k = if g then 2 else 1) (hok : cellOk e s l g t = true) :
    ByteArray.mk #[k] ++ putS e 4 ++ putS s 4 ++ putS l 4 ++ textS t ++ zerosS (4096 - (17 + t.size : Nat)) = cellS e s l g t := by
  have hc := hok
  simp only [cellOk, decide_eq_true_eq] at hc
  rw [putS4 e hc.1 hc.2.1, putS4 s hc.2.2.1 hc.2.2.2.1, putS4 l hc.2.2.2.2.1 (by omega), cellS, if_pos hok, cellB, cellH_length, textS, zerosS]
  rw [show (ByteArray.mk #[k]) = ⟨([k] : List UInt8).toArray⟩ from rfl]
  rw [ByteArray.mk_append_mk, ByteArray.mk_append_mk, ByteArray.mk_append_mk, ByteArray.mk_append_mk, ByteArray.mk_append_mk, cellH, ← hk]
  rw [show ((4096 : Int) - ((17 + t.size : Nat) : Int)).toNat = 4096 - (17 + t.size) by omega]
  simp

/-- a held text's bytes -/
def holdOk (t : ByteArray) : Bool := decide (1 ≤ t.size ∧ t.size ≤ 4000)
def holdB (t : ByteArray) : List UInt8 := 3 :: (putL 4 t.size ++ t.data.toList) ++ List.replicate (4096 - (5 + t.size)) 0
def holdS (t : ByteArray) : ByteArray := if holdOk t then ⟨(holdB t).toArray⟩ else ⟨#[]⟩
def holdE (t : ByteArray) : Int := if holdOk t then 0 else 2
theorem holdS_eq (t : ByteArray) (hok : holdOk t = true) : (ByteArray.mk #[3] ++ textS t).size = 5 + t.size ∧ ByteArray.mk #[3] ++ textS t ++ zerosS (4096 - (5 + t.size : Nat)) = holdS t ∧
    fillS (ByteArray.mk #[3] ++ textS t) 4096 = holdS t ∧ fillE (ByteArray.mk #[3] ++ textS t) 4096 = 0 := by
  have hc := hok
  simp only [holdOk, decide_eq_true_eq] at hc
  have hz : (ByteArray.mk #[3] ++ textS t).size = 5 + t.size := by
    rw [ByteArray.size_append', textS_size]
    show 1 + _ = _
    omega
  have hf : fillOk (ByteArray.mk #[3] ++ textS t) 4096 = true := by
    simp only [fillOk, decide_eq_true_eq]; rw [hz]; omega
  have h2 : ByteArray.mk #[3] ++ textS t ++ zerosS (4096 - (5 + t.size : Nat)) = holdS t := by
    rw [holdS, if_pos hok, holdB, textS, zerosS, show (ByteArray.mk #[3]) = ⟨([3] : List UInt8).toArray⟩ from rfl, ByteArray.mk_append_mk, ByteArray.mk_append_mk]
    rw [show ((4096 : Int) - ((5 + t.size : Nat) : Int)).toNat = 4096 - (5 + t.size) by omega]
    rfl
  refine ⟨hz, h2, ?_, by rw [fillE, if_pos hf]⟩
  rw [fillS, if_pos hf, hz]
  exact h2

end Ks
/- Which cell any bytes are: plain. -/
namespace Ks
open Go
set_option linter.unusedVariables false

/-- the number of some bytes of a block -/
def numAt (b : ByteArray) (i n : Nat) : Nat := getN ((b.data.toList.drop i).take n)
def takeG (b : ByteArray) : Bool := numAt b 0 1 == 2
def takeT (b : ByteArray) : ByteArray := cutA (b.extract 13 b.size)
def takeOk (b : ByteArray) : Bool :=
  decide (b.size = 4096 ∧ cutOk (b.extract 13 b.size) = true ∧ cellOk (numAt b 1 4) (numAt b 5 4) (numAt b 9 4) (takeG b) (takeT b) = true ∧ cellS (numAt b 1 4) (numAt b 5 4) (numAt b 9 4) (takeG b) (takeT b) = b)
def takeE (b : ByteArray) : Int := if takeOk b then 0 else 3
def cellV (e s l : Int) (g : Bool) (t : ByteArray) : Value := .agg #[.int .i64 e, .int .i64 s, .int .i64 l, .bool g, .string t]
def noCell : Value := .agg #[.int .i64 0, .int .i64 0, .int .i64 0, .bool false, .string ⟨#[]⟩]
def takeV (b : ByteArray) : Value := if takeOk b then cellV (numAt b 1 4) (numAt b 5 4) (numAt b 9 4) (takeG b) (takeT b) else noCell

theorem str_neq {a b : ByteArray} (h : a ≠ b) : (a.toList == b.toList) = false := by
  rw [beq_eq_false_iff_ne]
  intro e
  rw [ByteArray.toList_eq, ByteArray.toList_eq] at e
  apply h
  obtain ⟨⟨x⟩⟩ := a
  obtain ⟨⟨y⟩⟩ := b
  have : x = y := e
  rw [this]
theorem takeG_int (b : ByteArray) : ((numAt b 0 1 : Int) == 2) = takeG b := by
  rw [takeG, Bool.eq_iff_iff, beq_iff_eq, beq_iff_eq]
  omega
theorem numAt_lt (b : ByteArray) (i : Nat) : numAt b i 4 < 4294967296 := by
  have h := getN_lt ((b.data.toList.drop i).take 4)
  have h2 : ((b.data.toList.drop i).take 4).length ≤ 4 := by simp; omega
  have h3 : 256 ^ ((b.data.toList.drop i).take 4).length ≤ 256 ^ 4 := Nat.pow_le_pow_right (by omega) h2
  rw [show (256 : Nat) ^ 4 = 4294967296 by decide] at h3
  exact Nat.lt_of_lt_of_le h h3
theorem getOk_small (l : List UInt8) (h1 : 1 ≤ l.length) (h2 : l.length ≤ 4) : getOk l = true := by
  have h := getN_lt l
  have h3 : 256 ^ l.length ≤ 256 ^ 4 := Nat.pow_le_pow_right (by omega) h2
  rw [show (256 : Nat) ^ 4 = 4294967296 by decide] at h3
  simp only [getOk, decide_eq_true_eq]
  omega
theorem getV_at (b : ByteArray) (i j : Nat) (hij : i < j) (hj : j ≤ i + 4) (hb : j ≤ b.size) : getV (b.extract i j) = (numAt b i (j - i) : Int) ∧ getE (b.extract i j) = 0 := by
  have hl := data_length b
  have he : (b.extract i j).data.toList = (b.data.toList.drop i).take (j - i) := by rw [data_extract]
  have ho : getOk (b.extract i j).data.toList = true := by
    rw [he]
    apply getOk_small
    · rw [List.length_take, List.length_drop]; omega
    · rw [List.length_take]; omega
  rw [getV, getE, if_pos ho, if_pos ho, he]
  exact ⟨rfl, rfl⟩

theorem unpack_cell (b : ByteArray) (hb : b.size = 4096) : unpackE [1, 4, 4, 4] (b.extract 0 13) = 0 ∧
    unpackL [1, 4, 4, 4] (b.extract 0 13) = [(numAt b 0 1 : Int), (numAt b 1 4 : Int), (numAt b 5 4 : Int), (numAt b 9 4 : Int)] := by
  have hl := data_length b
  have hz : (b.extract 0 13).size = 13 := by simp [ByteArray.size_extract]; omega
  have hd : (b.extract 0 13).data.toList = b.data.toList.take 13 := by rw [data_extract]; simp
  have p0 : piece [1, 4, 4, 4] (b.data.toList.take 13) 0 = (b.data.toList.drop 0).take 1 := by
    show ((b.data.toList.take 13).drop 0).take 1 = _
    rw [List.drop_zero, List.drop_zero, List.take_take]; rfl
  have p1 : piece [1, 4, 4, 4] (b.data.toList.take 13) 1 = (b.data.toList.drop 1).take 4 := by
    show ((b.data.toList.take 13).drop 1).take 4 = _
    rw [List.drop_take, List.take_take]; rfl
  have p2 : piece [1, 4, 4, 4] (b.data.toList.take 13) 2 = (b.data.toList.drop 5).take 4 := by
    show ((b.data.toList.take 13).drop 5).take 4 = _
    rw [List.drop_take, List.take_take]; rfl
  have p3 : piece [1, 4, 4, 4] (b.data.toList.take 13) 3 = (b.data.toList.drop 9).take 4 := by
    show ((b.data.toList.take 13).drop 9).take 4 = _
    rw [List.drop_take, List.take_take]; rfl
  have hE : unpackE [1, 4, 4, 4] (b.extract 0 13) = 0 := by
    rw [unpackE, if_pos (by decide), if_pos (by rw [hz]; rfl), if_pos]
    simp only [piecesOk, decide_eq_true_eq]
    rw [hd]
    intro i hi
    match i, hi with
    | 0, _ => rw [p0]; exact getOk_small _ (by simp; omega) (by simp; omega)
    | 1, _ => rw [p1]; exact getOk_small _ (by simp; omega) (by simp; omega)
    | 2, _ => rw [p2]; exact getOk_small _ (by simp; omega) (by simp; omega)
    | 3, _ => rw [p3]; exact getOk_small _ (by simp; omega) (by simp; omega)
    | n + 4, hi => exact absurd hi (by simp)
  refine ⟨hE, ?_⟩
  rw [unpackL, if_pos hE, hd]
  show (List.range 4).map _ = _
  rw [show List.range 4 = [0, 1, 2, 3] from rfl]
  simp only [List.map_cons, List.map_nil]
  rw [p0, p1, p2, p3]
  rfl

theorem take_no (b : ByteArray) (h : ¬ takeOk b = true) : takeV b = noCell ∧ takeE b = 3 := by rw [takeV, takeE, if_neg h, if_neg h]; exact ⟨rfl, rfl⟩
theorem take_yes (b : ByteArray) (h : takeOk b = true) : takeV b = cellV (numAt b 1 4) (numAt b 5 4) (numAt b 9 4) (takeG b) (takeT b) ∧ takeE b = 0 := by rw [takeV, takeE, if_pos h, if_pos h]; exact ⟨rfl, rfl⟩

/-- which held text any bytes are -/
def heldT (b : ByteArray) : ByteArray := cutA (b.extract 1 b.size)
def heldOk (b : ByteArray) : Bool := decide (b.size = 4096 ∧ cutOk (b.extract 1 b.size) = true ∧ holdOk (heldT b) = true ∧ holdS (heldT b) = b)
def heldS (b : ByteArray) : ByteArray := if heldOk b then heldT b else ⟨#[]⟩
def heldE (b : ByteArray) : Int := if heldOk b then 0 else 3
theorem held_head (b : ByteArray) (h : heldOk b = true) : numAt b 0 1 = 3 := by
  simp only [heldOk, decide_eq_true_eq] at h
  obtain ⟨_, _, h1, h2⟩ := h
  rw [← h2, holdS, if_pos h1, numAt, holdB]
  rfl
theorem byte_at (b : ByteArray) (h : 0 < b.size) : ((b[0]'h).toNat : Int) = (numAt b 0 1 : Int) := by
  obtain ⟨⟨l⟩⟩ := b
  match l, h with
  | x :: l, _ => simp [numAt, getN]; rfl

end Ks
/- Of two numbers of one width the less one has the lesser bytes: plain. -/
namespace Ks
open Go

theorem putL_mod (k n : Nat) : putL k (n % 256 ^ k) = putL k n := by
  apply List.ext_getElem?
  intro i
  by_cases h : i < k
  · rw [putL_get _ _ _ h, putL_get _ _ _ h]
    congr 1
    apply UInt8.toNat.inj
    simp only [UInt8.toNat_ofNat']
    have e : (256 : Nat) ^ k = 256 ^ (k - 1 - i) * (256 * 256 ^ i) := by
      rw [← Nat.pow_succ', ← Nat.pow_add]; congr 1; omega
    rw [e, Nat.mod_mul_right_div_self, Nat.mod_mul_right_mod]
  · rw [List.getElem?_eq_none (by simp; omega), List.getElem?_eq_none (by simp; omega)]

theorem putL_less (k : Nat) : ∀ a b : Nat, a < 256 ^ k → b < 256 ^ k → Op.bytesLess (putL k a) (putL k b) = decide (a < b) := by
  induction k with
  | zero =>
    intro a b ha hb
    simp at ha hb
    subst ha hb
    rfl
  | succ k ih =>
    intro a b ha hb
    rw [putL_succ', putL_succ', ← putL_mod k a, ← putL_mod k b]
    have hp : 0 < 256 ^ k := Nat.pow_pos (by omega)
    have ha1 : a / 256 ^ k < 256 := Nat.div_lt_of_lt_mul (by rw [Nat.pow_succ] at ha; omega)
    have hb1 : b / 256 ^ k < 256 := Nat.div_lt_of_lt_mul (by rw [Nat.pow_succ] at hb; omega)
    have hA := Nat.div_add_mod a (256 ^ k)
    have hB := Nat.div_add_mod b (256 ^ k)
    have hra := Nat.mod_lt a hp
    have hrb := Nat.mod_lt b hp
    have hi := ih _ _ hra hrb
    generalize a / 256 ^ k = qa at *
    generalize b / 256 ^ k = qb at *
    generalize a % 256 ^ k = ra at *
    generalize b % 256 ^ k = rb at *
    generalize 256 ^ k = m at *
    show (decide (UInt8.ofNat qa < UInt8.ofNat qb) || (UInt8.ofNat qa == UInt8.ofNat qb && Op.bytesLess (putL k ra) (putL k rb))) = decide (a < b)
    rw [hi]
    have h1 : (UInt8.ofNat qa < UInt8.ofNat qb) ↔ qa < qb := by rw [UInt8.lt_iff_toNat_lt]; simp; omega
    have h2 : (UInt8.ofNat qa = UInt8.ofNat qb) ↔ qa = qb := by rw [← UInt8.toNat_inj]; simp; omega
    subst hA hB
    rcases Nat.lt_trichotomy qa qb with h | h | h
    · have h3 : m * (qa + 1) ≤ m * qb := Nat.mul_le_mul_left _ h
      rw [Nat.mul_add] at h3
      have h4 : m * qa + ra < m * qb + rb := by omega
      simp [h1.2 h, h4]
    · subst h
      have : ¬ (UInt8.ofNat qa < UInt8.ofNat qa) := by rw [h1]; omega
      simp [this]
    · have h3 : m * (qb + 1) ≤ m * qa := Nat.mul_le_mul_left _ h
      rw [Nat.mul_add] at h3
      have h4 : ¬ (m * qa + ra < m * qb + rb) := by omega
      have h5 : ¬ (UInt8.ofNat qa < UInt8.ofNat qb) := by rw [h1]; omega
      have h6 : ¬ (UInt8.ofNat qa = UInt8.ofNat qb) := by rw [h2]; omega
      simp only [h4, h5, decide_false, Bool.false_or, Bool.and_eq_false_iff]
      left
      simpa using h6

theorem putL_inj (k a b : Nat) (ha : a < 256 ^ k) (hb : b < 256 ^ k) (h : putL k a = putL k b) : a = b := by
  have h1 := putL_less k a b ha hb
  have h2 := putL_less k b a hb ha
  have irr : ∀ l : List UInt8, Op.bytesLess l l = false := by
    intro l
    induction l with
    | nil => rfl
    | cons x l ih => show (decide (x < x) || (x == x && Op.bytesLess l l)) = false; rw [ih]; simp
  rw [h, irr] at h1
  rw [h, irr] at h2
  have := of_decide_eq_false h1.symm
  have := of_decide_eq_false h2.symm
  omega

theorem putOk_lt {n w : Int} (h : putOk n w = true) (hn : n ≤ 9223372036854775807) : n.toNat < 256 ^ w.toNat := by
  simp only [putOk, decide_eq_true_eq] at h
  obtain ⟨h1, h2, h3, h4⟩ := h
  rw [show (256 : Nat) ^ w.toNat = 2 ^ (8 * w.toNat) by rw [Nat.pow_mul]]
  by_cases hw : w < 8
  · have := h4 hw
    have hp : 0 < 2 ^ (8 * w.toNat) := Nat.two_pow_pos _
    rcases Nat.lt_or_ge n.toNat (2 ^ (8 * w.toNat)) with h' | h'
    · exact h'
    · have := Nat.div_pos h' hp
      omega
  · have : w = 8 := by omega
    subst this
    have e : (2 : Nat) ^ (8 * (8 : Int).toNat) = 18446744073709551616 := by decide
    rw [e]; omega

end Ks
/- What was put is got: plain. -/
namespace Ks
open Go

theorem getN_putL (k n : Nat) : getN (putL k n) = n % 256 ^ k := by
  induction k generalizing n with
  | zero => simp [putL, getN, Nat.mod_one]
  | succ k ih =>
    simp only [putL]
    rw [getN_snoc, ih]
    have h : (UInt8.ofNat n).toNat = n % 256 := by simp
    rw [h, Nat.pow_succ', Nat.mod_mul]
    omega

theorem putL_getN (l : List UInt8) : putL l.length (getN l) = l := by
  apply List.reverse_inj.1
  have h : ∀ r : List UInt8, (putL r.length (getN r.reverse)).reverse = r := by
    intro r
    induction r with
    | nil => rfl
    | cons x r ih =>
      simp only [List.length_cons, putL, List.reverse_append, List.reverse_cons, List.reverse_nil, List.nil_append, List.singleton_append]
      rw [getN_snoc]
      have h1 : (getN r.reverse * 256 + x.toNat) / 256 = getN r.reverse := by have := x.toNat_lt; omega
      rw [h1, ih]
      congr 1
      apply UInt8.toNat.inj
      have := x.toNat_lt
      first | (simp; done) | (simp; omega)
  have := h l.reverse
  rw [List.reverse_reverse, List.length_reverse] at this
  exact this

theorem packTo_length_eq (ws l : List Int) (k : Nat) : (packTo ws l k).length = sumTo ws k := by
  induction k with
  | zero => rfl
  | succ k ih => simp [packTo, sumTo, ih]

theorem packTo_split (ws l : List Int) (k m : Nat) (h : k < m) : ∃ t, packTo ws l m = packTo ws l k ++ (putL (ws.getD k 0).toNat (l.getD k 0).toNat ++ t) := by
  induction m with
  | zero => omega
  | succ m ih =>
    by_cases hk : k = m
    · subst hk; exact ⟨[], by simp [packTo]⟩
    · obtain ⟨t, ht⟩ := ih (by omega)
      exact ⟨t ++ putL (ws.getD m 0).toNat (l.getD m 0).toNat, by rw [packTo, ht]; simp⟩

theorem piece_packTo (ws l : List Int) (k m : Nat) (h : k < m) : piece ws (packTo ws l m) k = putL (ws.getD k 0).toNat (l.getD k 0).toNat := by
  obtain ⟨t, ht⟩ := packTo_split ws l k m h
  rw [piece, ht, ← packTo_length_eq ws l k, List.drop_left]
  exact List.take_left' (by simp)

theorem unpack_pack (ws l : List Int) (hr : ∀ i, i < l.length → l.getD i 0 ≤ 9223372036854775807) (h : packE ws l = 0) : unpackE ws (packS ws l) = 0 ∧ unpackL ws (packS ws l) = l := by
  have hp : packOk ws l = true := by
    rw [packE] at h
    split at h
    · assumption
    · cases h
  have hs : packS ws l = ⟨(packTo ws l l.length).toArray⟩ := by rw [packS, if_pos hp]
  simp only [packOk, decide_eq_true_eq] at hp
  obtain ⟨hl, hok⟩ := hp
  have hw : ∀ i, i < ws.length → 1 ≤ ws.getD i 0 ∧ ws.getD i 0 ≤ 8 := fun i hi => by
    have := putOk_width (hok i (by omega)); omega
  have hpc : ∀ i, i < ws.length → piece ws (packTo ws l l.length) i = putL (ws.getD i 0).toNat (l.getD i 0).toNat := fun i hi => piece_packTo ws l i _ (by omega)
  have hget : ∀ i, i < ws.length → getN (piece ws (packTo ws l l.length) i) = (l.getD i 0).toNat := fun i hi => by
    rw [hpc i hi, getN_putL]
    exact Nat.mod_eq_of_lt (putOk_lt (hok i (by omega)) (hr i (by omega)))
  have hE : unpackE ws (packS ws l) = 0 := by
    rw [unpackE, if_pos (by simpa only [widthsOk, decide_eq_true_eq] using hw), hs, if_pos, if_pos]
    · simp only [piecesOk, decide_eq_true_eq]
      intro i hi
      have h1 := hget i hi
      have h2 := hr i (by omega)
      have h3 := hw i hi
      simp only [getOk, decide_eq_true_eq]
      rw [h1, hpc i hi, putL_length]
      omega
    · show (packTo ws l l.length).length = _
      rw [packTo_length_eq, hl]
  refine ⟨hE, ?_⟩
  rw [unpackL, if_pos hE, hs]
  apply List.ext_getElem
  · simp [unpackTo, hl]
  · intro i h1 h2
    simp only [unpackTo, List.getElem_map, List.getElem_range]
    have h3 := hget i (by omega)
    have h4 := putOk_width (hok i h2)
    rw [h3]
    have h5 : l.getD i 0 = l[i] := by simp [h2]
    rw [h5] at h4 ⊢
    omega

theorem put_get (s : ByteArray) (h : getE s = 0) : putS (getV s) s.size = s ∧ putE (getV s) s.size = 0 := by
  have hg : getOk s.data.toList = true := by
    rw [getE] at h
    split at h
    · assumption
    · cases h
  have hv : getV s = getN s.data.toList := by rw [getV, if_pos hg]
  simp only [getOk, decide_eq_true_eq] at hg
  have hl := data_length s
  have hlt := getN_lt s.data.toList
  have hp : putOk (getV s) s.size = true := by
    rw [hv]
    simp only [putOk, decide_eq_true_eq]
    refine ⟨by omega, by omega, by omega, fun _ => ?_⟩
    rw [Int.toNat_natCast, Int.toNat_natCast]
    apply Nat.div_eq_of_lt
    rw [show (2 : Nat) ^ (8 * s.size) = 256 ^ s.size by rw [Nat.pow_mul], ← hl]
    exact hlt
  refine ⟨?_, by rw [putE, if_pos hp]⟩
  rw [putS, if_pos hp, hv, Int.toNat_natCast, Int.toNat_natCast, ← hl, putL_getN]

end Ks
/- What was put is taken as it was: plain. -/
namespace Ks
open Go
set_option linter.unusedVariables false

theorem bytes_ext {a b : ByteArray} (h : a.data.toList = b.data.toList) : a = b := by
  obtain ⟨⟨x⟩⟩ := a
  obtain ⟨⟨y⟩⟩ := b
  have : x = y := h
  rw [this]
theorem piece_mid (A M C : List UInt8) (i n : Nat) (hi : A.length = i) (hn : M.length = n) : ((A ++ (M ++ C)).drop i).take n = M := by
  subst hi hn
  rw [List.drop_left, List.take_left]
theorem getN_put4 (n : Nat) (h : n < 4294967296) : getN (putL 4 n) = n := by
  rw [getN_putL, show (256 : Nat) ^ 4 = 4294967296 by decide]
  exact Nat.mod_eq_of_lt h

theorem cell_data (e s l : Int) (g : Bool) (t : ByteArray) (hok : cellOk e s l g t = true) : (cellS e s l g t).data.toList = cellB e s l g t := by rw [cellS, if_pos hok]
theorem cell_size (e s l : Int) (g : Bool) (t : ByteArray) (hok : cellOk e s l g t = true) : (cellS e s l g t).size = 4096 := by
  rw [← data_length, cell_data e s l g t hok, cellB, List.length_append, List.length_replicate, cellH_length]
  have hc := hok
  simp only [cellOk, decide_eq_true_eq] at hc
  omega

theorem cell_nums (e s l : Int) (g : Bool) (t : ByteArray) (hok : cellOk e s l g t = true) :
    numAt (cellS e s l g t) 0 1 = (if g then 2 else 1) ∧ (numAt (cellS e s l g t) 1 4 : Int) = e ∧ (numAt (cellS e s l g t) 5 4 : Int) = s ∧ (numAt (cellS e s l g t) 9 4 : Int) = l := by
  have hc := hok
  simp only [cellOk, decide_eq_true_eq] at hc
  obtain ⟨c1, c2, c3, c4, c5, c6, c7, c8⟩ := hc
  unfold numAt
  rw [cell_data e s l g t hok, cellB, cellH]
  generalize List.replicate _ (0 : UInt8) = Z
  refine ⟨?_, ?_, ?_, ?_⟩
  · cases g <;> rfl
  · rw [show (if g then (2 : UInt8) else 1) :: (putL 4 e.toNat ++ putL 4 s.toNat ++ putL 4 l.toNat ++ (putL 4 t.size ++ t.data.toList)) ++ Z = [if g then (2 : UInt8) else 1] ++ (putL 4 e.toNat ++ (putL 4 s.toNat ++ putL 4 l.toNat ++ (putL 4 t.size ++ t.data.toList) ++ Z)) by simp,
      piece_mid _ _ _ 1 4 rfl (putL_length _ _), getN_put4 _ (by omega)]
    omega
  · rw [show (if g then (2 : UInt8) else 1) :: (putL 4 e.toNat ++ putL 4 s.toNat ++ putL 4 l.toNat ++ (putL 4 t.size ++ t.data.toList)) ++ Z = ([if g then (2 : UInt8) else 1] ++ putL 4 e.toNat) ++ (putL 4 s.toNat ++ (putL 4 l.toNat ++ (putL 4 t.size ++ t.data.toList) ++ Z)) by simp,
      piece_mid _ _ _ 5 4 (by simp) (putL_length _ _), getN_put4 _ (by omega)]
    omega
  · rw [show (if g then (2 : UInt8) else 1) :: (putL 4 e.toNat ++ putL 4 s.toNat ++ putL 4 l.toNat ++ (putL 4 t.size ++ t.data.toList)) ++ Z = ([if g then (2 : UInt8) else 1] ++ putL 4 e.toNat ++ putL 4 s.toNat) ++ (putL 4 l.toNat ++ ((putL 4 t.size ++ t.data.toList) ++ Z)) by simp,
      piece_mid _ _ _ 9 4 (by simp) (putL_length _ _), getN_put4 _ (by omega)]
    omega

/-- a text with its length, and whatever behind it, is cut off as it was -/
theorem cut_text (r t : ByteArray) (Z : List UInt8) (h : r.data.toList = putL 4 t.size ++ t.data.toList ++ Z) (ht : t.size < 4294967296) : cutOk r = true ∧ cutA r = t := by
  have hn : cutN r = t.size := by
    rw [cutN, h, show putL 4 t.size ++ t.data.toList ++ Z = [] ++ (putL 4 t.size ++ (t.data.toList ++ Z)) by simp]
    have := piece_mid [] (putL 4 t.size) (t.data.toList ++ Z) 0 4 rfl (putL_length _ _)
    rw [List.drop_zero] at this
    rw [this, getN_put4 _ ht]
  have hr : r.size = 4 + t.size + Z.length := by
    rw [← data_length, h, List.length_append, List.length_append, putL_length, data_length]
  have hok : cutOk r = true := by
    simp only [cutOk, decide_eq_true_eq]
    rw [hn]; omega
  refine ⟨hok, ?_⟩
  rw [cutA, if_pos hok, hn]
  apply bytes_ext
  rw [data_extract, h, show 4 + t.size - 4 = t.size by omega, List.append_assoc]
  exact piece_mid _ _ _ 4 t.size (putL_length _ _) (data_length t)

theorem drop_append_of (A B : List UInt8) (i : Nat) (h : A.length = i) : (A ++ B).drop i = B := by subst h; exact List.drop_left
theorem extract_end (b : ByteArray) (i : Nat) (hi : i ≤ b.size) : (b.extract i b.size).data.toList = b.data.toList.drop i := by
  rw [data_extract, List.take_of_length_le (by rw [List.length_drop, data_length]; omega)]

theorem take_cell (e s l : Int) (g : Bool) (t : ByteArray) (hok : cellOk e s l g t = true) : takeOk (cellS e s l g t) = true ∧ takeV (cellS e s l g t) = cellV e s l g t ∧ takeE (cellS e s l g t) = 0 ∧ takeG (cellS e s l g t) = g := by
  have hz := cell_size e s l g t hok
  obtain ⟨n0, n1, n2, n3⟩ := cell_nums e s l g t hok
  have hg : takeG (cellS e s l g t) = g := by rw [takeG, n0]; cases g <;> rfl
  have hc := hok
  simp only [cellOk, decide_eq_true_eq] at hc
  obtain ⟨c1, c2, c3, c4, c5, c6, c7, c8⟩ := hc
  have hd : ((cellS e s l g t).extract 13 (cellS e s l g t).size).data.toList = putL 4 t.size ++ t.data.toList ++ List.replicate (4096 - (cellH e s l g t).length) 0 := by
    rw [extract_end _ _ (by omega), cell_data e s l g t hok, cellB]
    generalize List.replicate _ (0 : UInt8) = Z
    rw [cellH, show (if g then (2 : UInt8) else 1) :: (putL 4 e.toNat ++ putL 4 s.toNat ++ putL 4 l.toNat ++ (putL 4 t.size ++ t.data.toList)) ++ Z = ([if g then (2 : UInt8) else 1] ++ putL 4 e.toNat ++ putL 4 s.toNat ++ putL 4 l.toNat) ++ (putL 4 t.size ++ t.data.toList ++ Z) by simp]
    exact drop_append_of _ _ 13 (by simp)
  obtain ⟨hk, ha⟩ := cut_text _ t _ hd (by omega)
  have ht : takeT (cellS e s l g t) = t := ha
  have hT : takeOk (cellS e s l g t) = true := by
    simp only [takeOk, decide_eq_true_eq]
    rw [hg, ht, n1, n2, n3]
    exact ⟨hz, hk, hok, rfl⟩
  obtain ⟨q1, q2⟩ := take_yes _ hT
  rw [hg, ht, n1, n2, n3] at q1
  exact ⟨hT, q1, q2, hg⟩

theorem held_hold (t : ByteArray) (hok : holdOk t = true) : heldS (holdS t) = t ∧ heldE (holdS t) = 0 ∧ (holdS t).size = 4096 := by
  have hc := hok
  simp only [holdOk, decide_eq_true_eq] at hc
  have hd : (holdS t).data.toList = holdB t := by rw [holdS, if_pos hok]
  have hz : (holdS t).size = 4096 := by
    rw [← data_length, hd, holdB, List.length_append, List.length_replicate, List.length_cons, List.length_append, putL_length, data_length]
    omega
  have hx : ((holdS t).extract 1 (holdS t).size).data.toList = putL 4 t.size ++ t.data.toList ++ List.replicate (4096 - (5 + t.size)) 0 := by
    rw [extract_end _ _ (by omega), hd, holdB]
    rfl
  obtain ⟨hk, ha⟩ := cut_text _ t _ hx (by omega)
  have ht : heldT (holdS t) = t := ha
  have hH : heldOk (holdS t) = true := by
    simp only [heldOk, decide_eq_true_eq]
    rw [ht]
    exact ⟨hz, hk, hok, rfl⟩
  refine ⟨by rw [heldS, if_pos hH, ht], by rw [heldE, if_pos hH], hz⟩

theorem take_back (b : ByteArray) (h : takeOk b = true) : cellOk (numAt b 1 4) (numAt b 5 4) (numAt b 9 4) (takeG b) (takeT b) = true ∧ cellS (numAt b 1 4) (numAt b 5 4) (numAt b 9 4) (takeG b) (takeT b) = b ∧ cellE (numAt b 1 4) (numAt b 5 4) (numAt b 9 4) (takeG b) (takeT b) = 0 := by
  simp only [takeOk, decide_eq_true_eq] at h
  exact ⟨h.2.2.1, h.2.2.2, by rw [cellE, if_pos h.2.2.1]⟩
theorem held_back (b : ByteArray) (h : heldOk b = true) : heldS b = heldT b ∧ holdOk (heldT b) = true ∧ holdS (heldT b) = b ∧ holdE (heldT b) = 0 := by
  have h0 := h
  simp only [heldOk, decide_eq_true_eq] at h
  exact ⟨by rw [heldS, if_pos h0], h.2.2.1, h.2.2.2, by rw [holdE, if_pos h.2.2.1]⟩
theorem not_both (b : ByteArray) (h : takeOk b = true) : heldOk b = false := by
  obtain ⟨h1, h2, _⟩ := take_back b h
  have hn := (cell_nums _ _ _ _ _ h1).1
  rw [h2] at hn
  cases hh : heldOk b with
  | false => rfl
  | true =>
    have := held_head b hh
    rw [this] at hn
    exact absurd hn (by split <;> decide)

theorem left_cell (e s l : Int) (g : Bool) (t : ByteArray) (hok : cellOk e s l g t = true) : cellOk e s l true ⟨#[]⟩ = true ∧ (cellS e s l true ⟨#[]⟩).extract 17 4096 = zerosS 4079 := by
  have hc := hok
  simp only [cellOk, decide_eq_true_eq] at hc
  obtain ⟨c1, c2, c3, c4, c5, c6, c7, c8⟩ := hc
  have hk : cellOk e s l true ⟨#[]⟩ = true := by
    simp only [cellOk, decide_eq_true_eq]
    exact ⟨c1, c2, c3, c4, c5, c6, Nat.zero_le _, fun _ => rfl⟩
  refine ⟨hk, ?_⟩
  apply bytes_ext
  rw [data_extract, cell_data _ _ _ _ _ hk, cellB, zerosS]
  have hl : (cellH e s l true ⟨#[]⟩).length = 17 := cellH_length _ _ _ _ _
  rw [drop_append_of _ _ 17 hl, hl]
  show List.take 4079 (List.replicate 4079 0) = List.replicate 4079 0
  rw [List.take_of_length_le (by rw [List.length_replicate]; omega)]

end Ks
/- The digest, in plain numbers: no program is in sight. -/
namespace Ks
open Go Go.RowKit
set_option linter.unusedVariables false

/-- a number of 32 bits turned -/
def rotr (x n : Nat) : Nat := ((x >>> n) ||| (x <<< (32 - n))) % 4294967296
def chN (e f g : Nat) : Nat := (e &&& f) ||| ((4294967295 - e) &&& g)
def majN (a b c : Nat) : Nat := ((a &&& b) ||| (a &&& c)) ||| (b &&& c)
def sigS (x a b c : Nat) : Nat := (rotr x a ^^^ rotr x b) ^^^ (x >>> c)
def sigR (x a b c : Nat) : Nat := (rotr x a ^^^ rotr x b) ^^^ rotr x c

theorem rotr_lt (x n : Nat) : rotr x n < 4294967296 := Nat.mod_lt _ (by decide)
theorem shr_lt {x : Nat} (h : x < 4294967296) (n : Nat) : x >>> n < 4294967296 := Nat.lt_of_le_of_lt (Nat.shiftRight_le x n) h
theorem lt32 {x : Nat} : x < 4294967296 ↔ x < 2 ^ 32 := by rw [show (2:Nat) ^ 32 = 4294967296 from by decide]
theorem xor32 {a b : Nat} (ha : a < 4294967296) (hb : b < 4294967296) : a ^^^ b < 4294967296 := lt32.2 (Nat.xor_lt_two_pow (lt32.1 ha) (lt32.1 hb))
theorem or32 {a b : Nat} (ha : a < 4294967296) (hb : b < 4294967296) : a ||| b < 4294967296 := lt32.2 (Nat.or_lt_two_pow (lt32.1 ha) (lt32.1 hb))
theorem and32 {a b : Nat} (hb : b < 4294967296) : a &&& b < 4294967296 := lt32.2 (Nat.and_lt_two_pow _ (lt32.1 hb))
theorem sigS_lt {x a b c : Nat} (h : x < 4294967296) : sigS x a b c < 4294967296 := xor32 (xor32 (rotr_lt _ _) (rotr_lt _ _)) (shr_lt h _)
theorem sigR_lt {x a b c : Nat} : sigR x a b c < 4294967296 := xor32 (xor32 (rotr_lt _ _) (rotr_lt _ _)) (rotr_lt _ _)
theorem chN_lt {e f g : Nat} (hf : f < 4294967296) (hg : g < 4294967296) : chN e f g < 4294967296 := or32 (and32 hf) (and32 hg)
theorem majN_lt {a b c : Nat} (hb : b < 4294967296) (hc : c < 4294967296) : majN a b c < 4294967296 := or32 (or32 (and32 hb) (and32 hc)) (and32 hc)

theorem rot_parts (x n : Nat) (hx : x < 4294967296) : ((x <<< (32 - n)) % 4294967296) ||| (x >>> n) = rotr x n := by
  have e : (4294967296 : Nat) = 2 ^ 32 := by decide
  have hs := lt32.1 (shr_lt hx n)
  unfold rotr
  rw [e]
  apply Nat.eq_of_testBit_eq
  intro i
  rw [Nat.testBit_or, Nat.testBit_mod_two_pow, Nat.testBit_mod_two_pow, Nat.testBit_or]
  by_cases hi : i < 32
  · simp [hi, Bool.or_comm]
  · have : (x >>> n).testBit i = false := Nat.testBit_lt_two_pow (Nat.lt_of_lt_of_le hs (Nat.pow_le_pow_right (by decide) (by omega)))
    simp [hi, this]

theorem ch_parts (e f g : Nat) (he : e < 4294967296) (hg : g < 4294967296) : g ^^^ (e &&& (f ^^^ g)) = chN e f g := by
  unfold chN
  apply Nat.eq_of_testBit_eq
  intro i
  have h1 : (4294967295 - e) = 2 ^ 32 - (e + 1) := by rw [show (2:Nat) ^ 32 = 4294967296 from by decide]; omega
  rw [Nat.testBit_or, Nat.testBit_and, Nat.testBit_and, Nat.testBit_xor, Nat.testBit_and, Nat.testBit_xor, h1, Nat.testBit_two_pow_sub_succ (lt32.1 he)]
  by_cases hi : i < 32
  · simp [hi]; cases e.testBit i <;> cases f.testBit i <;> cases g.testBit i <;> rfl
  · have hgi : g.testBit i = false := Nat.testBit_lt_two_pow (Nat.lt_of_lt_of_le (lt32.1 hg) (Nat.pow_le_pow_right (by decide) (by omega)))
    have hei : e.testBit i = false := Nat.testBit_lt_two_pow (Nat.lt_of_lt_of_le (lt32.1 he) (Nat.pow_le_pow_right (by decide) (by omega)))
    simp [hi, hgi, hei]

theorem maj_parts (a b c : Nat) : (a &&& b) ||| (c &&& (a ||| b)) = majN a b c := by
  unfold majN
  apply Nat.eq_of_testBit_eq
  intro i
  simp only [Nat.testBit_or, Nat.testBit_and]
  cases a.testBit i <;> cases b.testBit i <;> cases c.testBit i <;> rfl

/-! ### the machine's numbers -/
theorem wraps_u32 (n : Int) (h₀ : 0 ≤ n) (h₁ : n < 2 ^ 32) : IntKind.u32.wrap n = n := by
  rw [show (2 : Int) ^ 32 = 4294967296 from by decide] at h₁
  simp [IntKind.wrap, IntKind.bits, IntKind.signed]; omega
theorem wraps_i64 (n : Int) (h₀ : 0 ≤ n) (h₁ : n < 2 ^ 63) : IntKind.i64.wrap n = n := by
  rw [show (2 : Int) ^ 63 = 9223372036854775808 from by decide] at h₁
  rw [IntKind.wrap_i64]; omega
theorem bits_xor_nat (k : IntKind) (j : Nat) (hj : j ≤ k.bits) (hk : ∀ n : Int, 0 ≤ n → n < 2 ^ j → k.wrap n = n) (a b : Nat) (ha : a < 2 ^ j) (hb : b < 2 ^ j) :
    bits .xor k a b = ((a ^^^ b : Nat) : Int) := by
  have hp : 2 ^ j ≤ 2 ^ k.bits := Nat.pow_le_pow_right (by decide) hj
  have ha' : a % 2 ^ k.bits = a := Nat.mod_eq_of_lt (Nat.lt_of_lt_of_le ha hp)
  have hb' : b % 2 ^ k.bits = b := Nat.mod_eq_of_lt (Nat.lt_of_lt_of_le hb hp)
  have cast : ∀ n : Nat, n < 2 ^ j → ((n : Nat) : Int) < 2 ^ j := fun n h => by exact_mod_cast h
  simp only [bits, BitVec.ofInt_natCast, BitVec.toNat_xor, BitVec.toNat_ofNat, ha', hb']
  exact hk _ (Int.natCast_nonneg _) (cast _ (Nat.xor_lt_two_pow ha hb))
theorem xor_u32 (a b : Nat) (ha : a < 4294967296) (hb : b < 4294967296) : bits .xor .u32 a b = ((a ^^^ b : Nat) : Int) := bits_xor_nat .u32 32 (by decide) wraps_u32 a b (lt32.1 ha) (lt32.1 hb)
theorem or_u32 (a b : Nat) (ha : a < 4294967296) (hb : b < 4294967296) : bits .or .u32 a b = ((a ||| b : Nat) : Int) := (bits_nat .u32 32 (by decide) wraps_u32 a b (lt32.1 ha) (lt32.1 hb)).2
theorem and_u32 (a b : Nat) (ha : a < 4294967296) (hb : b < 4294967296) : bits .and .u32 a b = ((a &&& b : Nat) : Int) := (bits_nat .u32 32 (by decide) wraps_u32 a b (lt32.1 ha) (lt32.1 hb)).1
theorem xor_i64 (a b : Nat) (ha : a < 2 ^ 63) (hb : b < 2 ^ 63) : bits .xor .i64 a b = ((a ^^^ b : Nat) : Int) := bits_xor_nat .i64 63 (by decide) wraps_i64 a b ha hb
theorem or_i64 (a b : Nat) (ha : a < 2 ^ 63) (hb : b < 2 ^ 63) : bits .or .i64 a b = ((a ||| b : Nat) : Int) := (bits_nat .i64 63 (by decide) wraps_i64 a b ha hb).2
theorem and_i64 (a b : Nat) (ha : a < 2 ^ 63) (hb : b < 2 ^ 63) : bits .and .i64 a b = ((a &&& b : Nat) : Int) := (bits_nat .i64 63 (by decide) wraps_i64 a b ha hb).1

/-! ### the sum -/
structure St where
  a : Nat
  b : Nat
  c : Nat
  d : Nat
  e : Nat
  f : Nat
  g : Nat
  h : Nat
deriving DecidableEq
def St.ok (s : St) : Prop := s.a < 4294967296 ∧ s.b < 4294967296 ∧ s.c < 4294967296 ∧ s.d < 4294967296 ∧ s.e < 4294967296 ∧ s.f < 4294967296 ∧ s.g < 4294967296 ∧ s.h < 4294967296
def St.list (s : St) : List Nat := [s.a, s.b, s.c, s.d, s.e, s.f, s.g, s.h]

/-- the next of a block's numbers -/
def wNext (W : List Nat) : Nat :=
  (W.getD (W.length - 16) 0 + sigS (W.getD (W.length - 15) 0) 7 18 3 + W.getD (W.length - 7) 0 + sigS (W.getD (W.length - 2) 0) 17 19 10) % 4294967296
/-- the number of four bytes of a block -/
def num4 (B : List UInt8) (i : Nat) : Nat := getN ((B.drop (4 * i)).take 4)
/-- a block's first numbers -/
def wordsN (B : List UInt8) : Nat → List Nat
  | 0 => []
  | n + 1 => wordsN B n ++ [if n < 16 then num4 B n else wNext (wordsN B n)]

def kays : List Nat := [
  0x428a2f98, 0x71374491, 0xb5c0fbcf, 0xe9b5dba5, 0x3956c25b, 0x59f111f1, 0x923f82a4, 0xab1c5ed5,
  0xd807aa98, 0x12835b01, 0x243185be, 0x550c7dc3, 0x72be5d74, 0x80deb1fe, 0x9bdc06a7, 0xc19bf174,
  0xe49b69c1, 0xefbe4786, 0x0fc19dc6, 0x240ca1cc, 0x2de92c6f, 0x4a7484aa, 0x5cb0a9dc, 0x76f988da,
  0x983e5152, 0xa831c66d, 0xb00327c8, 0xbf597fc7, 0xc6e00bf3, 0xd5a79147, 0x06ca6351, 0x14292967,
  0x27b70a85, 0x2e1b2138, 0x4d2c6dfc, 0x53380d13, 0x650a7354, 0x766a0abb, 0x81c2c92e, 0x92722c85,
  0xa2bfe8a1, 0xa81a664b, 0xc24b8b70, 0xc76c51a3, 0xd192e819, 0xd6990624, 0xf40e3585, 0x106aa070,
  0x19a4c116, 0x1e376c08, 0x2748774c, 0x34b0bcb5, 0x391c0cb3, 0x4ed8aa4a, 0x5b9cca4f, 0x682e6ff3,
  0x748f82ee, 0x78a5636f, 0x84c87814, 0x8cc70208, 0x90befffa, 0xa4506ceb, 0xbef9a3f7, 0xc67178f2]
def st0 : St := ⟨0x6a09e667, 0xbb67ae85, 0x3c6ef372, 0xa54ff53a, 0x510e527f, 0x9b05688c, 0x1f83d9ab, 0x5be0cd19⟩

def tN (s : St) (k w : Nat) : Nat := s.h + sigR s.e 6 11 25 + chN s.e s.f s.g + k + w
def uN (s : St) : Nat := sigR s.a 2 13 22 + majN s.a s.b s.c
def roundN (s : St) (k w : Nat) : St := ⟨(tN s k w + uN s) % 4294967296, s.a, s.b, s.c, (s.d + tN s k w) % 4294967296, s.e, s.f, s.g⟩
def roundsN (s : St) (W : List Nat) : Nat → St
  | 0 => s
  | n + 1 => roundN (roundsN s W n) (kays.getD n 0) (W.getD n 0)
def addN (x s : St) : St := ⟨(x.a + s.a) % 4294967296, (x.b + s.b) % 4294967296, (x.c + s.c) % 4294967296, (x.d + s.d) % 4294967296, (x.e + s.e) % 4294967296, (x.f + s.f) % 4294967296, (x.g + s.g) % 4294967296, (x.h + s.h) % 4294967296⟩
/-- the state that a block turns one to -/
def turnN (s : St) (B : List UInt8) : St := addN (roundsN s (wordsN B 64) 64) s

theorem getN4_lt (l : List UInt8) : getN (l.take 4) < 4294967296 := by
  have h := getN_lt (l.take 4)
  have h2 : (256 : Nat) ^ (l.take 4).length ≤ 256 ^ 4 := Nat.pow_le_pow_right (by decide) (by simp; omega)
  have h3 : (256 : Nat) ^ 4 = 4294967296 := by decide
  omega
theorem num4_lt (B : List UInt8) (i : Nat) : num4 B i < 4294967296 := getN4_lt _
theorem wordsN_length (B : List UInt8) (n : Nat) : (wordsN B n).length = n := by
  induction n with
  | zero => rfl
  | succ n ih => simp [wordsN, ih]
theorem wNext_lt (W : List Nat) : wNext W < 4294967296 := Nat.mod_lt _ (by decide)
theorem wordsN_lt (B : List UInt8) (n : Nat) : ∀ x ∈ wordsN B n, x < 4294967296 := by
  induction n with
  | zero => intro x hx; cases hx
  | succ n ih =>
    intro x hx
    rw [wordsN, List.mem_append, List.mem_singleton] at hx
    rcases hx with hx | rfl
    · exact ih x hx
    · split
      · exact num4_lt _ _
      · exact wNext_lt _
theorem getD_lt {l : List Nat} (h : ∀ x ∈ l, x < 4294967296) (i : Nat) : l.getD i 0 < 4294967296 := by
  rw [List.getD_eq_getElem?_getD]
  cases e : l[i]? with
  | none => simp
  | some x => exact h x (List.mem_of_getElem? e)
theorem kays_lt : ∀ x ∈ kays, x < 4294967296 := by decide
theorem st0_ok : st0.ok := by unfold St.ok; decide
theorem roundN_ok {s : St} (h : s.ok) (k w : Nat) : (roundN s k w).ok := by
  obtain ⟨h1, h2, h3, h4, h5, h6, h7, h8⟩ := h
  exact ⟨Nat.mod_lt _ (by decide), h1, h2, h3, Nat.mod_lt _ (by decide), h5, h6, h7⟩
theorem roundsN_ok {s : St} (h : s.ok) (W : List Nat) (n : Nat) : (roundsN s W n).ok := by
  induction n with
  | zero => exact h
  | succ n ih => exact roundN_ok ih _ _
theorem addN_ok (x s : St) : (addN x s).ok := by
  refine ⟨?_, ?_, ?_, ?_, ?_, ?_, ?_, ?_⟩ <;> exact Nat.mod_lt _ (by decide)
theorem turnN_ok (s : St) (B : List UInt8) : (turnN s B).ok := addN_ok _ _

/-- a state's bytes -/
def textL (s : St) : List UInt8 := putL 4 s.a ++ (putL 4 s.b ++ (putL 4 s.c ++ (putL 4 s.d ++ (putL 4 s.e ++ (putL 4 s.f ++ (putL 4 s.g ++ putL 4 s.h))))))
/-- the state that a text's blocks turn one to -/
def foldN (s : St) (l : List UInt8) : St :=
  if h : 64 ≤ l.length then foldN (turnN s (l.take 64)) (l.drop 64) else s
termination_by l.length
decreasing_by simp; omega
/-- what stands behind so many bytes -/
def padL (n : Nat) : List UInt8 := 128 :: (List.replicate (63 - (n + 8) % 64) 0 ++ putL 8 (8 * n))
/-- the sum -/
def shaL (l : List UInt8) : List UInt8 := textL (foldN st0 (l ++ padL l.length))

end Ks
/- A text's blocks, one by one: plain laws of the digest. No program is in sight. -/
namespace Ks
open Go Go.RowKit
set_option linter.unusedVariables false
theorem foldN_ge (s : St) (l : List UInt8) (h : 64 ≤ l.length) : foldN s l = foldN (turnN s (l.take 64)) (l.drop 64) := by
  rw [foldN]; simp [h]
theorem foldN_lt (s : St) (l : List UInt8) (h : l.length < 64) : foldN s l = s := by
  rw [foldN]; simp [show ¬ 64 ≤ l.length by omega]
/-- what is left behind whole blocks -/
def restL (l : List UInt8) : List UInt8 := l.drop (64 * (l.length / 64))
theorem restL_length (l : List UInt8) : (restL l).length = l.length % 64 := by simp only [restL, List.length_drop]; omega
theorem restL_lt (l : List UInt8) (h : l.length < 64) : restL l = l := by rw [restL, Nat.div_eq_of_lt h]; simp
theorem restL_ge (l : List UInt8) (h : 64 ≤ l.length) : restL l = restL (l.drop 64) := by
  rw [restL, restL, List.drop_drop, List.length_drop]; congr 1; omega
theorem foldN_append (B : List UInt8) : ∀ (n : Nat) (s : St) (A : List UInt8), A.length = n → foldN s (A ++ B) = foldN (foldN s A) (restL A ++ B) := by
  intro n
  induction n using Nat.strongRecOn with
  | _ n ih =>
    intro s A hA
    by_cases h : 64 ≤ A.length
    · rw [foldN_ge s A h, restL_ge A h, foldN_ge s (A ++ B) (by simp; omega), List.take_append_of_le_length h, List.drop_append_of_le_length h]
      exact ih (n - 64) (by omega) _ _ (by simp; omega)
    · rw [foldN_lt s A (by omega), restL_lt A (by omega)]
theorem restL_append (B : List UInt8) : ∀ (n : Nat) (A : List UInt8), A.length = n → restL (A ++ B) = restL (restL A ++ B) := by
  intro n
  induction n using Nat.strongRecOn with
  | _ n ih =>
    intro A hA
    by_cases h : 64 ≤ A.length
    · rw [restL_ge A h, restL_ge (A ++ B) (by simp; omega), List.drop_append_of_le_length h]
      exact ih (n - 64) (by omega) _ (by simp; omega)
    · rw [restL_lt A (by omega)]
theorem foldN_ok : ∀ (n : Nat) (s : St) (l : List UInt8), l.length = n → s.ok → (foldN s l).ok := by
  intro n
  induction n using Nat.strongRecOn with
  | _ n ih =>
    intro s l hl hs
    by_cases h : 64 ≤ l.length
    · rw [foldN_ge s l h]; exact ih (n - 64) (by omega) _ _ (by simp; omega) (turnN_ok _ _)
    · rw [foldN_lt s l (by omega)]; exact hs
theorem fold0_ok (l : List UInt8) : (foldN st0 l).ok := foldN_ok _ _ _ rfl st0_ok
theorem padL_length (n : Nat) : (padL n).length = 72 - (n + 8) % 64 := by simp [padL, putL_length]; omega
theorem padded (l : List UInt8) : (l ++ padL l.length).length % 64 = 0 := by rw [List.length_append, padL_length]; omega
theorem textL_length (s : St) : (textL s).length = 32 := by simp [textL, putL_length]
theorem shaL_length (l : List UInt8) : (shaL l).length = 32 := textL_length _
end Ks
/- A volume's shape: plain. -/
namespace Ks
open Go Go.RowKit
set_option linter.unusedVariables false
def geoOk (b l f : Int) : Bool := decide (8 ≤ b ∧ b ≤ 1024 ∧ 1 ≤ l ∧ l ≤ 4096 ∧ 0 ≤ f ∧ f ≤ 4294967295)
theorem geo_ok {b l f : Int} : geoOk b l f = true ↔ 8 ≤ b ∧ b ≤ 1024 ∧ 1 ≤ l ∧ l ≤ 4096 ∧ 0 ≤ f ∧ f ≤ 4294967295 := by simp [geoOk]
def geoE (b l f : Int) : Int := if geoOk b l f then 0 else 2
def geoD (b l f : Int) : Int := if geoOk b l f then b - 4 else 0
def geoL (b l f : Int) : List UInt8 := putL 4 b.toNat ++ putL 4 l.toNat ++ putL 4 f.toNat
def geoS (b l f : Int) : ByteArray := if geoOk b l f then ⟨(geoL b l f).toArray⟩ else ⟨#[]⟩
theorem geoL_length (b l f : Int) : (geoL b l f).length = 12 := by simp [geoL]
/-- either bad in one of six ways, or right -/
theorem geo_cases (b l f : Int) : (b < 8 ∧ geoOk b l f = false) ∨ (8 ≤ b ∧ 1024 < b ∧ geoOk b l f = false) ∨ (8 ≤ b ∧ b ≤ 1024 ∧ l < 1 ∧ geoOk b l f = false) ∨ (8 ≤ b ∧ b ≤ 1024 ∧ 1 ≤ l ∧ 4096 < l ∧ geoOk b l f = false) ∨
    (8 ≤ b ∧ b ≤ 1024 ∧ 1 ≤ l ∧ l ≤ 4096 ∧ f < 0 ∧ geoOk b l f = false) ∨ (8 ≤ b ∧ b ≤ 1024 ∧ 1 ≤ l ∧ l ≤ 4096 ∧ 0 ≤ f ∧ 4294967295 < f ∧ geoOk b l f = false) ∨ (8 ≤ b ∧ b ≤ 1024 ∧ 1 ≤ l ∧ l ≤ 4096 ∧ 0 ≤ f ∧ f ≤ 4294967295 ∧ geoOk b l f = true) := by
  have e : geoOk b l f = decide (8 ≤ b ∧ b ≤ 1024 ∧ 1 ≤ l ∧ l ≤ 4096 ∧ 0 ≤ f ∧ f ≤ 4294967295) := rfl
  rw [e]
  simp only [decide_eq_false_iff_not, decide_eq_true_eq]
  omega
/-- as it is packed -/
theorem geo_pack (b l f : Int) (h : geoOk b l f = true) : packE [4, 4, 4] [b, l, f] = 0 ∧ packS [4, 4, 4] [b, l, f] = geoS b l f := by
  obtain ⟨h1, h2, h3, h4, h5, h6⟩ := geo_ok.1 h
  have hp : packOk [4, 4, 4] [b, l, f] = true := by
    simp only [packOk, decide_eq_true_eq]
    refine ⟨rfl, fun i hi => ?_⟩
    match i, hi with
    | 0, _ => exact putOk4 b (by omega) (by omega)
    | 1, _ => exact putOk4 l (by omega) (by omega)
    | 2, _ => exact putOk4 f h5 h6
    | n + 3, hi => exact absurd hi (by simp)
  refine ⟨by rw [packE, if_pos hp], ?_⟩
  rw [packS, if_pos hp, geoS, if_pos h, geoL]
  simp [packTo]
theorem geo_cat (b l f : Int) (h : geoOk b l f = true) : putS b 4 ++ putS l 4 ++ putS f 4 = geoS b l f := by
  obtain ⟨h1, h2, h3, h4, h5, h6⟩ := geo_ok.1 h
  rw [putS4 b (by omega) (by omega), putS4 l (by omega) (by omega), putS4 f h5 h6, ByteArray.mk_append_mk, ByteArray.mk_append_mk, geoS, if_pos h, geoL]
/-- which shape some bytes are -/
def geoT (s : ByteArray) : Bool := decide (s.size = 12 ∧ geoOk (numAt s 0 4) (numAt s 4 4) (numAt s 8 4) = true)
theorem geo_no {b l f : Int} (h : geoOk b l f = false) : geoS b l f = ⟨#[]⟩ ∧ geoE b l f = 2 ∧ geoD b l f = 0 := by
  have h' : ¬ geoOk b l f = true := by rw [h]; exact Bool.false_ne_true
  exact ⟨by rw [geoS, if_neg h'], by rw [geoE, if_neg h'], by rw [geoD, if_neg h']⟩
theorem geo_yes {b l f : Int} (h : geoOk b l f = true) : geoE b l f = 0 ∧ geoD b l f = b - 4 := ⟨by rw [geoE, if_pos h], by rw [geoD, if_pos h]⟩
theorem geo_size (b l f : Int) (h : geoOk b l f = true) : (geoS b l f).size = 12 := by
  rw [geoS, if_pos h]; exact geoL_length b l f
/-- put again it is those bytes -/
theorem geo_back (s : ByteArray) (h : geoT s = true) : geoS (numAt s 0 4) (numAt s 4 4) (numAt s 8 4) = s := by
  simp only [geoT, decide_eq_true_eq] at h
  obtain ⟨hz, ho⟩ := h
  rw [geoS, if_pos ho]
  apply bytes_ext
  show geoL _ _ _ = s.data.toList
  have hl := data_length s
  have key : ∀ i, i + 4 ≤ 12 → putL 4 (numAt s i 4) = (s.data.toList.drop i).take 4 := fun i hi => by
    have hlen : ((s.data.toList.drop i).take 4).length = 4 := by rw [List.length_take, List.length_drop]; omega
    have := putL_getN ((s.data.toList.drop i).take 4)
    rw [hlen] at this
    exact this
  unfold geoL
  simp only [Int.toNat_natCast]
  rw [key 0 (by omega), key 4 (by omega), key 8 (by omega), List.drop_zero]
  generalize s.data.toList = L at *
  have e1 : L = L.take 4 ++ ((L.drop 4).take 4 ++ (L.drop 8).take 4) := by
    conv => lhs; rw [← List.take_append_drop 4 L]
    congr 1
    conv => lhs; rw [← List.take_append_drop 4 (L.drop 4)]
    rw [List.drop_drop]
    congr 1
    exact (List.take_of_length_le (by rw [List.length_drop]; omega)).symm
  rw [List.append_assoc]
  exact e1.symm
theorem geo_nums (b l f : Int) (h : geoOk b l f = true) : geoT (geoS b l f) = true ∧ (numAt (geoS b l f) 0 4 : Int) = b ∧ (numAt (geoS b l f) 4 4 : Int) = l ∧ (numAt (geoS b l f) 8 4 : Int) = f := by
  obtain ⟨h1, h2, h3, h4, h5, h6⟩ := geo_ok.1 h
  have hz := geo_size b l f h
  have hd : (geoS b l f).data.toList = geoL b l f := by rw [geoS, if_pos h]
  have n0 : (numAt (geoS b l f) 0 4 : Int) = b := by
    unfold numAt
    rw [hd, geoL, show putL 4 b.toNat ++ putL 4 l.toNat ++ putL 4 f.toNat = [] ++ (putL 4 b.toNat ++ (putL 4 l.toNat ++ putL 4 f.toNat)) by simp, piece_mid _ _ _ 0 4 rfl (putL_length _ _), getN_put4 _ (by omega)]
    omega
  have n1 : (numAt (geoS b l f) 4 4 : Int) = l := by
    unfold numAt
    rw [hd, geoL, show putL 4 b.toNat ++ putL 4 l.toNat ++ putL 4 f.toNat = putL 4 b.toNat ++ (putL 4 l.toNat ++ putL 4 f.toNat) by simp, piece_mid _ _ _ 4 4 (putL_length _ _) (putL_length _ _), getN_put4 _ (by omega)]
    omega
  have n2 : (numAt (geoS b l f) 8 4 : Int) = f := by
    unfold numAt
    rw [hd, geoL, show putL 4 b.toNat ++ putL 4 l.toNat ++ putL 4 f.toNat = (putL 4 b.toNat ++ putL 4 l.toNat) ++ (putL 4 f.toNat ++ []) by simp, piece_mid _ _ _ 8 4 (by simp) (putL_length _ _), getN_put4 _ (by omega)]
    omega
  refine ⟨?_, n0, n1, n2⟩
  simp only [geoT, decide_eq_true_eq]
  rw [n0, n1, n2]
  exact ⟨hz, h⟩
/-- unpacked -/
theorem geo_unpack (s : ByteArray) : (s.size = 12 ∧ unpackE [4, 4, 4] s = 0 ∧ unpackL [4, 4, 4] s = [(numAt s 0 4 : Int), (numAt s 4 4 : Int), (numAt s 8 4 : Int)]) ∨ (s.size ≠ 12 ∧ unpackE [4, 4, 4] s = 3) := by
  have hl := data_length s
  by_cases hz : s.size = 12
  · left
    have p0 : piece [4, 4, 4] s.data.toList 0 = (s.data.toList.drop 0).take 4 := rfl
    have p1 : piece [4, 4, 4] s.data.toList 1 = (s.data.toList.drop 4).take 4 := rfl
    have p2 : piece [4, 4, 4] s.data.toList 2 = (s.data.toList.drop 8).take 4 := rfl
    have hE : unpackE [4, 4, 4] s = 0 := by
      rw [unpackE, if_pos (by decide), if_pos (by rw [hz]; rfl), if_pos]
      simp only [piecesOk, decide_eq_true_eq]
      intro i hi
      match i, hi with
      | 0, _ => rw [p0]; exact getOk_small _ (by simp; omega) (by simp; omega)
      | 1, _ => rw [p1]; exact getOk_small _ (by simp; omega) (by simp; omega)
      | 2, _ => rw [p2]; exact getOk_small _ (by simp; omega) (by simp; omega)
      | n + 3, hi => exact absurd hi (by simp)
    refine ⟨hz, hE, ?_⟩
    rw [unpackL, if_pos hE]
    show (List.range 3).map _ = _
    rw [show List.range 3 = [0, 1, 2] from rfl]
    simp only [List.map_cons, List.map_nil]
    rw [p0, p1, p2]
    rfl
  · right
    refine ⟨hz, ?_⟩
    rw [unpackE, if_pos (by decide), if_neg]
    exact fun h => hz h
end Ks
/- A volume as a plain thing: versions, records, calls, answers. Plain. No program is in sight. -/
namespace Ks
open Go Go.RowKit
set_option linter.unusedVariables false
/-- a version: its place, its epoch, its data -/
abbrev VerD := Int × Int × ByteArray
def verD : Enc VerD := ⟨3, fun x => [.int .i64 x.1, .int .i64 x.2.1, .string x.2.2], fun _ => rfl, fun x u hu => by simp only [List.mem_cons, List.not_mem_nil, or_false] at hu; rcases hu with rfl | rfl | rfl <;> rfl, by decide⟩
structure GeoD where
  blocks : Int
  lbas : Int
  first : Int
deriving DecidableEq
abbrev geoC (g : GeoD) : Array Value := #[.int .i64 g.blocks, .int .i64 g.lbas, .int .i64 g.first]
abbrev geoV (g : GeoD) : Value := .agg (geoC g)
def geoData (g : GeoD) : Int := geoD g.blocks g.lbas g.first
def geoRoom (g : GeoD) (used : Int) : Int := if used < 0 then 0 else max (geoData g - 1 - min used 1024) 0
structure ModT where
  geo : GeoD
  used : Int
  now : Int
  book : BookT
  recs : List RecT
  vers : List VerD
structure CallT where
  kind : Int
  lba : Int
  epoch : Int
  time : Int
  data : ByteArray
  name : ByteArray
structure AnsT where
  err : Int
  data : ByteArray
  st : Int × Int × Int × Int × Int × Int
abbrev ansC (a : AnsT) : Array Value := #[.int .i64 a.err, .string a.data, .int .i64 a.st.1, .int .i64 a.st.2.1, .int .i64 a.st.2.2.1, .int .i64 a.st.2.2.2.1, .int .i64 a.st.2.2.2.2.1, .int .i64 a.st.2.2.2.2.2]
def errA (e : Int) : AnsT := ⟨e, ⟨#[]⟩, (0, 0, 0, 0, 0, 0)⟩
def newM (g : GeoD) : ModT := ⟨g, 0, 0, newB g.first, [], []⟩
def placeE (m : ModT) (lba : Int) : Int := if lba < 0 ∨ m.geo.lbas ≤ lba then 4 else 0
def roomM (m : ModT) : Int := geoRoom m.geo m.used
def writeE (m : ModT) (c : CallT) : Int := if placeE m c.lba ≠ 0 then placeE m c.lba else if 4000 < c.data.size then 2 else if roomM m = 0 then 5 else 0
def writeM (m : ModT) (c : CallT) : ModT := if writeE m c = 0 then { m with used := m.used + 1, vers := m.vers ++ [(c.lba, m.book.epoch, c.data)] } else m
/-- which places have a version of epochs from one on -/
def placesL (l : List VerD) (ep : Int) : List (Int × Bool) := l.foldl (fun m v => if ep ≤ v.2.1 then putM m v.1 true else m) []
def placesN (m : ModT) (ep : Int) : Nat := (placesL m.vers ep).length
def applyM (m : ModT) (r : RecT) : ModT := { m with used := m.used + 1, book := applyB m.book r, recs := m.recs ++ [r] }
def closeE (m : ModT) : Int := if 4294967295 ≤ m.book.epoch ∨ geoData m.geo ≤ m.used then 6 else 0
def closeR (m : ModT) (z : ByteArray) : RecT := ⟨1, m.book.epoch, m.now, placesN m m.book.epoch, 0, 0, z, ⟨#[]⟩⟩
def closeM (m : ModT) (z : ByteArray) : ModT := if closeE m = 0 then applyM m (closeR m z) else m
theorem placesL_take (l : List VerD) (ep : Int) (k : Nat) (v : VerD) (h : l[k]? = some v) : placesL (l.take (k + 1)) ep = if ep ≤ v.2.1 then putM (placesL (l.take k) ep) v.1 true else placesL (l.take k) ep := by
  rw [placesL, List.take_add_one, h, List.foldl_append]; rfl
theorem placesL_len (l : List VerD) (ep : Int) : (placesL l ep).length ≤ l.length := by
  have key : ∀ (l : List VerD) (m : List (Int × Bool)), (l.foldl (fun m v => if ep ≤ v.2.1 then putM m v.1 true else m) m).length ≤ m.length + l.length := by
    intro l
    induction l with
    | nil => intro m; simp
    | cons v l ih =>
      intro m
      rw [List.foldl_cons, List.length_cons]
      have h1 := ih (if ep ≤ v.2.1 then putM m v.1 true else m)
      have h2 : (if ep ≤ v.2.1 then putM m v.1 true else m).length ≤ m.length + 1 := by
        split
        · exact length_put_le _ _ _
        · omega
      omega
  have := key l []
  simpa [placesL] using this
end Ks
