/- Texts that the claim rests on, part 12: ModCopy, ModDo, MovedNew, ModRead. -/
import Derived.Laws.Externs
import Derived.MapKept
import Derived.Test.YtnkiokaeooopgaaGreatM11
/- Copies: of rows, of maps, of a book, of a model: of the program. -/
set_option maxRecDepth 100000
namespace Ks
open Go Go.RowKit
set_option linter.unusedVariables false
/-- a block is made, if it was -/
def allocT (W : World) (o : Obj) : Option Value → World
  | none => W
  | some _ => W.alloc o
theorem allocT_below (W : World) (o : Obj) (t : Option Value) : Below W.heap.size W (allocT W o t) := by
  cases t with
  | none => exact Below.refl _ _
  | some u => exact (Below.refl _ W).alloc (Nat.le_refl _) o
/-- worlds where four blocks are made, one behind the other -/
def Allocs4 (W : World) (o1 o2 o3 o4 : Obj) (a b c d : Option Value) (w : World) : Prop :=
  w = allocT (allocT (allocT (allocT W.drew o1 a) o2 b) o3 c) o4 d ∧ (b ≠ none → a ≠ none) ∧ (c ≠ none → b ≠ none) ∧ (d ≠ none → c ≠ none)
section
variable {W w : World} {o1 o2 o3 o4 : Obj} {a b c d : Option Value}
theorem none_of {x y : Option Value} (h : x ≠ none → y ≠ none) (hy : y = none) : x = none := Classical.byContradiction fun q => h q hy
theorem Allocs4.start : Allocs4 W o1 o2 o3 o4 none none none none W.drew := ⟨rfl, fun h => absurd rfl h, fun h => absurd rfl h, fun h => absurd rfl h⟩
theorem Allocs4.below (h : Allocs4 W o1 o2 o3 o4 a b c d w) : Below W.heap.size W w := by
  rw [h.1]
  have b1 : Below W.heap.size W (allocT W.drew o1 a) := (drew_below W).trans (show Below W.heap.size W.drew _ from allocT_below W.drew o1 a)
  have b2 := b1.trans ((allocT_below _ o2 b).mono b1.size)
  have b3 := b2.trans ((allocT_below _ o3 c).mono b2.size)
  exact b3.trans ((allocT_below _ o4 d).mono b3.size)
theorem Allocs4.one {v : Value} (h : Allocs4 W o1 o2 o3 o4 none b c d w) : w.heap.size = W.heap.size ∧ Allocs4 W o1 o2 o3 o4 (some v) b c d (w.alloc o1) := by
  have hb := none_of h.2.1 rfl
  have hc := none_of h.2.2.1 hb
  have hd := none_of h.2.2.2 hc
  subst hb hc hd
  have e : w = W.drew := h.1
  exact ⟨by rw [e]; rfl, by rw [e]; rfl, fun h => absurd rfl h, fun h => absurd rfl h, fun h => absurd rfl h⟩
theorem Allocs4.two {v x : Value} (h : Allocs4 W o1 o2 o3 o4 (some x) none c d w) : w.heap.size = W.heap.size + 1 ∧ Allocs4 W o1 o2 o3 o4 (some x) (some v) c d (w.alloc o2) := by
  have hc := none_of h.2.2.1 rfl
  have hd := none_of h.2.2.2 hc
  subst hc hd
  have e : w = W.drew.alloc o1 := h.1
  exact ⟨by rw [e]; simp, by rw [e]; rfl, (fun _ h => by cases h), fun h => absurd rfl h, fun h => absurd rfl h⟩
theorem Allocs4.three {v x y : Value} (h : Allocs4 W o1 o2 o3 o4 (some x) (some y) none d w) : w.heap.size = W.heap.size + 2 ∧ Allocs4 W o1 o2 o3 o4 (some x) (some y) (some v) d (w.alloc o3) := by
  have hd := none_of h.2.2.2 rfl
  subst hd
  have e : w = (W.drew.alloc o1).alloc o2 := h.1
  exact ⟨by rw [e]; simp, by rw [e]; rfl, (fun _ h => by cases h), (fun _ h => by cases h), fun h => absurd rfl h⟩
theorem Allocs4.four {v x y z : Value} (h : Allocs4 W o1 o2 o3 o4 (some x) (some y) (some z) none w) : w.heap.size = W.heap.size + 3 ∧ Allocs4 W o1 o2 o3 o4 (some x) (some y) (some z) (some v) (w.alloc o4) := by
  have e : w = ((W.drew.alloc o1).alloc o2).alloc o3 := h.1
  exact ⟨by rw [e]; simp, by rw [e]; rfl, (fun _ h => by cases h), (fun _ h => by cases h), (fun _ h => by cases h)⟩
theorem Allocs4.end {v x y z : Value} (h : Allocs4 W o1 o2 o3 o4 (some x) (some y) (some z) (some v) w) : w.heap.size = W.heap.size + 4 ∧ w.heap[W.heap.size]? = some o1 ∧ w.heap[W.heap.size + 1]? = some o2 ∧ w.heap[W.heap.size + 2]? = some o3 ∧ w.heap[W.heap.size + 3]? = some o4 := by
  have e : w = (((W.drew.alloc o1).alloc o2).alloc o3).alloc o4 := h.1
  have s0 : W.drew.heap.size = W.heap.size := rfl
  have n1 := (MapKept.heap_alloc W.drew o1).1
  have n2 := (MapKept.heap_alloc (W.drew.alloc o1) o2).1
  have n3 := (MapKept.heap_alloc ((W.drew.alloc o1).alloc o2) o3).1
  have n4 := (MapKept.heap_alloc (((W.drew.alloc o1).alloc o2).alloc o3) o4).1
  simp only [World.size_alloc, s0] at n1 n2 n3 n4
  have k : ∀ (A : World) (o : Obj) (j : Nat), j < A.heap.size → (A.alloc o).heap[j]? = A.heap[j]? := fun A o j hj => Below.heap_alloc A o j hj
  rw [e]
  refine ⟨by simp, ?_, ?_, ?_, n4⟩
  · rw [k _ _ _ (by simp; omega), k _ _ _ (by simp; omega), k _ _ _ (by simp)]; exact n1
  · rw [k _ _ _ (by simp), k _ _ _ (by simp)]; exact n2
  · rw [k _ _ _ (by simp)]; exact n3
end
section
variable {P : Program} (w : World)
/-- a map held against nil -/
theorem equalIn_map_nil (d : Nat) (t k e : TypeId) (p : Option Nat) (h : P.underlying t = some (.map k e)) : (Op.equalIn (d + 1) t (.map p) (.map none)).run P w = .ok p.isNone w := by
  cases p <;> simp [Op.equalIn, run_underlying h]
theorem eql_map_nil (t k e : TypeId) (p : Option Nat) (h : P.underlying t = some (.map k e)) : (binOp .eql t (.map p) (.map none)).run P w = .ok (.bool p.isNone) w := by
  simp only [binOp]
  simp [show Op.equal t (.map p) (.map none) = Op.equalIn (9999 + 1) t (.map p) (.map none) from rfl, equalIn_map_nil w 9999 t k e p h]
theorem assert_map (t xT k e : TypeId) (v : Value) (h : P.underlying t = some (.map k e)) : (Instr.typeAssert (.iface t v) xT t false).run P w = .ok v w := by
  simp [Instr.typeAssert, run_underlying h, go_sem, Result.andThen]
theorem clone_map {r : Nat} {es : Array MapEntry} {clock : Nat} (t : TypeId) (hb : w.heap[r]? = some (.map es clock)) :
    (Extern.MapsClone.clone #[.iface t (.map (some r))]).run P w = .ok (.iface t (.map (some w.heap.size))) (w.alloc (.map es clock)) := by
  have e : Extern.MapsClone.clone #[.iface t (.map (some r))] = (getObj r >>= fun o => match o with
      | .map entries clock => (newObj (.map entries clock) >>= fun n => pure (.iface t (.map (some n))))
      | _ => stuck "maps.clone: a map expected") := rfl
  rw [e]
  simp [MapKept.run_getObj_map hb, Result.andThen, go_sem]
end
end Ks
namespace Go.Proofs.YtnkiokaeooopgaaGreat
open Go.RowKit Ks Go.Maps
set_option linter.unusedVariables false
set_option linter.unusedSimpArgs false
set_option maxHeartbeats 1000000 in
theorem rclone_any (lv : Value) (l : List RecT) (w : World) (hl : Rd recE w lv l) (hlen : l.length ≤ 1000000) :
    Calls Tryz.prog 61 #[lv] w fun e w' => ∃ v', e = .returned v' ∧ Row recE w' w.heap.size 72 v' l ∧ Below w.heap.size w w' := by
  refine calls_by fun R HR => ?_
  have HL := Lib.hid hl
  have q22 : ∀ (w : World) (a : Option Addr) (n c n' c' : Nat), (binOp .eql 50 (.slice a n c) (.slice none n' c')).run Tryz.prog w = .ok (.bool a.isNone) w := fun w a n c n' c' => Lib.run_eql_slice_nil w _ _ a n c n' c' Tryz.underlying50
  obtain ⟨a, cap, rfl, hcap, hnone⟩ := hl.shape
  cases a with
  | none =>
    have hc0 := hnone rfl
    have : l = [] := List.length_eq_zero_iff.1 (by omega)
    subst this
    clear hnone hl
    subst hc0
    go_enter Tryz.func61, Tryz.ntmps61
    go_wp2
    exact HR.out _ _ ⟨_, rfl, Row.nil _ _ _, Below.refl _ _⟩
  | some ad =>
    clear hnone hl
    obtain ⟨W1, hW1⟩ : ∃ W1, w.alloc (.cells #[] 72) = W1 := ⟨_, rfl⟩
    have hb1 : Below w.heap.size w W1 := by rw [← hW1]; exact alloc_below w _
    have hrow : Row recE W1 w.heap.size 72 (.slice (some ⟨w.heap.size, 0, none⟩) 0 0) [] := by rw [← hW1]; exact Row.made w _ _ (Nat.le_refl _)
    have H1 := Lib.hid (And.intro hb1 (And.intro hrow (HL.out.below hb1)))
    clear hb1 hrow
    go_enter Tryz.func61, Tryz.ntmps61
    go_wp2_with (at_builtin; refine wpList_append_row _ rfl _ _ 50 rfl recT24 w.heap.size _ _ [] l rfl rfl H1.out.2.1 H1.out.2.2 H1.out.1.size (by simp; omega) (by decide) ?_)
    intro v' w2 hG
    have HG := Lib.hid hG
    clear hG
    go_wp2
    exact HR.out _ _ ⟨v', rfl, HG.out.1, HG.out.below H1.out.1 H1.out.1.size (fun b hb => by simp [Value.ownBlock] at hb; omega)⟩
theorem eg_rclone_any : ∀ args w, (callFunc 61 args).run Tryz.prog w = .ok (.enter 61 args) w := fun _ _ => rfl

theorem cnew_any (t : Int) (w : World) (h0 : 0 ≤ t) (h1 : t ≤ 1099511627776) : Calls Tryz.prog 12 #[.int .i64 t] w fun e w' => e = .returned (.tuple #[.pointer (some ⟨w.heap.size, 0, none⟩), .int .i64 0]) ∧ w' = w.alloc (.cells #[.bool true, .int .i64 t] 82) := by
  refine calls_by fun R HR => ?_
  have hd0 : decide (0 ≤ t) = true := decide_eq_true h0
  have hd1 : decide (t ≤ 1099511627776) = true := decide_eq_true h1
  have hmay : Calls Tryz.prog 39 #[.int .i64 t] w fun e w' => e = .returned (.bool true) ∧ w' = w := by
    refine calls_by fun R HR => ?_
    go_enter Tryz.func39, Tryz.ntmps39
    go_wp2
    exact HR.out _ _ ⟨rfl, rfl⟩
  clear h0 h1 hd0 hd1
  go_enter Tryz.func12, Tryz.ntmps12
  go_wp2_with fail
  refine hmay.mono ?_
  rintro e w1 ⟨rfl, hw⟩
  rw [hw]
  clear hw hmay
  go_wp2
  all_goals exact HR.out _ _ ⟨rfl, rfl⟩
end Go.Proofs.YtnkiokaeooopgaaGreat
/- A call done: where there is no model, a write, a close: of the program's model. -/
set_option maxRecDepth 100000
namespace Go.Proofs.YtnkiokaeooopgaaGreat
open Go.RowKit Ks Go.Maps
set_option linter.unusedVariables false
set_option linter.unusedSimpArgs false
theorem ans_one (e : Int) (s : ByteArray) (a b c d f g : Int) : (#[.int .i64 e, .string s, .int .i64 a, .int .i64 b, .int .i64 c, .int .i64 d, .int .i64 f, .int .i64 g] : Array Value).all (fun v => v.oneCell') = true := by simp [Value.oneCell']
abbrev callV (c : CallT) (ka : Option Addr) (kn kc : Nat) : Value := .agg #[.int .i64 c.kind, .int .i64 c.lba, .int .i64 c.epoch, .int .i64 c.time, .string c.data, .string c.name, .slice ka kn kc]
set_option maxRecDepth 100000 in
set_option maxHeartbeats 4000000 in
theorem mdo_no {v : Value} (cl : CallT) (ka : Option Addr) (kn kc : Nat) (w : World) (h : ModNo w v) :
    Calls Tryz.prog 8 #[v, callV cl ka kn kc] w fun e w' => e = .returned (.agg #[.int .i64 1, .string ⟨#[]⟩, .int .i64 0, .int .i64 0, .int .i64 0, .int .i64 0, .int .i64 0, .int .i64 0]) ∧ Below w.heap.size w w' := by
  refine calls_by fun R HR => ?_
  have HD := Lib.hid h
  have HT := Lib.hid (fun w h => mthere_no (v := v) w h)
  obtain ⟨ki, lb, ce, ti, da, na⟩ := cl
  clear h
  have H1 := Lib.hid (And.intro (Below.refl w.heap.size w) (HD.out))
  obtain ⟨W1, hW1⟩ : ∃ W1, w.alloc (.cells #[.int .i64 ki, .int .i64 lb, .int .i64 ce, .int .i64 ti, .string da, .string na, .slice ka kn kc] 35) = W1 := ⟨_, rfl⟩
  have hbW1 : Below w.heap.size w W1 := by rw [← hW1]; exact alloc_below w _
  have kW1 : W1.heap[w.heap.size]? = some (.cells #[.int .i64 ki, .int .i64 lb, .int .i64 ce, .int .i64 ti, .string da, .string na, .slice ka kn kc] 35 (0, 0)) := by rw [← hW1]; exact alloc_new w _
  have H2 := Lib.hid (And.intro (H1.out.1.trans (hbW1.mono H1.out.1.size)) (And.intro (H1.out.2.below hbW1) (kW1)))
  clear hbW1 kW1
  have s1 : w.heap.size < W1.heap.size := lt_of_block H2.out.2.2
  obtain ⟨W2, hW2⟩ : ∃ W2, W1.alloc (.cells #[.int .i64 0, .string ⟨#[]⟩, .int .i64 0, .int .i64 0, .int .i64 0, .int .i64 0, .int .i64 0, .int .i64 0] 39) = W2 := ⟨_, rfl⟩
  have hbW2 : Below W1.heap.size W1 W2 := by rw [← hW2]; exact alloc_below W1 _
  have kW2 : W2.heap[W1.heap.size]? = some (.cells #[.int .i64 0, .string ⟨#[]⟩, .int .i64 0, .int .i64 0, .int .i64 0, .int .i64 0, .int .i64 0, .int .i64 0] 39 (0, 0)) := by rw [← hW2]; exact alloc_new W1 _
  have H3 := Lib.hid (And.intro (H2.out.1.trans (hbW2.mono H2.out.1.size)) (And.intro (H2.out.2.1.below hbW2) (And.intro (blk_on hbW2 H2.out.2.2) (kW2))))
  clear hbW2 kW2
  go_enter Tryz.func8, Tryz.ntmps8
  go_wp2_with fail
  refine (HT.out _ H3.out.2.1).mono ?_
  rintro en y0 ⟨rfl, hw⟩
  rw [hw]
  clear hw hW1 hW2
  obtain ⟨WR, hWR⟩ : ∃ W, W2.setRow W1.heap.size #[.int .i64 1, .string ⟨#[]⟩, .int .i64 0, .int .i64 0, .int .i64 0, .int .i64 0, .int .i64 0, .int .i64 0] = W := ⟨_, rfl⟩
  have KE := Lib.hid (show WR.heap[W1.heap.size]? = some (.cells #[.int .i64 1, .string ⟨#[]⟩, .int .i64 0, .int .i64 0, .int .i64 0, .int .i64 0, .int .i64 0, .int .i64 0] 39 (0, 0)) by rw [← hWR]; exact setRow_heap W2 _ _ _ _ _ H3.out.2.2.2)
  have BE := Lib.hid (show Below w.heap.size w WR by rw [← hWR]; exact below_setRow H3.out.1 (Nat.le_of_lt s1) _)
  go_wp2_with (refine wpList_store_blk rfl 39 (.tmp 4) (.tmp 8) rfl W1.heap.size 0 8 rfl #[.int .i64 0, .string ⟨#[]⟩, .int .i64 0, .int .i64 0, .int .i64 0, .int .i64 0, .int .i64 0, .int .i64 0] #[.int .i64 1, .string ⟨#[]⟩, .int .i64 0, .int .i64 0, .int .i64 0, .int .i64 0, .int .i64 0, .int .i64 0] #[.int .i64 1, .string ⟨#[]⟩, .int .i64 0, .int .i64 0, .int .i64 0, .int .i64 0, .int .i64 0, .int .i64 0] rfl 39 H3.out.2.2.2 rfl (Nat.le_refl 8) (by kernel_rfl) (ans_one _ _ _ _ _ _ _ _) (splice_all _ _ rfl) ?_; rw [hWR])
  obtain ⟨⟨y0, y1, y2, y3, y4, y5, y6, y7⟩, -⟩ := blkR KE.out
  refine bodyPost_ret (v := .agg #[.int .i64 1, .string ⟨#[]⟩, .int .i64 0, .int .i64 0, .int .i64 0, .int .i64 0, .int .i64 0, .int .i64 0]) (by simp [results, Tryz.results8, go_sem, y0, y1, y2, y3, y4, y5, y6, y7]) rfl ?_
  exact HR.out _ _ ⟨rfl, BE.out⟩
theorem ModAt.ltF {w : World} {n cc bn c mu mh mg : Nat} {rv vv : Value} {m : ModT} (h : ModAt w n cc bn c mu mh mg rv vv m) : ∀ k, FM n cc bn c mu mh mg rv vv k → k < w.heap.size := by
  rintro k (rfl | rfl | q | q | q)
  · exact h.lt
  · exact lt_of_block h.clk
  · exact h.book.lt k q
  · exact (h.recs.lt q).2
  · exact (h.vers.lt q).2
theorem ModAt.sameF {w w' : World} {n cc bn c mu mh mg : Nat} {rv vv : Value} {m : ModT} (h : ModAt w n cc bn c mu mh mg rv vv m) (hk : ∀ k, FM n cc bn c mu mh mg rv vv k → w'.heap[k]? = w.heap[k]?) : ModAt w' n cc bn c mu mh mg rv vv m :=
  ⟨(hk n (Or.inl rfl)).trans h.blk, (hk cc (Or.inr (Or.inl rfl))).trans h.clk, h.book.same fun k o hf e => (hk k (Or.inr (Or.inr (Or.inl hf)))).trans e, h.recs.keep fun k e => hk k (Or.inr (Or.inr (Or.inr (Or.inl e)))), h.vers.keep fun k e => hk k (Or.inr (Or.inr (Or.inr (Or.inr e)))), h.ne, h.far⟩
set_option maxRecDepth 100000 in
set_option maxHeartbeats 4000000 in
theorem mdo_write {n cc bn c mu mh mg : Nat} {rv vv : Value} {m : ModT} (cl : CallT) (ka : Option Addr) (kn kc : Nat) (w : World) (h : ModAt w n cc bn c mu mh mg rv vv m) (hk : cl.kind = 1) (h7 : Seven n cc bn c mu mh mg) (hg : -9223372036854775808 ≤ m.geo.blocks ∧ m.geo.blocks ≤ 9223372036854775807) (hu : 0 ≤ m.used ∧ m.used ≤ 1000000000) (hn : m.vers.length ≤ 1000000) :
    Calls Tryz.prog 8 #[.pointer (some ⟨n, 0, none⟩), callV cl ka kn kc] w fun e w' => e = .returned (.agg #[.int .i64 (writeE m cl), .string ⟨#[]⟩, .int .i64 0, .int .i64 0, .int .i64 0, .int .i64 0, .int .i64 0, .int .i64 0]) ∧ ∃ vv', ModAt w' n cc bn c mu mh mg rv vv' (writeM m cl) ∧ Turn w w' (FM n cc bn c mu mh mg rv vv) (FM n cc bn c mu mh mg rv vv') := by
  refine calls_by fun R HR => ?_
  have HD := Lib.hid h
  have HT := Lib.hid (fun w (h : ModAt w n cc bn c mu mh mg rv vv m) => mthere_yes w h)
  have HC := Lib.hid (fun w (h : ModAt w n cc bn c mu mh mg rv vv m) => mwrite_any cl ka kn kc w h h7 hg hu hn)
  generalize (writeE m cl) = EE at *
  generalize writeM m cl = MM at *
  obtain ⟨ki, lb, ce, ti, da, na⟩ := cl
  simp only at hk
  subst hk
  clear h
  have H1 := Lib.hid (And.intro (Below.refl w.heap.size w) (HD.out))
  obtain ⟨W1, hW1⟩ : ∃ W1, w.alloc (.cells #[.int .i64 1, .int .i64 lb, .int .i64 ce, .int .i64 ti, .string da, .string na, .slice ka kn kc] 35) = W1 := ⟨_, rfl⟩
  have hbW1 : Below w.heap.size w W1 := by rw [← hW1]; exact alloc_below w _
  have kW1 : W1.heap[w.heap.size]? = some (.cells #[.int .i64 1, .int .i64 lb, .int .i64 ce, .int .i64 ti, .string da, .string na, .slice ka kn kc] 35 (0, 0)) := by rw [← hW1]; exact alloc_new w _
  have H2 := Lib.hid (And.intro (H1.out.1.trans (hbW1.mono H1.out.1.size)) (And.intro (H1.out.2.below hbW1) (kW1)))
  clear hbW1 kW1
  have s1 : w.heap.size < W1.heap.size := lt_of_block H2.out.2.2
  obtain ⟨W2, hW2⟩ : ∃ W2, W1.alloc (.cells #[.int .i64 0, .string ⟨#[]⟩, .int .i64 0, .int .i64 0, .int .i64 0, .int .i64 0, .int .i64 0, .int .i64 0] 39) = W2 := ⟨_, rfl⟩
  have hbW2 : Below W1.heap.size W1 W2 := by rw [← hW2]; exact alloc_below W1 _
  have kW2 : W2.heap[W1.heap.size]? = some (.cells #[.int .i64 0, .string ⟨#[]⟩, .int .i64 0, .int .i64 0, .int .i64 0, .int .i64 0, .int .i64 0, .int .i64 0] 39 (0, 0)) := by rw [← hW2]; exact alloc_new W1 _
  have H3 := Lib.hid (And.intro (H2.out.1.trans (hbW2.mono H2.out.1.size)) (And.intro (H2.out.2.1.below hbW2) (And.intro (blk_on hbW2 H2.out.2.2) (kW2))))
  clear hbW2 kW2
  obtain ⟨a0, a1, a2, a3, a4, a5, a6⟩ := blk7c H3.out.2.2.1
  go_enter Tryz.func8, Tryz.ntmps8
  go_wp2_with fail
  refine (HT.out _ H3.out.2.1).mono ?_
  rintro en y0 ⟨rfl, hw⟩
  rw [hw]
  clear hw hW1 hW2
  go_wp2_with fail
  refine (HC.out _ H3.out.2.1).mono ?_
  rintro en v9 ⟨rfl, nv, hm9, ht9⟩
  have hfm : ∀ k, FM n cc bn c mu mh mg rv vv k → k < w.heap.size := HD.out.ltF
  have KZ := Lib.hid (show v9.heap[W1.heap.size]? = some (.cells #[.int .i64 0, .string ⟨#[]⟩, .int .i64 0, .int .i64 0, .int .i64 0, .int .i64 0, .int .i64 0, .int .i64 0] 39 (0, 0)) from (ht9.block _ (lt_of_block H3.out.2.2.2) (fun q => by have := hfm _ q; omega)).trans H3.out.2.2.2)
  have hfm2 : ∀ k, FM n cc bn c mu mh mg rv nv k → k ≠ W1.heap.size := fun k q e => by rcases ht9.foot k q with h1 | h1; have := hfm k h1; omega; have := lt_of_block H3.out.2.2.2; omega
  have HT9 := Lib.hid ((Turn.of_below (FM n cc bn c mu mh mg rv vv) H3.out.1).trans ht9)
  have HM9 := Lib.hid hm9
  have HF2 := Lib.hid hfm2
  clear a0 a1 a2 a3 a4 a5 a6 hm9 ht9 hfm2 hfm
  obtain ⟨WR, hWR⟩ : ∃ W, v9.setRow W1.heap.size #[.int .i64 EE, .string ⟨#[]⟩, .int .i64 0, .int .i64 0, .int .i64 0, .int .i64 0, .int .i64 0, .int .i64 0] = W := ⟨_, rfl⟩
  have KE := Lib.hid (show WR.heap[W1.heap.size]? = some (.cells #[.int .i64 EE, .string ⟨#[]⟩, .int .i64 0, .int .i64 0, .int .i64 0, .int .i64 0, .int .i64 0, .int .i64 0] 39 (0, 0)) by rw [← hWR]; exact setRow_heap v9 _ _ _ _ _ KZ.out)
  have HO := Lib.hid (show ∀ k, k ≠ W1.heap.size → WR.heap[k]? = v9.heap[k]? from fun k hk => by rw [← hWR]; exact setRow_other _ _ _ _ hk)
  have HTR := Lib.hid (show Turn w WR (FM n cc bn c mu mh mg rv vv) (FM n cc bn c mu mh mg rv nv) from by rw [← hWR]; exact ⟨HT9.out.os, HT9.out.tape, HT9.out.output, by simpa using HT9.out.size, fun k hk hF => (setRow_other _ _ _ _ (by omega)).trans (HT9.out.block k hk hF), HT9.out.foot⟩)
  go_wp2_with (refine wpList_store_blk rfl 39 (.tmp 4) (.tmp 33) rfl W1.heap.size 0 8 rfl #[.int .i64 0, .string ⟨#[]⟩, .int .i64 0, .int .i64 0, .int .i64 0, .int .i64 0, .int .i64 0, .int .i64 0] #[.int .i64 EE, .string ⟨#[]⟩, .int .i64 0, .int .i64 0, .int .i64 0, .int .i64 0, .int .i64 0, .int .i64 0] #[.int .i64 EE, .string ⟨#[]⟩, .int .i64 0, .int .i64 0, .int .i64 0, .int .i64 0, .int .i64 0, .int .i64 0] rfl 39 KZ.out rfl (Nat.le_refl 8) (by kernel_rfl) (ans_one _ _ _ _ _ _ _ _) (splice_all _ _ rfl) ?_; rw [hWR])
  obtain ⟨⟨y0, y1, y2, y3, y4, y5, y6, y7⟩, -⟩ := blkR KE.out
  refine bodyPost_ret (v := .agg #[.int .i64 EE, .string ⟨#[]⟩, .int .i64 0, .int .i64 0, .int .i64 0, .int .i64 0, .int .i64 0, .int .i64 0]) (by simp [results, Tryz.results8, go_sem, y0, y1, y2, y3, y4, y5, y6, y7]) rfl ?_
  exact HR.out _ _ ⟨rfl, nv, HM9.out.sameF (fun k q => HO.out k (HF2.out k q)), HTR.out⟩
set_option maxRecDepth 100000 in
set_option maxHeartbeats 4000000 in
theorem mdo_close {n cc bn c mu mh mg : Nat} {rv vv : Value} {m : ModT} (cl : CallT) (ka : Option Addr) (kn kc : Nat) (w : World) (h : ModAt w n cc bn c mu mh mg rv vv m) (hk : cl.kind = 5) (h7 : Seven n cc bn c mu mh mg) (hg : -9223372036854775808 ≤ m.geo.blocks ∧ m.geo.blocks ≤ 9223372036854775807) (hh : m.book.holds.length ≤ 1000000) (hu : 0 ≤ m.used ∧ m.used ≤ 1000000000) (hn : m.recs.length ≤ 1000000) (hv : ∀ v ∈ m.vers, 0 ≤ v.1 ∧ v.1 < 4096) (hl : m.vers.length ≤ 1000000) :
    Calls Tryz.prog 8 #[.pointer (some ⟨n, 0, none⟩), callV cl ka kn kc] w fun e w' => e = .returned (.agg #[.int .i64 (closeE m), .string ⟨#[]⟩, .int .i64 0, .int .i64 0, .int .i64 0, .int .i64 0, .int .i64 0, .int .i64 0]) ∧ ∃ rv', ModAt w' n cc bn c mu mh mg rv' vv (closeM m (zerosS 32)) ∧ Turn w w' (FM n cc bn c mu mh mg rv vv) (FM n cc bn c mu mh mg rv' vv) := by
  refine calls_by fun R HR => ?_
  have HD := Lib.hid h
  have HT := Lib.hid (fun w (h : ModAt w n cc bn c mu mh mg rv vv m) => mthere_yes w h)
  have HC := Lib.hid (fun w (h : ModAt w n cc bn c mu mh mg rv vv m) => mclose_any w h h7 hg hh hu hn hv hl)
  generalize (closeE m) = EE at *
  generalize closeM m (zerosS 32) = MM at *
  obtain ⟨ki, lb, ce, ti, da, na⟩ := cl
  simp only at hk
  subst hk
  clear h
  have H1 := Lib.hid (And.intro (Below.refl w.heap.size w) (HD.out))
  obtain ⟨W1, hW1⟩ : ∃ W1, w.alloc (.cells #[.int .i64 5, .int .i64 lb, .int .i64 ce, .int .i64 ti, .string da, .string na, .slice ka kn kc] 35) = W1 := ⟨_, rfl⟩
  have hbW1 : Below w.heap.size w W1 := by rw [← hW1]; exact alloc_below w _
  have kW1 : W1.heap[w.heap.size]? = some (.cells #[.int .i64 5, .int .i64 lb, .int .i64 ce, .int .i64 ti, .string da, .string na, .slice ka kn kc] 35 (0, 0)) := by rw [← hW1]; exact alloc_new w _
  have H2 := Lib.hid (And.intro (H1.out.1.trans (hbW1.mono H1.out.1.size)) (And.intro (H1.out.2.below hbW1) (kW1)))
  clear hbW1 kW1
  have s1 : w.heap.size < W1.heap.size := lt_of_block H2.out.2.2
  obtain ⟨W2, hW2⟩ : ∃ W2, W1.alloc (.cells #[.int .i64 0, .string ⟨#[]⟩, .int .i64 0, .int .i64 0, .int .i64 0, .int .i64 0, .int .i64 0, .int .i64 0] 39) = W2 := ⟨_, rfl⟩
  have hbW2 : Below W1.heap.size W1 W2 := by rw [← hW2]; exact alloc_below W1 _
  have kW2 : W2.heap[W1.heap.size]? = some (.cells #[.int .i64 0, .string ⟨#[]⟩, .int .i64 0, .int .i64 0, .int .i64 0, .int .i64 0, .int .i64 0, .int .i64 0] 39 (0, 0)) := by rw [← hW2]; exact alloc_new W1 _
  have H3 := Lib.hid (And.intro (H2.out.1.trans (hbW2.mono H2.out.1.size)) (And.intro (H2.out.2.1.below hbW2) (And.intro (blk_on hbW2 H2.out.2.2) (kW2))))
  clear hbW2 kW2
  obtain ⟨a0, a1, a2, a3, a4, a5, a6⟩ := blk7c H3.out.2.2.1
  go_enter Tryz.func8, Tryz.ntmps8
  go_wp2_with fail
  refine (HT.out _ H3.out.2.1).mono ?_
  rintro en y0 ⟨rfl, hw⟩
  rw [hw]
  clear hw hW1 hW2
  go_wp2_with fail
  refine (HC.out _ H3.out.2.1).mono ?_
  rintro en v9 ⟨rfl, nv, hm9, ht9⟩
  have hfm : ∀ k, FM n cc bn c mu mh mg rv vv k → k < w.heap.size := HD.out.ltF
  have KZ := Lib.hid (show v9.heap[W1.heap.size]? = some (.cells #[.int .i64 0, .string ⟨#[]⟩, .int .i64 0, .int .i64 0, .int .i64 0, .int .i64 0, .int .i64 0, .int .i64 0] 39 (0, 0)) from (ht9.block _ (lt_of_block H3.out.2.2.2) (fun q => by have := hfm _ q; omega)).trans H3.out.2.2.2)
  have hfm2 : ∀ k, FM n cc bn c mu mh mg nv vv k → k ≠ W1.heap.size := fun k q e => by rcases ht9.foot k q with h1 | h1; have := hfm k h1; omega; have := lt_of_block H3.out.2.2.2; omega
  have HT9 := Lib.hid ((Turn.of_below (FM n cc bn c mu mh mg rv vv) H3.out.1).trans ht9)
  have HM9 := Lib.hid hm9
  have HF2 := Lib.hid hfm2
  clear a0 a1 a2 a3 a4 a5 a6 hm9 ht9 hfm2 hfm
  obtain ⟨WR, hWR⟩ : ∃ W, v9.setRow W1.heap.size #[.int .i64 EE, .string ⟨#[]⟩, .int .i64 0, .int .i64 0, .int .i64 0, .int .i64 0, .int .i64 0, .int .i64 0] = W := ⟨_, rfl⟩
  have KE := Lib.hid (show WR.heap[W1.heap.size]? = some (.cells #[.int .i64 EE, .string ⟨#[]⟩, .int .i64 0, .int .i64 0, .int .i64 0, .int .i64 0, .int .i64 0, .int .i64 0] 39 (0, 0)) by rw [← hWR]; exact setRow_heap v9 _ _ _ _ _ KZ.out)
  have HO := Lib.hid (show ∀ k, k ≠ W1.heap.size → WR.heap[k]? = v9.heap[k]? from fun k hk => by rw [← hWR]; exact setRow_other _ _ _ _ hk)
  have HTR := Lib.hid (show Turn w WR (FM n cc bn c mu mh mg rv vv) (FM n cc bn c mu mh mg nv vv) from by rw [← hWR]; exact ⟨HT9.out.os, HT9.out.tape, HT9.out.output, by simpa using HT9.out.size, fun k hk hF => (setRow_other _ _ _ _ (by omega)).trans (HT9.out.block k hk hF), HT9.out.foot⟩)
  go_wp2_with (refine wpList_store_blk rfl 39 (.tmp 4) (.tmp 57) rfl W1.heap.size 0 8 rfl #[.int .i64 0, .string ⟨#[]⟩, .int .i64 0, .int .i64 0, .int .i64 0, .int .i64 0, .int .i64 0, .int .i64 0] #[.int .i64 EE, .string ⟨#[]⟩, .int .i64 0, .int .i64 0, .int .i64 0, .int .i64 0, .int .i64 0, .int .i64 0] #[.int .i64 EE, .string ⟨#[]⟩, .int .i64 0, .int .i64 0, .int .i64 0, .int .i64 0, .int .i64 0, .int .i64 0] rfl 39 KZ.out rfl (Nat.le_refl 8) (by kernel_rfl) (ans_one _ _ _ _ _ _ _ _) (splice_all _ _ rfl) ?_; rw [hWR])
  obtain ⟨⟨y0, y1, y2, y3, y4, y5, y6, y7⟩, -⟩ := blkR KE.out
  refine bodyPost_ret (v := .agg #[.int .i64 EE, .string ⟨#[]⟩, .int .i64 0, .int .i64 0, .int .i64 0, .int .i64 0, .int .i64 0, .int .i64 0]) (by simp [results, Tryz.results8, go_sem, y0, y1, y2, y3, y4, y5, y6, y7]) rfl ?_
  exact HR.out _ _ ⟨rfl, nv, HM9.out.sameF (fun k q => HO.out k (HF2.out k q)), HTR.out⟩
end Go.Proofs.YtnkiokaeooopgaaGreat
/- A drawn region walked by its class, where a struct is kept in a new block. Plain. No program is in sight. -/
namespace Ks
open Go Go.RowKit
set_option linter.unusedVariables false
def newC (Z E : Array Value) : Option Value → Array Value
  | none => Z
  | some _ => E
/-- worlds where a new block is made (a: what its making yielded) and stored into (s) -/
structure NewBlk (B : Nat) (w0 : World) (Z E : Array Value) (t : TypeId) (a s : Option Value) (w : World) : Prop where
  b : Below B w0 w
  hB : B ≤ w.heap.size
  ne : s ≠ none → a ≠ none
  blk : ∀ v, a = some v → ∃ b, v = .pointer (some ⟨b, 0, none⟩) ∧ B ≤ b ∧ w.heap[b]? = some (.cells (newC Z E s) t (0, 0))
section
variable {B : Nat} {w0 w w' : World} {Z E : Array Value} {t : TypeId} {a s : Option Value}
theorem NewBlk.start (hb : Below B w0 w) (hB : B ≤ w.heap.size) : NewBlk B w0 Z E t none none w.drew := ⟨hb.trans ((drew_below w).mono hB), hB, fun h => absurd rfl h, fun v h => by cases h⟩
theorem NewBlk.on (h : NewBlk B w0 Z E t a s w) (hb : Below w.heap.size w w') : NewBlk B w0 Z E t a s w' :=
  ⟨h.b.trans (hb.mono h.hB), Nat.le_trans h.hB hb.size, h.ne, fun v e => by
    obtain ⟨b, h1, h2, h3⟩ := h.blk v e
    exact ⟨b, h1, h2, (hb.block _ (lt_of_block h3)).trans h3⟩⟩
theorem NewBlk.made (h : NewBlk B w0 Z E t none s w) : NewBlk B w0 Z E t (some (.pointer (some ⟨w.heap.size, 0, none⟩))) s (w.alloc (.cells Z t)) := by
  have hs : s = none := Classical.byContradiction fun q => h.ne q rfl
  subst hs
  have hb := alloc_below w (.cells Z t)
  exact ⟨h.b.trans (hb.mono h.hB), Nat.le_trans h.hB hb.size, fun h => absurd rfl h, fun v e => by cases e; exact ⟨_, rfl, h.hB, alloc_new w _⟩⟩
theorem NewBlk.at {b : Nat} (h : NewBlk B w0 Z E t (some (.pointer (some ⟨b, 0, none⟩))) s w) : B ≤ b ∧ w.heap[b]? = some (.cells (newC Z E s) t (0, 0)) := by
  obtain ⟨b', h1, h2, h3⟩ := h.blk _ rfl
  cases h1
  exact ⟨h2, h3⟩
theorem NewBlk.stored {b : Nat} (h : NewBlk B w0 Z E t (some (.pointer (some ⟨b, 0, none⟩))) none w) : NewBlk B w0 Z E t (some (.pointer (some ⟨b, 0, none⟩))) (some undef) (w.setRow b E) :=
  ⟨below_setRow h.b h.at.1 _, by simpa using h.hB, (fun _ h => by cases h), fun v e => by cases e; exact ⟨b, rfl, h.at.1, setRow_heap w _ _ _ _ _ h.at.2⟩⟩
end
end Ks
namespace Ks
open Go Go.RowKit
set_option linter.unusedVariables false
/-- a cell of a block is set, if it was -/
def setT (W : World) (b j : Nat) (v : Value) : Option Value → World
  | none => W
  | some _ => W.setCell ⟨b, j, none⟩ v
theorem setT_cell {W : World} {b j : Nat} {v : Value} {t : Option Value} {p : Addr} (h : p.block ≠ b) : (setT W b j v t).cell? p = W.cell? p := by
  cases t with
  | none => rfl
  | some u => exact World.cell?_of_block (Below.heap_setCell _ _ _ _ h)
/-- worlds where two cells of a block are set, one behind the other -/
def SetTwo (W : World) (b i j : Nat) (u v : Value) (s t : Option Value) (w : World) : Prop := w = setT (setT W.drew b i u s) b j v t ∧ (t ≠ none → s ≠ none)
section
variable {W w : World} {b i j : Nat} {u v : Value} {s t : Option Value}
theorem SetTwo.start : SetTwo W b i j u v none none W.drew := ⟨rfl, fun h => absurd rfl h⟩
theorem SetTwo.cell {p : Addr} {x : Value} (h : SetTwo W b i j u v s t w) (hp : p.block ≠ b) (hx : W.cell? p = some x) : w.cell? p = some x := by
  rw [h.1, setT_cell hp, setT_cell hp]; exact hx
theorem SetTwo.one (h : SetTwo W b i j u v none t w) : w = W.drew ∧ SetTwo W b i j u v (some undef) t (w.setCell ⟨b, i, none⟩ u) := by
  have ht : t = none := Classical.byContradiction fun q => h.2 q rfl
  subst ht
  have e : w = W.drew := h.1
  exact ⟨e, by rw [e]; rfl, fun _ h => by cases h⟩
theorem SetTwo.two (h : SetTwo W b i j u v s none w) (hs : s ≠ none) : w = W.drew.setCell ⟨b, i, none⟩ u ∧ SetTwo W b i j u v s (some undef) (w.setCell ⟨b, j, none⟩ v) := by
  cases s with
  | none => exact absurd rfl hs
  | some s => exact ⟨h.1, by rw [h.1]; rfl, fun _ => hs⟩
theorem SetTwo.both {x y : Value} (h : SetTwo W b i j u v (some x) (some y) w) : w = (W.drew.setCell ⟨b, i, none⟩ u).setCell ⟨b, j, none⟩ v := h.1
end
end Ks
/- What a model answers who reads; which epoch may be meant: of the program's model. -/
set_option maxRecDepth 100000
namespace Go.Proofs.YtnkiokaeooopgaaGreat
open Go.RowKit Ks Go.Maps
set_option linter.unusedVariables false
set_option linter.unusedSimpArgs false
set_option maxRecDepth 100000 in
set_option maxHeartbeats 4000000 in
theorem mclosed_any {n cc bn c mu mh mg : Nat} {rv vv : Value} {m : ModT} (ep : Int) (w : World) (h : ModAt w n cc bn c mu mh mg rv vv m) : Calls Tryz.prog 72 #[.pointer (some ⟨n, 0, none⟩), .int .i64 ep] w fun e w' => e = .returned (.int .i64 (closedE m ep)) ∧ w' = w := by
  refine calls_by fun R HR => ?_
  have HE := Lib.hid (bepoch_any w h.book)
  have HZ0 : Hid (closedE m ep = if ep < m.geo.first ∨ m.book.epoch < ep then 7 else if ep = m.book.epoch then 8 else 0) := Lib.hid rfl
  obtain ⟨⟨z0, z1, z2, z3, z4, z5, z6, z7⟩, -⟩ := blkR h.blk
  generalize closedE m ep = CE at *
  clear h
  by_cases h1 : ep < m.geo.first
  · have HZ := Lib.hid (show CE = 7 by rw [HZ0.out, if_pos (Or.inl h1)])
    go_enter Tryz.func72, Tryz.ntmps72
    go_wp2
    exact HR.out _ _ ⟨by rw [HZ.out] <;> rfl, rfl⟩
  · have h1d : decide (ep < m.geo.first) = false := decide_eq_false h1
    go_enter Tryz.func72, Tryz.ntmps72
    go_wp2_with fail
    refine HE.out.mono ?_
    rintro en y9 ⟨rfl, hw⟩
    rw [hw]
    clear hw y9
    by_cases h2 : m.book.epoch < ep
    · have HZ := Lib.hid (show CE = 7 by rw [HZ0.out, if_pos (Or.inr h2)])
      go_wp2
      exact HR.out _ _ ⟨by rw [HZ.out] <;> rfl, rfl⟩
    · have h2d : decide (m.book.epoch < ep) = false := decide_eq_false h2
      go_wp2_with fail
      refine HE.out.mono ?_
      rintro en y9 ⟨rfl, hw⟩
      rw [hw]
      clear hw y9
      by_cases h3 : ep = m.book.epoch
      · have h3d : (ep == m.book.epoch) = true := by simpa using h3
        have HZ := Lib.hid (show CE = 8 by rw [HZ0.out, if_neg (show ¬ (ep < m.geo.first ∨ m.book.epoch < ep) by omega), if_pos h3])
        go_wp2
        exact HR.out _ _ ⟨by rw [HZ.out] <;> rfl, rfl⟩
      · have h3d : (ep == m.book.epoch) = false := by simpa using h3
        have HZ := Lib.hid (show CE = 0 by rw [HZ0.out, if_neg (show ¬ (ep < m.geo.first ∨ m.book.epoch < ep) by omega), if_neg h3])
        go_wp2
        exact HR.out _ _ ⟨by rw [HZ.out] <;> rfl, rfl⟩
theorem eg_newest : ∀ args w, (callFunc 43 args).run Tryz.prog w = .ok (.enter 43 args) w := fun _ _ => rfl
def readE (m : ModT) (lba ep : Int) (v : Option VerD) : AnsT :=
  if placeE m lba ≠ 0 then errA (placeE m lba) else if ep < m.geo.first ∨ m.book.epoch < ep ∨ v.isSome = false then errA 7
  else if goneB m.book (v.getD zeroVer).2.1 then errA 13 else ⟨0, (v.getD zeroVer).2.2, (0, 0, 0, 0, 0, 0)⟩
theorem readE_eq (m : ModT) (lba ep : Int) : readE m lba ep (newestN m.vers lba m.geo.first ep) = readA m lba ep := by
  unfold readE readA
  cases newestN m.vers lba m.geo.first ep with
  | none =>
    by_cases h1 : placeE m lba ≠ 0
    · rw [if_pos h1, if_pos h1]
    · have h3 : ep < m.geo.first ∨ m.book.epoch < ep ∨ (none : Option VerD).isSome = false := Or.inr (Or.inr rfl)
      rw [if_neg h1, if_neg h1, if_pos h3]
      by_cases h2 : ep < m.geo.first ∨ m.book.epoch < ep
      · rw [if_pos h2]
      · rw [if_neg h2]
  | some v =>
    by_cases h1 : placeE m lba ≠ 0
    · rw [if_pos h1, if_pos h1]
    · rw [if_neg h1, if_neg h1]
      by_cases h2 : ep < m.geo.first ∨ m.book.epoch < ep
      · rw [if_pos h2, if_pos (h2.elim Or.inl (fun q => Or.inr (Or.inl q)))]
      · rw [if_neg h2, if_neg (fun q => q.elim (fun q => h2 (Or.inl q)) (fun q => q.elim (fun q => h2 (Or.inr q)) (fun q => by cases q)))]
        rfl
set_option maxRecDepth 100000 in
set_option maxHeartbeats 4000000 in
theorem mread_any {n cc bn c mu mh mg : Nat} {rv vv : Value} {m : ModT} (cl : CallT) (ka : Option Addr) (kn kc : Nat) (w : World) (h : ModAt w n cc bn c mu mh mg rv vv m) (hl : m.vers.length ≤ 1000000) (hv : ∀ v ∈ m.vers, -9223372036854775808 ≤ v.2.1 ∧ v.2.1 ≤ 9223372036854775807) :
    Calls Tryz.prog 18 #[.pointer (some ⟨n, 0, none⟩), callV cl ka kn kc] w fun e w' => e = .returned (.agg (ansC (readA m cl.lba cl.epoch))) ∧ Below w.heap.size w w' := by
  rw [← readE_eq]
  refine calls_by fun R HR => ?_
  have HD := Lib.hid h
  have HP := Lib.hid (fun w (h : ModAt w n cc bn c mu mh mg rv vv m) => mplace_any cl.lba w h)
  have HN := Lib.hid (fun w (h : ModAt w n cc bn c mu mh mg rv vv m) => mnewest_any cl.lba m.geo.first cl.epoch w h hl)
  have HE := Lib.hid (fun w (h : ModAt w n cc bn c mu mh mg rv vv m) => bepoch_any w h.book)
  have hgk : -9223372036854775808 ≤ ((newestN m.vers cl.lba m.geo.first cl.epoch).getD zeroVer).2.1 ∧ ((newestN m.vers cl.lba m.geo.first cl.epoch).getD zeroVer).2.1 ≤ 9223372036854775807 := by
    cases q : newestN m.vers cl.lba m.geo.first cl.epoch with
    | none => exact ⟨by decide, by decide⟩
    | some v => exact hv v (newest_mem q).1
  have HG := Lib.hid (fun w (h : ModAt w n cc bn c mu mh mg rv vv m) => bgone_any ((newestN m.vers cl.lba m.geo.first cl.epoch).getD zeroVer).2.1 w h.book hgk)
  have HZ0 := Lib.hid (show readE m cl.lba cl.epoch (newestN m.vers cl.lba m.geo.first cl.epoch) = readE m cl.lba cl.epoch (newestN m.vers cl.lba m.geo.first cl.epoch) from rfl)
  conv at HZ0 => enter [1, 2]; unfold readE
  generalize readE m cl.lba cl.epoch (newestN m.vers cl.lba m.geo.first cl.epoch) = RA at *
  generalize newestN m.vers cl.lba m.geo.first cl.epoch = V at *
  generalize hPE : placeE m cl.lba = PE at *
  obtain ⟨ki, lb, ce, ti, da, na⟩ := cl
  simp only at HP HN HZ0
  clear h hl hv hgk hPE
  have H1 := Lib.hid (And.intro (Below.refl w.heap.size w) (HD.out))
  obtain ⟨W1, hW1⟩ : ∃ W1, w.alloc (.cells #[.int .i64 ki, .int .i64 lb, .int .i64 ce, .int .i64 ti, .string da, .string na, .slice ka kn kc] 35) = W1 := ⟨_, rfl⟩
  have hbW1 : Below w.heap.size w W1 := by rw [← hW1]; exact alloc_below w _
  have kW1 : W1.heap[w.heap.size]? = some (.cells #[.int .i64 ki, .int .i64 lb, .int .i64 ce, .int .i64 ti, .string da, .string na, .slice ka kn kc] 35 (0, 0)) := by rw [← hW1]; exact alloc_new w _
  have H2 := Lib.hid (And.intro (H1.out.1.trans (hbW1.mono H1.out.1.size)) (And.intro (H1.out.2.below hbW1) (kW1)))
  clear hbW1 kW1
  have s1 := Lib.hid (show w.heap.size < W1.heap.size from lt_of_block H2.out.2.2)
  obtain ⟨W2, hW2⟩ : ∃ W2, W1.alloc (.cells #[.int .i64 0, .string ⟨#[]⟩, .int .i64 0, .int .i64 0, .int .i64 0, .int .i64 0, .int .i64 0, .int .i64 0] 39) = W2 := ⟨_, rfl⟩
  have hbW2 : Below W1.heap.size W1 W2 := by rw [← hW2]; exact alloc_below W1 _
  have kW2 : W2.heap[W1.heap.size]? = some (.cells #[.int .i64 0, .string ⟨#[]⟩, .int .i64 0, .int .i64 0, .int .i64 0, .int .i64 0, .int .i64 0, .int .i64 0] 39 (0, 0)) := by rw [← hW2]; exact alloc_new W1 _
  have H3 := Lib.hid (And.intro (H2.out.1.trans (hbW2.mono H2.out.1.size)) (And.intro (H2.out.2.1.below hbW2) (And.intro (blk_on hbW2 H2.out.2.2) (kW2))))
  clear hbW2 kW2
  obtain ⟨a0, a1, a2, a3, a4, a5, a6⟩ := blk7c H3.out.2.2.1
  go_enter Tryz.func18, Tryz.ntmps18
  go_wp2_with fail
  refine (HP.out _ H3.out.2.1).mono ?_
  rintro en y9 ⟨rfl, hw⟩
  rw [hw]
  clear hw y9
  clear hW1 hW2
  by_cases hp : PE = 0
  case neg =>
    have hp2 : (PE != 0) = true := by simpa using hp
    have HZ := Lib.hid (show RA = errA PE by rw [HZ0.out, if_pos hp])
    obtain ⟨WR, hWR⟩ : ∃ W, W2.setRow W1.heap.size #[.int .i64 PE, .string ⟨#[]⟩, .int .i64 0, .int .i64 0, .int .i64 0, .int .i64 0, .int .i64 0, .int .i64 0] = W := ⟨_, rfl⟩
    have KE := Lib.hid (show WR.heap[W1.heap.size]? = some (.cells #[.int .i64 PE, .string ⟨#[]⟩, .int .i64 0, .int .i64 0, .int .i64 0, .int .i64 0, .int .i64 0, .int .i64 0] 39 (0, 0)) by rw [← hWR]; exact setRow_heap W2 _ _ _ _ _ H3.out.2.2.2)
    have BE := Lib.hid (show Below w.heap.size w WR by rw [← hWR]; exact below_setRow H3.out.1 (Nat.le_of_lt s1.out) _)
    go_wp2_with (refine wpList_store_blk rfl 39 (.tmp 4) (.tmp 15) rfl W1.heap.size 0 8 rfl #[.int .i64 0, .string ⟨#[]⟩, .int .i64 0, .int .i64 0, .int .i64 0, .int .i64 0, .int .i64 0, .int .i64 0] #[.int .i64 PE, .string ⟨#[]⟩, .int .i64 0, .int .i64 0, .int .i64 0, .int .i64 0, .int .i64 0, .int .i64 0] #[.int .i64 PE, .string ⟨#[]⟩, .int .i64 0, .int .i64 0, .int .i64 0, .int .i64 0, .int .i64 0, .int .i64 0] rfl 39 H3.out.2.2.2 rfl (Nat.le_refl 8) (by kernel_rfl) (ans_one _ _ _ _ _ _ _ _) (splice_all _ _ rfl) ?_; rw [hWR])
    obtain ⟨⟨y0, y1, y2, y3, y4, y5, y6, y7⟩, -⟩ := blkR KE.out
    refine bodyPost_ret (v := .agg #[.int .i64 PE, .string ⟨#[]⟩, .int .i64 0, .int .i64 0, .int .i64 0, .int .i64 0, .int .i64 0, .int .i64 0]) (by simp [results, Tryz.results18, go_sem, y0, y1, y2, y3, y4, y5, y6, y7]) rfl ?_
    exact HR.out _ _ ⟨by rw [HZ.out] <;> rfl, BE.out⟩
  subst hp
  rw [if_neg (show ¬ ((0 : Int) ≠ 0) by decide)] at HZ0
  obtain ⟨⟨z0, z1, z2, z3, z4, z5, z6, z7⟩, -⟩ := blkR H3.out.2.1.blk
  go_upto_region 4 with fail
  obtain ⟨⟨vl, ve, vd⟩, hV⟩ : ∃ x, V.getD zeroVer = x := ⟨_, rfl⟩
  obtain ⟨S0, hS0⟩ : ∃ x, V.isSome = x := ⟨_, rfl⟩
  simp only [hV] at HZ0 HG HN
  simp only [hS0] at HZ0 HN
  clear hV hS0
  refine wp_region_mv (fun f => NewBlk W2.heap.size W2 (verC zeroVer) (verC (vl, ve, vd)) 89 (f 14) (f 15)) (by kernel_rfl) (NewBlk.start (Below.refl _ _) (Nat.le_refl _)) ?_
  obtain ⟨S, F, hF, hFC⟩ := moved_class (fun f => NewBlk W2.heap.size W2 (verC zeroVer) (verC (vl, ve, vd)) 89 (f 14) (f 15))
  have ka1 : ∀ s, (F s).cell? ⟨w.heap.size, 1, none⟩ = some (.int .i64 lb) := fun s => (cell_on (hFC s).choose_spec.b a1).1
  have ka2 : ∀ s, (F s).cell? ⟨w.heap.size, 2, none⟩ = some (.int .i64 ce) := fun s => (cell_on (hFC s).choose_spec.b a2).1
  have kz2 : ∀ s, (F s).cell? ⟨n, 2, none⟩ = some (.int .i64 m.geo.first) := fun s => (cell_on (hFC s).choose_spec.b z2).1
  have kz0 : ∀ s, (F s).cell? ⟨n, 0, none⟩ = some (.int .i64 m.geo.blocks) := fun s => (cell_on (hFC s).choose_spec.b z0).1
  show wpAnyM _ _ _ _ _ 17 (Array.replicate 17 false) _ _
  refine mv_read 0 hF (fun _ _ _ h => h) rfl (by kernel_rfl) (by kernel_rfl) (by kernel_rfl) (fun K hK => ?_)
  go_simp
  first | refine ⟨_, fun _ => rfl, hK _ _ ?_⟩ | refine hK _ _ ?_
  clear hK K
  refine mv_read 1 hF (fun _ _ _ h => h) rfl (by kernel_rfl) (by kernel_rfl) (by kernel_rfl) (fun K hK => ?_)
  go_simp
  first | refine ⟨_, fun _ => rfl, hK _ _ ?_⟩ | refine hK _ _ ?_
  clear hK K
  refine mv_read 2 hF (fun _ _ _ h => h) rfl (by kernel_rfl) (by kernel_rfl) (by kernel_rfl) (fun K hK => ?_)
  go_simp
  first | refine ⟨_, fun _ => rfl, hK _ _ ?_⟩ | refine hK _ _ ?_
  clear hK K
  refine mv_read 3 hF (fun _ _ _ h => h) rfl (by kernel_rfl) (by kernel_rfl) (by kernel_rfl) (fun K hK => ?_)
  go_simp
  first | refine ⟨_, fun _ => rfl, hK _ _ ?_⟩ | refine hK _ _ ?_
  clear hK K
  refine mv_read 4 hF (fun _ _ _ h => h) rfl (by kernel_rfl) (by kernel_rfl) (by kernel_rfl) (fun K hK => ?_)
  go_simp
  first | refine ⟨_, fun _ => rfl, hK _ _ ?_⟩ | refine hK _ _ ?_
  clear hK K
  refine mv_read 5 hF (fun _ _ _ h => h) rfl (by kernel_rfl) (by kernel_rfl) (by kernel_rfl) (fun K hK => ?_)
  go_simp
  first | refine ⟨_, fun _ => rfl, hK _ _ ?_⟩ | refine hK _ _ ?_
  clear hK K
  refine mv_read 6 hF (fun _ _ _ h => h) rfl (by kernel_rfl) (by kernel_rfl) (by kernel_rfl) (fun K hK => ?_)
  go_simp
  first | refine ⟨_, fun _ => rfl, hK _ _ ?_⟩ | refine hK _ _ ?_
  clear hK K
  refine mv_read 7 hF (fun _ _ _ h => h) rfl (by kernel_rfl) (by kernel_rfl) (by kernel_rfl) (fun K hK => ?_)
  go_simp
  first | refine ⟨_, fun _ => rfl, hK _ _ ?_⟩ | refine hK _ _ ?_
  clear hK K
  refine mv_read 8 hF (fun _ _ _ h => h) rfl (by kernel_rfl) (by kernel_rfl) (by kernel_rfl) (fun K hK => ?_)
  go_simp
  first | refine ⟨_, fun _ => rfl, hK _ _ ?_⟩ | refine hK _ _ ?_
  clear hK K
  refine mv_read 9 hF (fun _ _ _ h => h) rfl (by kernel_rfl) (by kernel_rfl) (by kernel_rfl) (fun K hK => ?_)
  go_simp
  first | refine ⟨_, fun _ => rfl, hK _ _ ?_⟩ | refine hK _ _ ?_
  clear hK K
  refine mv_call1 10 43 rfl (by kernel_rfl) (by kernel_rfl) (by kernel_rfl) rfl rfl eg_newest (args := #[.pointer (some ⟨n, 0, none⟩), .int .i64 lb, .int .i64 m.geo.first, .int .i64 ce]) rfl (u := .tuple #[.agg #[.int .i64 vl, .int .i64 ve, .string vd], .bool S0]) (fun g w9 _ _ h => ((HN.out w9 (H3.out.2.1.below h.b)).mono fun en w8 ⟨h1, h2⟩ => ⟨h1, h.on h2⟩)) ?_
  refine mv_read 11 hF (fun _ _ _ h => h) rfl (by kernel_rfl) (by kernel_rfl) (by kernel_rfl) (fun K hK => ?_)
  go_simp
  first | refine ⟨_, fun _ => rfl, hK _ _ ?_⟩ | refine hK _ _ ?_
  clear hK K
  refine mv_read 12 hF (fun _ _ _ h => h) rfl (by kernel_rfl) (by kernel_rfl) (by kernel_rfl) (fun K hK => ?_)
  go_simp
  first | refine ⟨_, fun _ => rfl, hK _ _ ?_⟩ | refine hK _ _ ?_
  clear hK K
  refine mv_read 13 hF (fun _ _ _ h => h) rfl (by kernel_rfl) (by kernel_rfl) (by kernel_rfl) (fun K hK => ?_)
  go_simp
  first | refine ⟨_, fun _ => rfl, hK _ _ ?_⟩ | refine hK _ _ ?_
  clear hK K
  refine mv_alone 14 rfl (by kernel_rfl) rfl (fun v => ∃ b, v = .pointer (some ⟨b, 0, none⟩)) (fun g w9 _ h0 h D hD => ?_) ?_
  · have h9 := h
    simp only [h0] at h9
    have h8 := h9.made
    clear h h9
    go_simp
    exact hD _ _ ⟨_, rfl⟩ h8
  rintro _ ⟨vb, rfl⟩
  refine mv_store_blk 15 rfl (by kernel_rfl) rfl 89 (.tmp 6) (.tmp 28) rfl vb 0 (verC (vl, ve, vd)) rfl rfl (by kernel_rfl) (ver_one _ _ _) (fun g w9 ha h0 h => ?_) ?_
  · have e1 : g 14 = some (.pointer (some ⟨vb, 0, none⟩)) := (agree_on 14 ha (by kernel_rfl)).trans rfl
    have h9 := h
    simp only [e1, h0] at h9
    refine ⟨verC zeroVer, 89, h9.at.2, Nat.le_refl 3, ?_⟩
    rw [splice_all (verC zeroVer) (verC (vl, ve, vd)) rfl]
    show NewBlk _ _ _ _ _ (g 14) (upd g 15 undef 15) _
    rw [upd_self, e1]
    exact h9.stored
  refine mv_read 16 hF (fun _ _ _ h => h) rfl (by kernel_rfl) (by kernel_rfl) (by kernel_rfl) (fun K hK => ?_)
  go_simp
  first | refine ⟨_, fun _ => rfl, hK _ _ ?_⟩ | refine hK _ _ ?_
  clear hK K
  refine mv_end (by kernel_rfl) ?_
  intro q1 hq
  have HQ1 := Lib.hid (show Below W2.heap.size W2 q1 ∧ q1.heap[vb]? = some (.cells (verC (vl, ve, vd)) 89 (0, 0)) from ⟨hq.b, (NewBlk.at (b := vb) hq).2⟩)
  clear hq hF hFC ka1 ka2 kz2 kz0 a0 a1 a2 a3 a4 a5 a6 z0 z1 z2 z3 z4 z5 z6 z7
  have hb := HQ1.out.1
  have H4 := Lib.hid (And.intro (H3.out.1.trans (hb.mono H3.out.1.size)) (And.intro (H3.out.2.1.below hb) (And.intro (blk_on hb H3.out.2.2.1) (And.intro (blk_on hb H3.out.2.2.2) (HQ1.out.2)))))
  clear hb HQ1
  have HEb := Lib.hid (fun w (h : ModAt w n cc bn c mu mh mg rv vv m) => (HE.out w h).mono (R' := fun e w' => e = .returned (.int .i64 m.book.epoch) ∧ Below w.heap.size w w') fun e w' ⟨h1, h2⟩ => ⟨h1, by rw [h2]; exact Below.refl _ _⟩)
  have HGb := Lib.hid (fun w (h : ModAt w n cc bn c mu mh mg rv vv m) => (HG.out w h).mono (R' := fun e w' => e = .returned (.bool (goneB m.book ve)) ∧ Below w.heap.size w w') fun e w' ⟨h1, h2⟩ => ⟨h1, by rw [h2]; exact Below.refl _ _⟩)
  go_upto_region 5 with fail
  by_cases h1 : ce < m.geo.first
  · have h1d : decide (ce < m.geo.first) = true := decide_eq_true h1
    have hbad : ce < m.geo.first ∨ m.book.epoch < ce ∨ S0 = false := Or.inl h1
    obtain ⟨a0, a1, a2, a3, a4, a5, a6⟩ := blk7c H4.out.2.2.1
    obtain ⟨⟨z0, z1, z2, z3, z4, z5, z6, z7⟩, -⟩ := blkR H4.out.2.1.blk
    obtain ⟨v0, v1, v2, -, -, -⟩ := blk3 H4.out.2.2.2.2
    clear a0 a1 a3 a4 a5 a6 z1 z3 z4 z6 z7 v0 v1 v2
    have ga2 := fun p => after_cell a2 p
    have gz2 := fun p => after_cell z2 p
    have gz5 := fun p => after_cell z5 p
    have gz0 := fun p => after_cell z0 p
    refine wp_region_after (by kernel_rfl) (by kernel_rfl) ?_
    repeat (go_big_quiet_step (fail))
    refine wpQuiet_nil ?_
    rintro q2 ⟨p9, rfl⟩
    have hb := after_below q1 p9
    have H5 := Lib.hid (And.intro (H4.out.1.trans (hb.mono H4.out.1.size)) (And.intro (H4.out.2.1.below hb) (And.intro (blk_on hb H4.out.2.2.1) (And.intro (blk_on hb H4.out.2.2.2.1) (blk_on hb H4.out.2.2.2.2)))))
    generalize After q1 p9 = q2 at *
    clear hb ga2 gz2 gz5 gz0 a2 z2 z5 z0
    have HZ := Lib.hid (show RA = errA 7 by rw [HZ0.out, if_pos hbad])
    obtain ⟨WR, hWR⟩ : ∃ W, q2.setRow W1.heap.size #[.int .i64 7, .string ⟨#[]⟩, .int .i64 0, .int .i64 0, .int .i64 0, .int .i64 0, .int .i64 0, .int .i64 0] = W := ⟨_, rfl⟩
    have KE := Lib.hid (show WR.heap[W1.heap.size]? = some (.cells #[.int .i64 7, .string ⟨#[]⟩, .int .i64 0, .int .i64 0, .int .i64 0, .int .i64 0, .int .i64 0, .int .i64 0] 39 (0, 0)) by rw [← hWR]; exact setRow_heap q2 _ _ _ _ _ H5.out.2.2.2.1)
    have BE := Lib.hid (show Below w.heap.size w WR by rw [← hWR]; exact below_setRow H5.out.1 (Nat.le_of_lt s1.out) _)
    go_wp2_with (refine wpList_store_blk rfl 39 (.tmp 4) (.tmp 53) rfl W1.heap.size 0 8 rfl #[.int .i64 0, .string ⟨#[]⟩, .int .i64 0, .int .i64 0, .int .i64 0, .int .i64 0, .int .i64 0, .int .i64 0] #[.int .i64 7, .string ⟨#[]⟩, .int .i64 0, .int .i64 0, .int .i64 0, .int .i64 0, .int .i64 0, .int .i64 0] #[.int .i64 7, .string ⟨#[]⟩, .int .i64 0, .int .i64 0, .int .i64 0, .int .i64 0, .int .i64 0, .int .i64 0] rfl 39 H5.out.2.2.2.1 rfl (Nat.le_refl 8) (by kernel_rfl) (ans_one _ _ _ _ _ _ _ _) (splice_all _ _ rfl) ?_; rw [hWR])
    obtain ⟨⟨y0, y1, y2, y3, y4, y5, y6, y7⟩, -⟩ := blkR KE.out
    refine bodyPost_ret (v := .agg #[.int .i64 7, .string ⟨#[]⟩, .int .i64 0, .int .i64 0, .int .i64 0, .int .i64 0, .int .i64 0, .int .i64 0]) (by simp [results, Tryz.results18, go_sem, y0, y1, y2, y3, y4, y5, y6, y7]) rfl ?_
    exact HR.out _ _ ⟨by rw [HZ.out] <;> rfl, BE.out⟩
  have h1d : decide (ce < m.geo.first) = false := decide_eq_false h1
  have cc0 := Lib.hid (fun p => calls_after (p := p) (HEb.out (After q1 p) (H4.out.2.1.below (after_below q1 p))))
  by_cases h2 : m.book.epoch < ce
  · have h2d : decide (m.book.epoch < ce) = true := decide_eq_true h2
    have hbad : ce < m.geo.first ∨ m.book.epoch < ce ∨ S0 = false := Or.inr (Or.inl h2)
    obtain ⟨a0, a1, a2, a3, a4, a5, a6⟩ := blk7c H4.out.2.2.1
    obtain ⟨⟨z0, z1, z2, z3, z4, z5, z6, z7⟩, -⟩ := blkR H4.out.2.1.blk
    obtain ⟨v0, v1, v2, -, -, -⟩ := blk3 H4.out.2.2.2.2
    clear a0 a1 a3 a4 a5 a6 z1 z3 z4 z6 z7 v0 v1 v2
    have ga2 := fun p => after_cell a2 p
    have gz2 := fun p => after_cell z2 p
    have gz5 := fun p => after_cell z5 p
    have gz0 := fun p => after_cell z0 p
    refine wp_region_after (by kernel_rfl) (by kernel_rfl) ?_
    repeat (go_big_quiet_step (fail))
    go_big_quiet_step (exact cc0.out _)
    repeat (go_big_quiet_step (fail))
    refine wpQuiet_nil ?_
    rintro q2 ⟨p9, rfl⟩
    have hb := after_below q1 p9
    have H5 := Lib.hid (And.intro (H4.out.1.trans (hb.mono H4.out.1.size)) (And.intro (H4.out.2.1.below hb) (And.intro (blk_on hb H4.out.2.2.1) (And.intro (blk_on hb H4.out.2.2.2.1) (blk_on hb H4.out.2.2.2.2)))))
    generalize After q1 p9 = q2 at *
    clear hb ga2 gz2 gz5 gz0 a2 z2 z5 z0
    have HZ := Lib.hid (show RA = errA 7 by rw [HZ0.out, if_pos hbad])
    obtain ⟨WR, hWR⟩ : ∃ W, q2.setRow W1.heap.size #[.int .i64 7, .string ⟨#[]⟩, .int .i64 0, .int .i64 0, .int .i64 0, .int .i64 0, .int .i64 0, .int .i64 0] = W := ⟨_, rfl⟩
    have KE := Lib.hid (show WR.heap[W1.heap.size]? = some (.cells #[.int .i64 7, .string ⟨#[]⟩, .int .i64 0, .int .i64 0, .int .i64 0, .int .i64 0, .int .i64 0, .int .i64 0] 39 (0, 0)) by rw [← hWR]; exact setRow_heap q2 _ _ _ _ _ H5.out.2.2.2.1)
    have BE := Lib.hid (show Below w.heap.size w WR by rw [← hWR]; exact below_setRow H5.out.1 (Nat.le_of_lt s1.out) _)
    go_wp2_with (refine wpList_store_blk rfl 39 (.tmp 4) (.tmp 53) rfl W1.heap.size 0 8 rfl #[.int .i64 0, .string ⟨#[]⟩, .int .i64 0, .int .i64 0, .int .i64 0, .int .i64 0, .int .i64 0, .int .i64 0] #[.int .i64 7, .string ⟨#[]⟩, .int .i64 0, .int .i64 0, .int .i64 0, .int .i64 0, .int .i64 0, .int .i64 0] #[.int .i64 7, .string ⟨#[]⟩, .int .i64 0, .int .i64 0, .int .i64 0, .int .i64 0, .int .i64 0, .int .i64 0] rfl 39 H5.out.2.2.2.1 rfl (Nat.le_refl 8) (by kernel_rfl) (ans_one _ _ _ _ _ _ _ _) (splice_all _ _ rfl) ?_; rw [hWR])
    obtain ⟨⟨y0, y1, y2, y3, y4, y5, y6, y7⟩, -⟩ := blkR KE.out
    refine bodyPost_ret (v := .agg #[.int .i64 7, .string ⟨#[]⟩, .int .i64 0, .int .i64 0, .int .i64 0, .int .i64 0, .int .i64 0, .int .i64 0]) (by simp [results, Tryz.results18, go_sem, y0, y1, y2, y3, y4, y5, y6, y7]) rfl ?_
    exact HR.out _ _ ⟨by rw [HZ.out] <;> rfl, BE.out⟩
  have h2d : decide (m.book.epoch < ce) = false := decide_eq_false h2
  cases S0 with
  | false =>
    have hbad : ce < m.geo.first ∨ m.book.epoch < ce ∨ false = false := Or.inr (Or.inr rfl)
    obtain ⟨a0, a1, a2, a3, a4, a5, a6⟩ := blk7c H4.out.2.2.1
    obtain ⟨⟨z0, z1, z2, z3, z4, z5, z6, z7⟩, -⟩ := blkR H4.out.2.1.blk
    obtain ⟨v0, v1, v2, -, -, -⟩ := blk3 H4.out.2.2.2.2
    clear a0 a1 a3 a4 a5 a6 z1 z3 z4 z6 z7 v0 v1 v2
    have ga2 := fun p => after_cell a2 p
    have gz2 := fun p => after_cell z2 p
    have gz5 := fun p => after_cell z5 p
    have gz0 := fun p => after_cell z0 p
    refine wp_region_after (by kernel_rfl) (by kernel_rfl) ?_
    repeat (go_big_quiet_step (fail))
    go_big_quiet_step (exact cc0.out _)
    repeat (go_big_quiet_step (fail))
    refine wpQuiet_nil ?_
    rintro q2 ⟨p9, rfl⟩
    have hb := after_below q1 p9
    have H5 := Lib.hid (And.intro (H4.out.1.trans (hb.mono H4.out.1.size)) (And.intro (H4.out.2.1.below hb) (And.intro (blk_on hb H4.out.2.2.1) (And.intro (blk_on hb H4.out.2.2.2.1) (blk_on hb H4.out.2.2.2.2)))))
    generalize After q1 p9 = q2 at *
    clear hb ga2 gz2 gz5 gz0 a2 z2 z5 z0
    have HZ := Lib.hid (show RA = errA 7 by rw [HZ0.out, if_pos hbad])
    obtain ⟨WR, hWR⟩ : ∃ W, q2.setRow W1.heap.size #[.int .i64 7, .string ⟨#[]⟩, .int .i64 0, .int .i64 0, .int .i64 0, .int .i64 0, .int .i64 0, .int .i64 0] = W := ⟨_, rfl⟩
    have KE := Lib.hid (show WR.heap[W1.heap.size]? = some (.cells #[.int .i64 7, .string ⟨#[]⟩, .int .i64 0, .int .i64 0, .int .i64 0, .int .i64 0, .int .i64 0, .int .i64 0] 39 (0, 0)) by rw [← hWR]; exact setRow_heap q2 _ _ _ _ _ H5.out.2.2.2.1)
    have BE := Lib.hid (show Below w.heap.size w WR by rw [← hWR]; exact below_setRow H5.out.1 (Nat.le_of_lt s1.out) _)
    go_wp2_with (refine wpList_store_blk rfl 39 (.tmp 4) (.tmp 53) rfl W1.heap.size 0 8 rfl #[.int .i64 0, .string ⟨#[]⟩, .int .i64 0, .int .i64 0, .int .i64 0, .int .i64 0, .int .i64 0, .int .i64 0] #[.int .i64 7, .string ⟨#[]⟩, .int .i64 0, .int .i64 0, .int .i64 0, .int .i64 0, .int .i64 0, .int .i64 0] #[.int .i64 7, .string ⟨#[]⟩, .int .i64 0, .int .i64 0, .int .i64 0, .int .i64 0, .int .i64 0, .int .i64 0] rfl 39 H5.out.2.2.2.1 rfl (Nat.le_refl 8) (by kernel_rfl) (ans_one _ _ _ _ _ _ _ _) (splice_all _ _ rfl) ?_; rw [hWR])
    obtain ⟨⟨y0, y1, y2, y3, y4, y5, y6, y7⟩, -⟩ := blkR KE.out
    refine bodyPost_ret (v := .agg #[.int .i64 7, .string ⟨#[]⟩, .int .i64 0, .int .i64 0, .int .i64 0, .int .i64 0, .int .i64 0, .int .i64 0]) (by simp [results, Tryz.results18, go_sem, y0, y1, y2, y3, y4, y5, y6, y7]) rfl ?_
    exact HR.out _ _ ⟨by rw [HZ.out] <;> rfl, BE.out⟩
  | true =>
    have hok : ¬ (ce < m.geo.first ∨ m.book.epoch < ce ∨ true = false) := fun q => q.elim h1 (fun q => q.elim h2 (fun q => by cases q))
    rw [if_neg hok] at HZ0
    obtain ⟨a0, a1, a2, a3, a4, a5, a6⟩ := blk7c H4.out.2.2.1
    obtain ⟨⟨z0, z1, z2, z3, z4, z5, z6, z7⟩, -⟩ := blkR H4.out.2.1.blk
    obtain ⟨v0, v1, v2, -, -, -⟩ := blk3 H4.out.2.2.2.2
    clear a0 a1 a3 a4 a5 a6 z1 z3 z4 z6 z7 v0 v1 v2
    have ga2 := fun p => after_cell a2 p
    have gz2 := fun p => after_cell z2 p
    have gz5 := fun p => after_cell z5 p
    have gz0 := fun p => after_cell z0 p
    refine wp_region_after (by kernel_rfl) (by kernel_rfl) ?_
    repeat (go_big_quiet_step (fail))
    go_big_quiet_step (exact cc0.out _)
    repeat (go_big_quiet_step (fail))
    refine wpQuiet_nil ?_
    rintro q2 ⟨p9, rfl⟩
    have hb := after_below q1 p9
    have H5 := Lib.hid (And.intro (H4.out.1.trans (hb.mono H4.out.1.size)) (And.intro (H4.out.2.1.below hb) (And.intro (blk_on hb H4.out.2.2.1) (And.intro (blk_on hb H4.out.2.2.2.1) (blk_on hb H4.out.2.2.2.2)))))
    generalize After q1 p9 = q2 at *
    clear hb ga2 gz2 gz5 gz0 a2 z2 z5 z0
    clear cc0
    go_upto_region 7 with fail
    have cc1 := Lib.hid (fun p => calls_after (p := p) (HGb.out (After q2 p) (H5.out.2.1.below (after_below q2 p))))
    obtain ⟨a0, a1, a2, a3, a4, a5, a6⟩ := blk7c H5.out.2.2.1
    obtain ⟨⟨z0, z1, z2, z3, z4, z5, z6, z7⟩, -⟩ := blkR H5.out.2.1.blk
    obtain ⟨v0, v1, v2, -, -, -⟩ := blk3 H5.out.2.2.2.2
    clear a0 a1 a2 a3 a4 a5 a6 z1 z2 z3 z4 z6 z7 v0
    have gz5 := fun p => after_cell z5 p
    have gz0 := fun p => after_cell z0 p
    have gv1 := fun p => after_cell v1 p
    have gv2 := fun p => after_cell v2 p
    refine wp_region_after (by kernel_rfl) (by kernel_rfl) ?_
    repeat (go_big_quiet_step (fail))
    go_big_quiet_step (exact cc1.out _)
    repeat (go_big_quiet_step (fail))
    refine wpQuiet_nil ?_
    rintro q3 ⟨p9, rfl⟩
    have hb := after_below q2 p9
    have H6 := Lib.hid (And.intro (H5.out.1.trans (hb.mono H5.out.1.size)) (And.intro (H5.out.2.1.below hb) (And.intro (blk_on hb H5.out.2.2.1) (And.intro (blk_on hb H5.out.2.2.2.1) (blk_on hb H5.out.2.2.2.2)))))
    generalize After q2 p9 = q3 at *
    clear hb gz5 gz0 gv1 gv2 z5 z0 v1 v2
    clear cc1
    cases hgo : goneB m.book ve with
    | true =>
      have HZ := Lib.hid (show RA = errA 13 by rw [HZ0.out, if_pos hgo])
      obtain ⟨WR, hWR⟩ : ∃ W, q3.setRow W1.heap.size #[.int .i64 13, .string ⟨#[]⟩, .int .i64 0, .int .i64 0, .int .i64 0, .int .i64 0, .int .i64 0, .int .i64 0] = W := ⟨_, rfl⟩
      have KE := Lib.hid (show WR.heap[W1.heap.size]? = some (.cells #[.int .i64 13, .string ⟨#[]⟩, .int .i64 0, .int .i64 0, .int .i64 0, .int .i64 0, .int .i64 0, .int .i64 0] 39 (0, 0)) by rw [← hWR]; exact setRow_heap q3 _ _ _ _ _ H6.out.2.2.2.1)
      have BE := Lib.hid (show Below w.heap.size w WR by rw [← hWR]; exact below_setRow H6.out.1 (Nat.le_of_lt s1.out) _)
      go_wp2_with (refine wpList_store_blk rfl 39 (.tmp 4) (.tmp 62) rfl W1.heap.size 0 8 rfl #[.int .i64 0, .string ⟨#[]⟩, .int .i64 0, .int .i64 0, .int .i64 0, .int .i64 0, .int .i64 0, .int .i64 0] #[.int .i64 13, .string ⟨#[]⟩, .int .i64 0, .int .i64 0, .int .i64 0, .int .i64 0, .int .i64 0, .int .i64 0] #[.int .i64 13, .string ⟨#[]⟩, .int .i64 0, .int .i64 0, .int .i64 0, .int .i64 0, .int .i64 0, .int .i64 0] rfl 39 H6.out.2.2.2.1 rfl (Nat.le_refl 8) (by kernel_rfl) (ans_one _ _ _ _ _ _ _ _) (splice_all _ _ rfl) ?_; rw [hWR])
      obtain ⟨⟨y0, y1, y2, y3, y4, y5, y6, y7⟩, -⟩ := blkR KE.out
      refine bodyPost_ret (v := .agg #[.int .i64 13, .string ⟨#[]⟩, .int .i64 0, .int .i64 0, .int .i64 0, .int .i64 0, .int .i64 0, .int .i64 0]) (by simp [results, Tryz.results18, go_sem, y0, y1, y2, y3, y4, y5, y6, y7]) rfl ?_
      exact HR.out _ _ ⟨by rw [HZ.out] <;> rfl, BE.out⟩
    | false =>
      have HZ := Lib.hid (show RA = ⟨0, vd, (0, 0, 0, 0, 0, 0)⟩ by rw [HZ0.out, if_neg (by rw [hgo]; decide)])
      obtain ⟨v0, v1, v2, -, -, -⟩ := blk3 H6.out.2.2.2.2
      obtain ⟨WR, hWR⟩ : ∃ W, q3.setRow W1.heap.size #[.int .i64 0, .string vd, .int .i64 0, .int .i64 0, .int .i64 0, .int .i64 0, .int .i64 0, .int .i64 0] = W := ⟨_, rfl⟩
      have KE := Lib.hid (show WR.heap[W1.heap.size]? = some (.cells #[.int .i64 0, .string vd, .int .i64 0, .int .i64 0, .int .i64 0, .int .i64 0, .int .i64 0, .int .i64 0] 39 (0, 0)) by rw [← hWR]; exact setRow_heap q3 _ _ _ _ _ H6.out.2.2.2.1)
      have BE := Lib.hid (show Below w.heap.size w WR by rw [← hWR]; exact below_setRow H6.out.1 (Nat.le_of_lt s1.out) _)
      go_wp2_with (refine wpList_store_blk rfl 39 (.tmp 4) (.tmp 65) rfl W1.heap.size 0 8 rfl #[.int .i64 0, .string ⟨#[]⟩, .int .i64 0, .int .i64 0, .int .i64 0, .int .i64 0, .int .i64 0, .int .i64 0] #[.int .i64 0, .string vd, .int .i64 0, .int .i64 0, .int .i64 0, .int .i64 0, .int .i64 0, .int .i64 0] #[.int .i64 0, .string vd, .int .i64 0, .int .i64 0, .int .i64 0, .int .i64 0, .int .i64 0, .int .i64 0] rfl 39 H6.out.2.2.2.1 rfl (Nat.le_refl 8) (by kernel_rfl) (ans_one _ _ _ _ _ _ _ _) (splice_all _ _ rfl) ?_; rw [hWR])
      obtain ⟨⟨y0, y1, y2, y3, y4, y5, y6, y7⟩, -⟩ := blkR KE.out
      refine bodyPost_ret (v := .agg #[.int .i64 0, .string vd, .int .i64 0, .int .i64 0, .int .i64 0, .int .i64 0, .int .i64 0, .int .i64 0]) (by simp [results, Tryz.results18, go_sem, y0, y1, y2, y3, y4, y5, y6, y7]) rfl ?_
      exact HR.out _ _ ⟨by rw [HZ.out] <;> rfl, BE.out⟩
end Go.Proofs.YtnkiokaeooopgaaGreat
