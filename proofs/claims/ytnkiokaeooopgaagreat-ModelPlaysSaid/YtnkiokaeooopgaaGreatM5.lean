/- Texts that the claim rests on, part 5: RecCheck, MapRange, BookObj, RBook, RNames. -/
import Derived.Carry
import Derived.StringKeys
import Derived.Laws.EntriesVeiled
import Derived.Test.YtnkiokaeooopgaaGreatM4
/- May a record be: of the program. -/
set_option maxRecDepth 100000
namespace Ks
open Go Go.RowKit
theorem toList_nil {s : ByteArray} (h : s.toList = []) : s = ⟨#[]⟩ := Classical.byContradiction fun hn => by
  have := nil_str hn
  rw [h] at this
  cases this
end Ks
namespace Go.Proofs.YtnkiokaeooopgaaGreat
open Go.RowKit Ks
set_option linter.unusedVariables false
set_option linter.unusedSimpArgs false
set_option maxRecDepth 100000 in
set_option maxHeartbeats 4000000 in
theorem check_any (r : RecT) (w : World) (hn : r.name.size ≤ 9223372036854775807) :
    Calls Tryz.prog 74 #[recV r] w fun e w' => e = .returned (.int .i64 (if chkB r then 0 else 2)) ∧ Below w.heap.size w w' := by
  refine calls_by fun R HR => ?_
  have HT := Lib.hid (fun w => rest_any r w hn)
  have HW := Lib.hid (fun n m w => within_any n m w)
  have HC := Lib.hid (show chkB r = (restB r && decide (restX r = noRec) && withB r.epoch 4294967295 && withB r.time 1099511627776) from rfl)
  generalize chkB r = CB at *
  generalize restX r = X at *
  generalize restB r = RB at *
  obtain ⟨kd, ep, tm, ct, tg, un, rt, nm⟩ := r
  obtain ⟨xk, xe, xt, xc, xg, xu, xr, xn⟩ := X
  simp only at HC
  clear hn
  have H1 := Lib.hid (Below.refl w.heap.size w)
  obtain ⟨W1, hW1⟩ : ∃ W1, w.alloc (.cells #[.int .i64 kd, .int .i64 ep, .int .i64 tm, .int .i64 ct, .int .i64 tg, .int .i64 un, .string rt, .string nm] 72) = W1 := ⟨_, rfl⟩
  have hbW1 : Below w.heap.size w W1 := by rw [← hW1]; exact alloc_below w _
  have kW1 : W1.heap[w.heap.size]? = some (.cells #[.int .i64 kd, .int .i64 ep, .int .i64 tm, .int .i64 ct, .int .i64 tg, .int .i64 un, .string rt, .string nm] 72 (0, 0)) := by rw [← hW1]; exact alloc_new w _
  have H2 := Lib.hid (And.intro (H1.out.trans (hbW1.mono H1.out.size)) (kW1))
  clear hbW1 kW1
  obtain ⟨⟨r0, r1, r2, r3, r4, r5, r6, r7⟩, -⟩ := blkR H2.out.2
  go_enter Tryz.func74, Tryz.ntmps74
  go_wp2_with fail
  refine (HT.out _).mono ?_
  rintro en v1 ⟨rfl, hb⟩
  have H3 := Lib.hid (And.intro (H2.out.1.trans (hb.mono H2.out.1.size)) (blk_on hb H2.out.2))
  clear hb
  clear r0 r1 r2 r3 r4 r5 r6 r7 hW1
  obtain ⟨WX, hWX⟩ : ∃ WX, v1.alloc (.cells #[.int .i64 xk, .int .i64 xe, .int .i64 xt, .int .i64 xc, .int .i64 xg, .int .i64 xu, .string xr, .string xn] 72) = WX := ⟨_, rfl⟩
  have hbWX : Below v1.heap.size v1 WX := by rw [← hWX]; exact alloc_below v1 _
  have kWX : WX.heap[v1.heap.size]? = some (.cells #[.int .i64 xk, .int .i64 xe, .int .i64 xt, .int .i64 xc, .int .i64 xg, .int .i64 xu, .string xr, .string xn] 72 (0, 0)) := by rw [← hWX]; exact alloc_new v1 _
  have EWX := Lib.hid hWX
  have H4 := Lib.hid (And.intro (H3.out.1.trans (hbWX.mono H3.out.1.size)) (And.intro (blk_on hbWX H3.out.2) (kWX)))
  clear hbWX kWX hWX
  go_upto_region 2 with fail
  try rw [EWX.out]
  clear EWX
  obtain ⟨⟨x0, x1, x2, x3, x4, x5, x6, x7⟩, -⟩ := blkR H4.out.2.2
  obtain ⟨⟨r0, r1, r2, r3, r4, r5, r6, r7⟩, -⟩ := blkR H4.out.2.1
  cases RB with
  | false =>
    have HZ := Lib.hid (show CB = false by rw [HC.out]; rfl)
    go_wp2
    exact HR.out _ _ ⟨by rw [HZ.out]; try rfl, H4.out.1⟩
  | true =>
    by_cases hx : (⟨xk, xe, xt, xc, xg, xu, xr, xn⟩ : RecT) = noRec
    · obtain ⟨rfl, rfl, rfl, rfl, rfl, rfl, rfl, rfl⟩ := (show xk = 0 ∧ xe = 0 ∧ xt = 0 ∧ xc = 0 ∧ xg = 0 ∧ xu = 0 ∧ xr = ⟨#[]⟩ ∧ xn = ⟨#[]⟩ by simpa [noRec] using hx)
      have HC2 := Lib.hid (show CB = (withB ep 4294967295 && withB tm 1099511627776) by rw [HC.out, decide_eq_true hx]; rfl)
      clear hx
      cases h1 : withB ep 4294967295 with
      | false =>
        have HZ := Lib.hid (show CB = false by rw [HC2.out, h1]; rfl)
        go_wp2_with fail
        refine (HW.out _ _ _).mono ?_
        rintro en y1 ⟨rfl, hw⟩
        rw [hw]
        clear hw
        rw [h1]
        go_wp2
        exact HR.out _ _ ⟨by rw [HZ.out]; try rfl, H4.out.1⟩
      | true =>
        cases h2 : withB tm 1099511627776 with
        | false =>
          have HZ := Lib.hid (show CB = false by rw [HC2.out, h1, h2]; rfl)
          go_wp2_with fail
          refine (HW.out _ _ _).mono ?_
          rintro en y1 ⟨rfl, hw⟩
          rw [hw]
          clear hw
          rw [h1]
          go_wp2_with fail
          refine (HW.out _ _ _).mono ?_
          rintro en y1 ⟨rfl, hw⟩
          rw [hw]
          clear hw
          rw [h2]
          go_wp2
          exact HR.out _ _ ⟨by rw [HZ.out]; try rfl, H4.out.1⟩
        | true =>
          have HZ := Lib.hid (show CB = true by rw [HC2.out, h1, h2]; rfl)
          go_wp2_with fail
          refine (HW.out _ _ _).mono ?_
          rintro en y1 ⟨rfl, hw⟩
          rw [hw]
          clear hw
          rw [h1]
          go_wp2_with fail
          refine (HW.out _ _ _).mono ?_
          rintro en y1 ⟨rfl, hw⟩
          rw [hw]
          clear hw
          rw [h2]
          go_wp2
          exact HR.out _ _ ⟨by rw [HZ.out]; try rfl, H4.out.1⟩
    · have HZ := Lib.hid (show CB = false by rw [HC.out, decide_eq_false hx]; simp)
      go_wp2
      all_goals first
        | exact absurd (by
            have e1 := toList_nil ‹xr.toList = []›
            have e2 := toList_nil ‹xn.toList = []›
            subst e1 e2
            simp [noRec, *]) hx
        | exact HR.out _ _ ⟨by rw [HZ.out]; try rfl, H4.out.1⟩
end Go.Proofs.YtnkiokaeooopgaaGreat
/- A map gone through by a range: which entries are still to come, as a list. Plain. No program is in sight. -/
namespace Ks
open Go Go.RowKit Go.ChangeMaps Go.MapKept Go.Maps
set_option linter.unusedVariables false
set_option linter.unusedSectionVars false
def leftL (es : Array MapEntry) (seen : Array Nat) : List MapEntry := es.toList.filter fun e => !seen.contains e.born
theorem leftOf_list (es : Array MapEntry) (seen : Array Nat) : (leftOf es seen).toList = leftL es seen := by simp [leftOf, leftL]
theorem filter_born {l : List MapEntry} (hn : (l.map (·.born)).Nodup) {j : Nat} {e : MapEntry} (h : l[j]? = some e) : (l.filter fun x => x.born != e.born) = l.eraseIdx j := by
  induction l generalizing j with
  | nil => simp at h
  | cons x l ih =>
    rw [List.map_cons, List.nodup_cons] at hn
    cases j with
    | zero =>
      simp at h
      subst h
      rw [List.filter_cons]
      simp
      intro y hy e2
      exact hn.1 (List.mem_map.2 ⟨y, hy, e2⟩)
    | succ j =>
      have hj : l[j]? = some e := by simpa using h
      have hne : (x.born != e.born) = true := by
        rw [bne_iff_ne]
        exact fun e2 => hn.1 (List.mem_map.2 ⟨e, List.mem_of_getElem? hj, e2.symm⟩)
      rw [List.filter_cons, hne]
      simp [ih hn.2 hj]
theorem left_push {es : Array MapEntry} {seen : Array Nat} (hn : (es.toList.map (·.born)).Nodup) {j : Nat} {e : MapEntry} (h : (leftL es seen)[j]? = some e) : leftL es (seen.push e.born) = (leftL es seen).eraseIdx j := by
  have h1 : leftL es (seen.push e.born) = (leftL es seen).filter fun x => x.born != e.born := by
    unfold leftL
    rw [List.filter_filter]
    refine List.filter_congr fun x _ => ?_
    rw [Bool.eq_iff_iff]
    simp [and_comm]
  rw [h1]
  refine filter_born ?_ h
  exact List.Nodup.sublist (List.Sublist.map _ List.filter_sublist) hn
section
variable {κ α : Type} [DecidableEq κ] {P : Program} {k : TypeId} {K : KV P k κ α} {w : World} {b r : Nat} {m left : List (κ × α)}
/-- a range over a map under way: 'left' is still to come -/
def RangeAt (K : KV P k κ α) (w : World) (b r : Nat) (m left : List (κ × α)) : Prop :=
  ∃ es clock since seen c0, w.heap[b]? = some (.map es clock) ∧ Stamped es clock ∧ es.toList.map (fun e => (e.key, e.val)) = m.map (fun p => (K.key p.1, K.val p.2)) ∧ (∀ p ∈ m, K.ok p.1) ∧
    w.heap[r]? = some (.mapIter (some b) since seen c0) ∧ (∀ x ∈ es.toList, x.born < since) ∧ since ≤ c0 ∧ since ≤ clock ∧
    (leftL es seen).map (fun e => (e.key, e.val)) = left.map (fun p => (K.key p.1, K.val p.2))
theorem RangeAt.map (h : RangeAt K w b r m left) : MapAt K w b m := by
  obtain ⟨es, clock, since, seen, c0, h1, h2, h3, h4, _⟩ := h
  exact ⟨es, clock, h1, h2, h3, h4⟩
theorem RangeAt.ne (h : RangeAt K w b r m left) : r ≠ b := by
  obtain ⟨es, clock, since, seen, c0, h1, _, _, _, h5, _⟩ := h
  intro e
  rw [e, h1] at h5
  cases h5
theorem RangeAt.lt (h : RangeAt K w b r m left) : r < w.heap.size := by
  obtain ⟨es, clock, since, seen, c0, _, _, _, _, h5, _⟩ := h
  exact (Array.getElem?_eq_some_iff.1 h5).1
theorem RangeAt.keep {w' : World} (h : RangeAt K w b r m left) (e1 : w'.heap[b]? = w.heap[b]?) (e2 : w'.heap[r]? = w.heap[r]?) : RangeAt K w' b r m left := by
  obtain ⟨es, clock, since, seen, c0, h1, h2, h3, h4, h5, h6⟩ := h
  exact ⟨es, clock, since, seen, c0, e1.trans h1, h2, h3, h4, e2.trans h5, h6⟩
theorem RangeAt.below {w' : World} (h : RangeAt K w b r m left) (hb : Below w.heap.size w w') : RangeAt K w' b r m left := h.keep (hb.block b h.map.lt) (hb.block r h.lt)
theorem RangeAt.left_eq (h : RangeAt K w b r m left) : w.rangeLeft b r = left.length := by
  obtain ⟨es, clock, since, seen, c0, h1, h2, h3, h4, h5, h6, h7, h8, h9⟩ := h
  simp only [World.rangeLeft, h1, h5]
  have := congrArg List.length h9
  rw [← leftOf_list] at this
  simpa using this
theorem MapAt.range {t e : TypeId} (h : MapAt K w b m) (ht : P.underlying t = some (.map k e)) :
    ∃ w', (Instr.range t (.map (some b))).run P w = .ok (.pointer (some ⟨w.heap.size, 0, none⟩)) w' ∧ RangeAt K w' b w.heap.size m m ∧ Below w.heap.size w w' ∧ w'.heap.size = w.heap.size + 1 := by
  have hlt := h.lt
  obtain ⟨es, clock, hb, hs, he, hk⟩ := h
  refine ⟨_, run_range_map w t k e b es clock ht hb, ⟨es, clock, clock, #[], clock, ((MapKept.heap_alloc w _).2 b hlt).trans hb, hs, he, hk, (MapKept.heap_alloc w _).1, hs.1, Nat.le_refl _, Nat.le_refl _, ?_⟩, alloc_below w _, by simp⟩
  rw [← he, leftL, List.filter_eq_self.2 (by simp)]
theorem RangeAt.next (h : RangeAt K w b r m left) (ty : TypeId) :
    (left = [] ∧ (Instr.next (.pointer (some ⟨r, 0, none⟩)) false ty).run P w = .ok (.tuple #[.bool false]) w) ∨
    ∃ j x v w', left[j]? = some (x, v) ∧ (Instr.next (.pointer (some ⟨r, 0, none⟩)) false ty).run P w = .ok (.tuple #[.bool true, K.key x, K.val v]) w' ∧ RangeAt K w' b r m (left.eraseIdx j) ∧ Turn w w' (fun k => k = r) (fun k => k = r) ∧
      w'.heap.size = w.heap.size ∧ (Instr.entry (.pointer (some ⟨r, 0, none⟩))).run P w' = .ok (.tuple #[K.key x, K.val v]) w' := by
  have hne := h.ne
  have hlt := h.lt
  obtain ⟨es, clock, since, seen, c0, h1, h2, h3, h4, h5, h6, h7, h8, h9⟩ := h
  rcases run_next_at (P := P) w ty r b since c0 seen es clock h5 h1 h6 h7 with ⟨h0, hrun⟩ | ⟨e, he, w1, hw1, hrun⟩
  · refine Or.inl ⟨?_, hrun⟩
    have hl : leftL es seen = [] := by rw [← leftOf_list]; exact List.length_eq_zero_iff.1 (by simpa using h0)
    rw [hl] at h9
    exact List.map_eq_nil_iff.1 h9.symm
  · right
    rw [leftOf_list] at he
    obtain ⟨j, hj⟩ := List.mem_iff_getElem?.1 he
    obtain ⟨p, hp, kp, vp⟩ := map_nth h9 j hj
    have hb1 : Below w.heap.size w w1 := by
      rcases hw1 with rfl | rfl
      · exact Below.refl _ _
      · exact drew_below w
    have hz1 : w1.heap.size = w.heap.size := by rcases hw1 with rfl | rfl <;> rfl
    have hbl : w1.heap[b]? = some (.map es clock) := by rcases hw1 with rfl | rfl <;> exact h1
    have hes : e ∈ es.toList := (List.mem_filter.1 he).1
    have hoth : ∀ k, k ≠ r → (setBlock w1 r (.mapIter (some b) since (seen.push e.born) clock)).heap[k]? = w1.heap[k]? := fun k hk => by
      simp [setBlock, Array.getElem?_setIfInBounds_ne (Ne.symm hk)]
    have hr' : (setBlock w1 r (.mapIter (some b) since (seen.push e.born) clock)).heap[r]? = some (.mapIter (some b) since (seen.push e.born) clock) := by
      show (w1.heap.setIfInBounds r _)[r]? = _
      exact Array.getElem?_setIfInBounds_self_of_lt (by omega)
    have hb' : (setBlock w1 r (.mapIter (some b) since (seen.push e.born) clock)).heap[b]? = some (.map es clock) := (hoth b (Ne.symm hne)).trans hbl
    refine ⟨j, p.1, p.2, setBlock w1 r (.mapIter (some b) since (seen.push e.born) clock), hp, ?_, ⟨es, clock, since, seen.push e.born, clock, hb', h2, h3, h4, hr', h6, h8, h8, ?_⟩, ?_, ?_, ?_⟩
    · rw [hrun, kp, vp]
    · rw [left_push h2.2.1 hj, ChangeMaps.map_eraseIdx, h9, ChangeMaps.map_eraseIdx]
    · exact ⟨hb1.os, hb1.tape, hb1.output, by simp [setBlock, hz1], fun k hk hkr => (hoth k hkr).trans (hb1.block k hk), fun k hk => Or.inl hk⟩
    · simp [setBlock, hz1]
    · rw [run_entry_at (P := P) _ r b since seen es clock e hr' hb' hes h2.2.1, kp, vp]
end
section walk
variable {κ α : Type} [DecidableEq κ] {P : Program} {k : TypeId} {K : KV P k κ α} (w : World) {ops : Array Oper} {rest : List Oper} {o : Oper} {a : Act} {Q : Exit → Act → World → Prop} {b r : Nat} {m left : List (κ × α)}
theorem wpList_range_list (hg : o.guard = none) (mm : Operand) (t : TypeId) (hop : o.op = Op.range t mm) (e : TypeId) (ht : P.underlying t = some (.map k e)) (hm : a.eval mm = .map (some b)) (h : MapAt K w b m)
    (hK : ∀ w', RangeAt K w' b w.heap.size m m → Below w.heap.size w w' → w'.heap.size = w.heap.size + 1 → wpList P ops Q rest (a.put o.dst (.pointer (some ⟨w.heap.size, 0, none⟩))) w') :
    wpList P ops Q (o :: rest) a w := by
  refine wpList_plain hg fun K' hK' => ?_
  obtain ⟨w', hrun, r1, r2, r3⟩ := h.range ht
  unfold Oper.wp
  simp [execOp, hop, hm, hrun, Result.andThen]
  exact hK' _ _ (hK w' r1 r2 r3)
theorem wpList_next_list (hg : o.guard = none) (it : Operand) (hop : o.op = Op.next it false) (hit : a.eval it = .pointer (some ⟨r, 0, none⟩)) (h : RangeAt K w b r m left)
    (hDone : left = [] → wpList P ops Q rest (a.put o.dst (.tuple #[.bool false])) w)
    (hMore : ∀ j x v w', left[j]? = some (x, v) → RangeAt K w' b r m (left.eraseIdx j) → Turn w w' (fun k => k = r) (fun k => k = r) → w'.heap.size = w.heap.size →
      (Instr.entry (.pointer (some ⟨r, 0, none⟩))).run P w' = .ok (.tuple #[K.key x, K.val v]) w' → wpList P ops Q rest (a.put o.dst (.tuple #[.bool true, K.key x, K.val v])) w') :
    wpList P ops Q (o :: rest) a w := by
  refine wpList_plain hg fun K' hK' => ?_
  unfold Oper.wp
  rcases h.next o.type with ⟨h0, hrun⟩ | ⟨j, x, v, w', h1, hrun, h2, h3, h4, h5⟩
  · simp [execOp, hop, hit, hrun, Result.andThen]
    exact hK' _ _ (hDone h0)
  · simp [execOp, hop, hit, hrun, Result.andThen]
    exact hK' _ _ (hMore j x v w' h1 h2 h3 h4 h5)
end walk
end Ks
/- A book in memory, its clock: what stands of them, what a call turns; the clock's functions. -/
set_option maxRecDepth 100000
namespace Go.Proofs.YtnkiokaeooopgaaGreat
open Go.RowKit Ks Go.Maps
set_option linter.unusedVariables false
theorem intKey : Keyed Tryz.prog 3 := int_keyed Tryz.underlying3
theorem strKey : Keyed Tryz.prog 9 := string_keyed Tryz.underlying9
def iiKV : KV Tryz.prog 3 Int Int := ⟨fun i => .int .i64 i, fun v => .int .i64 v, fun h => by simpa using h⟩
def ibKV : KV Tryz.prog 3 Int Bool := ⟨fun i => .int .i64 i, fun v => .bool v, fun h => by simpa using h⟩
def siKV : KV Tryz.prog 9 ByteArray Int := ⟨fun s => .string s, fun v => .int .i64 v, fun h => by simpa using h⟩
theorem iiKV_ok {x : Int} (h : -9223372036854775808 ≤ x ∧ x ≤ 9223372036854775807) : iiKV.ok x := ⟨_, keyOf_int_mk Tryz.underlying3 (by simp [Lit.wf, IntKind.min, IntKind.max, IntKind.signed, IntKind.bits]; omega)⟩
theorem ibKV_ok {x : Int} (h : -9223372036854775808 ≤ x ∧ x ≤ 9223372036854775807) : ibKV.ok x := ⟨_, keyOf_int_mk Tryz.underlying3 (by simp [Lit.wf, IntKind.min, IntKind.max, IntKind.signed, IntKind.bits]; omega)⟩
theorem siKV_ok {s : ByteArray} (h : s.size ≤ maxLen) : siKV.ok s := ⟨_, Go.WideMaps.keyOf_string_mk Tryz.underlying9 h⟩
theorem zeroI (w : World) : (zeroValue 3).run Tryz.prog w = .ok (.int .i64 0) w := by rfl
theorem zeroB (w : World) : (zeroValue 4).run Tryz.prog w = .ok (.bool false) w := by rfl
structure BookAt (w : World) (n c mu mh mg : Nat) (b : BookT) : Prop where
  blk : w.heap[n]? = some (.cells #[.pointer (some ⟨c, 0, none⟩), .int .i64 b.first, .int .i64 b.epoch, .map (some mu), .map (some mh), .map (some mg)] 87 (0, 0))
  clk : w.heap[c]? = some (.cells #[.bool true, .int .i64 b.now] 82 (0, 0))
  till : MapAt iiKV w mu b.till
  holds : MapAt siKV w mh b.holds
  gone : MapAt ibKV w mg b.gone
/-- the five blocks of a book are five -/
def Five (n c mu mh mg : Nat) : Prop := n ≠ c ∧ n ≠ mu ∧ n ≠ mh ∧ n ≠ mg ∧ c ≠ mu ∧ c ≠ mh ∧ c ≠ mg ∧ mu ≠ mh ∧ mu ≠ mg ∧ mh ≠ mg
/-- what a book has -/
def FB (n c mu mh mg : Nat) (k : Nat) : Prop := k = n ∨ k = c ∨ k = mu ∨ k = mh ∨ k = mg
section
variable {w w' : World} {n c mu mh mg : Nat} {b : BookT}
theorem BookAt.below (h : BookAt w n c mu mh mg b) (hb : Below w.heap.size w w') : BookAt w' n c mu mh mg b :=
  ⟨(hb.block n (lt_of_block h.blk)).trans h.blk, (hb.block c (lt_of_block h.clk)).trans h.clk, h.till.below hb, h.holds.below hb, h.gone.below hb⟩
theorem BookAt.lt (h : BookAt w n c mu mh mg b) : ∀ k, FB n c mu mh mg k → k < w.heap.size := by
  rintro k (rfl | rfl | rfl | rfl | rfl)
  · exact lt_of_block h.blk
  · exact lt_of_block h.clk
  · exact h.till.lt
  · exact h.holds.lt
  · exact h.gone.lt
end
theorem blk6 {w : World} {b : Nat} {c0 c1 c2 c3 c4 c5 : Value} {T : TypeId} (h : w.heap[b]? = some (.cells #[c0, c1, c2, c3, c4, c5] T (0, 0))) : (w.cell? ⟨b, 0, none⟩ = some c0 ∧ w.cell? ⟨b, 1, none⟩ = some c1 ∧ w.cell? ⟨b, 2, none⟩ = some c2 ∧ w.cell? ⟨b, 3, none⟩ = some c3 ∧ w.cell? ⟨b, 4, none⟩ = some c4 ∧ w.cell? ⟨b, 5, none⟩ = some c5) ∧ ∀ j, w.frozen? ⟨b, j, none⟩ = false :=
  ⟨⟨by rw [cell_of_row w b 0 _ _ _ h]; rfl, by rw [cell_of_row w b 1 _ _ _ h]; rfl, by rw [cell_of_row w b 2 _ _ _ h]; rfl, by rw [cell_of_row w b 3 _ _ _ h]; rfl, by rw [cell_of_row w b 4 _ _ _ h]; rfl, by rw [cell_of_row w b 5 _ _ _ h]; rfl⟩, fun j => frozen_of_row w b j _ _ h⟩
/-- a book that is none, or that no call made -/
def BookNo (w : World) (v : Value) : Prop := v = .pointer none ∨ ∃ n, v = .pointer (some ⟨n, 0, none⟩) ∧ w.heap[n]? = some (.cells #[.pointer none, .int .i64 0, .int .i64 0, .map none, .map none, .map none] 87 (0, 0))
theorem BookNo.below {w w' : World} {v : Value} (h : BookNo w v) (hb : Below w.heap.size w w') : BookNo w' v := by
  rcases h with h | ⟨n, rfl, h⟩
  · exact Or.inl h
  · exact Or.inr ⟨n, rfl, (hb.block n (lt_of_block h)).trans h⟩
/-! the clock -/
theorem cnew0 (w : World) : Calls Tryz.prog 12 #[.int .i64 0] w fun e w' => e = .returned (.tuple #[.pointer (some ⟨w.heap.size, 0, none⟩), .int .i64 0]) ∧ w' = w.alloc (.cells #[.bool true, .int .i64 0] 82) := by
  refine calls_by fun R HR => ?_
  go_enter Tryz.func12, Tryz.ntmps12
  go_wp2_with fail
  have hmay : Calls Tryz.prog 39 #[.int .i64 0] w fun e w' => e = .returned (.bool true) ∧ w' = w := by
    refine calls_by fun R HR => ?_
    go_enter Tryz.func39, Tryz.ntmps39
    go_wp2
    exact HR.out _ _ ⟨rfl, rfl⟩
  refine hmay.mono ?_
  rintro e w1 ⟨rfl, hw⟩
  rw [hw]
  clear hw hmay
  go_wp2
  all_goals exact HR.out _ _ ⟨rfl, rfl⟩
theorem cthere_yes (c : Nat) (t : Int) (w : World) (h : w.heap[c]? = some (.cells #[.bool true, .int .i64 t] 82 (0, 0))) : Calls Tryz.prog 48 #[.pointer (some ⟨c, 0, none⟩)] w fun e w' => e = .returned (.bool true) ∧ w' = w := by
  refine calls_by fun R HR => ?_
  obtain ⟨z0, z1, fz0, fz1⟩ := blk2 h
  clear h
  go_enter Tryz.func48, Tryz.ntmps48
  go_wp2
  exact HR.out _ _ ⟨rfl, rfl⟩
theorem cnow_any (c : Nat) (t : Int) (w : World) (h : w.heap[c]? = some (.cells #[.bool true, .int .i64 t] 82 (0, 0))) : Calls Tryz.prog 45 #[.pointer (some ⟨c, 0, none⟩)] w fun e w' => e = .returned (.int .i64 t) ∧ w' = w := by
  refine calls_by fun R HR => ?_
  have HT := Lib.hid (cthere_yes c t w h)
  obtain ⟨z0, z1, fz0, fz1⟩ := blk2 h
  clear h
  go_enter Tryz.func45, Tryz.ntmps45
  go_wp2_with fail
  refine HT.out.mono ?_
  rintro en v1 ⟨rfl, hw⟩
  rw [hw]
  clear hw
  go_wp2
  exact HR.out _ _ ⟨rfl, rfl⟩
theorem ctick_any (c : Nat) (t u : Int) (w : World) (h : w.heap[c]? = some (.cells #[.bool true, .int .i64 t] 82 (0, 0))) (h0 : ¬ u < 0) (h1 : ¬ 1099511627776 < u) (h2 : ¬ u < t) : Calls Tryz.prog 20 #[.pointer (some ⟨c, 0, none⟩), .int .i64 u] w fun e w' => e = .returned (.int .i64 0) ∧ w' = w.setCell ⟨c, 1, none⟩ (.int .i64 u) := by
  refine calls_by fun R HR => ?_
  have HT := Lib.hid (cthere_yes c t w h)
  obtain ⟨z0, z1, fz0, fz1⟩ := blk2 h
  clear h
  go_enter Tryz.func20, Tryz.ntmps20
  go_wp2_with fail
  refine HT.out.mono ?_
  rintro en v1 ⟨rfl, hw⟩
  rw [hw]
  clear hw
  go_wp2
  exact HR.out _ _ ⟨rfl, rfl⟩
end Go.Proofs.YtnkiokaeooopgaaGreat
/- The document's book: what it reckons out of its row of records. -/
set_option maxRecDepth 100000
namespace Ks
open Go Go.RowKit
theorem rb_ne {a b : ByteArray} (h : a ≠ b) : (a.toList == b.toList) = false := by
  rw [beq_eq_false_iff_ne]
  intro e
  rw [ByteArray.toList_eq, ByteArray.toList_eq] at e
  apply h
  obtain ⟨⟨x⟩⟩ := a
  obtain ⟨⟨y⟩⟩ := b
  have : x = y := e
  rw [this]
theorem epochR_take (f : Int) (l : List RecT) (k : Nat) (r : RecT) (h : l[k]? = some r) : epochR f (l.take (k + 1)) = if r.kind = 1 then epochR f (l.take k) + 1 else epochR f (l.take k) := by
  rw [epochR, List.take_add_one, h, List.foldl_append]; rfl
theorem epochR_le (f : Int) (l : List RecT) : f ≤ epochR f l ∧ epochR f l ≤ f + l.length := by
  refine rsnoc (Q := fun l => f ≤ epochR f l ∧ epochR f l ≤ f + l.length) ⟨Int.le_refl _, by simp [epochR]⟩ (fun l r ih => ?_) l
  have e : epochR f (l ++ [r]) = if r.kind = 1 then epochR f l + 1 else epochR f l := by simp [epochR]
  rw [e]
  simp only [List.length_append, List.length_cons, List.length_nil]
  split <;> omega
theorem untilR_take (t : Int) (l : List RecT) (k : Nat) (r : RecT) (h : l[k]? = some r) : untilR (l.take (k + 1)) t = if r.kind = 2 ∧ r.target = t then r.till else untilR (l.take k) t := by
  rw [untilR, List.take_add_one, h, List.foldl_append]; rfl
theorem holdR_take (s : ByteArray) (l : List RecT) (k : Nat) (r : RecT) (h : l[k]? = some r) : holdR (l.take (k + 1)) s = holdStep s (holdR (l.take k) s) r := by
  rw [holdR, List.take_add_one, h, List.foldl_append]; rfl
theorem goneR_take (t : Int) (l : List RecT) (k : Nat) (r : RecT) (h : l[k]? = some r) : goneR (l.take (k + 1)) t = (goneR (l.take k) t || decide (r.kind = 5 ∧ r.target = t)) := by
  rw [goneR, List.take_add_one, h, List.any_append]; simp [goneR]
theorem goneR_at (t : Int) (l : List RecT) (k : Nat) (r : RecT) (h : l[k]? = some r) (h2 : r.kind = 5 ∧ r.target = t) : goneR l t = true := by
  unfold goneR
  rw [List.any_eq_true]
  exact ⟨r, List.mem_of_getElem? h, decide_eq_true h2⟩
end Ks
namespace Go.Proofs.YtnkiokaeooopgaaGreat
open Go.RowKit Ks
set_option linter.unusedVariables false
set_option linter.unusedSimpArgs false
/-- the document's book in memory -/
structure BkR (w : World) (b o : Nat) (f : Int) (v : Value) (l : List RecT) : Prop where
  c0 : w.cell? ⟨b, o, none⟩ = some (.int .i64 f)
  c1 : w.cell? ⟨b, o + 1, none⟩ = some v
  rd : Rd recE w v l
theorem BkR.below {w w' : World} {b o : Nat} {f : Int} {v : Value} {l : List RecT} (h : BkR w b o f v l) (hb : Below w.heap.size w w') : BkR w' b o f v l := ⟨(cell_on hb h.c0).1, (cell_on hb h.c1).1, h.rd.below hb⟩
set_option maxRecDepth 100000 in
set_option maxHeartbeats 4000000 in
theorem bkepoch_any {b o : Nat} {f : Int} {v : Value} {l : List RecT} (w : World) (h : BkR w b o f v l) (hl : l.length ≤ 100000) (hf : 0 ≤ f ∧ f ≤ 4294967295) : Calls Tryz.prog 25 #[.pointer (some ⟨b, o, none⟩)] w fun e w' => e = .returned (.int .i64 (epochR f l)) ∧ Below w.heap.size w w' := by
  refine calls_by fun R HR => ?_
  have HB := Lib.hid h
  have HN := Lib.hid hl
  obtain ⟨la, lc, rfl, -⟩ := h.rd.shape
  clear h hl
  have HFf := Lib.hid hf
  clear hf
  have c0 := HB.out.c0
  go_enter Tryz.func25, Tryz.ntmps25
  go_wp2_with fail
  go_loopw [3, 4] (fun n i wx => ∃ k : Nat, k ≤ l.length ∧ n = .int .i64 (epochR f (l.take k)) ∧ i = .int .i64 (k : Int) ∧ Hid (Below w.heap.size w wx)) (fun _ i _ => l.length - (intOf i).toNat)
  case atStart => exact ⟨0, Nat.zero_le _, rfl, rfl, Lib.hid (Below.refl _ _)⟩
  case round =>
    obtain ⟨k, hk, rfl, rfl, hN⟩ := hrel
    clear c0
    have c1 := (cell_on hN.out HB.out.c1).1
    by_cases hlt : k < l.length
    case neg =>
      obtain rfl : k = l.length := by omega
      rw [List.take_length]
      have hki : ¬ (l.length : Int) < (l.length : Int) := by omega
      go_wp2
      exact HR.out _ _ ⟨rfl, hN.out⟩
    have hki : (k : Int) < (l.length : Int) := by omega
    obtain ⟨x, hx⟩ : ∃ x, l[k]? = some x := ⟨_, List.getElem?_eq_getElem hlt⟩
    obtain ⟨bb, oo, ha, hb0, dd⟩ := (HB.out.rd.below hN.out).at k x hx
    cases ha
    have HX := Lib.hid hx
    have d0 : wr.cell? ⟨bb, oo + k * 8, none⟩ = some (.int .i64 x.kind) := dd 0 _ rfl
    have d4 : wr.cell? ⟨bb, oo + k * 8 + 4, none⟩ = some (.int .i64 x.target) := dd 4 _ rfl
    have d5 : wr.cell? ⟨bb, oo + k * 8 + 5, none⟩ = some (.int .i64 x.till) := dd 5 _ rfl
    have d7 : wr.cell? ⟨bb, oo + k * 8 + 7, none⟩ = some (.string x.name) := dd 7 _ rfl
    clear dd hx hb0
    have hw64 : wrap64 ((k : Int) + 1) = ((k + 1 : Nat) : Int) := by have := HN.out; unfold wrap64; omega
    have HT := Lib.hid (epochR_take f l k x HX.out)
    have hle := epochR_le f (l.take k)
    have hw := HFf.out
    have hlen := HN.out
    have hew : wrap64 (epochR f (l.take k) + 1) = epochR f (l.take k) + 1 := by rw [List.length_take] at hle; unfold wrap64; omega
    clear hle hw hlen
    generalize epochR f (l.take k) = E at *
    by_cases k1 : x.kind = 1
    · have HE := Lib.hid (show epochR f (l.take (k + 1)) = E + 1 by rw [HT.out, if_pos k1])
      have k1b : (x.kind == 1) = true := by simpa using k1
      clear k1
      go_wp2
      go_roundw
      case rel => exact ⟨k + 1, by omega, by rw [HE.out, hew], by first | rw [hw64] | go_num, hN⟩
      case measure => first | (rw [hw64]; simp [intOf]; omega) | (simp [intOf]; omega)
    · have HE := Lib.hid (show epochR f (l.take (k + 1)) = E by rw [HT.out, if_neg k1])
      have k1b : (x.kind == 1) = false := by simpa using k1
      clear k1
      go_wp2
      go_roundw
      case rel => exact ⟨k + 1, by omega, by rw [HE.out], by first | rw [hw64] | go_num, hN⟩
      case measure => first | (rw [hw64]; simp [intOf]; omega) | (simp [intOf]; omega)
set_option maxRecDepth 100000 in
set_option maxHeartbeats 4000000 in
theorem bkuntil_any {b o : Nat} {f : Int} {v : Value} {l : List RecT} (t : Int) (w : World) (h : BkR w b o f v l) (hl : l.length ≤ 100000) : Calls Tryz.prog 59 #[.pointer (some ⟨b, o, none⟩), .int .i64 t] w fun e w' => e = .returned (.int .i64 (untilR l t)) ∧ Below w.heap.size w w' := by
  refine calls_by fun R HR => ?_
  have HB := Lib.hid h
  have HN := Lib.hid hl
  obtain ⟨la, lc, rfl, -⟩ := h.rd.shape
  clear h hl
  go_enter Tryz.func59, Tryz.ntmps59
  go_wp2_with fail
  go_loopw [5, 6] (fun n i wx => ∃ k : Nat, k ≤ l.length ∧ n = .int .i64 (untilR (l.take k) t) ∧ i = .int .i64 (k : Int) ∧ Hid (Below w.heap.size w wx)) (fun _ i _ => l.length - (intOf i).toNat)
  case atStart => exact ⟨0, Nat.zero_le _, rfl, rfl, Lib.hid (Below.refl _ _)⟩
  case round =>
    obtain ⟨k, hk, rfl, rfl, hN⟩ := hrel
    have c1 := (cell_on hN.out HB.out.c1).1
    by_cases hlt : k < l.length
    case neg =>
      obtain rfl : k = l.length := by omega
      rw [List.take_length]
      have hki : ¬ (l.length : Int) < (l.length : Int) := by omega
      go_wp2
      exact HR.out _ _ ⟨rfl, hN.out⟩
    have hki : (k : Int) < (l.length : Int) := by omega
    obtain ⟨x, hx⟩ : ∃ x, l[k]? = some x := ⟨_, List.getElem?_eq_getElem hlt⟩
    obtain ⟨bb, oo, ha, hb0, dd⟩ := (HB.out.rd.below hN.out).at k x hx
    cases ha
    have HX := Lib.hid hx
    have d0 : wr.cell? ⟨bb, oo + k * 8, none⟩ = some (.int .i64 x.kind) := dd 0 _ rfl
    have d4 : wr.cell? ⟨bb, oo + k * 8 + 4, none⟩ = some (.int .i64 x.target) := dd 4 _ rfl
    have d5 : wr.cell? ⟨bb, oo + k * 8 + 5, none⟩ = some (.int .i64 x.till) := dd 5 _ rfl
    have d7 : wr.cell? ⟨bb, oo + k * 8 + 7, none⟩ = some (.string x.name) := dd 7 _ rfl
    clear dd hx hb0
    have hw64 : wrap64 ((k : Int) + 1) = ((k + 1 : Nat) : Int) := by have := HN.out; unfold wrap64; omega
    have HT := Lib.hid (untilR_take t l k x HX.out)
    generalize untilR (l.take k) t = E at *
    by_cases k1 : x.kind = 2
    case neg =>
      have HE := Lib.hid (show untilR (l.take (k + 1)) t = E by rw [HT.out, if_neg (fun q => k1 q.1)])
      have k1b : (x.kind == 2) = false := by simpa using k1
      clear k1
      go_wp2
      go_roundw
      case rel => exact ⟨k + 1, by omega, by rw [HE.out], by first | rw [hw64] | go_num, hN⟩
      case measure => first | (rw [hw64]; simp [intOf]; omega) | (simp [intOf]; omega)
    have k1b : (x.kind == 2) = true := by simpa using k1
    by_cases k2 : x.target = t
    · have HE := Lib.hid (show untilR (l.take (k + 1)) t = x.till by rw [HT.out, if_pos ⟨k1, k2⟩])
      have k2b : (x.target == t) = true := by simpa using k2
      clear k1 k2
      go_wp2
      go_roundw
      case rel => exact ⟨k + 1, by omega, by rw [HE.out], by first | rw [hw64] | go_num, hN⟩
      case measure => first | (rw [hw64]; simp [intOf]; omega) | (simp [intOf]; omega)
    · have HE := Lib.hid (show untilR (l.take (k + 1)) t = E by rw [HT.out, if_neg (fun q => k2 q.2)])
      have k2b : (x.target == t) = false := by simpa using k2
      clear k1 k2
      go_wp2
      go_roundw
      case rel => exact ⟨k + 1, by omega, by rw [HE.out], by first | rw [hw64] | go_num, hN⟩
      case measure => first | (rw [hw64]; simp [intOf]; omega) | (simp [intOf]; omega)
set_option maxRecDepth 100000 in
set_option maxHeartbeats 4000000 in
theorem bkgone_any {b o : Nat} {f : Int} {v : Value} {l : List RecT} (t : Int) (w : World) (h : BkR w b o f v l) (hl : l.length ≤ 100000) : Calls Tryz.prog 36 #[.pointer (some ⟨b, o, none⟩), .int .i64 t] w fun e w' => e = .returned (.bool (goneR l t)) ∧ Below w.heap.size w w' := by
  refine calls_by fun R HR => ?_
  have HB := Lib.hid h
  have HN := Lib.hid hl
  obtain ⟨la, lc, rfl, -⟩ := h.rd.shape
  clear h hl
  go_enter Tryz.func36, Tryz.ntmps36
  go_wp2_with fail
  go_loopw [5] (fun i wx => ∃ k : Nat, k ≤ l.length ∧ goneR (l.take k) t = false ∧ i = .int .i64 (k : Int) ∧ Hid (Below w.heap.size w wx)) (fun i _ => l.length - (intOf i).toNat)
  case atStart => exact ⟨0, Nat.zero_le _, rfl, rfl, Lib.hid (Below.refl _ _)⟩
  case round =>
    obtain ⟨k, hk, hgo, rfl, hN⟩ := hrel
    have HG := Lib.hid hgo
    clear hgo
    have c1 := (cell_on hN.out HB.out.c1).1
    by_cases hlt : k < l.length
    case neg =>
      obtain rfl : k = l.length := by omega
      have HG2 := HG.out
      rw [List.take_length] at HG2
      have HZ := Lib.hid HG2
      clear HG2 HG
      have hki : ¬ (l.length : Int) < (l.length : Int) := by omega
      go_wp2
      exact HR.out _ _ ⟨by rw [HZ.out], hN.out⟩
    have hki : (k : Int) < (l.length : Int) := by omega
    obtain ⟨x, hx⟩ : ∃ x, l[k]? = some x := ⟨_, List.getElem?_eq_getElem hlt⟩
    obtain ⟨bb, oo, ha, hb0, dd⟩ := (HB.out.rd.below hN.out).at k x hx
    cases ha
    have HX := Lib.hid hx
    have d0 : wr.cell? ⟨bb, oo + k * 8, none⟩ = some (.int .i64 x.kind) := dd 0 _ rfl
    have d4 : wr.cell? ⟨bb, oo + k * 8 + 4, none⟩ = some (.int .i64 x.target) := dd 4 _ rfl
    have d5 : wr.cell? ⟨bb, oo + k * 8 + 5, none⟩ = some (.int .i64 x.till) := dd 5 _ rfl
    have d7 : wr.cell? ⟨bb, oo + k * 8 + 7, none⟩ = some (.string x.name) := dd 7 _ rfl
    clear dd hx hb0
    have hw64 : wrap64 ((k : Int) + 1) = ((k + 1 : Nat) : Int) := by have := HN.out; unfold wrap64; omega
    have HT := Lib.hid (goneR_take t l k x HX.out)
    by_cases k1 : x.kind = 5
    case neg =>
      have HE := Lib.hid (show goneR (l.take (k + 1)) t = false by rw [HT.out, HG.out, decide_eq_false (fun q => k1 q.1)]; rfl)
      have k1b : (x.kind == 5) = false := by simpa using k1
      clear k1
      go_wp2
      go_roundw
      case rel => exact ⟨k + 1, by omega, HE.out, by first | rw [hw64] | go_num, hN⟩
      case measure => first | (rw [hw64]; simp [intOf]; omega) | (simp [intOf]; omega)
    have k1b : (x.kind == 5) = true := by simpa using k1
    by_cases k2 : x.target = t
    · have HE := Lib.hid (goneR_at t l k x HX.out ⟨k1, k2⟩)
      have k2b : (x.target == t) = true := by simpa using k2
      clear k1 k2
      go_wp2
      exact HR.out _ _ ⟨by rw [HE.out]; rfl, hN.out⟩
    · have HE := Lib.hid (show goneR (l.take (k + 1)) t = false by rw [HT.out, HG.out, decide_eq_false (fun q => k2 q.2)]; rfl)
      have k2b : (x.target == t) = false := by simpa using k2
      clear k1 k2
      go_wp2
      go_roundw
      case rel => exact ⟨k + 1, by omega, HE.out, by first | rw [hw64] | go_num, hN⟩
      case measure => first | (rw [hw64]; simp [intOf]; omega) | (simp [intOf]; omega)
set_option maxRecDepth 100000 in
set_option maxHeartbeats 4000000 in
theorem bkhold_any {b o : Nat} {f : Int} {v : Value} {l : List RecT} (s : ByteArray) (w : World) (h : BkR w b o f v l) (hl : l.length ≤ 100000) : Calls Tryz.prog 82 #[.pointer (some ⟨b, o, none⟩), .string s] w fun e w' => e = .returned (.int .i64 (holdR l s)) ∧ Below w.heap.size w w' := by
  refine calls_by fun R HR => ?_
  have HB := Lib.hid h
  have HN := Lib.hid hl
  obtain ⟨la, lc, rfl, -⟩ := h.rd.shape
  clear h hl
  go_enter Tryz.func82, Tryz.ntmps82
  go_wp2_with fail
  go_loopw [5, 6] (fun n i wx => ∃ k : Nat, k ≤ l.length ∧ n = .int .i64 (holdR (l.take k) s) ∧ i = .int .i64 (k : Int) ∧ Hid (Below w.heap.size w wx)) (fun _ i _ => l.length - (intOf i).toNat)
  case atStart => exact ⟨0, Nat.zero_le _, rfl, rfl, Lib.hid (Below.refl _ _)⟩
  case round =>
    obtain ⟨k, hk, rfl, rfl, hN⟩ := hrel
    have c1 := (cell_on hN.out HB.out.c1).1
    by_cases hlt : k < l.length
    case neg =>
      obtain rfl : k = l.length := by omega
      rw [List.take_length]
      have hki : ¬ (l.length : Int) < (l.length : Int) := by omega
      go_wp2
      exact HR.out _ _ ⟨rfl, hN.out⟩
    have hki : (k : Int) < (l.length : Int) := by omega
    obtain ⟨x, hx⟩ : ∃ x, l[k]? = some x := ⟨_, List.getElem?_eq_getElem hlt⟩
    obtain ⟨bb, oo, ha, hb0, dd⟩ := (HB.out.rd.below hN.out).at k x hx
    cases ha
    have HX := Lib.hid hx
    have d0 : wr.cell? ⟨bb, oo + k * 8, none⟩ = some (.int .i64 x.kind) := dd 0 _ rfl
    have d4 : wr.cell? ⟨bb, oo + k * 8 + 4, none⟩ = some (.int .i64 x.target) := dd 4 _ rfl
    have d5 : wr.cell? ⟨bb, oo + k * 8 + 5, none⟩ = some (.int .i64 x.till) := dd 5 _ rfl
    have d7 : wr.cell? ⟨bb, oo + k * 8 + 7, none⟩ = some (.string x.name) := dd 7 _ rfl
    clear dd hx hb0
    have hw64 : wrap64 ((k : Int) + 1) = ((k + 1 : Nat) : Int) := by have := HN.out; unfold wrap64; omega
    have HT := Lib.hid (holdR_take s l k x HX.out)
    generalize holdR (l.take k) s = E at *
    by_cases k1 : x.kind = 3
    · have k1b : (x.kind == 3) = true := by simpa using k1
      have k4b : (x.kind == 4) = false := by rw [k1]; rfl
      by_cases k2 : x.name = s
      · have HE := Lib.hid (show holdR (l.take (k + 1)) s = x.target by rw [HT.out, holdStep, if_neg (fun q => by omega), if_pos ⟨k1, k2⟩])
        have k2b : (x.name.toList == s.toList) = true := by rw [k2]; simp
        clear k1 k2
        go_wp2
        go_roundw
        case rel => exact ⟨k + 1, by omega, by rw [HE.out], by first | rw [hw64] | go_num, hN⟩
        case measure => first | (rw [hw64]; simp [intOf]; omega) | (simp [intOf]; omega)
      · have HE := Lib.hid (show holdR (l.take (k + 1)) s = E by rw [HT.out, holdStep, if_neg (fun q => k2 q.2), if_neg (fun q => k2 q.2)])
        have k2b : (x.name.toList == s.toList) = false := rb_ne k2
        clear k1 k2
        go_wp2
        go_roundw
        case rel => exact ⟨k + 1, by omega, by rw [HE.out], by first | rw [hw64] | go_num, hN⟩
        case measure => first | (rw [hw64]; simp [intOf]; omega) | (simp [intOf]; omega)
    have k1b : (x.kind == 3) = false := by simpa using k1
    by_cases k4 : x.kind = 4
    · have k4b : (x.kind == 4) = true := by simpa using k4
      by_cases k2 : x.name = s
      · have HE := Lib.hid (show holdR (l.take (k + 1)) s = -1 by rw [HT.out, holdStep, if_pos ⟨k4, k2⟩])
        have k2b : (x.name.toList == s.toList) = true := by rw [k2]; simp
        clear k1 k2 k4
        go_wp2
        go_roundw
        case rel => exact ⟨k + 1, by omega, by rw [HE.out], by first | rw [hw64] | go_num, hN⟩
        case measure => first | (rw [hw64]; simp [intOf]; omega) | (simp [intOf]; omega)
      · have HE := Lib.hid (show holdR (l.take (k + 1)) s = E by rw [HT.out, holdStep, if_neg (fun q => k2 q.2), if_neg (fun q => k2 q.2)])
        have k2b : (x.name.toList == s.toList) = false := rb_ne k2
        clear k1 k2 k4
        go_wp2
        go_roundw
        case rel => exact ⟨k + 1, by omega, by rw [HE.out], by first | rw [hw64] | go_num, hN⟩
        case measure => first | (rw [hw64]; simp [intOf]; omega) | (simp [intOf]; omega)
    · have HE := Lib.hid (show holdR (l.take (k + 1)) s = E by rw [HT.out, holdStep, if_neg (fun q => k4 q.1), if_neg (fun q => k1 q.1)])
      have k4b : (x.kind == 4) = false := by simpa using k4
      clear k1 k4
      go_wp2
      go_roundw
      case rel => exact ⟨k + 1, by omega, by rw [HE.out], by first | rw [hw64] | go_num, hN⟩
      case measure => first | (rw [hw64]; simp [intOf]; omega) | (simp [intOf]; omega)
set_option maxRecDepth 100000 in
set_option maxHeartbeats 4000000 in
theorem bknow_any {b o : Nat} {f : Int} {v : Value} {l : List RecT} (w : World) (h : BkR w b o f v l) (hl : l.length ≤ 100000) : Calls Tryz.prog 81 #[.pointer (some ⟨b, o, none⟩)] w fun e w' => e = .returned (.int .i64 (nowR l)) ∧ Below w.heap.size w w' := by
  refine calls_by fun R HR => ?_
  have HB := Lib.hid h
  have HN := Lib.hid hl
  obtain ⟨la, lc, rfl, -⟩ := h.rd.shape
  clear h hl
  by_cases h0 : l = []
  · subst h0
    have c1 := HB.out.c1
    have HZ : Hid (nowR ([] : List RecT) = 0) := Lib.hid rfl
    go_enter Tryz.func81, Tryz.ntmps81
    go_wp2
    exact HR.out _ _ ⟨by rw [HZ.out] <;> rfl, Below.refl _ _⟩
  have hpos : 0 < l.length := List.length_pos_iff.2 h0
  obtain ⟨x, hx⟩ : ∃ x, l[l.length - 1]? = some x := ⟨_, List.getElem?_eq_getElem (by omega)⟩
  have HV : Hid (nowR l = x.time) := Lib.hid (by unfold nowR; rw [List.getLast?_eq_getElem?, hx])
  have c1 := HB.out.c1
  obtain ⟨bb, oo, ha, hb0, dd⟩ := HB.out.rd.at _ x hx
  cases ha
  have d2 : w.cell? ⟨bb, oo + (l.length - 1) * 8 + 2, none⟩ = some (.int .i64 x.time) := dd 2 _ rfl
  have hlz : ((l.length : Int) == 0) = false := by simp; omega
  have hwl : wrap64 ((l.length : Int) - 1) = ((l.length - 1 : Nat) : Int) := by have := HN.out; unfold wrap64; omega
  have hwl2 : ((l.length - 1 : Nat) : Int) < (l.length : Int) := by omega
  clear dd hx hb0
  generalize l.length - 1 = q at *
  have g1 := fun p => after_cell c1 p
  have g2 := fun p => after_cell d2 p
  go_enter Tryz.func81, Tryz.ntmps81
  go_upto_region 3 with fail
  refine wp_region_after (by kernel_rfl) (by kernel_rfl) ?_
  repeat (go_big_quiet_step (fail))
  refine wpQuiet_nil ?_
  rintro q1 ⟨p9, rfl⟩
  have hb := after_below w p9
  have HZ := Lib.hid hb
  clear hb
  go_wp2
  exact HR.out _ _ ⟨by rw [HV.out] <;> rfl, HZ.out⟩
end Go.Proofs.YtnkiokaeooopgaaGreat
/- The document's book: the names that hold something. -/
set_option maxRecDepth 100000
namespace Ks
open Go Go.RowKit
/-- the names of the first so many records -/
structure NInv (l : List RecT) (k : Nat) (N : List ByteArray) : Prop where
  nd : N.Nodup
  mem : ∀ s, s ∈ N ↔ 0 ≤ holdR l s ∧ ∃ j r, j < k ∧ l[j]? = some r ∧ r.kind = 3 ∧ r.name = s
  len : N.length ≤ k
theorem NInv.zero (l : List RecT) : NInv l 0 [] := ⟨List.nodup_nil, fun s => ⟨fun h => by simp at h, fun ⟨_, j, r, h, _⟩ => by omega⟩, Nat.le_refl _⟩
theorem NInv.skip {l : List RecT} {k : Nat} {N : List ByteArray} {x : RecT} (h : NInv l k N) (hx : l[k]? = some x) (hs : x.kind ≠ 3 ∨ holdR l x.name < 0 ∨ x.name ∈ N) : NInv l (k + 1) N := by
  refine ⟨h.nd, fun s => ?_, by have := h.len; omega⟩
  rw [h.mem]
  constructor
  · rintro ⟨h1, j, r, h2, h3⟩; exact ⟨h1, j, r, by omega, h3⟩
  · rintro ⟨h1, j, r, h2, h3, h4, h5⟩
    refine ⟨h1, ?_⟩
    by_cases e : j = k
    · subst e
      rw [hx] at h3
      cases h3
      rcases hs with q | q | q
      · exact absurd h4 q
      · rw [h5] at q; omega
      · rw [h5] at q; exact ((h.mem s).1 q).2
    · exact ⟨j, r, by omega, h3, h4, h5⟩
theorem NInv.put {l : List RecT} {k : Nat} {N N' : List ByteArray} {x : RecT} (h : NInv l k N) (hx : l[k]? = some x) (h1 : x.kind = 3) (h2 : ¬ holdR l x.name < 0) (h3 : x.name ∉ N) (hp : N'.Perm (N ++ [x.name])) : NInv l (k + 1) N' := by
  refine ⟨hp.nodup_iff.2 ?_, fun s => ?_, by rw [hp.length_eq]; have := h.len; simp; omega⟩
  · rw [List.nodup_append]
    refine ⟨h.nd, by simp, fun a ha b hb => ?_⟩
    rw [List.mem_singleton] at hb
    subst hb
    exact fun e => h3 (e ▸ ha)
  · rw [hp.mem_iff, List.mem_append, List.mem_singleton, h.mem]
    constructor
    · rintro (⟨q1, j, r, q2, q3⟩ | rfl)
      · exact ⟨q1, j, r, by omega, q3⟩
      · exact ⟨by omega, k, x, by omega, hx, h1, rfl⟩
    · rintro ⟨q1, j, r, q2, q3, q4, q5⟩
      by_cases e : j = k
      · subst e
        rw [hx] at q3
        cases q3
        exact Or.inr q5.symm
      · exact Or.inl ⟨q1, j, r, by omega, q3, q4, q5⟩
theorem hold_has (s : ByteArray) (l : List RecT) : 0 ≤ holdR l s → ∃ j r, j < l.length ∧ l[j]? = some r ∧ r.kind = 3 ∧ r.name = s := by
  refine rsnoc (Q := fun l => 0 ≤ holdR l s → ∃ j r, j < l.length ∧ l[j]? = some r ∧ r.kind = 3 ∧ r.name = s) (fun h => by simp [holdR] at h) (fun l r ih h => ?_) l
  have e : holdR (l ++ [r]) s = holdStep s (holdR l s) r := by simp [holdR]
  rw [e] at h
  by_cases k3 : r.kind = 3 ∧ r.name = s
  · exact ⟨l.length, r, by simp, by simp, k3⟩
  · have h2 : 0 ≤ holdR l s := by
      unfold holdStep at h
      by_cases k4 : r.kind = 4 ∧ r.name = s
      · rw [if_pos k4] at h; omega
      · rw [if_neg k4, if_neg k3] at h; exact h
    obtain ⟨j, x, q1, q2, q3⟩ := ih h2
    exact ⟨j, x, by simp; omega, by rw [List.getElem?_append_left q1]; exact q2, q3⟩
theorem NInv.all {l : List RecT} {N : List ByteArray} (h : NInv l l.length N) : NamesR l N := ⟨h.nd, fun s => by
  rw [h.mem]
  exact ⟨fun q => q.1, fun q => ⟨q, hold_has s l q⟩⟩⟩
/-- a row with a name put into it, as far as it was gone through -/
def PInv (N : List ByteArray) (q : Nat) (nm : ByteArray) (pt : Bool) (M : List ByteArray) : Prop := M.Perm (N.take q ++ if pt then [nm] else [])
theorem PInv.next {N : List ByteArray} {q : Nat} {nm x : ByteArray} {pt : Bool} {M : List ByteArray} (h : PInv N q nm pt M) (hx : N[q]? = some x) : PInv N (q + 1) nm pt (M ++ [x]) := by
  unfold PInv at h ⊢
  rw [List.take_add_one, hx]
  refine (List.Perm.append_right [x] h).trans ?_
  simp only [Option.toList_some, List.append_assoc]
  exact List.Perm.append_left _ List.perm_append_comm
theorem PInv.mark {N : List ByteArray} {q : Nat} {nm : ByteArray} {M : List ByteArray} (h : PInv N q nm false M) : PInv N q nm true (M ++ [nm]) := by
  unfold PInv at h ⊢
  simp only [Bool.false_eq_true, if_false, List.append_nil, if_true] at h ⊢
  exact List.Perm.append_right [nm] h
theorem PInv.all {N : List ByteArray} {nm : ByteArray} {M : List ByteArray} (h : PInv N N.length nm true M) : M.Perm (N ++ [nm]) := by
  unfold PInv at h
  rwa [List.take_length, if_pos rfl] at h
theorem PInv.len {N : List ByteArray} {q : Nat} {nm : ByteArray} {pt : Bool} {M : List ByteArray} (h : PInv N q nm pt M) : M.length ≤ N.length + 1 := by
  unfold PInv at h
  rw [h.length_eq, List.length_append, List.length_take]
  split <;> simp <;> omega
end Ks
namespace Go.Proofs.YtnkiokaeooopgaaGreat
open Go.RowKit Ks
set_option linter.unusedVariables false
set_option linter.unusedSimpArgs false
theorem strTR : ElemT Tryz.prog 102 9 strE.k 16 := elemT_of Tryz.underlying102 (by kernel_rfl : (Tryz.prog.info? 9).map (fun i => (i.zero, i.size, i.bytes)) = some (some (.string ⟨#[]⟩), 1, 16)) rfl
set_option maxRecDepth 100000 in
set_option maxHeartbeats 4000000 in
theorem rin_any (vl : Value) (l : List ByteArray) (s : ByteArray) (w : World) (h : Rd strE w vl l) (hl : l.length ≤ 100000) : Calls Tryz.prog 84 #[vl, .string s] w fun e w' => ∃ z : Bool, e = .returned (.bool z) ∧ (z = true ↔ s ∈ l) ∧ Below w.heap.size w w' := by
  refine calls_by fun R HR => ?_
  have HB := Lib.hid h
  have HN := Lib.hid hl
  obtain ⟨la, lc, rfl, -⟩ := h.shape
  clear h hl
  go_enter Tryz.func84, Tryz.ntmps84
  go_wp2_with fail
  go_loopw [5] (fun i wx => ∃ k : Nat, k ≤ l.length ∧ ¬ s ∈ l.take k ∧ i = .int .i64 (k : Int) ∧ Hid (Below w.heap.size w wx)) (fun i _ => l.length - (intOf i).toNat)
  case atStart => exact ⟨0, Nat.zero_le _, by simp, rfl, Lib.hid (Below.refl _ _)⟩
  case round =>
    obtain ⟨k, hk, hgo, rfl, hN⟩ := hrel
    have HG := Lib.hid hgo
    clear hgo
    by_cases hlt : k < l.length
    case neg =>
      obtain rfl : k = l.length := by omega
      have HG2 := HG.out
      rw [List.take_length] at HG2
      have HZ := Lib.hid HG2
      clear HG2 HG
      have hki : ¬ (l.length : Int) < (l.length : Int) := by omega
      go_wp2
      exact HR.out _ _ ⟨false, rfl, ⟨(fun q => by cases q), (fun q => absurd q HZ.out)⟩, hN.out⟩
    have hki : (k : Int) < (l.length : Int) := by omega
    obtain ⟨bb, oo, ha, hb0, d0⟩ := (HB.out.below hN.out).str k hlt
    cases ha
    have HX := Lib.hid (show l[k]? = some l[k] from List.getElem?_eq_getElem hlt)
    generalize l[k] = x at *
    have hw64 : wrap64 ((k : Int) + 1) = ((k + 1 : Nat) : Int) := by have := HN.out; unfold wrap64; omega
    by_cases k1 : x = s
    · have HE := Lib.hid (show s ∈ l from k1 ▸ List.mem_of_getElem? HX.out)
      have k1b : (x.toList == s.toList) = true := by rw [k1]; simp
      clear k1
      go_wp2
      exact HR.out _ _ ⟨true, rfl, ⟨(fun _ => HE.out), (fun _ => rfl)⟩, hN.out⟩
    · have HE := Lib.hid (show ¬ s ∈ l.take (k + 1) by
        rw [List.take_add_one, HX.out, List.mem_append]
        rintro (q | q)
        · exact HG.out q
        · simp at q; exact k1 q.symm)
      have k1b : (x.toList == s.toList) = false := rb_ne k1
      clear k1
      go_wp2
      go_roundw
      case rel => exact ⟨k + 1, by omega, HE.out, by first | rw [hw64] | go_num, hN⟩
      case measure => first | (rw [hw64]; simp [intOf]; omega) | (simp [intOf]; omega)
set_option maxRecDepth 100000 in
set_option maxHeartbeats 8000000 in
theorem bknames_any {b o : Nat} {f : Int} {v : Value} {l : List RecT} (w : World) (h : BkR w b o f v l) (hl : l.length ≤ 100000) : Calls Tryz.prog 60 #[.pointer (some ⟨b, o, none⟩)] w fun e w' => ∃ vn N, e = .returned vn ∧ Rd strE w' vn N ∧ NamesR l N ∧ N.length ≤ l.length ∧ Below w.heap.size w w' := by
  refine calls_by fun R HR => ?_
  have HB := Lib.hid h
  have HN := Lib.hid hl
  obtain ⟨la, lc, rfl, -⟩ := h.rd.shape
  have HHo := Lib.hid (fun (A : World) (q : Below w.heap.size w A) s => bkhold_any s A (h.below q) hl)
  clear h hl
  go_enter Tryz.func60, Tryz.ntmps60
  go_wp2_with fail
  go_loopw [3, 4] (fun vo i wx => ∃ (k : Nat) (N : List ByteArray) (vq : Value), k ≤ l.length ∧ vq = vo ∧ i = .int .i64 (k : Int) ∧ Hid (Row strE wx w.heap.size 9 vo N ∧ Below w.heap.size w wx ∧ NInv l k N)) (fun _ i _ => l.length - (intOf i).toNat)
  case atStart => exact ⟨0, [], _, Nat.zero_le _, rfl, rfl, Lib.hid ⟨Row.nil _ _ _, Below.refl _ _, NInv.zero l⟩⟩
  case round =>
    obtain ⟨k, N, vq, hk, rfl, rfl, hN⟩ := hrel
    have c1 := (cell_on hN.out.2.1 HB.out.c1).1
    by_cases hlt : k < l.length
    case neg =>
      obtain rfl : k = l.length := by omega
      have hki : ¬ (l.length : Int) < (l.length : Int) := by omega
      go_wp2
      exact HR.out _ _ ⟨_, N, rfl, hN.out.1.rd, hN.out.2.2.all, hN.out.2.2.len, hN.out.2.1⟩
    have hki : (k : Int) < (l.length : Int) := by omega
    have hw64 : wrap64 ((k : Int) + 1) = ((k + 1 : Nat) : Int) := by have := HN.out; unfold wrap64; omega
    have HLT := Lib.hid hlt
    obtain ⟨x, hx⟩ : ∃ x, l[k]? = some x := ⟨_, List.getElem?_eq_getElem hlt⟩
    obtain ⟨bb, oo, ha, hb0, dd⟩ := (HB.out.rd.below hN.out.2.1).at k x hx
    cases ha
    have HX := Lib.hid hx
    have d0 : wr.cell? ⟨bb, oo + k * 8, none⟩ = some (.int .i64 x.kind) := dd 0 _ rfl
    have d7 : wr.cell? ⟨bb, oo + k * 8 + 7, none⟩ = some (.string x.name) := dd 7 _ rfl
    clear dd hx hb0 hlt
    by_cases k1 : x.kind = 3
    case neg =>
      have k1b : (x.kind != 3) = true := by simpa using k1
      have HZ := Lib.hid (hN.out.2.2.skip HX.out (Or.inl k1))
      clear k1
      go_wp2
      go_roundw
      case rel => exact ⟨k + 1, N, _, by have := HLT.out; omega, rfl, by first | rw [hw64] | go_num, Lib.hid ⟨hN.out.1, hN.out.2.1, HZ.out⟩⟩
      case measure => have := HLT.out; first | (rw [hw64]; simp [intOf]; omega) | (simp [intOf]; omega)
    have k1b : (x.kind != 3) = false := by rw [k1]; rfl
    have HK1 := Lib.hid k1
    clear k1
    obtain ⟨an, cn, hvq, -⟩ := hN.out.1.rd.shape
    subst hvq
    go_wp2_with fail
    refine (HHo.out wr hN.out.2.1 x.name).mono ?_
    rintro en u1 ⟨rfl, hb⟩
    have H1 := Lib.hid (show Row strE u1 w.heap.size 9 (.slice an N.length cn) N ∧ Below w.heap.size w u1 from ⟨hN.out.1.below hb, hN.out.2.1.trans (hb.mono hN.out.2.1.size)⟩)
    have HIv := Lib.hid hN.out.2.2
    clear hb hN c1 d0 d7
    have c1 := (cell_on H1.out.2 HB.out.c1).1
    by_cases hh : holdR l x.name < 0
    case pos =>
      have HZ := Lib.hid (HIv.out.skip HX.out (Or.inr (Or.inl hh)))
      generalize holdR l x.name = HV at *
      go_wp2
      go_roundw
      case rel => exact ⟨k + 1, N, _, by have := HLT.out; omega, rfl, by first | rw [hw64] | go_num, Lib.hid ⟨H1.out.1, H1.out.2, HZ.out⟩⟩
      case measure => have := HLT.out; first | (rw [hw64]; simp [intOf]; omega) | (simp [intOf]; omega)
    have HH := Lib.hid hh
    have hNl : N.length ≤ 100000 := by have := HIv.out.len; have := HLT.out; have := HN.out; omega
    have HIn := Lib.hid (rin_any (.slice an N.length cn) N x.name u1 H1.out.1.rd hNl)
    generalize holdR l x.name = HV at hh
    go_wp2_with fail
    refine HIn.out.mono ?_
    rintro en u2 ⟨z, rfl, hz, hb⟩
    have H2 := Lib.hid (show Row strE u2 w.heap.size 9 (.slice an N.length cn) N ∧ Below w.heap.size w u2 from ⟨H1.out.1.below hb, H1.out.2.trans (hb.mono H1.out.2.size)⟩)
    have HZ9 := Lib.hid hz
    clear hb hz c1 HIn H1
    have c1 := (cell_on H2.out.2 HB.out.c1).1
    cases z with
    | true =>
      have HZ := Lib.hid (HIv.out.skip HX.out (Or.inr (Or.inr (HZ9.out.1 rfl))))
      go_wp2
      go_roundw
      case rel => exact ⟨k + 1, N, _, by have := HLT.out; omega, rfl, by first | rw [hw64] | go_num, Lib.hid ⟨H2.out.1, H2.out.2, HZ.out⟩⟩
      case measure => have := HLT.out; first | (rw [hw64]; simp [intOf]; omega) | (simp [intOf]; omega)
    | false =>
      have HNI := Lib.hid (show x.name ∉ N from fun q => by cases HZ9.out.2 q)
      have HX2 := Lib.hid HX.out
      have hNl64 : ∀ q : Nat, q < N.length → wrap64 ((q : Int) + 1) = ((q + 1 : Nat) : Int) := fun q hq => by unfold wrap64; omega
      have HW6 := Lib.hid hNl64
      have HNl := Lib.hid hNl
      clear hNl64 hNl HZ9 HX
      go_wp2_with fail
      obtain ⟨wo, rfl⟩ : ∃ wo : World, wr = wo := ⟨_, rfl⟩
      go_loopw [6, 7, 8] (fun vm pb i wx => ∃ (q : Nat) (M : List ByteArray) (pt : Bool) (vr : Value), q ≤ N.length ∧ vr = vm ∧ pb = .bool pt ∧ i = .int .i64 (q : Int) ∧ Hid (Row strE wx u2.heap.size 9 vm M ∧ Below u2.heap.size u2 wx ∧ PInv N q x.name pt M)) (fun _ _ i _ => N.length - (intOf i).toNat)
      case atStart => exact ⟨0, [], false, _, Nat.zero_le _, rfl, rfl, rfl, Lib.hid ⟨Row.nil _ _ _, Below.refl _ _, List.Perm.refl _⟩⟩
      case round =>
        obtain ⟨q, M, pt, vr, hq, rfl, rfl, rfl, hM⟩ := hrel
        by_cases hql : q < N.length
        case neg =>
          obtain rfl : q = N.length := by omega
          have hqi : ¬ (N.length : Int) < (N.length : Int) := by omega
          obtain ⟨am, cm, hvr, -⟩ := hM.out.1.rd.shape
          subst hvr
          have HML := Lib.hid hM.out.2.2.len
          have HBW := Lib.hid (H2.out.2.trans (hM.out.2.1.mono H2.out.2.size))
          cases pt with
          | true =>
            have HZ := Lib.hid (HIv.out.put HX2.out HK1.out (by have := HH.out; omega) HNI.out hM.out.2.2.all)
            go_wp2
            go_roundw
            case rel => exact ⟨k + 1, M, _, by have := HLT.out; omega, rfl, by first | rw [hw64] | go_num, Lib.hid ⟨hM.out.1.down H2.out.2.size, HBW.out, HZ.out⟩⟩
            case measure => have := HLT.out; first | (rw [hw64]; simp [intOf]; omega) | (simp [intOf]; omega)
          | false =>
            have HP := Lib.hid hM.out.2.2.mark
            have HZ := Lib.hid (HIv.out.put HX2.out HK1.out (by have := HH.out; omega) HNI.out HP.out.all)
            have hA := alloc_below wr (.cells #[.string (x.name)] 9)
            have hR := hM.out.1.below hA
            have hBB : Below u2.heap.size u2 wr := hM.out.2.1
            have hS : u2.heap.size ≤ (wr.alloc (.cells #[.string (x.name)] 9)).heap.size := Nat.le_trans hBB.size hA.size
            have HAP := Lib.hid (And.intro hA (And.intro hR (And.intro hBB hS)))
            clear hA hR hBB hS
            go_wp2_with (at_builtin; refine wpList_append_row _ rfl _ _ 102 rfl strTR u2.heap.size _ _ (M) [x.name] rfl rfl HAP.out.2.1 (Rd.single (E := strE) (x.name) (alloc_new _ _) rfl) HAP.out.2.2.2 (by have := HML.out; have := HNl.out; simp; omega) (by decide) ?_)
            rintro v6 w6 hg
            have H6 := Lib.hid (show Row strE w6 u2.heap.size 9 v6 ((M) ++ [x.name]) ∧ Below u2.heap.size u2 w6 from ⟨hg.1, hg.below (HAP.out.2.2.1.trans (HAP.out.1.mono HAP.out.2.2.1.size)) HAP.out.2.2.2 (fun b hb => (HAP.out.2.1.lt hb).1)⟩)
            clear hg HAP
            go_wp2
            go_roundw
            case rel => exact ⟨k + 1, M ++ [x.name], _, by have := HLT.out; omega, rfl, by first | rw [hw64] | go_num, Lib.hid ⟨H6.out.1.down H2.out.2.size, H2.out.2.trans (H6.out.2.mono H2.out.2.size), HZ.out⟩⟩
            case measure => have := HLT.out; first | (rw [hw64]; simp [intOf]; omega) | (simp [intOf]; omega)
        have hqi : (q : Int) < (N.length : Int) := by omega
        obtain ⟨bn, on, ha, hb0, e0⟩ := (H2.out.1.rd.below hM.out.2.1).str q hql
        cases ha
        have HY := Lib.hid (show N[q]? = some N[q] from List.getElem?_eq_getElem hql)
        generalize N[q] = y at *
        have hq64 := HW6.out q hql
        have HQL := Lib.hid hql
        obtain ⟨am, cm, hvr, -⟩ := hM.out.1.rd.shape
        subst hvr
        have HML := Lib.hid hM.out.2.2.len
        cases pt with
        | true =>
          have HZ := Lib.hid (hM.out.2.2.next HY.out)
          have hA := alloc_below wr (.cells #[.string (y)] 9)
          have hR := hM.out.1.below hA
          have hBB : Below u2.heap.size u2 wr := hM.out.2.1
          have hS : u2.heap.size ≤ (wr.alloc (.cells #[.string (y)] 9)).heap.size := Nat.le_trans hBB.size hA.size
          have HAP := Lib.hid (And.intro hA (And.intro hR (And.intro hBB hS)))
          clear hA hR hBB hS
          go_wp2_with (at_builtin; refine wpList_append_row _ rfl _ _ 102 rfl strTR u2.heap.size _ _ (M) [y] rfl rfl HAP.out.2.1 (Rd.single (E := strE) (y) (alloc_new _ _) rfl) HAP.out.2.2.2 (by have := HML.out; have := HNl.out; simp; omega) (by decide) ?_)
          rintro v6 w6 hg
          have H6 := Lib.hid (show Row strE w6 u2.heap.size 9 v6 ((M) ++ [y]) ∧ Below u2.heap.size u2 w6 from ⟨hg.1, hg.below (HAP.out.2.2.1.trans (HAP.out.1.mono HAP.out.2.2.1.size)) HAP.out.2.2.2 (fun b hb => (HAP.out.2.1.lt hb).1)⟩)
          clear hg HAP
          go_wp2
          go_roundw
          case rel => exact ⟨q + 1, M ++ [y], true, _, by have := HQL.out; omega, rfl, rfl, by first | rw [hq64] | go_num, Lib.hid ⟨H6.out.1, H6.out.2, HZ.out⟩⟩
          case measure => have := HQL.out; first | (rw [hq64]; simp [intOf]; omega) | (simp [intOf]; omega)
        | false =>
          cases hbl : Op.bytesLess y.toList x.name.toList with
          | true =>
            have HZ := Lib.hid (hM.out.2.2.next HY.out)
            have hA := alloc_below wr (.cells #[.string (y)] 9)
            have hR := hM.out.1.below hA
            have hBB : Below u2.heap.size u2 wr := hM.out.2.1
            have hS : u2.heap.size ≤ (wr.alloc (.cells #[.string (y)] 9)).heap.size := Nat.le_trans hBB.size hA.size
            have HAP := Lib.hid (And.intro hA (And.intro hR (And.intro hBB hS)))
            clear hA hR hBB hS
            go_wp2_with (at_builtin; refine wpList_append_row _ rfl _ _ 102 rfl strTR u2.heap.size _ _ (M) [y] rfl rfl HAP.out.2.1 (Rd.single (E := strE) (y) (alloc_new _ _) rfl) HAP.out.2.2.2 (by have := HML.out; have := HNl.out; simp; omega) (by decide) ?_)
            rintro v6 w6 hg
            have H6 := Lib.hid (show Row strE w6 u2.heap.size 9 v6 ((M) ++ [y]) ∧ Below u2.heap.size u2 w6 from ⟨hg.1, hg.below (HAP.out.2.2.1.trans (HAP.out.1.mono HAP.out.2.2.1.size)) HAP.out.2.2.2 (fun b hb => (HAP.out.2.1.lt hb).1)⟩)
            clear hg HAP
            go_wp2
            go_roundw
            case rel => exact ⟨q + 1, M ++ [y], false, _, by have := HQL.out; omega, rfl, rfl, by first | rw [hq64] | go_num, Lib.hid ⟨H6.out.1, H6.out.2, HZ.out⟩⟩
            case measure => have := HQL.out; first | (rw [hq64]; simp [intOf]; omega) | (simp [intOf]; omega)
          | false =>
            cases hbe : (y.toList == x.name.toList) with
            | true =>
              have HZ := Lib.hid (hM.out.2.2.next HY.out)
              have hA := alloc_below wr (.cells #[.string (y)] 9)
              have hR := hM.out.1.below hA
              have hBB : Below u2.heap.size u2 wr := hM.out.2.1
              have hS : u2.heap.size ≤ (wr.alloc (.cells #[.string (y)] 9)).heap.size := Nat.le_trans hBB.size hA.size
              have HAP := Lib.hid (And.intro hA (And.intro hR (And.intro hBB hS)))
              clear hA hR hBB hS
              go_wp2_with (at_builtin; refine wpList_append_row _ rfl _ _ 102 rfl strTR u2.heap.size _ _ (M) [y] rfl rfl HAP.out.2.1 (Rd.single (E := strE) (y) (alloc_new _ _) rfl) HAP.out.2.2.2 (by have := HML.out; have := HNl.out; simp; omega) (by decide) ?_)
              rintro v6 w6 hg
              have H6 := Lib.hid (show Row strE w6 u2.heap.size 9 v6 ((M) ++ [y]) ∧ Below u2.heap.size u2 w6 from ⟨hg.1, hg.below (HAP.out.2.2.1.trans (HAP.out.1.mono HAP.out.2.2.1.size)) HAP.out.2.2.2 (fun b hb => (HAP.out.2.1.lt hb).1)⟩)
              clear hg HAP
              go_wp2
              go_roundw
              case rel => exact ⟨q + 1, M ++ [y], false, _, by have := HQL.out; omega, rfl, rfl, by first | rw [hq64] | go_num, Lib.hid ⟨H6.out.1, H6.out.2, HZ.out⟩⟩
              case measure => have := HQL.out; first | (rw [hq64]; simp [intOf]; omega) | (simp [intOf]; omega)
            | false =>
              have HZ := Lib.hid (hM.out.2.2.mark.next HY.out)
              have hA := alloc_below wr (.cells #[.string (x.name)] 9)
              have hR := hM.out.1.below hA
              have hBB : Below u2.heap.size u2 wr := hM.out.2.1
              have hS : u2.heap.size ≤ (wr.alloc (.cells #[.string (x.name)] 9)).heap.size := Nat.le_trans hBB.size hA.size
              have HAP := Lib.hid (And.intro hA (And.intro hR (And.intro hBB hS)))
              clear hA hR hBB hS
              go_wp2_with (at_builtin; refine wpList_append_row _ rfl _ _ 102 rfl strTR u2.heap.size _ _ (M) [x.name] rfl rfl HAP.out.2.1 (Rd.single (E := strE) (x.name) (alloc_new _ _) rfl) HAP.out.2.2.2 (by have := HML.out; have := HNl.out; simp; omega) (by decide) ?_)
              rintro v6 w6 hg
              have H6 := Lib.hid (show Row strE w6 u2.heap.size 9 v6 ((M) ++ [x.name]) ∧ Below u2.heap.size u2 w6 from ⟨hg.1, hg.below (HAP.out.2.2.1.trans (HAP.out.1.mono HAP.out.2.2.1.size)) HAP.out.2.2.2 (fun b hb => (HAP.out.2.1.lt hb).1)⟩)
              clear hg HAP
              have HML2 := Lib.hid (hM.out.2.2.mark.len)
              clear HML
              generalize M ++ [x.name] = M2 at *
              have HML := HML2
              obtain ⟨a6, c6, hv6, -⟩ := H6.out.1.rd.shape
              subst hv6
              have HR6 := Lib.hid (H2.out.1.rd.below H6.out.2)
              obtain ⟨bn', on', ha, hb0', e6⟩ := HR6.out.str q HQL.out
              cases ha
              have hy6 : N[q]'HQL.out = y := by have h1 := HY.out; rw [List.getElem?_eq_getElem HQL.out] at h1; cases h1; rfl
              rw [hy6] at e6
              clear e0 hy6 hb0 hb0'
              have hA := alloc_below w6 (.cells #[.string (y)] 9)
              have hR := H6.out.1.below hA
              have hBB : Below u2.heap.size u2 w6 := H6.out.2
              have hS : u2.heap.size ≤ (w6.alloc (.cells #[.string (y)] 9)).heap.size := Nat.le_trans hBB.size hA.size
              have HAP := Lib.hid (And.intro hA (And.intro hR (And.intro hBB hS)))
              clear hA hR hBB hS
              go_wp2_with (at_builtin; refine wpList_append_row _ rfl _ _ 102 rfl strTR u2.heap.size _ _ (M2) [y] rfl rfl HAP.out.2.1 (Rd.single (E := strE) (y) (alloc_new _ _) rfl) HAP.out.2.2.2 (by have := HML.out; have := HNl.out; simp; omega) (by decide) ?_)
              rintro v7 w7 hg
              have H7 := Lib.hid (show Row strE w7 u2.heap.size 9 v7 (M2 ++ [y]) ∧ Below u2.heap.size u2 w7 from ⟨hg.1, hg.below (HAP.out.2.2.1.trans (HAP.out.1.mono HAP.out.2.2.1.size)) HAP.out.2.2.2 (fun b hb => (HAP.out.2.1.lt hb).1)⟩)
              clear hg HAP
              go_wp2
              go_roundw
              case rel => exact ⟨q + 1, M2 ++ [y], true, _, by have := HQL.out; omega, rfl, rfl, by first | rw [hq64] | go_num, Lib.hid ⟨H7.out.1, H7.out.2, HZ.out⟩⟩
              case measure => have := HQL.out; first | (rw [hq64]; simp [intOf]; omega) | (simp [intOf]; omega)
end Go.Proofs.YtnkiokaeooopgaaGreat
