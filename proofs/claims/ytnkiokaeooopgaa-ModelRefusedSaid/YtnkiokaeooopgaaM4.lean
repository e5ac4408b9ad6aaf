/- Texts that the claim rests on, part 4: RecCheck, MapRange, BookObj, BookActs, BookHeld, BookMay, BookApply. -/
import Derived.Carry
import Derived.StringKeys
import Derived.Laws.EntriesVeiled
import Derived.BigQuiet
import Derived.Test.YtnkiokaeooopgaaShelf
import Derived.Sort.OwnSorted
import Derived.Test.YtnkiokaeooopgaaM3
/- May a record be: of the program. -/
set_option maxRecDepth 100000
namespace Ks
open Go Go.RowKit
theorem toList_nil {s : ByteArray} (h : s.toList = []) : s = ⟨#[]⟩ := Classical.byContradiction fun hn => by
  have := nil_str hn
  rw [h] at this
  cases this
end Ks
namespace Go.Proofs.Ytnkiokaeooopgaa
open Go.RowKit Ks
set_option linter.unusedVariables false
set_option linter.unusedSimpArgs false
set_option maxRecDepth 100000 in
set_option maxHeartbeats 4000000 in
theorem check_any (r : RecT) (w : World) (hn : r.name.size ≤ 9223372036854775807) :
    Calls Try.prog 65 #[recV r] w fun e w' => e = .returned (.int .i64 (if chkB r then 0 else 2)) ∧ Below w.heap.size w w' := by
  refine calls_by fun R HR => ?_
  have HT := Lib.hid (fun w => rest_any r w hn)
  have HW := Lib.hid (fun n m w => within_any n m w)
  have HC := Lib.hid (show chkB r = (restB r && decide (restX r = noRec) && withB r.epoch 4294967295 && withB r.time 1099511627776) from rfl)
  generalize chkB r = CB at *
  generalize restX r = X at *
  generalize restB r = RB at *
  obtain ⟨kd, ep, tm, ct, tg, un, rt, nm⟩ := r
  obtain ⟨xk, xe, xt, xc, xg, xu, xr, xn⟩ := X
  simp only at HC
  clear hn
  have H1 := Lib.hid (Below.refl w.heap.size w)
  obtain ⟨W1, hW1⟩ : ∃ W1, w.alloc (.cells #[.int .i64 kd, .int .i64 ep, .int .i64 tm, .int .i64 ct, .int .i64 tg, .int .i64 un, .string rt, .string nm] 69) = W1 := ⟨_, rfl⟩
  have hbW1 : Below w.heap.size w W1 := by rw [← hW1]; exact alloc_below w _
  have kW1 : W1.heap[w.heap.size]? = some (.cells #[.int .i64 kd, .int .i64 ep, .int .i64 tm, .int .i64 ct, .int .i64 tg, .int .i64 un, .string rt, .string nm] 69 (0, 0)) := by rw [← hW1]; exact alloc_new w _
  have H2 := Lib.hid (And.intro (H1.out.trans (hbW1.mono H1.out.size)) (kW1))
  clear hbW1 kW1
  obtain ⟨⟨r0, r1, r2, r3, r4, r5, r6, r7⟩, -⟩ := blkR H2.out.2
  go_enter Try.func65, Try.ntmps65
  go_wp2_with fail
  refine (HT.out _).mono ?_
  rintro en v1 ⟨rfl, hb⟩
  have H3 := Lib.hid (And.intro (H2.out.1.trans (hb.mono H2.out.1.size)) (blk_on hb H2.out.2))
  clear hb
  clear r0 r1 r2 r3 r4 r5 r6 r7 hW1
  obtain ⟨WX, hWX⟩ : ∃ WX, v1.alloc (.cells #[.int .i64 xk, .int .i64 xe, .int .i64 xt, .int .i64 xc, .int .i64 xg, .int .i64 xu, .string xr, .string xn] 69) = WX := ⟨_, rfl⟩
  have hbWX : Below v1.heap.size v1 WX := by rw [← hWX]; exact alloc_below v1 _
  have kWX : WX.heap[v1.heap.size]? = some (.cells #[.int .i64 xk, .int .i64 xe, .int .i64 xt, .int .i64 xc, .int .i64 xg, .int .i64 xu, .string xr, .string xn] 69 (0, 0)) := by rw [← hWX]; exact alloc_new v1 _
  have EWX := Lib.hid hWX
  have H4 := Lib.hid (And.intro (H3.out.1.trans (hbWX.mono H3.out.1.size)) (And.intro (blk_on hbWX H3.out.2) (kWX)))
  clear hbWX kWX hWX
  go_upto_region 2 with fail
  try rw [EWX.out]
  clear EWX
  obtain ⟨⟨x0, x1, x2, x3, x4, x5, x6, x7⟩, -⟩ := blkR H4.out.2.2
  obtain ⟨⟨r0, r1, r2, r3, r4, r5, r6, r7⟩, -⟩ := blkR H4.out.2.1
  cases RB with
  | false =>
    have HZ := Lib.hid (show CB = false by rw [HC.out]; rfl)
    go_wp2
    exact HR.out _ _ ⟨by rw [HZ.out]; try rfl, H4.out.1⟩
  | true =>
    by_cases hx : (⟨xk, xe, xt, xc, xg, xu, xr, xn⟩ : RecT) = noRec
    · obtain ⟨rfl, rfl, rfl, rfl, rfl, rfl, rfl, rfl⟩ := (show xk = 0 ∧ xe = 0 ∧ xt = 0 ∧ xc = 0 ∧ xg = 0 ∧ xu = 0 ∧ xr = ⟨#[]⟩ ∧ xn = ⟨#[]⟩ by simpa [noRec] using hx)
      have HC2 := Lib.hid (show CB = (withB ep 4294967295 && withB tm 1099511627776) by rw [HC.out, decide_eq_true hx]; rfl)
      clear hx
      cases h1 : withB ep 4294967295 with
      | false =>
        have HZ := Lib.hid (show CB = false by rw [HC2.out, h1]; rfl)
        go_wp2_with fail
        refine (HW.out _ _ _).mono ?_
        rintro en y1 ⟨rfl, hw⟩
        rw [hw]
        clear hw
        rw [h1]
        go_wp2
        exact HR.out _ _ ⟨by rw [HZ.out]; try rfl, H4.out.1⟩
      | true =>
        cases h2 : withB tm 1099511627776 with
        | false =>
          have HZ := Lib.hid (show CB = false by rw [HC2.out, h1, h2]; rfl)
          go_wp2_with fail
          refine (HW.out _ _ _).mono ?_
          rintro en y1 ⟨rfl, hw⟩
          rw [hw]
          clear hw
          rw [h1]
          go_wp2_with fail
          refine (HW.out _ _ _).mono ?_
          rintro en y1 ⟨rfl, hw⟩
          rw [hw]
          clear hw
          rw [h2]
          go_wp2
          exact HR.out _ _ ⟨by rw [HZ.out]; try rfl, H4.out.1⟩
        | true =>
          have HZ := Lib.hid (show CB = true by rw [HC2.out, h1, h2]; rfl)
          go_wp2_with fail
          refine (HW.out _ _ _).mono ?_
          rintro en y1 ⟨rfl, hw⟩
          rw [hw]
          clear hw
          rw [h1]
          go_wp2_with fail
          refine (HW.out _ _ _).mono ?_
          rintro en y1 ⟨rfl, hw⟩
          rw [hw]
          clear hw
          rw [h2]
          go_wp2
          exact HR.out _ _ ⟨by rw [HZ.out]; try rfl, H4.out.1⟩
    · have HZ := Lib.hid (show CB = false by rw [HC.out, decide_eq_false hx]; simp)
      go_wp2
      all_goals first
        | exact absurd (by
            have e1 := toList_nil ‹xr.toList = []›
            have e2 := toList_nil ‹xn.toList = []›
            subst e1 e2
            simp [noRec, *]) hx
        | exact HR.out _ _ ⟨by rw [HZ.out]; try rfl, H4.out.1⟩
end Go.Proofs.Ytnkiokaeooopgaa
/- A map gone through by a range: which entries are still to come, as a list. Plain. No program is in sight. -/
namespace Ks
open Go Go.RowKit Go.ChangeMaps Go.MapKept Go.Maps
set_option linter.unusedVariables false
set_option linter.unusedSectionVars false
def leftL (es : Array MapEntry) (seen : Array Nat) : List MapEntry := es.toList.filter fun e => !seen.contains e.born
theorem leftOf_list (es : Array MapEntry) (seen : Array Nat) : (leftOf es seen).toList = leftL es seen := by simp [leftOf, leftL]
theorem filter_born {l : List MapEntry} (hn : (l.map (·.born)).Nodup) {j : Nat} {e : MapEntry} (h : l[j]? = some e) : (l.filter fun x => x.born != e.born) = l.eraseIdx j := by
  induction l generalizing j with
  | nil => simp at h
  | cons x l ih =>
    rw [List.map_cons, List.nodup_cons] at hn
    cases j with
    | zero =>
      simp at h
      subst h
      rw [List.filter_cons]
      simp
      intro y hy e2
      exact hn.1 (List.mem_map.2 ⟨y, hy, e2⟩)
    | succ j =>
      have hj : l[j]? = some e := by simpa using h
      have hne : (x.born != e.born) = true := by
        rw [bne_iff_ne]
        exact fun e2 => hn.1 (List.mem_map.2 ⟨e, List.mem_of_getElem? hj, e2.symm⟩)
      rw [List.filter_cons, hne]
      simp [ih hn.2 hj]
theorem left_push {es : Array MapEntry} {seen : Array Nat} (hn : (es.toList.map (·.born)).Nodup) {j : Nat} {e : MapEntry} (h : (leftL es seen)[j]? = some e) : leftL es (seen.push e.born) = (leftL es seen).eraseIdx j := by
  have h1 : leftL es (seen.push e.born) = (leftL es seen).filter fun x => x.born != e.born := by
    unfold leftL
    rw [List.filter_filter]
    refine List.filter_congr fun x _ => ?_
    rw [Bool.eq_iff_iff]
    simp [and_comm]
  rw [h1]
  refine filter_born ?_ h
  exact List.Nodup.sublist (List.Sublist.map _ List.filter_sublist) hn
section
variable {κ α : Type} [DecidableEq κ] {P : Program} {k : TypeId} {K : KV P k κ α} {w : World} {b r : Nat} {m left : List (κ × α)}
/-- a range over a map under way: 'left' is still to come -/
def RangeAt (K : KV P k κ α) (w : World) (b r : Nat) (m left : List (κ × α)) : Prop :=
  ∃ es clock since seen c0, w.heap[b]? = some (.map es clock) ∧ Stamped es clock ∧ es.toList.map (fun e => (e.key, e.val)) = m.map (fun p => (K.key p.1, K.val p.2)) ∧ (∀ p ∈ m, K.ok p.1) ∧
    w.heap[r]? = some (.mapIter (some b) since seen c0) ∧ (∀ x ∈ es.toList, x.born < since) ∧ since ≤ c0 ∧ since ≤ clock ∧
    (leftL es seen).map (fun e => (e.key, e.val)) = left.map (fun p => (K.key p.1, K.val p.2))
theorem RangeAt.map (h : RangeAt K w b r m left) : MapAt K w b m := by
  obtain ⟨es, clock, since, seen, c0, h1, h2, h3, h4, _⟩ := h
  exact ⟨es, clock, h1, h2, h3, h4⟩
theorem RangeAt.ne (h : RangeAt K w b r m left) : r ≠ b := by
  obtain ⟨es, clock, since, seen, c0, h1, _, _, _, h5, _⟩ := h
  intro e
  rw [e, h1] at h5
  cases h5
theorem RangeAt.lt (h : RangeAt K w b r m left) : r < w.heap.size := by
  obtain ⟨es, clock, since, seen, c0, _, _, _, _, h5, _⟩ := h
  exact (Array.getElem?_eq_some_iff.1 h5).1
theorem RangeAt.keep {w' : World} (h : RangeAt K w b r m left) (e1 : w'.heap[b]? = w.heap[b]?) (e2 : w'.heap[r]? = w.heap[r]?) : RangeAt K w' b r m left := by
  obtain ⟨es, clock, since, seen, c0, h1, h2, h3, h4, h5, h6⟩ := h
  exact ⟨es, clock, since, seen, c0, e1.trans h1, h2, h3, h4, e2.trans h5, h6⟩
theorem RangeAt.below {w' : World} (h : RangeAt K w b r m left) (hb : Below w.heap.size w w') : RangeAt K w' b r m left := h.keep (hb.block b h.map.lt) (hb.block r h.lt)
theorem RangeAt.left_eq (h : RangeAt K w b r m left) : w.rangeLeft b r = left.length := by
  obtain ⟨es, clock, since, seen, c0, h1, h2, h3, h4, h5, h6, h7, h8, h9⟩ := h
  simp only [World.rangeLeft, h1, h5]
  have := congrArg List.length h9
  rw [← leftOf_list] at this
  simpa using this
theorem MapAt.range {t e : TypeId} (h : MapAt K w b m) (ht : P.underlying t = some (.map k e)) :
    ∃ w', (Instr.range t (.map (some b))).run P w = .ok (.pointer (some ⟨w.heap.size, 0, none⟩)) w' ∧ RangeAt K w' b w.heap.size m m ∧ Below w.heap.size w w' ∧ w'.heap.size = w.heap.size + 1 := by
  have hlt := h.lt
  obtain ⟨es, clock, hb, hs, he, hk⟩ := h
  refine ⟨_, run_range_map w t k e b es clock ht hb, ⟨es, clock, clock, #[], clock, ((MapKept.heap_alloc w _).2 b hlt).trans hb, hs, he, hk, (MapKept.heap_alloc w _).1, hs.1, Nat.le_refl _, Nat.le_refl _, ?_⟩, alloc_below w _, by simp⟩
  rw [← he, leftL, List.filter_eq_self.2 (by simp)]
theorem RangeAt.next (h : RangeAt K w b r m left) (ty : TypeId) :
    (left = [] ∧ (Instr.next (.pointer (some ⟨r, 0, none⟩)) false ty).run P w = .ok (.tuple #[.bool false]) w) ∨
    ∃ j x v w', left[j]? = some (x, v) ∧ (Instr.next (.pointer (some ⟨r, 0, none⟩)) false ty).run P w = .ok (.tuple #[.bool true, K.key x, K.val v]) w' ∧ RangeAt K w' b r m (left.eraseIdx j) ∧ Turn w w' (fun k => k = r) (fun k => k = r) ∧
      w'.heap.size = w.heap.size ∧ (Instr.entry (.pointer (some ⟨r, 0, none⟩))).run P w' = .ok (.tuple #[K.key x, K.val v]) w' := by
  have hne := h.ne
  have hlt := h.lt
  obtain ⟨es, clock, since, seen, c0, h1, h2, h3, h4, h5, h6, h7, h8, h9⟩ := h
  rcases run_next_at (P := P) w ty r b since c0 seen es clock h5 h1 h6 h7 with ⟨h0, hrun⟩ | ⟨e, he, w1, hw1, hrun⟩
  · refine Or.inl ⟨?_, hrun⟩
    have hl : leftL es seen = [] := by rw [← leftOf_list]; exact List.length_eq_zero_iff.1 (by simpa using h0)
    rw [hl] at h9
    exact List.map_eq_nil_iff.1 h9.symm
  · right
    rw [leftOf_list] at he
    obtain ⟨j, hj⟩ := List.mem_iff_getElem?.1 he
    obtain ⟨p, hp, kp, vp⟩ := map_nth h9 j hj
    have hb1 : Below w.heap.size w w1 := by
      rcases hw1 with rfl | rfl
      · exact Below.refl _ _
      · exact drew_below w
    have hz1 : w1.heap.size = w.heap.size := by rcases hw1 with rfl | rfl <;> rfl
    have hbl : w1.heap[b]? = some (.map es clock) := by rcases hw1 with rfl | rfl <;> exact h1
    have hes : e ∈ es.toList := (List.mem_filter.1 he).1
    have hoth : ∀ k, k ≠ r → (setBlock w1 r (.mapIter (some b) since (seen.push e.born) clock)).heap[k]? = w1.heap[k]? := fun k hk => by
      simp [setBlock, Array.getElem?_setIfInBounds_ne (Ne.symm hk)]
    have hr' : (setBlock w1 r (.mapIter (some b) since (seen.push e.born) clock)).heap[r]? = some (.mapIter (some b) since (seen.push e.born) clock) := by
      show (w1.heap.setIfInBounds r _)[r]? = _
      exact Array.getElem?_setIfInBounds_self_of_lt (by omega)
    have hb' : (setBlock w1 r (.mapIter (some b) since (seen.push e.born) clock)).heap[b]? = some (.map es clock) := (hoth b (Ne.symm hne)).trans hbl
    refine ⟨j, p.1, p.2, setBlock w1 r (.mapIter (some b) since (seen.push e.born) clock), hp, ?_, ⟨es, clock, since, seen.push e.born, clock, hb', h2, h3, h4, hr', h6, h8, h8, ?_⟩, ?_, ?_, ?_⟩
    · rw [hrun, kp, vp]
    · rw [left_push h2.2.1 hj, ChangeMaps.map_eraseIdx, h9, ChangeMaps.map_eraseIdx]
    · exact ⟨hb1.os, hb1.tape, hb1.output, by simp [setBlock, hz1], fun k hk hkr => (hoth k hkr).trans (hb1.block k hk), fun k hk => Or.inl hk⟩
    · simp [setBlock, hz1]
    · rw [run_entry_at (P := P) _ r b since seen es clock e hr' hb' hes h2.2.1, kp, vp]
end
section walk
variable {κ α : Type} [DecidableEq κ] {P : Program} {k : TypeId} {K : KV P k κ α} (w : World) {ops : Array Oper} {rest : List Oper} {o : Oper} {a : Act} {Q : Exit → Act → World → Prop} {b r : Nat} {m left : List (κ × α)}
theorem wpList_range_list (hg : o.guard = none) (mm : Operand) (t : TypeId) (hop : o.op = Op.range t mm) (e : TypeId) (ht : P.underlying t = some (.map k e)) (hm : a.eval mm = .map (some b)) (h : MapAt K w b m)
    (hK : ∀ w', RangeAt K w' b w.heap.size m m → Below w.heap.size w w' → w'.heap.size = w.heap.size + 1 → wpList P ops Q rest (a.put o.dst (.pointer (some ⟨w.heap.size, 0, none⟩))) w') :
    wpList P ops Q (o :: rest) a w := by
  refine wpList_plain hg fun K' hK' => ?_
  obtain ⟨w', hrun, r1, r2, r3⟩ := h.range ht
  unfold Oper.wp
  simp [execOp, hop, hm, hrun, Result.andThen]
  exact hK' _ _ (hK w' r1 r2 r3)
theorem wpList_next_list (hg : o.guard = none) (it : Operand) (hop : o.op = Op.next it false) (hit : a.eval it = .pointer (some ⟨r, 0, none⟩)) (h : RangeAt K w b r m left)
    (hDone : left = [] → wpList P ops Q rest (a.put o.dst (.tuple #[.bool false])) w)
    (hMore : ∀ j x v w', left[j]? = some (x, v) → RangeAt K w' b r m (left.eraseIdx j) → Turn w w' (fun k => k = r) (fun k => k = r) → w'.heap.size = w.heap.size →
      (Instr.entry (.pointer (some ⟨r, 0, none⟩))).run P w' = .ok (.tuple #[K.key x, K.val v]) w' → wpList P ops Q rest (a.put o.dst (.tuple #[.bool true, K.key x, K.val v])) w') :
    wpList P ops Q (o :: rest) a w := by
  refine wpList_plain hg fun K' hK' => ?_
  unfold Oper.wp
  rcases h.next o.type with ⟨h0, hrun⟩ | ⟨j, x, v, w', h1, hrun, h2, h3, h4, h5⟩
  · simp [execOp, hop, hit, hrun, Result.andThen]
    exact hK' _ _ (hDone h0)
  · simp [execOp, hop, hit, hrun, Result.andThen]
    exact hK' _ _ (hMore j x v w' h1 h2 h3 h4 h5)
end walk
end Ks
/- A book in memory, its clock: what stands of them, what a call turns; the clock's functions. -/
set_option maxRecDepth 100000
namespace Go.Proofs.Ytnkiokaeooopgaa
open Go.RowKit Ks Go.Maps
set_option linter.unusedVariables false
theorem intKey : Keyed Try.prog 3 := int_keyed Try.underlying3
theorem strKey : Keyed Try.prog 9 := string_keyed Try.underlying9
def iiKV : KV Try.prog 3 Int Int := ⟨fun i => .int .i64 i, fun v => .int .i64 v, fun h => by simpa using h⟩
def ibKV : KV Try.prog 3 Int Bool := ⟨fun i => .int .i64 i, fun v => .bool v, fun h => by simpa using h⟩
def siKV : KV Try.prog 9 ByteArray Int := ⟨fun s => .string s, fun v => .int .i64 v, fun h => by simpa using h⟩
theorem iiKV_ok {x : Int} (h : -9223372036854775808 ≤ x ∧ x ≤ 9223372036854775807) : iiKV.ok x := ⟨_, keyOf_int_mk Try.underlying3 (by simp [Lit.wf, IntKind.min, IntKind.max, IntKind.signed, IntKind.bits]; omega)⟩
theorem ibKV_ok {x : Int} (h : -9223372036854775808 ≤ x ∧ x ≤ 9223372036854775807) : ibKV.ok x := ⟨_, keyOf_int_mk Try.underlying3 (by simp [Lit.wf, IntKind.min, IntKind.max, IntKind.signed, IntKind.bits]; omega)⟩
theorem siKV_ok {s : ByteArray} (h : s.size ≤ maxLen) : siKV.ok s := ⟨_, Go.WideMaps.keyOf_string_mk Try.underlying9 h⟩
theorem zeroI (w : World) : (zeroValue 3).run Try.prog w = .ok (.int .i64 0) w := by rfl
theorem zeroB (w : World) : (zeroValue 4).run Try.prog w = .ok (.bool false) w := by rfl
structure BookAt (w : World) (n c mu mh mg : Nat) (b : BookT) : Prop where
  blk : w.heap[n]? = some (.cells #[.pointer (some ⟨c, 0, none⟩), .int .i64 b.first, .int .i64 b.epoch, .map (some mu), .map (some mh), .map (some mg)] 81 (0, 0))
  clk : w.heap[c]? = some (.cells #[.bool true, .int .i64 b.now] 84 (0, 0))
  till : MapAt iiKV w mu b.till
  holds : MapAt siKV w mh b.holds
  gone : MapAt ibKV w mg b.gone
/-- the five blocks of a book are five -/
def Five (n c mu mh mg : Nat) : Prop := n ≠ c ∧ n ≠ mu ∧ n ≠ mh ∧ n ≠ mg ∧ c ≠ mu ∧ c ≠ mh ∧ c ≠ mg ∧ mu ≠ mh ∧ mu ≠ mg ∧ mh ≠ mg
/-- what a book has -/
def FB (n c mu mh mg : Nat) (k : Nat) : Prop := k = n ∨ k = c ∨ k = mu ∨ k = mh ∨ k = mg
section
variable {w w' : World} {n c mu mh mg : Nat} {b : BookT}
theorem BookAt.below (h : BookAt w n c mu mh mg b) (hb : Below w.heap.size w w') : BookAt w' n c mu mh mg b :=
  ⟨(hb.block n (lt_of_block h.blk)).trans h.blk, (hb.block c (lt_of_block h.clk)).trans h.clk, h.till.below hb, h.holds.below hb, h.gone.below hb⟩
theorem BookAt.lt (h : BookAt w n c mu mh mg b) : ∀ k, FB n c mu mh mg k → k < w.heap.size := by
  rintro k (rfl | rfl | rfl | rfl | rfl)
  · exact lt_of_block h.blk
  · exact lt_of_block h.clk
  · exact h.till.lt
  · exact h.holds.lt
  · exact h.gone.lt
end
theorem blk6 {w : World} {b : Nat} {c0 c1 c2 c3 c4 c5 : Value} {T : TypeId} (h : w.heap[b]? = some (.cells #[c0, c1, c2, c3, c4, c5] T (0, 0))) : (w.cell? ⟨b, 0, none⟩ = some c0 ∧ w.cell? ⟨b, 1, none⟩ = some c1 ∧ w.cell? ⟨b, 2, none⟩ = some c2 ∧ w.cell? ⟨b, 3, none⟩ = some c3 ∧ w.cell? ⟨b, 4, none⟩ = some c4 ∧ w.cell? ⟨b, 5, none⟩ = some c5) ∧ ∀ j, w.frozen? ⟨b, j, none⟩ = false :=
  ⟨⟨by rw [cell_of_row w b 0 _ _ _ h]; rfl, by rw [cell_of_row w b 1 _ _ _ h]; rfl, by rw [cell_of_row w b 2 _ _ _ h]; rfl, by rw [cell_of_row w b 3 _ _ _ h]; rfl, by rw [cell_of_row w b 4 _ _ _ h]; rfl, by rw [cell_of_row w b 5 _ _ _ h]; rfl⟩, fun j => frozen_of_row w b j _ _ h⟩
/-- a book that is none, or that no call made -/
def BookNo (w : World) (v : Value) : Prop := v = .pointer none ∨ ∃ n, v = .pointer (some ⟨n, 0, none⟩) ∧ w.heap[n]? = some (.cells #[.pointer none, .int .i64 0, .int .i64 0, .map none, .map none, .map none] 81 (0, 0))
theorem BookNo.below {w w' : World} {v : Value} (h : BookNo w v) (hb : Below w.heap.size w w') : BookNo w' v := by
  rcases h with h | ⟨n, rfl, h⟩
  · exact Or.inl h
  · exact Or.inr ⟨n, rfl, (hb.block n (lt_of_block h)).trans h⟩
/-! the clock -/
theorem cnew0 (w : World) : Calls Try.prog 26 #[.int .i64 0] w fun e w' => e = .returned (.tuple #[.pointer (some ⟨w.heap.size, 0, none⟩), .int .i64 0]) ∧ w' = w.alloc (.cells #[.bool true, .int .i64 0] 84) := by
  refine calls_by fun R HR => ?_
  go_enter Try.func26, Try.ntmps26
  go_wp2_with fail
  have hmay : Calls Try.prog 48 #[.int .i64 0] w fun e w' => e = .returned (.bool true) ∧ w' = w := by
    refine calls_by fun R HR => ?_
    go_enter Try.func48, Try.ntmps48
    go_wp2
    exact HR.out _ _ ⟨rfl, rfl⟩
  refine hmay.mono ?_
  rintro e w1 ⟨rfl, hw⟩
  rw [hw]
  clear hw hmay
  go_wp2
  all_goals exact HR.out _ _ ⟨rfl, rfl⟩
theorem cthere_yes (c : Nat) (t : Int) (w : World) (h : w.heap[c]? = some (.cells #[.bool true, .int .i64 t] 84 (0, 0))) : Calls Try.prog 42 #[.pointer (some ⟨c, 0, none⟩)] w fun e w' => e = .returned (.bool true) ∧ w' = w := by
  refine calls_by fun R HR => ?_
  obtain ⟨z0, z1, fz0, fz1⟩ := blk2 h
  clear h
  go_enter Try.func42, Try.ntmps42
  go_wp2
  exact HR.out _ _ ⟨rfl, rfl⟩
theorem cnow_any (c : Nat) (t : Int) (w : World) (h : w.heap[c]? = some (.cells #[.bool true, .int .i64 t] 84 (0, 0))) : Calls Try.prog 27 #[.pointer (some ⟨c, 0, none⟩)] w fun e w' => e = .returned (.int .i64 t) ∧ w' = w := by
  refine calls_by fun R HR => ?_
  have HT := Lib.hid (cthere_yes c t w h)
  obtain ⟨z0, z1, fz0, fz1⟩ := blk2 h
  clear h
  go_enter Try.func27, Try.ntmps27
  go_wp2_with fail
  refine HT.out.mono ?_
  rintro en v1 ⟨rfl, hw⟩
  rw [hw]
  clear hw
  go_wp2
  exact HR.out _ _ ⟨rfl, rfl⟩
theorem ctick_any (c : Nat) (t u : Int) (w : World) (h : w.heap[c]? = some (.cells #[.bool true, .int .i64 t] 84 (0, 0))) (h0 : ¬ u < 0) (h1 : ¬ 1099511627776 < u) (h2 : ¬ u < t) : Calls Try.prog 23 #[.pointer (some ⟨c, 0, none⟩), .int .i64 u] w fun e w' => e = .returned (.int .i64 0) ∧ w' = w.setCell ⟨c, 1, none⟩ (.int .i64 u) := by
  refine calls_by fun R HR => ?_
  have HT := Lib.hid (cthere_yes c t w h)
  obtain ⟨z0, z1, fz0, fz1⟩ := blk2 h
  clear h
  go_enter Try.func23, Try.ntmps23
  go_wp2_with fail
  refine HT.out.mono ?_
  rintro en v1 ⟨rfl, hw⟩
  rw [hw]
  clear hw
  go_wp2
  exact HR.out _ _ ⟨rfl, rfl⟩
end Go.Proofs.Ytnkiokaeooopgaa
/- The program's book: there, until, gone, holds, held, new. -/
set_option maxRecDepth 100000
namespace Go.Proofs.Ytnkiokaeooopgaa
open Go.RowKit Ks Go.Maps
set_option linter.unusedVariables false
set_option linter.unusedSimpArgs false
theorem till_v (b : BookT) (t : Int) : lookV iiKV.val (.int .i64 0) false (Ks.look b.till t) = .int .i64 (tillN b t) := by unfold tillN; cases Ks.look b.till t <;> rfl
theorem gone_v (b : BookT) (t : Int) : lookV ibKV.val (.bool false) false (Ks.look b.gone t) = .bool (goneB b t) := by unfold goneB; cases Ks.look b.gone t <;> rfl
theorem bthere_yes {n c mu mh mg : Nat} {b : BookT} (w : World) (h : BookAt w n c mu mh mg b) : Calls Try.prog 37 #[.pointer (some ⟨n, 0, none⟩)] w fun e w' => e = .returned (.bool true) ∧ w' = w := by
  refine calls_by fun R HR => ?_
  obtain ⟨⟨z0, z1, z2, z3, z4, z5⟩, fz⟩ := blk6 h.blk
  clear h fz
  go_enter Try.func37, Try.ntmps37
  go_wp2
  exact HR.out _ _ ⟨rfl, rfl⟩
theorem bthere_no {v : Value} (w : World) (h : BookNo w v) : Calls Try.prog 37 #[v] w fun e w' => e = .returned (.bool false) ∧ w' = w := by
  refine calls_by fun R HR => ?_
  rcases h with rfl | ⟨n, rfl, h⟩
  · go_enter Try.func37, Try.ntmps37
    go_wp2
    exact HR.out _ _ ⟨rfl, rfl⟩
  · obtain ⟨⟨z0, z1, z2, z3, z4, z5⟩, fz⟩ := blk6 h
    clear h fz
    go_enter Try.func37, Try.ntmps37
    go_wp2
    exact HR.out _ _ ⟨rfl, rfl⟩
theorem bepoch_no {v : Value}  (w : World) (h : BookNo w v) : Calls Try.prog 19 #[v] w fun e w' => e = .returned (.int .i64 0) ∧ w' = w := by
  refine calls_by fun R HR => ?_
  have HT := Lib.hid (bthere_no w h)
  clear h
  go_enter Try.func19, Try.ntmps19
  go_wp2_with fail
  refine HT.out.mono ?_
  rintro en v1 ⟨rfl, hw⟩
  rw [hw]
  clear hw
  go_wp2
  exact HR.out _ _ ⟨rfl, rfl⟩
theorem bnow_no {v : Value}  (w : World) (h : BookNo w v) : Calls Try.prog 49 #[v] w fun e w' => e = .returned (.int .i64 0) ∧ w' = w := by
  refine calls_by fun R HR => ?_
  have HT := Lib.hid (bthere_no w h)
  clear h
  go_enter Try.func49, Try.ntmps49
  go_wp2_with fail
  refine HT.out.mono ?_
  rintro en v1 ⟨rfl, hw⟩
  rw [hw]
  clear hw
  go_wp2
  exact HR.out _ _ ⟨rfl, rfl⟩
theorem buntil_no {v : Value} (t : Int) (w : World) (h : BookNo w v) : Calls Try.prog 64 #[v, .int .i64 t] w fun e w' => e = .returned (.int .i64 0) ∧ w' = w := by
  refine calls_by fun R HR => ?_
  have HT := Lib.hid (bthere_no w h)
  clear h
  go_enter Try.func64, Try.ntmps64
  go_wp2_with fail
  refine HT.out.mono ?_
  rintro en v1 ⟨rfl, hw⟩
  rw [hw]
  clear hw
  go_wp2
  exact HR.out _ _ ⟨rfl, rfl⟩
theorem bgone_no {v : Value} (t : Int) (w : World) (h : BookNo w v) : Calls Try.prog 33 #[v, .int .i64 t] w fun e w' => e = .returned (.bool false) ∧ w' = w := by
  refine calls_by fun R HR => ?_
  have HT := Lib.hid (bthere_no w h)
  clear h
  go_enter Try.func33, Try.ntmps33
  go_wp2_with fail
  refine HT.out.mono ?_
  rintro en v1 ⟨rfl, hw⟩
  rw [hw]
  clear hw
  go_wp2
  exact HR.out _ _ ⟨rfl, rfl⟩
theorem bholds_no {v : Value}  (w : World) (h : BookNo w v) : Calls Try.prog 41 #[v] w fun e w' => e = .returned (.int .i64 0) ∧ w' = w := by
  refine calls_by fun R HR => ?_
  have HT := Lib.hid (bthere_no w h)
  clear h
  go_enter Try.func41, Try.ntmps41
  go_wp2_with fail
  refine HT.out.mono ?_
  rintro en v1 ⟨rfl, hw⟩
  rw [hw]
  clear hw
  go_wp2
  exact HR.out _ _ ⟨rfl, rfl⟩
theorem bheld_no {v : Value} (t : Int) (w : World) (h : BookNo w v) : Calls Try.prog 78 #[v, .int .i64 t] w fun e w' => e = .returned (.slice none 0 0) ∧ w' = w := by
  refine calls_by fun R HR => ?_
  have HT := Lib.hid (bthere_no w h)
  clear h
  go_enter Try.func78, Try.ntmps78
  go_wp2_with fail
  refine HT.out.mono ?_
  rintro en v1 ⟨rfl, hw⟩
  rw [hw]
  clear hw
  go_wp2
  exact HR.out _ _ ⟨rfl, rfl⟩
theorem bcopy_no {v : Value}  (w : World) (h : BookNo w v) : Calls Try.prog 28 #[v] w fun e w' => e = .returned (.pointer none) ∧ w' = w := by
  refine calls_by fun R HR => ?_
  have HT := Lib.hid (bthere_no w h)
  clear h
  go_enter Try.func28, Try.ntmps28
  go_wp2_with fail
  refine HT.out.mono ?_
  rintro en v1 ⟨rfl, hw⟩
  rw [hw]
  clear hw
  go_wp2
  exact HR.out _ _ ⟨rfl, rfl⟩
theorem bnow_any {n c mu mh mg : Nat} {b : BookT} (w : World) (h : BookAt w n c mu mh mg b) : Calls Try.prog 49 #[.pointer (some ⟨n, 0, none⟩)] w fun e w' => e = .returned (.int .i64 b.now) ∧ w' = w := by
  refine calls_by fun R HR => ?_
  have HT := Lib.hid (bthere_yes w h)
  have HB := Lib.hid h
  obtain ⟨⟨z0, z1, z2, z3, z4, z5⟩, fz⟩ := blk6 h.blk
  clear h fz
  have HN := Lib.hid (cnow_any c b.now w HB.out.clk)
  go_enter Try.func49, Try.ntmps49
  go_wp2_with fail
  refine HT.out.mono ?_
  rintro en v1 ⟨rfl, hw⟩
  rw [hw]
  clear hw
  go_wp2_with fail
  refine HN.out.mono ?_
  rintro en v1 ⟨rfl, hw⟩
  rw [hw]
  clear hw
  go_wp2
  exact HR.out _ _ ⟨rfl, rfl⟩
theorem buntil_any {n c mu mh mg : Nat} {b : BookT} (t : Int) (w : World) (h : BookAt w n c mu mh mg b) (ht : -9223372036854775808 ≤ t ∧ t ≤ 9223372036854775807) : Calls Try.prog 64 #[.pointer (some ⟨n, 0, none⟩), .int .i64 t] w fun e w' => e = .returned (.int .i64 (tillN b t)) ∧ w' = w := by
  refine calls_by fun R HR => ?_
  have HT := Lib.hid (bthere_yes w h)
  have HB := Lib.hid h
  obtain ⟨⟨z0, z1, z2, z3, z4, z5⟩, fz⟩ := blk6 h.blk
  clear h fz
  have q5 := iiKV_ok ht
  clear ht
  go_enter Try.func64, Try.ntmps64
  go_wp2_with fail
  refine HT.out.mono ?_
  rintro en v1 ⟨rfl, hw⟩
  rw [hw]
  clear hw
  go_wp2_with (at_lookup; refine wpList_look _ rfl _ _ 77 false rfl 3 intKey Try.underlying77 (zeroI _) HB.out.till rfl t rfl q5 _ (till_v b t) ?_)
  exact HR.out _ _ ⟨rfl, rfl⟩
theorem bgone_any {n c mu mh mg : Nat} {b : BookT} (t : Int) (w : World) (h : BookAt w n c mu mh mg b) (ht : -9223372036854775808 ≤ t ∧ t ≤ 9223372036854775807) : Calls Try.prog 33 #[.pointer (some ⟨n, 0, none⟩), .int .i64 t] w fun e w' => e = .returned (.bool (goneB b t)) ∧ w' = w := by
  refine calls_by fun R HR => ?_
  have HT := Lib.hid (bthere_yes w h)
  have HB := Lib.hid h
  obtain ⟨⟨z0, z1, z2, z3, z4, z5⟩, fz⟩ := blk6 h.blk
  clear h fz
  have q5 := ibKV_ok ht
  have hl := HB.out.gone.look intKey Try.underlying79 (zeroB w) q5 false
  rw [gone_v] at hl
  change (Instr.lookup 79 (.map (some mg)) (.int .i64 t) false).run Try.prog w = _ at hl
  clear ht
  go_enter Try.func33, Try.ntmps33
  go_wp2_with fail
  refine HT.out.mono ?_
  rintro en v1 ⟨rfl, hw⟩
  rw [hw]
  clear hw
  go_wp2
  exact HR.out _ _ ⟨rfl, rfl⟩
end Go.Proofs.Ytnkiokaeooopgaa
/- The names of an epoch's holds: of the program; only how many there are is told. -/
set_option maxRecDepth 100000
namespace Ks
open Go Go.RowKit
set_option linter.unusedVariables false
theorem len_filter_take {α : Type} (p : α → Bool) {l : List α} {j : Nat} {x : α} (h : l[j]? = some x) : (l.filter p).length = ((l.eraseIdx j).filter p).length + (if p x then 1 else 0) := by
  induction l generalizing j with
  | nil => simp at h
  | cons y l ih =>
    cases j with
    | zero =>
      simp at h
      subst h
      rw [List.eraseIdx_cons_zero, List.filter_cons]
      split <;> simp
    | succ j =>
      have h2 : l[j]? = some x := by simpa using h
      rw [List.eraseIdx_cons_succ, List.filter_cons, List.filter_cons]
      have := ih h2
      by_cases hp : p y = true
      · simp only [hp, if_true, List.length_cons]; omega
      · simp only [hp, if_false, Bool.false_eq_true]; omega
end Ks
namespace Go.Proofs.Ytnkiokaeooopgaa
open Go.RowKit Ks Go.Maps Go.Sort
set_option linter.unusedVariables false
set_option linter.unusedSimpArgs false
theorem strTB : ElemT Try.prog 125 9 strE.k 16 := elemT_of Try.underlying125 (by kernel_rfl : (Try.prog.info? 9).map (fun i => (i.zero, i.size, i.bytes)) = some (some (.string ⟨#[]⟩), 1, 16)) rfl
theorem strcs (A : List ByteArray) : strE.cs A = A.map (encStr ∘ fun s => s.data.toList) := by
  induction A with
  | nil => rfl
  | cons s A ih =>
    have : strE.cs (s :: A) = .string s :: strE.cs A := rfl
    rw [this, List.map_cons, ih]
    rfl
theorem sort_below (w : World) (B : Nat) (v : Value) (A : List ByteArray) (h : Row strE w B 9 v A) (hB : B ≤ w.heap.size) (hl : A.length ≤ 1000000) :
    Calls Try.prog 82 #[v] w fun e w' => e = .returned (.tuple #[]) ∧ Below B w w' := by
  rcases h.2 with ⟨rfl, h0⟩ | ⟨g, cap, cur, rfl, hBg, hgb, hn, hc, hsz, ht⟩
  · exact (Try.slices_Sort_string_none none 0 w).mono fun e w' ⟨h1, h2⟩ => ⟨h1, by rw [h2]; exact Below.refl _ _⟩
  · have hss : cur.toList.take (A.map fun s => s.data.toList).length = (A.map fun s => s.data.toList).map encStr := by
      rw [List.length_map, List.map_map]
      have h9 : cur.toList.take (A.length * 1) = strE.cs A := ht
      rw [Nat.mul_one] at h9
      rw [h9]
      exact strcs A
    have hH := holds_of_block hgb hss
    have hc := Try.slices_Sort_string g 0 cap (A.map fun s => s.data.toList) w hH (Array.getElem?_eq_some_iff.1 hgb).1 (by rw [List.length_map]; omega)
    rw [List.length_map] at hc
    refine hc.mono ?_
    rintro e w' ⟨he, n, os, rfl⟩
    have hg := grownBy_sorted (w := w) (g := g) (n := n) (os := os) ((A.map fun s => s.data.toList).mergeSort fun x y => decide (x ≤ y)).toArray
    exact ⟨he, hg.os, hg.tape, hg.output, hg.size, fun k hk => hg.block k (Nat.lt_of_lt_of_le hk hB) (fun e => by cases e; omega)⟩
set_option maxHeartbeats 4000000 in
theorem bheld_any {n c mu mh mg : Nat} {b : BookT} (t : Int) (w : World) (h : BookAt w n c mu mh mg b) (hn : b.holds.length ≤ 1000000) :
    Calls Try.prog 78 #[.pointer (some ⟨n, 0, none⟩), .int .i64 t] w fun e w' => ∃ a cap, e = .returned (.slice a (heldN b t) cap) ∧ Below w.heap.size w w' := by
  refine calls_by fun R HR => ?_
  have HT := Lib.hid (bthere_yes w h)
  have HB := Lib.hid h
  obtain ⟨⟨z0, z1, z2, z3, z4, z5⟩, fz⟩ := blk6 h.blk
  have HN : Hid (heldN b t = (b.holds.filter fun p => p.2 == t).length) := Lib.hid rfl
  have HL := Lib.hid hn
  generalize heldN b t = hd at *
  clear h fz hn
  go_enter Try.func78, Try.ntmps78
  go_wp2_with fail
  refine HT.out.mono ?_
  rintro en v1 ⟨rfl, hw⟩
  rw [hw]
  clear hw
  go_wp2_with (at_range; refine wpList_range_list _ rfl _ 78 rfl 3 Try.underlying78 rfl HB.out.holds ?_)
  intro w2 hr hb hz
  have H1 := Lib.hid (And.intro hr (And.intro hb hz))
  clear hr hb hz
  generalize hr9 : w.heap.size = r9 at *
  have HR9 := Lib.hid hr9
  clear hr9
  go_wp2_with fail
  go_loopw [5] (fun out wx => ∃ (left : List (ByteArray × Int)) (A : List ByteArray), Hid (RangeAt siKV wx mh r9 b.holds left ∧ Row strE wx w2.heap.size 9 out A ∧ Below r9 w wx ∧ w2.heap.size ≤ wx.heap.size) ∧ Hid (A.length + (left.filter fun p => p.2 == t).length = hd ∧ A.length ≤ 1000000 ∧ A.length + left.length ≤ 1000000)) (fun _ wx => wx.rangeLeft mh r9)
  case atStart => exact ⟨b.holds, [], Lib.hid ⟨H1.out.1, Row.nil _ _ _, H1.out.2.1, Nat.le_refl _⟩, Lib.hid ⟨by rw [HN.out]; simp, by simp, by have := HL.out; simp; omega⟩⟩
  case round =>
    obtain ⟨left, A, hN, hA⟩ := hrel
    have HM := Lib.hid hN.out.1.left_eq
    go_wp2_with (at_next; refine wpList_next_list _ rfl _ rfl rfl hN.out.1 ?_ ?_)
    · intro hl
      subst hl
      obtain ⟨a, cap, rfl, -⟩ := hN.out.2.1.shape
      have HQ := Lib.hid (show hd = A.length by have := hA.out.1; simp at this; omega)
      have hlA := hA.out.2.1
      clear z0 z1 z2 z3 z4 z5
      go_wp2_with fail
      refine (sort_below _ _ _ A hN.out.2.1 hN.out.2.2.2 hlA).mono ?_
      rintro en v5 ⟨rfl, hb5⟩
      have H5 := Lib.hid (hN.out.2.2.1.trans (hb5.mono (by have := H1.out.2.2; omega)))
      clear hb5 hlA
      go_wp2
      exact HR.out _ _ ⟨a, cap, by rw [HQ.out]; try rfl, H5.out⟩
    · intro j x v w3 hj hr3 ht3 hz3 hen
      have hlt : j < left.length := (List.getElem?_eq_some_iff.1 hj).1
      have HF := Lib.hid (len_filter_take (fun p : ByteArray × Int => p.2 == t) hj)
      have HE := Lib.hid (List.length_eraseIdx_of_lt hlt)
      have H3 := Lib.hid (show RangeAt siKV w3 mh r9 b.holds (left.eraseIdx j) ∧ Row strE w3 w2.heap.size 9 u5 A ∧ RowKit.Below r9 w w3 ∧ w2.heap.size ≤ w3.heap.size from
        ⟨hr3, hN.out.2.1.keep fun k e => ht3.block k (hN.out.2.1.lt e).2 (by have := (hN.out.2.1.lt e).1; have := H1.out.2.2; omega), hN.out.2.2.1.trans (ht3.below (fun k hk => by omega) (by have := hN.out.2.2.2; have := H1.out.2.2; omega)), by have := hN.out.2.2.2; omega⟩)
      have HM3 := Lib.hid hr3.left_eq
      have hen2 : (Instr.entry (.pointer (some ⟨r9, 0, none⟩))).run Try.prog w3 = .ok (.tuple #[.string x, .int .i64 v]) w3 := hen
      clear hr3 ht3 hz3 hen hj
      by_cases hv : v = t
      · subst hv
        obtain ⟨W4, hW4⟩ : ∃ W4, w3.alloc (.cells #[.string x] 9) = W4 := ⟨_, rfl⟩
        have hb4 : RowKit.Below w3.heap.size w3 W4 := by rw [← hW4]; exact alloc_below _ _
        have hr4 : Rd strE W4 (.slice (some ⟨w3.heap.size, 0, none⟩) 1 1) [x] := by rw [← hW4]; exact Rd.single (E := strE) x (alloc_new _ _) rfl
        have H4 := Lib.hid (And.intro (H3.out.1.below hb4) (And.intro (H3.out.2.1.below hb4) (And.intro (H3.out.2.2.1.trans (hb4.mono (by have := H3.out.2.2.2; have := H1.out.2.2; omega))) (And.intro (Nat.le_trans H3.out.2.2.2 hb4.size) hr4))))
        clear hb4 hr4
        go_wp2_with (at_builtin; refine wpList_append_row _ rfl _ _ 125 rfl strTB w2.heap.size _ _ A [x] rfl rfl H4.out.2.1 H4.out.2.2.2.2 H4.out.2.2.2.1 (by have := hA.out.2.1; simp; omega) (by decide) ?_)
        intro r5 w5 hG
        have hne9 : ∀ k, k < w2.heap.size → w5.heap[k]? = W4.heap[k]? := fun k hk => hG.2.1.block k (Nat.lt_of_lt_of_le hk H4.out.2.2.2.1) fun e => by have := (H4.out.2.1.lt e.symm).1; omega
        have hmh := HB.out.holds.lt
        have hr5 := H4.out.1.keep (hne9 mh (by have := H1.out.2.2; have := HR9.out; omega)) (hne9 r9 (by have := H1.out.2.2; omega))
        have H5 := Lib.hid (And.intro hr5 (And.intro hG.1 (And.intro (hG.below H4.out.2.2.1 (by have := H4.out.2.2.2.1; have := H1.out.2.2; omega) (fun b e => by have := (H4.out.2.1.lt e).1; have := H1.out.2.2; omega)) (Nat.le_trans H4.out.2.2.2.1 hG.2.1.size))))
        have HM5 := Lib.hid hr5.left_eq
        clear hG hW4 hne9 hmh hr5
        go_wp2_with fail
        go_roundw
        case rel => exact ⟨left.eraseIdx j, A ++ [x], H5, Lib.hid ⟨by have := HF.out; have := hA.out.1; simp at *; omega, by have := hA.out.2.2; have := HE.out; simp; omega, by have := hA.out.2.2; have := HE.out; simp; omega⟩⟩
        case measure => rw [HM5.out, HM.out, HE.out]; omega
      · have hv2 : (v == t) = false := by simpa using hv
        go_wp2_with fail
        go_roundw
        case rel => exact ⟨left.eraseIdx j, A, H3, Lib.hid ⟨by have := HF.out; have := hA.out.1; simp [hv2] at *; omega, hA.out.2.1, by have := hA.out.2.2; have := HE.out; omega⟩⟩
        case measure => rw [HM3.out, HM.out, HE.out]; omega
end Go.Proofs.Ytnkiokaeooopgaa
/- Why a record can't be applied: of the program. -/
set_option maxRecDepth 100000
namespace Go.Proofs.Ytnkiokaeooopgaa
open Go.RowKit Ks Go.Maps
set_option linter.unusedVariables false
set_option linter.unusedSimpArgs false
theorem holds_look {w : World} {n c mu mh mg : Nat} {b : BookT} (h : BookAt w n c mu mh mg b) (s : ByteArray) (hs : s.size ≤ maxLen) :
    (Instr.lookup 78 (.map (some mh)) (.string s) true).run Try.prog w = .ok (.tuple #[.int .i64 ((Ks.look b.holds s).getD 0), .bool (Ks.look b.holds s).isSome]) w := by
  have := h.holds.look strKey Try.underlying78 (zeroI w) (siKV_ok hs) true
  rw [show lookV siKV.val (.int .i64 0) true (Ks.look b.holds s) = .tuple #[.int .i64 ((Ks.look b.holds s).getD 0), .bool (Ks.look b.holds s).isSome] by cases Ks.look b.holds s <;> rfl] at this
  exact this
theorem till_look {w : World} {n c mu mh mg : Nat} {b : BookT} (h : BookAt w n c mu mh mg b) (t : Int) (ht : -9223372036854775808 ≤ t ∧ t ≤ 9223372036854775807) :
    (Instr.lookup 77 (.map (some mu)) (.int .i64 t) false).run Try.prog w = .ok (.int .i64 (tillN b t)) w := by
  have := h.till.look intKey Try.underlying77 (zeroI w) (iiKV_ok ht) false
  rw [till_v] at this
  exact this
theorem gone_look {w : World} {n c mu mh mg : Nat} {b : BookT} (h : BookAt w n c mu mh mg b) (t : Int) (ht : -9223372036854775808 ≤ t ∧ t ≤ 9223372036854775807) :
    (Instr.lookup 79 (.map (some mg)) (.int .i64 t) false).run Try.prog w = .ok (.bool (goneB b t)) w := by
  have := h.gone.look intKey Try.underlying79 (zeroB w) (ibKV_ok ht) false
  rw [gone_v] at this
  exact this
/-- a record that a call may be handed -/
def fitRec (r : RecT) : Prop := (-9223372036854775808 ≤ r.target ∧ r.target ≤ 9223372036854775807) ∧ r.name.size ≤ maxLen
set_option maxRecDepth 100000 in
set_option maxHeartbeats 4000000 in
theorem btarget_any {n c mu mh mg : Nat} {b : BookT} (r : RecT) (w : World) (h : BookAt w n c mu mh mg b) (hf : fitRec r)  :
    Calls Try.prog 66 #[.pointer (some ⟨n, 0, none⟩), recV r] w fun e w' => e = .returned (.int .i64 (targetE b r)) ∧ Below w.heap.size w w' := by
  refine calls_by fun R HR => ?_
  have HD := Lib.hid h
  have HF := Lib.hid hf
  have HZ0 : Hid (targetE b r = if r.kind = 1 then 0 else if r.kind = 4 then (if (Ks.look b.holds r.name).isSome then 0 else 7) else if r.target < b.first then 7 else if goneB b r.target then 13 else 0) := Lib.hid rfl
  generalize targetE b r = TE at *
  obtain ⟨kd, ep, tm, ct, tg, un, rt, nm⟩ := r
  simp only at HZ0
  clear h hf
  have H1 := Lib.hid (And.intro (Below.refl w.heap.size w) (HD.out))
  obtain ⟨W1, hW1⟩ : ∃ W1, w.alloc (.cells #[.int .i64 kd, .int .i64 ep, .int .i64 tm, .int .i64 ct, .int .i64 tg, .int .i64 un, .string rt, .string nm] 69) = W1 := ⟨_, rfl⟩
  have hbW1 : Below w.heap.size w W1 := by rw [← hW1]; exact alloc_below w _
  have kW1 : W1.heap[w.heap.size]? = some (.cells #[.int .i64 kd, .int .i64 ep, .int .i64 tm, .int .i64 ct, .int .i64 tg, .int .i64 un, .string rt, .string nm] 69 (0, 0)) := by rw [← hW1]; exact alloc_new w _
  have H2 := Lib.hid (And.intro (H1.out.1.trans (hbW1.mono H1.out.1.size)) (And.intro (H1.out.2.below hbW1) (kW1)))
  clear hbW1 kW1
  obtain ⟨⟨z0, z1, z2, z3, z4, z5⟩, -⟩ := blk6 H2.out.2.1.blk
  obtain ⟨⟨r0, r1, r2, r3, r4, r5, r6, r7⟩, -⟩ := blkR H2.out.2.2
  go_enter Try.func66, Try.ntmps66
  go_wp2_with fail
  have gr0 := fun p => after_cell r0 p
  have gr1 := fun p => after_cell r1 p
  have gr2 := fun p => after_cell r2 p
  have gr3 := fun p => after_cell r3 p
  have gr4 := fun p => after_cell r4 p
  have gr5 := fun p => after_cell r5 p
  have gr6 := fun p => after_cell r6 p
  have gr7 := fun p => after_cell r7 p
  have gz0 := fun p => after_cell z0 p
  have gz1 := fun p => after_cell z1 p
  have gz2 := fun p => after_cell z2 p
  have gz3 := fun p => after_cell z3 p
  have gz4 := fun p => after_cell z4 p
  have gz5 := fun p => after_cell z5 p
  have hl0 := fun p => holds_look (H2.out.2.1.below (after_below W1 p)) nm HF.out.2
  refine wp_region_after (by kernel_rfl) (by kernel_rfl) ?_
  repeat (go_big_quiet_step (fail))
  refine wpQuiet_nil ?_
  rintro q1 ⟨p9, rfl⟩
  have hb := after_below W1 p9
  have H3 := Lib.hid (And.intro (H2.out.1.trans (hb.mono H2.out.1.size)) (And.intro (H2.out.2.1.below hb) (blk_on hb H2.out.2.2)))
  generalize After W1 p9 = q1 at *
  clear hb gr0 gr1 gr2 gr3 gr4 gr5 gr6 gr7 gz0 gz1 gz2 gz3 gz4 gz5 hl0 
  clear r0 r1 r2 r3 r4 r5 r6 r7 z0 z1 z2 z3 z4 z5
  generalize (Ks.look b.holds nm).isSome = IS at *
  obtain ⟨⟨z0, z1, z2, z3, z4, z5⟩, -⟩ := blk6 H3.out.2.1.blk
  obtain ⟨⟨r0, r1, r2, r3, r4, r5, r6, r7⟩, -⟩ := blkR H3.out.2.2
  by_cases k1 : kd = 1
  · subst k1
    have HZ := Lib.hid (show TE = 0 by rw [HZ0.out]; simp [])
    go_wp2
    exact HR.out _ _ ⟨by rw [HZ.out]; try rfl, H3.out.1⟩
  have hk1 : (kd == 1) = false := by simpa using k1
  by_cases k4 : kd = 4
  · subst k4
    cases IS with
    | true =>
      have HZ := Lib.hid (show TE = 0 by rw [HZ0.out]; simp [])
      go_wp2
      exact HR.out _ _ ⟨by rw [HZ.out]; try rfl, H3.out.1⟩
    | false =>
      have HZ := Lib.hid (show TE = 7 by rw [HZ0.out]; simp [])
      go_wp2
      exact HR.out _ _ ⟨by rw [HZ.out]; try rfl, H3.out.1⟩
  have hk4 : (kd == 4) = false := by simpa using k4
  by_cases hf1 : tg < b.first
  · have HZ := Lib.hid (show TE = 7 by rw [HZ0.out]; simp [k1, k4, hf1])
    go_wp2_with fail
    have gr0 := fun p => after_cell r0 p
    have gr1 := fun p => after_cell r1 p
    have gr2 := fun p => after_cell r2 p
    have gr3 := fun p => after_cell r3 p
    have gr4 := fun p => after_cell r4 p
    have gr5 := fun p => after_cell r5 p
    have gr6 := fun p => after_cell r6 p
    have gr7 := fun p => after_cell r7 p
    have gz0 := fun p => after_cell z0 p
    have gz1 := fun p => after_cell z1 p
    have gz2 := fun p => after_cell z2 p
    have gz3 := fun p => after_cell z3 p
    have gz4 := fun p => after_cell z4 p
    have gz5 := fun p => after_cell z5 p
    refine wp_region_after (by kernel_rfl) (by kernel_rfl) ?_
    repeat (go_big_quiet_step (fail))
    refine wpQuiet_nil ?_
    rintro q2 ⟨p9, rfl⟩
    have hb := after_below q1 p9
    have H4 := Lib.hid (And.intro (H3.out.1.trans (hb.mono H3.out.1.size)) (And.intro (H3.out.2.1.below hb) (blk_on hb H3.out.2.2)))
    generalize After q1 p9 = q2 at *
    clear hb gr0 gr1 gr2 gr3 gr4 gr5 gr6 gr7 gz0 gz1 gz2 gz3 gz4 gz5  
    clear r0 r1 r2 r3 r4 r5 r6 r7 z0 z1 z2 z3 z4 z5
    go_wp2
    exact HR.out _ _ ⟨by rw [HZ.out]; try rfl, H4.out.1⟩
  have HZ1 := Lib.hid (show TE = if goneB b tg then 13 else 0 by rw [HZ0.out]; simp [k1, k4, hf1])
  go_wp2_with fail
  have gr0 := fun p => after_cell r0 p
  have gr1 := fun p => after_cell r1 p
  have gr2 := fun p => after_cell r2 p
  have gr3 := fun p => after_cell r3 p
  have gr4 := fun p => after_cell r4 p
  have gr5 := fun p => after_cell r5 p
  have gr6 := fun p => after_cell r6 p
  have gr7 := fun p => after_cell r7 p
  have gz0 := fun p => after_cell z0 p
  have gz1 := fun p => after_cell z1 p
  have gz2 := fun p => after_cell z2 p
  have gz3 := fun p => after_cell z3 p
  have gz4 := fun p => after_cell z4 p
  have gz5 := fun p => after_cell z5 p
  refine wp_region_after (by kernel_rfl) (by kernel_rfl) ?_
  repeat (go_big_quiet_step (fail))
  refine wpQuiet_nil ?_
  rintro q2 ⟨p9, rfl⟩
  have hb := after_below q1 p9
  have H4 := Lib.hid (And.intro (H3.out.1.trans (hb.mono H3.out.1.size)) (And.intro (H3.out.2.1.below hb) (blk_on hb H3.out.2.2)))
  generalize After q1 p9 = q2 at *
  clear hb gr0 gr1 gr2 gr3 gr4 gr5 gr6 gr7 gz0 gz1 gz2 gz3 gz4 gz5  
  clear r0 r1 r2 r3 r4 r5 r6 r7 z0 z1 z2 z3 z4 z5
  obtain ⟨⟨z0, z1, z2, z3, z4, z5⟩, -⟩ := blk6 H4.out.2.1.blk
  obtain ⟨⟨r0, r1, r2, r3, r4, r5, r6, r7⟩, -⟩ := blkR H4.out.2.2
  go_wp2_with fail
  have gr0 := fun p => after_cell r0 p
  have gr1 := fun p => after_cell r1 p
  have gr2 := fun p => after_cell r2 p
  have gr3 := fun p => after_cell r3 p
  have gr4 := fun p => after_cell r4 p
  have gr5 := fun p => after_cell r5 p
  have gr6 := fun p => after_cell r6 p
  have gr7 := fun p => after_cell r7 p
  have gz0 := fun p => after_cell z0 p
  have gz1 := fun p => after_cell z1 p
  have gz2 := fun p => after_cell z2 p
  have gz3 := fun p => after_cell z3 p
  have gz4 := fun p => after_cell z4 p
  have gz5 := fun p => after_cell z5 p
  have hl0 := fun p => gone_look (H4.out.2.1.below (after_below q2 p)) tg HF.out.1
  refine wp_region_after (by kernel_rfl) (by kernel_rfl) ?_
  repeat (go_big_quiet_step (fail))
  refine wpQuiet_nil ?_
  rintro q3 ⟨p9, rfl⟩
  have hb := after_below q2 p9
  have H5 := Lib.hid (And.intro (H4.out.1.trans (hb.mono H4.out.1.size)) (And.intro (H4.out.2.1.below hb) (blk_on hb H4.out.2.2)))
  generalize After q2 p9 = q3 at *
  clear hb gr0 gr1 gr2 gr3 gr4 gr5 gr6 gr7 gz0 gz1 gz2 gz3 gz4 gz5 hl0 
  clear r0 r1 r2 r3 r4 r5 r6 r7 z0 z1 z2 z3 z4 z5
  cases hg : goneB b tg with
  | true =>
    have HZ := Lib.hid (show TE = 13 by rw [HZ1.out, hg]; rfl)
    go_wp2
    exact HR.out _ _ ⟨by rw [HZ.out]; try rfl, H5.out.1⟩
  | false =>
    have HZ := Lib.hid (show TE = 0 by rw [HZ1.out, hg]; rfl)
    go_wp2
    exact HR.out _ _ ⟨by rw [HZ.out]; try rfl, H5.out.1⟩
set_option maxRecDepth 100000 in
set_option maxHeartbeats 4000000 in
theorem bhold_any {n c mu mh mg : Nat} {b : BookT} (r : RecT) (w : World) (h : BookAt w n c mu mh mg b) (hf : fitRec r)  :
    Calls Try.prog 67 #[.pointer (some ⟨n, 0, none⟩), recV r] w fun e w' => e = .returned (.int .i64 (bookHoldE b r)) ∧ Below w.heap.size w w' := by
  refine calls_by fun R HR => ?_
  have HD := Lib.hid h
  have HF := Lib.hid hf
  have HZ0 : Hid (bookHoldE b r = if (Ks.look b.holds r.name).isSome then 19 else if 64 ≤ b.holds.length then 5 else 0) := Lib.hid rfl
  generalize bookHoldE b r = TE at *
  obtain ⟨kd, ep, tm, ct, tg, un, rt, nm⟩ := r
  simp only at HZ0
  clear h hf
  have H1 := Lib.hid (And.intro (Below.refl w.heap.size w) (HD.out))
  obtain ⟨W1, hW1⟩ : ∃ W1, w.alloc (.cells #[.int .i64 kd, .int .i64 ep, .int .i64 tm, .int .i64 ct, .int .i64 tg, .int .i64 un, .string rt, .string nm] 69) = W1 := ⟨_, rfl⟩
  have hbW1 : Below w.heap.size w W1 := by rw [← hW1]; exact alloc_below w _
  have kW1 : W1.heap[w.heap.size]? = some (.cells #[.int .i64 kd, .int .i64 ep, .int .i64 tm, .int .i64 ct, .int .i64 tg, .int .i64 un, .string rt, .string nm] 69 (0, 0)) := by rw [← hW1]; exact alloc_new w _
  have H2 := Lib.hid (And.intro (H1.out.1.trans (hbW1.mono H1.out.1.size)) (And.intro (H1.out.2.below hbW1) (kW1)))
  clear hbW1 kW1
  obtain ⟨⟨z0, z1, z2, z3, z4, z5⟩, -⟩ := blk6 H2.out.2.1.blk
  obtain ⟨⟨r0, r1, r2, r3, r4, r5, r6, r7⟩, -⟩ := blkR H2.out.2.2
  go_enter Try.func67, Try.ntmps67
  go_wp2_with fail
  have gr0 := fun p => after_cell r0 p
  have gr1 := fun p => after_cell r1 p
  have gr2 := fun p => after_cell r2 p
  have gr3 := fun p => after_cell r3 p
  have gr4 := fun p => after_cell r4 p
  have gr5 := fun p => after_cell r5 p
  have gr6 := fun p => after_cell r6 p
  have gr7 := fun p => after_cell r7 p
  have gz0 := fun p => after_cell z0 p
  have gz1 := fun p => after_cell z1 p
  have gz2 := fun p => after_cell z2 p
  have gz3 := fun p => after_cell z3 p
  have gz4 := fun p => after_cell z4 p
  have gz5 := fun p => after_cell z5 p
  have hl0 := fun p => holds_look (H2.out.2.1.below (after_below W1 p)) nm HF.out.2
  refine wp_region_after (by kernel_rfl) (by kernel_rfl) ?_
  repeat (go_big_quiet_step (fail))
  refine wpQuiet_nil ?_
  rintro q1 ⟨p9, rfl⟩
  have hb := after_below W1 p9
  have H3 := Lib.hid (And.intro (H2.out.1.trans (hb.mono H2.out.1.size)) (And.intro (H2.out.2.1.below hb) (blk_on hb H2.out.2.2)))
  generalize After W1 p9 = q1 at *
  clear hb gr0 gr1 gr2 gr3 gr4 gr5 gr6 gr7 gz0 gz1 gz2 gz3 gz4 gz5 hl0 
  clear r0 r1 r2 r3 r4 r5 r6 r7 z0 z1 z2 z3 z4 z5
  generalize (Ks.look b.holds nm).isSome = IS at *
  obtain ⟨⟨z0, z1, z2, z3, z4, z5⟩, -⟩ := blk6 H3.out.2.1.blk
  obtain ⟨⟨r0, r1, r2, r3, r4, r5, r6, r7⟩, -⟩ := blkR H3.out.2.2
  cases IS with
  | true =>
    have HZ := Lib.hid (show TE = 19 by rw [HZ0.out]; rfl)
    go_wp2
    exact HR.out _ _ ⟨by rw [HZ.out]; try rfl, H3.out.1⟩
  | false =>
    by_cases h6 : 64 ≤ b.holds.length
    · skip
      have h6i : (64 : Int) ≤ (b.holds.length : Int) := by omega
      have HZ := Lib.hid (show TE = 5 by rw [HZ0.out]; simp [h6])
      have h6d : decide ((64 : Int) ≤ (b.holds.length : Int)) = true := decide_eq_true h6i
      go_wp2_with (at_len; refine wpList_mlen _ rfl _ 78 rfl 3 Try.underlying78 (H3.out.2.1).holds rfl ?_)
      exact HR.out _ _ ⟨by rw [HZ.out]; try rfl, H3.out.1⟩
    · skip
      have h6i : ¬ (64 : Int) ≤ (b.holds.length : Int) := by omega
      have HZ := Lib.hid (show TE = 0 by rw [HZ0.out]; simp [h6])
      have h6d : decide ((64 : Int) ≤ (b.holds.length : Int)) = false := decide_eq_false h6i
      have h6e : decide (64 ≤ b.holds.length) = false := decide_eq_false h6
      go_wp2_with (at_len; refine wpList_mlen _ rfl _ 78 rfl 3 Try.underlying78 (H3.out.2.1).holds rfl ?_)
      exact HR.out _ _ ⟨by rw [HZ.out]; try rfl, H3.out.1⟩
set_option maxRecDepth 100000 in
set_option maxHeartbeats 4000000 in
theorem bpurge_any {n c mu mh mg : Nat} {b : BookT} (r : RecT) (w : World) (h : BookAt w n c mu mh mg b) (hf : fitRec r) (hn : b.holds.length ≤ 1000000) :
    Calls Try.prog 68 #[.pointer (some ⟨n, 0, none⟩), recV r] w fun e w' => e = .returned (.int .i64 (purgeE b r)) ∧ Below w.heap.size w w' := by
  refine calls_by fun R HR => ?_
  have HD := Lib.hid h
  have HF := Lib.hid hf
  have HZ0 : Hid (purgeE b r = if r.time < tillN b r.target then 9 else if 0 < heldN b r.target then 10 else if r.till ≠ tillN b r.target then 2 else 0) := Lib.hid rfl
  have HHe := Lib.hid (fun (t : Int) w (h : BookAt w n c mu mh mg b) => bheld_any t w h hn)
  generalize purgeE b r = TE at *
  obtain ⟨kd, ep, tm, ct, tg, un, rt, nm⟩ := r
  simp only at HZ0
  clear h hf hn
  have H1 := Lib.hid (And.intro (Below.refl w.heap.size w) (HD.out))
  obtain ⟨W1, hW1⟩ : ∃ W1, w.alloc (.cells #[.int .i64 kd, .int .i64 ep, .int .i64 tm, .int .i64 ct, .int .i64 tg, .int .i64 un, .string rt, .string nm] 69) = W1 := ⟨_, rfl⟩
  have hbW1 : Below w.heap.size w W1 := by rw [← hW1]; exact alloc_below w _
  have kW1 : W1.heap[w.heap.size]? = some (.cells #[.int .i64 kd, .int .i64 ep, .int .i64 tm, .int .i64 ct, .int .i64 tg, .int .i64 un, .string rt, .string nm] 69 (0, 0)) := by rw [← hW1]; exact alloc_new w _
  have H2 := Lib.hid (And.intro (H1.out.1.trans (hbW1.mono H1.out.1.size)) (And.intro (H1.out.2.below hbW1) (kW1)))
  clear hbW1 kW1
  obtain ⟨⟨z0, z1, z2, z3, z4, z5⟩, -⟩ := blk6 H2.out.2.1.blk
  obtain ⟨⟨r0, r1, r2, r3, r4, r5, r6, r7⟩, -⟩ := blkR H2.out.2.2
  go_enter Try.func68, Try.ntmps68
  go_wp2_with fail
  have gr0 := fun p => after_cell r0 p
  have gr1 := fun p => after_cell r1 p
  have gr2 := fun p => after_cell r2 p
  have gr3 := fun p => after_cell r3 p
  have gr4 := fun p => after_cell r4 p
  have gr5 := fun p => after_cell r5 p
  have gr6 := fun p => after_cell r6 p
  have gr7 := fun p => after_cell r7 p
  have gz0 := fun p => after_cell z0 p
  have gz1 := fun p => after_cell z1 p
  have gz2 := fun p => after_cell z2 p
  have gz3 := fun p => after_cell z3 p
  have gz4 := fun p => after_cell z4 p
  have gz5 := fun p => after_cell z5 p
  have hl0 := fun p => till_look (H2.out.2.1.below (after_below W1 p)) tg HF.out.1
  refine wp_region_after (by kernel_rfl) (by kernel_rfl) ?_
  repeat (go_big_quiet_step (fail))
  refine wpQuiet_nil ?_
  rintro q1 ⟨p9, rfl⟩
  have hb := after_below W1 p9
  have H3 := Lib.hid (And.intro (H2.out.1.trans (hb.mono H2.out.1.size)) (And.intro (H2.out.2.1.below hb) (blk_on hb H2.out.2.2)))
  generalize After W1 p9 = q1 at *
  clear hb gr0 gr1 gr2 gr3 gr4 gr5 gr6 gr7 gz0 gz1 gz2 gz3 gz4 gz5 hl0 
  clear r0 r1 r2 r3 r4 r5 r6 r7 z0 z1 z2 z3 z4 z5
  generalize tillN b tg = UN at *
  obtain ⟨⟨z0, z1, z2, z3, z4, z5⟩, -⟩ := blk6 H3.out.2.1.blk
  obtain ⟨⟨r0, r1, r2, r3, r4, r5, r6, r7⟩, -⟩ := blkR H3.out.2.2
  by_cases h1 : tm < UN
  · skip
    have HZ := Lib.hid (show TE = 9 by rw [HZ0.out]; simp [h1])
    go_wp2
    exact HR.out _ _ ⟨by rw [HZ.out]; try rfl, H3.out.1⟩
  go_wp2_with fail
  refine (HHe.out _ _ H3.out.2.1).mono ?_
  rintro en v1 ⟨ha, hc, rfl, hb⟩
  have H4 := Lib.hid (And.intro (H3.out.1.trans (hb.mono H3.out.1.size)) (And.intro (H3.out.2.1.below hb) (blk_on hb H3.out.2.2)))
  clear hb
  clear r0 r1 r2 r3 r4 r5 r6 r7 z0 z1 z2 z3 z4 z5
  generalize heldN b tg = HN at *
  obtain ⟨⟨z0, z1, z2, z3, z4, z5⟩, -⟩ := blk6 H4.out.2.1.blk
  obtain ⟨⟨r0, r1, r2, r3, r4, r5, r6, r7⟩, -⟩ := blkR H4.out.2.2
  by_cases h2 : 0 < HN
  · have h2i : (0 : Int) < (HN : Int) := by omega
    have HZ := Lib.hid (show TE = 10 by rw [HZ0.out]; simp [h1, h2])
    go_wp2
    exact HR.out _ _ ⟨by rw [HZ.out]; try rfl, H4.out.1⟩
  have h2i : ¬ (0 : Int) < (HN : Int) := by omega
  by_cases h3 : un = UN
  · have h3b : (un != UN) = false := by simpa using h3
    have HZ := Lib.hid (show TE = 0 by rw [HZ0.out]; simp [h1, h2, h3])
    go_wp2
    exact HR.out _ _ ⟨by rw [HZ.out]; try rfl, H4.out.1⟩
  have h3b : (un != UN) = true := by simpa using h3
  have HZ := Lib.hid (show TE = 2 by rw [HZ0.out]; simp [h1, h2, h3])
  go_wp2
  exact HR.out _ _ ⟨by rw [HZ.out]; try rfl, H4.out.1⟩
set_option maxRecDepth 100000 in
set_option maxHeartbeats 4000000 in
theorem bmay_any {n c mu mh mg : Nat} {b : BookT} (r : RecT) (w : World) (h : BookAt w n c mu mh mg b) (hf : fitRec r) (hn : b.holds.length ≤ 1000000) :
    Calls Try.prog 47 #[.pointer (some ⟨n, 0, none⟩), recV r] w fun e w' => e = .returned (.int .i64 (mayE b r)) ∧ Below w.heap.size w w' := by
  refine calls_by fun R HR => ?_
  have HD := Lib.hid h
  have HF := Lib.hid hf
  have HZ0 : Hid (mayE b r = if chkB r = false then 2 else if r.epoch ≠ b.epoch ∨ r.time < b.now then 16 else if targetE b r ≠ 0 then targetE b r else kindE b r) := Lib.hid rfl
  have HK0 : Hid (kindE b r = if r.kind = 2 then (if r.till < tillN b r.target then 12 else 0) else if r.kind = 3 then bookHoldE b r else if r.kind = 5 then purgeE b r else 0) := Lib.hid rfl
  have HTh := Lib.hid (fun w (h : BookAt w n c mu mh mg b) => bthere_yes w h)
  have HNo := Lib.hid (fun w (h : BookAt w n c mu mh mg b) => bnow_any w h)
  have HCk := Lib.hid (fun w => check_any r w (by have := hf.2; unfold maxLen at this; omega))
  have HTa := Lib.hid (fun w (h : BookAt w n c mu mh mg b) => btarget_any r w h hf)
  have HHo := Lib.hid (fun w (h : BookAt w n c mu mh mg b) => bhold_any r w h hf)
  have HPu := Lib.hid (fun w (h : BookAt w n c mu mh mg b) => bpurge_any r w h hf hn)
  generalize mayE b r = TE at *
  generalize kindE b r = KE at *
  generalize bookHoldE b r = HO at *
  generalize purgeE b r = PU at *
  generalize targetE b r = TA at *
  generalize chkB r = CB at *
  obtain ⟨kd, ep, tm, ct, tg, un, rt, nm⟩ := r
  simp only at HZ0 HK0
  clear h hf hn
  have H1 := Lib.hid (And.intro (Below.refl w.heap.size w) (HD.out))
  obtain ⟨W1, hW1⟩ : ∃ W1, w.alloc (.cells #[.int .i64 kd, .int .i64 ep, .int .i64 tm, .int .i64 ct, .int .i64 tg, .int .i64 un, .string rt, .string nm] 69) = W1 := ⟨_, rfl⟩
  have hbW1 : Below w.heap.size w W1 := by rw [← hW1]; exact alloc_below w _
  have kW1 : W1.heap[w.heap.size]? = some (.cells #[.int .i64 kd, .int .i64 ep, .int .i64 tm, .int .i64 ct, .int .i64 tg, .int .i64 un, .string rt, .string nm] 69 (0, 0)) := by rw [← hW1]; exact alloc_new w _
  have H2 := Lib.hid (And.intro (H1.out.1.trans (hbW1.mono H1.out.1.size)) (And.intro (H1.out.2.below hbW1) (kW1)))
  clear hbW1 kW1
  obtain ⟨⟨r0, r1, r2, r3, r4, r5, r6, r7⟩, -⟩ := blkR H2.out.2.2
  go_enter Try.func47, Try.ntmps47
  go_wp2_with fail
  refine (HTh.out _ H2.out.2.1).mono ?_
  rintro en y0 ⟨rfl, hw⟩
  rw [hw]
  clear hw
  go_wp2_with fail
  refine (HCk.out _).mono ?_
  rintro en v1 ⟨rfl, hb⟩
  have H3 := Lib.hid (And.intro (H2.out.1.trans (hb.mono H2.out.1.size)) (And.intro (H2.out.2.1.below hb) (blk_on hb H2.out.2.2)))
  clear hb
  clear r0 r1 r2 r3 r4 r5 r6 r7 hW1
  cases CB with
  | false =>
    have HZ := Lib.hid (show TE = 2 by rw [HZ0.out]; rfl)
    go_wp2
    exact HR.out _ _ ⟨by rw [HZ.out]; try rfl, H3.out.1⟩
  | true =>
    simp only [if_true]
    obtain ⟨⟨z0, z1, z2, z3, z4, z5⟩, -⟩ := blk6 H3.out.2.1.blk
    obtain ⟨⟨r0, r1, r2, r3, r4, r5, r6, r7⟩, -⟩ := blkR H3.out.2.2
    by_cases c1 : ep = b.epoch
    case neg =>
      have c1b : (ep != b.epoch) = true := by simpa using c1
      go_wp2_with fail
      have gr0 := fun p => after_cell r0 p
      have gr1 := fun p => after_cell r1 p
      have gr2 := fun p => after_cell r2 p
      have gr3 := fun p => after_cell r3 p
      have gr4 := fun p => after_cell r4 p
      have gr5 := fun p => after_cell r5 p
      have gr6 := fun p => after_cell r6 p
      have gr7 := fun p => after_cell r7 p
      have gz0 := fun p => after_cell z0 p
      have gz1 := fun p => after_cell z1 p
      have gz2 := fun p => after_cell z2 p
      have gz3 := fun p => after_cell z3 p
      have gz4 := fun p => after_cell z4 p
      have gz5 := fun p => after_cell z5 p
      refine wp_region_after (by kernel_rfl) (by kernel_rfl) ?_
      repeat (go_big_quiet_step (fail))
      refine wpQuiet_nil ?_
      rintro q1 ⟨p9, rfl⟩
      have hb := after_below v1 p9
      have H4 := Lib.hid (And.intro (H3.out.1.trans (hb.mono H3.out.1.size)) (And.intro (H3.out.2.1.below hb) (blk_on hb H3.out.2.2)))
      generalize After v1 p9 = q1 at *
      clear hb gr0 gr1 gr2 gr3 gr4 gr5 gr6 gr7 gz0 gz1 gz2 gz3 gz4 gz5  
      clear r0 r1 r2 r3 r4 r5 r6 r7 z0 z1 z2 z3 z4 z5
      have HZ := Lib.hid (show TE = 16 by rw [HZ0.out]; simp [c1])
      go_wp2
      exact HR.out _ _ ⟨by rw [HZ.out]; try rfl, H4.out.1⟩
    case pos =>
      have c1b : (ep != b.epoch) = false := by simpa using c1
      have HC1 := Lib.hid c1
      clear c1
      by_cases c2 : tm < b.now
      · skip
        go_wp2_with fail
        have gr0 := fun p => after_cell r0 p
        have gr1 := fun p => after_cell r1 p
        have gr2 := fun p => after_cell r2 p
        have gr3 := fun p => after_cell r3 p
        have gr4 := fun p => after_cell r4 p
        have gr5 := fun p => after_cell r5 p
        have gr6 := fun p => after_cell r6 p
        have gr7 := fun p => after_cell r7 p
        have gz0 := fun p => after_cell z0 p
        have gz1 := fun p => after_cell z1 p
        have gz2 := fun p => after_cell z2 p
        have gz3 := fun p => after_cell z3 p
        have gz4 := fun p => after_cell z4 p
        have gz5 := fun p => after_cell z5 p
        have cc0 := Lib.hid (fun p => calls_after_same (p := p) ((HNo.out _ (H3.out.2.1.below (after_below v1 p))).mono fun _ _ h => ⟨h.1, h.2.symm⟩))
        refine wp_region_after (by kernel_rfl) (by kernel_rfl) ?_
        repeat (go_big_quiet_step (fail))
        go_big_quiet_step (with_reducible exact cc0.out _)
        repeat (go_big_quiet_step (fail))
        refine wpQuiet_nil ?_
        rintro q1 ⟨p9, rfl⟩
        have hb := after_below v1 p9
        have H4 := Lib.hid (And.intro (H3.out.1.trans (hb.mono H3.out.1.size)) (And.intro (H3.out.2.1.below hb) (blk_on hb H3.out.2.2)))
        generalize After v1 p9 = q1 at *
        clear hb gr0 gr1 gr2 gr3 gr4 gr5 gr6 gr7 gz0 gz1 gz2 gz3 gz4 gz5  cc0
        clear r0 r1 r2 r3 r4 r5 r6 r7 z0 z1 z2 z3 z4 z5
        have HZ := Lib.hid (show TE = 16 by rw [HZ0.out]; simp [c2])
        go_wp2
        exact HR.out _ _ ⟨by rw [HZ.out]; try rfl, H4.out.1⟩
      go_wp2_with fail
      have gr0 := fun p => after_cell r0 p
      have gr1 := fun p => after_cell r1 p
      have gr2 := fun p => after_cell r2 p
      have gr3 := fun p => after_cell r3 p
      have gr4 := fun p => after_cell r4 p
      have gr5 := fun p => after_cell r5 p
      have gr6 := fun p => after_cell r6 p
      have gr7 := fun p => after_cell r7 p
      have gz0 := fun p => after_cell z0 p
      have gz1 := fun p => after_cell z1 p
      have gz2 := fun p => after_cell z2 p
      have gz3 := fun p => after_cell z3 p
      have gz4 := fun p => after_cell z4 p
      have gz5 := fun p => after_cell z5 p
      have cc0 := Lib.hid (fun p => calls_after_same (p := p) ((HNo.out _ (H3.out.2.1.below (after_below v1 p))).mono fun _ _ h => ⟨h.1, h.2.symm⟩))
      refine wp_region_after (by kernel_rfl) (by kernel_rfl) ?_
      repeat (go_big_quiet_step (fail))
      go_big_quiet_step (with_reducible exact cc0.out _)
      repeat (go_big_quiet_step (fail))
      refine wpQuiet_nil ?_
      rintro q1 ⟨p9, rfl⟩
      have hb := after_below v1 p9
      have H4 := Lib.hid (And.intro (H3.out.1.trans (hb.mono H3.out.1.size)) (And.intro (H3.out.2.1.below hb) (blk_on hb H3.out.2.2)))
      generalize After v1 p9 = q1 at *
      clear hb gr0 gr1 gr2 gr3 gr4 gr5 gr6 gr7 gz0 gz1 gz2 gz3 gz4 gz5  cc0
      clear r0 r1 r2 r3 r4 r5 r6 r7 z0 z1 z2 z3 z4 z5
      obtain ⟨⟨z0, z1, z2, z3, z4, z5⟩, -⟩ := blk6 H4.out.2.1.blk
      obtain ⟨⟨r0, r1, r2, r3, r4, r5, r6, r7⟩, -⟩ := blkR H4.out.2.2
      have HZ1 := Lib.hid (show TE = if TA ≠ 0 then TA else KE by rw [HZ0.out, if_neg (show ¬ (true = false) by decide), if_neg (show ¬ (ep ≠ b.epoch ∨ tm < b.now) from fun q => q.elim (fun q => q HC1.out) (fun q => by omega))])
      go_wp2_with fail
      refine (HTa.out _ H4.out.2.1).mono ?_
      rintro en v2 ⟨rfl, hb⟩
      have H5 := Lib.hid (And.intro (H4.out.1.trans (hb.mono H4.out.1.size)) (And.intro (H4.out.2.1.below hb) (blk_on hb H4.out.2.2)))
      clear hb
      clear r0 r1 r2 r3 r4 r5 r6 r7 z0 z1 z2 z3 z4 z5
      obtain ⟨⟨z0, z1, z2, z3, z4, z5⟩, -⟩ := blk6 H5.out.2.1.blk
      obtain ⟨⟨r0, r1, r2, r3, r4, r5, r6, r7⟩, -⟩ := blkR H5.out.2.2
      by_cases c3 : TA = 0
      case neg =>
        have c3b : (TA != 0) = true := by simpa using c3
        have HZ := Lib.hid (show TE = TA by rw [HZ1.out]; simp [c3])
        go_wp2
        exact HR.out _ _ ⟨by rw [HZ.out]; try rfl, H5.out.1⟩
      case pos =>
        subst c3
        have HZ2 := Lib.hid (show TE = KE by rw [HZ1.out]; simp)
        by_cases k2 : kd = 2
        · subst k2
          cases hlt : decide (un < tillN b tg) with
          | true =>
            have hl9 : un < tillN b tg := of_decide_eq_true hlt
            go_wp2_with fail
            have gr0 := fun p => after_cell r0 p
            have gr1 := fun p => after_cell r1 p
            have gr2 := fun p => after_cell r2 p
            have gr3 := fun p => after_cell r3 p
            have gr4 := fun p => after_cell r4 p
            have gr5 := fun p => after_cell r5 p
            have gr6 := fun p => after_cell r6 p
            have gr7 := fun p => after_cell r7 p
            have gz0 := fun p => after_cell z0 p
            have gz1 := fun p => after_cell z1 p
            have gz2 := fun p => after_cell z2 p
            have gz3 := fun p => after_cell z3 p
            have gz4 := fun p => after_cell z4 p
            have gz5 := fun p => after_cell z5 p
            have hl0 := fun p => till_look (H5.out.2.1.below (after_below v2 p)) tg HF.out.1
            refine wp_region_after (by kernel_rfl) (by kernel_rfl) ?_
            repeat (go_big_quiet_step (fail))
            refine wpQuiet_nil ?_
            rintro q2 ⟨p9, rfl⟩
            have hb := after_below v2 p9
            have H6 := Lib.hid (And.intro (H5.out.1.trans (hb.mono H5.out.1.size)) (And.intro (H5.out.2.1.below hb) (blk_on hb H5.out.2.2)))
            generalize After v2 p9 = q2 at *
            clear hb gr0 gr1 gr2 gr3 gr4 gr5 gr6 gr7 gz0 gz1 gz2 gz3 gz4 gz5 hl0 
            clear r0 r1 r2 r3 r4 r5 r6 r7 z0 z1 z2 z3 z4 z5
            have HZ := Lib.hid (show TE = 12 by rw [HZ2.out, HK0.out]; simp [hl9])
            go_wp2
            exact HR.out _ _ ⟨by rw [HZ.out]; try rfl, H6.out.1⟩
          | false =>
            have hl9 : ¬ un < tillN b tg := of_decide_eq_false hlt
            go_wp2_with fail
            have gr0 := fun p => after_cell r0 p
            have gr1 := fun p => after_cell r1 p
            have gr2 := fun p => after_cell r2 p
            have gr3 := fun p => after_cell r3 p
            have gr4 := fun p => after_cell r4 p
            have gr5 := fun p => after_cell r5 p
            have gr6 := fun p => after_cell r6 p
            have gr7 := fun p => after_cell r7 p
            have gz0 := fun p => after_cell z0 p
            have gz1 := fun p => after_cell z1 p
            have gz2 := fun p => after_cell z2 p
            have gz3 := fun p => after_cell z3 p
            have gz4 := fun p => after_cell z4 p
            have gz5 := fun p => after_cell z5 p
            have hl0 := fun p => till_look (H5.out.2.1.below (after_below v2 p)) tg HF.out.1
            refine wp_region_after (by kernel_rfl) (by kernel_rfl) ?_
            repeat (go_big_quiet_step (fail))
            refine wpQuiet_nil ?_
            rintro q2 ⟨p9, rfl⟩
            have hb := after_below v2 p9
            have H6 := Lib.hid (And.intro (H5.out.1.trans (hb.mono H5.out.1.size)) (And.intro (H5.out.2.1.below hb) (blk_on hb H5.out.2.2)))
            generalize After v2 p9 = q2 at *
            clear hb gr0 gr1 gr2 gr3 gr4 gr5 gr6 gr7 gz0 gz1 gz2 gz3 gz4 gz5 hl0 
            clear r0 r1 r2 r3 r4 r5 r6 r7 z0 z1 z2 z3 z4 z5
            have HZ := Lib.hid (show TE = 0 by rw [HZ2.out, HK0.out]; simp [hl9])
            go_wp2
            exact HR.out _ _ ⟨by rw [HZ.out]; try rfl, H6.out.1⟩
        have hk2 : (kd == 2) = false := by simpa using k2
        by_cases k3 : kd = 3
        · subst k3
          go_wp2_with fail
          refine (HHo.out _ H5.out.2.1).mono ?_
          rintro en v3 ⟨rfl, hb⟩
          have H6 := Lib.hid (And.intro (H5.out.1.trans (hb.mono H5.out.1.size)) (And.intro (H5.out.2.1.below hb) (blk_on hb H5.out.2.2)))
          clear hb
          have HZ := Lib.hid (show TE = HO by rw [HZ2.out, HK0.out]; simp)
          go_wp2
          exact HR.out _ _ ⟨by rw [HZ.out]; try rfl, H6.out.1⟩
        have hk3 : (kd == 3) = false := by simpa using k3
        by_cases k5 : kd = 5
        · subst k5
          go_wp2_with fail
          refine (HPu.out _ H5.out.2.1).mono ?_
          rintro en v3 ⟨rfl, hb⟩
          have H6 := Lib.hid (And.intro (H5.out.1.trans (hb.mono H5.out.1.size)) (And.intro (H5.out.2.1.below hb) (blk_on hb H5.out.2.2)))
          clear hb
          have HZ := Lib.hid (show TE = PU by rw [HZ2.out, HK0.out]; simp)
          go_wp2
          exact HR.out _ _ ⟨by rw [HZ.out]; try rfl, H6.out.1⟩
        have hk5 : (kd == 5) = false := by simpa using k5
        have HZ := Lib.hid (show TE = 0 by rw [HZ2.out, HK0.out]; simp [k2, k3, k5])
        go_wp2
        exact HR.out _ _ ⟨by rw [HZ.out]; try rfl, H5.out.1⟩
end Go.Proofs.Ytnkiokaeooopgaa
/- A record applied: of the program. -/
set_option maxRecDepth 100000
namespace Go.Proofs.Ytnkiokaeooopgaa
open Go.RowKit Ks Go.Maps
set_option linter.unusedVariables false
set_option linter.unusedSimpArgs false
section
variable {w w' : World} {n c mu mh mg : Nat} {b : BookT}
theorem BookAt.tick (h : BookAt w n c mu mh mg b) (h5 : Five n c mu mh mg) (t : Int) : BookAt (w.setCell ⟨c, 1, none⟩ (.int .i64 t)) n c mu mh mg { b with now := t } := by
  obtain ⟨a1, a2, a3, a4, a5, a6, a7, a8, a9, a10⟩ := h5
  exact ⟨(set_ne _ a1).trans h.blk, set_blk h.clk 1 _, h.till.keep (set_ne _ (Ne.symm a5)), h.holds.keep (set_ne _ (Ne.symm a6)), h.gone.keep (set_ne _ (Ne.symm a7))⟩
theorem BookAt.next (h : BookAt w n c mu mh mg b) (h5 : Five n c mu mh mg) (e : Int) : BookAt (w.setCell ⟨n, 2, none⟩ (.int .i64 e)) n c mu mh mg { b with epoch := e } := by
  obtain ⟨a1, a2, a3, a4, a5, a6, a7, a8, a9, a10⟩ := h5
  exact ⟨set_blk h.blk 2 _, (set_ne _ (Ne.symm a1)).trans h.clk, h.till.keep (set_ne _ (Ne.symm a2)), h.holds.keep (set_ne _ (Ne.symm a3)), h.gone.keep (set_ne _ (Ne.symm a4))⟩
theorem BookAt.tills {m : List (Int × Int)} (h : BookAt w n c mu mh mg b) (h5 : Five n c mu mh mg) (hm : MapAt iiKV w' mu m) (ht : Turn w w' (fun k => k = mu) (fun k => k = mu)) : BookAt w' n c mu mh mg { b with till := m } := by
  obtain ⟨a1, a2, a3, a4, a5, a6, a7, a8, a9, a10⟩ := h5
  exact ⟨(ht.block n (lt_of_block h.blk) a2).trans h.blk, (ht.block c (lt_of_block h.clk) a5).trans h.clk, hm, h.holds.keep (ht.block mh h.holds.lt (Ne.symm a8)), h.gone.keep (ht.block mg h.gone.lt (Ne.symm a9))⟩
theorem BookAt.held {m : List (ByteArray × Int)} (h : BookAt w n c mu mh mg b) (h5 : Five n c mu mh mg) (hm : MapAt siKV w' mh m) (ht : Turn w w' (fun k => k = mh) (fun k => k = mh)) : BookAt w' n c mu mh mg { b with holds := m } := by
  obtain ⟨a1, a2, a3, a4, a5, a6, a7, a8, a9, a10⟩ := h5
  exact ⟨(ht.block n (lt_of_block h.blk) a3).trans h.blk, (ht.block c (lt_of_block h.clk) a6).trans h.clk, h.till.keep (ht.block mu h.till.lt a8), hm, h.gone.keep (ht.block mg h.gone.lt (Ne.symm a10))⟩
theorem BookAt.purged {m : List (Int × Bool)} (h : BookAt w n c mu mh mg b) (h5 : Five n c mu mh mg) (hm : MapAt ibKV w' mg m) (ht : Turn w w' (fun k => k = mg) (fun k => k = mg)) : BookAt w' n c mu mh mg { b with gone := m } := by
  obtain ⟨a1, a2, a3, a4, a5, a6, a7, a8, a9, a10⟩ := h5
  exact ⟨(ht.block n (lt_of_block h.blk) a4).trans h.blk, (ht.block c (lt_of_block h.clk) a7).trans h.clk, h.till.keep (ht.block mu h.till.lt a9), h.holds.keep (ht.block mh h.holds.lt a10), hm⟩
/-- what a book's calls turn -/
theorem Turn.book {F : Nat → Prop} (h : Turn w w' F F) (hF : ∀ k, F k → FB n c mu mh mg k) : Turn w w' (FB n c mu mh mg) (FB n c mu mh mg) := h.wide hF fun k hk => Or.inr (Or.inl hk)
end
set_option maxRecDepth 100000 in
set_option maxHeartbeats 8000000 in
theorem bapply_any {n c mu mh mg : Nat} {b : BookT} (r : RecT) (w : World) (h : BookAt w n c mu mh mg b) (h5 : Five n c mu mh mg) (hf : fitRec r) (hn : b.holds.length ≤ 1000000) :
    Calls Try.prog 55 #[.pointer (some ⟨n, 0, none⟩), recV r] w fun e w' => e = .returned (.int .i64 (mayE b r)) ∧ BookAt w' n c mu mh mg (applyB b r) ∧ Turn w w' (FB n c mu mh mg) (FB n c mu mh mg) := by
  refine calls_by fun R HR => ?_
  have HD := Lib.hid h
  have HF := Lib.hid hf
  have H5v := Lib.hid h5
  have HM := Lib.hid (fun w (h : BookAt w n c mu mh mg b) => bmay_any r w h hf hn)
  have HA0 : Hid (applyB b r = if mayE b r = 0 then putB b r else b) := Lib.hid rfl
  have HZ := Lib.hid (fun h => may_zero (b := b) (r := r) h)
  have HC := Lib.hid (fun h => chk_epoch (r := r) h)
  have HCt := Lib.hid (fun h => chk_time (r := r) h)
  have HP0 : Hid (putB b r = if r.kind = 1 then { b with now := r.time, epoch := b.epoch + 1 } else if r.kind = 2 then { b with now := r.time, till := putM b.till r.target r.till } else if r.kind = 3 then { b with now := r.time, holds := putM b.holds r.name r.target } else if r.kind = 4 then { b with now := r.time, holds := delM b.holds r.name } else { b with now := r.time, gone := putM b.gone r.target true }) := Lib.hid rfl
  generalize mayE b r = TE at *
  generalize applyB b r = AB at *
  generalize putB b r = PB at *
  generalize chkB r = CB at *
  generalize targetE b r = TA at *
  generalize kindE b r = KA at *
  obtain ⟨kd, ep, tm, ct, tg, un, rt, nm⟩ := r
  simp only at HZ HC HCt HP0
  clear h h5 hf hn
  have H1 := Lib.hid (And.intro (Below.refl w.heap.size w) (HD.out))
  obtain ⟨W1, hW1⟩ : ∃ W1, w.alloc (.cells #[.int .i64 kd, .int .i64 ep, .int .i64 tm, .int .i64 ct, .int .i64 tg, .int .i64 un, .string rt, .string nm] 69) = W1 := ⟨_, rfl⟩
  have hbW1 : Below w.heap.size w W1 := by rw [← hW1]; exact alloc_below w _
  have kW1 : W1.heap[w.heap.size]? = some (.cells #[.int .i64 kd, .int .i64 ep, .int .i64 tm, .int .i64 ct, .int .i64 tg, .int .i64 un, .string rt, .string nm] 69 (0, 0)) := by rw [← hW1]; exact alloc_new w _
  have H2 := Lib.hid (And.intro (H1.out.1.trans (hbW1.mono H1.out.1.size)) (And.intro (H1.out.2.below hbW1) (kW1)))
  clear hbW1 kW1
  obtain ⟨⟨r0, r1, r2, r3, r4, r5, r6, r7⟩, -⟩ := blkR H2.out.2.2
  have HWa := Lib.hid (show ∀ k, FB n c mu mh mg k → k < w.heap.size from HD.out.lt)
  go_enter Try.func55, Try.ntmps55
  go_wp2_with fail
  refine (HM.out _ H2.out.2.1).mono ?_
  rintro en v1 ⟨rfl, hb⟩
  have H3 := Lib.hid (And.intro (H2.out.1.trans (hb.mono H2.out.1.size)) (And.intro (H2.out.2.1.below hb) (blk_on hb H2.out.2.2)))
  clear hb
  clear r0 r1 r2 r3 r4 r5 r6 r7 hW1
  obtain ⟨⟨z0, z1, z2, z3, z4, z5⟩, -⟩ := blk6 H3.out.2.1.blk
  obtain ⟨⟨r0, r1, r2, r3, r4, r5, r6, r7⟩, -⟩ := blkR H3.out.2.2
  by_cases hte : TE = 0
  case neg =>
    have hte2 : (TE != 0) = true := by simpa using hte
    have HQ := Lib.hid (show AB = b by rw [HA0.out, if_neg hte])
    go_wp2
    exact HR.out _ _ ⟨rfl, by rw [HQ.out]; exact H3.out.2.1, Turn.of_below _ H3.out.1⟩
  case pos =>
    obtain ⟨q1, q2, q3, q4, q5⟩ := HZ.out hte
    have HQ := Lib.hid (show AB = PB by rw [HA0.out, if_pos hte])
    have HCE := Lib.hid (HC.out q1)
    have HCT := Lib.hid (HCt.out q1)
    have HE2 := Lib.hid q2
    have HE3 := Lib.hid q3
    subst hte
    clear q1 q2 q3 q4 q5
    go_wp2_with fail
    have gr0 := fun p => after_cell r0 p
    have gr1 := fun p => after_cell r1 p
    have gr2 := fun p => after_cell r2 p
    have gr3 := fun p => after_cell r3 p
    have gr4 := fun p => after_cell r4 p
    have gr5 := fun p => after_cell r5 p
    have gr6 := fun p => after_cell r6 p
    have gr7 := fun p => after_cell r7 p
    have gz0 := fun p => after_cell z0 p
    have gz1 := fun p => after_cell z1 p
    have gz2 := fun p => after_cell z2 p
    have gz3 := fun p => after_cell z3 p
    have gz4 := fun p => after_cell z4 p
    have gz5 := fun p => after_cell z5 p
    refine wp_region_after_tail 6 (by kernel_rfl) (by kernel_rfl) ?_
    simp only [List.take_succ_cons, List.take_zero, List.drop_succ_cons, List.drop_zero]
    repeat (go_big_quiet_step (fail))
    refine wpQuiet_nil ?_
    rintro q1 ⟨p9, rfl⟩
    have hb := after_below v1 p9
    have H4 := Lib.hid (And.intro (H3.out.1.trans (hb.mono H3.out.1.size)) (And.intro (H3.out.2.1.below hb) (blk_on hb H3.out.2.2)))
    generalize After v1 p9 = q1 at *
    clear hb gr0 gr1 gr2 gr3 gr4 gr5 gr6 gr7 gz0 gz1 gz2 gz3 gz4 gz5
    clear r0 r1 r2 r3 r4 r5 r6 r7 z0 z1 z2 z3 z4 z5
    have HTk := Lib.hid (ctick_any c b.now tm _ H4.out.2.1.clk (by have := HCT.out; omega) (by have := HCT.out; omega) (by have := HE3.out; omega))
    go_wp2_with fail
    refine HTk.out.mono ?_
    rintro en v9 ⟨rfl, hw⟩
    rw [hw]
    clear hw HTk
    obtain ⟨P1, hP1⟩ : ∃ W, q1.setCell ⟨c, 1, none⟩ (.int .i64 tm) = W := ⟨_, rfl⟩
    have HB1 := Lib.hid (show BookAt P1 n c mu mh mg { b with now := tm } by rw [← hP1]; exact H4.out.2.1.tick H5v.out tm)
    have HT1 := Lib.hid (show Turn w P1 (FB n c mu mh mg) (FB n c mu mh mg) by rw [← hP1]; exact (Turn.of_below _ H4.out.1).trans (Turn.cell _ c 1 _ (Or.inr (Or.inl rfl))))
    have HK1 := Lib.hid (show P1.heap[w.heap.size]? = some (.cells #[.int .i64 kd, .int .i64 ep, .int .i64 tm, .int .i64 ct, .int .i64 tg, .int .i64 un, .string rt, .string nm] 69 (0, 0)) by rw [← hP1]; exact (set_ne _ (by have := HWa.out c (Or.inr (Or.inl rfl)); omega)).trans H4.out.2.2)
    rw [hP1]
    clear hP1
    obtain ⟨⟨r0, r1, r2, r3, r4, r5, r6, r7⟩, -⟩ := blkR HK1.out
    obtain ⟨⟨z0, z1, z2, z3, z4, z5⟩, fz⟩ := blk6 HB1.out.blk
    simp only at z1 z2
    by_cases k1 : kd = 1
    · subst k1
      have HPB := Lib.hid (show PB = { b with now := tm, epoch := b.epoch + 1 } by rw [HP0.out]; rfl)
      have hwr : wrap64 (b.epoch + 1) = b.epoch + 1 := by have := HCE.out; have := HE2.out; unfold wrap64; omega
      have fz2 := fz 2
      clear fz
      go_wp2
      exact HR.out _ _ ⟨rfl, by rw [HQ.out, HPB.out]; exact HB1.out.next H5v.out _, HT1.out.trans (Turn.cell _ n 2 _ (Or.inl rfl))⟩
    have hk1 : (kd == 1) = false := by simpa using k1
    by_cases k2 : kd = 2
    · subst k2
      have HPB := Lib.hid (show PB = { b with now := tm, till := putM b.till tg un } by rw [HP0.out]; rfl)
      clear fz
      go_wp2_with fail
      have gr0 := fun p => after_cell r0 p
      have gr1 := fun p => after_cell r1 p
      have gr2 := fun p => after_cell r2 p
      have gr3 := fun p => after_cell r3 p
      have gr4 := fun p => after_cell r4 p
      have gr5 := fun p => after_cell r5 p
      have gr6 := fun p => after_cell r6 p
      have gr7 := fun p => after_cell r7 p
      have gz0 := fun p => after_cell z0 p
      have gz1 := fun p => after_cell z1 p
      have gz2 := fun p => after_cell z2 p
      have gz3 := fun p => after_cell z3 p
      have gz4 := fun p => after_cell z4 p
      have gz5 := fun p => after_cell z5 p
      refine wp_region_after_tail 8 (by kernel_rfl) (by kernel_rfl) ?_
      simp only [List.take_succ_cons, List.take_zero, List.drop_succ_cons, List.drop_zero]
      repeat (go_big_quiet_step (fail))
      refine wpQuiet_nil ?_
      rintro y1 ⟨p9, rfl⟩
      have hb := after_below P1 p9
      have HB2 := Lib.hid (HB1.out.below hb)
      have HT2 := Lib.hid (HT1.out.trans (Turn.of_below _ hb))
      generalize After P1 p9 = y1 at *
      clear hb gr0 gr1 gr2 gr3 gr4 gr5 gr6 gr7 gz0 gz1 gz2 gz3 gz4 gz5
      refine wpList_put _ rfl _ _ _ 77 rfl 3 intKey Try.underlying77 HB2.out.till rfl tg un rfl rfl (iiKV_ok HF.out.1) ?_
      intro y2 hm2 ht2
      have HB3 := Lib.hid (HB2.out.tills H5v.out hm2 ht2)
      have HT3 := Lib.hid (HT2.out.trans (Turn.book ht2 (fun k hk => Or.inr (Or.inr (Or.inl hk)))))
      clear hm2 ht2
      go_wp2
      exact HR.out _ _ ⟨rfl, by rw [HQ.out, HPB.out]; exact HB3.out, HT3.out⟩
    have hk2 : (kd == 2) = false := by simpa using k2
    by_cases k3 : kd = 3
    · subst k3
      have HPB := Lib.hid (show PB = { b with now := tm, holds := putM b.holds nm tg } by rw [HP0.out]; rfl)
      clear fz
      go_wp2_with fail
      have gr0 := fun p => after_cell r0 p
      have gr1 := fun p => after_cell r1 p
      have gr2 := fun p => after_cell r2 p
      have gr3 := fun p => after_cell r3 p
      have gr4 := fun p => after_cell r4 p
      have gr5 := fun p => after_cell r5 p
      have gr6 := fun p => after_cell r6 p
      have gr7 := fun p => after_cell r7 p
      have gz0 := fun p => after_cell z0 p
      have gz1 := fun p => after_cell z1 p
      have gz2 := fun p => after_cell z2 p
      have gz3 := fun p => after_cell z3 p
      have gz4 := fun p => after_cell z4 p
      have gz5 := fun p => after_cell z5 p
      refine wp_region_after_tail 8 (by kernel_rfl) (by kernel_rfl) ?_
      simp only [List.take_succ_cons, List.take_zero, List.drop_succ_cons, List.drop_zero]
      repeat (go_big_quiet_step (fail))
      refine wpQuiet_nil ?_
      rintro y1 ⟨p9, rfl⟩
      have hb := after_below P1 p9
      have HB2 := Lib.hid (HB1.out.below hb)
      have HT2 := Lib.hid (HT1.out.trans (Turn.of_below _ hb))
      generalize After P1 p9 = y1 at *
      clear hb gr0 gr1 gr2 gr3 gr4 gr5 gr6 gr7 gz0 gz1 gz2 gz3 gz4 gz5
      refine wpList_put _ rfl _ _ _ 78 rfl 3 strKey Try.underlying78 HB2.out.holds rfl nm tg rfl rfl (siKV_ok HF.out.2) ?_
      intro y2 hm2 ht2
      have HB3 := Lib.hid (HB2.out.held H5v.out hm2 ht2)
      have HT3 := Lib.hid (HT2.out.trans (Turn.book ht2 (fun k hk => Or.inr (Or.inr (Or.inr (Or.inl hk))))))
      clear hm2 ht2
      go_wp2
      exact HR.out _ _ ⟨rfl, by rw [HQ.out, HPB.out]; exact HB3.out, HT3.out⟩
    have hk3 : (kd == 3) = false := by simpa using k3
    by_cases k4 : kd = 4
    · subst k4
      have HPB := Lib.hid (show PB = { b with now := tm, holds := delM b.holds nm } by rw [HP0.out]; rfl)
      clear fz
      go_wp2_with fail
      have gr0 := fun p => after_cell r0 p
      have gr1 := fun p => after_cell r1 p
      have gr2 := fun p => after_cell r2 p
      have gr3 := fun p => after_cell r3 p
      have gr4 := fun p => after_cell r4 p
      have gr5 := fun p => after_cell r5 p
      have gr6 := fun p => after_cell r6 p
      have gr7 := fun p => after_cell r7 p
      have gz0 := fun p => after_cell z0 p
      have gz1 := fun p => after_cell z1 p
      have gz2 := fun p => after_cell z2 p
      have gz3 := fun p => after_cell z3 p
      have gz4 := fun p => after_cell z4 p
      have gz5 := fun p => after_cell z5 p
      refine wp_region_after_tail 6 (by kernel_rfl) (by kernel_rfl) ?_
      simp only [List.take_succ_cons, List.take_zero, List.drop_succ_cons, List.drop_zero]
      repeat (go_big_quiet_step (fail))
      refine wpQuiet_nil ?_
      rintro y1 ⟨p9, rfl⟩
      have hb := after_below P1 p9
      have HB2 := Lib.hid (HB1.out.below hb)
      have HT2 := Lib.hid (HT1.out.trans (Turn.of_below _ hb))
      generalize After P1 p9 = y1 at *
      clear hb gr0 gr1 gr2 gr3 gr4 gr5 gr6 gr7 gz0 gz1 gz2 gz3 gz4 gz5
      refine wpList_del _ rfl _ _ 78 rfl 3 strKey Try.underlying78 HB2.out.holds rfl nm rfl (siKV_ok HF.out.2) ?_
      intro y2 hm2 ht2
      have HB3 := Lib.hid (HB2.out.held H5v.out hm2 ht2)
      have HT3 := Lib.hid (HT2.out.trans (Turn.book ht2 (fun k hk => Or.inr (Or.inr (Or.inr (Or.inl hk))))))
      clear hm2 ht2
      go_wp2
      exact HR.out _ _ ⟨rfl, by rw [HQ.out, HPB.out]; exact HB3.out, HT3.out⟩
    have hk4 : (kd == 4) = false := by simpa using k4
    have HPB := Lib.hid (show PB = { b with now := tm, gone := putM b.gone tg true } by rw [HP0.out, if_neg k1, if_neg k2, if_neg k3, if_neg k4])
    clear fz
    go_wp2_with fail
    have gr0 := fun p => after_cell r0 p
    have gr1 := fun p => after_cell r1 p
    have gr2 := fun p => after_cell r2 p
    have gr3 := fun p => after_cell r3 p
    have gr4 := fun p => after_cell r4 p
    have gr5 := fun p => after_cell r5 p
    have gr6 := fun p => after_cell r6 p
    have gr7 := fun p => after_cell r7 p
    have gz0 := fun p => after_cell z0 p
    have gz1 := fun p => after_cell z1 p
    have gz2 := fun p => after_cell z2 p
    have gz3 := fun p => after_cell z3 p
    have gz4 := fun p => after_cell z4 p
    have gz5 := fun p => after_cell z5 p
    refine wp_region_after_tail 6 (by kernel_rfl) (by kernel_rfl) ?_
    simp only [List.take_succ_cons, List.take_zero, List.drop_succ_cons, List.drop_zero]
    repeat (go_big_quiet_step (fail))
    refine wpQuiet_nil ?_
    rintro y1 ⟨p9, rfl⟩
    have hb := after_below P1 p9
    have HB2 := Lib.hid (HB1.out.below hb)
    have HT2 := Lib.hid (HT1.out.trans (Turn.of_below _ hb))
    generalize After P1 p9 = y1 at *
    clear hb gr0 gr1 gr2 gr3 gr4 gr5 gr6 gr7 gz0 gz1 gz2 gz3 gz4 gz5
    refine wpList_put _ rfl _ _ _ 79 rfl 4 intKey Try.underlying79 HB2.out.gone rfl tg true rfl rfl (ibKV_ok HF.out.1) ?_
    intro y2 hm2 ht2
    have HB3 := Lib.hid (HB2.out.purged H5v.out hm2 ht2)
    have HT3 := Lib.hid (HT2.out.trans (Turn.book ht2 (fun k hk => Or.inr (Or.inr (Or.inr (Or.inr hk))))))
    clear hm2 ht2
    go_wp2
    exact HR.out _ _ ⟨rfl, by rw [HQ.out, HPB.out]; exact HB3.out, HT3.out⟩
end Go.Proofs.Ytnkiokaeooopgaa
