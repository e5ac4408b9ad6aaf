/- Texts that the claim rests on, part 15: ModTwin, Open, ModNew, ModAlive, FrameCall. -/
import Derived.Deep.Slices
import Derived.Test.YtnkiokaeooopgaaGreatM14
/- The copy of a model, its records: of the program. -/
set_option maxRecDepth 100000
namespace Go.Proofs.YtnkiokaeooopgaaGreat
open Go.RowKit Ks Go.Maps
set_option linter.unusedVariables false
set_option linter.unusedSimpArgs false
theorem eg_mrecords : ∀ args w, (callFunc 38 args).run Tryz.prog w = .ok (.enter 38 args) w := fun _ _ => rfl
theorem mrecords_any {n cc bn c mu mh mg : Nat} {rv vv : Value} {m : ModT} (w : World) (h : ModAt w n cc bn c mu mh mg rv vv m) (hn : m.recs.length ≤ 1000000) : Calls Tryz.prog 38 #[.pointer (some ⟨n, 0, none⟩)] w fun e w' => ∃ v', e = .returned v' ∧ Row recE w' w.heap.size 72 v' m.recs ∧ Below w.heap.size w w' := by
  refine calls_by fun R HR => ?_
  have HT := Lib.hid (mthere_yes w h)
  have HC := Lib.hid (rclone_any _ _ w h.recs.rd hn)
  obtain ⟨⟨z0, z1, z2, z3, z4, z5, z6, z7⟩, -⟩ := blkR h.blk
  clear h hn
  go_enter Tryz.func38, Tryz.ntmps38
  go_wp2_with fail
  refine HT.out.mono ?_
  rintro en y9 ⟨rfl, hw⟩
  rw [hw]
  clear hw y9
  go_wp2_with fail
  refine HC.out.mono ?_
  rintro en v1 ⟨v', rfl, h1, h2⟩
  have H1 := Lib.hid (And.intro h1 h2)
  clear h1 h2
  go_wp2
  exact HR.out _ _ ⟨v', rfl, H1.out⟩
/-- worlds where a model is copied: a: the book, b, c: its rows, d: the model -/
structure CopyC (W1 : World) (m : ModT) (cn : Nat) (a b c d : Option Value) (w : World) : Prop where
  no : a = none → w = W1.drew
  ab : b ≠ none → a ≠ none
  bc : c ≠ none → b ≠ none
  cd : d ≠ none → c ≠ none
  bl : Below W1.heap.size W1 w
  book : a ≠ none → BookAt w (W1.heap.size + 4) W1.heap.size (W1.heap.size + 1) (W1.heap.size + 2) (W1.heap.size + 3) m.book ∧ W1.heap.size + 5 ≤ w.heap.size
  recs : ∀ v, b = some v → Row recE w (W1.heap.size + 5) 72 v m.recs
  vers : ∀ v, c = some v → Row verD w (W1.heap.size + 5) 89 v m.vers ∧ ∀ x k, b = some x → x.ownBlock = some k → v.ownBlock ≠ some k
  mod : ∀ v, d = some v → ∃ n', v = .pointer (some ⟨n', 0, none⟩) ∧ W1.heap.size + 5 ≤ n' ∧ ∀ x y, b = some x → c = some y → w.heap[n']? = some (.cells #[.int .i64 m.geo.blocks, .int .i64 m.geo.lbas, .int .i64 m.geo.first, .int .i64 m.used, .pointer (some ⟨cn, 0, none⟩), .pointer (some ⟨W1.heap.size + 4, 0, none⟩), x, y] 53 (0, 0)) ∧ x.ownBlock ≠ some n' ∧ y.ownBlock ≠ some n'
section
variable {W1 w w' : World} {m : ModT} {cn : Nat} {a b c d : Option Value}
theorem CopyC.start (cn : Nat) : CopyC W1 m cn none none none none W1.drew :=
  ⟨fun _ => rfl, fun h => absurd rfl h, fun h => absurd rfl h, fun h => absurd rfl h, drew_below W1, fun h => absurd rfl h, (fun v e => by cases e), (fun v e => by cases e), (fun v e => by cases e)⟩
theorem CopyC.one {v : Value} (h : CopyC W1 m cn none b c d w) (hb : BookAt w' (W1.heap.size + 4) W1.heap.size (W1.heap.size + 1) (W1.heap.size + 2) (W1.heap.size + 3) m.book) (hs : w'.heap.size = W1.heap.size + 5) (hbl : Below w.heap.size w w') : CopyC W1 m cn (some v) b c d w' := by
  have e1 := none_of h.ab rfl
  have e2 := none_of h.bc e1
  have e3 := none_of h.cd e2
  subst e1 e2 e3
  have e := h.no rfl
  exact ⟨(fun q => by cases q), (fun q => absurd rfl q), (fun q => absurd rfl q), (fun q => absurd rfl q), h.bl.trans (hbl.mono h.bl.size), fun _ => ⟨hb, by omega⟩, (fun v e => by cases e), (fun v e => by cases e), (fun v e => by cases e)⟩
theorem CopyC.two {x v : Value} (h : CopyC W1 m cn (some x) none c d w) (hr : Row recE w' w.heap.size 72 v m.recs) (hbl : Below w.heap.size w w') : CopyC W1 m cn (some x) (some v) c d w' := by
  have e2 := none_of h.bc rfl
  have e3 := none_of h.cd e2
  subst e2 e3
  have hb := h.book (fun q => by cases q)
  exact ⟨(fun q => by cases q), (fun _ q => by cases q), (fun q => absurd rfl q), (fun q => absurd rfl q), h.bl.trans (hbl.mono h.bl.size), fun _ => ⟨hb.1.below hbl, Nat.le_trans hb.2 hbl.size⟩, (fun v e => by cases e; exact hr.down hb.2), (fun v e => by cases e), (fun v e => by cases e)⟩
theorem CopyC.three {x y v : Value} (h : CopyC W1 m cn (some x) (some y) none d w) (hr : Row verD w' w.heap.size 89 v m.vers) (hbl : Below w.heap.size w w') : CopyC W1 m cn (some x) (some y) (some v) d w' := by
  have e3 := none_of h.cd rfl
  subst e3
  have hb := h.book (fun q => by cases q)
  have h1 := h.recs y rfl
  exact ⟨(fun q => by cases q), (fun _ q => by cases q), (fun _ q => by cases q), (fun q => absurd rfl q), h.bl.trans (hbl.mono h.bl.size), fun _ => ⟨hb.1.below hbl, Nat.le_trans hb.2 hbl.size⟩, (fun v e => by cases e; exact h1.below hbl),
    (fun v e => by cases e; exact ⟨hr.down hb.2, fun x k e ex e2 => by cases e; have := (h1.lt ex).2; have := (hr.lt e2).1; omega⟩), (fun v e => by cases e)⟩
theorem CopyC.four {x y z : Value} (h : CopyC W1 m cn (some x) (some y) (some z) none w) :
    CopyC W1 m cn (some x) (some y) (some z) (some (.pointer (some ⟨w.heap.size, 0, none⟩))) (w.alloc (.cells #[.int .i64 m.geo.blocks, .int .i64 m.geo.lbas, .int .i64 m.geo.first, .int .i64 m.used, .pointer (some ⟨cn, 0, none⟩), .pointer (some ⟨W1.heap.size + 4, 0, none⟩), y, z] 53)) := by
  have hbl := alloc_below w (.cells #[.int .i64 m.geo.blocks, .int .i64 m.geo.lbas, .int .i64 m.geo.first, .int .i64 m.used, .pointer (some ⟨cn, 0, none⟩), .pointer (some ⟨W1.heap.size + 4, 0, none⟩), y, z] 53)
  have hb := h.book (fun q => by cases q)
  have h1 := h.recs y rfl
  have h2 := h.vers z rfl
  exact ⟨(fun q => by cases q), (fun _ q => by cases q), (fun _ q => by cases q), (fun _ q => by cases q), h.bl.trans (hbl.mono h.bl.size), fun _ => ⟨hb.1.below hbl, Nat.le_trans hb.2 hbl.size⟩, (fun v e => by cases e; exact h1.below hbl),
    (fun v e => by cases e; exact ⟨h2.1.below hbl, h2.2⟩), fun v e => by cases e; exact ⟨_, rfl, hb.2, fun x' y' e1 e2 => by cases e1; cases e2; exact ⟨alloc_new _ _, fun e => by have := (h1.lt e).2; omega, fun e => by have := (h2.1.lt e).2; omega⟩⟩⟩
end
end Go.Proofs.YtnkiokaeooopgaaGreat
/- Slices among a law's arguments, of whatever elements: what they read as. No program is in sight. -/
namespace Ks
open Go Go.RowKit Go.ChangeShapes Go.WideShapes Go.ChangeAt
set_option linter.unusedVariables false

section
variable {α : Type} {E : Enc α} {H : Type} {enc : TypeId × Value → H} {P : Program} {W : World}

theorem cells_at {w : World} {base : Nat} {a : Addr} {k : Nat} {cs : List Value} (h : w.cells? base a k = some cs) : cs.length = k ∧ ∀ j u, cs[j]? = some u → w.cell? (a.add j) = some u := by
  obtain ⟨_, h2, h3⟩ := World.cells?_some h
  refine ⟨h2, fun j u hj => ?_⟩
  have hlt : j < k := by have := (List.getElem?_eq_some_iff.1 hj).1; omega
  have := h3 j hlt
  rw [hj] at this
  exact this

theorem rd_opens {T e : TypeId} {fuel : Nat} {cs : List Value} {d : DataW H × List MemPlace} (hT : P.underlying T = some (.slice e)) (hc : P.cellsOf e = E.k) (G : α → Prop)
    (hE : ∀ n cs d, DataW.trod enc P W 0 (fun _ => true) true n e cs = some d → cs.length = E.k → ∃ x, cs = E.enc x ∧ G x)
    (h : DataW.trod enc P W 0 (fun _ => true) true fuel T cs = some d) : ∃ v l, cs = [v] ∧ v.oneCell' = true ∧ Rd E W v l ∧ l.length ≤ maxLen ∧ ∀ x ∈ l, G x := by
  rcases Go.Deep.open_slice hT h with ⟨rfl, _⟩ | ⟨a, len, cap, m, n, D, Pl, rfl, _, hl, hm, hmm, _, hxx⟩
  · exact ⟨_, [], rfl, rfl, Rd.nil W, by simp, fun x hx => by simp at hx⟩
  · simp only [if_true] at hmm
    have hall : ∀ i, i < len → ∃ x : α, G x ∧ ∀ j u, (E.enc x)[j]? = some u → W.cell? ((a.add (i * E.k)).add j) = some u := by
      intro i hi
      obtain ⟨cs', h1, h2⟩ := hxx i (by omega)
      rw [hc] at h1
      obtain ⟨h3, h4⟩ := cells_at h1
      obtain ⟨x, rfl, hG⟩ := hE _ _ _ h2 h3
      exact ⟨x, hG, h4⟩
    have key : ∀ k, k ≤ len → ∃ l : List α, l.length = k ∧ (∀ x ∈ l, G x) ∧ ∀ i x, l[i]? = some x → ∀ j u, (E.enc x)[j]? = some u → W.cell? ((a.add (i * E.k)).add j) = some u := by
      intro k
      induction k with
      | zero => exact fun _ => ⟨[], rfl, fun x hx => by simp at hx, fun i x hx => by simp at hx⟩
      | succ k ih =>
        intro hk
        obtain ⟨l, h1, h2, h3⟩ := ih (by omega)
        obtain ⟨x, hG, hc⟩ := hall k (by omega)
        refine ⟨l ++ [x], by simp [h1], fun y hy => ?_, fun i y hy => ?_⟩
        · rcases List.mem_append.1 hy with h | h
          · exact h2 y h
          · simp at h; subst h; exact hG
        · by_cases hi : i < l.length
          · rw [List.getElem?_append_left hi] at hy
            exact h3 i y hy
          · have hik : i = k := by have := (List.getElem?_eq_some_iff.1 hy).1; simp at this; omega
            subst hik
            rw [List.getElem?_append_right (by omega), h1, Nat.sub_self] at hy
            simp at hy
            subst hy
            exact hc
    obtain ⟨l, hlen, hG, hcell⟩ := key len (Nat.le_refl _)
    subst hlen
    refine ⟨_, l, rfl, rfl, ⟨some a, cap, rfl, hl, fun e => by simp at e, fun i x hx => ?_⟩, by omega, hG⟩
    have h0 : 0 < (E.enc x).length := by rw [E.len]; exact E.pos
    have hlt : 0 < l.length := by have := (List.getElem?_eq_some_iff.1 hx).1; omega
    have h00 : 0 < (E.enc l[0]).length := by rw [E.len]; exact E.pos
    have hc0 := hcell 0 l[0] (List.getElem?_eq_getElem hlt) 0 _ (List.getElem?_eq_getElem h00)
    obtain ⟨b, o, s⟩ := a
    have ha : ((⟨b, o, s⟩ : Addr).add (0 * E.k)).add 0 = ⟨b, o, s⟩ := by simp [Addr.add]
    rw [ha] at hc0
    have hs : s = none := spot_none hc0
    subst hs
    refine ⟨b, o, rfl, ?_, fun j u hu => ?_⟩
    · exact World.block_lt_of_cell? _ _ hc0
    · have := hcell i x hx j u hu
      rwa [add_place, add_place] at this

theorem rd_open {T e : TypeId} {base : Nat} {v : Value} {d : DataW H} {ps : List MemPlace} (hT : P.underlying T = some (.slice e)) (hc : P.cellsOf e = E.k) (G : α → Prop)
    (hE : ∀ n cs d, DataW.trod enc P W 0 (fun _ => true) true n e cs = some d → cs.length = E.k → ∃ x, cs = E.enc x ∧ G x)
    (hok : Value.okWide P W .any base T v) (h : DataW.Trod enc P W 0 (fun _ => true) true T v d ps) : ∃ l, Rd E W v l ∧ l.length ≤ maxLen ∧ ∀ x ∈ l, G x := by
  obtain ⟨a0, len, cap, rfl⟩ := okWide_slice hT hok
  obtain ⟨fuel, hf⟩ := h
  obtain ⟨v', l, e, _, h1, h2, h3⟩ := rd_opens (E := E) hT hc G hE hf
  simp only [Value.cells, List.cons.injEq, and_true] at e
  subst e
  exact ⟨l, h1, h2, h3⟩
end

theorem choose_list {α β : Type} {p : α → β → Prop} : ∀ (l : List α), (∀ x ∈ l, ∃ y, p x y) → ∃ l' : List β, l'.length = l.length ∧ ∀ (i : Nat) (x : α) (y : β), l[i]? = some x → l'[i]? = some y → p x y
  | [], _ => ⟨[], rfl, fun i x y hx => by simp at hx⟩
  | x :: l, h => by
    obtain ⟨y, hy⟩ := h x (by simp)
    obtain ⟨l', h1, h2⟩ := choose_list l fun z hz => h z (by simp [hz])
    refine ⟨y :: l', by simp [h1], fun i a b ha hb => ?_⟩
    match i, ha, hb with
    | 0, ha, hb => simp at ha hb; subst ha hb; exact hy
    | i + 1, ha, hb => exact h2 i a b (by simpa using ha) (by simpa using hb)

/-- a slice's head, as data -/
abbrev Hdr := Option Addr × Nat × Nat
abbrev hdrV (h : Hdr) : Value := .slice h.1 h.2.1 h.2.2
end Ks
/- A new model: of the program; few calls, the example: of the law. -/
set_option maxRecDepth 100000
namespace Go.Proofs.YtnkiokaeooopgaaGreat
open Go.RowKit Ks Go.Maps
set_option linter.unusedVariables false
set_option linter.unusedSimpArgs false
set_option maxRecDepth 100000 in
set_option maxHeartbeats 4000000 in
theorem mnew_err (b l f : Int) (w : World) (h : geoE b l f = 2) : Calls Tryz.prog 6 #[geoV3 b l f] w fun e w' => e = .returned (.tuple #[.pointer none, .int .i64 2]) ∧ Below w.heap.size w w' := by
  refine calls_by fun R HR => ?_
  have HC := Lib.hid (fun w => gcheck_any b l f w)
  rw [h] at HC
  clear h
  have H1 := Lib.hid (Below.refl w.heap.size w)
  obtain ⟨W1, hW1⟩ : ∃ W1, w.alloc (.cells #[.int .i64 b, .int .i64 l, .int .i64 f] 23) = W1 := ⟨_, rfl⟩
  have hbW1 : Below w.heap.size w W1 := by rw [← hW1]; exact alloc_below w _
  have kW1 : W1.heap[w.heap.size]? = some (.cells #[.int .i64 b, .int .i64 l, .int .i64 f] 23 (0, 0)) := by rw [← hW1]; exact alloc_new w _
  have H2 := Lib.hid (And.intro (H1.out.trans (hbW1.mono H1.out.size)) (kW1))
  clear hbW1 kW1
  obtain ⟨c0, c1, c2, -, -, -⟩ := blk3 H2.out.2
  go_enter Tryz.func6, Tryz.ntmps6
  go_wp2_with fail
  refine (HC.out _).mono ?_
  rintro en v1 ⟨rfl, hb⟩
  have H3 := Lib.hid (And.intro (H2.out.1.trans (hb.mono H2.out.1.size)) (blk_on hb H2.out.2))
  clear hb
  go_wp2
  exact HR.out _ _ ⟨rfl, H3.out.1⟩
set_option maxRecDepth 100000 in
set_option maxHeartbeats 4000000 in
theorem mnew_any (g : GeoD) (w : World) (h : geoOk g.blocks g.lbas g.first = true) : Calls Tryz.prog 6 #[geoV3 g.blocks g.lbas g.first] w fun e w' => ∃ n cc bn c mu mh mg, e = .returned (.tuple #[.pointer (some ⟨n, 0, none⟩), .int .i64 0]) ∧ ModAt w' n cc bn c mu mh mg (.slice none 0 0) (.slice none 0 0) (newM g) ∧ Seven n cc bn c mu mh mg ∧ Below w.heap.size w w' ∧ ∀ k, FM n cc bn c mu mh mg (.slice none 0 0) (.slice none 0 0) k → w.heap.size ≤ k := by
  refine calls_by fun R HR => ?_
  have HC := Lib.hid (fun w => gcheck_any g.blocks g.lbas g.first w)
  rw [(geo_yes h).1] at HC
  have hk := geo_ok.1 h
  have HN := Lib.hid (fun w => bnew_any g.first w (by omega) (by omega))
  have HK := Lib.hid (fun w => cnew0 w)
  clear h hk
  obtain ⟨b, l, f⟩ := g
  simp only at HC HN
  have H1 := Lib.hid (Below.refl w.heap.size w)
  obtain ⟨W1, hW1⟩ : ∃ W1, w.alloc (.cells #[.int .i64 b, .int .i64 l, .int .i64 f] 23) = W1 := ⟨_, rfl⟩
  have hbW1 : Below w.heap.size w W1 := by rw [← hW1]; exact alloc_below w _
  have kW1 : W1.heap[w.heap.size]? = some (.cells #[.int .i64 b, .int .i64 l, .int .i64 f] 23 (0, 0)) := by rw [← hW1]; exact alloc_new w _
  have H2 := Lib.hid (And.intro (H1.out.trans (hbW1.mono H1.out.size)) (kW1))
  clear hbW1 kW1
  obtain ⟨c0, c1, c2, -, -, -⟩ := blk3 H2.out.2
  go_enter Tryz.func6, Tryz.ntmps6
  go_wp2_with fail
  refine (HC.out _).mono ?_
  rintro en v1 ⟨rfl, hb⟩
  have H3 := Lib.hid (And.intro (H2.out.1.trans (hb.mono H2.out.1.size)) (blk_on hb H2.out.2))
  clear hb
  clear c0 c1 c2
  go_wp2_with fail
  refine (HK.out _).mono ?_
  rintro en y0 ⟨rfl, hw⟩
  rw [hw]
  clear hw hW1
  obtain ⟨W2, hW2⟩ : ∃ W2, v1.alloc (.cells #[.bool true, .int .i64 0] 82) = W2 := ⟨_, rfl⟩
  have hbW2 : Below v1.heap.size v1 W2 := by rw [← hW2]; exact alloc_below v1 _
  have kW2 : W2.heap[v1.heap.size]? = some (.cells #[.bool true, .int .i64 0] 82 (0, 0)) := by rw [← hW2]; exact alloc_new v1 _
  have H4 := Lib.hid (And.intro (H3.out.1.trans (hbW2.mono H3.out.1.size)) (And.intro (blk_on hbW2 H3.out.2) (kW2)))
  clear hbW2 kW2
  obtain ⟨c0, c1, c2, -, -, -⟩ := blk3 H4.out.2.1
  have sz1 : v1.heap.size < W2.heap.size := lt_of_block H4.out.2.2
  have sz0 : w.heap.size ≤ v1.heap.size := H3.out.1.size
  go_wp2_with fail
  refine (HN.out _).mono ?_
  rintro en v2 ⟨bn, c, mu, mh, mg, rfl, hs, h5, hb, hkk⟩
  have H5 := Lib.hid (And.intro (H4.out.1.trans (hb.mono H4.out.1.size)) (And.intro (blk_on hb H4.out.2.1) (And.intro (blk_on hb H4.out.2.2) (And.intro (hs) (And.intro (h5) (hkk))))))
  clear hb
  clear hs h5 hkk c0 c1 c2 hW2
  have sz2 : W2.heap.size ≤ v2.heap.size := by have := lt_of_block H5.out.2.2.1; have := H5.out.2.2.2.1.lt bn (Or.inl rfl); have := H5.out.2.2.2.2.2 bn (Or.inl rfl); omega
  obtain ⟨c0, c1, c2, -, -, -⟩ := blk3 H5.out.2.1
  have HB := Lib.hid (alloc_below v2 (.cells #[.int .i64 b, .int .i64 l, .int .i64 f, .int .i64 0, .pointer (some ⟨v1.heap.size, 0, none⟩), .pointer (some ⟨bn, 0, none⟩), .slice none 0 0, .slice none 0 0] 53))
  have KN := Lib.hid (alloc_new v2 (.cells #[.int .i64 b, .int .i64 l, .int .i64 f, .int .i64 0, .pointer (some ⟨v1.heap.size, 0, none⟩), .pointer (some ⟨bn, 0, none⟩), .slice none 0 0, .slice none 0 0] 53))
  go_wp2
  refine HR.out _ _ ⟨v2.heap.size, v1.heap.size, bn, c, mu, mh, mg, rfl, ⟨KN.out, blk_on HB.out H5.out.2.2.1, H5.out.2.2.2.1.below HB.out, Row.nil _ _ _, Row.nil _ _ _, fun k h => by simp [Value.ownBlock] at h, fun k h => by simp [Value.ownBlock] at h⟩, ⟨H5.out.2.2.2.2.1, by omega, fun k hk => ⟨by have := H5.out.2.2.2.1.lt k hk; omega, by have := H5.out.2.2.2.2.2 k hk; omega⟩⟩, H5.out.1.trans (HB.out.mono H5.out.1.size), ?_⟩
  rintro k (rfl | rfl | q | q | q)
  · omega
  · exact sz0
  · have := H5.out.2.2.2.2.2 k q; omega
  · simp [Value.ownBlock] at q
  · simp [Value.ownBlock] at q
end Go.Proofs.YtnkiokaeooopgaaGreat
/- Few calls, the example: of the law. -/
set_option maxRecDepth 100000
namespace Ks
open Go Go.RowKit
set_option linter.unusedVariables false
/-- what a class says ahead of a call, and behind it -/
def Called (Pre Post : World → Prop) (u : Option Value) (w : World) : Prop := match u with | none => Pre w | some _ => Post w
def alK (k : Nat) : Int := if k < 4 then 1 else 5
def alW (k : Nat) : Int := if k = 3 then 5 else if k = 5 then 6 else 0
def alC (k : Nat) : CallT := ⟨alK k, 0, 0, 0, ⟨#[]⟩, ⟨#[]⟩⟩
def alM : Nat → ModT
  | 0 => newM ⟨8, 2, 0⟩
  | k + 1 => if k < 4 then writeM (alM k) (alC k) else closeM (alM k) (zerosS 32)
theorem writeM_geo (m : ModT) (c : CallT) : (writeM m c).geo = m.geo := by unfold writeM; split <;> rfl
theorem closeM_geo (m : ModT) (z : ByteArray) : (closeM m z).geo = m.geo := by unfold closeM applyM; split <;> rfl
theorem writeM_used (m : ModT) (c : CallT) : m.used ≤ (writeM m c).used ∧ (writeM m c).used ≤ m.used + 1 := by unfold writeM; split <;> constructor <;> first | omega | (show _ ≤ m.used + 1; omega) | (show m.used + 1 ≤ _; omega)
theorem closeM_used (m : ModT) (z : ByteArray) : m.used ≤ (closeM m z).used ∧ (closeM m z).used ≤ m.used + 1 := by unfold closeM applyM; split <;> constructor <;> first | omega | (show _ ≤ m.used + 1; omega) | (show m.used + 1 ≤ _; omega)
structure AlOk (m : ModT) (k : Nat) : Prop where
  geo : m.geo = ⟨8, 2, 0⟩
  u0 : 0 ≤ m.used
  u1 : m.used ≤ k
  vl : m.vers.length ≤ k
  rl : m.recs.length ≤ k
  hl : m.book.holds.length ≤ k
  vs : ∀ v ∈ m.vers, 0 ≤ v.1 ∧ v.1 < 4096
theorem al_ok : ∀ k, AlOk (alM k) k
  | 0 => ⟨rfl, Int.le_refl _, Int.le_refl _, Nat.le_refl _, Nat.le_refl _, Nat.le_refl _, fun v h => by cases h⟩
  | k + 1 => by
    obtain ⟨g, u0, u1, vl, rl, hl, vs⟩ := al_ok k
    show AlOk (if k < 4 then writeM (alM k) (alC k) else closeM (alM k) (zerosS 32)) (k + 1)
    split
    · have := writeM_used (alM k) (alC k)
      refine ⟨(writeM_geo _ _).trans g, by omega, by omega, ?_, ?_, ?_, ?_⟩
      · unfold writeM; split
        · show (_ ++ [_]).length ≤ _; rw [List.length_append]; simp only [List.length_cons, List.length_nil]; omega
        · omega
      · unfold writeM; split
        · show (alM k).recs.length ≤ _; omega
        · omega
      · unfold writeM; split
        · show (alM k).book.holds.length ≤ _; omega
        · omega
      · unfold writeM; split
        · intro v hv
          rcases List.mem_append.1 hv with h | h
          · exact vs v h
          · rw [List.mem_singleton] at h; subst h; exact ⟨Int.le_refl _, (by show (0 : Int) < 4096; decide)⟩
        · exact vs
    · have := closeM_used (alM k) (zerosS 32)
      refine ⟨(closeM_geo _ _).trans g, by omega, by omega, ?_, ?_, ?_, ?_⟩
      · unfold closeM applyM; split
        · show (alM k).vers.length ≤ _; omega
        · omega
      · unfold closeM applyM; split
        · show (_ ++ [_]).length ≤ _; rw [List.length_append]; simp only [List.length_cons, List.length_nil]; omega
        · omega
      · unfold closeM applyM; split
        · exact Nat.le_trans (apply_holds _ _) (by omega)
        · omega
      · unfold closeM applyM; split
        · exact vs
        · exact vs
theorem al_w0 : writeE (alM 0) (alC 0) = 0 := by rfl
theorem al_w1 : writeE (alM 1) (alC 1) = 0 := by rfl
theorem al_w2 : writeE (alM 2) (alC 2) = 0 := by rfl
theorem al_w3 : writeE (alM 3) (alC 3) = 5 := by rfl
theorem al_c4 : closeE (alM 4) = 0 := by rfl
theorem al_c5 : closeE (alM 5) = 6 := by
  have h : (alM 5).used = (alM 4).used + 1 := by
    show (closeM (alM 4) (zerosS 32)).used = _
    rw [closeM, if_pos al_c4]; rfl
  have h4 : (alM 4).used = 3 := by rfl
  have hg : geoData (alM 5).geo = 4 := by rw [(al_ok 5).geo]; rfl
  rw [closeE, if_pos (Or.inr (by omega))]
theorem al_write (k : Nat) (h : k < 4) : writeE (alM k) (alC k) = alW k ∧ alM (k + 1) = writeM (alM k) (alC k) :=
  ⟨match k, h with | 0, _ => al_w0 | 1, _ => al_w1 | 2, _ => al_w2 | 3, _ => al_w3, by show (if k < 4 then _ else _) = _; rw [if_pos h]⟩
theorem al_close (k : Nat) (h : ¬ k < 4) (h6 : k < 6) : closeE (alM k) = alW k ∧ alM (k + 1) = closeM (alM k) (zerosS 32) :=
  ⟨by rcases (show k = 4 ∨ k = 5 by omega) with rfl | rfl; exact al_c4; exact al_c5, by show (if k < 4 then _ else _) = _; rw [if_neg h]⟩
theorem al_kc {w : World} {b : Nat} {T : TypeId} (h : w.heap[b]? = some (.cells #[.int .i64 1, .int .i64 1, .int .i64 1, .int .i64 1, .int .i64 5, .int .i64 5] T (0, 0))) (k : Nat) (hk : k < 6) : w.cell? ⟨b, k, none⟩ = some (.int .i64 (alK k)) := by
  rw [cell_of_row w b k _ T (0, 0) h]
  match k, hk with
  | 0, _ => rfl
  | 1, _ => rfl
  | 2, _ => rfl
  | 3, _ => rfl
  | 4, _ => rfl
  | 5, _ => rfl
theorem al_wc {w : World} {b : Nat} {T : TypeId} (h : w.heap[b]? = some (.cells #[.int .i64 0, .int .i64 0, .int .i64 0, .int .i64 5, .int .i64 0, .int .i64 6] T (0, 0))) (k : Nat) (hk : k < 6) : w.cell? ⟨b, k, none⟩ = some (.int .i64 (alW k)) := by
  rw [cell_of_row w b k _ T (0, 0) h]
  match k, hk with
  | 0, _ => rfl
  | 1, _ => rfl
  | 2, _ => rfl
  | 3, _ => rfl
  | 4, _ => rfl
  | 5, _ => rfl
/-- a call and its slice -/
structure CallK where
  c : CallT
  a : Option Addr
  n : Nat
  k : Nat
def callE : Enc CallK := ⟨7, fun x => [.int .i64 x.c.kind, .int .i64 x.c.lba, .int .i64 x.c.epoch, .int .i64 x.c.time, .string x.c.data, .string x.c.name, .slice x.a x.n x.k], fun _ => rfl, fun x u hu => by simp only [List.mem_cons, List.not_mem_nil, or_false] at hu; rcases hu with rfl | rfl | rfl | rfl | rfl | rfl | rfl <;> rfl, by decide⟩
end Ks
namespace Go.Proofs.YtnkiokaeooopgaaGreat
open Go.RowKit Ks Go.Maps
set_option linter.unusedVariables false
set_option linter.unusedSimpArgs false
theorem eg_do24 : ∀ args w, (callFunc 8 args).run Tryz.prog w = .ok (.enter 8 args) w := fun _ _ => rfl
set_option maxRecDepth 100000 in
set_option maxHeartbeats 4000000 in
theorem few24_any (lv : Value) (l : List CallK) (w : World) (hl : Rd callE w lv l) :
    Calls Tryz.prog 4 #[lv] w fun e w' => ∃ b : Bool, e = .returned (.bool b) ∧ (b = true → l.length ≤ 60) ∧ Below w.heap.size w w' := by
  refine calls_by fun R HR => ?_
  have HL := Lib.hid hl
  obtain ⟨a, cap, rfl, -⟩ := hl.shape
  clear hl
  go_enter Tryz.func4, Tryz.ntmps4
  go_wp2_with fail
  go_loopw [3, 4] (fun n i wx => ∃ (k : Nat) (m : Int), k ≤ l.length ∧ n = .int .i64 m ∧ i = .int .i64 k ∧ Hid (Below w.heap.size w wx)) (fun _ i _ => l.length - (intOf i).toNat)
  case atStart => exact ⟨0, 0, Nat.zero_le _, rfl, rfl, Lib.hid (Below.refl _ _)⟩
  case round =>
    obtain ⟨k, m, hk, rfl, rfl, hN⟩ := hrel
    by_cases hlt : k < l.length
    · have hki : (k : Int) < (l.length : Int) := by omega
      by_cases h2 : k ≤ 60
      · have h2i : (k : Int) ≤ 60 := by omega
        have h2d : decide ((k : Int) ≤ 60) = true := decide_eq_true h2i
        obtain ⟨x, hx⟩ : ∃ x, l[k]? = some x := ⟨_, List.getElem?_eq_getElem hlt⟩
        obtain ⟨b, o, ha, hb0, dd⟩ := (HL.out.below hN.out).at k x hx
        cases ha
        have d4 : wr.cell? ⟨b, o + k * 7 + 4, none⟩ = some (.string x.c.data) := dd 4 _ rfl
        have d5 : wr.cell? ⟨b, o + k * 7 + 5, none⟩ = some (.string x.c.name) := dd 5 _ rfl
        have d6 : wr.cell? ⟨b, o + k * 7 + 6, none⟩ = some (.slice x.a x.n x.k) := dd 6 _ rfl
        generalize x.c.data = s at *
        generalize x.c.name = t at *
        generalize x.a = ka at *
        generalize x.n = kn at *
        generalize x.k = kc at *
        clear dd hx hb0
        have g4 := fun p => after_cell d4 p
        have g5 := fun p => after_cell d5 p
        have g6 := fun p => after_cell d6 p
        have hcase : ((s.size : Int) < 10000 ∨ ¬ (s.size : Int) < 10000) ∧ ((t.size : Int) < 10000 ∨ ¬ (t.size : Int) < 10000) ∧ ((kn : Int) < 10000 ∨ ¬ (kn : Int) < 10000) := ⟨by omega, by omega, by omega⟩
        obtain ⟨h3 | h3, h4 | h4, h5 | h5⟩ := hcase
        all_goals
          go_wp2_with fail
          refine wp_region_after (by kernel_rfl) (by kernel_rfl) ?_
          repeat (go_big_quiet_step (fail))
          refine wpQuiet_nil ?_
          rintro w5 ⟨q, rfl⟩
          have hb5 := after_below wr q
          have H5 := Lib.hid (hN.out.trans (hb5.mono hN.out.size))
          generalize After wr q = w5 at *
          clear hb5 g4 g5 g6 d4 d5 d6
          go_wp2_with fail
          go_roundw
          case rel => exact ⟨k + 1, _, by omega, rfl, by go_num, H5⟩
          case measure => simp [intOf]; omega
      · have h2i : ¬ (k : Int) ≤ 60 := by omega
        have h2d : decide ((k : Int) ≤ 60) = false := decide_eq_false h2i
        have h2e : decide (k ≤ 60) = false := decide_eq_false h2
        have h60i : ¬ (l.length : Int) ≤ 60 := by omega
        have h60d : decide ((l.length : Int) ≤ 60) = false := decide_eq_false h60i
        have h60e : decide (l.length ≤ 60) = false := decide_eq_false (by omega)
        go_wp2
        exact HR.out _ _ ⟨false, rfl, (fun h => by cases h), hN.out⟩
    · obtain rfl : k = l.length := by omega
      have hki : ¬ (l.length : Int) < (l.length : Int) := by omega
      by_cases h60 : l.length ≤ 60
      · have h60i : (l.length : Int) ≤ 60 := by omega
        have h60d : decide ((l.length : Int) ≤ 60) = true := decide_eq_true h60i
        go_wp2
        exact HR.out _ _ ⟨_, rfl, fun _ => h60, hN.out⟩
      · have h60i : ¬ (l.length : Int) ≤ 60 := by omega
        have h60d : decide ((l.length : Int) ≤ 60) = false := decide_eq_false h60i
        have h60e : decide (l.length ≤ 60) = false := decide_eq_false h60
        go_wp2
        exact HR.out _ _ ⟨false, rfl, (fun h => by cases h), hN.out⟩
/-- where the example stands, behind k calls -/
structure AlSt (B : Nat) (w0 : World) (n cc bn c mu mh mg wb kb : Nat) (k : Nat) (w : World) : Prop where
  b : Below B w0 w
  hw : w.heap[wb]? = some (.cells #[.int .i64 0, .int .i64 0, .int .i64 0, .int .i64 5, .int .i64 0, .int .i64 6] 3 (0, 0))
  hk : w.heap[kb]? = some (.cells #[.int .i64 1, .int .i64 1, .int .i64 1, .int .i64 1, .int .i64 5, .int .i64 5] 3 (0, 0))
  m : ∃ rv vv, ModAt w n cc bn c mu mh mg rv vv (alM k) ∧ ∀ j, FM n cc bn c mu mh mg rv vv j → B ≤ j ∧ j ≠ wb ∧ j ≠ kb
theorem AlSt.on {B : Nat} {w0 w w' : World} {n cc bn c mu mh mg wb kb k : Nat} (h : AlSt B w0 n cc bn c mu mh mg wb kb k w) (hB : B ≤ w.heap.size) (hb : Below w.heap.size w w') : AlSt B w0 n cc bn c mu mh mg wb kb k w' := by
  obtain ⟨rv, vv, hm, hf⟩ := h.m
  exact ⟨h.b.trans (hb.mono hB), blk_on hb h.hw, blk_on hb h.hk, rv, vv, hm.below hb, hf⟩
theorem AlSt.step {B : Nat} {w0 w : World} {n cc bn c mu mh mg wb kb k : Nat} (h : AlSt B w0 n cc bn c mu mh mg wb kb k w) (hB : B ≤ w.heap.size) (h7 : Seven n cc bn c mu mh mg) (hk : k < 6) :
    Calls Tryz.prog 8 #[.pointer (some ⟨n, 0, none⟩), .agg #[.int .i64 (alK k), .int .i64 0, .int .i64 0, .int .i64 0, .string ⟨#[]⟩, .string ⟨#[]⟩, .slice none 0 0]] w fun e w' => e = .returned (.agg #[.int .i64 (alW k), .string ⟨#[]⟩, .int .i64 0, .int .i64 0, .int .i64 0, .int .i64 0, .int .i64 0, .int .i64 0]) ∧ AlSt B w0 n cc bn c mu mh mg wb kb (k + 1) w' := by
  obtain ⟨rv, vv, hm, hf⟩ := h.m
  have ok := al_ok k
  have key : ∀ (w' : World) (rv' vv' : Value) (M : ModT), M = alM (k + 1) → ModAt w' n cc bn c mu mh mg rv' vv' M → Turn w w' (FM n cc bn c mu mh mg rv vv) (FM n cc bn c mu mh mg rv' vv') → AlSt B w0 n cc bn c mu mh mg wb kb (k + 1) w' := fun w' rv' vv' M hM hm' ht => by
    have h1 := lt_of_block h.hw
    have h2 := lt_of_block h.hk
    refine ⟨h.b.trans (ht.below (fun j q => (hf j q).1) hB), (ht.block _ h1 (fun q => (hf _ q).2.1 rfl)).trans h.hw, (ht.block _ h2 (fun q => (hf _ q).2.2 rfl)).trans h.hk, rv', vv', hM ▸ hm', fun j q => ?_⟩
    rcases ht.foot j q with q | q
    · exact hf j q
    · omega
  by_cases h4 : k < 4
  · refine (mdo_write (alC k) none 0 0 w hm (by show alK k = 1; rw [alK, if_pos h4]) h7 (by rw [ok.geo]; decide) ⟨ok.u0, by have := ok.u1; omega⟩ (by have := ok.vl; omega)).mono ?_
    rintro e w' ⟨rfl, vv', hm', ht⟩
    exact ⟨by rw [(al_write k h4).1], key w' rv vv' _ (al_write k h4).2.symm hm' ht⟩
  · refine (mdo_close (alC k) none 0 0 w hm (by show alK k = 5; rw [alK, if_neg h4]) h7 (by rw [ok.geo]; decide) (by have := ok.hl; omega) ⟨ok.u0, by have := ok.u1; omega⟩ (by have := ok.rl; omega) ok.vs (by have := ok.vl; omega)).mono ?_
    rintro e w' ⟨rfl, rv', hm', ht⟩
    exact ⟨by rw [(al_close k h4 hk).1], key w' rv' vv _ (al_close k h4 hk).2.symm hm' ht⟩
set_option maxRecDepth 100000 in
set_option maxHeartbeats 4000000 in
theorem alive24_any (w : World) : Calls Tryz.prog 5 #[] w fun e w' => e = .returned (.bool true) ∧ Below w.heap.size w w' := by
  refine calls_by fun R HR => ?_
  have HN := Lib.hid (fun w => mnew_any ⟨8, 2, 0⟩ w (by decide))
  go_enter Tryz.func5, Tryz.ntmps5
  go_wp2_with fail
  refine (HN.out _).mono ?_
  rintro en v1 ⟨n, cc, bn, c, mu, mh, mg, rfl, hm, h7, hb, hlow⟩
  have H0 := Lib.hid (And.intro hb (And.intro hm (And.intro h7 hlow)))
  clear hm h7 hb hlow
  obtain ⟨W1, hW1⟩ : ∃ W1, v1.alloc (.cells #[.int .i64 0, .int .i64 0, .int .i64 0, .int .i64 5, .int .i64 0, .int .i64 6] 3) = W1 := ⟨_, rfl⟩
  have hbW1 : Below v1.heap.size v1 W1 := by rw [← hW1]; exact alloc_below v1 _
  have kW1 : W1.heap[v1.heap.size]? = some (.cells #[.int .i64 0, .int .i64 0, .int .i64 0, .int .i64 5, .int .i64 0, .int .i64 6] 3 (0, 0)) := by rw [← hW1]; exact alloc_new v1 _
  have H1 := Lib.hid (And.intro (H0.out.1.trans (hbW1.mono H0.out.1.size)) (And.intro (H0.out.2.1.below hbW1) (And.intro H0.out.2.2.1 (And.intro H0.out.2.2.2 (kW1)))))
  clear hbW1 kW1
  have s1 : v1.heap.size < W1.heap.size := lt_of_block H1.out.2.2.2.2
  obtain ⟨W2, hW2⟩ : ∃ W2, W1.alloc (.cells #[.int .i64 1, .int .i64 1, .int .i64 1, .int .i64 1, .int .i64 5, .int .i64 5] 3) = W2 := ⟨_, rfl⟩
  have hbW2 : Below W1.heap.size W1 W2 := by rw [← hW2]; exact alloc_below W1 _
  have kW2 : W2.heap[W1.heap.size]? = some (.cells #[.int .i64 1, .int .i64 1, .int .i64 1, .int .i64 1, .int .i64 5, .int .i64 5] 3 (0, 0)) := by rw [← hW2]; exact alloc_new W1 _
  have H2 := Lib.hid (And.intro (H1.out.1.trans (hbW2.mono H1.out.1.size)) (And.intro (H1.out.2.1.below hbW2) (And.intro H1.out.2.2.1 (And.intro H1.out.2.2.2.1 (And.intro (blk_on hbW2 H1.out.2.2.2.2) (kW2))))))
  clear hbW2 kW2
  have HS := Lib.hid (show AlSt w.heap.size w n cc bn c mu mh mg v1.heap.size W1.heap.size 0 W2 from ⟨H2.out.1, H2.out.2.2.2.2.1, H2.out.2.2.2.2.2, _, _, H2.out.2.1, fun j q => ⟨H2.out.2.2.2.1 j q, by have := H0.out.2.1.ltF j q; constructor <;> omega⟩⟩)
  go_wp2_with fail
  clear hW1 hW2
  generalize v1.heap.size = wb at *
  generalize W1.heap.size = kb at *
  go_loopw [16] (fun i wx => ∃ (k : Nat), k ≤ 6 ∧ i = .int .i64 k ∧ Hid (AlSt w.heap.size w n cc bn c mu mh mg wb kb k wx)) (fun i _ => 6 - (intOf i).toNat)
  case atStart => exact ⟨0, Nat.zero_le _, rfl, HS⟩
  case round =>
    obtain ⟨k, hk, rfl, hN⟩ := hrel
    by_cases hlt : k < 6
    · have hki : (k : Int) < 6 := by omega
      have d0 := al_kc hN.out.hk k hlt
      have HB := Lib.hid (show w.heap.size ≤ wr.heap.size from hN.out.b.size)
      go_upto_region 8 with fail
      clear d0
      have HI := Lib.hid hki
      have HC := Lib.hid (fun w9 (h : AlSt w.heap.size w n cc bn c mu mh mg wb kb k w9) => h.step h.b.size H0.out.2.2.1 hlt)
      refine wp_region_mv (fun f => Called (AlSt w.heap.size w n cc bn c mu mh mg wb kb k) (AlSt w.heap.size w n cc bn c mu mh mg wb kb (k + 1)) (f 3)) (by kernel_rfl) (hN.out.on HB.out (drew_below wr)) ?_
      obtain ⟨S, F, hF, hFC⟩ := moved_class (fun f => Called (AlSt w.heap.size w n cc bn c mu mh mg wb kb k) (AlSt w.heap.size w n cc bn c mu mh mg wb kb (k + 1)) (f 3))
      have k0 : ∀ s, (F s).cell? ⟨wb, k, none⟩ = some (.int .i64 (alW k)) := fun s => by
        obtain ⟨f, hf⟩ := hFC s
        have h7 : Called (AlSt w.heap.size w n cc bn c mu mh mg wb kb k) (AlSt w.heap.size w n cc bn c mu mh mg wb kb (k + 1)) (f 3) (F s) := hf
        cases h3 : f 3 with
        | none => rw [h3] at h7; exact al_wc (AlSt.hw h7) k hlt
        | some v9 => rw [h3] at h7; exact al_wc (AlSt.hw h7) k hlt
      show wpAnyM _ _ _ _ _ 10 (Array.replicate 10 false) _ _
      refine mv_read 0 hF (fun _ _ _ h => h) rfl (by kernel_rfl) (by kernel_rfl) (by kernel_rfl) (fun K hK => ?_)
      go_simp
      first | refine ⟨_, fun _ => rfl, hK _ _ ?_⟩ | refine hK _ _ ?_
      clear hK K
      refine mv_read 1 hF (fun _ _ _ h => h) rfl (by kernel_rfl) (by kernel_rfl) (by kernel_rfl) (fun K hK => ?_)
      go_simp
      first | refine ⟨_, fun _ => rfl, hK _ _ ?_⟩ | refine hK _ _ ?_
      clear hK K
      refine mv_read 2 hF (fun _ _ _ h => h) rfl (by kernel_rfl) (by kernel_rfl) (by kernel_rfl) (fun K hK => ?_)
      go_simp
      first | refine ⟨_, fun _ => rfl, hK _ _ ?_⟩ | refine hK _ _ ?_
      clear hK K
      refine mv_call1 3 8 rfl (by kernel_rfl) (by kernel_rfl) (by kernel_rfl) rfl rfl eg_do24 (args := #[.pointer (some ⟨n, 0, none⟩), .agg #[.int .i64 (alK k), .int .i64 0, .int .i64 0, .int .i64 0, .string ⟨#[]⟩, .string ⟨#[]⟩, .slice none 0 0]]) rfl (u := .agg #[.int .i64 (alW k), .string ⟨#[]⟩, .int .i64 0, .int .i64 0, .int .i64 0, .int .i64 0, .int .i64 0, .int .i64 0]) (fun g w9 ha h9 h => ?_) ?_
      · have h7 : Called (AlSt w.heap.size w n cc bn c mu mh mg wb kb k) (AlSt w.heap.size w n cc bn c mu mh mg wb kb (k + 1)) (g 3) w9 := h
        rw [h9] at h7
        refine (HC.out w9 h7).mono ?_
        rintro en w8 ⟨q1, q2⟩
        exact ⟨q1, q2⟩
      have hfd : ∀ w : World, (Instr.field 39 (.agg #[.int .i64 (alW k), .string ⟨#[]⟩, .int .i64 0, .int .i64 0, .int .i64 0, .int .i64 0, .int .i64 0, .int .i64 0]) 0).run Tryz.prog w = .ok (.int .i64 (alW k)) w := fun _ => by kernel_rfl
      refine mv_read 4 hF (fun _ _ _ h => h) rfl (by kernel_rfl) (by kernel_rfl) (by kernel_rfl) (fun K hK => ?_)
      go_simp
      first | refine ⟨_, fun _ => rfl, hK _ _ ?_⟩ | refine hK _ _ ?_
      clear hK K
      refine mv_read 5 hF (fun _ _ _ h => h) rfl (by kernel_rfl) (by kernel_rfl) (by kernel_rfl) (fun K hK => ?_)
      go_simp
      first | refine ⟨_, fun _ => rfl, hK _ _ ?_⟩ | refine hK _ _ ?_
      clear hK K
      refine mv_read 6 hF (fun _ _ _ h => h) rfl (by kernel_rfl) (by kernel_rfl) (by kernel_rfl) (fun K hK => ?_)
      go_simp
      first | refine ⟨_, fun _ => rfl, hK _ _ ?_⟩ | refine hK _ _ ?_
      clear hK K
      refine mv_read 7 hF (fun _ _ _ h => h) rfl (by kernel_rfl) (by kernel_rfl) (by kernel_rfl) (fun K hK => ?_)
      go_simp
      first | refine ⟨_, fun _ => rfl, hK _ _ ?_⟩ | refine hK _ _ ?_
      clear hK K
      refine mv_read 8 hF (fun _ _ _ h => h) rfl (by kernel_rfl) (by kernel_rfl) (by kernel_rfl) (fun K hK => ?_)
      go_simp
      first | refine ⟨_, fun _ => rfl, hK _ _ ?_⟩ | refine hK _ _ ?_
      clear hK K
      refine mv_read 9 hF (fun _ _ _ h => h) rfl (by kernel_rfl) (by kernel_rfl) (by kernel_rfl) (fun K hK => ?_)
      go_simp
      first | refine ⟨_, fun _ => rfl, hK _ _ ?_⟩ | refine hK _ _ ?_
      clear hK K
      refine mv_end (by kernel_rfl) ?_
      intro w9 hw9
      have H3 := Lib.hid (show AlSt w.heap.size w n cc bn c mu mh mg wb kb (k + 1) w9 from hw9)
      clear hw9 hF hFC k0 hfd
      go_wp2_with fail
      go_roundw
      case rel => exact ⟨k + 1, by omega, by go_num, H3⟩
      case measure => first | (simp [intOf]; done) | (simp [intOf]; omega)
    · obtain rfl : k = 6 := by omega
      go_wp2
      exact HR.out _ _ ⟨rfl, hN.out.b⟩
end Go.Proofs.YtnkiokaeooopgaaGreat
/- Calls and shapes among a law's arguments. -/
namespace Go.Proofs.YtnkiokaeooopgaaGreat
open Go Go.RowKit Go.ChangeShapes Go.WideShapes Go.ChangeAt Ks
set_option linter.unusedVariables false
theorem cellsCall24 : Tryz.prog.cellsOf 35 = 7 := by kernel_rfl
theorem cellsGeo24 : Tryz.prog.cellsOf 23 = 3 := by kernel_rfl
theorem cellsInt24 : Tryz.prog.cellsOf 3 = 1 := by kernel_rfl
theorem cellsString24 : Tryz.prog.cellsOf 9 = 1 := by kernel_rfl
theorem cellsInts24 : Tryz.prog.cellsOf 33 = 1 := by kernel_rfl
def intE24 : Enc Int := ⟨1, fun x => [.int .i64 x], fun _ => rfl, fun x u hu => by simp only [List.mem_cons, List.not_mem_nil, or_false] at hu; rcases hu with rfl; rfl, by decide⟩
theorem int_of24 {H : Type} {enc : TypeId × Value → H} {W : World} (n : Nat) (cs : List Value) (d : DataW H × List MemPlace) (h : DataW.trod enc Tryz.prog W 0 (fun _ => true) true n 3 cs = some d) (hl : cs.length = intE24.k) :
    ∃ x : Int, cs = intE24.enc x ∧ True := by
  obtain ⟨e, h0, _, s0⟩ := DataW.trod_int Tryz.underlying3 h
  exact ⟨e, h0, trivial⟩
/-- a number that a word holds -/
def I64 (x : Int) : Prop := -9223372036854775808 ≤ x ∧ x ≤ 9223372036854775807
/-- what is known of a call among the arguments -/
def CallG (x : CallK) : Prop := I64 x.c.kind ∧ I64 x.c.lba ∧ I64 x.c.epoch ∧ I64 x.c.time ∧ x.c.data.size ≤ maxLen ∧ x.c.name.size ≤ maxLen
set_option maxRecDepth 100000 in
theorem call_of {H : Type} {enc : TypeId × Value → H} {W : World} (n : Nat) (cs : List Value) (d : DataW H × List MemPlace) (h : DataW.trod enc Tryz.prog W 0 (fun _ => true) true n 35 cs = some d) (hl : cs.length = callE.k) :
    ∃ x : CallK, cs = callE.enc x ∧ CallG x := by
  obtain ⟨xs, n, _, _, hl, hlen, hF⟩ := DataW.trod_struct Tryz.underlying35 h
  rw [cellsCall24] at hl
  match cs, hl, xs, hlen with
  | [c0, c1, c2, c3, c4, c5, c6], _, [x0, x1, x2, x3, x4, x5, x6], _ =>
    have t0 := hF 0 _ rfl
    have t1 := hF 1 _ rfl
    have t2 := hF 2 _ rfl
    have t3 := hF 3 _ rfl
    have t4 := hF 4 _ rfl
    have t5 := hF 5 _ rfl
    have t6 := hF 6 _ rfl
    simp [cellsInt24, cellsString24, cellsInts24] at t0 t1 t2 t3 t4 t5 t6
    obtain ⟨e0, h0, _, s0⟩ := DataW.trod_int Tryz.underlying3 t0
    obtain ⟨e1, h1, _, s1⟩ := DataW.trod_int Tryz.underlying3 t1
    obtain ⟨e2, h2, _, s2⟩ := DataW.trod_int Tryz.underlying3 t2
    obtain ⟨e3, h3, _, s3⟩ := DataW.trod_int Tryz.underlying3 t3
    obtain ⟨e4, h4, _, s4⟩ := DataW.trod_string Tryz.underlying9 t4
    obtain ⟨e5, h5, _, s5⟩ := DataW.trod_string Tryz.underlying9 t5
    obtain ⟨v, l, h6, _, hr, hm, hG⟩ := rd_opens (E := intE24) Tryz.underlying33 cellsInt24 _ int_of24 t6
    simp at h0 h1 h2 h3 h4 h5 h6
    subst h0 h1 h2 h3 h4 h5 h6
    obtain ⟨a, c, rfl, _⟩ := hr.shape
    exact ⟨⟨⟨e0, e1, e2, e3, e4, e5⟩, a, l.length, c⟩, rfl, i64_range s0, i64_range s1, i64_range s2, i64_range s3, s4, s5⟩
set_option maxRecDepth 100000 in
theorem open_calls {H : Type} {enc : TypeId × Value → H} {W : World} {base : Nat} {v : Value} {d : DataW H} {ps : List MemPlace}
    (hok : Value.okWide Tryz.prog W .any base 24 v) (h : DataW.Trod enc Tryz.prog W 0 (fun _ => true) true 24 v d ps) : ∃ l, Rd callE W v l ∧ l.length ≤ maxLen ∧ ∀ x ∈ l, CallG x :=
  rd_open (E := callE) Tryz.underlying24 cellsCall24 _ call_of hok h
set_option maxRecDepth 100000 in
theorem open_call {H : Type} {enc : TypeId × Value → H} {W : World} {base : Nat} {v : Value} {d : DataW H} {ps : List MemPlace}
    (hok : Value.okWide Tryz.prog W .any base 35 v) (h : DataW.Trod enc Tryz.prog W 0 (fun _ => true) true 35 v d ps) :
    ∃ (x : CallT) (a : Option Addr) (n k : Nat), v = callV x a n k ∧ CallG ⟨x, a, n, k⟩ := by
  obtain ⟨fuel, hf⟩ := h
  have hv : ∃ cs, v = .agg cs := by
    have h0 := hok
    unfold Value.okWide at h0
    rw [Tryz.underlying35] at h0
    obtain ⟨cs, h1, _⟩ := h0
    exact ⟨cs, h1⟩
  obtain ⟨⟨cs⟩, rfl⟩ := hv
  have hl : cs.length = 7 := by
    obtain ⟨xs, n, _, _, hl, _, _⟩ := DataW.trod_struct Tryz.underlying35 hf
    rw [cellsCall24] at hl
    simpa [Value.cells] using hl
  obtain ⟨x, hx, hg⟩ := call_of _ _ _ hf hl
  obtain ⟨x, a, n, k⟩ := x
  refine ⟨x, a, n, k, ?_, hg⟩
  simp only [Value.cells] at hx
  subst hx
  rfl
set_option maxRecDepth 100000 in
theorem open_geo {H : Type} {enc : TypeId × Value → H} {W : World} {base : Nat} {v : Value} {d : DataW H} {ps : List MemPlace}
    (hok : Value.okWide Tryz.prog W .any base 23 v) (h : DataW.Trod enc Tryz.prog W 0 (fun _ => true) true 23 v d ps) :
    ∃ g : GeoD, v = geoV g ∧ I64 g.blocks ∧ I64 g.lbas ∧ I64 g.first := by
  obtain ⟨fuel, hf⟩ := h
  have hv : ∃ cs, v = .agg cs := by
    have h0 := hok
    unfold Value.okWide at h0
    rw [Tryz.underlying23] at h0
    obtain ⟨cs, h1, _⟩ := h0
    exact ⟨cs, h1⟩
  obtain ⟨⟨cs⟩, rfl⟩ := hv
  obtain ⟨xs, n, _, _, hl, hlen, hF⟩ := DataW.trod_struct Tryz.underlying23 hf
  rw [cellsGeo24] at hl
  simp only [Value.cells] at hl hF
  match cs, hl, xs, hlen with
  | [c0, c1, c2], _, [x0, x1, x2], _ =>
    have t0 := hF 0 _ rfl
    have t1 := hF 1 _ rfl
    have t2 := hF 2 _ rfl
    simp [cellsInt24] at t0 t1 t2
    obtain ⟨e0, h0, _, s0⟩ := DataW.trod_int Tryz.underlying3 t0
    obtain ⟨e1, h1, _, s1⟩ := DataW.trod_int Tryz.underlying3 t1
    obtain ⟨e2, h2, _, s2⟩ := DataW.trod_int Tryz.underlying3 t2
    simp at h0 h1 h2
    subst h0 h1 h2
    exact ⟨⟨e0, e1, e2⟩, rfl, i64_range s0, i64_range s1, i64_range s2⟩
end Go.Proofs.YtnkiokaeooopgaaGreat
