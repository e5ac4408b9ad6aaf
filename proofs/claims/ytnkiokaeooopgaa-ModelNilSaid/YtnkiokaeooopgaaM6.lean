/- Texts that the claim rests on, part 6: AppAt, ModWrite, ModApply, ModClose, ModDo, ModNew. -/
import Derived.Test.YtnkiokaeooopgaaShelf
import Derived.Test.YtnkiokaeooopgaaM5
/- An own row that lies in a cell of a block: what append makes of it, and its store, in a drawn region. Plain. No program is in sight. -/
namespace Ks
open Go Go.RowKit
set_option linter.unusedVariables false
theorem cell_off {w : World} {bo off : Nat} {ad : Addr} {x u : Value} (hb : ad.block = bo) (ho : ad.off ≠ off) (h : w.cell? ad = some x) : (w.setCell ⟨bo, off, none⟩ u).cell? ad = some x := by
  rw [show (w.setCell ⟨bo, off, none⟩ u).cell? ad = w.cell? ad by
    apply World.cell?_setCell_other
    intro e
    exact ho (by rw [← e])]
  exact h
/-- the same, where the row lies in a box: a: what was read of it, z: that it was stored -/
def AppAt {α : Type} (E : Enc α) (B : Nat) (w0 : World) (T : TypeId) (v : Value) (L l : List α) (bo off : Nat) (a s u z : Option Value) (w : World) : Prop :=
  match z with
  | none => Appends E B w0 T v L l s u w ∧ (u ≠ none → a ≠ none ∧ s ≠ none)
  | some _ => (a ≠ none ∧ s ≠ none) ∧ ∃ u' w1, u = some u' ∧ Appends E B w0 T v L l s (some u') w1 ∧ w = w1.setCell ⟨bo, off, none⟩ u'
section
variable {α : Type} {E : Enc α} {B bo off : Nat} {w0 w w' : World} {T : TypeId} {v : Value} {L l : List α} {a s u z : Option Value}
theorem AppAt.start (h : Row E w0 B T v L) (hb : Below w0.heap.size w0 w) : AppAt E B w0 T v L l bo off none none none none w := ⟨Appends.start h hb, fun h => absurd rfl h⟩
theorem AppAt.read (x : Value) (h : AppAt E B w0 T v L l bo off a s u z w) : AppAt E B w0 T v L l bo off (some x) s u z w := by
  cases z with
  | none => exact ⟨h.1, fun hu => ⟨(fun e => by cases e), (h.2 hu).2⟩⟩
  | some z => exact ⟨⟨(fun e => by cases e), h.1.2⟩, h.2⟩
/-- what was there stands, but for the row and its box -/
theorem AppAt.cell {ad : Addr} {x : Value} (h : AppAt E B w0 T v L l bo off a s u z w) (hc : w0.cell? ad = some x) (hne : v.ownBlock ≠ some ad.block) (hbo : ad.block ≠ bo ∨ ad.off ≠ off) : w.cell? ad = some x := by
  cases z with
  | none => exact h.1.cell hc hne
  | some z =>
    obtain ⟨_, u', w1, _, h1, rfl⟩ := h
    have h2 := h1.cell hc hne
    rcases hbo with hbo | hbo
    · have hfar : (w1.setCell ⟨bo, off, none⟩ u').cell? ad = w1.cell? ad := World.cell?_of_block (Below.heap_setCell _ _ _ _ hbo)
      rw [hfar]
      exact h2
    · by_cases hb : ad.block = bo
      · exact cell_off hb hbo h2
      · have hfar : (w1.setCell ⟨bo, off, none⟩ u').cell? ad = w1.cell? ad := World.cell?_of_block (Below.heap_setCell _ _ _ _ hb)
        rw [hfar]
        exact h2
theorem AppAt.block {b : Nat} {o : Obj} (h : AppAt E B w0 T v L l bo off a s u z w) (hc : w0.heap[b]? = some o) (hne : v.ownBlock ≠ some b) (hbo : b ≠ bo) : w.heap[b]? = some o := by
  cases z with
  | none => exact h.1.block hc hne
  | some z =>
    obtain ⟨_, u', w1, _, h1, rfl⟩ := h
    rw [set_ne _ hbo]
    exact h1.block hc hne
/-- the box, ahead of its reading -/
theorem AppAt.box {x : Value} (h : AppAt E B w0 T v L l bo off none s u z w) (hc : w0.cell? ⟨bo, off, none⟩ = some x) (hne : v.ownBlock ≠ some bo) : w.cell? ⟨bo, off, none⟩ = some x := by
  cases z with
  | none => exact h.1.cell hc hne
  | some z => exact absurd rfl h.1.1
theorem AppAt.unread (h : AppAt E B w0 T v L l bo off a s u none w) : Appends E B w0 T v L l s u w := h.1
theorem AppAt.early (h : AppAt E B w0 T v L l bo off a none u z w) : u = none ∧ z = none := by
  cases z with
  | none =>
    cases u with
    | none => exact ⟨rfl, rfl⟩
    | some u => exact absurd rfl (h.2 (fun e => by cases e)).2
  | some z => exact absurd rfl h.1.2
theorem AppAt.mid (h : AppAt E B w0 T v L l bo off a s none z w) : z = none := by
  cases z with
  | none => rfl
  | some z => obtain ⟨_, u', w1, e, _⟩ := h; cases e
theorem AppAt.made (h : AppAt E B w0 T v L l bo off a none u z w) (cs : Array Value) (e : cs.toList = E.cs l) (fr : Nat × Nat := (0, 0)) : AppAt E B w0 T v L l bo off a (some (.slice (some ⟨w.heap.size, 0, none⟩) l.length l.length)) u z (w.alloc (.cells cs T fr)) := by
  obtain ⟨rfl, rfl⟩ := h.early
  exact ⟨h.1.made cs e fr, fun h => absurd rfl h⟩
theorem AppAt.rows {lv : Value} (h : AppAt E B w0 T v L l bo off a (some lv) none z w) (hB : B ≤ w0.heap.size) : Row E w B T v L ∧ Rd E w lv l ∧ B ≤ w.heap.size := by
  obtain rfl := h.mid
  exact h.1.rows hB
theorem AppAt.grew {v' : Value} {x y : Value} (h : AppAt E B w0 T v L l bo off (some x) (some y) none z w) (hG : Grew E w w' B T v v' (L ++ l)) : AppAt E B w0 T v L l bo off (some x) (some y) (some v') z w' := by
  obtain rfl := h.mid
  exact ⟨h.1.grew hG, fun _ => ⟨(fun e => by cases e), (fun e => by cases e)⟩⟩
theorem AppAt.stored {v' y : Value} (h : AppAt E B w0 T v L l bo off a s (some v') none w) : AppAt E B w0 T v L l bo off a s (some v') (some y) (w.setCell ⟨bo, off, none⟩ v') :=
  ⟨h.2 (fun e => by cases e), v', w, rfl, h.1, rfl⟩
theorem AppAt.done {u' y : Value} (h : AppAt E B w0 T v L l bo off a s (some u') (some y) w) : ∃ w1, w0.grownBy w1 v.ownBlock ∧ Row E w1 B T u' (L ++ l) ∧ w = w1.setCell ⟨bo, off, none⟩ u' := by
  obtain ⟨_, u2, w1, e, h1, rfl⟩ := h
  cases e
  exact ⟨w1, h1.1, h1.2.2, rfl⟩
theorem AppAt.done2 {u' y : Value} (h : AppAt E B w0 T v L l bo off a s (some u') (some y) w) : ∃ w1, w0.grownBy w1 v.ownBlock ∧ (u'.ownBlock = v.ownBlock ∨ ∀ b, u'.ownBlock = some b → w0.heap.size ≤ b) ∧ Row E w1 B T u' (L ++ l) ∧ w = w1.setCell ⟨bo, off, none⟩ u' := by
  obtain ⟨_, u2, w1, e, h1, rfl⟩ := h
  cases e
  exact ⟨w1, h1.1, h1.2.1, h1.2.2, rfl⟩
end
end Ks
/- A version written: of the program's model. -/
set_option maxRecDepth 100000
namespace Go.Proofs.Ytnkiokaeooopgaa
open Go.RowKit Ks Go.Maps
set_option linter.unusedVariables false
set_option linter.unusedSimpArgs false
theorem blk7c {w : World} {b : Nat} {c0 c1 c2 c3 c4 c5 c6 : Value} {T : TypeId} (h : w.heap[b]? = some (.cells #[c0, c1, c2, c3, c4, c5, c6] T (0, 0))) : w.cell? ⟨b, 0, none⟩ = some c0 ∧ w.cell? ⟨b, 1, none⟩ = some c1 ∧ w.cell? ⟨b, 2, none⟩ = some c2 ∧ w.cell? ⟨b, 3, none⟩ = some c3 ∧ w.cell? ⟨b, 4, none⟩ = some c4 ∧ w.cell? ⟨b, 5, none⟩ = some c5 ∧ w.cell? ⟨b, 6, none⟩ = some c6 :=
  ⟨by rw [cell_of_row w b 0 _ _ _ h]; rfl, by rw [cell_of_row w b 1 _ _ _ h]; rfl, by rw [cell_of_row w b 2 _ _ _ h]; rfl, by rw [cell_of_row w b 3 _ _ _ h]; rfl, by rw [cell_of_row w b 4 _ _ _ h]; rfl, by rw [cell_of_row w b 5 _ _ _ h]; rfl, by rw [cell_of_row w b 6 _ _ _ h]; rfl⟩
theorem infoVer : (Try.prog.info? 66).map (fun i => (i.zero, i.size, i.bytes)) = some (some (.agg #[.int .i64 0, .int .i64 0, .string ⟨#[]⟩]), 3, 32) := by kernel_rfl
theorem verT24 : ElemT Try.prog 47 66 verD.k 32 := elemT_of Try.underlying47 infoVer rfl
theorem eg_bepoch : ∀ args w, (callFunc 19 args).run Try.prog w = .ok (.enter 19 args) w := fun _ _ => rfl
theorem BookAt.same {w w' : World} {n c mu mh mg : Nat} {b : BookT} (h : BookAt w n c mu mh mg b) (hk : ∀ k o, FB n c mu mh mg k → w.heap[k]? = some o → w'.heap[k]? = some o) : BookAt w' n c mu mh mg b := by
  have key : ∀ k, FB n c mu mh mg k → w'.heap[k]? = w.heap[k]? := fun k hf => by
    have hlt := h.lt k hf
    rw [Array.getElem?_eq_getElem hlt]
    exact hk k _ hf (Array.getElem?_eq_getElem hlt)
  exact ⟨(key n (Or.inl rfl)).trans h.blk, (key c (Or.inr (Or.inl rfl))).trans h.clk, h.till.keep (key mu (Or.inr (Or.inr (Or.inl rfl)))), h.holds.keep (key mh (Or.inr (Or.inr (Or.inr (Or.inl rfl))))), h.gone.keep (key mg (Or.inr (Or.inr (Or.inr (Or.inr rfl)))))⟩
theorem bepoch_any {n c mu mh mg : Nat} {b : BookT} (w : World) (h : BookAt w n c mu mh mg b) : Calls Try.prog 19 #[.pointer (some ⟨n, 0, none⟩)] w fun e w' => e = .returned (.int .i64 b.epoch) ∧ w' = w := by
  refine calls_by fun R HR => ?_
  have HT := Lib.hid (bthere_yes w h)
  obtain ⟨⟨z0, z1, z2, z3, z4, z5⟩, fz⟩ := blk6 h.blk
  clear h fz
  go_enter Try.func19, Try.ntmps19
  go_wp2_with fail
  refine HT.out.mono ?_
  rintro en v1 ⟨rfl, hw⟩
  rw [hw]
  clear hw
  go_wp2
  exact HR.out _ _ ⟨rfl, rfl⟩
set_option maxRecDepth 100000 in
set_option maxHeartbeats 8000000 in
theorem mwrite_any {n cc bn c mu mh mg : Nat} {rv vv : Value} {m : ModT} (cl : CallT) (ka : Option Addr) (kn kc : Nat) (w : World) (h : ModAt w n cc bn c mu mh mg rv vv m) (h7 : Seven n cc bn c mu mh mg)
    (hg : -9223372036854775808 ≤ m.geo.blocks ∧ m.geo.blocks ≤ 9223372036854775807) (hu : 0 ≤ m.used ∧ m.used ≤ 1000000000) (hn : m.vers.length ≤ 1000000) :
    Calls Try.prog 20 #[.pointer (some ⟨n, 0, none⟩), .agg #[.int .i64 cl.kind, .int .i64 cl.lba, .int .i64 cl.epoch, .int .i64 cl.time, .string cl.data, .string cl.name, .slice ka kn kc]] w fun e w' =>
      e = .returned (.int .i64 (writeE m cl)) ∧ ∃ vv', ModAt w' n cc bn c mu mh mg rv vv' (writeM m cl) ∧ Turn w w' (FM n cc bn c mu mh mg rv vv) (FM n cc bn c mu mh mg rv vv') := by
  refine calls_by fun R HR => ?_
  have HD := Lib.hid h
  have H7 := Lib.hid h7
  have HPl := Lib.hid (fun w (h : ModAt w n cc bn c mu mh mg rv vv m) => mplace_any cl.lba w h)
  have HRo := Lib.hid (fun w (h : ModAt w n cc bn c mu mh mg rv vv m) => mroom_any w h hg)
  have HZ0 : Hid (writeE m cl = if placeE m cl.lba ≠ 0 then placeE m cl.lba else if 4000 < cl.data.size then 2 else if roomM m = 0 then 5 else 0) := Lib.hid rfl
  have HM0 : Hid (writeM m cl = if writeE m cl = 0 then { m with used := m.used + 1, vers := m.vers ++ [(cl.lba, m.book.epoch, cl.data)] } else m) := Lib.hid rfl
  have HU := Lib.hid (And.intro hu hn)
  generalize writeM m cl = WM at *
  generalize writeE m cl = WE at *
  generalize placeE m cl.lba = PE at *
  generalize roomM m = RM at *
  obtain ⟨ki, lb, ce, ti, da, na⟩ := cl
  simp only at HPl HZ0 HM0
  clear h h7 hg hu hn
  have H1 := Lib.hid (And.intro (Below.refl w.heap.size w) (HD.out))
  obtain ⟨W1, hW1⟩ : ∃ W1, w.alloc (.cells #[.int .i64 ki, .int .i64 lb, .int .i64 ce, .int .i64 ti, .string da, .string na, .slice ka kn kc] 32) = W1 := ⟨_, rfl⟩
  have hbW1 : Below w.heap.size w W1 := by rw [← hW1]; exact alloc_below w _
  have kW1 : W1.heap[w.heap.size]? = some (.cells #[.int .i64 ki, .int .i64 lb, .int .i64 ce, .int .i64 ti, .string da, .string na, .slice ka kn kc] 32 (0, 0)) := by rw [← hW1]; exact alloc_new w _
  have H2 := Lib.hid (And.intro (H1.out.1.trans (hbW1.mono H1.out.1.size)) (And.intro (H1.out.2.below hbW1) (kW1)))
  clear hbW1 kW1
  obtain ⟨a0, a1, a2, a3, a4, a5, a6⟩ := blk7c H2.out.2.2
  have hwn : n < w.heap.size := HD.out.lt
  go_enter Try.func20, Try.ntmps20
  go_wp2_with fail
  refine (HPl.out _ H2.out.2.1).mono ?_
  rintro en y0 ⟨rfl, hw⟩
  rw [hw]
  clear hw
  by_cases hp : PE = 0
  case neg =>
    have hp2 : (PE != 0) = true := by simpa using hp
    have HZ := Lib.hid (show WE = PE by rw [HZ0.out]; simp [hp])
    have HQ := Lib.hid (show WM = m by rw [HM0.out, HZ.out]; simp [hp])
    go_wp2
    exact HR.out _ _ ⟨by rw [HZ.out]; try rfl, vv, by rw [HQ.out]; exact H2.out.2.1, Turn.of_below _ H2.out.1⟩
  case pos =>
    subst hp
    by_cases hs : 4000 < da.size
    · have hsi : (4000 : Int) < (da.size : Int) := by omega
      have HZ := Lib.hid (show WE = 2 by rw [HZ0.out]; simp [hs])
      have HQ := Lib.hid (show WM = m by rw [HM0.out, HZ.out]; simp)
      go_wp2
      exact HR.out _ _ ⟨by rw [HZ.out]; try rfl, vv, by rw [HQ.out]; exact H2.out.2.1, Turn.of_below _ H2.out.1⟩
    have hsi : ¬ (4000 : Int) < (da.size : Int) := by omega
    go_wp2_with fail
    refine (HRo.out _ H2.out.2.1).mono ?_
    rintro en v1 ⟨rfl, hb⟩
    have H3 := Lib.hid (And.intro (H2.out.1.trans (hb.mono H2.out.1.size)) (And.intro (H2.out.2.1.below hb) (blk_on hb H2.out.2.2)))
    clear hb
    clear a0 a1 a2 a3 a4 a5 a6 hW1
    obtain ⟨a0, a1, a2, a3, a4, a5, a6⟩ := blk7c H3.out.2.2
    by_cases hr : RM = 0
    · subst hr
      have HZ := Lib.hid (show WE = 5 by rw [HZ0.out]; simp [hs])
      have HQ := Lib.hid (show WM = m by rw [HM0.out, HZ.out]; simp)
      go_wp2
      exact HR.out _ _ ⟨by rw [HZ.out]; try rfl, vv, by rw [HQ.out]; exact H3.out.2.1, Turn.of_below _ H3.out.1⟩
    have hr2 : (RM == 0) = false := by simpa using hr
    have HZ := Lib.hid (show WE = 0 by rw [HZ0.out]; simp [hs, hr])
    have HQ := Lib.hid (show WM = { m with used := m.used + 1, vers := m.vers ++ [(lb, m.book.epoch, da)] } by rw [HM0.out, HZ.out]; rfl)
    have hwr : wrap64 (m.used + 1) = m.used + 1 := by have := HU.out.1; unfold wrap64; omega
    obtain ⟨⟨z0, z1, z2, z3, z4, z5, z6, z7⟩, fz⟩ := blkR H3.out.2.1.blk
    have fz3 := fz 3
    clear fz
    obtain ⟨P1, hP1⟩ : ∃ W, v1.setCell ⟨n, 3, none⟩ (.int .i64 (m.used + 1)) = W := ⟨_, rfl⟩
    have HO := Lib.hid (show (∀ k, k ≠ n → P1.heap[k]? = v1.heap[k]?) from fun k hk => by rw [← hP1]; exact set_ne _ hk)
    have KP := Lib.hid (show P1.heap[n]? = some (.cells #[.int .i64 m.geo.blocks, .int .i64 m.geo.lbas, .int .i64 m.geo.first, .int .i64 (m.used + 1), .pointer (some ⟨cc, 0, none⟩), .pointer (some ⟨bn, 0, none⟩), rv, vv] 49 (0, 0)) by rw [← hP1]; exact set_blk H3.out.2.1.blk 3 _)
    have HTP := Lib.hid (show Turn w P1 (FM n cc bn c mu mh mg rv vv) (FM n cc bn c mu mh mg rv vv) by rw [← hP1]; exact (Turn.of_below _ H3.out.1).trans (Turn.cell _ n 3 _ (Or.inl rfl)))
    have HSz := Lib.hid (show P1.heap.size = v1.heap.size by rw [← hP1]; simp)
    have HMv := Lib.hid H3.out.2.1
    have HAv := Lib.hid H3.out.2.2
    have HBw := Lib.hid H3.out.1
    go_upto_region 9 with fail
    try rw [hP1]
    clear hP1 a0 a1 a2 a3 a4 a5 a6 z0 z1 z2 z3 z4 z5 z6 z7 fz3
    have hownv : ∀ k, vv.ownBlock = some k → n + 1 ≤ k ∧ k < v1.heap.size := fun k e => HMv.out.vers.lt e
    have HOw := Lib.hid hownv
    have hva : vv.ownBlock ≠ some w.heap.size := fun e => by have := (HD.out.vers.lt e).2; omega
    have hvn : vv.ownBlock ≠ some n := fun e => by have := (hownv n e).1; omega
    have KA := Lib.hid (show P1.heap[w.heap.size]? = some (.cells #[.int .i64 ki, .int .i64 lb, .int .i64 ce, .int .i64 ti, .string da, .string na, .slice ka kn kc] 32 (0, 0)) from (HO.out _ (by omega)).trans HAv.out)
    have KB := Lib.hid (show BookAt P1 bn c mu mh mg m.book from HMv.out.book.same fun k o hf hk => (HO.out k (by have := (H7.out.2.2 k hf).1; omega)).trans hk)
    have KV := Lib.hid (show Row verD P1 (n + 1) 66 vv m.vers from HMv.out.vers.keep fun k e => HO.out k (by have := (hownv k e).1; omega))
    have HNV := Lib.hid (And.intro hva hvn)
    obtain ⟨vva, vvc, hvs, -⟩ := KV.out.shape
    subst hvs
    obtain ⟨a0, a1, a2, a3, a4, a5, a6⟩ := blk7c KA.out
    obtain ⟨⟨z0, z1, z2, z3, z4, z5, z6, z7⟩, fz⟩ := blkR KP.out
    refine wp_region_mv (fun f => AppAt verD (n + 1) P1 66 (.slice vva m.vers.length vvc) m.vers [(lb, m.book.epoch, da)] n 7 (f 4) (f 15) (f 16) (f 19)) (by kernel_rfl) (AppAt.start KV.out (drew_below P1)) ?_
    obtain ⟨S, F, hF, hFC⟩ := moved_class (fun f => AppAt verD (n + 1) P1 66 (.slice vva m.vers.length vvc) m.vers [(lb, m.book.epoch, da)] n 7 (f 4) (f 15) (f 16) (f 19))
    obtain ⟨S0, F0, hF0, hFC0⟩ := moved_classN (fun f => AppAt verD (n + 1) P1 66 (.slice vva m.vers.length vvc) m.vers [(lb, m.book.epoch, da)] n 7 (f 4) (f 15) (f 16) (f 19)) 4
    have j1 : ∀ s, (F s).cell? ⟨w.heap.size, 1, none⟩ = some (.int .i64 lb) := fun s => (hFC s).choose_spec.cell a1 hva (Or.inl (by show w.heap.size ≠ n; omega))
    have j4 : ∀ s, (F s).cell? ⟨w.heap.size, 4, none⟩ = some (.string da) := fun s => (hFC s).choose_spec.cell a4 hva (Or.inl (by show w.heap.size ≠ n; omega))
    have j5 : ∀ s, (F s).cell? ⟨n, 5, none⟩ = some (.pointer (some ⟨bn, 0, none⟩)) := fun s => (hFC s).choose_spec.cell z5 hvn (Or.inr (by show (5 : Nat) ≠ 7; decide))
    have j0 : ∀ s, (F s).cell? ⟨n, 0, none⟩ = some (.int .i64 m.geo.blocks) := fun s => (hFC s).choose_spec.cell z0 hvn (Or.inr (by show (0 : Nat) ≠ 7; decide))
    have j7 : ∀ s, (F0 s).cell? ⟨n, 7, none⟩ = some (.slice vva m.vers.length vvc) := fun s => by
      have h := (hFC0 s).choose_spec
      have h2 := h.2
      simp only [h.1] at h2
      exact h2.box z7 hvn
    show wpAnyM _ _ _ _ _ 20 (Array.replicate 20 false) _ _
    refine mv_read 0 hF (fun _ _ _ h => h) rfl (by kernel_rfl) (by kernel_rfl) (by kernel_rfl) (fun K hK => ?_)
    go_simp
    first | refine ⟨_, fun _ => rfl, hK _ _ ?_⟩ | refine hK _ _ ?_
    clear hK K
    refine mv_read 1 hF (fun _ _ _ h => h) rfl (by kernel_rfl) (by kernel_rfl) (by kernel_rfl) (fun K hK => ?_)
    go_simp
    first | refine ⟨_, fun _ => rfl, hK _ _ ?_⟩ | refine hK _ _ ?_
    clear hK K
    refine mv_read 2 hF (fun _ _ _ h => h) rfl (by kernel_rfl) (by kernel_rfl) (by kernel_rfl) (fun K hK => ?_)
    go_simp
    first | refine ⟨_, fun _ => rfl, hK _ _ ?_⟩ | refine hK _ _ ?_
    clear hK K
    refine mv_read 3 hF (fun _ _ _ h => h) rfl (by kernel_rfl) (by kernel_rfl) (by kernel_rfl) (fun K hK => ?_)
    go_simp
    first | refine ⟨_, fun _ => rfl, hK _ _ ?_⟩ | refine hK _ _ ?_
    clear hK K
    refine mv_readN 4 hF0 (fun f w v _ h => h.read v) rfl (by kernel_rfl) (by kernel_rfl) (by kernel_rfl) (fun K hK => ?_)
    go_simp
    first | refine ⟨_, fun _ => rfl, hK _ _ ?_⟩ | refine hK _ _ ?_
    clear hK K
    refine mv_read 5 hF (fun _ _ _ h => h) rfl (by kernel_rfl) (by kernel_rfl) (by kernel_rfl) (fun K hK => ?_)
    go_simp
    first | refine ⟨_, fun _ => rfl, hK _ _ ?_⟩ | refine hK _ _ ?_
    clear hK K
    refine mv_read 6 hF (fun _ _ _ h => h) rfl (by kernel_rfl) (by kernel_rfl) (by kernel_rfl) (fun K hK => ?_)
    go_simp
    first | refine ⟨_, fun _ => rfl, hK _ _ ?_⟩ | refine hK _ _ ?_
    clear hK K
    refine mv_read 7 hF (fun _ _ _ h => h) rfl (by kernel_rfl) (by kernel_rfl) (by kernel_rfl) (fun K hK => ?_)
    go_simp
    first | refine ⟨_, fun _ => rfl, hK _ _ ?_⟩ | refine hK _ _ ?_
    clear hK K
    refine mv_read 8 hF (fun _ _ _ h => h) rfl (by kernel_rfl) (by kernel_rfl) (by kernel_rfl) (fun K hK => ?_)
    go_simp
    first | refine ⟨_, fun _ => rfl, hK _ _ ?_⟩ | refine hK _ _ ?_
    clear hK K
    refine mv_read 9 hF (fun _ _ _ h => h) rfl (by kernel_rfl) (by kernel_rfl) (by kernel_rfl) (fun K hK => ?_)
    go_simp
    first | refine ⟨_, fun _ => rfl, hK _ _ ?_⟩ | refine hK _ _ ?_
    clear hK K
    refine mv_read 10 hF (fun _ _ _ h => h) rfl (by kernel_rfl) (by kernel_rfl) (by kernel_rfl) (fun K hK => ?_)
    go_simp
    first | refine ⟨_, fun _ => rfl, hK _ _ ?_⟩ | refine hK _ _ ?_
    clear hK K
    refine mv_call1 11 19 rfl (by kernel_rfl) (by kernel_rfl) (by kernel_rfl) rfl rfl eg_bepoch (args := #[.pointer (some ⟨bn, 0, none⟩)]) rfl (u := .int .i64 m.book.epoch) (fun g w9 ha h0 h => (bepoch_any w9 (KB.out.same fun k o hf hk => h.block hk (fun e => by have := (HOw.out k e).1; have := (H7.out.2.2 k hf).1; omega) (by have := (H7.out.2.2 k hf).1; omega))).mono fun en w8 ⟨q1, q2⟩ => ⟨q1, by rw [q2]; exact h⟩) ?_
    refine mv_read 12 hF (fun _ _ _ h => h) rfl (by kernel_rfl) (by kernel_rfl) (by kernel_rfl) (fun K hK => ?_)
    go_simp
    first | refine ⟨_, fun _ => rfl, hK _ _ ?_⟩ | refine hK _ _ ?_
    clear hK K
    refine mv_read 13 hF (fun _ _ _ h => h) rfl (by kernel_rfl) (by kernel_rfl) (by kernel_rfl) (fun K hK => ?_)
    go_simp
    first | refine ⟨_, fun _ => rfl, hK _ _ ?_⟩ | refine hK _ _ ?_
    clear hK K
    refine mv_read 14 hF (fun _ _ _ h => h) rfl (by kernel_rfl) (by kernel_rfl) (by kernel_rfl) (fun K hK => ?_)
    go_simp
    first | refine ⟨_, fun _ => rfl, hK _ _ ?_⟩ | refine hK _ _ ?_
    clear hK K
    refine mv_alone 15 rfl (by kernel_rfl) rfl (fun v => ∃ g, v = .slice (some ⟨g, 0, none⟩) 1 1) (fun g w9 _ h0 h D hD => ?_) ?_
    · have h9 := h
      simp only [h0] at h9
      have h8 := h9.made #[.int .i64 lb, .int .i64 m.book.epoch, .string da] rfl
      clear h h9
      go_simp
      exact hD _ _ ⟨_, rfl⟩ h8
    rintro _ ⟨gs, rfl⟩
    refine mv_append 16 rfl (by kernel_rfl) rfl (.tmp 33) (.tmp 44) 47 rfl verT24 (n + 1) _ _ m.vers [(lb, m.book.epoch, da)] rfl rfl (by have := HU.out.2; simp; omega) (by decide) (fun g w9 ha h0 h => ?_) (fun v' => ∃ a n c, v' = .slice a n c) (fun g w9 v' w' ha h0 h hG => ?_) ?_
    · have e1 : g 15 = some (.slice (some ⟨gs, 0, none⟩) 1 1) := (agree_on 15 ha (by kernel_rfl)).trans rfl
      simp only [e1, h0] at h
      exact h.rows (by have := HSz.out; have := HBw.out.size; omega)
    · have e1 : g 15 = some (.slice (some ⟨gs, 0, none⟩) 1 1) := (agree_on 15 ha (by kernel_rfl)).trans rfl
      have e2 : g 4 = some (.slice vva m.vers.length vvc) := (agree_on 4 ha (by kernel_rfl)).trans rfl
      simp only [e1, e2, h0] at h
      obtain ⟨a9, c9, e9, -⟩ := hG.1.shape
      refine ⟨⟨_, _, _, e9⟩, ?_⟩
      show AppAt _ _ _ _ _ _ _ _ _ (g 4) (g 15) _ _ _
      rw [e1, e2]
      exact h.grew hG
    rintro _ ⟨az, nz, cz, rfl⟩
    refine mv_read 17 hF (fun _ _ _ h => h) rfl (by kernel_rfl) (by kernel_rfl) (by kernel_rfl) (fun K hK => ?_)
    go_simp
    first | refine ⟨_, fun _ => rfl, hK _ _ ?_⟩ | refine hK _ _ ?_
    clear hK K
    refine mv_read 18 hF (fun _ _ _ h => h) rfl (by kernel_rfl) (by kernel_rfl) (by kernel_rfl) (fun K hK => ?_)
    go_simp
    first | refine ⟨_, fun _ => rfl, hK _ _ ?_⟩ | refine hK _ _ ?_
    clear hK K
    refine mv_alone 19 rfl (by kernel_rfl) rfl (fun _ => True) (fun g w9 ha h0 h D hD => ?_) ?_
    · have e1 : g 16 = some (.slice az nz cz) := (agree_on 16 ha (by kernel_rfl)).trans rfl
      simp only [e1, h0] at h
      have q1 := h.1.cell z7 hvn
      have q2 := h.1.frozen z7 (fz 7) hvn
      have hD2 := hD undef (w9.setCell ⟨n, 7, none⟩ (.slice az nz cz)) trivial (by show AppAt _ _ _ _ _ _ _ _ _ (g 4) (g 15) (g 16) _ _; rw [e1]; exact h.stored)
      clear hD h
      go_simp
      exact hD2
    rintro vs -
    refine mv_end (by kernel_rfl) ?_
    intro w2 hw2
    have HG : AppAt verD (n + 1) P1 66 (.slice vva m.vers.length vvc) m.vers [(lb, m.book.epoch, da)] n 7 (some (.slice vva m.vers.length vvc)) (some (.slice (some ⟨gs, 0, none⟩) 1 1)) (some (.slice az nz cz)) (some vs) w2 := hw2
    obtain ⟨w3, g1, g3, g2, rfl⟩ := HG.done2
    have HG3 := Lib.hid (And.intro g1 (And.intro g2 g3))
    clear hw2 HG hF hFC hF0 hFC0 j0 j1 j4 j5 j7 g1 g2 g3 a0 a1 a2 a3 a4 a5 a6 z0 z1 z2 z3 z4 z5 z6 z7 fz
    have hk3 : ∀ k, k < P1.heap.size → (Value.slice vva m.vers.length vvc).ownBlock ≠ some k → k ≠ n → (w3.setCell ⟨n, 7, none⟩ (.slice az nz cz)).heap[k]? = P1.heap[k]? := fun k hk h1 h2 => (set_ne _ h2).trans (HG3.out.1.block k hk fun e => h1 e.symm)
    have HK3 := Lib.hid hk3
    clear hk3
    have HB7 := Lib.hid (HG3.out.1.block n (lt_of_block KP.out) (fun e => HNV.out.2 e.symm))
    have hrn : ∀ k, rv.ownBlock = some k → n + 1 ≤ k ∧ k < v1.heap.size := fun k e => HMv.out.recs.lt e
    have HRn := Lib.hid hrn
    go_wp2
    refine HR.out _ _ ⟨by rw [HZ.out]; try rfl, .slice az nz cz, ?_, ?_⟩
    · rw [HQ.out]
      refine ⟨set_blk (HB7.out.trans KP.out) 7 _, ?_, KB.out.same ?_, ?_, ?_, ?_⟩
      · exact (HK3.out cc (by have := lt_of_block HMv.out.clk; have := HSz.out; omega) (fun e => by have := (HOw.out cc e).1; have := H7.out.2.1; omega) (by have := H7.out.2.1; omega)).trans ((HO.out cc (by have := H7.out.2.1; omega)).trans HMv.out.clk)
      · exact fun k o hf hk => (HK3.out k (lt_of_block hk) (fun e => by have := (HOw.out k e).1; have := (H7.out.2.2 k hf).1; omega) (by have := (H7.out.2.2 k hf).1; omega)).trans hk
      · exact HMv.out.recs.keep fun k e => (HK3.out k (by have := (HRn.out k e).2; have := HSz.out; omega) (HMv.out.ne k e) (by have := (HRn.out k e).1; omega)).trans (HO.out k (by have := (HRn.out k e).1; omega))
      · exact HG3.out.2.1.keep fun k e => set_ne _ (by have := (HG3.out.2.1.lt e).1; omega)
      · intro k e e2
        rcases HG3.out.2.2 with q | q
        · exact HMv.out.ne k e (q ▸ e2)
        · have := q k e2; have := (HRn.out k e).2; have := HSz.out; omega
    · refine HTP.out.trans ⟨HG3.out.1.os, HG3.out.1.tape, HG3.out.1.output, by simpa using HG3.out.1.size, fun k hk hF => HK3.out k hk (fun e => hF (Or.inr (Or.inr (Or.inr (Or.inr e))))) (fun e => hF (Or.inl e)), fun k hk => ?_⟩
      rcases hk with q | q | q | q | q
      · exact Or.inl (Or.inl q)
      · exact Or.inl (Or.inr (Or.inl q))
      · exact Or.inl (Or.inr (Or.inr (Or.inl q)))
      · exact Or.inl (Or.inr (Or.inr (Or.inr (Or.inl q))))
      · rcases HG3.out.2.2 with q2 | q2
        · exact Or.inl (Or.inr (Or.inr (Or.inr (Or.inr (q2 ▸ q)))))
        · exact Or.inr (q2 k q)
end Go.Proofs.Ytnkiokaeooopgaa
/- A record applied: of the program's model. -/
set_option maxRecDepth 100000
namespace Go.Proofs.Ytnkiokaeooopgaa
open Go.RowKit Ks Go.Maps
set_option linter.unusedVariables false
set_option linter.unusedSimpArgs false
theorem infoRec24 : (Try.prog.info? 69).map (fun i => (i.zero, i.size, i.bytes)) = some (some (recV noRec), 8, 80) := by kernel_rfl
theorem recT24 : ElemT Try.prog 46 69 recE.k 80 := elemT_of Try.underlying46 infoRec24 rfl
set_option maxRecDepth 100000 in
set_option maxHeartbeats 8000000 in
theorem mapply_any {n cc bn c mu mh mg : Nat} {rv vv : Value} {m : ModT} (r : RecT) (w : World) (h : ModAt w n cc bn c mu mh mg rv vv m) (h7 : Seven n cc bn c mu mh mg) (hf : fitRec r)
    (hh : m.book.holds.length ≤ 1000000) (hu : 0 ≤ m.used ∧ m.used ≤ 1000000000) (hn : m.recs.length ≤ 1000000) :
    Calls Try.prog 44 #[.pointer (some ⟨n, 0, none⟩), recV r] w fun e w' =>
      e = .returned (.tuple #[]) ∧ ∃ rv', ModAt w' n cc bn c mu mh mg rv' vv (applyM m r) ∧ Turn w w' (FM n cc bn c mu mh mg rv vv) (FM n cc bn c mu mh mg rv' vv) := by
  refine calls_by fun R HR => ?_
  have HD := Lib.hid h
  have H7 := Lib.hid h7
  have HAp := Lib.hid (fun w h => bapply_any (b := m.book) r w h h7.1 hf hh)
  have HU := Lib.hid (And.intro hu hn)
  have HQ : Hid (applyM m r = { m with used := m.used + 1, book := applyB m.book r, recs := m.recs ++ [r] }) := Lib.hid rfl
  have HRr : Hid (∀ (kd ep tm ct tg un : Int) (rt nm : ByteArray), recE.enc ⟨kd, ep, tm, ct, tg, un, rt, nm⟩ = [.int .i64 kd, .int .i64 ep, .int .i64 tm, .int .i64 ct, .int .i64 tg, .int .i64 un, .string rt, .string nm]) := Lib.hid fun _ _ _ _ _ _ _ _ => rfl
  generalize applyM m r = AM at *
  generalize applyB m.book r = AB at *
  generalize mayE m.book r = ME at *
  obtain ⟨kd, ep, tm, ct, tg, un, rt, nm⟩ := r
  clear h h7 hf hh hu hn
  have H1 := Lib.hid (And.intro (Below.refl w.heap.size w) (HD.out))
  obtain ⟨W1, hW1⟩ : ∃ W1, w.alloc (.cells #[.int .i64 kd, .int .i64 ep, .int .i64 tm, .int .i64 ct, .int .i64 tg, .int .i64 un, .string rt, .string nm] 69) = W1 := ⟨_, rfl⟩
  have hbW1 : Below w.heap.size w W1 := by rw [← hW1]; exact alloc_below w _
  have kW1 : W1.heap[w.heap.size]? = some (.cells #[.int .i64 kd, .int .i64 ep, .int .i64 tm, .int .i64 ct, .int .i64 tg, .int .i64 un, .string rt, .string nm] 69 (0, 0)) := by rw [← hW1]; exact alloc_new w _
  have H2 := Lib.hid (And.intro (H1.out.1.trans (hbW1.mono H1.out.1.size)) (And.intro (H1.out.2.below hbW1) (kW1)))
  clear hbW1 kW1
  obtain ⟨⟨r0, r1, r2, r3, r4, r5, r6, r7⟩, -⟩ := blkR H2.out.2.2
  obtain ⟨⟨z0, z1, z2, z3, z4, z5, z6, z7⟩, -⟩ := blkR H2.out.2.1.blk
  have hwn : n < w.heap.size := HD.out.lt
  go_enter Try.func44, Try.ntmps44
  go_wp2_with fail
  have gr0 := fun p => after_cell r0 p
  have gr1 := fun p => after_cell r1 p
  have gr2 := fun p => after_cell r2 p
  have gr3 := fun p => after_cell r3 p
  have gr4 := fun p => after_cell r4 p
  have gr5 := fun p => after_cell r5 p
  have gr6 := fun p => after_cell r6 p
  have gr7 := fun p => after_cell r7 p
  have gz5 := fun p => after_cell z5 p
  refine wp_region_after_tail 5 (by kernel_rfl) (by kernel_rfl) ?_
  simp only [List.take_succ_cons, List.take_zero, List.drop_succ_cons, List.drop_zero]
  repeat (go_big_quiet_step (fail))
  refine wpQuiet_nil ?_
  rintro q1 ⟨p9, rfl⟩
  have hb := after_below W1 p9
  have H3 := Lib.hid (And.intro (H2.out.1.trans (hb.mono H2.out.1.size)) (And.intro (H2.out.2.1.below hb) (blk_on hb H2.out.2.2)))
  generalize After W1 p9 = q1 at *
  clear hb gz5 gr0 gr1 gr2 gr3 gr4 gr5 gr6 gr7 r0 r1 r2 r3 r4 r5 r6 r7 z0 z1 z2 z3 z4 z5 z6 z7
  go_wp2_with fail
  refine (HAp.out _ H3.out.2.1.book).mono ?_
  rintro en P1 ⟨rfl, hbk, htk⟩
  have HFn : Hid (∀ k, ¬ FB bn c mu mh mg k → k < q1.heap.size → P1.heap[k]? = q1.heap[k]?) := Lib.hid fun k h1 h2 => htk.block k h2 h1
  have HMv := Lib.hid H3.out.2.1
  have HAv := Lib.hid H3.out.2.2
  have HBw := Lib.hid H3.out.1
  have hnf : ∀ k, n ≤ k → ¬ FB bn c mu mh mg k := fun k hk hf => by have := (H7.out.2.2 k hf).1; omega
  have HNF := Lib.hid hnf
  have KB := Lib.hid hbk
  have HSz := Lib.hid htk.size
  have HTP := Lib.hid (show Turn w P1 (FM n cc bn c mu mh mg rv vv) (FM n cc bn c mu mh mg rv vv) from (Turn.of_below _ HBw.out).trans (htk.wide (fun k hk => Or.inr (Or.inr (Or.inl hk))) (fun k hk => Or.inr (Or.inl hk))))
  have KP := Lib.hid (show P1.heap[n]? = some (.cells #[.int .i64 m.geo.blocks, .int .i64 m.geo.lbas, .int .i64 m.geo.first, .int .i64 m.used, .pointer (some ⟨cc, 0, none⟩), .pointer (some ⟨bn, 0, none⟩), rv, vv] 49 (0, 0)) from (HFn.out n (hnf n (Nat.le_refl _)) HMv.out.lt).trans HMv.out.blk)
  have hownr : ∀ k, rv.ownBlock = some k → n + 1 ≤ k ∧ k < q1.heap.size := fun k e => HMv.out.recs.lt e
  have HOr := Lib.hid hownr
  have hownv : ∀ k, vv.ownBlock = some k → n + 1 ≤ k ∧ k < q1.heap.size := fun k e => HMv.out.vers.lt e
  have HOv := Lib.hid hownv
  have hra : rv.ownBlock ≠ some w.heap.size := fun e => by have := (HD.out.recs.lt e).2; omega
  have hrn : rv.ownBlock ≠ some n := fun e => by have := (hownr n e).1; omega
  have KA := Lib.hid (show P1.heap[w.heap.size]? = some (.cells #[.int .i64 kd, .int .i64 ep, .int .i64 tm, .int .i64 ct, .int .i64 tg, .int .i64 un, .string rt, .string nm] 69 (0, 0)) from (HFn.out _ (hnf _ (by omega)) (lt_of_block HAv.out)).trans HAv.out)
  have KR := Lib.hid (show Row recE P1 (n + 1) 69 rv m.recs from HMv.out.recs.keep fun k e => HFn.out k (hnf k (by have := (hownr k e).1; omega)) (hownr k e).2)
  have KV := Lib.hid (show Row verD P1 (n + 1) 66 vv m.vers from HMv.out.vers.keep fun k e => HFn.out k (hnf k (by have := (hownv k e).1; omega)) (hownv k e).2)
  have KC := Lib.hid (show P1.heap[cc]? = some (.cells #[.bool true, .int .i64 m.now] 84 (0, 0)) from (HFn.out cc (fun q => (H7.out.2.2 cc q).2 rfl) (lt_of_block HMv.out.clk)).trans HMv.out.clk)
  have HNR := Lib.hid (And.intro hra hrn)
  clear hbk htk hnf hownr hownv hW1
  obtain ⟨rra, rrc, hrs, -⟩ := KR.out.shape
  subst hrs
  obtain ⟨⟨r0, r1, r2, r3, r4, r5, r6, r7⟩, -⟩ := blkR KA.out
  obtain ⟨⟨z0, z1, z2, z3, z4, z5, z6, z7⟩, fz⟩ := blkR KP.out
  go_wp2_with fail
  refine wp_region_mv (fun f => AppAt recE (n + 1) P1 69 (.slice rra m.recs.length rrc) m.recs [⟨kd, ep, tm, ct, tg, un, rt, nm⟩] n 6 (f 4) (f 6) (f 7) (f 10)) (by kernel_rfl) (AppAt.start KR.out (drew_below P1)) ?_
  obtain ⟨S, F, hF, hFC⟩ := moved_class (fun f => AppAt recE (n + 1) P1 69 (.slice rra m.recs.length rrc) m.recs [⟨kd, ep, tm, ct, tg, un, rt, nm⟩] n 6 (f 4) (f 6) (f 7) (f 10))
  obtain ⟨S0, F0, hF0, hFC0⟩ := moved_classN (fun f => AppAt recE (n + 1) P1 69 (.slice rra m.recs.length rrc) m.recs [⟨kd, ep, tm, ct, tg, un, rt, nm⟩] n 6 (f 4) (f 6) (f 7) (f 10)) 4
  have k0 : ∀ s, (F s).cell? ⟨w.heap.size, 0, none⟩ = some (.int .i64 kd) := fun s => (hFC s).choose_spec.cell r0 hra (Or.inl (by show w.heap.size ≠ n; omega))
  have k1 : ∀ s, (F s).cell? ⟨w.heap.size, 1, none⟩ = some (.int .i64 ep) := fun s => (hFC s).choose_spec.cell r1 hra (Or.inl (by show w.heap.size ≠ n; omega))
  have k2 : ∀ s, (F s).cell? ⟨w.heap.size, 2, none⟩ = some (.int .i64 tm) := fun s => (hFC s).choose_spec.cell r2 hra (Or.inl (by show w.heap.size ≠ n; omega))
  have k3 : ∀ s, (F s).cell? ⟨w.heap.size, 3, none⟩ = some (.int .i64 ct) := fun s => (hFC s).choose_spec.cell r3 hra (Or.inl (by show w.heap.size ≠ n; omega))
  have k4 : ∀ s, (F s).cell? ⟨w.heap.size, 4, none⟩ = some (.int .i64 tg) := fun s => (hFC s).choose_spec.cell r4 hra (Or.inl (by show w.heap.size ≠ n; omega))
  have k5 : ∀ s, (F s).cell? ⟨w.heap.size, 5, none⟩ = some (.int .i64 un) := fun s => (hFC s).choose_spec.cell r5 hra (Or.inl (by show w.heap.size ≠ n; omega))
  have k6 : ∀ s, (F s).cell? ⟨w.heap.size, 6, none⟩ = some (.string rt) := fun s => (hFC s).choose_spec.cell r6 hra (Or.inl (by show w.heap.size ≠ n; omega))
  have k7 : ∀ s, (F s).cell? ⟨w.heap.size, 7, none⟩ = some (.string nm) := fun s => (hFC s).choose_spec.cell r7 hra (Or.inl (by show w.heap.size ≠ n; omega))
  have j0 : ∀ s, (F s).cell? ⟨n, 0, none⟩ = some (.int .i64 m.geo.blocks) := fun s => (hFC s).choose_spec.cell z0 hrn (Or.inr (by show (0 : Nat) ≠ 6; decide))
  have j7 : ∀ s, (F0 s).cell? ⟨n, 6, none⟩ = some (.slice rra m.recs.length rrc) := fun s => by
    have h := (hFC0 s).choose_spec
    have h2 := h.2
    simp only [h.1] at h2
    exact h2.box z6 hrn
  show wpAnyM _ _ _ _ _ 11 (Array.replicate 11 false) _ _
  refine mv_read 0 hF (fun _ _ _ h => h) rfl (by kernel_rfl) (by kernel_rfl) (by kernel_rfl) (fun K hK => ?_)
  go_simp
  first | refine ⟨_, fun _ => rfl, hK _ _ ?_⟩ | refine hK _ _ ?_
  clear hK K
  refine mv_read 1 hF (fun _ _ _ h => h) rfl (by kernel_rfl) (by kernel_rfl) (by kernel_rfl) (fun K hK => ?_)
  go_simp
  first | refine ⟨_, fun _ => rfl, hK _ _ ?_⟩ | refine hK _ _ ?_
  clear hK K
  refine mv_read 2 hF (fun _ _ _ h => h) rfl (by kernel_rfl) (by kernel_rfl) (by kernel_rfl) (fun K hK => ?_)
  go_simp
  first | refine ⟨_, fun _ => rfl, hK _ _ ?_⟩ | refine hK _ _ ?_
  clear hK K
  refine mv_read 3 hF (fun _ _ _ h => h) rfl (by kernel_rfl) (by kernel_rfl) (by kernel_rfl) (fun K hK => ?_)
  go_simp
  first | refine ⟨_, fun _ => rfl, hK _ _ ?_⟩ | refine hK _ _ ?_
  clear hK K
  refine mv_readN 4 hF0 (fun f w v _ h => h.read v) rfl (by kernel_rfl) (by kernel_rfl) (by kernel_rfl) (fun K hK => ?_)
  go_simp
  first | refine ⟨_, fun _ => rfl, hK _ _ ?_⟩ | refine hK _ _ ?_
  clear hK K
  refine mv_read 5 hF (fun _ _ _ h => h) rfl (by kernel_rfl) (by kernel_rfl) (by kernel_rfl) (fun K hK => ?_)
  go_simp
  first | refine ⟨_, fun _ => rfl, hK _ _ ?_⟩ | refine hK _ _ ?_
  clear hK K
  refine mv_alone 6 rfl (by kernel_rfl) rfl (fun v => ∃ g, v = .slice (some ⟨g, 0, none⟩) 1 1) (fun g w9 _ h0 h D hD => ?_) ?_
  · have h9 := h
    simp only [h0] at h9
    have h8 := h9.made #[.int .i64 kd, .int .i64 ep, .int .i64 tm, .int .i64 ct, .int .i64 tg, .int .i64 un, .string rt, .string nm] rfl
    clear h h9
    go_simp
    exact hD _ _ ⟨_, rfl⟩ h8
  rintro _ ⟨gs, rfl⟩
  refine mv_append 7 rfl (by kernel_rfl) rfl (.tmp 14) (.tmp 16) 46 rfl recT24 (n + 1) _ _ m.recs [⟨kd, ep, tm, ct, tg, un, rt, nm⟩] rfl rfl (by have := HU.out.2; simp; omega) (by decide) (fun g w9 ha h0 h => ?_) (fun v' => ∃ a n c, v' = .slice a n c) (fun g w9 v' w' ha h0 h hG => ?_) ?_
  · have e1 : g 6 = some (.slice (some ⟨gs, 0, none⟩) 1 1) := (agree_on 6 ha (by kernel_rfl)).trans rfl
    simp only [e1, h0] at h
    exact h.rows (by have := HSz.out; have := HBw.out.size; omega)
  · have e1 : g 6 = some (.slice (some ⟨gs, 0, none⟩) 1 1) := (agree_on 6 ha (by kernel_rfl)).trans rfl
    have e2 : g 4 = some (.slice rra m.recs.length rrc) := (agree_on 4 ha (by kernel_rfl)).trans rfl
    simp only [e1, e2, h0] at h
    obtain ⟨a9, c9, e9, -⟩ := hG.1.shape
    refine ⟨⟨_, _, _, e9⟩, ?_⟩
    show AppAt _ _ _ _ _ _ _ _ _ (g 4) (g 6) _ _ _
    rw [e1, e2]
    exact h.grew hG
  rintro _ ⟨az, nz, cz, rfl⟩
  refine mv_read 8 hF (fun _ _ _ h => h) rfl (by kernel_rfl) (by kernel_rfl) (by kernel_rfl) (fun K hK => ?_)
  go_simp
  first | refine ⟨_, fun _ => rfl, hK _ _ ?_⟩ | refine hK _ _ ?_
  clear hK K
  refine mv_read 9 hF (fun _ _ _ h => h) rfl (by kernel_rfl) (by kernel_rfl) (by kernel_rfl) (fun K hK => ?_)
  go_simp
  first | refine ⟨_, fun _ => rfl, hK _ _ ?_⟩ | refine hK _ _ ?_
  clear hK K
  refine mv_alone 10 rfl (by kernel_rfl) rfl (fun _ => True) (fun g w9 ha h0 h D hD => ?_) ?_
  · have e1 : g 7 = some (.slice az nz cz) := (agree_on 7 ha (by kernel_rfl)).trans rfl
    simp only [e1, h0] at h
    have q1 := h.1.cell z6 hrn
    have q2 := h.1.frozen z6 (fz 6) hrn
    have hD2 := hD undef (w9.setCell ⟨n, 6, none⟩ (.slice az nz cz)) trivial (by show AppAt _ _ _ _ _ _ _ _ _ (g 4) (g 6) (g 7) _ _; rw [e1]; exact h.stored)
    clear hD h
    go_simp
    exact hD2
  rintro vs -
  refine mv_end (by kernel_rfl) ?_
  intro w2 hw2
  have HG : AppAt recE (n + 1) P1 69 (.slice rra m.recs.length rrc) m.recs [⟨kd, ep, tm, ct, tg, un, rt, nm⟩] n 6 (some (.slice rra m.recs.length rrc)) (some (.slice (some ⟨gs, 0, none⟩) 1 1)) (some (.slice az nz cz)) (some vs) w2 := hw2
  obtain ⟨w3, g1, g3, g2, rfl⟩ := HG.done2
  have HG3 := Lib.hid (And.intro g1 (And.intro g2 g3))
  clear hw2 HG hF hFC hF0 hFC0 j0 j7 g1 g2 g3 k0 k1 k2 k3 k4 k5 k6 k7 r0 r1 r2 r3 r4 r5 r6 r7 z0 z1 z2 z3 z4 z5 z6 z7 fz
  have HB7 := Lib.hid (HG3.out.1.block n (lt_of_block KP.out) (fun e => HNR.out.2 e.symm))
  obtain ⟨P3, hP3⟩ : ∃ W, w3.setCell ⟨n, 6, none⟩ (.slice az nz cz) = W := ⟨_, rfl⟩
  have K3 := Lib.hid (show P3.heap[n]? = some (.cells #[.int .i64 m.geo.blocks, .int .i64 m.geo.lbas, .int .i64 m.geo.first, .int .i64 m.used, .pointer (some ⟨cc, 0, none⟩), .pointer (some ⟨bn, 0, none⟩), .slice az nz cz, vv] 49 (0, 0)) by rw [← hP3]; exact set_blk (HB7.out.trans KP.out) 6 _)
  have HPo := Lib.hid (show P3.os = P1.os ∧ P3.tape = P1.tape ∧ P3.output = P1.output by rw [← hP3]; exact ⟨HG3.out.1.os, HG3.out.1.tape, HG3.out.1.output⟩)
  have HS3 := Lib.hid (show w3.heap.size = P3.heap.size by rw [← hP3]; simp)
  have HK4 : Hid (∀ k, k ≠ n → P3.heap[k]? = w3.heap[k]?) := Lib.hid fun k hk => by rw [← hP3]; exact set_ne _ hk
  rw [hP3]
  clear hP3
  obtain ⟨⟨z0, z1, z2, z3, z4, z5, z6, z7⟩, fz⟩ := blkR K3.out
  have fz3 := fz 3
  clear fz
  have hwr : wrap64 (m.used + 1) = m.used + 1 := by have := HU.out.1; unfold wrap64; omega
  have HK5 : Hid (∀ k, k < P1.heap.size → (Value.slice rra m.recs.length rrc).ownBlock ≠ some k → k ≠ n → (P3.setCell ⟨n, 3, none⟩ (.int .i64 (m.used + 1))).heap[k]? = P1.heap[k]?) := Lib.hid fun k hk h1 h2 => (set_ne _ h2).trans ((HK4.out k h2).trans (HG3.out.1.block k hk fun e => h1 e.symm))
  go_wp2
  go_end0
  refine HR.out _ _ ⟨rfl, .slice az nz cz, ?_, ?_⟩
  · rw [HQ.out]
    refine ⟨set_blk K3.out 3 _, ?_, KB.out.same ?_, ?_, ?_, ?_⟩
    · exact (HK5.out cc (lt_of_block KC.out) (fun e => by have := (HOr.out cc e).1; have := H7.out.2.1; omega) (by have := H7.out.2.1; omega)).trans KC.out
    · exact fun k o hf hk => (HK5.out k (lt_of_block hk) (fun e => by have := (HOr.out k e).1; have := (H7.out.2.2 k hf).1; omega) (by have := (H7.out.2.2 k hf).1; omega)).trans hk
    · exact HG3.out.2.1.keep fun k e => (set_ne _ (by have := (HG3.out.2.1.lt e).1; omega)).trans (HK4.out k (by have := (HG3.out.2.1.lt e).1; omega))
    · exact KV.out.keep fun k e => HK5.out k (KV.out.lt e).2 (fun e2 => HMv.out.ne k e2 e) (by have := (HOv.out k e).1; omega)
    · intro k e e2
      rcases HG3.out.2.2 with q | q
      · exact HMv.out.ne k (q ▸ e) e2
      · have := q k e; have := (KV.out.lt e2).2; omega
  · have hos : P3.os = P1.os ∧ P3.tape = P1.tape ∧ P3.output = P1.output := HPo.out
    refine HTP.out.trans ⟨hos.1, hos.2.1, hos.2.2, by have := HG3.out.1.size; have := HS3.out; simp; omega, fun k hk hF => HK5.out k hk (fun e => hF (Or.inr (Or.inr (Or.inr (Or.inl e))))) (fun e => hF (Or.inl e)), fun k hk => ?_⟩
    rcases hk with q | q | q | q | q
    · exact Or.inl (Or.inl q)
    · exact Or.inl (Or.inr (Or.inl q))
    · exact Or.inl (Or.inr (Or.inr (Or.inl q)))
    · rcases HG3.out.2.2 with q2 | q2
      · exact Or.inl (Or.inr (Or.inr (Or.inr (Or.inl (q2 ▸ q)))))
      · exact Or.inr (q2 k q)
    · exact Or.inl (Or.inr (Or.inr (Or.inr (Or.inr q))))
end Go.Proofs.Ytnkiokaeooopgaa
/- The open epoch closed; a new model; a model that is none: of the program. -/
set_option maxRecDepth 100000
namespace Go.Proofs.Ytnkiokaeooopgaa
open Go.RowKit Ks Go.Maps
set_option linter.unusedVariables false
set_option linter.unusedSimpArgs false
theorem repeat32 (w : World) : Calls Try.prog 45 #[.string ⟨#[0]⟩, .int .i64 32] w fun e w' => e = .returned (.string (zerosS 32)) ∧ Below w.heap.size w w' :=
  (Try.strings_Repeat ⟨#[0]⟩ 32 w (by decide) (by decide)).mono fun e w' ⟨h1, h2⟩ => ⟨by rw [h1, repeat_zeros]; rfl, h2⟩
set_option maxRecDepth 100000 in
set_option maxHeartbeats 8000000 in
theorem mclose_any {n cc bn c mu mh mg : Nat} {rv vv : Value} {m : ModT} (w : World) (h : ModAt w n cc bn c mu mh mg rv vv m) (h7 : Seven n cc bn c mu mh mg)
    (hg : -9223372036854775808 ≤ m.geo.blocks ∧ m.geo.blocks ≤ 9223372036854775807) (hh : m.book.holds.length ≤ 1000000) (hu : 0 ≤ m.used ∧ m.used ≤ 1000000000) (hn : m.recs.length ≤ 1000000) (hv : ∀ v ∈ m.vers, 0 ≤ v.1 ∧ v.1 < 4096) (hl : m.vers.length ≤ 1000000) :
    Calls Try.prog 24 #[.pointer (some ⟨n, 0, none⟩)] w fun e w' =>
      e = .returned (.int .i64 (closeE m)) ∧ ∃ rv', ModAt w' n cc bn c mu mh mg rv' vv (closeM m (zerosS 32)) ∧ Turn w w' (FM n cc bn c mu mh mg rv vv) (FM n cc bn c mu mh mg rv' vv) := by
  refine calls_by fun R HR => ?_
  have HD := Lib.hid h
  have HE := Lib.hid (fun w (h : ModAt w n cc bn c mu mh mg rv vv m) => bepoch_any w h.book)
  have HN := Lib.hid (fun w (h : ModAt w n cc bn c mu mh mg rv vv m) => cnow_any cc m.now w h.clk)
  have HPs := Lib.hid (fun w (h : ModAt w n cc bn c mu mh mg rv vv m) => mplaces_any m.book.epoch w h hv hl)
  have HDa := Lib.hid (fun w => gdata_any m.geo.blocks m.geo.lbas m.geo.first w hg)
  have HAp := Lib.hid (fun w (h : ModAt w n cc bn c mu mh mg rv vv m) => mapply_any (m := m) (closeR m (zerosS 32)) w h h7 ⟨⟨by show (-9223372036854775808 : Int) ≤ 0; decide, by show (0 : Int) ≤ 9223372036854775807; decide⟩, by show (0 : Nat) ≤ maxLen; decide⟩ hh hu hn)
  have HZ0 : Hid (closeE m = if 4294967295 ≤ m.book.epoch ∨ geoData m.geo ≤ m.used then 6 else 0) := Lib.hid rfl
  have HM0 : Hid (closeM m (zerosS 32) = if closeE m = 0 then applyM m (closeR m (zerosS 32)) else m) := Lib.hid rfl
  rw [show geoD m.geo.blocks m.geo.lbas m.geo.first = geoData m.geo from rfl] at HDa
  unfold closeR at HAp HM0
  generalize applyM m ⟨1, m.book.epoch, m.now, placesN m m.book.epoch, 0, 0, zerosS 32, ⟨#[]⟩⟩ = AM at *
  generalize closeM m (zerosS 32) = CM at *
  generalize closeE m = CE at *
  generalize geoData m.geo = GD at *
  generalize placesN m m.book.epoch = PN at *
  obtain ⟨⟨z0, z1, z2, z3, z4, z5, z6, z7⟩, -⟩ := blkR h.blk
  clear h h7 hg hh hu hn hv hl
  have H1 := Lib.hid (And.intro (Below.refl w.heap.size w) (HD.out))
  go_enter Try.func24, Try.ntmps24
  go_wp2_with fail
  refine (HE.out _ H1.out.2).mono ?_
  rintro en y0 ⟨rfl, hw⟩
  rw [hw]
  clear hw
  go_wp2_with fail
  have gz0 := fun p => after_cell z0 p
  have gz1 := fun p => after_cell z1 p
  have gz2 := fun p => after_cell z2 p
  have gz3 := fun p => after_cell z3 p
  have gz4 := fun p => after_cell z4 p
  have gz5 := fun p => after_cell z5 p
  have gz6 := fun p => after_cell z6 p
  have gz7 := fun p => after_cell z7 p
  have cc0 := Lib.hid (fun p => calls_after (p := p) (HDa.out (After w p)))
  by_cases h1 : 4294967295 ≤ m.book.epoch
  · have h1d : decide (4294967295 ≤ m.book.epoch) = true := decide_eq_true h1
    have HZ := Lib.hid (show CE = 6 by rw [HZ0.out, if_pos (Or.inl h1)])
    have HQ := Lib.hid (show CM = m by rw [HM0.out, HZ.out]; rfl)
    refine wp_region_after (by kernel_rfl) (by kernel_rfl) ?_
    repeat (go_big_quiet_step (fail))
    refine wpQuiet_nil ?_
    rintro q1 ⟨p9, rfl⟩
    have hb := after_below w p9
    have H2 := Lib.hid (And.intro (H1.out.1.trans (hb.mono H1.out.1.size)) (H1.out.2.below hb))
    generalize After w p9 = q1 at *
    clear hb cc0 gz0 gz1 gz2 gz3 gz4 gz5 gz6 gz7 z0 z1 z2 z3 z4 z5 z6 z7
    go_wp2
    exact HR.out _ _ ⟨by rw [HZ.out]; try rfl, rv, by rw [HQ.out]; exact H2.out.2, Turn.of_below _ H2.out.1⟩
  have h1d : decide (4294967295 ≤ m.book.epoch) = false := decide_eq_false h1
  by_cases h2 : GD ≤ m.used
  · have h2d : decide (GD ≤ m.used) = true := decide_eq_true h2
    have HZ := Lib.hid (show CE = 6 by rw [HZ0.out, if_pos (Or.inr h2)])
    have HQ := Lib.hid (show CM = m by rw [HM0.out, HZ.out]; rfl)
    refine wp_region_after (by kernel_rfl) (by kernel_rfl) ?_
    repeat (go_big_quiet_step (fail))
    go_big_quiet_step (exact cc0.out _)
    repeat (go_big_quiet_step (fail))
    refine wpQuiet_nil ?_
    rintro q1 ⟨p9, rfl⟩
    have hb := after_below w p9
    have H2 := Lib.hid (And.intro (H1.out.1.trans (hb.mono H1.out.1.size)) (H1.out.2.below hb))
    generalize After w p9 = q1 at *
    clear hb cc0 gz0 gz1 gz2 gz3 gz4 gz5 gz6 gz7 z0 z1 z2 z3 z4 z5 z6 z7
    go_wp2
    exact HR.out _ _ ⟨by rw [HZ.out]; try rfl, rv, by rw [HQ.out]; exact H2.out.2, Turn.of_below _ H2.out.1⟩
  have h2d : decide (GD ≤ m.used) = false := decide_eq_false h2
  have HZ := Lib.hid (show CE = 0 by rw [HZ0.out, if_neg (fun q => q.elim h1 h2)])
  have HQ := Lib.hid (show CM = AM by rw [HM0.out, HZ.out]; rfl)
  refine wp_region_after (by kernel_rfl) (by kernel_rfl) ?_
  repeat (go_big_quiet_step (fail))
  go_big_quiet_step (exact cc0.out _)
  repeat (go_big_quiet_step (fail))
  refine wpQuiet_nil ?_
  rintro q1 ⟨p9, rfl⟩
  have hb := after_below w p9
  have H2 := Lib.hid (And.intro (H1.out.1.trans (hb.mono H1.out.1.size)) (H1.out.2.below hb))
  generalize After w p9 = q1 at *
  clear hb cc0 gz0 gz1 gz2 gz3 gz4 gz5 gz6 gz7 z0 z1 z2 z3 z4 z5 z6 z7
  obtain ⟨⟨z0, z1, z2, z3, z4, z5, z6, z7⟩, -⟩ := blkR H2.out.2.blk
  go_wp2_with fail
  refine (HN.out _ H2.out.2).mono ?_
  rintro en y1 ⟨rfl, hw⟩
  rw [hw]
  clear hw
  go_wp2_with fail
  refine (HPs.out _ H2.out.2).mono ?_
  rintro en v1 ⟨rfl, hb⟩
  have H3 := Lib.hid (And.intro (H2.out.1.trans (hb.mono H2.out.1.size)) (H2.out.2.below hb))
  clear hb
  go_wp2_with fail
  refine (repeat32 _).mono ?_
  rintro en v2 ⟨rfl, hb⟩
  have H4 := Lib.hid (And.intro (H3.out.1.trans (hb.mono H3.out.1.size)) (H3.out.2.below hb))
  clear hb
  clear z0 z1 z2 z3 z4 z5 z6 z7
  go_wp2_with fail
  refine (HAp.out _ H4.out.2).mono ?_
  rintro en v9 ⟨rfl, rv9, hm9, ht9⟩
  have H9 := Lib.hid (And.intro hm9 ((Turn.of_below (FM n cc bn c mu mh mg rv vv) H4.out.1).trans ht9))
  clear hm9 ht9
  go_wp2
  exact HR.out _ _ ⟨by rw [HZ.out]; try rfl, rv9, by rw [HQ.out]; exact H9.out.1, H9.out.2⟩
theorem mblock_no {v : Value} (s t : Int) (w : World) (h : ModNo w v) : Calls Try.prog 14 #[v, .int .i64 s, .int .i64 t] w fun e w' => e = .returned (.tuple #[.string ⟨#[]⟩, .bool false]) ∧ w' = w := by
  refine calls_by fun R HR => ?_
  have HT := Lib.hid (mthere_no w h)
  clear h
  go_enter Try.func14, Try.ntmps14
  go_wp2_with fail
  refine HT.out.mono ?_
  rintro en v1 ⟨rfl, hw⟩
  rw [hw]
  clear hw
  go_wp2
  exact HR.out _ _ ⟨rfl, rfl⟩
theorem mgone_no {v : Value} (t : Int) (w : World) (h : ModNo w v) : Calls Try.prog 15 #[v, .int .i64 t] w fun e w' => e = .returned (.bool false) ∧ w' = w := by
  refine calls_by fun R HR => ?_
  have HT := Lib.hid (mthere_no w h)
  clear h
  go_enter Try.func15, Try.ntmps15
  go_wp2_with fail
  refine HT.out.mono ?_
  rintro en v1 ⟨rfl, hw⟩
  rw [hw]
  clear hw
  go_wp2
  exact HR.out _ _ ⟨rfl, rfl⟩
theorem mrecords_no {v : Value}  (w : World) (h : ModNo w v) : Calls Try.prog 16 #[v] w fun e w' => e = .returned (.slice none 0 0) ∧ w' = w := by
  refine calls_by fun R HR => ?_
  have HT := Lib.hid (mthere_no w h)
  clear h
  go_enter Try.func16, Try.ntmps16
  go_wp2_with fail
  refine HT.out.mono ?_
  rintro en v1 ⟨rfl, hw⟩
  rw [hw]
  clear hw
  go_wp2
  exact HR.out _ _ ⟨rfl, rfl⟩
theorem mepoch_no {v : Value}  (w : World) (h : ModNo w v) : Calls Try.prog 9 #[v] w fun e w' => e = .returned (.int .i64 0) ∧ w' = w := by
  refine calls_by fun R HR => ?_
  have HT := Lib.hid (mthere_no w h)
  clear h
  go_enter Try.func9, Try.ntmps9
  go_wp2_with fail
  refine HT.out.mono ?_
  rintro en v1 ⟨rfl, hw⟩
  rw [hw]
  clear hw
  go_wp2
  exact HR.out _ _ ⟨rfl, rfl⟩
theorem mcopy_no {v : Value}  (w : World) (h : ModNo w v) : Calls Try.prog 12 #[v] w fun e w' => e = .returned (.pointer none) ∧ w' = w := by
  refine calls_by fun R HR => ?_
  have HT := Lib.hid (mthere_no w h)
  clear h
  go_enter Try.func12, Try.ntmps12
  go_wp2_with fail
  refine HT.out.mono ?_
  rintro en v1 ⟨rfl, hw⟩
  rw [hw]
  clear hw
  go_wp2
  exact HR.out _ _ ⟨rfl, rfl⟩
theorem msame_no {v : Value} {u : Value} (w : World) (h : ModNo w v) : Calls Try.prog 13 #[v, u] w fun e w' => e = .returned (.bool false) ∧ w' = w := by
  refine calls_by fun R HR => ?_
  have HT := Lib.hid (mthere_no w h)
  clear h
  go_enter Try.func13, Try.ntmps13
  go_wp2_with fail
  refine HT.out.mono ?_
  rintro en v1 ⟨rfl, hw⟩
  rw [hw]
  clear hw
  go_wp2
  exact HR.out _ _ ⟨rfl, rfl⟩
end Go.Proofs.Ytnkiokaeooopgaa
/- A call done: where there is no model, a write, a close: of the program's model. -/
set_option maxRecDepth 100000
namespace Go.Proofs.Ytnkiokaeooopgaa
open Go.RowKit Ks Go.Maps
set_option linter.unusedVariables false
set_option linter.unusedSimpArgs false
theorem ans_one (e : Int) (s : ByteArray) (a b c d f g : Int) : (#[.int .i64 e, .string s, .int .i64 a, .int .i64 b, .int .i64 c, .int .i64 d, .int .i64 f, .int .i64 g] : Array Value).all (fun v => v.oneCell') = true := by simp [Value.oneCell']
abbrev callV (c : CallT) (ka : Option Addr) (kn kc : Nat) : Value := .agg #[.int .i64 c.kind, .int .i64 c.lba, .int .i64 c.epoch, .int .i64 c.time, .string c.data, .string c.name, .slice ka kn kc]
set_option maxRecDepth 100000 in
set_option maxHeartbeats 4000000 in
theorem mdo_no {v : Value} (cl : CallT) (ka : Option Addr) (kn kc : Nat) (w : World) (h : ModNo w v) :
    Calls Try.prog 11 #[v, callV cl ka kn kc] w fun e w' => e = .returned (.agg #[.int .i64 1, .string ⟨#[]⟩, .int .i64 0, .int .i64 0, .int .i64 0, .int .i64 0, .int .i64 0, .int .i64 0]) ∧ Below w.heap.size w w' := by
  refine calls_by fun R HR => ?_
  have HD := Lib.hid h
  have HT := Lib.hid (fun w h => mthere_no (v := v) w h)
  obtain ⟨ki, lb, ce, ti, da, na⟩ := cl
  clear h
  have H1 := Lib.hid (And.intro (Below.refl w.heap.size w) (HD.out))
  obtain ⟨W1, hW1⟩ : ∃ W1, w.alloc (.cells #[.int .i64 ki, .int .i64 lb, .int .i64 ce, .int .i64 ti, .string da, .string na, .slice ka kn kc] 32) = W1 := ⟨_, rfl⟩
  have hbW1 : Below w.heap.size w W1 := by rw [← hW1]; exact alloc_below w _
  have kW1 : W1.heap[w.heap.size]? = some (.cells #[.int .i64 ki, .int .i64 lb, .int .i64 ce, .int .i64 ti, .string da, .string na, .slice ka kn kc] 32 (0, 0)) := by rw [← hW1]; exact alloc_new w _
  have H2 := Lib.hid (And.intro (H1.out.1.trans (hbW1.mono H1.out.1.size)) (And.intro (H1.out.2.below hbW1) (kW1)))
  clear hbW1 kW1
  have s1 : w.heap.size < W1.heap.size := lt_of_block H2.out.2.2
  obtain ⟨W2, hW2⟩ : ∃ W2, W1.alloc (.cells #[.int .i64 0, .string ⟨#[]⟩, .int .i64 0, .int .i64 0, .int .i64 0, .int .i64 0, .int .i64 0, .int .i64 0] 37) = W2 := ⟨_, rfl⟩
  have hbW2 : Below W1.heap.size W1 W2 := by rw [← hW2]; exact alloc_below W1 _
  have kW2 : W2.heap[W1.heap.size]? = some (.cells #[.int .i64 0, .string ⟨#[]⟩, .int .i64 0, .int .i64 0, .int .i64 0, .int .i64 0, .int .i64 0, .int .i64 0] 37 (0, 0)) := by rw [← hW2]; exact alloc_new W1 _
  have H3 := Lib.hid (And.intro (H2.out.1.trans (hbW2.mono H2.out.1.size)) (And.intro (H2.out.2.1.below hbW2) (And.intro (blk_on hbW2 H2.out.2.2) (kW2))))
  clear hbW2 kW2
  go_enter Try.func11, Try.ntmps11
  go_wp2_with fail
  refine (HT.out _ H3.out.2.1).mono ?_
  rintro en y0 ⟨rfl, hw⟩
  rw [hw]
  clear hw hW1 hW2
  obtain ⟨WR, hWR⟩ : ∃ W, W2.setRow W1.heap.size #[.int .i64 1, .string ⟨#[]⟩, .int .i64 0, .int .i64 0, .int .i64 0, .int .i64 0, .int .i64 0, .int .i64 0] = W := ⟨_, rfl⟩
  have KE := Lib.hid (show WR.heap[W1.heap.size]? = some (.cells #[.int .i64 1, .string ⟨#[]⟩, .int .i64 0, .int .i64 0, .int .i64 0, .int .i64 0, .int .i64 0, .int .i64 0] 37 (0, 0)) by rw [← hWR]; exact setRow_heap W2 _ _ _ _ _ H3.out.2.2.2)
  have BE := Lib.hid (show Below w.heap.size w WR by rw [← hWR]; exact below_setRow H3.out.1 (Nat.le_of_lt s1) _)
  go_wp2_with (refine wpList_store_blk rfl 37 (.tmp 4) (.tmp 8) rfl W1.heap.size 0 8 rfl #[.int .i64 0, .string ⟨#[]⟩, .int .i64 0, .int .i64 0, .int .i64 0, .int .i64 0, .int .i64 0, .int .i64 0] #[.int .i64 1, .string ⟨#[]⟩, .int .i64 0, .int .i64 0, .int .i64 0, .int .i64 0, .int .i64 0, .int .i64 0] #[.int .i64 1, .string ⟨#[]⟩, .int .i64 0, .int .i64 0, .int .i64 0, .int .i64 0, .int .i64 0, .int .i64 0] rfl 37 H3.out.2.2.2 rfl (Nat.le_refl 8) (by kernel_rfl) (ans_one _ _ _ _ _ _ _ _) (splice_all _ _ rfl) ?_; rw [hWR])
  obtain ⟨⟨y0, y1, y2, y3, y4, y5, y6, y7⟩, -⟩ := blkR KE.out
  refine bodyPost_ret (v := .agg #[.int .i64 1, .string ⟨#[]⟩, .int .i64 0, .int .i64 0, .int .i64 0, .int .i64 0, .int .i64 0, .int .i64 0]) (by simp [results, Try.results11, go_sem, y0, y1, y2, y3, y4, y5, y6, y7]) rfl ?_
  exact HR.out _ _ ⟨rfl, BE.out⟩
theorem ModAt.ltF {w : World} {n cc bn c mu mh mg : Nat} {rv vv : Value} {m : ModT} (h : ModAt w n cc bn c mu mh mg rv vv m) : ∀ k, FM n cc bn c mu mh mg rv vv k → k < w.heap.size := by
  rintro k (rfl | rfl | q | q | q)
  · exact h.lt
  · exact lt_of_block h.clk
  · exact h.book.lt k q
  · exact (h.recs.lt q).2
  · exact (h.vers.lt q).2
theorem ModAt.sameF {w w' : World} {n cc bn c mu mh mg : Nat} {rv vv : Value} {m : ModT} (h : ModAt w n cc bn c mu mh mg rv vv m) (hk : ∀ k, FM n cc bn c mu mh mg rv vv k → w'.heap[k]? = w.heap[k]?) : ModAt w' n cc bn c mu mh mg rv vv m :=
  ⟨(hk n (Or.inl rfl)).trans h.blk, (hk cc (Or.inr (Or.inl rfl))).trans h.clk, h.book.same fun k o hf e => (hk k (Or.inr (Or.inr (Or.inl hf)))).trans e, h.recs.keep fun k e => hk k (Or.inr (Or.inr (Or.inr (Or.inl e)))), h.vers.keep fun k e => hk k (Or.inr (Or.inr (Or.inr (Or.inr e)))), h.ne⟩
set_option maxRecDepth 100000 in
set_option maxHeartbeats 4000000 in
theorem mdo_write {n cc bn c mu mh mg : Nat} {rv vv : Value} {m : ModT} (cl : CallT) (ka : Option Addr) (kn kc : Nat) (w : World) (h : ModAt w n cc bn c mu mh mg rv vv m) (hk : cl.kind = 1) (h7 : Seven n cc bn c mu mh mg) (hg : -9223372036854775808 ≤ m.geo.blocks ∧ m.geo.blocks ≤ 9223372036854775807) (hu : 0 ≤ m.used ∧ m.used ≤ 1000000000) (hn : m.vers.length ≤ 1000000) :
    Calls Try.prog 11 #[.pointer (some ⟨n, 0, none⟩), callV cl ka kn kc] w fun e w' => e = .returned (.agg #[.int .i64 (writeE m cl), .string ⟨#[]⟩, .int .i64 0, .int .i64 0, .int .i64 0, .int .i64 0, .int .i64 0, .int .i64 0]) ∧ ∃ vv', ModAt w' n cc bn c mu mh mg rv vv' (writeM m cl) ∧ Turn w w' (FM n cc bn c mu mh mg rv vv) (FM n cc bn c mu mh mg rv vv') := by
  refine calls_by fun R HR => ?_
  have HD := Lib.hid h
  have HT := Lib.hid (fun w (h : ModAt w n cc bn c mu mh mg rv vv m) => mthere_yes w h)
  have HC := Lib.hid (fun w (h : ModAt w n cc bn c mu mh mg rv vv m) => mwrite_any cl ka kn kc w h h7 hg hu hn)
  generalize (writeE m cl) = EE at *
  generalize writeM m cl = MM at *
  obtain ⟨ki, lb, ce, ti, da, na⟩ := cl
  simp only at hk
  subst hk
  clear h
  have H1 := Lib.hid (And.intro (Below.refl w.heap.size w) (HD.out))
  obtain ⟨W1, hW1⟩ : ∃ W1, w.alloc (.cells #[.int .i64 1, .int .i64 lb, .int .i64 ce, .int .i64 ti, .string da, .string na, .slice ka kn kc] 32) = W1 := ⟨_, rfl⟩
  have hbW1 : Below w.heap.size w W1 := by rw [← hW1]; exact alloc_below w _
  have kW1 : W1.heap[w.heap.size]? = some (.cells #[.int .i64 1, .int .i64 lb, .int .i64 ce, .int .i64 ti, .string da, .string na, .slice ka kn kc] 32 (0, 0)) := by rw [← hW1]; exact alloc_new w _
  have H2 := Lib.hid (And.intro (H1.out.1.trans (hbW1.mono H1.out.1.size)) (And.intro (H1.out.2.below hbW1) (kW1)))
  clear hbW1 kW1
  have s1 : w.heap.size < W1.heap.size := lt_of_block H2.out.2.2
  obtain ⟨W2, hW2⟩ : ∃ W2, W1.alloc (.cells #[.int .i64 0, .string ⟨#[]⟩, .int .i64 0, .int .i64 0, .int .i64 0, .int .i64 0, .int .i64 0, .int .i64 0] 37) = W2 := ⟨_, rfl⟩
  have hbW2 : Below W1.heap.size W1 W2 := by rw [← hW2]; exact alloc_below W1 _
  have kW2 : W2.heap[W1.heap.size]? = some (.cells #[.int .i64 0, .string ⟨#[]⟩, .int .i64 0, .int .i64 0, .int .i64 0, .int .i64 0, .int .i64 0, .int .i64 0] 37 (0, 0)) := by rw [← hW2]; exact alloc_new W1 _
  have H3 := Lib.hid (And.intro (H2.out.1.trans (hbW2.mono H2.out.1.size)) (And.intro (H2.out.2.1.below hbW2) (And.intro (blk_on hbW2 H2.out.2.2) (kW2))))
  clear hbW2 kW2
  obtain ⟨a0, a1, a2, a3, a4, a5, a6⟩ := blk7c H3.out.2.2.1
  go_enter Try.func11, Try.ntmps11
  go_wp2_with fail
  refine (HT.out _ H3.out.2.1).mono ?_
  rintro en y0 ⟨rfl, hw⟩
  rw [hw]
  clear hw hW1 hW2
  go_wp2_with fail
  refine (HC.out _ H3.out.2.1).mono ?_
  rintro en v9 ⟨rfl, nv, hm9, ht9⟩
  have hfm : ∀ k, FM n cc bn c mu mh mg rv vv k → k < w.heap.size := HD.out.ltF
  have KZ := Lib.hid (show v9.heap[W1.heap.size]? = some (.cells #[.int .i64 0, .string ⟨#[]⟩, .int .i64 0, .int .i64 0, .int .i64 0, .int .i64 0, .int .i64 0, .int .i64 0] 37 (0, 0)) from (ht9.block _ (lt_of_block H3.out.2.2.2) (fun q => by have := hfm _ q; omega)).trans H3.out.2.2.2)
  have hfm2 : ∀ k, FM n cc bn c mu mh mg rv nv k → k ≠ W1.heap.size := fun k q e => by rcases ht9.foot k q with h1 | h1; have := hfm k h1; omega; have := lt_of_block H3.out.2.2.2; omega
  have HT9 := Lib.hid ((Turn.of_below (FM n cc bn c mu mh mg rv vv) H3.out.1).trans ht9)
  have HM9 := Lib.hid hm9
  have HF2 := Lib.hid hfm2
  clear a0 a1 a2 a3 a4 a5 a6 hm9 ht9 hfm2 hfm
  obtain ⟨WR, hWR⟩ : ∃ W, v9.setRow W1.heap.size #[.int .i64 EE, .string ⟨#[]⟩, .int .i64 0, .int .i64 0, .int .i64 0, .int .i64 0, .int .i64 0, .int .i64 0] = W := ⟨_, rfl⟩
  have KE := Lib.hid (show WR.heap[W1.heap.size]? = some (.cells #[.int .i64 EE, .string ⟨#[]⟩, .int .i64 0, .int .i64 0, .int .i64 0, .int .i64 0, .int .i64 0, .int .i64 0] 37 (0, 0)) by rw [← hWR]; exact setRow_heap v9 _ _ _ _ _ KZ.out)
  have HO := Lib.hid (show ∀ k, k ≠ W1.heap.size → WR.heap[k]? = v9.heap[k]? from fun k hk => by rw [← hWR]; exact setRow_other _ _ _ _ hk)
  have HTR := Lib.hid (show Turn w WR (FM n cc bn c mu mh mg rv vv) (FM n cc bn c mu mh mg rv nv) from by rw [← hWR]; exact ⟨HT9.out.os, HT9.out.tape, HT9.out.output, by simpa using HT9.out.size, fun k hk hF => (setRow_other _ _ _ _ (by omega)).trans (HT9.out.block k hk hF), HT9.out.foot⟩)
  go_wp2_with (refine wpList_store_blk rfl 37 (.tmp 4) (.tmp 33) rfl W1.heap.size 0 8 rfl #[.int .i64 0, .string ⟨#[]⟩, .int .i64 0, .int .i64 0, .int .i64 0, .int .i64 0, .int .i64 0, .int .i64 0] #[.int .i64 EE, .string ⟨#[]⟩, .int .i64 0, .int .i64 0, .int .i64 0, .int .i64 0, .int .i64 0, .int .i64 0] #[.int .i64 EE, .string ⟨#[]⟩, .int .i64 0, .int .i64 0, .int .i64 0, .int .i64 0, .int .i64 0, .int .i64 0] rfl 37 KZ.out rfl (Nat.le_refl 8) (by kernel_rfl) (ans_one _ _ _ _ _ _ _ _) (splice_all _ _ rfl) ?_; rw [hWR])
  obtain ⟨⟨y0, y1, y2, y3, y4, y5, y6, y7⟩, -⟩ := blkR KE.out
  refine bodyPost_ret (v := .agg #[.int .i64 EE, .string ⟨#[]⟩, .int .i64 0, .int .i64 0, .int .i64 0, .int .i64 0, .int .i64 0, .int .i64 0]) (by simp [results, Try.results11, go_sem, y0, y1, y2, y3, y4, y5, y6, y7]) rfl ?_
  exact HR.out _ _ ⟨rfl, nv, HM9.out.sameF (fun k q => HO.out k (HF2.out k q)), HTR.out⟩
set_option maxRecDepth 100000 in
set_option maxHeartbeats 4000000 in
theorem mdo_close {n cc bn c mu mh mg : Nat} {rv vv : Value} {m : ModT} (cl : CallT) (ka : Option Addr) (kn kc : Nat) (w : World) (h : ModAt w n cc bn c mu mh mg rv vv m) (hk : cl.kind = 5) (h7 : Seven n cc bn c mu mh mg) (hg : -9223372036854775808 ≤ m.geo.blocks ∧ m.geo.blocks ≤ 9223372036854775807) (hh : m.book.holds.length ≤ 1000000) (hu : 0 ≤ m.used ∧ m.used ≤ 1000000000) (hn : m.recs.length ≤ 1000000) (hv : ∀ v ∈ m.vers, 0 ≤ v.1 ∧ v.1 < 4096) (hl : m.vers.length ≤ 1000000) :
    Calls Try.prog 11 #[.pointer (some ⟨n, 0, none⟩), callV cl ka kn kc] w fun e w' => e = .returned (.agg #[.int .i64 (closeE m), .string ⟨#[]⟩, .int .i64 0, .int .i64 0, .int .i64 0, .int .i64 0, .int .i64 0, .int .i64 0]) ∧ ∃ rv', ModAt w' n cc bn c mu mh mg rv' vv (closeM m (zerosS 32)) ∧ Turn w w' (FM n cc bn c mu mh mg rv vv) (FM n cc bn c mu mh mg rv' vv) := by
  refine calls_by fun R HR => ?_
  have HD := Lib.hid h
  have HT := Lib.hid (fun w (h : ModAt w n cc bn c mu mh mg rv vv m) => mthere_yes w h)
  have HC := Lib.hid (fun w (h : ModAt w n cc bn c mu mh mg rv vv m) => mclose_any w h h7 hg hh hu hn hv hl)
  generalize (closeE m) = EE at *
  generalize closeM m (zerosS 32) = MM at *
  obtain ⟨ki, lb, ce, ti, da, na⟩ := cl
  simp only at hk
  subst hk
  clear h
  have H1 := Lib.hid (And.intro (Below.refl w.heap.size w) (HD.out))
  obtain ⟨W1, hW1⟩ : ∃ W1, w.alloc (.cells #[.int .i64 5, .int .i64 lb, .int .i64 ce, .int .i64 ti, .string da, .string na, .slice ka kn kc] 32) = W1 := ⟨_, rfl⟩
  have hbW1 : Below w.heap.size w W1 := by rw [← hW1]; exact alloc_below w _
  have kW1 : W1.heap[w.heap.size]? = some (.cells #[.int .i64 5, .int .i64 lb, .int .i64 ce, .int .i64 ti, .string da, .string na, .slice ka kn kc] 32 (0, 0)) := by rw [← hW1]; exact alloc_new w _
  have H2 := Lib.hid (And.intro (H1.out.1.trans (hbW1.mono H1.out.1.size)) (And.intro (H1.out.2.below hbW1) (kW1)))
  clear hbW1 kW1
  have s1 : w.heap.size < W1.heap.size := lt_of_block H2.out.2.2
  obtain ⟨W2, hW2⟩ : ∃ W2, W1.alloc (.cells #[.int .i64 0, .string ⟨#[]⟩, .int .i64 0, .int .i64 0, .int .i64 0, .int .i64 0, .int .i64 0, .int .i64 0] 37) = W2 := ⟨_, rfl⟩
  have hbW2 : Below W1.heap.size W1 W2 := by rw [← hW2]; exact alloc_below W1 _
  have kW2 : W2.heap[W1.heap.size]? = some (.cells #[.int .i64 0, .string ⟨#[]⟩, .int .i64 0, .int .i64 0, .int .i64 0, .int .i64 0, .int .i64 0, .int .i64 0] 37 (0, 0)) := by rw [← hW2]; exact alloc_new W1 _
  have H3 := Lib.hid (And.intro (H2.out.1.trans (hbW2.mono H2.out.1.size)) (And.intro (H2.out.2.1.below hbW2) (And.intro (blk_on hbW2 H2.out.2.2) (kW2))))
  clear hbW2 kW2
  obtain ⟨a0, a1, a2, a3, a4, a5, a6⟩ := blk7c H3.out.2.2.1
  go_enter Try.func11, Try.ntmps11
  go_wp2_with fail
  refine (HT.out _ H3.out.2.1).mono ?_
  rintro en y0 ⟨rfl, hw⟩
  rw [hw]
  clear hw hW1 hW2
  go_wp2_with fail
  refine (HC.out _ H3.out.2.1).mono ?_
  rintro en v9 ⟨rfl, nv, hm9, ht9⟩
  have hfm : ∀ k, FM n cc bn c mu mh mg rv vv k → k < w.heap.size := HD.out.ltF
  have KZ := Lib.hid (show v9.heap[W1.heap.size]? = some (.cells #[.int .i64 0, .string ⟨#[]⟩, .int .i64 0, .int .i64 0, .int .i64 0, .int .i64 0, .int .i64 0, .int .i64 0] 37 (0, 0)) from (ht9.block _ (lt_of_block H3.out.2.2.2) (fun q => by have := hfm _ q; omega)).trans H3.out.2.2.2)
  have hfm2 : ∀ k, FM n cc bn c mu mh mg nv vv k → k ≠ W1.heap.size := fun k q e => by rcases ht9.foot k q with h1 | h1; have := hfm k h1; omega; have := lt_of_block H3.out.2.2.2; omega
  have HT9 := Lib.hid ((Turn.of_below (FM n cc bn c mu mh mg rv vv) H3.out.1).trans ht9)
  have HM9 := Lib.hid hm9
  have HF2 := Lib.hid hfm2
  clear a0 a1 a2 a3 a4 a5 a6 hm9 ht9 hfm2 hfm
  obtain ⟨WR, hWR⟩ : ∃ W, v9.setRow W1.heap.size #[.int .i64 EE, .string ⟨#[]⟩, .int .i64 0, .int .i64 0, .int .i64 0, .int .i64 0, .int .i64 0, .int .i64 0] = W := ⟨_, rfl⟩
  have KE := Lib.hid (show WR.heap[W1.heap.size]? = some (.cells #[.int .i64 EE, .string ⟨#[]⟩, .int .i64 0, .int .i64 0, .int .i64 0, .int .i64 0, .int .i64 0, .int .i64 0] 37 (0, 0)) by rw [← hWR]; exact setRow_heap v9 _ _ _ _ _ KZ.out)
  have HO := Lib.hid (show ∀ k, k ≠ W1.heap.size → WR.heap[k]? = v9.heap[k]? from fun k hk => by rw [← hWR]; exact setRow_other _ _ _ _ hk)
  have HTR := Lib.hid (show Turn w WR (FM n cc bn c mu mh mg rv vv) (FM n cc bn c mu mh mg nv vv) from by rw [← hWR]; exact ⟨HT9.out.os, HT9.out.tape, HT9.out.output, by simpa using HT9.out.size, fun k hk hF => (setRow_other _ _ _ _ (by omega)).trans (HT9.out.block k hk hF), HT9.out.foot⟩)
  go_wp2_with (refine wpList_store_blk rfl 37 (.tmp 4) (.tmp 57) rfl W1.heap.size 0 8 rfl #[.int .i64 0, .string ⟨#[]⟩, .int .i64 0, .int .i64 0, .int .i64 0, .int .i64 0, .int .i64 0, .int .i64 0] #[.int .i64 EE, .string ⟨#[]⟩, .int .i64 0, .int .i64 0, .int .i64 0, .int .i64 0, .int .i64 0, .int .i64 0] #[.int .i64 EE, .string ⟨#[]⟩, .int .i64 0, .int .i64 0, .int .i64 0, .int .i64 0, .int .i64 0, .int .i64 0] rfl 37 KZ.out rfl (Nat.le_refl 8) (by kernel_rfl) (ans_one _ _ _ _ _ _ _ _) (splice_all _ _ rfl) ?_; rw [hWR])
  obtain ⟨⟨y0, y1, y2, y3, y4, y5, y6, y7⟩, -⟩ := blkR KE.out
  refine bodyPost_ret (v := .agg #[.int .i64 EE, .string ⟨#[]⟩, .int .i64 0, .int .i64 0, .int .i64 0, .int .i64 0, .int .i64 0, .int .i64 0]) (by simp [results, Try.results11, go_sem, y0, y1, y2, y3, y4, y5, y6, y7]) rfl ?_
  exact HR.out _ _ ⟨rfl, nv, HM9.out.sameF (fun k q => HO.out k (HF2.out k q)), HTR.out⟩
end Go.Proofs.Ytnkiokaeooopgaa
/- A new model: of the program; few calls, the example: of the law. -/
set_option maxRecDepth 100000
namespace Go.Proofs.Ytnkiokaeooopgaa
open Go.RowKit Ks Go.Maps
set_option linter.unusedVariables false
set_option linter.unusedSimpArgs false
set_option maxRecDepth 100000 in
set_option maxHeartbeats 4000000 in
theorem mnew_err (b l f : Int) (w : World) (h : geoE b l f = 2) : Calls Try.prog 17 #[geoV3 b l f] w fun e w' => e = .returned (.tuple #[.pointer none, .int .i64 2]) ∧ Below w.heap.size w w' := by
  refine calls_by fun R HR => ?_
  have HC := Lib.hid (fun w => gcheck_any b l f w)
  rw [h] at HC
  clear h
  have H1 := Lib.hid (Below.refl w.heap.size w)
  obtain ⟨W1, hW1⟩ : ∃ W1, w.alloc (.cells #[.int .i64 b, .int .i64 l, .int .i64 f] 23) = W1 := ⟨_, rfl⟩
  have hbW1 : Below w.heap.size w W1 := by rw [← hW1]; exact alloc_below w _
  have kW1 : W1.heap[w.heap.size]? = some (.cells #[.int .i64 b, .int .i64 l, .int .i64 f] 23 (0, 0)) := by rw [← hW1]; exact alloc_new w _
  have H2 := Lib.hid (And.intro (H1.out.trans (hbW1.mono H1.out.size)) (kW1))
  clear hbW1 kW1
  obtain ⟨c0, c1, c2, -, -, -⟩ := blk3 H2.out.2
  go_enter Try.func17, Try.ntmps17
  go_wp2_with fail
  refine (HC.out _).mono ?_
  rintro en v1 ⟨rfl, hb⟩
  have H3 := Lib.hid (And.intro (H2.out.1.trans (hb.mono H2.out.1.size)) (blk_on hb H2.out.2))
  clear hb
  go_wp2
  exact HR.out _ _ ⟨rfl, H3.out.1⟩
set_option maxRecDepth 100000 in
set_option maxHeartbeats 4000000 in
theorem mnew_any (g : GeoD) (w : World) (h : geoOk g.blocks g.lbas g.first = true) : Calls Try.prog 17 #[geoV3 g.blocks g.lbas g.first] w fun e w' => ∃ n cc bn c mu mh mg, e = .returned (.tuple #[.pointer (some ⟨n, 0, none⟩), .int .i64 0]) ∧ ModAt w' n cc bn c mu mh mg (.slice none 0 0) (.slice none 0 0) (newM g) ∧ Seven n cc bn c mu mh mg ∧ Below w.heap.size w w' ∧ ∀ k, FM n cc bn c mu mh mg (.slice none 0 0) (.slice none 0 0) k → w.heap.size ≤ k := by
  refine calls_by fun R HR => ?_
  have HC := Lib.hid (fun w => gcheck_any g.blocks g.lbas g.first w)
  rw [(geo_yes h).1] at HC
  have hk := geo_ok.1 h
  have HN := Lib.hid (fun w => bnew_any g.first w (by omega) (by omega))
  have HK := Lib.hid (fun w => cnew0 w)
  clear h hk
  obtain ⟨b, l, f⟩ := g
  simp only at HC HN
  have H1 := Lib.hid (Below.refl w.heap.size w)
  obtain ⟨W1, hW1⟩ : ∃ W1, w.alloc (.cells #[.int .i64 b, .int .i64 l, .int .i64 f] 23) = W1 := ⟨_, rfl⟩
  have hbW1 : Below w.heap.size w W1 := by rw [← hW1]; exact alloc_below w _
  have kW1 : W1.heap[w.heap.size]? = some (.cells #[.int .i64 b, .int .i64 l, .int .i64 f] 23 (0, 0)) := by rw [← hW1]; exact alloc_new w _
  have H2 := Lib.hid (And.intro (H1.out.trans (hbW1.mono H1.out.size)) (kW1))
  clear hbW1 kW1
  obtain ⟨c0, c1, c2, -, -, -⟩ := blk3 H2.out.2
  go_enter Try.func17, Try.ntmps17
  go_wp2_with fail
  refine (HC.out _).mono ?_
  rintro en v1 ⟨rfl, hb⟩
  have H3 := Lib.hid (And.intro (H2.out.1.trans (hb.mono H2.out.1.size)) (blk_on hb H2.out.2))
  clear hb
  clear c0 c1 c2
  go_wp2_with fail
  refine (HK.out _).mono ?_
  rintro en y0 ⟨rfl, hw⟩
  rw [hw]
  clear hw hW1
  obtain ⟨W2, hW2⟩ : ∃ W2, v1.alloc (.cells #[.bool true, .int .i64 0] 84) = W2 := ⟨_, rfl⟩
  have hbW2 : Below v1.heap.size v1 W2 := by rw [← hW2]; exact alloc_below v1 _
  have kW2 : W2.heap[v1.heap.size]? = some (.cells #[.bool true, .int .i64 0] 84 (0, 0)) := by rw [← hW2]; exact alloc_new v1 _
  have H4 := Lib.hid (And.intro (H3.out.1.trans (hbW2.mono H3.out.1.size)) (And.intro (blk_on hbW2 H3.out.2) (kW2)))
  clear hbW2 kW2
  obtain ⟨c0, c1, c2, -, -, -⟩ := blk3 H4.out.2.1
  have sz1 : v1.heap.size < W2.heap.size := lt_of_block H4.out.2.2
  have sz0 : w.heap.size ≤ v1.heap.size := H3.out.1.size
  go_wp2_with fail
  refine (HN.out _).mono ?_
  rintro en v2 ⟨bn, c, mu, mh, mg, rfl, hs, h5, hb, hkk⟩
  have H5 := Lib.hid (And.intro (H4.out.1.trans (hb.mono H4.out.1.size)) (And.intro (blk_on hb H4.out.2.1) (And.intro (blk_on hb H4.out.2.2) (And.intro (hs) (And.intro (h5) (hkk))))))
  clear hb
  clear hs h5 hkk c0 c1 c2 hW2
  have sz2 : W2.heap.size ≤ v2.heap.size := by have := lt_of_block H5.out.2.2.1; have := H5.out.2.2.2.1.lt bn (Or.inl rfl); have := H5.out.2.2.2.2.2 bn (Or.inl rfl); omega
  obtain ⟨c0, c1, c2, -, -, -⟩ := blk3 H5.out.2.1
  have HB := Lib.hid (alloc_below v2 (.cells #[.int .i64 b, .int .i64 l, .int .i64 f, .int .i64 0, .pointer (some ⟨v1.heap.size, 0, none⟩), .pointer (some ⟨bn, 0, none⟩), .slice none 0 0, .slice none 0 0] 49))
  have KN := Lib.hid (alloc_new v2 (.cells #[.int .i64 b, .int .i64 l, .int .i64 f, .int .i64 0, .pointer (some ⟨v1.heap.size, 0, none⟩), .pointer (some ⟨bn, 0, none⟩), .slice none 0 0, .slice none 0 0] 49))
  go_wp2
  refine HR.out _ _ ⟨v2.heap.size, v1.heap.size, bn, c, mu, mh, mg, rfl, ⟨KN.out, blk_on HB.out H5.out.2.2.1, H5.out.2.2.2.1.below HB.out, Row.nil _ _ _, Row.nil _ _ _, fun k h => by simp [Value.ownBlock] at h⟩, ⟨H5.out.2.2.2.2.1, by omega, fun k hk => ⟨H5.out.2.2.2.1.lt k hk, by have := H5.out.2.2.2.2.2 k hk; omega⟩⟩, H5.out.1.trans (HB.out.mono H5.out.1.size), ?_⟩
  rintro k (rfl | rfl | q | q | q)
  · omega
  · exact sz0
  · have := H5.out.2.2.2.2.2 k q; omega
  · simp [Value.ownBlock] at q
  · simp [Value.ownBlock] at q
end Go.Proofs.Ytnkiokaeooopgaa
