/- The net's readers. -/
import Derived.Test.YtpdnjhofmngfdaaNetFuncs
import Derived.Test.YtpdnjhofmngfdaaNetIndex
import Derived.Test.YtpdnjhofmngfdaaNetOwn
import Derived.Lib.SliceRun
namespace Go.Proofs.Ytpdnjhofmngfdaa
open Go.RowKit Ks
set_option linter.unusedVariables false

theorem Try.infoLetter : (Try.prog.info? 24).map (fun i => (i.zero, i.size, i.bytes)) = some (some (.agg #[.int .i64 0, .string ⟨#[]⟩]), 2, 24) := by kernel_rfl

set_option maxHeartbeats 1000000 in
theorem clone_any (lv : Value) (l : List Let) (w : World) (hl : RdL w lv l) (hlen : l.length ≤ 1000000) :
    Calls Try.prog 17 #[lv] w fun e w' => ∃ v', e = .returned v' ∧ w'.ownsRow w.heap.size 24 2 v' l.length (letCs l) ∧ Below w.heap.size w w' := by
  refine calls_by fun R HR => ?_
  obtain ⟨i0, hi, hz0, hz1, hz2⟩ := info_parts Try.infoLetter
  have HL := Lib.hid hl
  have q22 : ∀ (w : World) (a : Option Addr) (n c n' c' : Nat), (binOp .eql 29 (.slice a n c) (.slice none n' c')).run Try.prog w = .ok (.bool a.isNone) w := fun w a n c n' c' => Lib.run_eql_slice_nil w _ _ a n c n' c' Try.underlying29
  obtain ⟨a, cap, rfl, hcap, hnone, hcell⟩ := hl
  clear hcell
  cases a with
  | none =>
    have hc0 := hnone rfl
    have : l = [] := List.length_eq_zero_iff.1 (by omega)
    subst this
    clear hnone
    subst hc0
    go_enter Try.func17, Try.ntmps17
    go_wp2
    exact HR.out _ _ ⟨_, rfl, World.ownsRow_nil _ _ _ _, Below.refl _ _⟩
  | some ad =>
    clear hnone
    go_enter Try.func17, Try.ntmps17
    go_wp2_with (at_builtin; refine wpList_append_own _ rfl _ _ 29 rfl w.heap.size 24 i0 _ 2 24 Try.underlying29 hi hz0 hz1 hz2 rfl (by decide) _ _ _ rfl (World.ownsRow_made w #[] 0 (Nat.le_refl _) (Nat.zero_le _) (by simp)) ad l.length cap (letCs l) rfl ?c1 ?c2 ?c3 ?c4 ?c5 ?c6 ?_)
    case c1 => exact letCs_length l
    case c2 =>
      intro j u hj
      obtain ⟨i, x, hx, _⟩ := letCs_cell l j u hj
      obtain ⟨a', cap', e, _, _, hh⟩ := HL.out
      obtain ⟨b, o, e2, _⟩ := hh i x hx
      simp only [Value.slice.injEq] at e
      rw [e2] at e
      obtain ⟨e1, _, _⟩ := e
      simp only [Option.some.injEq] at e1
      subst e1
      rw [Addr.add_lit]
      exact Lib.cell?_alloc_some _ (HL.out.cells.2 j u hj)
    case c3 => exact letCs_one l
    case c4 => unfold maxLen; omega
    case c5 => omega
    case c6 => simp
    intro v' w2 hown' hgrow _
    have Own2 := Lib.hid hown'
    have Grow := Lib.hid hgrow
    clear hown' hgrow
    go_wp2
    refine HR.out _ _ ⟨v', rfl, ?_, ?_⟩
    · first | exact Own2.out | (have := Own2.out; rw [Nat.zero_add, List.nil_append] at this; exact this)
    · exact ((Below.refl w.heap.size w).alloc (Nat.le_refl _) _).grown Grow.out (by simp) (fun j hj => by simp [Value.ownBlock] at hj; omega)

theorem clone_nil (w : World) :
    Calls Try.prog 17 #[.slice none 0 0] w fun e w' => e = .returned (.slice none 0 0) ∧ w' = w := by
  refine calls_by fun R HR => ?_
  have q22 : ∀ (w : World) (a : Option Addr) (n c n' c' : Nat), (binOp .eql 29 (.slice a n c) (.slice none n' c')).run Try.prog w = .ok (.bool a.isNone) w := fun w a n c n' c' => Lib.run_eql_slice_nil w _ _ a n c n' c' Try.underlying29
  go_enter Try.func17, Try.ntmps17
  go_wp2
  exact HR.out _ _ ⟨rfl, rfl⟩

set_option maxHeartbeats 1000000 in
theorem all_live (n : Nat) (v : Value) (l : List Let) (w : World) (h : NetAt w 45 24 n v l) :
    Calls Try.prog 9 #[.pointer (some ⟨n, 0, none⟩)] w fun e w' => ∃ v', e = .returned v' ∧ w'.ownsRow w.heap.size 24 2 v' l.length (letCs l) ∧ Below w.heap.size w w' := by
  refine calls_by fun R HR => ?_
  obtain ⟨c0, c1, f0, f1⟩ := h.cells
  have hl := h.own.rd
  have hlen := h.len
  have HN := Lib.hid h
  clear h
  go_enter Try.func9, Try.ntmps9
  go_wp2_with fail
  refine (clone_any v l _ hl (by omega)).mono ?_
  rintro e w1 ⟨v', rfl, hown, hb⟩
  have Hown := Lib.hid hown
  clear hown
  go_wp2
  exact HR.out _ _ ⟨v', rfl, Hown.out, hb⟩

theorem all_dead (nv : Value) (w : World) (h : DeadAt w 45 nv) :
    Calls Try.prog 9 #[nv] w fun e w' => e = .returned (.slice none 0 0) ∧ Below w.heap.size w w' := by
  refine calls_by fun R HR => ?_
  rcases h with rfl | ⟨n, rfl, h⟩
  · go_enter Try.func9, Try.ntmps9
    go_wp2
    exact HR.out _ _ ⟨rfl, Below.refl _ _⟩
  · have c1 : w.cell? ⟨n, 1, none⟩ = some (.slice none 0 0) := by rw [cell_of_row w n 1 _ _ _ h]; rfl
    clear h
    go_enter Try.func9, Try.ntmps9
    go_wp2_with fail
    refine (clone_nil w).mono ?_
    rintro e w1 ⟨rfl, rfl⟩
    go_wp2
    exact HR.out _ _ ⟨rfl, Below.refl _ _⟩

theorem at_live (n : Nat) (v : Value) (l : List Let) (i : Int) (w : World) (h : NetAt w 45 24 n v l) :
    Calls Try.prog 20 #[.pointer (some ⟨n, 0, none⟩), .int .i64 i] w fun e w' => e = .returned (.int .i64 (if i < 0 ∨ (l.length : Int) ≤ i then 7 else 0)) ∧ Below w.heap.size w w' := by
  refine calls_by fun R HR => ?_
  obtain ⟨c0, c1, f0, f1⟩ := h.cells
  obtain ⟨a, cap, rfl, _⟩ := h.own.rd
  clear h f0 f1
  by_cases h1 : i < 0
  · have Q := Lib.hid (show (if i < 0 ∨ (l.length : Int) ≤ i then (7 : Int) else 0) = 7 from if_pos (Or.inl h1))
    go_enter Try.func20, Try.ntmps20
    go_wp2
    exact HR.out _ _ ⟨by rw [Q.out]; try rfl, by first | exact Below.refl _ _ | exact (Below.refl _ _).drew⟩
  by_cases h2 : (l.length : Int) ≤ i
  · have Q := Lib.hid (show (if i < 0 ∨ (l.length : Int) ≤ i then (7 : Int) else 0) = 7 from if_pos (Or.inr h2))
    go_enter Try.func20, Try.ntmps20
    go_wp2
    exact HR.out _ _ ⟨by rw [Q.out]; try rfl, by first | exact Below.refl _ _ | exact (Below.refl _ _).drew⟩
  · have Q := Lib.hid (show (if i < 0 ∨ (l.length : Int) ≤ i then (7 : Int) else 0) = 0 from if_neg (by omega))
    have h2' : i < (l.length : Int) := by omega
    go_enter Try.func20, Try.ntmps20
    go_wp2
    exact HR.out _ _ ⟨by rw [Q.out]; try rfl, by first | exact Below.refl _ _ | exact (Below.refl _ _).drew⟩

theorem at_dead (nv : Value) (i : Int) (w : World) (h : DeadAt w 45 nv) :
    Calls Try.prog 20 #[nv, .int .i64 i] w fun e w' => e = .returned (.int .i64 1) ∧ Below w.heap.size w w' := by
  refine calls_by fun R HR => ?_
  rcases h with rfl | ⟨n, rfl, h⟩
  · go_enter Try.func20, Try.ntmps20
    go_wp2
    exact HR.out _ _ ⟨rfl, by first | exact Below.refl _ _ | exact (Below.refl _ _).drew⟩
  · have c0 : w.cell? ⟨n, 0, none⟩ = some (.bool false) := by rw [cell_of_row w n 0 _ _ _ h]; rfl
    clear h
    go_enter Try.func20, Try.ntmps20
    go_wp2
    exact HR.out _ _ ⟨rfl, by first | exact Below.refl _ _ | exact (Below.refl _ _).drew⟩

theorem contains_any (lv : Value) (l : List Let) (w : World) (hl : RdL w lv l) (hlen : l.length ≤ 9223372036854775807) :
    Calls Try.prog 18 #[lv, .func (.func 19) #[] #[]] w fun e w' => e = .returned (.bool (l.any badL)) ∧ Below w.heap.size w w' := by
  refine calls_by fun R HR => ?_
  have hi := index_any 19 #[] (fun _ _ => rfl) badL lv l w hl hlen fun x w' _ => bad_any x.1 x.2 w'
  have hq := idxL_any badL l
  generalize idxL badL l = q at *
  go_enter Try.func18, Try.ntmps18
  go_wp2_with fail
  refine hi.mono ?_
  rintro e w1 ⟨rfl, hb⟩
  have Q := Lib.hid hq
  clear hi hq
  go_wp2
  exact HR.out _ _ ⟨by rw [← Q.out]; rfl, hb⟩

theorem new_any (w : World) :
    Calls Try.prog 8 #[] w fun e w' => e = .returned (.pointer (some ⟨w.heap.size, 0, none⟩)) ∧ w' = w.alloc (.cells #[.bool true, .slice none 0 0] 45) := by
  refine calls_by fun R HR => ?_
  go_enter Try.func8, Try.ntmps8
  go_wp2
  exact HR.out _ _ ⟨rfl, rfl⟩

end Go.Proofs.Ytpdnjhofmngfdaa
