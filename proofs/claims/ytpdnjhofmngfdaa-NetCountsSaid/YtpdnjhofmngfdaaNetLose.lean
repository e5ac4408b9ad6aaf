/- A letter lost; the chapter's example. -/
import Derived.Test.YtpdnjhofmngfdaaNetTake
namespace Go.Proofs.Ytpdnjhofmngfdaa
open Go.RowKit Ks
set_option linter.unusedVariables false

theorem take_dead (nv : Value) (i : Int) (w : World) (h : DeadAt w 45 nv) :
    Calls Try.prog 12 #[nv, .int .i64 i] w fun e w' => e = .returned (.tuple #[.agg #[.int .i64 0, .string ⟨#[]⟩], .int .i64 1]) ∧ Below w.heap.size w w' := by
  refine calls_by fun R HR => ?_
  have hA : Below w.heap.size w (w.alloc (.cells #[.int .i64 0, .string ⟨#[]⟩] 24)) := (Below.refl _ _).alloc (Nat.le_refl _) _
  have hd := h.keep hA
  clear h
  go_enter Try.func12, Try.ntmps12
  go_wp2_with fail
  refine (at_dead nv i _ hd).mono ?_
  rintro e w1 ⟨rfl, hb1⟩
  have hbb := hA.trans (hb1.mono (by simp))
  have hz : w.heap.size < w1.heap.size := by have := hb1.size; simp at this; omega
  have blk := (hb1.block w.heap.size (by simp)).trans (heap_alloc_new w _)
  have y0 := cell_of_row w1 _ 0 _ _ _ blk
  have y1 := cell_of_row w1 _ 1 _ _ _ blk
  have g0 := frozen_of_row w1 _ 0 _ _ blk
  have g1 := frozen_of_row w1 _ 1 _ _ blk
  simp only [List.getElem?_toArray, List.getElem?_cons_zero, List.getElem?_cons_succ] at y0 y1
  clear hd hA hb1 blk
  go_wp2
  refine bodyPost_ret (v := .tuple #[.agg #[.int .i64 0, .string ⟨#[]⟩], .int .i64 1]) (by simp [results, Try.results12, go_sem, y0, y1]) rfl ?_
  exact HR.out _ _ ⟨rfl, (hbb.setCell (Nat.le_refl _) _).setCell (Nat.le_refl _) _⟩

theorem Turn.alloc {w w1 : World} {n : Nat} {v v' : Value} (h : Turn w w1 n v v') (o : Obj) : Turn w (w1.alloc o) n v v' := h.then ((Below.refl _ _).alloc (Nat.le_refl _) _)

theorem lose_live (n : Nat) (v : Value) (L : List Let) (i : Int) (w : World) (h : NetAt w 45 24 n v L) :
    Calls Try.prog 14 #[.pointer (some ⟨n, 0, none⟩), .int .i64 i] w fun e w' => ∃ v', e = .returned (.int .i64 (atE L i)) ∧ NetAt w' 45 24 n v' (takeR L i) ∧ Turn w w' n v v' := by
  refine calls_by fun R HR => ?_
  go_enter Try.func14, Try.ntmps14
  go_wp2_with fail
  refine (take_live n v L i _ h).mono ?_
  rintro e w1 ⟨v', rfl, hN, hT⟩
  have HN := Lib.hid hN
  have HT := Lib.hid hT
  clear h hN hT
  go_wp2
  exact HR.out _ _ ⟨v', rfl, HN.out.keep ((Below.refl _ _).alloc (Nat.le_refl _) _), HT.out.then ((Below.refl _ _).alloc (Nat.le_refl _) _)⟩
theorem lose_dead (nv : Value) (i : Int) (w : World) (h : DeadAt w 45 nv) :
    Calls Try.prog 14 #[nv, .int .i64 i] w fun e w' => e = .returned (.int .i64 1) ∧ Below w.heap.size w w' := by
  refine calls_by fun R HR => ?_
  go_enter Try.func14, Try.ntmps14
  go_wp2_with fail
  refine (take_dead nv i _ h).mono ?_
  rintro e w1 ⟨rfl, hb⟩
  clear h
  go_wp2
  exact HR.out _ _ ⟨rfl, hb.trans (((Below.refl w1.heap.size w1).alloc (Nat.le_refl _) _).mono hb.size)⟩

theorem RdL.two {w : World} {b : Nat} {T : TypeId} {fr : Nat × Nat} {t s' : Int} {s u : ByteArray} (h : w.heap[b]? = some (.cells #[.int .i64 t, .string s, .int .i64 s', .string u] T fr)) : RdL w (.slice (some ⟨b, 0, none⟩) 2 2) [(t, s), (s', u)] := by
  refine ⟨_, _, rfl, Nat.le_refl _, fun e => by simp at e, fun i x hx => ⟨b, 0, rfl, lt_of_block h, ?_⟩⟩
  match i, hx with
  | 0, hx =>
    simp at hx
    subst hx
    exact ⟨by rw [cell_of_row w b _ _ _ _ h]; rfl, by rw [cell_of_row w b _ _ _ _ h]; rfl⟩
  | 1, hx =>
    simp at hx
    subst hx
    exact ⟨by rw [cell_of_row w b _ _ _ _ h]; rfl, by rw [cell_of_row w b _ _ _ _ h]; rfl⟩

def la : Let := (0, ⟨#[97]⟩)
def lb : Let := (1, ⟨#[98]⟩)
theorem al1 : sendE [] [(0, ⟨#[97]⟩), (1, ⟨#[98]⟩)] = 0 ∧ sendL [] [(0, ⟨#[97]⟩), (1, ⟨#[98]⟩)] = [la, lb] := by decide +kernel
theorem al2 : twiceE [la, lb] 0 = 0 ∧ twiceL [la, lb] 0 = [la, lb, la] := by decide +kernel
theorem al3 : takeX [la, lb, la] 1 = (1, ⟨#[98]⟩) ∧ atE [la, lb, la] 1 = 0 ∧ takeR [la, lb, la] 1 = [la, la] := by decide +kernel
theorem al4 : idxL (fun x => x.1 == 1) [la, la] = -1 := by decide +kernel

set_option maxHeartbeats 1000000 in
theorem alive_any (w : World) : Calls Try.prog 7 #[] w fun e w' => e = .returned (.bool true) ∧ Below w.heap.size w w' := by
  refine calls_by fun R HR => ?_
  have hA : Below w.heap.size w (w.alloc (.cells #[.bool true, .slice none 0 0] 45)) := (Below.refl _ _).alloc (Nat.le_refl _) _
  have hN : NetAt (w.alloc (.cells #[.bool true, .slice none 0 0] 45)) 45 24 w.heap.size (.slice none 0 0) [] := ⟨heap_alloc_new w _, Own.nil _ _, by simp [Value.ownBlock], by simp⟩
  have HN := Lib.hid hN
  have HA := Lib.hid hA
  clear hA hN
  go_enter Try.func7, Try.ntmps7
  go_wp2_with fail
  refine (new_any _).mono ?_
  rintro e w1 ⟨rfl, rfl⟩
  generalize hw0 : w.alloc (.cells #[.bool true, .slice none 0 0] 45) = w0 at *
  clear hw0
  go_wp2_with fail
  refine (send_live w.heap.size _ _ [] [(0, ⟨#[97]⟩), (1, ⟨#[98]⟩)] _ (HN.out.keep ((Below.refl _ _).alloc (Nat.le_refl _) _)) (RdL.two (heap_alloc_new w0 _)) (by simp)).mono ?_
  rintro e w2 ⟨v2, rfl, hN2, hT2⟩
  rw [al1.2] at hN2
  rw [al1.1]
  have hB2 := HA.out.trans ((hT2.below (Nat.le_refl _) (by simp [Value.ownBlock]) (by have := HN.out.lt; simp; omega)) |> fun h => ((Below.refl w.heap.size w0).alloc (Nat.le_of_lt HN.out.lt) _).trans h)
  have hv2 := hT2.low (B := w.heap.size) (by simp [Value.ownBlock]) (by have := HN.out.lt; simp; omega)
  have HN2 := Lib.hid hN2
  clear hN2 hT2
  go_wp2_with fail
  refine (twice_live w.heap.size v2 _ 0 _ HN2.out).mono ?_
  rintro e w3 ⟨v3, rfl, hN3, hT3⟩
  rw [al2.2] at hN3
  rw [al2.1]
  have hB3 := hB2.trans (hT3.below (Nat.le_refl _) hv2 (Nat.le_of_lt HN2.out.lt))
  have hv3 := hT3.low hv2 (Nat.le_of_lt HN2.out.lt)
  have HN3 := Lib.hid hN3
  clear hN3 hT3 hB2 hv2
  go_wp2_with fail
  refine (take_live w.heap.size v3 _ 1 _ HN3.out).mono ?_
  rintro e w4 ⟨v4, rfl, hN4, hT4⟩
  rw [al3.2.2] at hN4
  rw [al3.1, al3.2.1]
  have hB4 := hB3.trans (hT4.below (Nat.le_refl _) hv3 (Nat.le_of_lt HN3.out.lt))
  have HN4 := Lib.hid hN4
  clear hN4 hT4 hB3 hv3
  go_wp2_with fail
  refine (all_live w.heap.size v4 _ _ (HN4.out.keep ((Below.refl _ _).alloc (Nat.le_refl _) _))).mono ?_
  rintro e w5 ⟨v5, rfl, hown, hb5⟩
  have blkx := (hb5.block w4.heap.size (by simp)).trans (heap_alloc_new w4 _)
  have HN5 := Lib.hid ((HN4.out.keep ((Below.refl _ _).alloc (Nat.le_refl _) _)).keep hb5)
  have hB5 := (hB4.alloc hB4.size _).trans (hb5.mono (by have := hB4.size; simp; omega))
  obtain ⟨g, cap, rfl, hcap, hg⟩ := own_at (T := 24) (l := [la, la]) (Or.inl (ownsRow_down hown)) (by simp)
  have hc := (ownsRow_rd hown).cells.2
  have c1 : w5.cell? ⟨g, 1, none⟩ = some (.string ⟨#[97]⟩) := by have := hc 1 (.string ⟨#[97]⟩) rfl; simpa using this
  have c3 : w5.cell? ⟨g, 3, none⟩ = some (.string ⟨#[97]⟩) := by have := hc 3 (.string ⟨#[97]⟩) rfl; simpa using this
  have x1 : w5.cell? ⟨w4.heap.size, 1, none⟩ = some (.string ⟨#[98]⟩) := by rw [cell_of_row w5 _ 1 _ _ _ blkx]; rfl
  clear hc hown blkx hb5
  simp only [List.length_cons, List.length_nil] at hcap
  go_wp2_with fail
  refine (first_live w.heap.size v4 _ 1 _ HN5.out).mono ?_
  rintro e w6 ⟨rfl, hb6⟩
  rw [al4]
  go_wp2
  exact HR.out _ _ ⟨rfl, hB5.trans (hb6.mono hB5.size)⟩

end Go.Proofs.Ytpdnjhofmngfdaa
