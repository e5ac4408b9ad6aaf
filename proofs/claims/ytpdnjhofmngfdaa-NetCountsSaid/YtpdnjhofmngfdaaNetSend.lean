/- Letters sent, and one doubled. -/
import Derived.Test.YtpdnjhofmngfdaaNetLow
import Derived.Test.YtpdnjhofmngfdaaNetTurn
namespace Go.Proofs.Ytpdnjhofmngfdaa
open Go.RowKit Ks
set_option linter.unusedVariables false

set_option maxHeartbeats 1000000 in
theorem send_live (n : Nat) (v lv : Value) (L l : List Let) (w : World) (h : NetAt w 45 24 n v L) (hl : RdL w lv l) (hlen : l.length ≤ 9223372036854775807) :
    Calls Try.prog 10 #[.pointer (some ⟨n, 0, none⟩), lv] w fun e w' => ∃ v', e = .returned (.int .i64 (sendE L l)) ∧ NetAt w' 45 24 n v' (sendL L l) ∧ Turn w w' n v v' := by
  refine calls_by fun R HR => ?_
  obtain ⟨i0, hi, hz0, hz1, hz2⟩ := info_parts Try.infoLetter
  obtain ⟨c0, c1, f0, f1⟩ := h.cells
  have HN := Lib.hid h
  have HL := Lib.hid hl
  have hL := h.len
  have hc := contains_any lv l w hl hlen
  clear h
  go_enter Try.func10, Try.ntmps10
  go_wp2_with fail
  first
  | (refine (contains_any lv l _ (HL.out) hlen).mono ?_)
  | (refine (contains_any lv l _ (HL.out.below (Below.drew (Below.refl _ _))) hlen).mono ?_)
  rintro e w1 ⟨rfl, hb1⟩
  have HN1 := Lib.hid (HN.out.keep (w' := w1) (by first | exact hb1 | exact (Below.drew (Below.refl _ _)).trans hb1))
  have hbb : Below w.heap.size w w1 := by first | exact hb1 | exact (Below.drew (Below.refl _ _)).trans hb1
  have HL1 := Lib.hid (HL.out.below hbb)
  clear hc c0 c1 f0 f1 hl hb1
  by_cases hbad : l.any badL = true
  · rw [hbad]
    have q : sendE L l = 2 := by rw [sendE, if_pos hbad]
    have Q := Lib.hid q
    clear hbad q
    go_wp2
    refine HR.out _ _ ⟨v, by rw [Q.out]; try rfl, by rw [sendL, Q.out]; exact HN1.out, Turn.of_below hbb⟩
  have hbad2 : l.any badL = false := by simpa using hbad
  rw [hbad2]
  clear hbad2
  obtain ⟨c0, c1, f0, f1⟩ := HN1.out.cells
  obtain ⟨a, cap, hv, hcap⟩ := own_shape HN1.out.own
  obtain ⟨b, c2, hlv, hc2, _⟩ := id HL1.out
  subst hv hlv
  by_cases hfull : 64 < L.length + l.length
  · have Q := Lib.hid (show sendE L l = 5 by rw [sendE, if_neg hbad, if_pos hfull])
    clear hbad
    go_wp2
    refine HR.out _ _ ⟨_, by rw [Q.out]; try rfl, by rw [sendL, Q.out]; exact HN1.out, Turn.of_below hbb⟩
  · have Q := Lib.hid (show sendE L l = 0 by rw [sendE, if_neg hbad, if_neg hfull])
    clear hbad
    have hlt := HN1.out.lt
    go_wp2_with (at_builtin; refine wpList_append_net _ rfl _ _ 29 rfl 24 i0 _ 24 Try.underlying29 hi hz0 hz1 hz2 rfl _ _ L l rfl rfl HN1.out.own HL1.out (by omega) (by decide) ?_)
    intro v' w2 ho hg hor
    have hb2 : w2.heap[n]? = some (.cells #[.bool true, .slice a L.length cap] 45 (0, 0)) := (hg.block n hlt (fun e => HN1.out.ne e.symm)).trans HN1.out.blk
    have d1 : w2.cell? ⟨n, 1, none⟩ = some (.slice a L.length cap) := by rw [cell_of_row w2 n 1 _ _ _ hb2]; rfl
    have e1 : w2.frozen? ⟨n, 1, none⟩ = false := frozen_of_row w2 n 1 _ _ hb2
    have T2 := Lib.hid (turned HN1.out ho hg hor (by rw [List.length_append]; omega))
    obtain ⟨a', q', cap', hv'⟩ := own_any ho
    subst hv'
    clear ho hg hor hb2 c0 c1 f0 f1
    go_wp2
    refine HR.out _ _ ⟨_, by rw [Q.out]; try rfl, by rw [sendL, if_pos Q.out]; exact T2.out.1, T2.out.2.after hbb⟩

theorem send_dead (nv lv : Value) (w : World) (h : DeadAt w 45 nv) :
    Calls Try.prog 10 #[nv, lv] w fun e w' => e = .returned (.int .i64 1) ∧ Below w.heap.size w w' := by
  refine calls_by fun R HR => ?_
  rcases h with rfl | ⟨n, rfl, h⟩
  · go_enter Try.func10, Try.ntmps10
    go_wp2
    exact HR.out _ _ ⟨rfl, by first | exact Below.refl _ _ | exact (Below.refl _ _).drew⟩
  · have c0 : w.cell? ⟨n, 0, none⟩ = some (.bool false) := by rw [cell_of_row w n 0 _ _ _ h]; rfl
    clear h
    go_enter Try.func10, Try.ntmps10
    go_wp2
    exact HR.out _ _ ⟨rfl, by first | exact Below.refl _ _ | exact (Below.refl _ _).drew⟩

def atE (L : List Let) (i : Int) : Int := if i < 0 ∨ (L.length : Int) ≤ i then 7 else 0
def twiceE (L : List Let) (i : Int) : Int := if atE L i = 7 then 7 else sendE L [L.getD i.toNat (0, ⟨#[]⟩)]
def twiceL (L : List Let) (i : Int) : List Let := if twiceE L i = 0 then L ++ [L.getD i.toNat (0, ⟨#[]⟩)] else L

set_option maxHeartbeats 1000000 in
theorem twice_live (n : Nat) (v : Value) (L : List Let) (i : Int) (w : World) (h : NetAt w 45 24 n v L) :
    Calls Try.prog 11 #[.pointer (some ⟨n, 0, none⟩), .int .i64 i] w fun e w' => ∃ v', e = .returned (.int .i64 (twiceE L i)) ∧ NetAt w' 45 24 n v' (twiceL L i) ∧ Turn w w' n v v' := by
  refine calls_by fun R HR => ?_
  have HN := Lib.hid h
  go_enter Try.func11, Try.ntmps11
  go_wp2_with fail
  refine (at_live n v L i _ h).mono ?_
  rintro e w1 ⟨rfl, hb1⟩
  clear h
  have HN1 := Lib.hid (HN.out.keep hb1)
  by_cases ha : i < 0 ∨ (L.length : Int) ≤ i
  · rw [if_pos ha]
    have q : twiceE L i = 7 := by rw [twiceE, atE, if_pos ha, if_pos rfl]
    have Q := Lib.hid q
    clear q ha
    go_wp2
    refine HR.out _ _ ⟨v, by rw [Q.out]; try rfl, by rw [twiceL, Q.out]; exact HN1.out, Turn.of_below hb1⟩
  · rw [if_neg ha]
    obtain ⟨k, hk⟩ : ∃ k : Nat, i = k := ⟨i.toNat, by omega⟩
    subst hk
    have hkl : k < L.length := by omega
    have hklI : (k : Int) < (L.length : Int) := by omega
    obtain ⟨x, hx⟩ : ∃ x, L[k]? = some x := ⟨_, List.getElem?_eq_getElem hkl⟩
    have hg : L.getD ((k : Int)).toNat (0, ⟨#[]⟩) = x := by simp [List.getD, hx]
    have Qe := Lib.hid (show twiceE L k = sendE L [x] by rw [twiceE, atE, if_neg ha, if_neg (by decide), hg])
    have QL := Lib.hid (show twiceL L k = sendL L [x] by rw [twiceL, sendL, Qe.out, hg])
    obtain ⟨c0, c1, f0, f1⟩ := HN1.out.cells
    obtain ⟨a, cap, hv, hcap, hnn, hh⟩ := HN1.out.own.rd
    obtain ⟨b, o, ha', hbl, d1, d2⟩ := hh k x hx
    subst hv ha'
    clear hh hnn ha hg hx
    obtain ⟨xt, xs⟩ := x
    simp only at d1 d2
    go_wp2_with fail
    refine (send_live n _ _ L [(xt, xs)] _ (HN1.out.keep ?b1) ?b2 (by simp)).mono ?_
    case b1 => exact (Below.refl _ _).alloc (Nat.le_refl _) _
    case b2 => exact RdL.one (heap_alloc_new w1 _)
    rintro e w3 ⟨v', rfl, hN3, hT3⟩
    have HN3 := Lib.hid hN3
    have HT3 := Lib.hid hT3
    clear hN3 hT3
    go_wp2
    refine HR.out _ _ ⟨v', by rw [Qe.out]; try rfl, by rw [QL.out]; exact HN3.out, (Turn.after (hb1.trans (((Below.refl w1.heap.size w1).alloc (Nat.le_refl _) _).mono hb1.size)) HT3.out)⟩

theorem twice_dead (nv : Value) (i : Int) (w : World) (h : DeadAt w 45 nv) :
    Calls Try.prog 11 #[nv, .int .i64 i] w fun e w' => e = .returned (.int .i64 1) ∧ Below w.heap.size w w' := by
  refine calls_by fun R HR => ?_
  go_enter Try.func11, Try.ntmps11
  go_wp2_with fail
  refine (at_dead nv i _ h).mono ?_
  rintro e w1 ⟨rfl, hb1⟩
  go_wp2
  exact HR.out _ _ ⟨rfl, hb1⟩

theorem len_live (n : Nat) (v : Value) (L : List Let) (w : World) (h : NetAt w 45 24 n v L) :
    Calls Try.prog 15 #[.pointer (some ⟨n, 0, none⟩)] w fun e w' => e = .returned (.int .i64 L.length) ∧ Below w.heap.size w w' := by
  refine calls_by fun R HR => ?_
  have HN := Lib.hid h
  go_enter Try.func15, Try.ntmps15
  go_wp2_with fail
  refine (all_live n v L _ h).mono ?_
  rintro e w1 ⟨v', rfl, hown, hb1⟩
  obtain ⟨a, cap, rfl, _⟩ := ownsRow_rd hown
  clear hown h
  go_wp2
  exact HR.out _ _ ⟨rfl, hb1⟩
theorem len_dead (nv : Value) (w : World) (h : DeadAt w 45 nv) :
    Calls Try.prog 15 #[nv] w fun e w' => e = .returned (.int .i64 0) ∧ Below w.heap.size w w' := by
  refine calls_by fun R HR => ?_
  go_enter Try.func15, Try.ntmps15
  go_wp2_with fail
  refine (all_dead nv _ h).mono ?_
  rintro e w1 ⟨rfl, hb1⟩
  go_wp2
  exact HR.out _ _ ⟨rfl, hb1⟩

set_option maxHeartbeats 1000000 in
theorem first_live (n : Nat) (v : Value) (L : List Let) (to : Int) (w : World) (h : NetAt w 45 24 n v L) :
    Calls Try.prog 16 #[.pointer (some ⟨n, 0, none⟩), .int .i64 to] w fun e w' => e = .returned (.int .i64 (idxL (fun x => x.1 == to) L)) ∧ Below w.heap.size w w' := by
  refine calls_by fun R HR => ?_
  have hmf : ∀ (fn : Fn) (first cap : Array Value) (w : World), (Instr.makeFunc fn first cap).run Try.prog w = .ok (.func fn first cap) w := fun _ _ _ _ => rfl
  have hA : Below w.heap.size w (w.alloc (.cells #[.int .i64 to] 3)) := (Below.refl _ _).alloc (Nat.le_refl _) _
  have HN := Lib.hid (h.keep hA)
  have hlen := h.len
  clear h
  go_enter Try.func16, Try.ntmps16
  go_wp2_with fail
  refine (all_live n v L _ HN.out).mono ?_
  rintro e w1 ⟨v', rfl, hown, hb1⟩
  have hblk := (hb1.block w.heap.size (by simp)).trans (heap_alloc_new w _)
  have hbb := hA.trans (hb1.mono (by simp))
  have hz : w.heap.size < w1.heap.size := by have := hb1.size; simp at this; omega
  have hrd := ownsRow_rd hown
  clear hown hb1 hA
  have hc : w1.cell? ⟨w.heap.size, 0, none⟩ = some (.int .i64 to) := by rw [cell_of_row w1 _ 0 _ _ _ hblk]; rfl
  go_wp2_with fail
  refine (index_any 23 #[.pointer (some ⟨w.heap.size, 0, none⟩)] (fun _ _ => rfl) (fun x => x.1 == to) v' L _ hrd (by omega) fun x w' hb' => to_any x.1 x.2 w.heap.size to w' ((hb'.cell (p := ⟨w.heap.size, 0, none⟩) hz).trans hc)).mono ?_
  rintro e w2 ⟨rfl, hb2⟩
  generalize idxL (fun x => x.1 == to) L = q at *
  clear hrd hc hblk
  go_wp2
  exact HR.out _ _ ⟨rfl, hbb.trans (hb2.mono hbb.size)⟩

set_option maxHeartbeats 1000000 in
theorem first_dead (nv : Value) (to : Int) (w : World) (h : DeadAt w 45 nv) :
    Calls Try.prog 16 #[nv, .int .i64 to] w fun e w' => e = .returned (.int .i64 (-1)) ∧ Below w.heap.size w w' := by
  refine calls_by fun R HR => ?_
  have hmf : ∀ (fn : Fn) (first cap : Array Value) (w : World), (Instr.makeFunc fn first cap).run Try.prog w = .ok (.func fn first cap) w := fun _ _ _ _ => rfl
  have hA : Below w.heap.size w (w.alloc (.cells #[.int .i64 to] 3)) := (Below.refl _ _).alloc (Nat.le_refl _) _
  have HN := Lib.hid (h.keep hA)
  clear h
  go_enter Try.func16, Try.ntmps16
  go_wp2_with fail
  refine (all_dead nv _ HN.out).mono ?_
  rintro e w1 ⟨rfl, hb1⟩
  have hblk := (hb1.block w.heap.size (by simp)).trans (heap_alloc_new w _)
  have hbb := hA.trans (hb1.mono (by simp))
  have hz : w.heap.size < w1.heap.size := by have := hb1.size; simp at this; omega
  clear hb1 hA
  have hc : w1.cell? ⟨w.heap.size, 0, none⟩ = some (.int .i64 to) := by rw [cell_of_row w1 _ 0 _ _ _ hblk]; rfl
  go_wp2_with fail
  refine (index_any 23 #[.pointer (some ⟨w.heap.size, 0, none⟩)] (fun _ _ => rfl) (fun x => x.1 == to) _ [] _ (RdL.nil w1) (by simp) fun x w' hb' => to_any x.1 x.2 w.heap.size to w' ((hb'.cell (p := ⟨w.heap.size, 0, none⟩) hz).trans hc)).mono ?_
  rintro e w2 ⟨rfl, hb2⟩
  rw [idxL]
  clear hc hblk
  go_wp2
  exact HR.out _ _ ⟨rfl, hbb.trans (hb2.mono hbb.size)⟩

end Go.Proofs.Ytpdnjhofmngfdaa
