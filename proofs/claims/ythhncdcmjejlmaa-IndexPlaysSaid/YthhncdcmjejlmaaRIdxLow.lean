/- The document's answer about versions: one in a row, rows compared. -/
import Derived.Test.YthhncdcmjejlmaaProg
import Derived.Test.YthhncdcmjejlmaaIdxEpoch
import Derived.Deep.LoopGhost
import Derived.Deep.QuietTactic
import Derived.BigQuiet
namespace Ks
open Go Go.RowKit
def eqV (x y : Ver) : Bool := decide (x = y)
end Ks
namespace Go.Proofs.Ythhncdcmjejlmaa
open Go.RowKit Ks
set_option linter.unusedVariables false

theorem eqv_run (w : World) (a b c a' b' c' : Int) : (binOp .eql 27 (.agg #[.int .i64 a, .int .i64 b, .int .i64 c]) (.agg #[.int .i64 a', .int .i64 b', .int .i64 c'])).run Try.prog w = .ok (.bool (eqV (a, b, c) (a', b', c'))) w := by
  go_simp
  by_cases h1 : a = a' <;> by_cases h2 : b = b' <;> by_cases h3 : c = c' <;> simp [eqV, h1, h2, h3]
theorem nev_run (w : World) (a b c a' b' c' : Int) : (binOp .neq 27 (.agg #[.int .i64 a, .int .i64 b, .int .i64 c]) (.agg #[.int .i64 a', .int .i64 b', .int .i64 c'])).run Try.prog w = .ok (.bool (!eqV (a, b, c) (a', b', c'))) w := by
  go_simp
  by_cases h1 : a = a' <;> by_cases h2 : b = b' <;> by_cases h3 : c = c' <;> simp [eqV, h1, h2, h3]

set_option maxHeartbeats 1000000 in
theorem same_any (va vb : Value) (la lb : List Ver) (w : World) (ha : Rd verE w va la) (hb : Rd verE w vb lb) (hla : la.length ≤ 1000000) (hlb : lb.length ≤ 1000000) :
    Calls Try.prog 16 #[va, vb] w fun e w' => e = .returned (.bool (decide (la = lb))) ∧ Below w.heap.size w w' := by
  refine calls_by fun R HR => ?_
  have hne := nev_run
  have HA := Lib.hid ha
  have HB := Lib.hid hb
  obtain ⟨aa, ca, hva, -⟩ := ha.shape
  obtain ⟨ab, cb, hvb, -⟩ := hb.shape
  subst hva hvb
  clear ha hb
  by_cases hlen : la.length = lb.length
  · have hlb2 : ((la.length : Int) != (lb.length : Int)) = false := by simp [hlen]
    have HLEN := Lib.hid hlen
    clear hlen
    go_enter Try.func16, Try.ntmps16
    go_wp2
    go_loopg [5] la.length (fun g i wr => ∃ (k : Nat), k + g = la.length ∧ i = .int .i64 k ∧ Hid (la.take k = lb.take k) ∧ Below w.heap.size w wr)
    case atStart => exact ⟨0, by omega, rfl, Lib.hid rfl, Below.refl _ _⟩
    case round =>
      obtain ⟨k, hk, rfl, ht, hbel⟩ := hrel
      by_cases hlt : k < la.length
      · have hlt2 : k < lb.length := by have := HLEN.out; omega
        obtain ⟨x, hx⟩ : ∃ x, la[k]? = some x := ⟨_, List.getElem?_eq_getElem hlt⟩
        obtain ⟨y, hy⟩ : ∃ y, lb[k]? = some y := ⟨_, List.getElem?_eq_getElem hlt2⟩
        obtain ⟨b1, o1, h1, -, d⟩ := (HA.out.below hbel).at k x hx
        obtain ⟨b2, o2, h2, -, e⟩ := (HB.out.below hbel).at k y hy
        subst h1 h2
        have HX := Lib.hid (And.intro hx hy)
        obtain ⟨x1, x2, x3⟩ := x
        obtain ⟨y1, y2, y3⟩ := y
        have d0 : wr.cell? ⟨b1, o1 + k * 3, none⟩ = some (.int .i64 x1) := d 0 _ rfl
        have d1 : wr.cell? ⟨b1, o1 + k * 3 + 1, none⟩ = some (.int .i64 x2) := d 1 _ rfl
        have d2 : wr.cell? ⟨b1, o1 + k * 3 + 2, none⟩ = some (.int .i64 x3) := d 2 _ rfl
        have e0 : wr.cell? ⟨b2, o2 + k * 3, none⟩ = some (.int .i64 y1) := e 0 _ rfl
        have e1 : wr.cell? ⟨b2, o2 + k * 3 + 1, none⟩ = some (.int .i64 y2) := e 1 _ rfl
        have e2 : wr.cell? ⟨b2, o2 + k * 3 + 2, none⟩ = some (.int .i64 y3) := e 2 _ rfl
        have hk0 : (0 : Int) ≤ (k : Int) := by omega
        have hk1 : (k : Int) < (la.length : Int) := by omega
        have hk2 : (k : Int) < (lb.length : Int) := by omega
        clear d e hx hy
        cases he : eqV (x1, x2, x3) (y1, y2, y3)
        case true =>
          have HE := Lib.hid (show (x1, x2, x3) = (y1, y2, y3) by simpa [eqV] using he)
          go_wp2_with fail
          go_quiet (fail)
          go_wp2
          go_roundg (gk - 1)
          case measure => omega
          case rel => exact ⟨k + 1, by omega, by go_num, Lib.hid (by rw [take_snocV la k _ HX.out.1, take_snocV lb k _ HX.out.2, ht.out, HE.out]), below_drewN hbel _⟩
        case false =>
          have HE := Lib.hid (show ¬ la = lb from fun h => by
            have h1 := HX.out.1
            rw [h, HX.out.2] at h1
            cases h1
            simp [eqV] at he)
          go_wp2_with fail
          go_quiet (fail)
          go_wp2
          exact HR.out _ _ ⟨by rw [decide_eq_false HE.out]; try rfl, below_drewN hbel _⟩
      · obtain rfl : k = la.length := by omega
        have HE := Lib.hid (show la = lb by
          have := ht.out
          rw [List.take_length, HLEN.out, List.take_length] at this
          exact this)
        go_wp2
        exact HR.out _ _ ⟨by rw [decide_eq_true HE.out]; try rfl, hbel⟩
  · have hlb2 : ((la.length : Int) != (lb.length : Int)) = true := by simp; omega
    have HE := Lib.hid (show ¬ la = lb from fun h => hlen (by rw [h]))
    clear hlen
    go_enter Try.func16, Try.ntmps16
    go_wp2
    exact HR.out _ _ ⟨by rw [decide_eq_false HE.out]; try rfl, Below.refl _ _⟩

set_option maxHeartbeats 1000000 in
theorem in_any (va : Value) (la : List Ver) (y : Ver) (w : World) (ha : Rd verE w va la) (hla : la.length ≤ 1000000) :
    Calls Try.prog 11 #[va, verV y] w fun e w' => e = .returned (.bool (decide (y ∈ la))) ∧ Below w.heap.size w w' := by
  refine calls_by fun R HR => ?_
  have hqe := eqv_run
  have HA := Lib.hid ha
  obtain ⟨aa, ca, hva, -⟩ := ha.shape
  subst hva
  clear ha
  obtain ⟨y1, y2, y3⟩ := y
  obtain ⟨W1, hW1⟩ : ∃ W1, w.alloc (.cells #[.int .i64 y1, .int .i64 y2, .int .i64 y3] 27) = W1 := ⟨_, rfl⟩
  have hb1 : Below w.heap.size w W1 := by rw [← hW1]; exact alloc_below w _
  have k1 : W1.heap[w.heap.size]? = some (.cells #[.int .i64 y1, .int .i64 y2, .int .i64 y3] 27 (0, 0)) := by rw [← hW1]; exact alloc_new w _
  have H1 := Lib.hid (And.intro hb1 k1)
  clear hb1 k1
  go_enter Try.func11, Try.ntmps11
  go_wp2
  go_loopg [5] la.length (fun g i wr => ∃ (k : Nat), k + g = la.length ∧ i = .int .i64 k ∧ Hid ((y1, y2, y3) ∉ la.take k) ∧ Below W1.heap.size W1 wr)
  case atStart => exact ⟨0, by omega, rfl, Lib.hid (by simp), Below.refl _ _⟩
  case round =>
    obtain ⟨k, hk, rfl, ht, hbel⟩ := hrel
    have hB := H1.out.1.trans (hbel.mono H1.out.1.size)
    by_cases hlt : k < la.length
    · obtain ⟨x, hx⟩ : ∃ x, la[k]? = some x := ⟨_, List.getElem?_eq_getElem hlt⟩
      obtain ⟨b1, o1, h1, -, d⟩ := (HA.out.below hB).at k x hx
      subst h1
      have HX := Lib.hid hx
      have k1 := (hbel.block _ (lt_of_block H1.out.2)).trans H1.out.2
      obtain ⟨e0, e1, e2, -, -, -⟩ := blk3 k1
      obtain ⟨x1, x2, x3⟩ := x
      have d0 : wr.cell? ⟨b1, o1 + k * 3, none⟩ = some (.int .i64 x1) := d 0 _ rfl
      have d1 : wr.cell? ⟨b1, o1 + k * 3 + 1, none⟩ = some (.int .i64 x2) := d 1 _ rfl
      have d2 : wr.cell? ⟨b1, o1 + k * 3 + 2, none⟩ = some (.int .i64 x3) := d 2 _ rfl
      have hk0 : (0 : Int) ≤ (k : Int) := by omega
      have hk1 : (k : Int) < (la.length : Int) := by omega
      clear d hx k1
      cases he : eqV (x1, x2, x3) (y1, y2, y3)
      case true =>
        have HE := Lib.hid (show (y1, y2, y3) ∈ la by
          have h : (x1, x2, x3) = (y1, y2, y3) := by simpa [eqV] using he
          rw [← h]; exact List.mem_of_getElem? HX.out)
        go_wp2_with fail
        go_quiet (fail)
        go_wp2
        exact HR.out _ _ ⟨by rw [decide_eq_true HE.out]; try rfl, below_drewN hB _⟩
      case false =>
        have HE := Lib.hid (show (y1, y2, y3) ∉ la.take (k + 1) from fun h => by
          rw [take_snocV la k _ HX.out] at h
          rcases List.mem_append.1 h with h | h
          · exact ht.out h
          · rw [List.mem_singleton.1 h] at he; simp [eqV] at he)
        go_wp2_with fail
        go_quiet (fail)
        go_wp2
        go_roundg (gk - 1)
        case measure => omega
        case rel => exact ⟨k + 1, by omega, by go_num, HE, below_drewN hbel _⟩
    · obtain rfl : k = la.length := by omega
      have HE := Lib.hid (show (y1, y2, y3) ∉ la by have := ht.out; rwa [List.take_length] at this)
      go_wp2
      exact HR.out _ _ ⟨by rw [decide_eq_false HE.out]; try rfl, hB⟩

end Go.Proofs.Ythhncdcmjejlmaa
