/- The index: its readers, and Add. -/
import Derived.Test.YthhncdcmjejlmaaIdxLow
import Derived.Test.YthhncdcmjejlmaaIdxSort
import Derived.Test.YthhncdcmjejlmaaIdxSearch2
import Derived.Test.YthhncdcmjejlmaaIdxInsert
import Derived.Test.YthhncdcmjejlmaaSeqObj
import Derived.Lib.SliceRun
import Derived.WalkSpells
import Derived.Deep.RegionHeld3
import Derived.Deep.DeepCutAuto
import Derived.StillTailTactics
import Derived.Deep.RegionWith
namespace Ks
open Go Go.RowKit
/-- an index that has versions -/
structure IdxAt (w : World) (TX TV : TypeId) (n : Nat) (v : Value) (L : List Ver) : Prop where
  held : Held verE w TX TV n v L
  sorted : Sorted L
  good : ∀ x ∈ L, mayV x = true
theorem IdxAt.keep {w w' : World} {TX TV : TypeId} {n : Nat} {v : Value} {L : List Ver} (h : IdxAt w TX TV n v L) (hb : Below w.heap.size w w') : IdxAt w' TX TV n v L := ⟨h.held.keep hb, h.sorted, h.good⟩
end Ks
namespace Go.Proofs.Ythhncdcmjejlmaa
open Go.RowKit Ks
set_option linter.unusedVariables false

theorem there_live (n : Nat) (v : Value) (w : World) (h : w.heap[n]? = some (.cells #[.bool true, v] 46 (0, 0))) :
    Calls Try.prog 24 #[.pointer (some ⟨n, 0, none⟩)] w fun e w' => e = .returned (.bool true) ∧ w' = w := by
  refine calls_by fun R HR => ?_
  obtain ⟨c0, c1, f0, f1⟩ := blk2 h
  clear h
  go_enter Try.func24, Try.ntmps24
  go_wp2
  exact HR.out _ _ ⟨rfl, rfl⟩
theorem there_dead (nv : Value) (w : World) (h : Dead w 46 nv) :
    Calls Try.prog 24 #[nv] w fun e w' => e = .returned (.bool false) ∧ w' = w := by
  refine calls_by fun R HR => ?_
  rcases h with rfl | ⟨n, rfl, h⟩
  · go_enter Try.func24, Try.ntmps24
    go_wp2
    exact HR.out _ _ ⟨rfl, rfl⟩
  · obtain ⟨c0, c1, f0, f1⟩ := blk2 h
    clear h
    go_enter Try.func24, Try.ntmps24
    go_wp2
    exact HR.out _ _ ⟨rfl, rfl⟩

theorem new_any (w : World) : Calls Try.prog 12 #[] w fun e w' => e = .returned (.pointer (some ⟨w.heap.size, 0, none⟩)) ∧ w' = w.alloc (.cells #[.bool true, .slice none 0 0] 46) := by
  refine calls_by fun R HR => ?_
  go_enter Try.func12, Try.ntmps12
  go_wp2
  exact HR.out _ _ ⟨rfl, rfl⟩

set_option maxHeartbeats 1000000 in
theorem clone_any (lv : Value) (l : List Ver) (w : World) (hl : Rd verE w lv l) (hlen : l.length ≤ 1000000) :
    Calls Try.prog 30 #[lv] w fun e w' => ∃ v', e = .returned v' ∧ Row verE w' w.heap.size 27 v' l ∧ Below w.heap.size w w' := by
  refine calls_by fun R HR => ?_
  have HL := Lib.hid hl
  have q22 : ∀ (w : World) (a : Option Addr) (n c n' c' : Nat), (binOp .eql 22 (.slice a n c) (.slice none n' c')).run Try.prog w = .ok (.bool a.isNone) w := fun w a n c n' c' => Lib.run_eql_slice_nil w _ _ a n c n' c' Try.underlying22
  obtain ⟨a, cap, rfl, hcap, hnone⟩ := hl.shape
  cases a with
  | none =>
    have hc0 := hnone rfl
    have : l = [] := List.length_eq_zero_iff.1 (by omega)
    subst this
    clear hnone hl
    subst hc0
    go_enter Try.func30, Try.ntmps30
    go_wp2
    exact HR.out _ _ ⟨_, rfl, Row.nil _ _ _, Below.refl _ _⟩
  | some ad =>
    clear hnone hl
    obtain ⟨W1, hW1⟩ : ∃ W1, w.alloc (.cells #[] 27) = W1 := ⟨_, rfl⟩
    have hb1 : Below w.heap.size w W1 := by rw [← hW1]; exact alloc_below w _
    have hrow : Row verE W1 w.heap.size 27 (.slice (some ⟨w.heap.size, 0, none⟩) 0 0) [] := by rw [← hW1]; exact Row.made w _ _ (Nat.le_refl _)
    have H1 := Lib.hid (And.intro hb1 (And.intro hrow (HL.out.below hb1)))
    clear hb1 hrow
    go_enter Try.func30, Try.ntmps30
    go_wp2_with (at_builtin; refine wpList_append_row _ rfl _ _ 22 rfl verT w.heap.size _ _ [] l rfl rfl H1.out.2.1 H1.out.2.2 H1.out.1.size (by simp; omega) (by decide) ?_)
    intro v' w2 hG
    have HG := Lib.hid hG
    clear hG
    go_wp2
    exact HR.out _ _ ⟨v', rfl, HG.out.1, HG.out.below H1.out.1 H1.out.1.size (fun b hb => by simp [Value.ownBlock] at hb; omega)⟩

theorem all_live (n : Nat) (v : Value) (L : List Ver) (w : World) (h : IdxAt w 46 27 n v L) (hlen : L.length ≤ 1000000) :
    Calls Try.prog 15 #[.pointer (some ⟨n, 0, none⟩)] w fun e w' => ∃ v', e = .returned v' ∧ Row verE w' w.heap.size 27 v' L ∧ Below w.heap.size w w' := by
  refine calls_by fun R HR => ?_
  have HI := Lib.hid h
  clear h
  go_enter Try.func15, Try.ntmps15
  go_wp2_with fail
  refine (there_live n v _ HI.out.held.blk).mono ?_
  rintro e w1 ⟨rfl, rfl⟩
  obtain ⟨c0, c1, f0, f1⟩ := HI.out.held.cells
  go_wp2_with fail
  refine (clone_any v L _ HI.out.held.own.rd hlen).mono ?_
  rintro e w2 ⟨v', rfl, hr, hb⟩
  have HRR := Lib.hid hr
  clear hr
  go_wp2
  exact HR.out _ _ ⟨v', rfl, HRR.out, hb⟩
theorem all_dead (nv : Value) (w : World) (h : Dead w 46 nv) :
    Calls Try.prog 15 #[nv] w fun e w' => e = .returned (.slice none 0 0) ∧ w' = w := by
  refine calls_by fun R HR => ?_
  go_enter Try.func15, Try.ntmps15
  go_wp2_with fail
  refine (there_dead nv _ h).mono ?_
  rintro e w1 ⟨rfl, rfl⟩
  clear h
  go_wp2
  exact HR.out _ _ ⟨rfl, rfl⟩

theorem copy_live (n : Nat) (v : Value) (L : List Ver) (w : World) (h : IdxAt w 46 27 n v L) (hlen : L.length ≤ 1000000) :
    Calls Try.prog 14 #[.pointer (some ⟨n, 0, none⟩)] w fun e w' => ∃ n' v', e = .returned (.pointer (some ⟨n', 0, none⟩)) ∧ IdxAt w' 46 27 n' v' L ∧ w.heap.size ≤ n' ∧ (∀ b, v'.ownBlock = some b → w.heap.size ≤ b) ∧ Below w.heap.size w w' := by
  refine calls_by fun R HR => ?_
  have HI := Lib.hid h
  clear h
  go_enter Try.func14, Try.ntmps14
  go_wp2_with fail
  refine (there_live n v _ HI.out.held.blk).mono ?_
  rintro e w1 ⟨rfl, rfl⟩
  go_wp2_with fail
  refine (all_live n v L _ HI.out hlen).mono ?_
  rintro e w2 ⟨v', rfl, hr, hb⟩
  have HRR := Lib.hid hr
  obtain ⟨a', cap', hv', -⟩ := hr.shape
  subst hv'
  clear hr
  go_wp2
  have hA := alloc_below w2 (.cells #[.bool true, .slice a' L.length cap'] 46)
  refine HR.out _ _ ⟨w2.heap.size, _, rfl, ⟨⟨alloc_new w2 _, (HRR.out.below hA).down (Nat.zero_le _), fun e => by have := (HRR.out.lt e).2; omega⟩, HI.out.sorted, HI.out.good⟩, hb.size, fun b e => (HRR.out.lt e).1, hb.alloc hb.size _⟩
theorem copy_dead (nv : Value) (w : World) (h : Dead w 46 nv) :
    Calls Try.prog 14 #[nv] w fun e w' => e = .returned (.pointer none) ∧ w' = w := by
  refine calls_by fun R HR => ?_
  go_enter Try.func14, Try.ntmps14
  go_wp2_with fail
  refine (there_dead nv _ h).mono ?_
  rintro e w1 ⟨rfl, rfl⟩
  clear h
  go_wp2
  exact HR.out _ _ ⟨rfl, rfl⟩

set_option maxHeartbeats 2000000 in
theorem add_live (n : Nat) (v : Value) (L : List Ver) (x : Ver) (w : World) (h : IdxAt w 46 27 n v L) (hlen : L.length ≤ 900000) :
    Calls Try.prog 13 #[.pointer (some ⟨n, 0, none⟩), verV x] w fun e w' => ∃ v', e = .returned (.int .i64 (addE L x)) ∧ IdxAt w' 46 27 n v' (addL L x) ∧ Turned w w' n v v' := by
  refine calls_by fun R HR => ?_
  obtain ⟨a, b, c⟩ := x
  have hA := alloc_below w (.cells #[.int .i64 a, .int .i64 b, .int .i64 c] 27)
  have kX := alloc_new w (.cells #[.int .i64 a, .int .i64 b, .int .i64 c] 27)
  have hI := h.keep hA
  obtain ⟨W1, hW1⟩ : ∃ W1, w.alloc (.cells #[.int .i64 a, .int .i64 b, .int .i64 c] 27) = W1 := ⟨_, rfl⟩
  rw [hW1] at hA kX hI
  have HI := Lib.hid hI
  have HA := Lib.hid (And.intro hA kX)
  have hnx : v.ownBlock ≠ some w.heap.size := fun e => by have := (h.held.own.lt e).2; omega
  have HNX := Lib.hid (And.intro hnx h.held.lt)
  obtain ⟨x0, x1, x2, -, -, -⟩ := blk3 kX
  clear h hI hA kX hnx
  go_enter Try.func13, Try.ntmps13
  go_wp2_with fail
  refine (there_live n v _ HI.out.held.blk).mono ?_
  rintro e w1 ⟨rfl, rfl⟩
  go_wp2_with fail
  refine (may_any (a, b, c) _).mono ?_
  rintro e w2 ⟨rfl, hb2⟩
  have kX2 := (hb2.block _ (lt_of_block HA.out.2)).trans HA.out.2
  have HI2 := Lib.hid (HI.out.keep hb2)
  have hB2 := HA.out.1.trans (hb2.mono HA.out.1.size)
  clear x0 x1 x2
  cases hm : mayV (a, b, c)
  case false =>
    have Q := Lib.hid (show addE L (a, b, c) = 2 by rw [addE, hm]; rfl)
    have QL := Lib.hid (show addL L (a, b, c) = L by rw [addL, Q.out, if_neg (by decide)])
    clear hm hW1
    go_wp2
    exact HR.out _ _ ⟨v, by rw [Q.out]; try rfl, by rw [QL.out]; exact HI2.out, Turned.of_below hB2⟩
  case true =>
    have HM := Lib.hid hm
    clear hm hW1
    obtain ⟨x0, x1, x2, -, -, -⟩ := blk3 kX2
    obtain ⟨c0, c1, -, -⟩ := HI2.out.held.cells
    obtain ⟨p, hp⟩ : ∃ p, aheadV (fun y => decide (ltV y (a, b, c))) L = p := ⟨_, rfl⟩
    obtain ⟨mt, hmt⟩ : ∃ mt, decide ((a, b, c) ∈ L) = mt := ⟨_, rfl⟩
    have hsearch : ∀ w', Below w2.heap.size w2 w' → Calls Try.prog 27 #[v, verV (a, b, c), .func (.func 28) #[] #[]] w' fun e w'' => e = .returned (.tuple #[.int .i64 p, .bool mt]) ∧ Below w'.heap.size w' w'' := fun w' hb' => by
      have hs := search_any 28 #[] (fun _ _ => rfl) (fun y => ordV y (a, b, c)) v (a, b, c) L p w' ((HI2.out.keep hb').held.own.rd) (by omega) (by rw [← hp]; exact aheadV_le _ _)
        (fun i y hi hy => by rw [ordV_lt]; have := aheadV_lt _ L i y (by rw [hp]; exact hi) hy; simpa using this)
        (fun i y hi hy => by rw [ordV_lt]; have := aheadV_ge HI2.out.sorted ltq i y (by rw [hp]; exact hi) hy; simpa using this)
        (fun y w'' _ => order_any y (a, b, c) w'')
      rw [← hp, met_mem HI2.out.sorted, hmt, hp] at hs
      exact hs
    have HS := Lib.hid hsearch
    have HP := Lib.hid (And.intro hp hmt)
    have HK2 := Lib.hid kX2
    clear hsearch hp hmt kX2
    have cP := fun q => HS.out (After w2 q) (after_below w2 q)
    obtain ⟨va, vcap, hv, -⟩ := HI2.out.held.own.shape
    subst hv
    have x0' := after_cell x0
    have x1' := after_cell x1
    have x2' := after_cell x2
    have c0' := after_cell c0
    have c1' := after_cell c1
    have cQ := fun q => calls_after (cP q)
    clear cP
    go_wp2_with fail
    refine wp_region_after (by kernel_rfl) (by kernel_rfl) ?_
    repeat (quiet_step (exact cQ _))
    refine wpQuiet_nil ?_
    rintro w3 ⟨q, rfl⟩
    have hb3 := after_below w2 q
    generalize After w2 q = w3 at *
    clear x0' x1' x2' c0' c1' cQ x0 x1 x2 c0 c1 HS
    have HI3 := Lib.hid (HI2.out.keep hb3)
    have hB3 := hB2.trans (hb3.mono hB2.size)
    have kX3 := (hb3.block _ (lt_of_block HK2.out)).trans HK2.out
    have HK3 := Lib.hid kX3
    obtain ⟨x0, x1, x2, -, -, -⟩ := blk3 kX3
    obtain ⟨c0, c1, f0, f1⟩ := HI3.out.held.cells
    clear kX3 hb3
    cases mt
    case true =>
      have hmem : (a, b, c) ∈ L := by have := HP.out.2; simpa using this
      have Q := Lib.hid (show addE L (a, b, c) = 19 by rw [addE, if_pos HM.out, if_pos hmem])
      have QL := Lib.hid (show addL L (a, b, c) = L by rw [addL, Q.out, if_neg (by decide)])
      clear hmem
      go_wp2
      exact HR.out _ _ ⟨_, by rw [Q.out]; try rfl, by rw [QL.out]; exact HI3.out, Turned.of_below hB3⟩
    case false =>
      have hmem : ¬ (a, b, c) ∈ L := by have := HP.out.2; simpa using this
      have Q := Lib.hid (show addE L (a, b, c) = 0 by rw [addE, if_pos HM.out, if_neg hmem])
      have QL := Lib.hid (show addL L (a, b, c) = L.take p ++ (a, b, c) :: L.drop p by rw [addL, Q.out, if_pos rfl, insV, HP.out.1])
      clear hmem
      obtain ⟨W4, hW4⟩ : ∃ W4, w3.drew.alloc (.cells #[.int .i64 a, .int .i64 b, .int .i64 c] 27) = W4 := ⟨_, rfl⟩
      have hb4 : Below w3.heap.size w3 W4 := by rw [← hW4]; exact (drew_below w3).alloc (by simp) _
      have k4 : W4.heap[w3.heap.size]? = some (.cells #[.int .i64 a, .int .i64 b, .int .i64 c] 27 (0, 0)) := by rw [← hW4]; exact alloc_new w3.drew _
      have HI4 := Lib.hid (HI3.out.keep hb4)
      have hB4 := hB3.trans (hb4.mono hB3.size)
      have hne4 : (Value.slice va L.length vcap).ownBlock ≠ some w3.heap.size := fun e => by have := (HI3.out.held.own.lt e).2; omega
      have hpl : p ≤ L.length := by rw [← HP.out.1]; exact aheadV_le _ _
      have HC := Lib.hid (insert_any _ L p (a, b, c) w3.heap.size W4 HI4.out.held.own hpl (by omega) k4 hne4)
      have hNV : (Value.slice va L.length vcap).ownBlock ≠ some n := HI4.out.held.ne
      have HNV := Lib.hid hNV
      obtain ⟨u0, u1, v0, v1⟩ := HI4.out.held.cells
      clear hb4 k4 hne4 hNV
      go_wp2_with fail
      go_region_with (go_at_call 29; refine HC.out.mono ?_; rintro e w5 ⟨v', rfl, hG⟩; have HST := Lib.hid (HI4.out.held.store hG); obtain ⟨d0, d1, g0, g1⟩ := blk2 (hG.block HI4.out.held.blk HNV.out); obtain ⟨va', vq', vcap', hv'⟩ := Row.any hG.1; subst hv'; clear hG)
      all_goals
        go_wp2
        refine HR.out _ _ ⟨_, by rw [Q.out]; try rfl, ⟨by rw [QL.out]; exact HST.out.1, addL_sorted HI3.out.sorted _, fun y hy => ?_⟩, HST.out.2.after hB4⟩
        rcases (addL_mem (a, b, c) y).1 hy with ⟨rfl, h⟩ | h
        · exact h
        · exact HI3.out.good y h

theorem add_dead (nv : Value) (x : Ver) (w : World) (h : Dead w 46 nv) :
    Calls Try.prog 13 #[nv, verV x] w fun e w' => e = .returned (.int .i64 1) ∧ Below w.heap.size w w' := by
  refine calls_by fun R HR => ?_
  obtain ⟨a, b, c⟩ := x
  have hA := alloc_below w (.cells #[.int .i64 a, .int .i64 b, .int .i64 c] 27)
  have HD := Lib.hid (h.keep hA)
  have HA := Lib.hid hA
  clear h hA
  go_enter Try.func13, Try.ntmps13
  go_wp2_with fail
  refine (there_dead nv _ HD.out).mono ?_
  rintro e w1 ⟨rfl, rfl⟩
  go_wp2
  exact HR.out _ _ ⟨rfl, HA.out⟩

end Go.Proofs.Ythhncdcmjejlmaa
