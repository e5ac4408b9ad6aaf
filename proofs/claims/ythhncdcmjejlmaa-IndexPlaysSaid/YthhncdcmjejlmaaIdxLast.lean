/- The index: the newest version as of an epoch, and of one. -/
import Derived.Test.YthhncdcmjejlmaaIdxObj
import Derived.Deep.QuietTactic
import Derived.BigQuiet
namespace Ks
open Go Go.RowKit
set_option linter.unusedVariables false
def lastQ (lba e : Int) (v : Ver) : Bool := decide (v.1 < lba ∨ (v.1 = lba ∧ v.2.1 ≤ e))
def lastO (L : List Ver) (lba e : Int) : Option Ver := if aheadV (lastQ lba e) L = 0 then none else match L[aheadV (lastQ lba e) L - 1]? with
  | some v => if v.1 = lba then some v else none
  | none => none
def getV (o : Option Ver) : Ver := o.getD noVer
theorem lastQ_mono {lba e : Int} (x y : Ver) (h : ltV x y) (hy : lastQ lba e y = true) : lastQ lba e x = true := by
  simp only [lastQ, decide_eq_true_eq] at *
  unfold ltV at h
  omega
theorem lastC_neg (lba e : Int) (v : Ver) : lastC lba e v < 0 ↔ lastQ lba e v = true := by
  simp only [lastQ, decide_eq_true_eq, lastC]
  split <;> simp_all
end Ks
namespace Go.Proofs.Ythhncdcmjejlmaa
open Go.RowKit Ks
set_option linter.unusedVariables false

set_option maxHeartbeats 4000000 in
theorem last_live (n : Nat) (v : Value) (L : List Ver) (lba ep : Int) (w : World) (h : IdxAt w 46 27 n v L) (hlen : L.length ≤ 1000000) :
    Calls Try.prog 25 #[.pointer (some ⟨n, 0, none⟩), .int .i64 lba, .int .i64 ep] w fun e w' => e = .returned (.tuple #[verV (getV (lastO L lba ep)), .bool (lastO L lba ep).isSome]) ∧ Below w.heap.size w w' := by
  refine calls_by fun R HR => ?_
  have hmf : ∀ (fn : Fn) (first cap : Array Value) (w : World), (Instr.makeFunc fn first cap).run Try.prog w = .ok (.func fn first cap) w := fun _ _ _ _ => rfl
  obtain ⟨W1, hW1⟩ : ∃ W1, w.alloc (.cells #[.int .i64 lba] 3) = W1 := ⟨_, rfl⟩
  have hb1 : Below w.heap.size w W1 := by rw [← hW1]; exact alloc_below w _
  have k1 : W1.heap[w.heap.size]? = some (.cells #[.int .i64 lba] 3 (0, 0)) := by rw [← hW1]; exact alloc_new w _
  obtain ⟨W2, hW2⟩ : ∃ W2, W1.alloc (.cells #[.int .i64 ep] 3) = W2 := ⟨_, rfl⟩
  have hb2 : Below W1.heap.size W1 W2 := by rw [← hW2]; exact alloc_below W1 _
  have k2 : W2.heap[W1.heap.size]? = some (.cells #[.int .i64 ep] 3 (0, 0)) := by rw [← hW2]; exact alloc_new W1 _
  obtain ⟨W3, hW3⟩ : ∃ W3, W2.alloc (.cells #[.int .i64 0, .int .i64 0, .int .i64 0] 27) = W3 := ⟨_, rfl⟩
  have hb3 : Below W2.heap.size W2 W3 := by rw [← hW3]; exact alloc_below W2 _
  have k3 : W3.heap[W2.heap.size]? = some (.cells #[.int .i64 0, .int .i64 0, .int .i64 0] 27 (0, 0)) := by rw [← hW3]; exact alloc_new W2 _
  have hb12 := hb1.trans (hb2.mono hb1.size)
  have hb13 := hb12.trans (hb3.mono hb12.size)
  have k1' := (hb3.block _ (lt_of_block ((hb2.block _ (lt_of_block k1)).trans k1))).trans ((hb2.block _ (lt_of_block k1)).trans k1)
  have k2' := (hb3.block _ (lt_of_block k2)).trans k2
  have HI := Lib.hid (h.keep hb13)
  have HK := Lib.hid (And.intro hb13 (And.intro k1' (And.intro k2' k3)))
  have hz : w.heap.size ≤ W2.heap.size := hb12.size
  obtain ⟨va, vcap, hv, hcap, -⟩ := h.held.own.shape
  subst hv
  clear h hb1 k1 hb2 k2 hb3 k3 hb12 hb13 k1' k2'
  obtain ⟨c0, c1, -, -⟩ := HI.out.held.cells
  go_enter Try.func25, Try.ntmps25
  go_wp2_with fail
  obtain ⟨p, hp⟩ : ∃ p, aheadV (lastQ lba ep) L = p := ⟨_, rfl⟩
  refine (search2_any 34 #[.pointer (some ⟨w.heap.size, 0, none⟩), .pointer (some ⟨W1.heap.size, 0, none⟩)] (fun _ _ => rfl) (lastC lba ep) _ 0 L p _ HI.out.held.own.rd (by omega) (by rw [← hp]; exact aheadV_le _ _)
    (fun i y hi hy => (lastC_neg _ _ _).2 (aheadV_lt _ L i y (by rw [hp]; exact hi) hy))
    (fun i y hi hy => by rw [lastC_neg, aheadV_ge HI.out.sorted lastQ_mono i y (by rw [hp]; exact hi) hy]; decide)
    (fun y w'' hb => lastc_any y w.heap.size W1.heap.size lba ep w'' (blk1 ((hb.block _ (lt_of_block HK.out.2.1)).trans HK.out.2.1)).1 (blk1 ((hb.block _ (lt_of_block HK.out.2.2.1)).trans HK.out.2.2.1)).1 _)).mono ?_
  rintro e w4 ⟨rfl, hb4⟩
  have HI4 := Lib.hid (HI.out.keep hb4)
  have hB4 := HK.out.1.trans (hb4.mono HK.out.1.size)
  have k1 := (hb4.block _ (lt_of_block HK.out.2.1)).trans HK.out.2.1
  have k3 := (hb4.block _ (lt_of_block HK.out.2.2.2)).trans HK.out.2.2.2
  obtain ⟨l0, -⟩ := blk1 k1
  obtain ⟨r0, r1, r2, f0, f1, f2⟩ := blk3 k3
  have HP := Lib.hid hp
  generalize metB (lastC lba ep) L p = mt
  clear c0 c1 hb4 k1 k3 hp hW1 hW2 hW3
  obtain ⟨c0, c1, -, -⟩ := HI4.out.held.cells
  by_cases hp0 : p = 0
  · have Q := Lib.hid (show lastO L lba ep = none by rw [lastO, HP.out, if_pos hp0])
    subst hp0
    go_wp2_with fail
    go_quiet (fail)
    go_wp2
    refine bodyPost_ret (v := .tuple #[verV noVer, .bool false]) (by simp [results, Try.results25, go_sem, r0, r1, r2, noVer]) rfl ?_
    exact HR.out _ _ ⟨by rw [Q.out]; rfl, (((below_drewN hB4 _).setCell (by simp; omega) _).setCell (by simp; omega) _).setCell (by simp; omega) _⟩
  · obtain ⟨q, hq⟩ : ∃ q : Nat, p = q + 1 := ⟨p - 1, by omega⟩
    have hql : q < L.length := by have := aheadV_le (lastQ lba ep) L; rw [HP.out] at this; omega
    obtain ⟨y, hy⟩ : ∃ y, L[q]? = some y := ⟨_, List.getElem?_eq_getElem hql⟩
    obtain ⟨b, o, ha, hb, dd⟩ := HI4.out.held.own.rd.at q y hy
    subst ha
    obtain ⟨y1, y2, y3⟩ := y
    have d0 : w4.cell? ⟨b, o + q * 3, none⟩ = some (.int .i64 y1) := dd 0 _ rfl
    have d1 : w4.cell? ⟨b, o + q * 3 + 1, none⟩ = some (.int .i64 y2) := dd 1 _ rfl
    have d2 : w4.cell? ⟨b, o + q * 3 + 2, none⟩ = some (.int .i64 y3) := dd 2 _ rfl
    have hpq : (p : Int) - 1 = (q : Int) := by omega
    have hpz : ((p : Int) == 0) = false := by simp; omega
    have hpz2 : (p == 0) = false := by simp; omega
    have hqi : (q : Int) < (L.length : Int) := by omega
    have hq0 : (0 : Int) ≤ (q : Int) := by omega
    have HQ := Lib.hid (And.intro hy hq)
    have hp9 : (p : Int) ≤ 1000000 := by omega
    have hp1 : (1 : Int) ≤ (p : Int) := by omega
    clear dd hy hq
    by_cases hl : y1 = lba
    · have hlb : (y1 != lba) = false := by simp [hl]
      have Q := Lib.hid (show lastO L lba ep = some (y1, y2, y3) by rw [lastO, HP.out, if_neg hp0, HQ.out.2, Nat.add_sub_cancel, HQ.out.1]; exact if_pos hl)
      clear hl hp0
      go_wp2_with fail
      go_quiet (fail)
      go_wp2
      refine bodyPost_ret (v := .tuple #[verV (y1, y2, y3), .bool true]) (by simp [results, Try.results25, go_sem, r0, r1, r2]) rfl ?_
      exact HR.out _ _ ⟨by rw [Q.out]; rfl, (((below_drewN hB4 _).setCell (by simp; omega) _).setCell (by simp; omega) _).setCell (by simp; omega) _⟩
    · have hlb : (y1 != lba) = true := by simp [hl]
      have Q := Lib.hid (show lastO L lba ep = none by rw [lastO, HP.out, if_neg hp0, HQ.out.2, Nat.add_sub_cancel, HQ.out.1]; exact if_neg hl)
      clear hp0
      go_wp2_with fail
      go_quiet (fail)
      go_wp2
      refine bodyPost_ret (v := .tuple #[verV noVer, .bool false]) (by simp [results, Try.results25, go_sem, r0, r1, r2, noVer]) rfl ?_
      exact HR.out _ _ ⟨by rw [Q.out]; rfl, (((below_drewN hB4 _).setCell (by simp; omega) _).setCell (by simp; omega) _).setCell (by simp; omega) _⟩

end Go.Proofs.Ythhncdcmjejlmaa
