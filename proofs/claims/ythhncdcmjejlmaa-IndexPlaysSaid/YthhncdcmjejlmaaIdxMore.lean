/- The index: Newest, Of. -/
import Derived.Test.YthhncdcmjejlmaaIdxLast
namespace Ks
open Go Go.RowKit
set_option linter.unusedVariables false
def ofF (e : Int) : Option Ver → Option Ver
  | some v => if v.2.1 = e then some v else none
  | none => none
def ofO (L : List Ver) (lba e : Int) : Option Ver := ofF e (lastO L lba e)
abbrev optV (o : Option Ver) : Value := .tuple #[verV (getV o), .bool o.isSome]
end Ks
namespace Go.Proofs.Ythhncdcmjejlmaa
open Go.RowKit Ks
set_option linter.unusedVariables false

set_option maxHeartbeats 1000000 in
theorem newest_live (n : Nat) (v : Value) (L : List Ver) (lba ep : Int) (w : World) (h : IdxAt w 46 27 n v L) (hlen : L.length ≤ 1000000) :
    Calls Try.prog 9 #[.pointer (some ⟨n, 0, none⟩), .int .i64 lba, .int .i64 ep] w fun e w' => e = .returned (optV (lastO L lba ep)) ∧ Below w.heap.size w w' := by
  refine calls_by fun R HR => ?_
  obtain ⟨W1, hW1⟩ : ∃ W1, w.alloc (.cells #[.int .i64 0, .int .i64 0, .int .i64 0] 27) = W1 := ⟨_, rfl⟩
  have hb1 : Below w.heap.size w W1 := by rw [← hW1]; exact alloc_below w _
  have k1 : W1.heap[w.heap.size]? = some (.cells #[.int .i64 0, .int .i64 0, .int .i64 0] 27 (0, 0)) := by rw [← hW1]; exact alloc_new w _
  have HI := Lib.hid (h.keep hb1)
  have HK := Lib.hid (And.intro hb1 k1)
  clear h hb1 k1
  go_enter Try.func9, Try.ntmps9
  go_wp2_with fail
  refine (there_live n v _ HI.out.held.blk).mono ?_
  rintro e w1 ⟨rfl, rfl⟩
  go_wp2_with fail
  refine (last_live n v L lba ep _ HI.out hlen).mono ?_
  rintro e w2 ⟨rfl, hb2⟩
  have k2 := (hb2.block _ (lt_of_block HK.out.2)).trans HK.out.2
  have hB2 := HK.out.1.trans (hb2.mono HK.out.1.size)
  obtain ⟨r0, r1, r2, f0, f1, f2⟩ := blk3 k2
  obtain ⟨O, hO⟩ : ∃ O, lastO L lba ep = O := ⟨_, rfl⟩
  have Q := Lib.hid hO
  rw [hO]
  obtain ⟨⟨y1, y2, y3⟩, hy⟩ : ∃ y, getV O = y := ⟨_, rfl⟩
  rw [hy]
  have HY := Lib.hid hy
  obtain ⟨s, hs⟩ : ∃ s, O.isSome = s := ⟨_, rfl⟩
  rw [hs]
  have HS := Lib.hid hs
  clear hO hy hs k2 hb2 hW1
  go_wp2
  refine bodyPost_ret (v := .tuple #[verV (y1, y2, y3), .bool s]) (by simp [results, Try.results9, go_sem, r0, r1, r2]) rfl ?_
  exact HR.out _ _ ⟨by rw [Q.out, optV, HY.out, HS.out], (((hB2).setCell (by simp) _).setCell (by simp) _).setCell (by simp) _⟩

theorem newest_dead (nv : Value) (lba ep : Int) (w : World) (h : Dead w 46 nv) :
    Calls Try.prog 9 #[nv, .int .i64 lba, .int .i64 ep] w fun e w' => e = .returned (optV none) ∧ Below w.heap.size w w' := by
  refine calls_by fun R HR => ?_
  obtain ⟨W1, hW1⟩ : ∃ W1, w.alloc (.cells #[.int .i64 0, .int .i64 0, .int .i64 0] 27) = W1 := ⟨_, rfl⟩
  have hb1 : Below w.heap.size w W1 := by rw [← hW1]; exact alloc_below w _
  have k1 : W1.heap[w.heap.size]? = some (.cells #[.int .i64 0, .int .i64 0, .int .i64 0] 27 (0, 0)) := by rw [← hW1]; exact alloc_new w _
  have HI := Lib.hid (h.keep hb1)
  have HK := Lib.hid hb1
  obtain ⟨r0, r1, r2, f0, f1, f2⟩ := blk3 k1
  clear h hb1 k1
  go_enter Try.func9, Try.ntmps9
  go_wp2_with fail
  refine (there_dead nv _ HI.out).mono ?_
  rintro e w1 ⟨rfl, rfl⟩
  clear hW1
  go_wp2
  refine bodyPost_ret (v := .tuple #[verV noVer, .bool false]) (by simp [results, Try.results9, go_sem, r0, r1, r2, noVer]) rfl ?_
  exact HR.out _ _ ⟨rfl, ((HK.out.setCell (by simp) _).setCell (by simp) _).setCell (by simp) _⟩

set_option maxHeartbeats 2000000 in
theorem of_gen (nv : Value) (O : Option Ver) (lba ep : Int) (w : World) (h : ∀ w', Below w.heap.size w w' → Calls Try.prog 9 #[nv, .int .i64 lba, .int .i64 ep] w' fun e w'' => e = .returned (optV O) ∧ Below w'.heap.size w' w'') :
    Calls Try.prog 10 #[nv, .int .i64 lba, .int .i64 ep] w fun e w' => e = .returned (optV (ofF ep O)) ∧ Below w.heap.size w w' := by
  refine calls_by fun R HR => ?_
  obtain ⟨W1, hW1⟩ : ∃ W1, w.alloc (.cells #[.int .i64 0, .int .i64 0, .int .i64 0] 27) = W1 := ⟨_, rfl⟩
  have hb1 : Below w.heap.size w W1 := by rw [← hW1]; exact alloc_below w _
  have k1 : W1.heap[w.heap.size]? = some (.cells #[.int .i64 0, .int .i64 0, .int .i64 0] 27 (0, 0)) := by rw [← hW1]; exact alloc_new w _
  have HC := Lib.hid (h W1 hb1)
  have HK := Lib.hid (And.intro hb1 k1)
  clear h hb1 k1
  go_enter Try.func10, Try.ntmps10
  go_wp2_with fail
  refine HC.out.mono ?_
  rintro e w2 ⟨rfl, hb2⟩
  obtain ⟨⟨y1, y2, y3⟩, hy⟩ : ∃ y, getV O = y := ⟨_, rfl⟩
  rw [optV, hy]
  obtain ⟨W3, hW3⟩ : ∃ W3, w2.alloc (.cells #[.int .i64 y1, .int .i64 y2, .int .i64 y3] 27) = W3 := ⟨_, rfl⟩
  have hb3 : Below w2.heap.size w2 W3 := by rw [← hW3]; exact alloc_below w2 _
  have k3 : W3.heap[w2.heap.size]? = some (.cells #[.int .i64 y1, .int .i64 y2, .int .i64 y3] 27 (0, 0)) := by rw [← hW3]; exact alloc_new w2 _
  have k1 := (hb3.block _ (lt_of_block ((hb2.block _ (lt_of_block HK.out.2)).trans HK.out.2))).trans ((hb2.block _ (lt_of_block HK.out.2)).trans HK.out.2)
  have hB2 := HK.out.1.trans (hb2.mono HK.out.1.size)
  have hB3 := hB2.trans (hb3.mono hB2.size)
  obtain ⟨r0, r1, r2, f0, f1, f2⟩ := blk3 k1
  obtain ⟨z0, z1, z2, -, -, -⟩ := blk3 k3
  clear hb2 hb3 k1 k3 hW1 hB2
  cases O with
  | none =>
    clear hy
    rw [show (none : Option Ver).isSome = false from rfl]
    go_wp2
    refine bodyPost_ret (v := .tuple #[verV noVer, .bool false]) (by simp [results, Try.results10, go_sem, r0, r1, r2, noVer]) rfl ?_
    exact HR.out _ _ ⟨rfl, ((hB3.setCell (by simp) _).setCell (by simp) _).setCell (by simp) _⟩
  | some y =>
    simp only [getV, Option.getD_some] at hy
    subst hy
    rw [show (some (y1, y2, y3) : Option Ver).isSome = true from rfl]
    by_cases he : y2 = ep
    · have hne : (y2 != ep) = false := by simp [he]
      have Q := Lib.hid (show ofF ep (some (y1, y2, y3)) = some (y1, y2, y3) from if_pos he)
      clear he
      go_wp2
      refine bodyPost_ret (v := .tuple #[verV (y1, y2, y3), .bool true]) (by simp [results, Try.results10, go_sem, r0, r1, r2]) rfl ?_
      exact HR.out _ _ ⟨by rw [Q.out]; rfl, ((hB3.setCell (by simp) _).setCell (by simp) _).setCell (by simp) _⟩
    · have hne : (y2 != ep) = true := by simp [he]
      have Q := Lib.hid (show ofF ep (some (y1, y2, y3)) = none from if_neg he)
      clear he
      go_wp2
      refine bodyPost_ret (v := .tuple #[verV noVer, .bool false]) (by simp [results, Try.results10, go_sem, r0, r1, r2, noVer]) rfl ?_
      exact HR.out _ _ ⟨by rw [Q.out]; rfl, ((hB3.setCell (by simp) _).setCell (by simp) _).setCell (by simp) _⟩

theorem of_live (n : Nat) (v : Value) (L : List Ver) (lba ep : Int) (w : World) (h : IdxAt w 46 27 n v L) (hlen : L.length ≤ 1000000) :
    Calls Try.prog 10 #[.pointer (some ⟨n, 0, none⟩), .int .i64 lba, .int .i64 ep] w fun e w' => e = .returned (optV (ofO L lba ep)) ∧ Below w.heap.size w w' :=
  of_gen _ (lastO L lba ep) lba ep w fun w' hb => newest_live n v L lba ep w' (h.keep hb) hlen
theorem of_dead (nv : Value) (lba ep : Int) (w : World) (h : Dead w 46 nv) :
    Calls Try.prog 10 #[nv, .int .i64 lba, .int .i64 ep] w fun e w' => e = .returned (optV none) ∧ Below w.heap.size w w' :=
  of_gen _ none lba ep w fun w' hb => newest_dead nv lba ep w' (h.keep hb)

end Go.Proofs.Ythhncdcmjejlmaa
