/- The reference's disk: load. -/
import Derived.Test.YtielmlnbjliacaaRDiskCopy
import Derived.Test.YtielmlnbjliacaaRDiskMay
namespace Go.Proofs.Ytielmlnbjliacaa
open Go.RowKit Ks
set_option linter.unusedVariables false

set_option maxHeartbeats 2000000 in
theorem rload_any (va vd : Value) (B : List ByteArray) (C : List PutT) (w : World) (ha : Rd strE w va B) (hd : Rd pwE w vd C) (hB : B.length ≤ maxLen) (hC : C.length ≤ maxLen) :
    Calls Try.prog 28 #[.agg #[va, vd]] w fun e w' => ((mayI B C = false → e = .returned (.pointer none)) ∧ (mayI B C = true → ∃ n vb vc, e = .returned (.pointer (some ⟨n, 0, none⟩)) ∧ RkAt w' n vb vc ⟨B, C, false, 0⟩ ∧ ∀ k, DF n vb vc k → w.heap.size ≤ k)) ∧ Below w.heap.size w w' := by
  refine calls_by fun R HR => ?_
  have HM := Lib.hid (fun (W : World) (hb : Below w.heap.size w W) => rmay_any va vd B C W (ha.below hb) (hd.below hb) hB hC)
  have HC : Hid (mayI B C = true → ∀ W : World, Below w.heap.size w W → Calls Try.prog 26 #[.agg #[va, vd]] W fun e w' => ∃ vb vc, e = .returned (.agg #[vb, vc]) ∧ Row strE w' W.heap.size 9 vb B ∧ Row pwE w' W.heap.size 75 vc C ∧ (∀ b, vb.ownBlock = some b → vc.ownBlock ≠ some b) ∧ Below W.heap.size W w') :=
    Lib.hid fun hm W hb => by have := mayI_iff hm; exact rcopy_any va vd B C W (ha.below hb) (hd.below hb) (by omega) (by omega)
  clear ha hd hB hC
  go_enter Try.func28, Try.ntmps28
  go_wp2_with fail
  have hb0 := alloc_below w (.cells #[va, vd] 40)
  have hk := alloc_new w (.cells #[va, vd] 40)
  have HW := Lib.hid (And.intro hb0 hk)
  clear hb0 hk
  generalize w.alloc (.cells #[va, vd] 40) = W at *
  refine (HM.out W HW.out.1).mono ?_
  rintro e w1 ⟨rfl, hb1⟩
  have HW1 := Lib.hid (And.intro (HW.out.1.trans (hb1.mono HW.out.1.size)) (blk_on hb1 HW.out.2))
  obtain ⟨c0, c1, -, -⟩ := blk2 HW1.out.2
  clear hb1
  cases hm : mayI B C
  · have HMM := Lib.hid hm
    clear hm
    go_wp2
    exact HR.out _ _ ⟨⟨fun _ => rfl, fun h => by rw [HMM.out] at h; cases h⟩, HW1.out.1⟩
  · have HMM := Lib.hid hm
    clear hm
    go_wp2_with fail
    refine (HC.out HMM.out _ HW1.out.1).mono ?_
    rintro e w2 ⟨vb, vc, rfl, r1, r2, r3, hb2⟩
    have HX := Lib.hid (And.intro r1 (And.intro r2 (And.intro r3 hb2)))
    clear r1 r2 r3 hb2 c0 c1
    go_wp2
    have hA := alloc_below w2 (.cells #[vb, vc, .bool false, .int .i64 0] 64)
    have hz1 := HX.out.2.2.2.size
    have hz0 := HW1.out.1.size
    have hM := mayI_iff HMM.out
    refine HR.out _ _ ⟨⟨fun h => by (rw [HMM.out] at h; exact absurd h (by decide)), fun _ => ⟨w2.heap.size, vb, vc, rfl, ⟨alloc_new _ _, (HX.out.1.down (Nat.zero_le _)).below hA, (HX.out.2.1.down (Nat.zero_le _)).below hA, (fun e => by have := HX.out.1.own_lt e; omega), (fun e => by have := HX.out.2.1.own_lt e; omega), HX.out.2.2.1, ⟨hM.1.2.1, hM.1.2.2, fun p hp => ⟨(hM.2.2 p hp).2.1, (hM.2.2 p hp).2.2⟩, Nat.zero_le _⟩⟩, ?_⟩⟩, ?_⟩
    · intro k hk
      rcases hk with rfl | e | e
      · omega
      · have := (HX.out.1.lt e).1; omega
      · have := (HX.out.2.1.lt e).1; omega
    · exact (HW1.out.1.trans (HX.out.2.2.2.mono hz0)).alloc (by omega) _
end Go.Proofs.Ytielmlnbjliacaa
