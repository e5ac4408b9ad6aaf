/- The reference's: is an image gone through? -/
import Derived.Test.YtielmlnbjliacaaRDiskFlush
import Derived.Test.YtielmlnbjliacaaSeqBoth
import Derived.Test.YtielmlnbjliacaaStepCall
import Derived.Test.YtielmlnbjliacaaStrBytes
namespace Go.Proofs.Ytielmlnbjliacaa
open Go.RowKit Ks
set_option linter.unusedVariables false
theorem bytesN_le (l : List ByteArray) : bytesN l ≤ 200000000 := by
  have key : ∀ m : List ByteArray, (m.map fun s => min s.size 100000).sum ≤ 100000 * m.length := by
    intro m
    induction m with
    | nil => simp
    | cons s m ih => simp only [List.map_cons, List.sum_cons, List.length_cons]; omega
  have := key (l.take 2000)
  unfold bytesN
  rw [List.length_take] at this
  omega
set_option maxHeartbeats 2000000 in
theorem rfew_any (va vc : Value) (A : List ByteArray) (C : List PutT) (w : World) (ha : Rd strE w va A) (hc : Rd pwE w vc C) (hA : A.length ≤ maxLen) (hC : C.length ≤ maxLen) :
    Calls Try.prog 25 #[.agg #[va, vc]] w fun e w' => ∃ b, e = .returned (.bool b) ∧ (b = true → A.length ≤ 60 ∧ C.length ≤ 40) ∧ Below w.heap.size w w' := by
  unfold maxLen at hA hC
  refine calls_by fun R HR => ?_
  have HT := Lib.hid (fun (W : World) (h : Below w.heap.size w W) => bytes_any A va W (ha.below h))
  have HNB := Lib.hid (bytesN_le A)
  obtain ⟨aa, ca, hva, _⟩ := ha.shape
  obtain ⟨ac, cc, hvc, _⟩ := hc.shape
  have HH := Lib.hid hc
  subst hva hvc
  clear ha hc
  go_enter Try.func25, Try.ntmps25
  go_wp2_with fail
  have HW := Lib.hid (And.intro (alloc_below w (.cells #[.slice aa A.length ca, .slice ac C.length cc] 40)) (alloc_new w (.cells #[.slice aa A.length ca, .slice ac C.length cc] 40)))
  generalize w.alloc (.cells #[.slice aa A.length ca, .slice ac C.length cc] 40) = W at *
  refine (HT.out W HW.out.1).mono ?_
  rintro e w1 ⟨rfl, rfl⟩
  obtain ⟨N, hN⟩ : ∃ N, bytesN A = N := ⟨_, rfl⟩
  have hNB : N ≤ 200000000 := hN ▸ HNB.out
  rw [hN]
  clear hN
  go_wp2_with fail
  go_loopw [4, 3] (fun i x wx => ∃ (k n : Nat), k ≤ C.length ∧ k ≤ 200 ∧ n ≤ 200000000 + 100000 * k ∧ i = .int .i64 k ∧ x = .int .i64 n ∧ wx = w1) (fun i _ _ => 200 - (intOf i).toNat)
  case atStart => exact ⟨0, N, by omega, by omega, by omega, rfl, rfl, rfl⟩
  case round =>
    obtain ⟨k, n, hk, hk2, hnb, rfl, rfl, rfl⟩ := hrel
    obtain ⟨c0, c1, -, -⟩ := blk2 HW.out.2
    have hni : (n : Int) ≤ 220000000 := by omega
    by_cases hgo : k < C.length ∧ k < 200
    · obtain ⟨hlt, h2⟩ := hgo
      obtain ⟨x, hx⟩ : ∃ x, C[k]? = some x := ⟨_, List.getElem?_eq_getElem hlt⟩
      obtain ⟨b, o, rfl, _, d0, d1⟩ := (HH.out.below HW.out.1).putAt k x hx
      obtain ⟨x1, t⟩ := x
      simp only at d0 d1
      have h2i : (k : Int) < 200 := by omega
      have HG := Lib.hid (And.intro hlt (And.intro h2 hnb))
      clear hx hk2 hnb h2
      by_cases hs : t.size ≤ 100000
      · have hsi : ¬ (100000 : Int) < (t.size : Int) := by omega
        have HS := Lib.hid hs
        clear hs
        go_wp2_with fail
        go_roundw
        case rel => exact ⟨k + 1, n + t.size, by have := HG.out.1; omega, by have := HG.out.2.1; omega, by have := HG.out.2.2; have := HS.out; omega, by go_num, by go_num, trivial⟩
        case measure => simp [intOf]; have := HG.out.2.1; omega
      · have hsi : (100000 : Int) < (t.size : Int) := by omega
        clear hs
        go_wp2_with fail
        go_roundw
        case rel => exact ⟨k + 1, n + 100000, by have := HG.out.1; omega, by have := HG.out.2.1; omega, by have := HG.out.2.2; omega, by go_num, by go_num, trivial⟩
        case measure => simp [intOf]; have := HG.out.2.1; omega
    · by_cases h1 : (A.length : Int) ≤ 60
      all_goals by_cases h2 : (C.length : Int) ≤ 40
      all_goals by_cases h3 : (n : Int) ≤ 450000
      all_goals by_cases hlt : (k : Int) < (C.length : Int)
      all_goals (try have h4 : ¬ (k : Int) < 200 := by omega)
      all_goals first | (exfalso; omega) | (clear hgo; go_wp2; exact HR.out _ _ ⟨_, rfl, (by intro h; first | (refine ⟨?_, ?_⟩ <;> omega) | (exact absurd h (by decide))), HW.out.1⟩)
end Go.Proofs.Ytielmlnbjliacaa
