/- The document's answer about versions: which may be, which is less; one added. -/
import Derived.Test.YthhncdcmjejlmaaRIdxLow
import Derived.Test.YthhncdcmjejlmaaIdxInsert
import Derived.Test.YthhncdcmjejlmaaSeqBoth
import Derived.Deep.RegionLaw
namespace Ks
open Go Go.RowKit
def rAddE (L : List Ver) (x : Ver) : Int := if mayV x = true then (if x ∈ L then 19 else 0) else 2
def rAddL (L : List Ver) (x : Ver) : List Ver := if rAddE L x = 0 then L ++ [x] else L
end Ks
namespace Go.Proofs.Ythhncdcmjejlmaa
open Go.RowKit Ks
set_option linter.unusedVariables false
set_option linter.unusedSimpArgs false

set_option maxHeartbeats 2000000 in
theorem right_any (v : Ver) (w : World) : Calls Try.prog 31 #[verV v] w fun e w' => e = .returned (.bool (mayV v)) ∧ Below w.heap.size w w' := by
  refine calls_by fun R HR => ?_
  obtain ⟨a, b, c⟩ := v
  have hA : Below w.heap.size w (w.alloc (.cells #[.int .i64 a, .int .i64 b, .int .i64 c] 27)) := alloc_below w _
  have hcase : (¬ 0 ≤ a) ∨ (0 ≤ a ∧ ¬ a ≤ 4095) ∨ (0 ≤ a ∧ a ≤ 4095 ∧ ¬ 0 ≤ b) ∨ (0 ≤ a ∧ a ≤ 4095 ∧ 0 ≤ b ∧ ¬ b ≤ 4294967295) ∨ (0 ≤ a ∧ a ≤ 4095 ∧ 0 ≤ b ∧ b ≤ 4294967295 ∧ ¬ 0 ≤ c) ∨ (0 ≤ a ∧ a ≤ 4095 ∧ 0 ≤ b ∧ b ≤ 4294967295 ∧ 0 ≤ c ∧ ¬ c ≤ 4294967295) ∨ (0 ≤ a ∧ a ≤ 4095 ∧ 0 ≤ b ∧ b ≤ 4294967295 ∧ 0 ≤ c ∧ c ≤ 4294967295) := by omega
  rcases hcase with h | h | h | h | h | h | h
  case inr.inr.inr.inr.inr.inr =>
    have Q := Lib.hid (show mayV (a, b, c) = true by simp only [mayV, decide_eq_true_eq]; omega)
    obtain ⟨h1, h2, h3, h4, h5, h6⟩ := h
    go_enter Try.func31, Try.ntmps31
    go_wp2
    exact HR.out _ _ ⟨by rw [Q.out]; try rfl, hA⟩
  all_goals
    have Q := Lib.hid (show mayV (a, b, c) = false by simp only [mayV, decide_eq_false_iff_not]; omega)
    try obtain ⟨h1, h⟩ := h
    try obtain ⟨h2, h⟩ := h
    try obtain ⟨h3, h⟩ := h
    try obtain ⟨h4, h⟩ := h
    try obtain ⟨h5, h⟩ := h
    go_enter Try.func31, Try.ntmps31
    go_wp2
    exact HR.out _ _ ⟨by rw [Q.out]; try rfl, hA⟩

theorem less_any (x y : Ver) (w : World) : Calls Try.prog 32 #[verV x, verV y] w fun e w' => e = .returned (.bool (decide (ltV x y))) ∧ Below w.heap.size w w' := by
  refine calls_by fun R HR => ?_
  obtain ⟨a, b, c⟩ := x
  obtain ⟨a', b', c'⟩ := y
  have hA : Below w.heap.size w ((w.alloc (.cells #[.int .i64 a, .int .i64 b, .int .i64 c] 27)).alloc (.cells #[.int .i64 a', .int .i64 b', .int .i64 c'] 27)) := (alloc_below w _).alloc (by simp) _
  by_cases h1 : a = a'
  · have n1 : (a != a') = false := by simp [h1]
    by_cases h2 : b = b'
    · have n2 : (b != b') = false := by simp [h2]
      have Q := Lib.hid (show decide (ltV (a, b, c) (a', b', c')) = decide (c < c') by subst h1 h2; simp [ltV])
      clear h1 h2
      go_enter Try.func32, Try.ntmps32
      go_wp2
      exact HR.out _ _ ⟨by rw [Q.out]; try rfl, hA⟩
    · have n2 : (b != b') = true := by simp [h2]
      have Q := Lib.hid (show decide (ltV (a, b, c) (a', b', c')) = decide (b < b') by subst h1; simp [ltV, h2])
      clear h1 h2
      go_enter Try.func32, Try.ntmps32
      go_wp2
      exact HR.out _ _ ⟨by rw [Q.out]; try rfl, hA⟩
  · have n1 : (a != a') = true := by simp [h1]
    have Q := Lib.hid (show decide (ltV (a, b, c) (a', b', c')) = decide (a < a') by simp [ltV, h1])
    clear h1
    go_enter Try.func32, Try.ntmps32
    go_wp2
    exact HR.out _ _ ⟨by rw [Q.out]; try rfl, hA⟩

set_option maxHeartbeats 2000000 in
theorem radd_any (va : Value) (L : List Ver) (x : Ver) (w : World) (ha : Rd verE w va L) (hla : L.length ≤ 100000) :
    Calls Try.prog 18 #[va, verV x] w fun e w' => ∃ v', e = .returned (.tuple #[v', .int .i64 (rAddE L x)]) ∧ Rd verE w' v' (rAddL L x) ∧ ((v' = va ∧ rAddL L x = L) ∨ ∀ b, v'.ownBlock = some b → w.heap.size ≤ b) ∧ Below w.heap.size w w' := by
  refine calls_by fun R HR => ?_
  have HA := Lib.hid ha
  obtain ⟨aa, ca, hva, hcc, -⟩ := ha.shape
  subst hva
  clear ha
  obtain ⟨a, b, c⟩ := x
  obtain ⟨W1, hW1⟩ : ∃ W1, w.alloc (.cells #[.int .i64 a, .int .i64 b, .int .i64 c] 27) = W1 := ⟨_, rfl⟩
  have hb1 : Below w.heap.size w W1 := by rw [← hW1]; exact alloc_below w _
  have k1 : W1.heap[w.heap.size]? = some (.cells #[.int .i64 a, .int .i64 b, .int .i64 c] 27 (0, 0)) := by rw [← hW1]; exact alloc_new w _
  have H1 := Lib.hid (And.intro hb1 k1)
  obtain ⟨x0, x1, x2, -, -, -⟩ := blk3 k1
  clear hb1 k1
  go_enter Try.func18, Try.ntmps18
  go_wp2_with fail
  refine (right_any (a, b, c) _).mono ?_
  rintro e w2 ⟨rfl, hb2⟩
  have k2 := (hb2.block _ (lt_of_block H1.out.2)).trans H1.out.2
  have hB2 := H1.out.1.trans (hb2.mono H1.out.1.size)
  have H2 := Lib.hid (And.intro hB2 k2)
  clear x0 x1 x2 hb2 hB2 hW1
  obtain ⟨x0, x1, x2, -, -, -⟩ := blk3 k2
  clear k2
  cases hm : mayV (a, b, c)
  case false =>
    have Q := Lib.hid (show rAddE L (a, b, c) = 2 by rw [rAddE, hm]; rfl)
    have QL := Lib.hid (show rAddL L (a, b, c) = L by rw [rAddL, Q.out, if_neg (by decide)])
    clear hm
    go_wp2
    exact HR.out _ _ ⟨_, by rw [Q.out]; try rfl, by rw [QL.out]; exact HA.out.below H2.out.1, Or.inl ⟨rfl, QL.out⟩, H2.out.1⟩
  case true =>
    have HM := Lib.hid hm
    clear hm
    go_wp2_with fail
    refine (in_any _ L (a, b, c) _ (HA.out.below H2.out.1) (by omega)).mono ?_
    rintro e w3 ⟨rfl, hb3⟩
    have k3 := (hb3.block _ (lt_of_block H2.out.2)).trans H2.out.2
    have H3 := Lib.hid (And.intro (H2.out.1.trans (hb3.mono H2.out.1.size)) k3)
    obtain ⟨mt, hmt⟩ : ∃ mt, decide ((a, b, c) ∈ L) = mt := ⟨_, rfl⟩
    rw [hmt]
    have HMT := Lib.hid hmt
    clear x0 x1 x2 hb3 hmt
    obtain ⟨x0, x1, x2, -, -, -⟩ := blk3 k3
    clear k3
    cases mt
    case true =>
      have hmem : (a, b, c) ∈ L := by have := HMT.out; simpa using this
      have Q := Lib.hid (show rAddE L (a, b, c) = 19 by rw [rAddE, if_pos HM.out, if_pos hmem])
      have QL := Lib.hid (show rAddL L (a, b, c) = L by rw [rAddL, Q.out, if_neg (by decide)])
      clear hmem
      go_wp2
      exact HR.out _ _ ⟨_, by rw [Q.out]; try rfl, by rw [QL.out]; exact HA.out.below H3.out.1, Or.inl ⟨rfl, QL.out⟩, H3.out.1⟩
    case false =>
      have hmem : ¬ (a, b, c) ∈ L := by have := HMT.out; simpa using this
      have Q := Lib.hid (show rAddE L (a, b, c) = 0 by rw [rAddE, if_pos HM.out, if_neg hmem])
      have QL := Lib.hid (show rAddL L (a, b, c) = L ++ [(a, b, c)] by rw [rAddL, Q.out, if_pos rfl])
      clear hmem
      obtain ⟨W3, hW3⟩ : ∃ W3, w3.drew = W3 := ⟨_, rfl⟩
      have hb3 : Below w3.heap.size w3 W3 := by rw [← hW3]; exact drew_below w3
      have hB3 := H3.out.1.trans (hb3.mono H3.out.1.size)
      have kx3 := (hb3.block _ (lt_of_block H3.out.2)).trans H3.out.2
      obtain ⟨⟨a1, n1, c1, w5, a2, n2, c2, w6, r1, s1, t1, u1, v1⟩, ⟨a3, n3, c3, w7, a4, n4, c4, w8, r2, s2, t2, u2, v2⟩, ⟨a5, n5, c5, w9, a6, n6, c6, w10, r3, s3, t3, u3, v3⟩⟩ := append_two verT W3 _ L (a, b, c) #[.int .i64 a, .int .i64 b, .int .i64 c] rfl (HA.out.below hB3) (by omega) (by decide)
      have hsz := hB3.size
      have K1 := Lib.hid (And.intro t1 (And.intro (hB3.trans (v1.mono hB3.size)) (And.intro t2 (And.intro (hB3.trans (v2.mono hB3.size)) (And.intro t3 (hB3.trans (v3.mono hB3.size)))))))
      obtain ⟨y0, y1, y2, -, -, -⟩ := blk3 kx3
      obtain ⟨z0, z1, z2, -, -, -⟩ := blk3 ((u1.block _ (lt_of_block kx3)).trans kx3)
      obtain ⟨p0, p1, p2, -, -, -⟩ := blk3 (((alloc_below W3 (.cells #[] 27)).block _ (lt_of_block kx3)).trans kx3)
      clear t1 t2 t3 v1 v2 v3 u1 u2 u3 hb3 hB3 kx3
      have R1 := Lib.hid r1
      have R2 := Lib.hid r2
      have R3 := Lib.hid r3
      have S1 := Lib.hid s1
      have S2 := Lib.hid s2
      have S3 := Lib.hid s3
      clear r1 r2 r3 s1 s2 s3
      go_wp2_with fail
      go_region_law (first
        | (refine step_append_of rfl (.tmp 14) (.tmp 15) 22 rfl R1.out (by simp [Act.eval, Act.put]) (by simp [Act.eval, Act.put]) ?_)
        | (refine step_append_of rfl (.tmp 14) (.tmp 15) 22 rfl R2.out (by simp [Act.eval, Act.put]) (by simp [Act.eval, Act.put]) ?_)
        | (refine step_append_of rfl (.tmp 14) (.tmp 15) 22 rfl R3.out (by simp [Act.eval, Act.put]) (by simp [Act.eval, Act.put]) ?_)
        | (refine step_append_of rfl (.tmp 16) (.tmp 18) 22 rfl S1.out (by simp [Act.eval, Act.put]) (by simp [Act.eval, Act.put]) ?_)
        | (refine step_append_of rfl (.tmp 16) (.tmp 18) 22 rfl S2.out (by simp [Act.eval, Act.put]) (by simp [Act.eval, Act.put]) ?_)
        | (refine step_append_of rfl (.tmp 16) (.tmp 18) 22 rfl S3.out (by simp [Act.eval, Act.put]) (by simp [Act.eval, Act.put]) ?_))
      all_goals
        go_wp2
        go_ret2
        first
        | exact HR.out _ _ ⟨_, by rw [Q.out]; try rfl, by rw [QL.out]; exact K1.out.1.rd, Or.inr fun b hb => Nat.le_trans hsz (K1.out.1.lt hb).1, K1.out.2.1⟩
        | exact HR.out _ _ ⟨_, by rw [Q.out]; try rfl, by rw [QL.out]; exact K1.out.2.2.1.rd, Or.inr fun b hb => Nat.le_trans hsz (K1.out.2.2.1.lt hb).1, K1.out.2.2.2.1⟩
        | exact HR.out _ _ ⟨_, by rw [Q.out]; try rfl, by rw [QL.out]; exact K1.out.2.2.2.2.1.rd, Or.inr fun b hb => Nat.le_trans hsz (K1.out.2.2.2.2.1.lt hb).1, K1.out.2.2.2.2.2⟩

end Go.Proofs.Ythhncdcmjejlmaa
