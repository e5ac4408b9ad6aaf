/- The law IndexAsOf: what its walk gives. -/
import Derived.Test.YthhncdcmjejlmaaIdxOf
import Derived.Test.YthhncdcmjejlmaaRIdxLow
import Derived.Test.YthhncdcmjejlmaaIdxBest
namespace Go.Proofs.Ythhncdcmjejlmaa
open Go.RowKit Ks
set_option linter.unusedVariables false

set_option maxHeartbeats 4000000 in
set_option maxRecDepth 100000 in
theorem law_asof (lv : Value) (l : List Ver) (lba ep : Int) (w : World) (hl : Rd verE w lv l) :
    Calls Try.prog 3 #[lv, .int .i64 lba, .int .i64 ep] w fun e w' => e = .returned (.bool true) ∧ Below w.heap.size w w' := by
  refine calls_by fun R HR => ?_
  have heq := eqv_run
  have HL := Lib.hid hl
  obtain ⟨la, lcap, hv, hcap, -⟩ := hl.shape
  subst hv
  clear hl
  by_cases hbad : (200 : Int) < l.length ∨ ep < 0 ∨ 4294967295 < ep
  · have h3 : (200 : Int) < l.length ∨ (¬ (200 : Int) < l.length ∧ ep < 0) ∨ (¬ (200 : Int) < l.length ∧ ¬ ep < 0 ∧ 4294967295 < ep) := by omega
    clear hbad
    rcases h3 with h1 | ⟨h1, h2⟩ | ⟨h1, h2, h3⟩
    all_goals
      go_enter Try.func3, Try.ntmps3
      go_wp2_with fail
      refine (alive_any _).mono ?_
      rintro e w2 ⟨rfl, hb2⟩
      go_wp2
      exact HR.out _ _ ⟨rfl, hb2⟩
  · have h1 : ¬ (200 : Int) < l.length := by omega
    have h2 : ¬ ep < 0 := by omega
    have h3 : ¬ 4294967295 < ep := by omega
    have hl2 : l.length ≤ 200 := by omega
    have hlo := ofL_length l
    have h4 : 0 ≤ ep := by omega
    clear hbad
    go_enter Try.func3, Try.ntmps3
    go_wp2_with fail
    refine (of_any _ l _ HL.out (by omega)).mono ?_
    rintro e w2 ⟨n, v, rfl, hO⟩
    have HO := Lib.hid hO
    clear hO
    obtain ⟨O, hOe⟩ : ∃ O, lastO (ofL l) lba ep = O := ⟨_, rfl⟩
    obtain ⟨OO, hOO⟩ : ∃ OO, ofO (ofL l) lba ep = OO := ⟨_, rfl⟩
    go_wp2_with fail
    refine (newest_live n v _ lba ep _ HO.out.at_ (by omega)).mono ?_
    rintro e w3 ⟨rfl, hb3⟩
    have HO3 := Lib.hid (HO.out.keep hb3)
    rw [hOe]
    obtain ⟨⟨y1, y2, y3⟩, hy⟩ : ∃ y, getV O = y := ⟨_, rfl⟩
    rw [optV, hy]
    obtain ⟨W4, hW4⟩ : ∃ W4, w3.alloc (.cells #[.int .i64 y1, .int .i64 y2, .int .i64 y3] 27) = W4 := ⟨_, rfl⟩
    have hb4 : Below w3.heap.size w3 W4 := by rw [← hW4]; exact alloc_below w3 _
    have k4 : W4.heap[w3.heap.size]? = some (.cells #[.int .i64 y1, .int .i64 y2, .int .i64 y3] 27 (0, 0)) := by rw [← hW4]; exact alloc_new w3 _
    have HO4 := Lib.hid (HO3.out.keep hb4)
    have HE := Lib.hid (And.intro hOe (And.intro hOO (And.intro hy k4)))
    clear hOe hOO hy hb3 hb4 k4
    obtain ⟨is, his⟩ : ∃ is, O.isSome = is := ⟨_, rfl⟩
    rw [his]
    have HIS := Lib.hid his
    clear his
    go_wp2_with fail
    refine (of_live n v _ lba ep _ HO4.out.at_ (by omega)).mono ?_
    rintro e w5 ⟨rfl, hb5⟩
    rw [HE.out.2.1]
    obtain ⟨⟨z1, z2, z3⟩, hz⟩ : ∃ z, getV OO = z := ⟨_, rfl⟩
    rw [optV, hz]
    obtain ⟨W6, hW6⟩ : ∃ W6, w5.alloc (.cells #[.int .i64 z1, .int .i64 z2, .int .i64 z3] 27) = W6 := ⟨_, rfl⟩
    have hb6 : Below w5.heap.size w5 W6 := by rw [← hW6]; exact alloc_below w5 _
    have k6 : W6.heap[w5.heap.size]? = some (.cells #[.int .i64 z1, .int .i64 z2, .int .i64 z3] 27 (0, 0)) := by rw [← hW6]; exact alloc_new w5 _
    have hB6 := hb5.trans (hb6.mono hb5.size)
    have k4 := (hB6.block _ (lt_of_block HE.out.2.2.2)).trans HE.out.2.2.2
    have HO6 := Lib.hid (HO4.out.keep hB6)
    have HZ := Lib.hid (And.intro hz (And.intro k6 k4))
    obtain ⟨so, hso⟩ : ∃ so, OO.isSome = so := ⟨_, rfl⟩
    rw [hso]
    have HSO := Lib.hid hso
    obtain ⟨a0, a1, a2, -, -, -⟩ := blk3 k4
    obtain ⟨b0, b1, b2, -, -, -⟩ := blk3 k6
    clear hz hb5 hb6 k6 k4 hB6 hso hW4
    go_wp2_with fail
    refine (in_any _ l (y1, y2, y3) _ (HL.out.below HO6.out.below) (by omega)).mono ?_
    rintro e w7 ⟨rfl, hb7⟩
    have hin : is = true → decide ((y1, y2, y3) ∈ l) = true := fun h => by
      have h1 := HE.out.2.2.1
      have h2 := HIS.out
      rw [h] at h2
      obtain ⟨u, hu⟩ := Option.isSome_iff_exists.1 h2
      rw [hu] at h1
      have h3 : u = (y1, y2, y3) := h1
      have hb := lastO_best (ofL_sorted l) lba ep
      rw [HE.out.1, hu] at hb
      rw [← h3]
      exact decide_eq_true ((ofL_mem l u).1 hb.1).1
    obtain ⟨ins, hins⟩ : ∃ ins, decide ((y1, y2, y3) ∈ l) = ins := ⟨_, rfl⟩
    rw [hins] at hin ⊢
    have k4 := (hb7.block _ (lt_of_block HZ.out.2.2)).trans HZ.out.2.2
    have k6 := (hb7.block _ (lt_of_block HZ.out.2.1)).trans HZ.out.2.1
    have HO7 := Lib.hid (HO6.out.keep hb7)
    have HK := Lib.hid (And.intro k4 k6)
    clear a0 a1 a2 b0 b1 b2 hins hb7 hW6
    obtain ⟨a0, a1, a2, -, -, -⟩ := blk3 k4
    obtain ⟨b0, b1, b2, -, -, -⟩ := blk3 k6
    clear k4 k6
    cases so
    case true =>
      obtain ⟨u, hu⟩ := Option.isSome_iff_exists.1 HSO.out
      have h5 := ofO_some (HE.out.2.1.trans hu)
      rw [HE.out.1] at h5
      have h6 := HE.out.2.2.1
      have h7 := HZ.out.1
      have h8 := HIS.out
      rw [h5] at h6 h8
      rw [hu] at h7
      have e1 : u = (y1, y2, y3) := h6
      have e2 : u = (z1, z2, z3) := h7
      obtain rfl : is = true := h8.symm
      have hin2 := hin rfl
      subst hin2
      rw [e1] at e2
      simp only [Prod.mk.injEq] at e2
      obtain ⟨rfl, rfl, rfl⟩ := e2
      have hee : eqV (y1, y2, y3) (y1, y2, y3) = true := by simp [eqV]
      clear h5 h6 h7 h8 hu e1 hin
      go_wp2_with fail
      refine (alive_any _).mono ?_
      rintro e w8 ⟨rfl, hb8⟩
      go_wp2
      exact HR.out _ _ ⟨rfl, HO7.out.below.trans (hb8.mono HO7.out.below.size)⟩
    case false =>
      have hnone : ofO (ofL l) lba ep = none := by
        rw [HE.out.2.1]
        have := HSO.out
        cases OO with
        | none => rfl
        | some u => cases this
      have HAO := Lib.hid ((asOf_ahead (ofL_sorted l) lba ep hnone).trans HE.out.1)
      have hand : (is != (ins && is)) = false := by
        cases is with
        | true => rw [hin rfl]; rfl
        | false => cases ins <;> rfl
      clear hnone
      have hx : (ins = true ∧ is = true) ∨ (ins = true ∧ is = false) ∨ (ins = false ∧ is = false) := by
        cases is with
        | true => exact Or.inl ⟨hin rfl, rfl⟩
        | false => cases ins <;> simp
      clear hin hand
      have hep : (-1 : Int) ≤ ep - 1 := by omega
      rcases hx with ⟨rfl, rfl⟩ | ⟨rfl, rfl⟩ | ⟨rfl, rfl⟩
      all_goals
        go_wp2_with fail
        refine (newest_live n v _ lba (ep - 1) _ HO7.out.at_ (by omega)).mono ?_
        rintro e w8 ⟨rfl, hb8⟩
        rw [HAO.out, optV, HE.out.2.2.1, HIS.out]
        obtain ⟨W9, hW9⟩ : ∃ W9, w8.alloc (.cells #[.int .i64 y1, .int .i64 y2, .int .i64 y3] 27) = W9 := ⟨_, rfl⟩
        have hb9 : Below w8.heap.size w8 W9 := by rw [← hW9]; exact alloc_below w8 _
        have k9 : W9.heap[w8.heap.size]? = some (.cells #[.int .i64 y1, .int .i64 y2, .int .i64 y3] 27 (0, 0)) := by rw [← hW9]; exact alloc_new w8 _
        have hB9 := hb8.trans (hb9.mono hb8.size)
        have k4 := (hB9.block _ (lt_of_block HK.out.1)).trans HK.out.1
        have HB9 := Lib.hid (HO7.out.below.trans (hB9.mono HO7.out.below.size))
        clear a0 a1 a2 b0 b1 b2 hb8 hb9 hB9
        obtain ⟨a0, a1, a2, -, -, -⟩ := blk3 k4
        obtain ⟨b0, b1, b2, -, -, -⟩ := blk3 k9
        have hee : eqV (y1, y2, y3) (y1, y2, y3) = true := by simp [eqV]
        clear k4 k9
        go_wp2_with fail
        refine (alive_any _).mono ?_
        rintro e w10 ⟨rfl, hb10⟩
        go_wp2
        exact HR.out _ _ ⟨rfl, HB9.out.trans (hb10.mono HB9.out.size)⟩

end Go.Proofs.Ythhncdcmjejlmaa
