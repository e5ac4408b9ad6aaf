/- The reference's disk: may an image be? a text as a block. -/
import Derived.Test.YtielmlnbjliacaaRDiskFlush
import Derived.Test.YtielmlnbjliacaaDiskLoad2
namespace Go.Proofs.Ytielmlnbjliacaa
open Go.RowKit Ks
set_option linter.unusedVariables false

set_option maxRecDepth 100000 in
set_option maxHeartbeats 8000000 in
theorem rmay_any (va vd : Value) (B : List ByteArray) (C : List PutT) (w : World) (ha : Rd strE w va B) (hd : Rd pwE w vd C) (hB : B.length ≤ maxLen) (hC : C.length ≤ maxLen) :
    Calls Try.prog 52 #[.agg #[va, vd]] w fun e w' => e = .returned (.bool (mayI B C)) ∧ Below w.heap.size w w' := by
  unfold maxLen at hB hC
  refine calls_by fun R HR => ?_
  obtain ⟨aa, ca, hva, _⟩ := ha.shape
  obtain ⟨ad, cd, hvd, _⟩ := hd.shape
  have HH := Lib.hid (And.intro ha hd)
  subst hva hvd
  have HFAIL : Hid (mayI B C = false → ∀ w', Below w.heap.size w w' → R (.returned (.bool false)) w') := Lib.hid fun h w' hb => HR.out _ _ ⟨by rw [h], hb⟩
  clear ha hd
  by_cases h1 : 8 ≤ B.length ∧ B.length ≤ 1024 ∧ C.length ≤ 4096
  · obtain ⟨h11, h12, h13⟩ := h1
    have i1 : ¬ (B.length : Int) < 8 := by omega
    have i2 : ¬ (1024 : Int) < (B.length : Int) := by omega
    have i3 : ¬ (4096 : Int) < (C.length : Int) := by omega
    have HL := Lib.hid (And.intro h11 (And.intro h12 h13))
    clear h11 h12 h13
    go_enter Try.func52, Try.ntmps52
    go_wp2_with fail
    generalize hrb : w.heap.size = rb at *
    have hbk := alloc_new w (.cells #[.slice aa B.length ca, .slice ad C.length cd] 40)
    rw [hrb] at hbk
    have hb0 := alloc_below w (.cells #[.slice aa B.length ca, .slice ad C.length cd] 40)
    rw [hrb] at hb0
    have HB := Lib.hid (And.intro hbk (And.intro hb0 hrb))
    clear hbk hb0 hrb
    generalize w.alloc (.cells #[.slice aa B.length ca, .slice ad C.length cd] 40) = W at *
    go_loopw [3] (fun i wx => ∃ k : Nat, k ≤ B.length ∧ i = .int .i64 k ∧ Hid (∀ j (hj : j < B.length), j < k → B[j].size = 4096) ∧ wx = W) (fun i _ => B.length - (intOf i).toNat)
    case atStart => exact ⟨0, by omega, rfl, Lib.hid fun j hj h => by omega, rfl⟩
    case round =>
      obtain ⟨k, hk, rfl, hS, rfl⟩ := hrel
      by_cases hlt : k < B.length
      · have hrd : Rd strE wr (.slice aa B.length ca) B := HH.out.1.below (by rw [HB.out.2.2]; exact HB.out.2.1)
        obtain ⟨b1, o1, rfl, hb1, hc1⟩ := hrd.str k hlt
        have HBK := Lib.hid (fun (h : B[k].size ≠ 4096) => mayI_blk (C := C) k hlt h)
        have HSK : Hid (B[k].size = 4096 → ∀ j (hj : j < B.length), j < k + 1 → B[j].size = 4096) := Lib.hid fun h j hj hjk => by
          by_cases e : j = k
          · subst e; exact h
          · exact hS.out j hj (by omega)
        obtain ⟨g0, g1, -, -⟩ := blk2 HB.out.1
        generalize B[k] = t at *
        clear hrd hb1
        by_cases ht : t.size = 4096
        · have HT := Lib.hid ht
          have hne : ((t.size : Int) != 4096) = false := by simp; omega
          clear ht
          go_wp2_with fail
          go_roundw
          case rel => exact ⟨k + 1, by omega, by go_num, Lib.hid (HSK.out HT.out), trivial⟩
          case measure => simp [intOf]; omega
        · have HT := Lib.hid ht
          have hne : ((t.size : Int) != 4096) = true := by simp; omega
          clear ht
          go_wp2
          exact HFAIL.out (HBK.out HT.out) _ HB.out.2.1
      · obtain rfl : k = B.length := by omega
        have HSB := Lib.hid (fun j (hj : j < B.length) => hS.out j hj hj)
        clear hS hlt hk
        obtain ⟨wo, rfl⟩ : ∃ wo : World, wr = wo := ⟨_, rfl⟩
        obtain ⟨g0, g1, -, -⟩ := blk2 HB.out.1
        go_wp2_with fail
        go_loopw [4] (fun i wx => ∃ k : Nat, k ≤ C.length ∧ i = .int .i64 k ∧ Hid (∀ p ∈ C.take k, p.2.size = 4096 ∧ 0 ≤ p.1 ∧ p.1 < (B.length : Int)) ∧ Hid (Below wr.heap.size wr wx)) (fun i _ => C.length - (intOf i).toNat)
        case atStart => exact ⟨0, by omega, rfl, Lib.hid fun p hp => by simp at hp, Lib.hid (Below.refl _ _)⟩
        case round =>
          obtain ⟨k, hk, rfl, hS, hN⟩ := hrel
          obtain ⟨q0, q1, -, -⟩ := blk2 (blk_on hN.out HB.out.1)
          by_cases hlt : k < C.length
          · have hrd : Rd pwE wr (.slice ad C.length cd) C := (HH.out.2.below (by rw [HB.out.2.2]; exact HB.out.2.1)).below hN.out
            obtain ⟨p, hp⟩ : ∃ p, C[k]? = some p := ⟨_, List.getElem?_eq_getElem hlt⟩
            obtain ⟨b1, o1, rfl, hb1, d0, d1⟩ := hrd.putAt k p hp
            have HNO := Lib.hid (mayI_put (B := B) p (List.mem_of_getElem? hp))
            have HYES : Hid (p.2.size = 4096 ∧ 0 ≤ p.1 ∧ p.1 < (B.length : Int) → ∀ q ∈ C.take (k + 1), q.2.size = 4096 ∧ 0 ≤ q.1 ∧ q.1 < (B.length : Int)) := Lib.hid fun h q hq => by
              rw [List.take_succ_eq_append_getElem hlt, List.mem_append, List.mem_singleton] at hq
              rcases hq with hq | hq
              · exact hS.out q hq
              · rw [hq, (List.getElem?_eq_some_iff.1 hp).2]; exact h
            obtain ⟨pa, pd⟩ := p
            simp only at d0 d1 HNO HYES
            have HA : Hid (∀ q, Below _ _ (wr.drewN q)) := Lib.hid fun q => below_drewN hN.out q
            have HBB := Lib.hid fun q => (HB.out.2.1.trans ((HA.out q).mono (by have := HB.out.2.1.size; rw [HB.out.2.2] at this; omega)))
            clear hrd hb1 hp g0 g1
            by_cases hz : pd.size = 4096
            · have hne : ((pd.size : Int) != 4096) = false := by simp; omega
              by_cases hneg : pa < 0
              · have hF := Lib.hid (HNO.out (by omega))
                clear hz
                go_wp2
                go_quiet (fail)
                go_wp2
                exact HFAIL.out hF.out _ (HBB.out _)
              · by_cases hbig : (B.length : Int) ≤ pa
                · have hF := Lib.hid (HNO.out (by omega))
                  clear hz
                  go_wp2
                  go_quiet (fail)
                  go_wp2
                  exact HFAIL.out hF.out _ (HBB.out _)
                · have HY := Lib.hid (HYES.out ⟨hz, by omega, by omega⟩)
                  clear hz
                  go_wp2_with fail
                  go_quiet (fail)
                  go_wp2_with fail
                  go_roundw
                  case rel => exact ⟨k + 1, by omega, by go_num, HY, Lib.hid (HA.out _)⟩
                  case measure => simp [intOf]; omega
            · have hF := Lib.hid (HNO.out (by omega))
              have hne : ((pd.size : Int) != 4096) = true := by simp; omega
              clear hz
              go_wp2
              go_quiet (fail)
              go_wp2
              exact HFAIL.out hF.out _ (HBB.out _)
          · obtain rfl : k = C.length := by omega
            have HMAY := Lib.hid (mayI_yes HL.out HSB.out fun p hp => by have := hS.out; rw [List.take_length] at this; exact this p hp)
            have HW := Lib.hid (HB.out.2.1.trans (hN.out.mono (by have := HB.out.2.1.size; rw [HB.out.2.2] at this; omega)))
            go_wp2
            exact HR.out _ _ ⟨by rw [HMAY.out] <;> rfl, HW.out⟩
  · have hno := mayI_len h1
    have HNO := Lib.hid hno
    clear hno
    have h4 : (B.length : Int) < 8 ∨ (¬ (B.length : Int) < 8 ∧ (1024 : Int) < (B.length : Int)) ∨ (¬ (B.length : Int) < 8 ∧ ¬ (1024 : Int) < (B.length : Int) ∧ (4096 : Int) < (C.length : Int)) := by omega
    clear h1
    rcases h4 with h4 | ⟨h4, h5⟩ | ⟨h4, h5, h6⟩
    all_goals
      go_enter Try.func52, Try.ntmps52
      go_wp2
      exact HFAIL.out HNO.out _ (alloc_below _ _)
end Go.Proofs.Ytielmlnbjliacaa
