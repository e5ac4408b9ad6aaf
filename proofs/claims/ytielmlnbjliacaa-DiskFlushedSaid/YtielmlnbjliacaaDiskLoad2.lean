/- The program's disk: load. -/
import Derived.Test.YtielmlnbjliacaaDiskLoad
namespace Ks
open Go Go.RowKit
set_option linter.unusedVariables false
/-- may an image be? -/
def mayI (B : List ByteArray) (C : List PutT) : Bool :=
  decide (8 ≤ B.length ∧ B.length ≤ 1024 ∧ C.length ≤ 4096) && B.all (fun s => decide (s.size = 4096)) && C.all (fun p => decide (p.2.size = 4096 ∧ 0 ≤ p.1 ∧ p.1 < (B.length : Int)))
theorem mayI_len {B : List ByteArray} {C : List PutT} (h : ¬ (8 ≤ B.length ∧ B.length ≤ 1024 ∧ C.length ≤ 4096)) : mayI B C = false := by simp [mayI, h]
theorem mayI_blk {B : List ByteArray} {C : List PutT} (k : Nat) (hk : k < B.length) (h : B[k].size ≠ 4096) : mayI B C = false := by
  unfold mayI
  have : B.all (fun s => decide (s.size = 4096)) = false := by
    rw [List.all_eq_false]
    exact ⟨B[k], List.getElem_mem hk, by simp [h]⟩
  simp [this]
theorem mayI_put {B : List ByteArray} {C : List PutT} (p : PutT) (hp : p ∈ C) (h : ¬ (p.2.size = 4096 ∧ 0 ≤ p.1 ∧ p.1 < (B.length : Int))) : mayI B C = false := by
  unfold mayI
  have : C.all (fun p => decide (p.2.size = 4096 ∧ 0 ≤ p.1 ∧ p.1 < (B.length : Int))) = false := by
    rw [List.all_eq_false]
    exact ⟨p, hp, by simpa using h⟩
  rw [this, Bool.and_false]
theorem mayI_yes {B : List ByteArray} {C : List PutT} (h : 8 ≤ B.length ∧ B.length ≤ 1024 ∧ C.length ≤ 4096) (hb : ∀ k (hk : k < B.length), B[k].size = 4096) (hc : ∀ p ∈ C, p.2.size = 4096 ∧ 0 ≤ p.1 ∧ p.1 < (B.length : Int)) : mayI B C = true := by
  unfold mayI
  rw [Bool.and_eq_true, Bool.and_eq_true, decide_eq_true_eq, List.all_eq_true, List.all_eq_true]
  refine ⟨⟨h, fun s hs => ?_⟩, fun p hp => by simpa using hc p hp⟩
  obtain ⟨k, hk, rfl⟩ := List.mem_iff_getElem.1 hs
  simpa using hb k hk
theorem mayI_iff {B : List ByteArray} {C : List PutT} (h : mayI B C = true) : (8 ≤ B.length ∧ B.length ≤ 1024 ∧ C.length ≤ 4096) ∧ (∀ s ∈ B, s.size = 4096) ∧ ∀ p ∈ C, p.2.size = 4096 ∧ 0 ≤ p.1 ∧ p.1 < (B.length : Int) := by
  unfold mayI at h
  rw [Bool.and_eq_true, Bool.and_eq_true, decide_eq_true_eq, List.all_eq_true, List.all_eq_true] at h
  exact ⟨h.1.1, fun s hs => by simpa using h.1.2 s hs, fun p hp => by simpa using h.2 p hp⟩
end Ks
namespace Go.Proofs.Ytielmlnbjliacaa
open Go.RowKit Ks
set_option linter.unusedVariables false

theorem whole_any (t : ByteArray) (w : World) : Calls Try.prog 51 #[.string t] w fun e w' => e = .returned (.bool (decide (t.size = 4096))) ∧ w' = w := by
  refine calls_by fun R HR => ?_
  by_cases h : t.size = 4096
  · have hb : ((t.size : Int) == 4096) = true := by rw [h]; rfl
    have HV := Lib.hid (show decide (t.size = 4096) = true by simp [h])
    clear h
    go_enter Try.func51, Try.ntmps51
    go_wp2
    exact HR.out _ _ ⟨by rw [HV.out]; rfl, rfl⟩
  · have hb : ((t.size : Int) == 4096) = false := by rw [beq_eq_false_iff_ne]; omega
    have HV := Lib.hid (show decide (t.size = 4096) = false by simp [h])
    clear h
    go_enter Try.func51, Try.ntmps51
    go_wp2
    exact HR.out _ _ ⟨by rw [HV.out]; rfl, rfl⟩

set_option maxRecDepth 100000 in
set_option maxHeartbeats 8000000 in
theorem dload_any (va vd : Value) (B : List ByteArray) (C : List PutT) (w : World) (ha : Rd strE w va B) (hd : Rd pwE w vd C) (hB : B.length ≤ maxLen) (hC : C.length ≤ maxLen) :
    Calls Try.prog 27 #[.agg #[va, vd]] w fun e w' => ((mayI B C = false → e = .returned (.tuple #[.pointer none, .int .i64 2])) ∧ (mayI B C = true → ∃ n vb vc, e = .returned (.tuple #[.pointer (some ⟨n, 0, none⟩), .int .i64 0]) ∧ DkAt w' n vb vc ⟨B, C, false, 0⟩ ∧ ∀ k, DF n vb vc k → w.heap.size ≤ k)) ∧ Below w.heap.size w w' := by
  unfold maxLen at hB hC
  refine calls_by fun R HR => ?_
  obtain ⟨aa, ca, hva, _⟩ := ha.shape
  obtain ⟨ad, cd, hvd, _⟩ := hd.shape
  have HH := Lib.hid (And.intro ha hd)
  subst hva hvd
  have HFAIL : Hid (mayI B C = false → ∀ w', Below w.heap.size w w' → R (.returned (.tuple #[.pointer none, .int .i64 2])) w') := Lib.hid fun h w' hb => HR.out _ _ ⟨⟨fun _ => rfl, fun h2 => by rw [h] at h2; cases h2⟩, hb⟩
  clear ha hd
  by_cases h1 : 8 ≤ B.length ∧ B.length ≤ 1024 ∧ C.length ≤ 4096
  · obtain ⟨h11, h12, h13⟩ := h1
    have i1 : ¬ (B.length : Int) < 8 := by omega
    have i2 : ¬ (1024 : Int) < (B.length : Int) := by omega
    have i3 : ¬ (4096 : Int) < (C.length : Int) := by omega
    have HL := Lib.hid (And.intro h11 (And.intro h12 h13))
    clear h11 h12 h13
    go_enter Try.func27, Try.ntmps27
    go_wp2_with fail
    generalize hrb : w.heap.size = rb at *
    have hbk := alloc_new w (.cells #[.slice aa B.length ca, .slice ad C.length cd] 40)
    rw [hrb] at hbk
    have hb0 := alloc_below w (.cells #[.slice aa B.length ca, .slice ad C.length cd] 40)
    rw [hrb] at hb0
    have HB := Lib.hid (And.intro hbk (And.intro hb0 hrb))
    clear hbk hb0 hrb
    generalize w.alloc (.cells #[.slice aa B.length ca, .slice ad C.length cd] 40) = W at *
    go_loopw [28] (fun i wx => ∃ k : Nat, k ≤ B.length ∧ i = .int .i64 k ∧ Hid (∀ j (hj : j < B.length), j < k → B[j].size = 4096) ∧ wx = W) (fun i _ => B.length - (intOf i).toNat)
    case atStart => exact ⟨0, by omega, rfl, Lib.hid fun j hj h => by omega, rfl⟩
    case round =>
      obtain ⟨k, hk, rfl, hS, rfl⟩ := hrel
      by_cases hlt : k < B.length
      · have hrd : Rd strE wr (.slice aa B.length ca) B := HH.out.1.below (by rw [HB.out.2.2]; exact HB.out.2.1)
        obtain ⟨b1, o1, rfl, hb1, hc1⟩ := hrd.str k hlt
        have HBK := Lib.hid (fun (h : B[k].size ≠ 4096) => mayI_blk (C := C) k hlt h)
        have HSK : Hid (B[k].size = 4096 → ∀ j (hj : j < B.length), j < k + 1 → B[j].size = 4096) := Lib.hid fun h j hj hjk => by
          by_cases e : j = k
          · subst e; exact h
          · exact hS.out j hj (by omega)
        generalize B[k] = t at *
        clear hrd hb1
        go_wp2_with fail
        refine (whole_any t _).mono ?_
        rintro e w1 ⟨rfl, rfl⟩
        by_cases ht : t.size = 4096
        · have HT := Lib.hid ht
          rw [show decide (t.size = 4096) = true by simp [ht]]
          clear ht
          go_wp2_with fail
          go_roundw
          case rel => exact ⟨k + 1, by omega, by go_num, Lib.hid (HSK.out HT.out), trivial⟩
          case measure => simp [intOf]; omega
        · have HT := Lib.hid ht
          rw [show decide (t.size = 4096) = false by simp [ht]]
          clear ht
          go_wp2
          exact HFAIL.out (HBK.out HT.out) _ HB.out.2.1
      · obtain rfl : k = B.length := by omega
        have HSB := Lib.hid (fun j (hj : j < B.length) => hS.out j hj hj)
        clear hS hlt hk
        obtain ⟨wo, rfl⟩ : ∃ wo : World, wr = wo := ⟨_, rfl⟩
        obtain ⟨g0, g1, -, -⟩ := blk2 HB.out.1
        go_wp2_with fail
        go_loopw [40] (fun i wx => ∃ k : Nat, k ≤ C.length ∧ i = .int .i64 k ∧ Hid (∀ p ∈ C.take k, p.2.size = 4096 ∧ 0 ≤ p.1 ∧ p.1 < (B.length : Int)) ∧ Hid (Below wr.heap.size wr wx)) (fun i _ => C.length - (intOf i).toNat)
        case atStart => exact ⟨0, by omega, rfl, Lib.hid fun p hp => by simp at hp, Lib.hid (Below.refl _ _)⟩
        case round =>
          obtain ⟨k, hk, rfl, hS, hN⟩ := hrel
          obtain ⟨q0, q1, -, -⟩ := blk2 (blk_on hN.out HB.out.1)
          by_cases hlt : k < C.length
          · have hrd : Rd pwE wr (.slice ad C.length cd) C := (HH.out.2.below (by rw [HB.out.2.2]; exact HB.out.2.1)).below hN.out
            obtain ⟨p, hp⟩ : ∃ p, C[k]? = some p := ⟨_, List.getElem?_eq_getElem hlt⟩
            obtain ⟨b1, o1, rfl, hb1, d0, d1⟩ := hrd.putAt k p hp
            have HNO := Lib.hid (mayI_put (B := B) p (List.mem_of_getElem? hp))
            have HYES : Hid (p.2.size = 4096 ∧ 0 ≤ p.1 ∧ p.1 < (B.length : Int) → ∀ q ∈ C.take (k + 1), q.2.size = 4096 ∧ 0 ≤ q.1 ∧ q.1 < (B.length : Int)) := Lib.hid fun h q hq => by
              rw [List.take_succ_eq_append_getElem hlt, List.mem_append, List.mem_singleton] at hq
              rcases hq with hq | hq
              · exact hS.out q hq
              · rw [hq, (List.getElem?_eq_some_iff.1 hp).2]; exact h
            obtain ⟨pa, pd⟩ := p
            simp only at d0 d1 HNO HYES
            have HA := Lib.hid (below_on hN.out (alloc_below wr (.cells #[.int .i64 pa, .string pd] 75)))
            have q0a := (cell_on (Below.refl wr.heap.size wr) q0).2 (.cells #[.int .i64 pa, .string pd] 75)
            clear hrd hb1 hp g0 g1
            go_wp2_with fail
            refine (whole_any pd _).mono ?_
            rintro e w1 ⟨rfl, rfl⟩
            have HBB := Lib.hid (HB.out.2.1.trans (HA.out.mono (by have := HB.out.2.1.size; rw [HB.out.2.2] at this; omega)))
            by_cases hz : pd.size = 4096
            · rw [show decide (pd.size = 4096) = true by simp [hz]]
              have HZ := Lib.hid hz
              clear hz
              by_cases hneg : pa < 0
              · have hF := Lib.hid (HNO.out (by omega))
                go_wp2
                exact HFAIL.out hF.out _ HBB.out
              · by_cases hbig : (B.length : Int) ≤ pa
                · have hF := Lib.hid (HNO.out (by omega))
                  go_wp2
                  exact HFAIL.out hF.out _ HBB.out
                · have HY := Lib.hid (HYES.out ⟨HZ.out, by omega, by omega⟩)
                  go_wp2_with fail
                  go_roundw
                  case rel => exact ⟨k + 1, by omega, by go_num, HY, HA⟩
                  case measure => simp [intOf]; omega
            · rw [show decide (pd.size = 4096) = false by simp [hz]]
              have hF := Lib.hid (HNO.out (by omega))
              clear hz
              go_wp2
              exact HFAIL.out hF.out _ HBB.out
          · obtain rfl : k = C.length := by omega
            have HMAY := Lib.hid (mayI_yes HL.out HSB.out fun p hp => by have := hS.out; rw [List.take_length] at this; exact this p hp)
            have HW := Lib.hid (HB.out.2.1.trans (hN.out.mono (by have := HB.out.2.1.size; rw [HB.out.2.2] at this; omega)))
            have hrb := lt_of_block HB.out.1
            have hrb2 : rb < wr.heap.size := Nat.lt_of_lt_of_le hrb hN.out.size
            have HRB := Lib.hid hrb2
            clear hlt hk hS g0 g1 hrb hrb2
            have HCB : Hid (∀ W', Below wr.heap.size wr W' → Calls Try.prog 44 #[.slice aa B.length ca] W' fun e w' => ∃ v', e = .returned v' ∧ (Row strE w' W'.heap.size 9 v' B ∧ Below W'.heap.size W' w')) := Lib.hid fun W' hb => dclone_str _ _ _ ((HH.out.1.below (by rw [HB.out.2.2]; exact HW.out)).below hb) (by have := HL.out; omega)
            have HCC : Hid (∀ W', Below wr.heap.size wr W' → Calls Try.prog 45 #[.slice ad C.length cd] W' fun e w' => ∃ v', e = .returned v' ∧ (Row pwE w' W'.heap.size 75 v' C ∧ Below W'.heap.size W' w')) := Lib.hid fun W' hb => dclone_put _ _ _ ((HH.out.2.below (by rw [HB.out.2.2]; exact HW.out)).below hb) (by have := HL.out; omega)
            go_wp2_with fail
            have d0 : wr.drew.cell? ⟨rb, 0, none⟩ = some (.slice aa B.length ca) := q0
            have d1 : wr.drew.cell? ⟨rb, 1, none⟩ = some (.slice ad C.length cd) := q1
            have hbb0 := drew_below wr
            clear q0 q1
            go_region_law (first
              | ((refine step_call rfl 44 _ _ rfl eg_cs #[.slice aa B.length ca] ?_ (HCB.out _ ?_) ?_; rfl; assumption; rintro v w2 ⟨hr1, hb1⟩; obtain ⟨a1, n1, k1, rfl⟩ := hr1.any; have hbb1 := below_on (w := wr) (by assumption) hb1; obtain ⟨e0, -⟩ := cell_on (n := rb) (o := 0) hb1 (by assumption); obtain ⟨e1, -⟩ := cell_on (n := rb) (o := 1) hb1 (by assumption)))
              | ((refine step_call rfl 45 _ _ rfl eg_cp #[.slice ad C.length cd] ?_ (HCC.out _ ?_) ?_; rfl; assumption; rintro v w2 ⟨hr2, hb2⟩; obtain ⟨a2, n2, k2, rfl⟩ := hr2.any; have hbb2 := below_on (w := wr) (by assumption) hb2; obtain ⟨f0, -⟩ := cell_on (n := rb) (o := 0) hb2 (by assumption); obtain ⟨f1, -⟩ := cell_on (n := rb) (o := 1) hb2 (by assumption))))
            all_goals first
            | (
              have R1 : Row strE w2 wr.heap.size 9 (.slice a1 n1 k1) B := by first | exact (hr1.below hb2).down (Nat.le_refl _) | exact hr1.down hbb2.size
              have R2 : Row pwE w2 wr.heap.size 75 (.slice a2 n2 k2) C := by first | exact (hr2.below hb1).down (Nat.le_refl _) | exact hr2.down hbb1.size
              have hbf : Below wr.heap.size wr w2 := by first | exact hbb2 | exact hbb1
              have hdis : ∀ b, (Value.slice a1 n1 k1).ownBlock = some b → (Value.slice a2 n2 k2).ownBlock ≠ some b := fun b e1 e2 => by
                first
                | (have h1 := hr1.own_lt e1; have h2 := (hr2.lt e2).1; omega)
                | (have h1 := hr2.own_lt e2; have h2 := (hr1.lt e1).1; omega)
              have HX := Lib.hid (And.intro R1 (And.intro R2 (And.intro hbf hdis)))
              clear R1 R2 hbf hdis
              go_simp
              go_wp2
              refine HR.out _ _ ⟨⟨fun h2 => by rw [HMAY.out] at h2; (exact absurd h2 (by decide)), fun _ => ⟨w2.heap.size, .slice a1 n1 k1, .slice a2 n2 k2, rfl, ?_, ?_⟩⟩, ?_⟩
              · have hA := alloc_below w2 (.cells #[.slice a1 n1 k1, .slice a2 n2 k2, .bool true, .bool false, .int .i64 0] 48)
                have hM := mayI_iff HMAY.out
                exact ⟨alloc_new _ _, (HX.out.1.down (Nat.zero_le _)).below hA, (HX.out.2.1.down (Nat.zero_le _)).below hA, (fun e => by have := HX.out.1.own_lt e; omega), (fun e => by have := HX.out.2.1.own_lt e; omega), HX.out.2.2.2, ⟨hM.1.2.1, hM.1.2.2, fun p hp => ⟨(hM.2.2 p hp).2.1, (hM.2.2 p hp).2.2⟩, Nat.zero_le _⟩⟩
              · intro k hk
                have hz := HX.out.2.2.1.size
                have hz2 := HRB.out
                rcases hk with rfl | e | e
                · omega
                · have := (HX.out.1.lt e).1; omega
                · have := (HX.out.2.1.lt e).1; omega
              · have hz2 := HRB.out
                have hz := HX.out.2.2.1.size
                exact (HW.out.trans (HX.out.2.2.1.mono (by omega))).alloc (by omega) _)
            | (trace_state; fail)
  · have hno := mayI_len h1
    have HNO := Lib.hid hno
    clear hno
    have h4 : (B.length : Int) < 8 ∨ (¬ (B.length : Int) < 8 ∧ (1024 : Int) < (B.length : Int)) ∨ (¬ (B.length : Int) < 8 ∧ ¬ (1024 : Int) < (B.length : Int) ∧ (4096 : Int) < (C.length : Int)) := by omega
    clear h1
    rcases h4 with h4 | ⟨h4, h5⟩ | ⟨h4, h5, h6⟩
    all_goals
      go_enter Try.func27, Try.ntmps27
      go_wp2
      exact HFAIL.out HNO.out _ (alloc_below _ _)
end Go.Proofs.Ytielmlnbjliacaa
