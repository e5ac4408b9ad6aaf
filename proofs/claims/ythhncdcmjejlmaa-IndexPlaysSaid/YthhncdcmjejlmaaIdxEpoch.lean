/- The index: how many places; the newest versions of an epoch. -/
import Derived.Test.YthhncdcmjejlmaaIdxMore
import Derived.Deep.LoopGhost
namespace Ks
open Go Go.RowKit
set_option linter.unusedVariables false
set_option linter.unusedSimpArgs false

def plStep (s : Int × Int) (v : Ver) : Int × Int := (if v.1 = s.2 then s.1 else s.1 + 1, v.1)
def plF (L : List Ver) : Int × Int := L.foldl plStep (0, -1)
def epStep (e : Int) (acc : List Ver) (v : Ver) : List Ver := if v.2.1 = e then (match acc.getLast? with | some u => if u.1 = v.1 then acc.dropLast ++ [v] else acc ++ [v] | none => acc ++ [v]) else acc
def epF (e : Int) (L : List Ver) : List Ver := L.foldl (epStep e) []
theorem take_snocV {α : Type} (l : List α) (k : Nat) (x : α) (h : l[k]? = some x) : l.take (k + 1) = l.take k ++ [x] := by
  rw [List.take_add_one, h]; rfl
theorem plF_snoc (L : List Ver) (k : Nat) (x : Ver) (h : L[k]? = some x) : plF (L.take (k + 1)) = plStep (plF (L.take k)) x := by
  rw [plF, take_snocV L k x h, List.foldl_append]; rfl
theorem epF_snoc (e : Int) (L : List Ver) (k : Nat) (x : Ver) (h : L[k]? = some x) : epF e (L.take (k + 1)) = epStep e (epF e (L.take k)) x := by
  rw [epF, take_snocV L k x h, List.foldl_append]; rfl
theorem plF_le (L : List Ver) : 0 ≤ (plF L).1 ∧ (plF L).1 ≤ L.length := by
  have key : ∀ (L : List Ver) (s : Int × Int), s.1 ≤ (L.foldl plStep s).1 ∧ (L.foldl plStep s).1 ≤ s.1 + L.length := by
    intro L
    induction L with
    | nil => intro s; simp
    | cons x L ih =>
      intro s
      have := ih (plStep s x)
      rw [List.foldl_cons, List.length_cons]
      have h2 : s.1 ≤ (plStep s x).1 ∧ (plStep s x).1 ≤ s.1 + 1 := by unfold plStep; simp only; split <;> omega
      omega
  have := key L (0, -1)
  unfold plF
  omega
theorem epStep_length (e : Int) (acc : List Ver) (v : Ver) : (epStep e acc v).length ≤ acc.length + 1 := by
  unfold epStep
  split
  · cases h : acc.getLast? with
    | none => simp
    | some u =>
      simp only
      split <;> simp <;> omega
  · omega
theorem epF_length (e : Int) (L : List Ver) : (epF e L).length ≤ L.length := by
  have key : ∀ (L : List Ver) (s : List Ver), (L.foldl (epStep e) s).length ≤ s.length + L.length := by
    intro L
    induction L with
    | nil => intro s; simp
    | cons x L ih =>
      intro s
      have := ih (epStep e s x)
      have := epStep_length e s x
      rw [List.foldl_cons, List.length_cons]
      omega
  have := key L []
  simpa [epF] using this

/-- an element of an own row written anew -/
theorem Row.put3 {w : World} {B : Nat} {T : TypeId} {g n cap : Nat} {L : List Ver} (h : Row verE w B T (.slice (some ⟨g, 0, none⟩) n cap) L) (i : Nat) (hi : i < L.length) (x : Ver) :
    Row verE (((w.setCell ⟨g, i * 3, none⟩ (.int .i64 x.1)).setCell ⟨g, i * 3 + 1, none⟩ (.int .i64 x.2.1)).setCell ⟨g, i * 3 + 2, none⟩ (.int .i64 x.2.2)) B T (.slice (some ⟨g, 0, none⟩) n cap) (L.set i x) := by
  rcases h.2 with ⟨e, _⟩ | ⟨g', cap', cur, e, hB, hg, hn, hm, hs, ht⟩
  · cases e
  · have hk : verE.k = 3 := rfl
    simp only [Value.slice.injEq, Option.some.injEq, Addr.mk.injEq, and_true, true_and] at e
    obtain ⟨rfl, hnl, rfl⟩ := e
    subst hnl
    rw [hk] at hs ht
    refine ⟨verE.cs_length _, Or.inr ⟨g, cap, ((cur.setIfInBounds (i * 3) (.int .i64 x.1)).setIfInBounds (i * 3 + 1) (.int .i64 x.2.1)).setIfInBounds (i * 3 + 2) (.int .i64 x.2.2), by rw [List.length_set], hB, ?_, by rw [List.length_set]; exact hn, hm, by simp [hk, hs], ?_⟩⟩
    · simp [World.setCell, Array.getElem?_modify, hg]
    · rw [List.length_set, hk]
      refine List.ext_getElem? fun m => ?_
      rw [List.getElem?_take]
      split
      · next hlt =>
        have hj : m / 3 < L.length := by omega
        have hr : m % 3 < 3 := by omega
        have hm3 : m / 3 * 3 + m % 3 = m := by omega
        have hold : cur.toList[m]? = (verC L[m / 3])[m % 3]? := by
          have h1 := verE.cs_get L (m / 3) L[m / 3] (List.getElem?_eq_getElem hj) (m % 3) hr
          rw [hk, hm3] at h1
          rw [← ht, List.getElem?_take, if_pos hlt] at h1
          exact h1
        have hms : m < cur.size := by omega
        by_cases hij : m / 3 = i
        · have hgx : (L.set i x)[m / 3]? = some x := by rw [hij, List.getElem?_set_self hi]
          have h2 := verE.cs_get (L.set i x) (m / 3) x hgx (m % 3) hr
          rw [hk, hm3] at h2
          rw [h2]
          have h3 : m = i * 3 ∨ m = i * 3 + 1 ∨ m = i * 3 + 2 := by omega
          rcases h3 with rfl | rfl | rfl
          · rw [show i * 3 % 3 = 0 by omega]
            simp [verE, verC, Array.getElem?_setIfInBounds, hms]
          · rw [show (i * 3 + 1) % 3 = 1 by omega]
            simp [verE, verC, Array.getElem?_setIfInBounds, hms]
          · rw [show (i * 3 + 2) % 3 = 2 by omega]
            simp [verE, verC, Array.getElem?_setIfInBounds, hms]
        · have hgx : (L.set i x)[m / 3]? = some L[m / 3] := by rw [List.getElem?_set_ne (fun e => hij e.symm), List.getElem?_eq_getElem hj]
          have h2 := verE.cs_get (L.set i x) (m / 3) L[m / 3] hgx (m % 3) hr
          rw [hk, hm3] at h2
          rw [h2]
          show _ = (verC L[m / 3])[m % 3]?
          rw [← hold]
          have n1 : ¬ i * 3 = m := by omega
          have n2 : ¬ i * 3 + 1 = m := by omega
          have n3 : ¬ i * 3 + 2 = m := by omega
          simp [Array.getElem?_setIfInBounds, n1, n2, n3]
      · next hlt =>
        rw [List.getElem?_eq_none (by rw [verE.cs_length, List.length_set, hk]; omega)]
end Ks
namespace Go.Proofs.Ythhncdcmjejlmaa
open Go.RowKit Ks
set_option linter.unusedVariables false

set_option maxHeartbeats 2000000 in
theorem places_gen (nv : Value) (L : List Ver) (w : World) (hlen : L.length ≤ 1000000) (h : Calls Try.prog 15 #[nv] w fun e w' => ∃ v', e = .returned v' ∧ Rd verE w' v' L ∧ Below w.heap.size w w') :
    Calls Try.prog 17 #[nv] w fun e w' => e = .returned (.int .i64 (plF L).1) ∧ Below w.heap.size w w' := by
  refine calls_by fun R HR => ?_
  have HC := Lib.hid h
  go_enter Try.func17, Try.ntmps17
  go_wp2_with fail
  refine HC.out.mono ?_
  rintro e w1 ⟨v', rfl, hr, hb⟩
  have HL := Lib.hid hr
  obtain ⟨a, cap, hv, hcap, -⟩ := hr.shape
  subst hv
  clear hr HC
  go_wp2
  go_loopg [10, 3, 4] L.length (fun g i c s wr => ∃ (k : Nat), k + g = L.length ∧ i = .int .i64 k ∧ c = .int .i64 (plF (L.take k)).1 ∧ s = .int .i64 (plF (L.take k)).2 ∧ Below w1.heap.size w1 wr)
  case atStart => exact ⟨0, by omega, rfl, rfl, rfl, Below.refl _ _⟩
  case round =>
    obtain ⟨k, hk, rfl, rfl, rfl, hbel⟩ := hrel
    by_cases hlt : k < L.length
    · obtain ⟨x, hx⟩ : ∃ x, L[k]? = some x := ⟨_, List.getElem?_eq_getElem hlt⟩
      obtain ⟨b, o, ha, hb', dd⟩ := (HL.out.below hbel).at k x hx
      subst ha
      have HS := Lib.hid (plF_snoc L k x hx)
      have hle := plF_le (L.take k)
      rw [List.length_take] at hle
      obtain ⟨x1, x2, x3⟩ := x
      have d0 : wr.cell? ⟨b, o + k * 3, none⟩ = some (.int .i64 x1) := dd 0 _ rfl
      have d1 : wr.cell? ⟨b, o + k * 3 + 1, none⟩ = some (.int .i64 x2) := dd 1 _ rfl
      have d2 : wr.cell? ⟨b, o + k * 3 + 2, none⟩ = some (.int .i64 x3) := dd 2 _ rfl
      obtain ⟨⟨cn, was⟩, hc⟩ : ∃ s, plF (L.take k) = s := ⟨_, rfl⟩
      rw [hc] at hle ⊢
      simp only at hle ⊢
      have HC := Lib.hid hc
      have HB := Lib.hid (hbel.alloc hbel.size (.cells #[.int .i64 x1, .int .i64 x2, .int .i64 x3] 27))
      clear dd hx hc
      by_cases he : x1 = was
      · have hbb : (x1 != was) = false := by simp [he]
        have Q := Lib.hid (show plF (L.take (k + 1)) = (cn, x1) by rw [HS.out, HC.out, plStep]; simp [he])
        clear he
        go_wp2
        go_roundg (gk - 1)
        case measure => omega
        case rel => exact ⟨k + 1, by omega, by go_num, by rw [Q.out], by rw [Q.out], HB.out⟩
      · have hbb : (x1 != was) = true := by simp [he]
        have Q := Lib.hid (show plF (L.take (k + 1)) = (cn + 1, x1) by rw [HS.out, HC.out, plStep]; simp [he])
        have hcn : cn ≤ 1000000 := by omega
        have hcn0 : 0 ≤ cn := hle.1
        clear he
        go_wp2
        go_roundg (gk - 1)
        case measure => omega
        case rel => exact ⟨k + 1, by omega, by go_num, by rw [Q.out], by rw [Q.out], HB.out⟩
    · obtain rfl : k = L.length := by omega
      rw [List.take_length]
      go_wp2
      exact HR.out _ _ ⟨rfl, hb.trans (hbel.mono hb.size)⟩

theorem places_live (n : Nat) (v : Value) (L : List Ver) (w : World) (h : IdxAt w 46 27 n v L) (hlen : L.length ≤ 1000000) :
    Calls Try.prog 17 #[.pointer (some ⟨n, 0, none⟩)] w fun e w' => e = .returned (.int .i64 (plF L).1) ∧ Below w.heap.size w w' :=
  places_gen _ L w hlen ((all_live n v L w h hlen).mono fun _ _ ⟨v', he, hr, hb⟩ => ⟨v', he, hr.rd, hb⟩)
theorem places_dead (nv : Value) (w : World) (h : Dead w 46 nv) :
    Calls Try.prog 17 #[nv] w fun e w' => e = .returned (.int .i64 0) ∧ Below w.heap.size w w' :=
  places_gen _ [] w (by simp) ((all_dead nv w h).mono fun _ w' ⟨he, hw⟩ => ⟨_, he, Rd.nil _, by rw [hw]; exact Below.refl _ _⟩)

set_option maxHeartbeats 4000000 in
theorem epoch_gen (nv : Value) (L : List Ver) (ep : Int) (w : World) (hlen : L.length ≤ 1000000) (h : Calls Try.prog 15 #[nv] w fun e w' => ∃ v', e = .returned v' ∧ Rd verE w' v' L ∧ Below w.heap.size w w') :
    Calls Try.prog 20 #[nv, .int .i64 ep] w fun e w' => ∃ v', e = .returned v' ∧ Row verE w' w.heap.size 27 v' (epF ep L) ∧ Below w.heap.size w w' := by
  refine calls_by fun R HR => ?_
  have HC := Lib.hid h
  go_enter Try.func20, Try.ntmps20
  go_wp2_with fail
  refine HC.out.mono ?_
  rintro e w1 ⟨v', rfl, hr, hb⟩
  have HL := Lib.hid hr
  obtain ⟨a, cap, hv, hcap, -⟩ := hr.shape
  subst hv
  clear hr HC
  go_wp2
  go_loopg [12, 5] L.length (fun g i r wr => ∃ (k : Nat), k + g = L.length ∧ i = .int .i64 k ∧ Row verE wr w1.heap.size 27 r (epF ep (L.take k)) ∧ Below w1.heap.size w1 wr)
  case atStart => exact ⟨0, by omega, rfl, Row.nil _ _ _, Below.refl _ _⟩
  case round =>
    obtain ⟨k, hk, rfl, hrow, hbel⟩ := hrel
    by_cases hlt : k < L.length
    · obtain ⟨x, hx⟩ : ∃ x, L[k]? = some x := ⟨_, List.getElem?_eq_getElem hlt⟩
      obtain ⟨b, o, ha, hb', dd⟩ := (HL.out.below hbel).at k x hx
      subst ha
      have HS := Lib.hid (epF_snoc ep L k x hx)
      have hle := epF_length ep (L.take k)
      rw [List.length_take] at hle
      obtain ⟨x1, x2, x3⟩ := x
      have d0 : wr.cell? ⟨b, o + k * 3, none⟩ = some (.int .i64 x1) := dd 0 _ rfl
      have d1 : wr.cell? ⟨b, o + k * 3 + 1, none⟩ = some (.int .i64 x2) := dd 1 _ rfl
      have d2 : wr.cell? ⟨b, o + k * 3 + 2, none⟩ = some (.int .i64 x3) := dd 2 _ rfl
      obtain ⟨acc, hacc⟩ : ∃ s, epF ep (L.take k) = s := ⟨_, rfl⟩
      rw [hacc] at hle hrow
      obtain ⟨W2, hW2⟩ : ∃ W2, wr.alloc (.cells #[.int .i64 x1, .int .i64 x2, .int .i64 x3] 27) = W2 := ⟨_, rfl⟩
      have hb2 : Below wr.heap.size wr W2 := by rw [← hW2]; exact alloc_below wr _
      have k2 : W2.heap[wr.heap.size]? = some (.cells #[.int .i64 x1, .int .i64 x2, .int .i64 x3] 27 (0, 0)) := by rw [← hW2]; exact alloc_new wr _
      have HA := Lib.hid hacc
      have HB := Lib.hid (hbel.trans (hb2.mono hbel.size))
      have HR2 := Lib.hid (hrow.below hb2)
      have HK2 := Lib.hid k2
      have hvne : ∀ b, u5.ownBlock = some b → b < wr.heap.size := fun b e => (hrow.lt e).2
      have HV := Lib.hid hvne
      obtain ⟨ra, rcap, hrv, hrc, -⟩ := hrow.shape
      subst hrv
      obtain ⟨z0, z1, z2, -, -, -⟩ := blk3 k2
      clear dd hx hacc hrow hb2 k2 hvne
      by_cases he : x2 = ep
      · have hbb : (x2 != ep) = false := by simp [he]
        have hst : epF ep (L.take (k + 1)) = (match acc.getLast? with | some u => if u.1 = x1 then acc.dropLast ++ [(x1, x2, x3)] else acc ++ [(x1, x2, x3)] | none => acc ++ [(x1, x2, x3)]) := by rw [HS.out, HA.out, epStep, if_pos he]
        clear he
        by_cases hz : acc.length = 0
        · obtain rfl : acc = [] := List.length_eq_zero_iff.1 hz
          have Q := Lib.hid (show epF ep (L.take (k + 1)) = [] ++ [(x1, x2, x3)] by rw [hst]; rfl)
          clear hst hz
          go_wp2_with fail
          go_quiet (fail)
          go_wp2_with (at_builtin; refine wpList_append_row _ rfl _ _ 22 rfl verT w1.heap.size _ _ [] [(x1, x2, x3)] rfl rfl (HR2.out.below ((below_drewN (Below.refl _ _) _).alloc (by simp) _)) (Rd.single (E := verE) (x1, x2, x3) (alloc_new _ _) rfl) (by have := HB.out.size; simp; omega) (by simp) (by decide) ?_)
          intro v2 w6 hG
          have HG := Lib.hid (And.intro hG.1 (hG.below ((below_drewN HB.out _).alloc (by have := HB.out.size; simpa using this) _) (by have := HB.out.size; simp; omega) (fun b e => (HR2.out.lt e).1)))
          clear hG
          go_wp2
          go_roundg (gk - 1)
          case measure => omega
          case rel => exact ⟨k + 1, by omega, by go_num, by rw [Q.out]; exact HG.out.1, HG.out.2⟩
        · obtain ⟨m, hm⟩ : ∃ m : Nat, acc.length = m + 1 := ⟨acc.length - 1, by omega⟩
          obtain ⟨u, hu⟩ : ∃ u, acc[m]? = some u := ⟨_, List.getElem?_eq_getElem (by omega)⟩
          have hlast : acc.getLast? = some u := by rw [List.getLast?_eq_getElem?, hm]; exact hu
          rw [hlast] at hst
          obtain ⟨g, cap', hv, hc', hg1, hg2, -⟩ := HR2.out.pos (by omega)
          cases hv
          obtain ⟨cur, -, hgb, -, -, -, -⟩ := HR2.out.cur
          obtain ⟨b2, o2, ha2, -, ee⟩ := HR2.out.rd.at m u hu
          simp only [Option.some.injEq, Addr.mk.injEq, and_true] at ha2
          obtain ⟨rfl, rfl⟩ := ha2
          obtain ⟨u1, u2, u3⟩ := u
          have e0 : W2.cell? ⟨g, m * 3, none⟩ = some (.int .i64 u1) := by have := ee 0 _ rfl; rwa [Nat.zero_add] at this
          have e1 : W2.cell? ⟨g, m * 3 + 1, none⟩ = some (.int .i64 u2) := by have := ee 1 _ rfl; rwa [Nat.zero_add] at this
          have e2 : W2.cell? ⟨g, m * 3 + 2, none⟩ = some (.int .i64 u3) := by have := ee 2 _ rfl; rwa [Nat.zero_add] at this
          have f0 := frozen_of_row W2 g (m * 3) _ _ hgb
          have f1 := frozen_of_row W2 g (m * 3 + 1) _ _ hgb
          have f2 := frozen_of_row W2 g (m * 3 + 2) _ _ hgb
          have hgw : g < wr.heap.size := HV.out g rfl
          have hgn : ¬ g = wr.heap.size := by omega
          have hpm : (acc.length : Int) - 1 = (m : Int) := by omega
          have hp0 : decide ((0 : Int) < (acc.length : Int)) = true := by simp; omega
          have hp0' : decide (0 < acc.length) = true := by simp; omega
          have hmi : (m : Int) < (acc.length : Int) := by omega
          have hm0 : (0 : Int) ≤ (m : Int) := by omega
          have hal : (acc.length : Int) ≤ 1000000 := by omega
          have hal1 : (1 : Int) ≤ (acc.length : Int) := by omega
          have HM := Lib.hid (And.intro hm hu)
          clear ee hgb hlast hu hm hz
          by_cases hux : u1 = x1
          · have hbx : (u1 == x1) = true := by simp [hux]
            have Q := Lib.hid (show epF ep (L.take (k + 1)) = acc.set m (x1, x2, x3) by
              rw [hst]
              simp only [hux, if_true]
              have : acc = acc.dropLast ++ [(u1, u2, u3)] := by
                refine List.ext_getElem? fun j => ?_
                rw [List.getElem?_append, List.length_dropLast, HM.out.1, Nat.add_sub_cancel]
                split
                · rw [List.getElem?_dropLast, HM.out.1, Nat.add_sub_cancel, if_pos (by assumption)]
                · by_cases hj : j = m
                  · subst hj; rw [HM.out.2, Nat.sub_self]; rfl
                  · rw [List.getElem?_eq_none (by have := HM.out.1; omega), List.getElem?_eq_none (by simp; omega)]
              refine List.ext_getElem? fun j => ?_
              rw [List.getElem?_append, List.length_dropLast, HM.out.1, Nat.add_sub_cancel]
              split
              · rw [List.getElem?_dropLast, HM.out.1, Nat.add_sub_cancel, if_pos (by assumption), List.getElem?_set_ne (by omega)]
              · by_cases hj : j = m
                · subst hj; rw [List.getElem?_set_self (by have := HM.out.1; omega), Nat.sub_self]; rfl
                · rw [List.getElem?_set_ne (by omega), List.getElem?_eq_none (l := acc) (by have := HM.out.1; omega), List.getElem?_eq_none (by simp; omega)])
            clear hst hux
            go_wp2_with fail
            go_quiet (fail)
            go_wp2
            go_roundg (gk - 1)
            case measure => omega
            case rel =>
              refine ⟨k + 1, by omega, by go_num, ?_, (((below_drewN HB.out _).setCell (by simpa using hg1) _).setCell (by simpa using hg1) _).setCell (by simpa using hg1) _⟩
              rw [Q.out]
              have h3 := Row.put3 (HR2.out.below (below_drewN (Below.refl W2.heap.size W2) nq)) m (by have := HM.out.1; omega) (x1, x2, x3)
              exact h3
          · have hbx : (u1 == x1) = false := by simp [hux]
            have Q := Lib.hid (show epF ep (L.take (k + 1)) = acc ++ [(x1, x2, x3)] by rw [hst]; simp only [if_neg hux])
            clear hst hux
            go_wp2_with fail
            go_quiet (fail)
            go_wp2_with (at_builtin; refine wpList_append_row _ rfl _ _ 22 rfl verT w1.heap.size _ _ acc [(x1, x2, x3)] rfl rfl (HR2.out.below ((below_drewN (Below.refl _ _) _).alloc (by simp) _)) (Rd.single (E := verE) (x1, x2, x3) (alloc_new _ _) rfl) (by have := HB.out.size; simp; omega) (by simp; omega) (by decide) ?_)
            intro v2 w6 hG
            have HG := Lib.hid (And.intro hG.1 (hG.below ((below_drewN HB.out _).alloc (by have := HB.out.size; simpa using this) _) (by have := HB.out.size; simp; omega) (fun b e => (HR2.out.lt e).1)))
            clear hG
            go_wp2
            go_roundg (gk - 1)
            case measure => omega
            case rel => exact ⟨k + 1, by omega, by go_num, by rw [Q.out]; exact HG.out.1, HG.out.2⟩
      · have hbb : (x2 != ep) = true := by simp [he]
        have Q := Lib.hid (show epF ep (L.take (k + 1)) = acc by rw [HS.out, HA.out, epStep, if_neg he])
        clear he
        go_wp2
        go_roundg (gk - 1)
        case measure => omega
        case rel => exact ⟨k + 1, by omega, by go_num, by rw [Q.out]; exact HR2.out, HB.out⟩
    · obtain rfl : k = L.length := by omega
      rw [List.take_length] at hrow
      have HR2 := Lib.hid hrow
      clear hrow
      go_wp2
      exact HR.out _ _ ⟨_, rfl, HR2.out.down hb.size, hb.trans (hbel.mono hb.size)⟩

end Go.Proofs.Ythhncdcmjejlmaa
