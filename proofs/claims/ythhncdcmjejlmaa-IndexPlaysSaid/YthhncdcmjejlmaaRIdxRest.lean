/- The document's answer about versions: an epoch's newest ones; how many places. -/
import Derived.Test.YthhncdcmjejlmaaRIdxNewest
namespace Ks
open Go Go.RowKit
set_option linter.unusedVariables false
def epR (L : List Ver) (e : Int) (k : Nat) : List Ver := (List.range k).filterMap fun a : Nat => bestF (a : Int) e e L
theorem epR_succ (L : List Ver) (e : Int) (k : Nat) : epR L e (k + 1) = epR L e k ++ (match bestF (k : Int) e e L with | some v => [v] | none => []) := by
  rw [epR, List.range_succ, List.filterMap_append]
  congr 1
  simp only [List.filterMap_cons, List.filterMap_nil]
  cases bestF (k : Int) e e L <;> rfl
theorem epR_length (L : List Ver) (e : Int) (k : Nat) : (epR L e k).length ≤ k := by
  have := List.length_filterMap_le (fun a : Nat => bestF (a : Int) e e L) (List.range k)
  simpa [epR] using this
def plS (s : List Ver × Int) (x : Ver) : List Ver × Int := (s.1 ++ [x], if s.1.any (fun y => y.1 == x.1) = true then s.2 else s.2 + 1)
def plR (L : List Ver) : Int := (L.foldl plS ([], 0)).2
theorem plS_fst (L : List Ver) : ∀ s, (L.foldl plS s).1 = s.1 ++ L := by
  induction L with
  | nil => intro s; simp
  | cons x L ih => intro s; rw [List.foldl_cons, ih]; simp [plS]
theorem plR_snoc (L : List Ver) (x : Ver) : plR (L ++ [x]) = if L.any (fun y => y.1 == x.1) = true then plR L else plR L + 1 := by
  unfold plR
  rw [List.foldl_append, List.foldl_cons, List.foldl_nil]
  show (if (L.foldl plS ([], 0)).1.any _ = true then _ else _) = _
  rw [plS_fst]
  rfl
theorem plR_le (L : List Ver) : 0 ≤ plR L ∧ plR L ≤ L.length := by
  have key : ∀ (L : List Ver) (s : List Ver × Int), s.2 ≤ (L.foldl plS s).2 ∧ (L.foldl plS s).2 ≤ s.2 + L.length := by
    intro L
    induction L with
    | nil => intro s; simp
    | cons x L ih =>
      intro s
      have h1 := ih (plS s x)
      have h2 : s.2 ≤ (plS s x).2 ∧ (plS s x).2 ≤ s.2 + 1 := by unfold plS; simp only; split <;> omega
      rw [List.foldl_cons, List.length_cons]
      omega
  have := key L ([], 0)
  unfold plR
  omega
end Ks
namespace Go.Proofs.Ythhncdcmjejlmaa
open Go.RowKit Ks
set_option linter.unusedVariables false
set_option linter.unusedSimpArgs false

set_option maxHeartbeats 2000000 in
set_option maxRecDepth 100000 in
theorem repoch_any (va : Value) (L : List Ver) (ep : Int) (w : World) (ha : Rd verE w va L) (hla : L.length ≤ 1000000) :
    Calls Try.prog 21 #[va, .int .i64 ep] w fun e w' => ∃ v', e = .returned v' ∧ Rd verE w' v' (epR L ep 4096) ∧ Below w.heap.size w w' := by
  refine calls_by fun R HR => ?_
  have HA := Lib.hid ha
  obtain ⟨aa, ca, hva, hcc, -⟩ := ha.shape
  subst hva
  clear ha
  go_enter Try.func21, Try.ntmps21
  go_wp2
  go_loopg [6, 5] 4096 (fun g i r wr => ∃ (k : Nat), k + g = 4096 ∧ i = .int .i64 k ∧ Row verE wr w.heap.size 27 r (epR L ep k) ∧ Below w.heap.size w wr)
  case atStart => exact ⟨0, by omega, rfl, Row.nil _ _ _, Below.refl _ _⟩
  case round =>
    obtain ⟨k, hk, rfl, hrow, hbel⟩ := hrel
    have HROW := Lib.hid hrow
    have hle := epR_length L ep k
    obtain ⟨acc, hacc⟩ : ∃ acc, epR L ep k = acc := ⟨_, rfl⟩
    rw [hacc] at hle hrow HROW
    obtain ⟨ra, rc, hra, -⟩ := hrow.shape
    subst hra
    have hs := epR_succ L ep k
    rw [hacc] at hs
    have HS := Lib.hid (And.intro hs hacc)
    clear hrow hs hacc
    by_cases hlt : k < 4096
    · go_wp2_with fail
      refine (rnewest_any _ L (k : Int) ep ep _ (HA.out.below hbel) hla).mono ?_
      rintro e w2 ⟨rfl, hb2⟩
      obtain ⟨O, hO⟩ : ∃ O, bestF (k : Int) ep ep L = O := ⟨_, rfl⟩
      rw [hO]
      obtain ⟨⟨y1, y2, y3⟩, hy⟩ : ∃ y, getV O = y := ⟨_, rfl⟩
      rw [optV, hy]
      obtain ⟨W3, hW3⟩ : ∃ W3, w2.alloc (.cells #[.int .i64 y1, .int .i64 y2, .int .i64 y3] 27) = W3 := ⟨_, rfl⟩
      have hb3 : Below w2.heap.size w2 W3 := by rw [← hW3]; exact alloc_below w2 _
      have k3 : W3.heap[w2.heap.size]? = some (.cells #[.int .i64 y1, .int .i64 y2, .int .i64 y3] 27 (0, 0)) := by rw [← hW3]; exact alloc_new w2 _
      have hb23 := hb2.trans (hb3.mono hb2.size)
      have HROW3 := Lib.hid (HROW.out.below hb23)
      have HB3 := Lib.hid (hbel.trans (hb23.mono hbel.size))
      have HO := Lib.hid (And.intro hO hy)
      obtain ⟨z0, z1, z2, -, -, -⟩ := blk3 k3
      clear hO hy hb2 hb3 hb23 k3
      cases O with
      | none =>
        have Q := Lib.hid (show epR L ep (k + 1) = acc by rw [HS.out.1, HO.out.1]; simp)
        rw [show (none : Option Ver).isSome = false from rfl]
        go_wp2
        go_roundg (gk - 1)
        case measure => omega
        case rel => exact ⟨k + 1, by omega, by go_num, by rw [Q.out]; exact HROW3.out, HB3.out⟩
      | some y =>
        have hyy : y = (y1, y2, y3) := HO.out.2
        subst hyy
        have Q := Lib.hid (show epR L ep (k + 1) = acc ++ [(y1, y2, y3)] by rw [HS.out.1, HO.out.1])
        rw [show (some (y1, y2, y3) : Option Ver).isSome = true from rfl]
        have hA4 := alloc_below W3 (.cells #[.int .i64 y1, .int .i64 y2, .int .i64 y3] 27)
        have k4 := alloc_new W3 (.cells #[.int .i64 y1, .int .i64 y2, .int .i64 y3] 27)
        have H4 := Lib.hid (And.intro hA4 k4)
        clear hA4 k4
        go_wp2_with (at_builtin; refine wpList_append_row _ rfl _ _ 22 rfl verT w.heap.size _ _ acc [(y1, y2, y3)] rfl rfl (HROW3.out.below H4.out.1) (Rd.single (E := verE) (y1, y2, y3) H4.out.2 rfl) (Nat.le_trans HB3.out.size H4.out.1.size) (by simp; omega) (by decide) ?_)
        intro v5 w5 hG
        have HG := Lib.hid (And.intro hG.1 (hG.below (HB3.out.trans (H4.out.1.mono HB3.out.size)) (Nat.le_trans HB3.out.size H4.out.1.size) (fun b hb => (HROW3.out.lt hb).1)))
        clear hG
        go_wp2
        go_roundg (gk - 1)
        case measure => omega
        case rel => exact ⟨k + 1, by omega, by go_num, by rw [Q.out]; exact HG.out.1, HG.out.2⟩
    · obtain rfl : k = 4096 := by omega
      have Q := Lib.hid (show epR L ep 4096 = acc from HS.out.2)
      clear HS
      go_wp2
      exact HR.out _ _ ⟨_, rfl, by rw [Q.out]; exact HROW.out.rd, hbel⟩

set_option maxHeartbeats 2000000 in
set_option maxRecDepth 100000 in
theorem rplaces_any (va : Value) (L : List Ver) (w : World) (ha : Rd verE w va L) (hla : L.length ≤ 1000000) :
    Calls Try.prog 23 #[va] w fun e w' => e = .returned (.int .i64 (plR L)) ∧ Below w.heap.size w w' := by
  refine calls_by fun R HR => ?_
  have HA := Lib.hid ha
  obtain ⟨aa, ca, hva, hcc, -⟩ := ha.shape
  subst hva
  clear ha
  go_enter Try.func23, Try.ntmps23
  go_wp2
  go_loopg [4, 3] L.length (fun g i c wr => ∃ (k : Nat), k + g = L.length ∧ i = .int .i64 k ∧ c = .int .i64 (plR (L.take k)) ∧ Below w.heap.size w wr)
  case atStart => exact ⟨0, by omega, rfl, rfl, Below.refl _ _⟩
  case round =>
    obtain ⟨k, hk, rfl, rfl, hbel⟩ := hrel
    have hle := plR_le (L.take k)
    rw [List.length_take] at hle
    obtain ⟨pc, hpc⟩ : ∃ pc, plR (L.take k) = pc := ⟨_, rfl⟩
    rw [hpc] at hle ⊢
    by_cases hlt : k < L.length
    · obtain ⟨x, hx⟩ : ∃ x, L[k]? = some x := ⟨_, List.getElem?_eq_getElem hlt⟩
      have HX := Lib.hid (And.intro hx hpc)
      have hpc1 : pc ≤ 1000000 := by omega
      have hpc0 : 0 ≤ pc := hle.1
      clear hpc
      go_wp2_with fail
      obtain ⟨wo, rfl⟩ : ∃ wo : World, wo = wr := ⟨_, rfl⟩
      go_loopg [6, 5] k (fun g i s wr => ∃ (j : Nat), j + g = k ∧ i = .int .i64 j ∧ s = .bool ((L.take j).any fun y => y.1 == x.1) ∧ Below wo.heap.size wo wr)
      case atStart => exact ⟨0, by omega, rfl, rfl, Below.refl _ _⟩
      case round =>
        obtain ⟨j, hj, rfl, rfl, hbel2⟩ := hrel
        have hB := hbel.trans (hbel2.mono hbel.size)
        obtain ⟨met, hmet⟩ : ∃ met, ((L.take j).any fun y => y.1 == x.1) = met := ⟨_, rfl⟩
        rw [hmet]
        by_cases hjl : j < k
        · obtain ⟨y, hy⟩ : ∃ y, L[j]? = some y := ⟨_, List.getElem?_eq_getElem (by omega)⟩
          have HM := Lib.hid (show ((L.take (j + 1)).any fun y => y.1 == x.1) = (met || y.1 == x.1) by rw [take_snocV L j y hy, List.any_append, hmet]; simp)
          obtain ⟨b1, o1, h1, hbl, d⟩ := (HA.out.below hB).at k x hx
          subst h1
          obtain ⟨b2, o2, h2, -, d'⟩ := (HA.out.below hB).at j y hy
          simp only [Option.some.injEq, Addr.mk.injEq, and_true] at h2
          obtain ⟨rfl, rfl⟩ := h2
          obtain ⟨x1, x2, x3⟩ := x
          obtain ⟨y1, y2, y3⟩ := y
          have d0 : wr.cell? ⟨b1, o1 + k * 3, none⟩ = some (.int .i64 x1) := d 0 _ rfl
          have e0 : wr.cell? ⟨b1, o1 + j * 3, none⟩ = some (.int .i64 y1) := d' 0 _ rfl
          have hk0 : (0 : Int) ≤ (k : Int) := by omega
          have hk1 : (k : Int) < (L.length : Int) := by omega
          have hj0 : (0 : Int) ≤ (j : Int) := by omega
          have hj1 : (j : Int) < (L.length : Int) := by omega
          clear d d' hy hmet hx
          simp only at HM
          cases met
          case true =>
            have Q := Lib.hid (show ((L.take (j + 1)).any fun y => y.1 == x1) = true by rw [HM.out]; rfl)
            go_wp2_with fail
            go_quiet (fail)
            go_wp2
            go_roundg (gk - 1)
            case measure => omega
            case rel => exact ⟨j + 1, by omega, by go_num, by rw [Q.out], below_drewN hbel2 _⟩
          case false =>
            obtain ⟨eq, heq⟩ : ∃ eq, (y1 == x1) = eq := ⟨_, rfl⟩
            have Q := Lib.hid (show ((L.take (j + 1)).any fun y => y.1 == x1) = eq by rw [HM.out, heq]; rfl)
            cases eq
            all_goals
              go_wp2_with fail
              go_quiet (fail)
              go_wp2
              go_roundg (gk - 1)
              case measure => omega
              case rel => exact ⟨j + 1, by omega, by go_num, by rw [Q.out], below_drewN hbel2 _⟩
        · obtain rfl : j = k := by omega
          have Q := Lib.hid (show plR (L.take (j + 1)) = if met = true then pc else pc + 1 by rw [take_snocV L j x HX.out.1, plR_snoc, hmet, HX.out.2])
          clear hmet hx
          cases met
          case true =>
            have Q2 := Lib.hid (show plR (L.take (j + 1)) = pc by rw [Q.out]; rfl)
            go_wp2
            go_roundg (L.length - (j + 1))
            case measure => omega
            case rel => exact ⟨j + 1, by omega, by go_num, by rw [Q2.out], hB⟩
          case false =>
            have Q2 := Lib.hid (show plR (L.take (j + 1)) = pc + 1 by rw [Q.out]; rfl)
            go_wp2
            go_roundg (L.length - (j + 1))
            case measure => omega
            case rel => exact ⟨j + 1, by omega, by go_num, by rw [Q2.out], hB⟩
    · obtain rfl : k = L.length := by omega
      rw [List.take_length] at hpc
      have Q := Lib.hid hpc
      clear hpc
      go_wp2
      exact HR.out _ _ ⟨by rw [Q.out]; try rfl, hbel⟩

end Go.Proofs.Ythhncdcmjejlmaa
