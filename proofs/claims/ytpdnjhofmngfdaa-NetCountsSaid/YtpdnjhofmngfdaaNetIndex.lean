/- slices.IndexFunc over letters. -/
import Derived.Test.YtpdnjhofmngfdaaProg
import Derived.Test.YtpdnjhofmngfdaaNetBase
import Derived.Shelf.Abstract
namespace Go.Proofs.Ytpdnjhofmngfdaa
open Go.RowKit Ks
set_option linter.unusedVariables false

set_option maxHeartbeats 1000000 in
theorem index_any (g : Nat) (lb : Array Value) (eg : ∀ args w, (callFunc g args).run Try.prog w = .ok (.enter g args) w) (p : Let → Bool) (lv : Value) (l : List Let) (w : World) (hl : RdL w lv l) (hlen : l.length ≤ 9223372036854775807)
    (hp : ∀ x w', Below w.heap.size w w' → Calls Try.prog g (#[.agg #[.int .i64 x.1, .string x.2]] ++ lb) w' fun e w'' => e = .returned (.bool (p x)) ∧ Below w'.heap.size w' w'') :
    Calls Try.prog 22 #[lv, .func (.func g) #[] lb] w fun e w' => e = .returned (.int .i64 (idxL p l)) ∧ Below w.heap.size w w' := by
  refine calls_by fun R HR => ?_
  obtain ⟨a, cap, rfl, hcap, -, hcell⟩ := hl
  have Hc := Lib.hid hcell
  have Hp := Lib.hid hp
  clear hcell hp
  go_enter Try.func22, Try.ntmps22
  go_wp2
  go_loopw [8] (fun i wr => ∃ k : Nat, k ≤ l.length ∧ i = .int .i64 k ∧ Hid (∀ (i : Nat), i < k → ∀ (y : Let), l[i]? = some y → p y = false) ∧ Below w.heap.size w wr) (fun i _ => l.length - (intOf i).toNat)
  case atStart => exact ⟨0, by omega, rfl, Lib.hid (fun i hi => absurd hi (by omega)), Below.refl _ _⟩
  case round =>
    obtain ⟨k, hk, rfl, hno, hbel⟩ := hrel
    by_cases hlt : k < l.length
    · obtain ⟨b, o, rfl, hb, c1, c2⟩ := Hc.out k l[k] (List.getElem?_eq_getElem hlt)
      have d1 := (hbel.cell (p := ⟨b, o + k * 2, none⟩) hb).trans c1
      have d2 := (hbel.cell (p := ⟨b, o + k * 2 + 1, none⟩) hb).trans c2
      clear c1 c2
      have hx := Lib.hid (List.getElem?_eq_getElem hlt)
      generalize l[k] = x at d1 d2 hx
      have hcall := Hp.out x wr hbel
      cases hq : p x with
      | true =>
        rw [hq] at hcall
        go_wp2_with (go_at_fn g; refine hcall.mono ?_; rintro e w' ⟨rfl, hb'⟩)
        refine HR.out _ _ ⟨?_, hbel.trans (hb'.mono hbel.size)⟩
        rw [idxL_hit p l k x hx.out hq hno.out]; rfl
      | false =>
        rw [hq] at hcall
        go_wp2_with (go_at_fn g; refine hcall.mono ?_; rintro e w' ⟨rfl, hb'⟩)
        go_roundw
        case rel =>
          refine ⟨k + 1, by omega, by go_num, Lib.hid fun i hi y hy => ?_, hbel.trans (hb'.mono hbel.size)⟩
          by_cases e : i = k
          · subst e; rw [hx.out] at hy; cases hy; exact hq
          · exact hno.out i (by omega) y hy
        case measure => simp [intOf]; omega
    · obtain rfl : k = l.length := by omega
      have Q := Lib.hid (idxL_none p l fun i x hx => hno.out i (List.getElem?_eq_some_iff.1 hx).1 x hx)
      go_wp2
      refine HR.out _ _ ⟨?_, hbel⟩
      rw [Q.out]; rfl

end Go.Proofs.Ytpdnjhofmngfdaa
