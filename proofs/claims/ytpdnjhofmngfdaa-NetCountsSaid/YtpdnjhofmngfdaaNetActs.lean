/- A law's acts: what they read as; are they few. -/
import Derived.Test.YtpdnjhofmngfdaaProg
import Derived.Test.YtpdnjhofmngfdaaNetBase
namespace Ks
open Go Go.RowKit
set_option linter.unusedVariables false

structure ActD where
  kind : Int
  n : Int
  lv : Value
  ls : List Let

/-- a slice value reads as acts -/
def RdA (w : World) (v : Value) (l : List ActD) : Prop :=
  ∃ a cap, v = .slice a l.length cap ∧ ∀ i x, l[i]? = some x →
    ∃ b o, a = some ⟨b, o, none⟩ ∧ b < w.heap.size ∧ w.cell? ⟨b, o + i * 3, none⟩ = some (.int .i64 x.kind) ∧ w.cell? ⟨b, o + i * 3 + 1, none⟩ = some (.int .i64 x.n) ∧ w.cell? ⟨b, o + i * 3 + 2, none⟩ = some x.lv ∧
      RdL w x.lv x.ls ∧ x.ls.length ≤ maxLen ∧ ∀ y ∈ x.ls, y.2.size ≤ maxLen
theorem RdA.below {w w' : World} {v : Value} {l : List ActD} (h : RdA w v l) (hb : Below w.heap.size w w') : RdA w' v l := by
  obtain ⟨a, cap, rfl, h⟩ := h
  refine ⟨a, cap, rfl, fun i x hx => ?_⟩
  obtain ⟨b, o, rfl, hlt, h1, h2, h3, h4, h5⟩ := h i x hx
  have e := hb.block b hlt
  exact ⟨b, o, rfl, Nat.lt_of_lt_of_le hlt hb.size, (World.cell?_of_block (a := ⟨b, o + i * 3, none⟩) e).trans h1, (World.cell?_of_block (a := ⟨b, o + i * 3 + 1, none⟩) e).trans h2, (World.cell?_of_block (a := ⟨b, o + i * 3 + 2, none⟩) e).trans h3, h4.below hb, h5⟩

end Ks
namespace Go.Proofs.Ytpdnjhofmngfdaa
open Go.RowKit Ks
set_option linter.unusedVariables false

set_option maxHeartbeats 2000000 in
set_option maxRecDepth 100000 in
theorem few_any (v : Value) (l : List ActD) (w : World) (hl : RdA w v l) (hlen : l.length ≤ maxLen) :
    Calls Try.prog 6 #[v] w fun e w' => ∃ b, e = .returned (.bool b) ∧ (b = true → l.length ≤ 60 ∧ ∀ (j : Nat) (x : ActD), l[j]? = some x → x.ls.length ≤ 80) ∧ Below w.heap.size w w' := by
  refine calls_by fun R HR => ?_
  unfold maxLen at hlen
  obtain ⟨a, cap, rfl, hcell⟩ := hl
  have Hc := Lib.hid hcell
  clear hcell
  go_enter Try.func6, Try.ntmps6
  go_wp2
  go_loop [4, 3] (fun i n => ∃ k m : Nat, k ≤ l.length ∧ k ≤ 61 ∧ i = .int .i64 k ∧ n = .int .i64 m ∧ Hid (m ≤ k * 1640000) ∧ Hid (∀ (j : Nat) (x : ActD), j < k → l[j]? = some x → x.ls.length ≤ 80)) (fun i _ => l.length - (intOf i).toNat)
  case atStart => exact ⟨0, 0, by omega, by omega, rfl, rfl, Lib.hid (by omega), Lib.hid (fun j x hj => absurd hj (by omega))⟩
  case round =>
    obtain ⟨k, m, hk, hk61, rfl, rfl, hm, hno⟩ := hrel
    by_cases hlt : k < l.length ∧ k ≤ 60
    · obtain ⟨hlt, hk60⟩ := hlt
      obtain ⟨b, o, rfl, hb, c0, c1, c2, hrd, hll, hsz⟩ := Hc.out k l[k] (List.getElem?_eq_getElem hlt)
      have hx := Lib.hid (List.getElem?_eq_getElem hlt)
      generalize l[k] = x at *
      obtain ⟨kind, nn, lv, ls⟩ := x
      simp only at c0 c1 c2 hrd hll hsz
      unfold maxLen at hll
      obtain ⟨al, capl, rfl, hcl, _, hcells⟩ := hrd
      have HL := Lib.hid hcells
      have HS := Lib.hid hsz
      clear hcells hsz
      go_wp2
      go_loop [5, 3] (fun i n => ∃ k2 m2 : Nat, k2 ≤ ls.length ∧ k2 ≤ 81 ∧ i = .int .i64 k2 ∧ n = .int .i64 m2 ∧ Hid (m2 ≤ k * 1640000 + k2 * 20000)) (fun i _ => ls.length - (intOf i).toNat)
      case atStart => exact ⟨0, m, by omega, by omega, rfl, rfl, Lib.hid (Nat.le_trans hm.out (Nat.le_add_right _ _))⟩
      case round =>
        obtain ⟨k2, m2, hk2, hk81, rfl, rfl, hm2⟩ := hrel
        by_cases hlt2 : k2 < ls.length ∧ k2 ≤ 80
        · obtain ⟨hlt2, hk80⟩ := hlt2
          have hmem : ls[k2] ∈ ls := List.getElem_mem hlt2
          obtain ⟨b2, o2, rfl, hb2, e1, e2⟩ := HL.out k2 ls[k2] (List.getElem?_eq_getElem hlt2)
          have hs2 := HS.out _ hmem
          unfold maxLen at hs2
          have hm2b : m2 ≤ 100000000 := by have := hm2.out; omega
          generalize ls[k2] = y at *
          obtain ⟨yt, ys⟩ := y
          simp only at e1 e2 hs2
          clear hmem
          by_cases hsmall : (ys.size : Int) ≤ 20000
          · go_wp2
            go_round
            case rel => exact ⟨k2 + 1, m2 + ys.size, by omega, by omega, by go_num, by go_num, Lib.hid (by have := hm2.out; omega)⟩
            case measure => simp [intOf]; omega
          · go_wp2
            go_round
            case rel => exact ⟨k2 + 1, m2 + 20000, by omega, by omega, by go_num, by go_num, Lib.hid (by have := hm2.out; omega)⟩
            case measure => simp [intOf]; omega
        · by_cases h80 : (80 : Int) < ls.length
          · have hlt3 : ¬ ((k2 : Int) < (ls.length : Int) ∧ (k2 : Int) ≤ 80) := by omega
            by_cases h81 : (k2 : Int) < (ls.length : Int)
            · have h82 : ¬ (k2 : Int) ≤ 80 := by omega
              go_wp2
              exact HR.out _ _ ⟨false, rfl, fun h => by simp at h, Below.refl _ _⟩
            · go_wp2
              exact HR.out _ _ ⟨false, rfl, fun h => by simp at h, Below.refl _ _⟩
          · have h83 : ¬ (k2 : Int) < (ls.length : Int) := by omega
            have hm2b : m2 ≤ k * 1640000 + 1640000 := by have := hm2.out; omega
            go_wp2
            go_round
            case rel =>
              refine ⟨k + 1, m2, by omega, by omega, by go_num, rfl, Lib.hid (by omega), Lib.hid fun j x hj hx' => ?_⟩
              by_cases e : j = k
              · subst e
                rw [hx.out] at hx'
                cases hx'
                show ls.length ≤ 80
                omega
              · exact hno.out j x (by omega) hx'
            case measure => simp [intOf]; omega
    · by_cases h60 : (60 : Int) < l.length
      · by_cases h61 : (k : Int) < (l.length : Int)
        · have h62 : ¬ (k : Int) ≤ 60 := by omega
          go_wp2
          exact HR.out _ _ ⟨false, rfl, fun h => by simp at h, Below.refl _ _⟩
        · go_wp2
          exact HR.out _ _ ⟨false, rfl, fun h => by simp at h, Below.refl _ _⟩
      · have h61 : ¬ (k : Int) < (l.length : Int) := by omega
        have hkl : k = l.length := by omega
        have Hkl := Lib.hid hkl
        clear hkl
        go_wp2
        refine HR.out _ _ ⟨_, rfl, fun _ => ⟨by omega, fun j x hx' => hno.out j x (by have := (List.getElem?_eq_some_iff.1 hx').1; have := Hkl.out; omega) hx'⟩, Below.refl _ _⟩

end Go.Proofs.Ytpdnjhofmngfdaa
