/- The law's acts as a row; are they few? -/
import Derived.Test.YtielmlnbjliacaaLawAct08
import Derived.Test.YtielmlnbjliacaaOpen
import Derived.Test.YtielmlnbjliacaaDiskObj
import Derived.WalkLawsBesides
namespace Ks
open Go Go.RowKit
set_option linter.unusedVariables false
/-- an act's cells: what it keeps is a slice -/
abbrev ActC := Int × Int × Int × ByteArray × Bool × Hdr
def acE : Enc ActC := ⟨6, fun x => [.int .i64 x.1, .int .i64 x.2.1, .int .i64 x.2.2.1, .string x.2.2.2.1, .bool x.2.2.2.2.1, hdrV x.2.2.2.2.2], fun _ => rfl, fun x u hu => by simp only [List.mem_cons, List.not_mem_nil, or_false] at hu; rcases hu with rfl | rfl | rfl | rfl | rfl | rfl <;> rfl, by decide⟩
theorem Rd.actAt {w : World} {a : Option Addr} {n c : Nat} {l : List ActC} (h : Rd acE w (.slice a n c) l) (i : Nat) (x : ActC) (hx : l[i]? = some x) : ∃ b o, a = some ⟨b, o, none⟩ ∧ b < w.heap.size ∧ w.cell? ⟨b, o + i * 6, none⟩ = some (.int .i64 x.1) ∧ w.cell? ⟨b, o + i * 6 + 1, none⟩ = some (.int .i64 x.2.1) ∧ w.cell? ⟨b, o + i * 6 + 2, none⟩ = some (.int .i64 x.2.2.1) ∧ w.cell? ⟨b, o + i * 6 + 3, none⟩ = some (.string x.2.2.2.1) ∧ w.cell? ⟨b, o + i * 6 + 4, none⟩ = some (.bool x.2.2.2.2.1) ∧ w.cell? ⟨b, o + i * 6 + 5, none⟩ = some (hdrV x.2.2.2.2.2) := by
  obtain ⟨b, o, h1, h2, h3⟩ := h.at i x hx
  exact ⟨b, o, h1, h2, h3 0 _ rfl, h3 1 _ rfl, h3 2 _ rfl, h3 3 _ rfl, h3 4 _ rfl, h3 5 _ rfl⟩
end Ks
namespace Go.Proofs.Ytielmlnbjliacaa
open Go.RowKit Ks
set_option linter.unusedVariables false
set_option maxHeartbeats 2000000 in
theorem lfew_any (v : Value) (l : List ActC) (w : World) (hv : Rd acE w v l) (hl : l.length ≤ maxLen) : Calls Try.prog 8 #[v] w fun e w' => ∃ b, e = .returned (.bool b) ∧ (b = true → l.length ≤ 60) ∧ Below w.heap.size w w' := by
  unfold maxLen at hl
  refine calls_by fun R HR => ?_
  obtain ⟨a, cap, rfl, _, _⟩ := hv.shape
  have HV := Lib.hid hv
  clear hv
  go_enter Try.func8, Try.ntmps8
  go_wp2_with fail
  go_loopw [4, 3] (fun i x wx => ∃ (k n : Nat), k ≤ l.length ∧ k ≤ 61 ∧ n ≤ 20000 * k ∧ i = .int .i64 k ∧ x = .int .i64 n ∧ Hid (Below w.heap.size w wx)) (fun i _ _ => 61 - (intOf i).toNat)
  case atStart => exact ⟨0, 0, by omega, by omega, by omega, rfl, rfl, Lib.hid (Below.refl _ _)⟩
  case round =>
    obtain ⟨k, n, hk, hk2, hnb, rfl, rfl, hN⟩ := hrel
    have hni : (n : Int) ≤ 2000000 := by omega
    have HNB := Lib.hid (And.intro hk2 hnb)
    by_cases hgo : k < l.length ∧ k ≤ 60
    · obtain ⟨hlt, h60⟩ := hgo
      obtain ⟨x, hx⟩ : ∃ x, l[k]? = some x := ⟨_, List.getElem?_eq_getElem hlt⟩
      have hrd : Rd acE wr (.slice a l.length cap) l := HV.out.below hN.out
      obtain ⟨b, o, rfl, _, _, _, _, d3, _, d5⟩ := hrd.actAt k x hx
      obtain ⟨x1, x2, x3, t, x5, ka, kn, kc⟩ := x
      simp only [hdrV] at d3 d5
      have h60i : (k : Int) ≤ 60 := by omega
      have H60 := Lib.hid (And.intro hlt h60)
      have HB := Lib.hid (fun q => below_drewN hN.out q)
      clear hrd hx hk2 hnb h60
      have fin : ∀ m : Nat, m ≤ n + 20000 → ∀ q, ∃ (k' n' : Nat), k' ≤ l.length ∧ k' ≤ 61 ∧ n' ≤ 20000 * k' ∧ Value.int .i64 ((k : Int) + 1) = .int .i64 k' ∧ Value.int .i64 (m : Int) = .int .i64 n' ∧ Hid (Below w.heap.size w (wr.drewN q)) := fun m hm q =>
        ⟨k + 1, m, by have := H60.out.1; omega, by have := H60.out.2; omega, by have := HNB.out.2; omega, by go_num, rfl, Lib.hid (HB.out q)⟩
      have FIN := Lib.hid fin
      clear fin
      by_cases hs : t.size ≤ 10000
      · have hsi : ¬ (10000 : Int) < (t.size : Int) := by omega
        have HS := Lib.hid hs
        clear hs
        by_cases hq : kn ≤ 10000
        · have hqi : ¬ (10000 : Int) < (kn : Int) := by omega
          have HQ := Lib.hid hq
          clear hq
          go_wp2_with fail
          go_quiet (fail)
          go_wp2_with fail
          go_roundw
          case rel => exact FIN.out (n + t.size + kn) (by have := HS.out; have := HQ.out; omega) _
          case measure => simp [intOf]; have := H60.out.2; omega
        · have hqi : (10000 : Int) < (kn : Int) := by omega
          clear hq
          go_wp2_with fail
          go_quiet (fail)
          go_wp2_with fail
          go_roundw
          case rel => exact FIN.out (n + t.size + 10000) (by have := HS.out; omega) _
          case measure => simp [intOf]; have := H60.out.2; omega
      · have hsi : (10000 : Int) < (t.size : Int) := by omega
        clear hs
        by_cases hq : kn ≤ 10000
        · have hqi : ¬ (10000 : Int) < (kn : Int) := by omega
          have HQ := Lib.hid hq
          clear hq
          go_wp2_with fail
          go_quiet (fail)
          go_wp2_with fail
          go_roundw
          case rel => exact FIN.out (n + 10000 + kn) (by have := HQ.out; omega) _
          case measure => simp [intOf]; have := H60.out.2; omega
        · have hqi : (10000 : Int) < (kn : Int) := by omega
          clear hq
          go_wp2_with fail
          go_quiet (fail)
          go_wp2_with fail
          go_roundw
          case rel => exact FIN.out (n + 10000 + 10000) (by omega) _
          case measure => simp [intOf]; have := H60.out.2; omega
    · by_cases h1 : (l.length : Int) ≤ 60
      · have hlt : ¬ (k : Int) < (l.length : Int) := by omega
        have H1 := Lib.hid h1
        by_cases h2 : (n : Int) ≤ 20000
        · clear hgo
          go_wp2
          exact HR.out _ _ ⟨_, rfl, fun _ => by have := H1.out; omega, hN.out⟩
        · clear hgo
          go_wp2
          exact HR.out _ _ ⟨_, rfl, fun _ => by have := H1.out; omega, hN.out⟩
      · by_cases hlt : (k : Int) < (l.length : Int)
        · have h60 : ¬ (k : Int) ≤ 60 := by omega
          clear hgo
          go_wp2
          exact HR.out _ _ ⟨false, rfl, fun h => (by cases h), hN.out⟩
        · clear hgo
          go_wp2
          exact HR.out _ _ ⟨false, rfl, fun h => (by cases h), hN.out⟩
end Go.Proofs.Ytielmlnbjliacaa
