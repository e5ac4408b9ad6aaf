/- The document's answer about versions: the newest one. -/
import Derived.Test.YthhncdcmjejlmaaRIdxAdd
import Derived.Test.YthhncdcmjejlmaaIdxBest
import Derived.Test.YthhncdcmjejlmaaAfter
namespace Ks
open Go Go.RowKit
set_option linter.unusedVariables false
def newP (lba f t : Int) (v : Ver) : Prop := v.1 = lba ∧ f ≤ v.2.1 ∧ v.2.1 ≤ t
instance (lba f t : Int) (v : Ver) : Decidable (newP lba f t v) := by unfold newP; infer_instance
def bstep (lba f t : Int) (o : Option Ver) (v : Ver) : Option Ver := if newP lba f t v then (match o with | none => some v | some b => if ltV b v then some v else o) else o
def bestF (lba f t : Int) (r : List Ver) : Option Ver := r.foldl (bstep lba f t) none
theorem bestF_snoc (lba f t : Int) (r : List Ver) (k : Nat) (x : Ver) (h : r[k]? = some x) : bestF lba f t (r.take (k + 1)) = bstep lba f t (bestF lba f t (r.take k)) x := by
  rw [bestF, take_snocV r k x h, List.foldl_append]; rfl
theorem bestF_best (lba f t : Int) (r : List Ver) : Best (newP lba f t) r (bestF lba f t r) := by
  have key : ∀ (r s : List Ver) (o : Option Ver), Best (newP lba f t) s o → Best (newP lba f t) (s ++ r) (r.foldl (bstep lba f t) o) := by
    intro r
    induction r with
    | nil => intro s o h; simpa using h
    | cons x r ih =>
      intro s o h
      rw [List.foldl_cons, show s ++ x :: r = (s ++ [x]) ++ r by simp]
      refine ih _ _ ?_
      unfold bstep
      by_cases hp : newP lba f t x
      · rw [if_pos hp]
        cases o with
        | none =>
          refine ⟨by simp, hp, fun y hy hpy => ?_⟩
          rcases List.mem_append.1 hy with hy | hy
          · exact absurd hpy (h y hy)
          · exact Or.inl (List.mem_singleton.1 hy)
        | some b =>
          simp only
          by_cases hlt : ltV b x
          · rw [if_pos hlt]
            refine ⟨by simp, hp, fun y hy hpy => ?_⟩
            rcases List.mem_append.1 hy with hy | hy
            · rcases h.2.2 y hy hpy with rfl | h2
              · exact Or.inr hlt
              · exact Or.inr (ltV_trans h2 hlt)
            · exact Or.inl (List.mem_singleton.1 hy)
          · rw [if_neg hlt]
            refine ⟨List.mem_append_left _ h.1, h.2.1, fun y hy hpy => ?_⟩
            rcases List.mem_append.1 hy with hy | hy
            · exact h.2.2 y hy hpy
            · obtain rfl := List.mem_singleton.1 hy
              rcases ltV_tri b y with h1 | h1 | h1
              · exact absurd h1 hlt
              · exact Or.inl h1.symm
              · exact Or.inr h1
      · rw [if_neg hp]
        cases o with
        | none =>
          intro y hy hpy
          rcases List.mem_append.1 hy with hy | hy
          · exact h y hy hpy
          · exact hp (List.mem_singleton.1 hy ▸ hpy)
        | some b =>
          refine ⟨List.mem_append_left _ h.1, h.2.1, fun y hy hpy => ?_⟩
          rcases List.mem_append.1 hy with hy | hy
          · exact h.2.2 y hy hpy
          · exact absurd (List.mem_singleton.1 hy ▸ hpy) hp
  exact key r [] none fun y hy => by simp at hy
theorem bstep_no {lba f t : Int} {v : Ver} (o : Option Ver) (h : ¬ newP lba f t v) : bstep lba f t o v = o := by unfold bstep; rw [if_neg h]
theorem set3 {w : World} {b : Nat} {c0 c1 c2 : Value} {T : TypeId} (a0 a1 a2 : Value) (h : w.heap[b]? = some (.cells #[c0, c1, c2] T (0, 0))) :
    (((w.setCell ⟨b, 0, none⟩ a0).setCell ⟨b, 1, none⟩ a1).setCell ⟨b, 2, none⟩ a2).heap[b]? = some (.cells #[a0, a1, a2] T (0, 0)) := by
  simp [World.setCell, Array.getElem?_modify, h]
theorem set3_ne {w : World} {b k : Nat} (a0 a1 a2 : Value) (h : k ≠ b) : (((w.setCell ⟨b, 0, none⟩ a0).setCell ⟨b, 1, none⟩ a1).setCell ⟨b, 2, none⟩ a2).heap[k]? = w.heap[k]? := by
  rw [set_ne _ h, set_ne _ h, set_ne _ h]
end Ks
namespace Go.Proofs.Ythhncdcmjejlmaa
open Go.RowKit Ks
set_option linter.unusedVariables false
set_option linter.unusedSimpArgs false

set_option maxHeartbeats 8000000 in
theorem rnewest_any (va : Value) (L : List Ver) (lba f t : Int) (w : World) (ha : Rd verE w va L) (hla : L.length ≤ 1000000) :
    Calls Try.prog 19 #[va, .int .i64 lba, .int .i64 f, .int .i64 t] w fun e w' => e = .returned (optV (bestF lba f t L)) ∧ Below w.heap.size w w' := by
  refine calls_by fun R HR => ?_
  have HA := Lib.hid ha
  obtain ⟨aa, ca, hva, hcc, -⟩ := ha.shape
  subst hva
  clear ha
  obtain ⟨W1, hW1⟩ : ∃ W1, w.alloc (.cells #[.int .i64 0, .int .i64 0, .int .i64 0] 27) = W1 := ⟨_, rfl⟩
  have hb1 : Below w.heap.size w W1 := by rw [← hW1]; exact alloc_below w _
  have k1 : W1.heap[w.heap.size]? = some (.cells #[.int .i64 0, .int .i64 0, .int .i64 0] 27 (0, 0)) := by rw [← hW1]; exact alloc_new w _
  have hA2 := alloc_below W1 (.cells #[.int .i64 0, .int .i64 0, .int .i64 0] 27)
  have k2 := alloc_new W1 (.cells #[.int .i64 0, .int .i64 0, .int .i64 0] 27)
  have k12 := (hA2.block _ (lt_of_block k1)).trans k1
  have hB2 := hb1.trans (hA2.mono hb1.size)
  have hz1 : w.heap.size < W1.heap.size := lt_of_block k1
  have H2 := Lib.hid (And.intro hB2 (And.intro k12 k2))
  clear hb1 k1 hA2 k2 k12 hB2
  go_enter Try.func19, Try.ntmps19
  go_wp2
  go_loopg [12, 11] L.length (fun g i s wr => ∃ (k : Nat), k + g = L.length ∧ i = .int .i64 k ∧ s = .bool (bestF lba f t (L.take k)).isSome ∧ Hid (wr.heap[W1.heap.size]? = some (.cells #[.int .i64 (getV (bestF lba f t (L.take k))).1, .int .i64 (getV (bestF lba f t (L.take k))).2.1, .int .i64 (getV (bestF lba f t (L.take k))).2.2] 27 (0, 0))) ∧ Hid (wr.heap[w.heap.size]? = some (.cells #[.int .i64 0, .int .i64 0, .int .i64 0] 27 (0, 0))) ∧ Below w.heap.size w wr)
  case atStart => exact ⟨0, by omega, rfl, rfl, Lib.hid H2.out.2.2, Lib.hid H2.out.2.1, H2.out.1⟩
  case round =>
    obtain ⟨k, hk, rfl, rfl, hbk, hrk, hbel⟩ := hrel
    obtain ⟨O, hO⟩ : ∃ O, bestF lba f t (L.take k) = O := ⟨_, rfl⟩
    rw [hO] at hbk ⊢
    obtain ⟨⟨u1, u2, u3⟩, hu⟩ : ∃ u, getV O = u := ⟨_, rfl⟩
    rw [hu] at hbk
    have HO := Lib.hid (And.intro hO hu)
    obtain ⟨m0, m1, m2, f0, f1, f2⟩ := blk3 hbk.out
    have hlt1 := lt_of_block hbk.out
    by_cases hlt : k < L.length
    · obtain ⟨x, hx⟩ : ∃ x, L[k]? = some x := ⟨_, List.getElem?_eq_getElem hlt⟩
      obtain ⟨b1, o1, h1, hbl, d⟩ := (HA.out.below hbel).at k x hx
      subst h1
      have HS := Lib.hid (bestF_snoc lba f t L k x hx)
      have hbo : b1 < wr.heap.size := hbl
      obtain ⟨x1, x2, x3⟩ := x
      have d0 : wr.cell? ⟨b1, o1 + k * 3, none⟩ = some (.int .i64 x1) := d 0 _ rfl
      have d1 : wr.cell? ⟨b1, o1 + k * 3 + 1, none⟩ = some (.int .i64 x2) := d 1 _ rfl
      have d2 : wr.cell? ⟨b1, o1 + k * 3 + 2, none⟩ = some (.int .i64 x3) := d 2 _ rfl
      have hk0 : (0 : Int) ≤ (k : Int) := by omega
      have hk1 : (k : Int) < (L.length : Int) := by omega
      have hc : (¬ x1 = lba) ∨ (x1 = lba ∧ ¬ f ≤ x2) ∨ (x1 = lba ∧ f ≤ x2 ∧ ¬ x2 ≤ t) ∨ (x1 = lba ∧ f ≤ x2 ∧ x2 ≤ t) := by omega
      clear d hx hO hu
      rcases hc with h | ⟨h, h2⟩ | ⟨h, h2, h3⟩ | ⟨h, h2, h3⟩
      case inr.inr.inr =>
        have e1 : (x1 == lba) = true := by simp [h]
        have e2 : decide (f ≤ x2) = true := by simpa using h2
        have e3 : decide (x2 ≤ t) = true := by simpa using h3
        have hP : newP lba f t (x1, x2, x3) := ⟨h, h2, h3⟩
        have HP := Lib.hid hP
        clear h h2 h3 hP
        cases O with
        | none =>
          have Q := Lib.hid (show bestF lba f t (L.take (k + 1)) = some (x1, x2, x3) by rw [HS.out, HO.out.1, bstep, if_pos HP.out])
          rw [show (none : Option Ver).isSome = false from rfl]
          go_wp2_with fail
          go_quiet (fail)
          go_wp2
          go_roundg (gk - 1)
          case measure => omega
          case rel =>
            refine ⟨k + 1, by omega, by go_num, by rw [Q.out]; rfl, Lib.hid ?_, Lib.hid ?_, (((below_drewN hbel _).setCell (by simp; omega) _).setCell (by simp; omega) _).setCell (by simp; omega) _⟩
            · rw [Q.out]; exact set3 _ _ _ hbk.out
            · rw [set3_ne _ _ _ (by omega)]; exact hrk.out
        | some b =>
          have hb : b = (u1, u2, u3) := HO.out.2
          subst hb
          rw [show (some (u1, u2, u3) : Option Ver).isSome = true from rfl]
          have cP := fun q => calls_after (less_any (u1, u2, u3) (x1, x2, x3) (After wr q))
          have d0' := after_cell d0
          have d1' := after_cell d1
          have d2' := after_cell d2
          have m0' := after_cell m0
          have m1' := after_cell m1
          have m2' := after_cell m2
          by_cases hlt2 : ltV (u1, u2, u3) (x1, x2, x3)
          · have Q := Lib.hid (show bestF lba f t (L.take (k + 1)) = some (x1, x2, x3) by rw [HS.out, HO.out.1, bstep, if_pos HP.out]; exact if_pos hlt2)
            rw [decide_eq_true hlt2] at cP
            clear hlt2
            go_wp2_with fail
            refine wp_region_after (by kernel_rfl) (by kernel_rfl) ?_
            repeat (quiet_step (exact cP _))
            refine wpQuiet_nil ?_
            rintro w3 ⟨q, rfl⟩
            have hb3 := after_below wr q
            generalize After wr q = w3 at *
            have hbk3 := (hb3.block _ (lt_of_block hbk.out)).trans hbk.out
            have hrk3 := (hb3.block _ (lt_of_block hrk.out)).trans hrk.out
            have hbel3 := hbel.trans (hb3.mono hbel.size)
            have hlt3 := lt_of_block hbk3
            have HB3 := Lib.hid (And.intro hbk3 (And.intro hrk3 hbel3))
            have g0 := (hb3.cell (p := ⟨b1, o1 + k * 3, none⟩) hbo).trans d0
            have g1 := (hb3.cell (p := ⟨b1, o1 + k * 3 + 1, none⟩) hbo).trans d1
            have g2 := (hb3.cell (p := ⟨b1, o1 + k * 3 + 2, none⟩) hbo).trans d2
            clear d0 d1 d2 d0' d1' d2' m0 m1 m2 m0' m1' m2' f0 f1 f2 cP hbel3 hrk3
            obtain ⟨m0, m1, m2, f0, f1, f2⟩ := blk3 hbk3
            clear hbk3
            go_wp2
            go_roundg (gk - 1)
            case measure => omega
            case rel =>
              refine ⟨k + 1, by omega, by go_num, by rw [Q.out]; rfl, Lib.hid ?_, Lib.hid ?_, ((HB3.out.2.2.setCell (by simp; omega) _).setCell (by simp; omega) _).setCell (by simp; omega) _⟩
              · rw [Q.out]; exact set3 _ _ _ HB3.out.1
              · rw [set3_ne _ _ _ (by omega)]; exact HB3.out.2.1
          · have Q := Lib.hid (show bestF lba f t (L.take (k + 1)) = some (u1, u2, u3) by rw [HS.out, HO.out.1, bstep, if_pos HP.out]; exact if_neg hlt2)
            rw [decide_eq_false hlt2] at cP
            clear hlt2
            go_wp2_with fail
            refine wp_region_after (by kernel_rfl) (by kernel_rfl) ?_
            repeat (quiet_step (exact cP _))
            refine wpQuiet_nil ?_
            rintro w3 ⟨q, rfl⟩
            have hb3 := after_below wr q
            generalize After wr q = w3 at *
            have HB3 := Lib.hid (And.intro ((hb3.block _ (lt_of_block hbk.out)).trans hbk.out) (And.intro ((hb3.block _ (lt_of_block hrk.out)).trans hrk.out) (hbel.trans (hb3.mono hbel.size))))
            clear d0 d1 d2 d0' d1' d2' m0 m1 m2 m0' m1' m2' f0 f1 f2 cP hb3
            go_wp2
            go_roundg (gk - 1)
            case measure => omega
            case rel => exact ⟨k + 1, by omega, by go_num, by rw [Q.out]; rfl, Lib.hid (by rw [Q.out]; exact HB3.out.1), Lib.hid HB3.out.2.1, HB3.out.2.2⟩
      case inl =>
        have e1 : (x1 == lba) = false := by simp [h]
        have Q := Lib.hid (show bestF lba f t (L.take (k + 1)) = O by rw [HS.out, HO.out.1, bstep_no _ (fun hp => h hp.1)])
        clear h
        go_wp2_with fail
        go_quiet (fail)
        go_wp2
        go_roundg (gk - 1)
        case measure => omega
        case rel => exact ⟨k + 1, by omega, by go_num, by rw [Q.out], Lib.hid (by rw [Q.out, HO.out.2]; exact hbk.out), Lib.hid hrk.out, below_drewN hbel _⟩
      case inr.inl =>
        have e1 : (x1 == lba) = true := by simp [h]
        have e2 : decide (f ≤ x2) = false := by simpa using h2
        have Q := Lib.hid (show bestF lba f t (L.take (k + 1)) = O by rw [HS.out, HO.out.1, bstep_no _ (fun hp => h2 hp.2.1)])
        clear h h2
        go_wp2_with fail
        go_quiet (fail)
        go_wp2
        go_roundg (gk - 1)
        case measure => omega
        case rel => exact ⟨k + 1, by omega, by go_num, by rw [Q.out], Lib.hid (by rw [Q.out, HO.out.2]; exact hbk.out), Lib.hid hrk.out, below_drewN hbel _⟩
      case inr.inr.inl =>
        have e1 : (x1 == lba) = true := by simp [h]
        have e2 : decide (f ≤ x2) = true := by simpa using h2
        have e3 : decide (x2 ≤ t) = false := by simpa using h3
        have Q := Lib.hid (show bestF lba f t (L.take (k + 1)) = O by rw [HS.out, HO.out.1, bstep_no _ (fun hp => h3 hp.2.2)])
        clear h h2 h3
        go_wp2_with fail
        go_quiet (fail)
        go_wp2
        go_roundg (gk - 1)
        case measure => omega
        case rel => exact ⟨k + 1, by omega, by go_num, by rw [Q.out], Lib.hid (by rw [Q.out, HO.out.2]; exact hbk.out), Lib.hid hrk.out, below_drewN hbel _⟩
    · obtain rfl : k = L.length := by omega
      rw [List.take_length] at hO
      obtain ⟨r0, r1, r2, g0, g1, g2⟩ := blk3 hrk.out
      have Q := Lib.hid (show optV (bestF lba f t L) = .tuple #[verV (u1, u2, u3), .bool O.isSome] by rw [hO, optV, hu])
      obtain ⟨s, hs⟩ : ∃ s, O.isSome = s := ⟨_, rfl⟩
      rw [hs] at Q ⊢
      clear hO hu hs HO
      go_wp2
      refine bodyPost_ret (v := .tuple #[verV (u1, u2, u3), .bool s]) (by simp [results, Try.results19, go_sem, r0, r1, r2]) rfl ?_
      exact HR.out _ _ ⟨by rw [Q.out], ((hbel.setCell (by simp) _).setCell (by simp) _).setCell (by simp) _⟩

end Go.Proofs.Ythhncdcmjejlmaa
