/- What the program tells of versions is what the document does: plain. -/
import Derived.Test.YthhncdcmjejlmaaRIdxAll
import Derived.Test.YthhncdcmjejlmaaIdxOf
namespace Ks
open Go Go.RowKit
set_option linter.unusedVariables false

def refL (l : List Ver) : List Ver := l.foldl rAddL []
theorem rAddL_mem (L : List Ver) (x y : Ver) : y ∈ rAddL L x ↔ (y = x ∧ mayV x = true) ∨ y ∈ L := by
  unfold rAddL rAddE
  by_cases h1 : mayV x = true
  · by_cases h2 : x ∈ L
    · simp [h1, h2]; intro e; subst e; exact h2
    · simp [h1, h2, or_comm]
  · simp [h1]
theorem refL_snoc (l : List Ver) (k : Nat) (x : Ver) (h : l[k]? = some x) : refL (l.take (k + 1)) = rAddL (refL (l.take k)) x := by
  rw [refL, take_snocV l k x h, List.foldl_append]; rfl
theorem refL_mem (l : List Ver) (y : Ver) : y ∈ refL l ↔ y ∈ l ∧ mayV y = true := by
  have key : ∀ (l s : List Ver), y ∈ l.foldl rAddL s ↔ y ∈ s ∨ (y ∈ l ∧ mayV y = true) := by
    intro l
    induction l with
    | nil => intro s; simp
    | cons x l ih =>
      intro s
      rw [List.foldl_cons, ih, rAddL_mem, List.mem_cons]
      constructor
      · rintro ((⟨rfl, h⟩ | h) | h)
        · exact Or.inr ⟨Or.inl rfl, h⟩
        · exact Or.inl h
        · exact Or.inr ⟨Or.inr h.1, h.2⟩
      · rintro (h | ⟨rfl | h, h2⟩)
        · exact Or.inl (Or.inr h)
        · exact Or.inl (Or.inl ⟨rfl, h2⟩)
        · exact Or.inr ⟨h, h2⟩
  simpa [refL] using key l []
theorem refL_nodup (l : List Ver) : (refL l).Nodup := by
  have key : ∀ (l s : List Ver), s.Nodup → (l.foldl rAddL s).Nodup := by
    intro l
    induction l with
    | nil => intro s h; exact h
    | cons x l ih =>
      intro s h
      refine ih _ ?_
      unfold rAddL
      split
      · next he =>
        have hx : x ∉ s := fun hm => by
          unfold rAddE at he
          split at he
          · simp at he
          · omega
        rw [List.nodup_append]
        exact ⟨h, by simp, fun a ha b hb => by rw [List.mem_singleton.1 hb]; exact fun e => hx (e ▸ ha)⟩
      · exact h
  exact key l [] List.nodup_nil
theorem refL_length (l : List Ver) : (refL l).length ≤ l.length := by
  have key : ∀ (l s : List Ver), (l.foldl rAddL s).length ≤ s.length + l.length := by
    intro l
    induction l with
    | nil => intro s; simp
    | cons x l ih =>
      intro s
      have h1 := ih (rAddL s x)
      have h2 : (rAddL s x).length ≤ s.length + 1 := by unfold rAddL; split <;> simp
      rw [List.foldl_cons, List.length_cons]
      omega
  simpa [refL] using key l []
theorem same_mem (l : List Ver) (y : Ver) : y ∈ ofL l ↔ y ∈ refL l := by rw [ofL_mem, refL_mem]
theorem same_err (l : List Ver) (x : Ver) : rAddE (refL l) x = addE (ofL l) x := by
  unfold rAddE addE
  by_cases h1 : mayV x = true
  · rw [if_pos h1, if_pos h1]
    by_cases h2 : x ∈ ofL l
    · rw [if_pos h2, if_pos ((same_mem l x).1 h2)]
    · rw [if_neg h2, if_neg (fun h => h2 ((same_mem l x).2 h))]
  · rw [if_neg h1, if_neg h1]

theorem Best.congr {P P' : Ver → Prop} {L : List Ver} {o : Option Ver} (h : ∀ y ∈ L, P y ↔ P' y) (hb : Best P L o) : Best P' L o := by
  cases o with
  | none => exact fun y hy hp => hb y hy ((h y hy).2 hp)
  | some v => exact ⟨hb.1, (h v hb.1).1 hb.2.1, fun y hy hp => hb.2.2 y hy ((h y hy).2 hp)⟩
theorem good_of {l : List Ver} {y : Ver} (h : y ∈ ofL l) : 0 ≤ y.1 ∧ y.1 ≤ 4095 ∧ 0 ≤ y.2.1 := by
  have := ((ofL_mem l y).1 h).2
  simp only [mayV, decide_eq_true_eq] at this
  omega
theorem newest_eq (l : List Ver) (lba ep : Int) : bestF lba 0 ep (refL l) = lastO (ofL l) lba ep := by
  refine ((bestF_best lba 0 ep (refL l)).congr (P' := fun y => y.1 = lba ∧ y.2.1 ≤ ep) fun y hy => ?_).unique (lastO_best (ofL_sorted l) lba ep) fun x => (same_mem l x).symm
  have := good_of ((same_mem l y).2 hy)
  unfold newP
  omega
theorem of_eq (l : List Ver) (lba ep : Int) : bestF lba ep ep (refL l) = ofO (ofL l) lba ep := by
  refine ((bestF_best lba ep ep (refL l)).congr (P' := fun y => y.1 = lba ∧ y.2.1 = ep) fun y hy => ?_).unique (ofO_best (ofL_sorted l) lba ep) fun x => (same_mem l x).symm
  unfold newP
  omega
theorem all_eq {l A : List Ver} (hs : Sorted A) (hm : ∀ x, x ∈ A ↔ x ∈ refL l) : A = ofL l :=
  sorted_ext hs (ofL_sorted l) fun x => by rw [hm, same_mem]

/-! how many places -/
theorem range_count (p : Nat → Bool) (a0 n : Nat) : ((List.range n).filter fun a => p a || a == a0).length = ((List.range n).filter p).length + if a0 < n ∧ p a0 = false then 1 else 0 := by
  induction n with
  | zero => simp
  | succ n ih =>
    rw [List.range_succ, List.filter_append, List.filter_append, List.length_append, List.length_append, ih]
    by_cases h : n = a0
    · subst h
      cases hp : p n <;> simp [hp]
    · have h1 : (n == a0) = false := by simpa using h
      have h2 : (a0 < n + 1 ∧ p a0 = false) ↔ (a0 < n ∧ p a0 = false) := by
        constructor
        · rintro ⟨h3, h4⟩; exact ⟨by omega, h4⟩
        · rintro ⟨h3, h4⟩; exact ⟨by omega, h4⟩
      simp only [h2]
      cases hp : p n <;> simp [hp, h1] <;> omega
def placesD (X : List Ver) : Nat := ((List.range 4096).filter fun a : Nat => X.any fun y => y.1 == (a : Int)).length
theorem placesD_snoc (X : List Ver) (x : Ver) (h0 : 0 ≤ x.1) (h1 : x.1 ≤ 4095) : (placesD (X ++ [x]) : Int) = if X.any (fun y => y.1 == x.1) = true then (placesD X : Int) else placesD X + 1 := by
  obtain ⟨a0, ha⟩ : ∃ a0 : Nat, x.1 = a0 := ⟨x.1.toNat, by omega⟩
  have e : (fun a : Nat => (X ++ [x]).any fun y => y.1 == (a : Int)) = fun a : Nat => (X.any fun y => y.1 == (a : Int)) || a == a0 := by
    funext a
    rw [List.any_append]
    congr 1
    simp only [List.any_cons, List.any_nil, Bool.or_false, ha]
    rw [Bool.eq_iff_iff]
    simp only [beq_iff_eq]
    omega
  have h := range_count (fun a : Nat => X.any fun y => y.1 == (a : Int)) a0 4096
  unfold placesD
  rw [e, h, ha]
  cases hp : X.any fun y => y.1 == (a0 : Int) with
  | true => simp
  | false => rw [if_pos ⟨by omega, rfl⟩]; simp
theorem placesD_mem {X Y : List Ver} (h : ∀ x, x ∈ X ↔ x ∈ Y) : placesD X = placesD Y := by
  unfold placesD
  congr 2
  funext a
  rw [Bool.eq_iff_iff, List.any_eq_true, List.any_eq_true]
  constructor
  · rintro ⟨x, hx, hp⟩; exact ⟨x, (h x).1 hx, hp⟩
  · rintro ⟨x, hx, hp⟩; exact ⟨x, (h x).2 hx, hp⟩
theorem placesD_nil : placesD [] = 0 := by
  unfold placesD
  rw [List.filter_eq_nil_iff.2 (fun a _ => by simp)]
  rfl
theorem plR_eq (X : List Ver) (h : ∀ x ∈ X, 0 ≤ x.1 ∧ x.1 ≤ 4095) : plR X = placesD X := by
  have key : ∀ k, k ≤ X.length → plR (X.take k) = placesD (X.take k) := by
    intro k
    induction k with
    | zero => intro _; rw [List.take_zero, placesD_nil]; rfl
    | succ k ih =>
      intro hk
      obtain ⟨x, hx⟩ : ∃ x, X[k]? = some x := ⟨_, List.getElem?_eq_getElem (by omega)⟩
      have hg := h x (List.mem_of_getElem? hx)
      rw [take_snocV X k x hx, plR_snoc, placesD_snoc _ _ hg.1 hg.2, ih (by omega)]
  have := key X.length (Nat.le_refl _)
  rwa [List.take_length] at this
theorem plF_eq (X : List Ver) (hs : Sorted X) (h : ∀ x ∈ X, 0 ≤ x.1 ∧ x.1 ≤ 4095) : (plF X).1 = placesD X := by
  have key : ∀ k, k ≤ X.length → (plF (X.take k)).1 = placesD (X.take k) ∧ (plF (X.take k)).2 = (match (X.take k).getLast? with | some u => u.1 | none => -1) := by
    intro k
    induction k with
    | zero => intro _; rw [List.take_zero, placesD_nil]; exact ⟨rfl, rfl⟩
    | succ k ih =>
      intro hk
      obtain ⟨x, hx⟩ : ∃ x, X[k]? = some x := ⟨_, List.getElem?_eq_getElem (by omega)⟩
      have hg := h x (List.mem_of_getElem? hx)
      obtain ⟨h1, h2⟩ := ih (by omega)
      rw [plF_snoc X k x hx, take_snocV X k x hx, placesD_snoc _ _ hg.1 hg.2]
      refine ⟨?_, by simp [plStep]⟩
      unfold plStep
      simp only
      rw [h1, h2]
      have hany : ((X.take k).any fun y => y.1 == x.1) = true ↔ x.1 = (match (X.take k).getLast? with | some u => u.1 | none => -1) := by
        cases hl : (X.take k).getLast? with
        | none =>
          have : X.take k = [] := List.getLast?_eq_none_iff.1 hl
          rw [this]
          simp
          omega
        | some u =>
          have hul : u ∈ X.take k := List.mem_of_getLast? hl
          simp only
          constructor
          · intro ha
            obtain ⟨y, hy, e⟩ := List.any_eq_true.1 ha
            simp only [beq_iff_eq] at e
            have hyu : y.1 ≤ u.1 := by
              obtain ⟨i, hi, ei⟩ := List.getElem_of_mem hy
              have hkl : (X.take k).length = k := by rw [List.length_take]; omega
              rw [List.getLast?_eq_getElem?, hkl, List.getElem?_take, if_pos (by omega)] at hl
              have hiX : X[i]? = some y := by
                have : (X.take k)[i]? = some y := by rw [List.getElem?_eq_getElem hi, ei]
                rw [List.getElem?_take, if_pos (by omega)] at this; exact this
              by_cases he : i = k - 1
              · subst he; rw [hiX] at hl; cases hl; omega
              · have := sorted_get hs (by omega) hiX hl
                unfold ltV at this; omega
            have hux : u.1 ≤ x.1 := by
              have hkl : (X.take k).length = k := by rw [List.length_take]; omega
              have hk0 : 0 < k := by
                cases k with
                | zero => simp at hul
                | succ k => omega
              rw [List.getLast?_eq_getElem?, hkl, List.getElem?_take, if_pos (by omega)] at hl
              have := sorted_get hs (by omega) hl hx
              unfold ltV at this; omega
            omega
          · intro e
            exact List.any_eq_true.2 ⟨u, hul, by simp [e]⟩
      by_cases hc : x.1 = (match (X.take k).getLast? with | some u => u.1 | none => -1)
      · rw [if_pos hc, if_pos (hany.2 hc)]
      · rw [if_neg hc, if_neg (fun hh => hc (hany.1 hh))]
  have := (key X.length (Nat.le_refl _)).1
  rwa [List.take_length] at this
theorem places_eq (l : List Ver) : plR (refL l) = (plF (ofL l)).1 := by
  rw [plF_eq _ (ofL_sorted l) (fun x hx => ⟨(good_of hx).1, (good_of hx).2.1⟩), plR_eq _ (fun x hx => ⟨(good_of ((same_mem l x).2 hx)).1, (good_of ((same_mem l x).2 hx)).2.1⟩), placesD_mem (same_mem l)]

/-! an epoch's newest ones -/
theorem range_split (f : Nat → Option Ver) (a0 n : Nat) (h : a0 < n) (hn : ∀ a, a0 < a → f a = none) : (List.range n).filterMap f = (List.range a0).filterMap f ++ (f a0).toList := by
  induction n with
  | zero => omega
  | succ n ih =>
    rw [List.range_succ, List.filterMap_append]
    by_cases he : n = a0
    · subst he
      have e : [n].filterMap f = (f n).toList := by cases hf : f n <;> simp [hf]
      rw [e]
    · rw [ih (by omega)]
      have : f n = none := hn n (by omega)
      simp [this]
theorem filterMap_congr' {f g : Nat → Option Ver} (n : Nat) (h : ∀ a, a < n → f a = g a) : (List.range n).filterMap f = (List.range n).filterMap g := by
  induction n with
  | zero => rfl
  | succ n ih =>
    rw [List.range_succ, List.filterMap_append, List.filterMap_append, ih fun a ha => h a (by omega)]
    congr 1
    simp only [List.filterMap_cons, List.filterMap_nil, h n (by omega)]
theorem epF_eq (X : List Ver) (e : Int) (hs : Sorted X) (h : ∀ x ∈ X, 0 ≤ x.1 ∧ x.1 ≤ 4095) : epF e X = epR X e 4096 := by
  have key : ∀ k, k ≤ X.length → epF e (X.take k) = epR (X.take k) e 4096 := by
    intro k
    induction k with
    | zero =>
      intro _
      rw [List.take_zero]
      have : ∀ n, epR [] e n = [] := fun n => by
        unfold epR
        rw [List.filterMap_eq_nil_iff]
        intro a _
        rfl
      rw [this]; rfl
    | succ k ih =>
      intro hk
      obtain ⟨x, hx⟩ : ∃ x, X[k]? = some x := ⟨_, List.getElem?_eq_getElem (by omega)⟩
      have hg := h x (List.mem_of_getElem? hx)
      have hless : ∀ y ∈ X.take k, ltV y x := fun y hy => by
        obtain ⟨i, hi, ei⟩ := List.getElem_of_mem hy
        have hik : i < k := by rw [List.length_take] at hi; omega
        have hiX : X[i]? = some y := by
          have : (X.take k)[i]? = some y := by rw [List.getElem?_eq_getElem hi, ei]
          rw [List.getElem?_take, if_pos hik] at this; exact this
        exact sorted_get hs hik hiX hx
      rw [epF_snoc e X k x hx, ih (by omega), take_snocV X k x hx]
      have hstep : ∀ a : Nat, bestF (a : Int) e e (X.take k ++ [x]) = if x.1 = a ∧ x.2.1 = e then some x else bestF (a : Int) e e (X.take k) := fun a => by
        rw [bestF, List.foldl_append, List.foldl_cons, List.foldl_nil]
        show bstep (a : Int) e e (bestF (a : Int) e e (X.take k)) x = _
        by_cases hc : x.1 = a ∧ x.2.1 = e
        · rw [if_pos hc]
          have hp : newP (a : Int) e e x := ⟨hc.1, by omega, by omega⟩
          have hb := bestF_best (a : Int) e e (X.take k)
          unfold bstep
          rw [if_pos hp]
          cases ho : bestF (a : Int) e e (X.take k) with
          | none => rfl
          | some b =>
            rw [ho] at hb
            simp only
            rw [if_pos (hless b hb.1)]
        · rw [if_neg hc]
          exact bstep_no _ fun hp => hc ⟨hp.1, by have := hp.2; omega⟩
      unfold epStep
      by_cases he : x.2.1 = e
      · rw [if_pos he]
        obtain ⟨a0, ha⟩ : ∃ a0 : Nat, x.1 = a0 := ⟨x.1.toNat, by omega⟩
        have ha0 : a0 < 4096 := by omega
        have hnone : ∀ a : Nat, a0 < a → bestF (a : Int) e e (X.take k) = none := fun a hlt => by
          have hb := bestF_best (a : Int) e e (X.take k)
          cases ho : bestF (a : Int) e e (X.take k) with
          | none => rfl
          | some b =>
            rw [ho] at hb
            have h1 := hless b hb.1
            have h2 := hb.2.1.1
            unfold ltV at h1
            omega
        have hR : epR (X.take k ++ [x]) e 4096 = (List.range a0).filterMap (fun a : Nat => bestF (a : Int) e e (X.take k)) ++ [x] := by
          unfold epR
          rw [range_split _ a0 4096 ha0 (fun a hlt => by rw [hstep, if_neg (by omega)]; exact hnone a hlt), hstep, if_pos ⟨ha, he⟩]
          congr 1
          exact filterMap_congr' a0 fun a hlt => by rw [hstep, if_neg (by omega)]
        have hL : epR (X.take k) e 4096 = (List.range a0).filterMap (fun a : Nat => bestF (a : Int) e e (X.take k)) ++ (bestF (a0 : Int) e e (X.take k)).toList := range_split _ a0 4096 ha0 hnone
        rw [hR, hL]
        cases ho : bestF (a0 : Int) e e (X.take k) with
        | some b =>
          have hb := bestF_best (a0 : Int) e e (X.take k)
          rw [ho] at hb
          have hbx : b.1 = x.1 := by rw [hb.2.1.1, ha]
          simp [hbx]
        | none =>
          simp only [Option.toList_none, List.append_nil]
          cases hl : ((List.range a0).filterMap fun a : Nat => bestF (a : Int) e e (X.take k)).getLast? with
          | none => rfl
          | some u =>
            have hm := List.mem_of_getLast? hl
            obtain ⟨a, ham, hau⟩ := List.mem_filterMap.1 hm
            have hb := bestF_best (a : Int) e e (X.take k)
            rw [hau] at hb
            have h1 := hb.2.1.1
            have h2 := List.mem_range.1 ham
            simp only
            rw [if_neg (by omega)]
      · rw [if_neg he]
        exact filterMap_congr' 4096 fun a _ => by rw [hstep, if_neg (fun hc => he hc.2)]
  have := key X.length (Nat.le_refl _)
  rwa [List.take_length] at this
theorem epoch_eq (l : List Ver) (e : Int) : epR (refL l) e 4096 = epF e (ofL l) := by
  rw [epF_eq _ e (ofL_sorted l) (fun x hx => ⟨(good_of hx).1, (good_of hx).2.1⟩)]
  exact filterMap_congr' 4096 fun a _ => (bestF_best (a : Int) e e (refL l)).unique (bestF_best (a : Int) e e (ofL l)) fun x => (same_mem l x).symm
end Ks
