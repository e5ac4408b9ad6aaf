/- The law NetPlays: what its walk gives. -/
import Derived.Test.YtpdnjhofmngfdaaNetLose
import Derived.Test.YtpdnjhofmngfdaaFrameActs
import Derived.Test.YtpdnjhofmngfdaaLaw30p
import Derived.Test.YtpdnjhofmngfdaaAfter
import Derived.Deep.QuietTactic
import Derived.BigQuiet
namespace Ks
open Go Go.RowKit
set_option linter.unusedVariables false

/-- where a play stands: the net, and the row of letters that the law keeps -/
structure PlaysAt (w wr : World) (TN TL : TypeId) (n : Nat) (v r : Value) (L : List Let) : Prop where
  net : NetAt wr TN TL n v L
  rd : Rd letE wr r L
  below : Below w.heap.size w wr
  nlow : w.heap.size ≤ n
  vlow : ∀ b, v.ownBlock = some b → w.heap.size ≤ b
  apart : ∀ b, r.ownBlock = some b → L ≠ [] → b ≠ n ∧ v.ownBlock ≠ some b
  good : L.any badL = false

theorem RdA.at {w : World} {a : Option Addr} {n cap : Nat} {l : List ActD} (h : RdA w (.slice a n cap) l) (i : Nat) (x : ActD) (hx : l[i]? = some x) :
    ∃ b o, a = some ⟨b, o, none⟩ ∧ b < w.heap.size ∧ w.cell? ⟨b, o + i * 3, none⟩ = some (.int .i64 x.kind) ∧ w.cell? ⟨b, o + i * 3 + 1, none⟩ = some (.int .i64 x.n) ∧ w.cell? ⟨b, o + i * 3 + 2, none⟩ = some x.lv ∧
      RdL w x.lv x.ls ∧ x.ls.length ≤ maxLen ∧ ∀ y ∈ x.ls, y.2.size ≤ maxLen := by
  obtain ⟨a', cap', e, hh⟩ := h
  cases e
  exact hh i x hx

theorem Rd.lt {α : Type} {E : Enc α} {w : World} {v : Value} {l : List α} (h : Rd E w v l) (hl : l ≠ []) {b : Nat} (hb : v.ownBlock = some b) : b < w.heap.size := by
  cases l with
  | nil => exact absurd rfl hl
  | cons x l =>
    obtain ⟨a, cap, rfl, _⟩ := h.shape
    obtain ⟨b', o, rfl, hb', _⟩ := h.at 0 x rfl
    simp [Value.ownBlock] at hb
    omega
theorem Rd.none {α : Type} {E : Enc α} {w : World} {v : Value} (h : Rd E w v []) (w' : World) : Rd E w' v [] := by
  obtain ⟨a, cap, rfl, h1, h2, _⟩ := h
  exact ⟨a, cap, rfl, h1, h2, fun i x hx => by simp at hx⟩
/-- a step of the play -/
theorem PlaysAt.step {w wr w4 wx : World} {TN TL : TypeId} {n : Nat} {v r v' r' : Value} {L L' : List Let} (h : PlaysAt w wr TN TL n v r L) (hb : Below wr.heap.size wr w4) (hr : Rd letE w4 r' L') (hor : (r' = r ∧ L' = L) ∨ ∀ b, r'.ownBlock = some b → wr.heap.size ≤ b)
    (hN : NetAt wx TN TL n v' L') (hT : Turn w4 wx n v v') (hg : L'.any badL = false) : PlaysAt w wx TN TL n v' r' L' := by
  have hap : ∀ b, r'.ownBlock = some b → L' ≠ [] → b ≠ n ∧ v.ownBlock ≠ some b := fun b e hne => by
    rcases hor with ⟨rfl, rfl⟩ | ho
    · exact h.apart b e hne
    · have := ho b e
      have := h.net.lt
      exact ⟨by omega, fun e2 => by have := h.net.own.lt e2; omega⟩
  refine ⟨hN, ?_, ?_, h.nlow, hT.low h.vlow (Nat.le_trans h.below.size hb.size), fun b e hne => ?_, hg⟩
  · by_cases hne : L' = []
    · subst hne; exact hr.none _
    · exact rd_of ((rdL_of hr).turn hT (fun e => (hap n e hne).1 rfl) fun b e => (hap b e hne).2)
  · exact (h.below.trans (hb.mono h.below.size)).trans (hT.below h.nlow h.vlow (Nat.le_trans h.below.size hb.size))
  · refine ⟨(hap b e hne).1, fun e2 => ?_⟩
    have hlt := hr.lt hne e
    rcases hT.own with e3 | e3
    · exact (hap b e hne).2 (e3 ▸ e2)
    · have := e3 b e2; omega
theorem PlaysAt.keep {w wr wx : World} {TN TL : TypeId} {n : Nat} {v r : Value} {L : List Let} (h : PlaysAt w wr TN TL n v r L) (hb : Below wr.heap.size wr wx) : PlaysAt w wx TN TL n v r L :=
  ⟨h.net.keep hb, h.rd.below hb, h.below.trans (hb.mono h.below.size), h.nlow, h.vlow, h.apart, h.good⟩
theorem PlaysAt.set {w wr : World} {TN TL : TypeId} {n : Nat} {v r : Value} {L : List Let} (h : PlaysAt w wr TN TL n v r L) {m o : Nat} (u : Value) (h0 : w.heap.size ≤ m) (h1 : m ≠ n) (h2 : v.ownBlock ≠ some m) (h3 : L ≠ [] → r.ownBlock ≠ some m) : PlaysAt w (wr.setCell ⟨m, o, none⟩ u) TN TL n v r L := by
  refine ⟨h.net.set u h1 h2, ?_, h.below.setCell h0 u, h.nlow, h.vlow, h.apart, h.good⟩
  by_cases hne : L = []
  · subst hne; exact h.rd.none _
  · exact h.rd.set u (h3 hne)
theorem idxL_snoc (p : Let → Bool) (l : List Let) (x : Let) : idxL p (l ++ [x]) = if idxL p l = -1 then (if p x then (l.length : Int) else -1) else idxL p l := by
  induction l with
  | nil => simp [idxL]
  | cons y l ih =>
    have hg := idxL_ge p l
    rw [List.cons_append, idxL, idxL, ih]
    cases hy : p y with
    | true => simp
    | false =>
      cases hx : p x with
      | true => by_cases h : idxL p l = -1 <;> simp [h] <;> omega
      | false => by_cases h : idxL p l = -1 <;> simp [h] <;> omega
theorem take_snoc (l : List Let) (k : Nat) (x : Let) (h : l[k]? = some x) : l.take (k + 1) = l.take k ++ [x] := by
  rw [List.take_add_one, h]; rfl
theorem cells2 {w : World} {b : Nat} {c0 c1 : Value} {T : TypeId} (h : w.heap[b]? = some (.cells #[c0, c1] T (0, 0))) : w.cell? ⟨b, 0, none⟩ = some c0 ∧ w.cell? ⟨b, 1, none⟩ = some c1 ∧ w.frozen? ⟨b, 0, none⟩ = false ∧ w.frozen? ⟨b, 1, none⟩ = false :=
  ⟨by rw [cell_of_row w b 0 _ _ _ h]; rfl, by rw [cell_of_row w b 1 _ _ _ h]; rfl, frozen_of_row w b 0 _ _ h, frozen_of_row w b 1 _ _ h⟩
theorem Turn.far {w w' : World} {n : Nat} {v v' : Value} (h : Turn w w' n v v') {m : Nat} (h1 : v.ownBlock ≠ some m) (h2 : m < w.heap.size) : v'.ownBlock ≠ some m := by
  rcases h.own with e | e
  · rw [e]; exact h1
  · exact fun e2 => by have := e m e2; omega
end Ks
namespace Go.Proofs.Ytpdnjhofmngfdaa
open Go.RowKit Ks
set_option linter.unusedVariables false

set_option maxHeartbeats 8000000 in
set_option maxRecDepth 100000 in
theorem plays_any (lv : Value) (l : List ActD) (to : Int) (w : World) (hl : RdA w lv l) (hlen : l.length ≤ maxLen) :
    Calls Try.prog 4 #[lv, .int .i64 to] w fun e w' => e = .returned (.bool true) ∧ Below w.heap.size w w' := by
  refine calls_by fun R HR => ?_
  have HL := Lib.hid hl
  obtain ⟨a, cap, hlv, -⟩ := hl
  subst hlv
  go_enter Try.func4, Try.ntmps4
  go_wp2_with fail
  refine (few_any _ l _ HL.out hlen).mono ?_
  rintro e w1 ⟨bb, rfl, hfew, hb1⟩
  cases bb
  case false =>
    clear hfew
    go_wp2_with fail
    refine (alive_any _).mono ?_
    rintro e w2 ⟨rfl, hb2⟩
    go_wp2
    exact HR.out _ _ ⟨rfl, hb1.trans (hb2.mono hb1.size)⟩
  case true =>
    obtain ⟨h60, h80⟩ := hfew rfl
    have H80 := Lib.hid h80
    clear h80 hfew hlen
    go_wp2_with fail
    refine (new_any _).mono ?_
    rintro e w2 ⟨rfl, hw2⟩
    have hA : Below w1.heap.size w1 w2 := by rw [hw2]; exact (Below.refl _ _).alloc (Nat.le_refl _) _
    have bN : w2.heap[w1.heap.size]? = some (.cells #[.bool true, .slice none 0 0] 45 (0, 0)) := by rw [hw2]; exact heap_alloc_new w1 _
    have hP0 : PlaysAt w w2 45 24 w1.heap.size (.slice none 0 0) (.slice none 0 0) [] :=
      ⟨⟨bN, Own.nil _ _, by simp [Value.ownBlock], by simp⟩, Rd.nil _, hb1.trans (hA.mono hb1.size), hb1.size, fun b e => by simp [Value.ownBlock] at e, fun b e => by simp [Value.ownBlock] at e, rfl⟩
    have HP0 := Lib.hid hP0
    clear hP0 hw2 bN hA
    generalize w1.heap.size = n at *
    clear hb1
    go_wp2
    go_loopw [27, 6] (fun i r wr => ∃ (k : Nat) (L : List Let) (v : Value), k ≤ l.length ∧ i = .int .i64 k ∧ PlaysAt w wr 45 24 n v r L) (fun i _ _ => l.length - (intOf i).toNat)
    case atStart => exact ⟨0, [], _, by omega, rfl, HP0.out⟩
    case round =>
      obtain ⟨k, L, v, hk, rfl, hP⟩ := hrel
      by_cases hlt : k < l.length
      · obtain ⟨x, hx⟩ : ∃ x, l[k]? = some x := ⟨_, List.getElem?_eq_getElem hlt⟩
        have hx80 := H80.out k x hx
        obtain ⟨b, o, ha, hb, c0, c1, c2, hrd, -, -⟩ := (HL.out.below hP.below).at k x hx
        subst ha
        obtain ⟨kk, m, xlv, ls⟩ := x
        simp only at c0 c1 c2 hrd hx80
        clear hx
        obtain ⟨xa, xcap, hxl, -⟩ := id hrd
        subst hxl
        have HP := Lib.hid hP
        have h64 := hP.net.len
        obtain ⟨WA, hWA⟩ : ∃ WA, wr.alloc (.cells #[.int .i64 kk, .int .i64 m, (.slice xa ls.length xcap)] 31) = WA := ⟨_, rfl⟩
        have hbA : Below wr.heap.size wr WA := by rw [← hWA]; exact (Below.refl _ _).alloc (Nat.le_refl _) _
        have bA : WA.heap[wr.heap.size]? = some (.cells #[.int .i64 kk, .int .i64 m, (.slice xa ls.length xcap)] 31 (0, 0)) := by rw [← hWA]; exact heap_alloc_new wr _
        have a0 : WA.cell? ⟨wr.heap.size, 0, none⟩ = some (.int .i64 kk) := by rw [cell_of_row WA _ 0 _ _ _ bA]; rfl
        have a1 : WA.cell? ⟨wr.heap.size, 1, none⟩ = some (.int .i64 m) := by rw [cell_of_row WA _ 1 _ _ _ bA]; rfl
        have a2 : WA.cell? ⟨wr.heap.size, 2, none⟩ = some (.slice xa ls.length xcap) := by rw [cell_of_row WA _ 2 _ _ _ bA]; rfl
        have HRD := Lib.hid hrd
        have HWA := Lib.hid (And.intro hbA bA)
        clear hP hrd hbA bA
        go_wp2_with fail
        refine (play_any kk m _ (.slice xa ls.length xcap) L ls _ (HP.out.rd.below HWA.out.1) (rd_of (HRD.out.below HWA.out.1)) h64 hx80).mono ?_
        rintro e w5 ⟨r', rfl, hr', hor, hb5⟩
        have hlaw := net_law kk m L ls HP.out.good h64
        obtain ⟨ra, rcap, hra, -⟩ := hr'.shape
        subst hra
        clear c0 c1 c2
        generalize hF : playE kk m L ls = F at *
        generalize hL' : playL kk m L ls = L' at *
        obtain ⟨xt, xs, hX⟩ : ∃ xt xs, playX kk m L ls = (xt, xs) := ⟨_, _, rfl⟩
        rw [hX]
        have HLAW := Lib.hid hlaw
        have HX := Lib.hid (And.intro hX (And.intro hF hL'))
        clear hlaw hF hL' hX
        have bA5 := (hb5.block _ (lt_of_block HWA.out.2)).trans HWA.out.2
        obtain ⟨WX, hWX⟩ : ∃ WX, w5.alloc (.cells #[.int .i64 xt, .string xs] 24) = WX := ⟨_, rfl⟩
        have hbX0 : Below w5.heap.size w5 WX := by rw [← hWX]; exact (Below.refl _ _).alloc (Nat.le_refl _) _
        have bXX : WX.heap[w5.heap.size]? = some (.cells #[.int .i64 xt, .string xs] 24 (0, 0)) := by rw [← hWX]; exact heap_alloc_new w5 _
        have bAX := (hbX0.block _ (lt_of_block bA5)).trans bA5
        obtain ⟨W4, hW4⟩ : ∃ W4, WX.alloc (.cells #[.int .i64 0, .string ⟨#[]⟩] 24) = W4 := ⟨_, rfl⟩
        have hbX1 : Below WX.heap.size WX W4 := by rw [← hW4]; exact (Below.refl _ _).alloc (Nat.le_refl _) _
        have hbX := hbX0.trans (hbX1.mono hbX0.size)
        have bA4 := (hbX.block _ (lt_of_block bA5)).trans bA5
        have bX4 := (hbX1.block _ (lt_of_block bXX)).trans bXX
        have bY4 : W4.heap[WX.heap.size]? = some (.cells #[.int .i64 0, .string ⟨#[]⟩] 24 (0, 0)) := by rw [← hW4]; exact heap_alloc_new WX _
        have HE4 := Lib.hid hW4
        clear hW4
        have hb4 : Below wr.heap.size wr W4 := HWA.out.1.trans ((hb5.trans (hbX.mono hb5.size)).mono HWA.out.1.size)
        have hN4 := HP.out.net.keep hb4
        have hr4 := hr'.below hbX
        have HRD4 := Lib.hid (HRD.out.below hb4)
        have HW4 := Lib.hid (And.intro hb4 (And.intro hN4 (And.intro hr4 (And.intro bA4 (And.intro bX4 bY4)))))
        have HOR := Lib.hid (hor.imp id fun h b e => Nat.le_trans HWA.out.1.size (h b e))
        have a0 : (WX.alloc (.cells #[.int .i64 0, .string ⟨#[]⟩] 24)).cell? ⟨wr.heap.size, 0, none⟩ = some (.int .i64 kk) := by rw [HE4.out, cell_of_row W4 _ 0 _ _ _ bA4]; rfl
        have a1 : (WX.alloc (.cells #[.int .i64 0, .string ⟨#[]⟩] 24)).cell? ⟨wr.heap.size, 1, none⟩ = some (.int .i64 m) := by rw [HE4.out, cell_of_row W4 _ 1 _ _ _ bA4]; rfl
        have a2 : (WX.alloc (.cells #[.int .i64 0, .string ⟨#[]⟩] 24)).cell? ⟨wr.heap.size, 2, none⟩ = some (.slice xa ls.length xcap) := by rw [HE4.out, cell_of_row W4 _ 2 _ _ _ bA4]; rfl
        have hz1 : wr.heap.size ≤ w5.heap.size := Nat.le_trans HWA.out.1.size hb5.size
        have hz2 : w5.heap.size < WX.heap.size := lt_of_block bXX
        have hfar : ∀ m, w5.heap.size ≤ m → m ≠ n ∧ v.ownBlock ≠ some m ∧ (L' ≠ [] → (Value.slice ra L'.length rcap).ownBlock ≠ some m) := fun m hm =>
          ⟨by have := HP.out.net.lt; omega, fun e => by have := HP.out.net.own.lt e; omega, fun hne e => by have := hr'.lt hne e; omega⟩
        have HFAR := Lib.hid hfar
        have hlow5 : w.heap.size ≤ w5.heap.size := Nat.le_trans HP.out.below.size hz1
        clear hfar
        clear hr' hor hb5 hbX hbX0 hbX1 bA5 bAX bXX bA4 bX4 bY4 hb4 hN4 hr4
        have hkinds : kk = 1 ∨ kk = 4 ∨ kk = 3 ∨ (kk ≠ 1 ∧ kk ≠ 4 ∧ kk ≠ 3) := by omega
        rcases hkinds with h1 | h1 | h1 | ⟨h1, h4, h3⟩
        case' inl =>
          subst h1
          go_wp2_with fail
          rw [HE4.out]
          refine (send_live n v _ L ls _ HW4.out.2.1 HRD4.out (by omega)).mono ?_
          rintro e wy ⟨v', rfl, hN, hT⟩
          have q1 : sendE L ls = F := by have h := HLAW.out.1; simpa [netE] using h
          have q2 : sendL L ls = L' := by have h := HLAW.out.2.1; simpa [netL] using h
          have q3 : xt = 0 ∧ xs = ⟨#[]⟩ := by have h := HX.out.1; simp [playX] at h; exact ⟨h.1.symm, h.2.symm⟩
          obtain ⟨rfl, rfl⟩ := q3
          rw [q1]
          rw [q2] at hN
          have PY := Lib.hid (HP.out.step HW4.out.1 HW4.out.2.2.1 HOR.out hN hT (HLAW.out.2.1 ▸ HLAW.out.2.2.2))
          have kX := (hT.block _ (lt_of_block HW4.out.2.2.2.2.1) (HFAR.out _ (Nat.le_refl _)).1 (HFAR.out _ (Nat.le_refl _)).2.1).trans HW4.out.2.2.2.2.1
          have kY := (hT.block _ (lt_of_block HW4.out.2.2.2.2.2) (HFAR.out _ (Nat.le_of_lt hz2)).1 (HFAR.out _ (Nat.le_of_lt hz2)).2.1).trans HW4.out.2.2.2.2.2
          have fX := hT.far (HFAR.out _ (Nat.le_refl _)).2.1 (lt_of_block HW4.out.2.2.2.2.1)
          have fY := hT.far (HFAR.out _ (Nat.le_of_lt hz2)).2.1 (lt_of_block HW4.out.2.2.2.2.2)
          obtain ⟨x0, x1, f0, f1⟩ := cells2 kX
          obtain ⟨y0, y1, g0, g1⟩ := cells2 kY
          have HFF := Lib.hid (And.intro fX fY)
          clear hN hT q1 q2 kX kY a0 a1 a2 fX fY
          go_wp2_with fail
        case' inr.inl =>
          subst h1
          go_wp2_with fail
          rw [HE4.out]
          refine (twice_live n v L m _ HW4.out.2.1).mono ?_
          rintro e wy ⟨v', rfl, hN, hT⟩
          have q1 : twiceE L m = F := by have h := HLAW.out.1; simpa [netE] using h
          have q2 : twiceL L m = L' := by have h := HLAW.out.2.1; simpa [netL] using h
          have q3 : xt = 0 ∧ xs = ⟨#[]⟩ := by have h := HX.out.1; simp [playX] at h; exact ⟨h.1.symm, h.2.symm⟩
          obtain ⟨rfl, rfl⟩ := q3
          rw [q1]
          rw [q2] at hN
          have PY := Lib.hid (HP.out.step HW4.out.1 HW4.out.2.2.1 HOR.out hN hT (HLAW.out.2.1 ▸ HLAW.out.2.2.2))
          have kX := (hT.block _ (lt_of_block HW4.out.2.2.2.2.1) (HFAR.out _ (Nat.le_refl _)).1 (HFAR.out _ (Nat.le_refl _)).2.1).trans HW4.out.2.2.2.2.1
          have kY := (hT.block _ (lt_of_block HW4.out.2.2.2.2.2) (HFAR.out _ (Nat.le_of_lt hz2)).1 (HFAR.out _ (Nat.le_of_lt hz2)).2.1).trans HW4.out.2.2.2.2.2
          have fX := hT.far (HFAR.out _ (Nat.le_refl _)).2.1 (lt_of_block HW4.out.2.2.2.2.1)
          have fY := hT.far (HFAR.out _ (Nat.le_of_lt hz2)).2.1 (lt_of_block HW4.out.2.2.2.2.2)
          obtain ⟨x0, x1, f0, f1⟩ := cells2 kX
          obtain ⟨y0, y1, g0, g1⟩ := cells2 kY
          have HFF := Lib.hid (And.intro fX fY)
          clear hN hT q1 q2 kX kY a0 a1 a2 fX fY
          go_wp2_with fail
        case' inr.inr.inl =>
          subst h1
          go_wp2_with fail
          rw [HE4.out]
          refine (lose_live n v L m _ HW4.out.2.1).mono ?_
          rintro e wx ⟨v', rfl, hN, hT⟩
          have q1 : atE L m = F := by have h := HLAW.out.1; simpa [netE] using h
          have q2 : takeR L m = L' := by have h := HLAW.out.2.1; simpa [netL] using h
          rw [q1]
          rw [q2] at hN
          have PX := Lib.hid (HP.out.step HW4.out.1 HW4.out.2.2.1 HOR.out hN hT (HLAW.out.2.1 ▸ HLAW.out.2.2.2))
          have kX := (hT.block _ (lt_of_block HW4.out.2.2.2.2.1) (HFAR.out _ (Nat.le_refl _)).1 (HFAR.out _ (Nat.le_refl _)).2.1).trans HW4.out.2.2.2.2.1
          have kY := (hT.block _ (lt_of_block HW4.out.2.2.2.2.2) (HFAR.out _ (Nat.le_of_lt hz2)).1 (HFAR.out _ (Nat.le_of_lt hz2)).2.1).trans HW4.out.2.2.2.2.2
          have fX := hT.far (HFAR.out _ (Nat.le_refl _)).2.1 (lt_of_block HW4.out.2.2.2.2.1)
          have fY := hT.far (HFAR.out _ (Nat.le_of_lt hz2)).2.1 (lt_of_block HW4.out.2.2.2.2.2)
          obtain ⟨x0, x1, f0, f1⟩ := cells2 kX
          obtain ⟨y0, y1, g0, g1⟩ := cells2 kY
          have HFF := Lib.hid (And.intro fX fY)
          clear hN hT q1 q2 kX kY a0 a1 a2 fX fY
          go_wp2_with fail
          have PY := Lib.hid ((PX.out.set (m := w5.heap.size) (o := 0) (.int .i64 0) hlow5 (HFAR.out _ (Nat.le_refl _)).1 HFF.out.1 (HFAR.out _ (Nat.le_refl _)).2.2).set (m := w5.heap.size) (o := 1) (.string ⟨#[]⟩) hlow5 (HFAR.out _ (Nat.le_refl _)).1 HFF.out.1 (HFAR.out _ (Nat.le_refl _)).2.2)
          clear x0 x1 f0 f1 y0 y1 g0 g1 PX
          generalize (wx.setCell ⟨w5.heap.size, 0, none⟩ (.int .i64 0)).setCell ⟨w5.heap.size, 1, none⟩ (.string ⟨#[]⟩) = wy at *
        case' inr.inr.inr =>
          have h1' : (kk == 1) = false := by simpa using h1
          have h4' : (kk == 4) = false := by simpa using h4
          have h3' : (kk == 3) = false := by simpa using h3
          go_wp2_with fail
          rw [HE4.out]
          refine (take_live n v L m _ HW4.out.2.1).mono ?_
          rintro e wx ⟨v', rfl, hN, hT⟩
          have q1 : atE L m = F := by have h := HLAW.out.1; simpa [netE, h1, h4] using h
          have q2 : takeR L m = L' := by have h := HLAW.out.2.1; simpa [netL, h1, h4] using h
          have q3 : takeX L m = (xt, xs) := by
            have h := HLAW.out.2.2.1
            rw [netX, if_neg h3, netY, if_neg (by simp [h1, h3, h4]), HX.out.1] at h
            exact h.symm
          rw [q3]
          clear q3
          rw [q1]
          rw [q2] at hN
          have PX := Lib.hid (HP.out.step HW4.out.1 HW4.out.2.2.1 HOR.out hN hT (HLAW.out.2.1 ▸ HLAW.out.2.2.2))
          have kX := (hT.block _ (lt_of_block HW4.out.2.2.2.2.1) (HFAR.out _ (Nat.le_refl _)).1 (HFAR.out _ (Nat.le_refl _)).2.1).trans HW4.out.2.2.2.2.1
          have kY := (hT.block _ (lt_of_block HW4.out.2.2.2.2.2) (HFAR.out _ (Nat.le_of_lt hz2)).1 (HFAR.out _ (Nat.le_of_lt hz2)).2.1).trans HW4.out.2.2.2.2.2
          have fX := hT.far (HFAR.out _ (Nat.le_refl _)).2.1 (lt_of_block HW4.out.2.2.2.2.1)
          have fY := hT.far (HFAR.out _ (Nat.le_of_lt hz2)).2.1 (lt_of_block HW4.out.2.2.2.2.2)
          have hAx : Below wx.heap.size wx (wx.alloc (.cells #[.int .i64 xt, .string xs] 24)) := (Below.refl _ _).alloc (Nat.le_refl _) _
          have kX := (hAx.block _ (lt_of_block kX)).trans kX
          have kY := (hAx.block _ (lt_of_block kY)).trans kY
          clear hAx
          obtain ⟨x0, x1, f0, f1⟩ := cells2 kX
          obtain ⟨y0, y1, g0, g1⟩ := cells2 kY
          have HFF := Lib.hid (And.intro fX fY)
          clear hN hT q1 q2 kX kY a0 a1 a2 fX fY
          go_wp2_with fail
          have PY := Lib.hid (((PX.out.keep ((Below.refl _ _).alloc (Nat.le_refl _) (.cells #[.int .i64 xt, .string xs] 24))).set (m := WX.heap.size) (o := 0) (.int .i64 xt) (Nat.le_trans hlow5 (Nat.le_of_lt hz2)) (HFAR.out _ (Nat.le_of_lt hz2)).1 HFF.out.2 (HFAR.out _ (Nat.le_of_lt hz2)).2.2).set (m := WX.heap.size) (o := 1) (.string xs) (Nat.le_trans hlow5 (Nat.le_of_lt hz2)) (HFAR.out _ (Nat.le_of_lt hz2)).1 HFF.out.2 (HFAR.out _ (Nat.le_of_lt hz2)).2.2)
          clear x0 x1 f0 f1 y0 y1 g0 g1 PX
          generalize ((wx.alloc (.cells #[.int .i64 xt, .string xs] 24)).setCell ⟨WX.heap.size, 0, none⟩ (.int .i64 xt)).setCell ⟨WX.heap.size, 1, none⟩ (.string xs) = wy at *
        all_goals
          refine (len_live n v' L' wy PY.out.net).mono ?_
          rintro e w6 ⟨rfl, hb6⟩
          have PY6 := Lib.hid (PY.out.keep hb6)
          go_wp2_with fail
          refine (all_live n v' L' _ PY6.out.net).mono ?_
          rintro e w7 ⟨av, rfl, hown, hb7⟩
          have PY7 := Lib.hid (PY6.out.keep hb7)
          obtain ⟨aa, acap, hav, -⟩ := id (ownsRow_rd hown)
          subst hav
          have HA7 := Lib.hid (ownsRow_rd hown)
          have h64' := PY7.out.net.len
          clear hown hb7 hb6 PY6 PY hlow5
          clear HWA HLAW HX HE4 HRD4 HW4 HOR HFAR HRD hWA hWX HP HFF HP0
          go_wp2
          go_loopw [89, 17] (fun i fst wz => ∃ k2 : Nat, k2 ≤ L'.length ∧ i = .int .i64 k2 ∧ fst = .int .i64 (idxL (fun x => x.1 == to) (L'.take k2)) ∧ Below w7.heap.size w7 wz) (fun i _ _ => L'.length - (intOf i).toNat)
          case atStart => exact ⟨0, by omega, rfl, rfl, Below.refl _ _⟩
          case round =>
            obtain ⟨k2, hk2, rfl, rfl, hbz⟩ := hrel
            obtain ⟨q, hq⟩ : ∃ q, idxL (fun x => x.1 == to) (L'.take k2) = q := ⟨_, rfl⟩
            have hqge : -1 ≤ q := by rw [← hq]; exact idxL_ge _ _
            by_cases hlt2 : k2 < L'.length
            · obtain ⟨y, hy⟩ : ∃ y, L'[k2]? = some y := ⟨_, List.getElem?_eq_getElem hlt2⟩
              have hs := idxL_snoc (fun x => x.1 == to) (L'.take k2) y
              rw [← take_snoc L' k2 y hy, hq, List.length_take, Nat.min_eq_left hk2] at hs
              have HS := Lib.hid hs
              rw [hq]
              obtain ⟨yt, ys⟩ := y
              clear hs hq
              obtain ⟨ba, oa, haa, hba, ee⟩ := (rd_of HA7.out).at k2 _ hy
              obtain ⟨br, orr, har, hbr, ff⟩ := PY7.out.rd.at k2 _ hy
              subst haa har
              have d0 : wr.cell? ⟨ba, oa + k2 * 2, none⟩ = some (.int .i64 yt) := (hbz.cell (p := ⟨ba, oa + k2 * 2, none⟩) hba).trans (ee 0 _ rfl)
              have d1 : wr.cell? ⟨ba, oa + k2 * 2 + 1, none⟩ = some (.string ys) := (hbz.cell (p := ⟨ba, oa + k2 * 2 + 1, none⟩) hba).trans (ee 1 _ rfl)
              have e0 : wr.cell? ⟨br, orr + k2 * 2, none⟩ = some (.int .i64 yt) := (hbz.cell (p := ⟨br, orr + k2 * 2, none⟩) hbr).trans (ff 0 _ rfl)
              have e1 : wr.cell? ⟨br, orr + k2 * 2 + 1, none⟩ = some (.string ys) := (hbz.cell (p := ⟨br, orr + k2 * 2 + 1, none⟩) hbr).trans (ff 1 _ rfl)
              have hk0 : (0 : Int) ≤ (k2 : Int) := by omega
              have hkI : (k2 : Int) < (L'.length : Int) := by omega
              clear ee ff hy
              by_cases hq1 : q = -1
              · subst hq1
                by_cases ht : yt = to
                · have HS2 := Lib.hid (show idxL (fun x => x.1 == to) (L'.take (k2 + 1)) = k2 by rw [HS.out, if_pos rfl, if_pos (by simpa using ht)])
                  have htb : (yt == to) = true := by simpa using ht
                  clear ht
                  go_wp2_with fail
                  go_quiet (fail)
                  go_wp2
                  go_roundw
                  case rel => exact ⟨k2 + 1, by omega, by go_num, by rw [HS2.out], below_drewN hbz _⟩
                  case measure => simp [intOf]; omega
                · have HS2 := Lib.hid (show idxL (fun x => x.1 == to) (L'.take (k2 + 1)) = -1 by rw [HS.out, if_pos rfl, if_neg (by simpa using ht)])
                  have htb : (yt == to) = false := by simpa using ht
                  clear ht
                  go_wp2_with fail
                  go_quiet (fail)
                  go_wp2
                  go_roundw
                  case rel => exact ⟨k2 + 1, by omega, by go_num, by rw [HS2.out], below_drewN hbz _⟩
                  case measure => simp [intOf]; omega
              · have HS2 := Lib.hid (show idxL (fun x => x.1 == to) (L'.take (k2 + 1)) = q by rw [HS.out, if_neg hq1])
                have hq0 : ¬ q < 0 := by omega
                clear hq1
                go_wp2_with fail
                go_quiet (fail)
                go_wp2
                go_roundw
                case rel => exact ⟨k2 + 1, by omega, by go_num, by rw [HS2.out], below_drewN hbz _⟩
                case measure => simp [intOf]; omega
            · obtain rfl : k2 = L'.length := by omega
              rw [List.take_length] at hq ⊢
              have PZ := Lib.hid (PY7.out.keep hbz)
              rw [hq]
              have HQ := Lib.hid hq
              clear hq PY7 HA7
              go_wp2_with fail
              refine (first_live n v' L' to _ PZ.out.net).mono ?_
              rintro e w8 ⟨rfl, hb8⟩
              rw [HQ.out]
              have PW := Lib.hid (PZ.out.keep hb8)
              clear HQ hqge hbz PZ
              have hqq : (q != q) = false := by simp
              go_wp2
              go_roundw
              case rel => exact ⟨k + 1, L', v', by omega, by go_num, PW.out⟩
              case measure => simp [intOf]; omega
      · have hPb := hP.below
        clear HP0
        go_wp2_with fail
        refine (alive_any _).mono ?_
        rintro e w9 ⟨rfl, hb9⟩
        go_wp2
        exact HR.out _ _ ⟨rfl, hPb.trans (hb9.mono hPb.size)⟩

end Go.Proofs.Ytpdnjhofmngfdaa
