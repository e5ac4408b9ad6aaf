/- Texts that the claim rests on, part 3: JrnLive, JrnShut, JrnLeft, JrnWipe, SeqObj, ArrRow, After, QuietTail, BlkRow, Foot. -/
import Derived.Deep.WholeRow
import Derived.Laws.CopyOwn
import Derived.BigQuiet
import Derived.Lib.QuietBelow
import Derived.StillTail
import Derived.Deep.MidRow
import Derived.Test.YteppfjgglelpbaaGreatM2
/- Calls of a live journal, plain: behind a crash at any step of the disk all is there that was committed ahead, or that with what the call would have committed. No program is in sight. -/
namespace Ks
open Go Go.RowKit
set_option linter.unusedVariables false
set_option linter.unusedSimpArgs false
/-- a journal that is told calls: A is committed, L is appended -/
structure Lives (j : JrnT) (k : ByteArray) (A L : List ByteArray) (m : Nat) : Prop where
  br : j.broken = false
  up : j.d.down = false
  tells : Tells j.d.blocks j.last k A
  cache : ∀ p ∈ j.d.cache, 4 + j.last.tail ≤ p.1 ∧ p.1 < j.last.b ∧ p.2.size = 4096
  few : j.d.cache.length ≤ m
  used : j.used = L.length
  le : A.length ≤ L.length ∧ (L.length : Int) ≤ j.last.b - 4
  shown : ∀ n, n < L.length → bl (j.d.cache.foldl putC j.d.blocks) (4 + n) = bl L n
/-- a state that blocks tell -/
def TellsIn (ep ck : Int) (k : ByteArray) (A : List ByteArray) (b : List ByteArray) : Prop := ∃ s, Tells b s k A ∧ s.epoch = ep ∧ s.clock = ck
/-- what a call leaves: the power went; or it was refused; or it is done -/
inductive Did (j : JrnT) (k : ByteArray) (A : List ByteArray) (ep ck : Int) (k2 : ByteArray) (A2 L2 : List ByteArray) (m : Nat) (e : Int) (j2 : JrnT) : Prop
  | gone (h : j2.d.down = true) (he : e ≠ 0) (hk : Kept (fun b => TellsIn j.last.epoch j.last.clock k A b ∨ TellsIn ep ck k2 A2 b) j2.d)
  | not (he : e ≠ 0) (hj : j2 = j)
  | done (he : e = 0) (hl : Lives j2 k2 A2 L2 m) (hs : j2.last.epoch = ep ∧ j2.last.clock = ck ∧ j2.last.b = j.last.b)
theorem wr_step {d : DS} (i : Int) (t : ByteArray) : stpE d (.wr i t) = writeE d i t ∧ stpD d (.wr i t) = writeD d i t := ⟨rfl, rfl⟩
theorem steps_one (d : DS) (x : Stp) : stepsE d [x] = stpE d x ∧ stepsD d [x] = stpD d x := by
  unfold stepsE stepsD
  by_cases h : stpE d x = 0
  · rw [if_neg (by simpa using h), if_neg (by simpa using h)]; exact ⟨h.symm, rfl⟩
  · rw [if_pos h, if_pos h]; exact ⟨rfl, rfl⟩
theorem steps_no {d : DS} {x : Stp} (l : List Stp) (h : stpE d x = 14) : stepsE d (x :: l) = 14 ∧ stepsD d (x :: l) = stpD d x := by
  unfold stepsE stepsD
  rw [h, if_pos (by decide), if_pos (by decide)]
  exact ⟨rfl, rfl⟩
theorem steps_yes {d : DS} {x : Stp} (l : List Stp) (h : stpE d x = 0) : stepsE d (x :: l) = stepsE (stpD d x) l ∧ stepsD d (x :: l) = stepsD (stpD d x) l := by
  rw [stepsE, stepsD, h, if_neg (by decide), if_neg (by decide)]
  exact ⟨rfl, rfl⟩
section
variable {j : JrnT} {k : ByteArray} {A L : List ByteArray} {m : Nat}
theorem Lives.tin (h : Lives j k A L m) : TellsIn j.last.epoch j.last.clock k A j.d.blocks := ⟨_, h.tells, rfl, rfl⟩
theorem cache_free (h : Lives j k A L m) : ∀ p ∈ j.d.cache, Free j.last p := fun p hp => by
  have ho := sok h.tells.ok
  obtain ⟨q1, q2, q3⟩ := h.cache p hp
  exact ⟨Or.inr q1, by omega, q2, q3⟩
theorem Lives.kept (h : Lives j k A L m) {d : DS} (hb : d.blocks = j.d.blocks) (hc : d.cache = j.d.cache) : Kept (TellsIn j.last.epoch j.last.clock k A) d :=
  ((kept_free (b := []) h.tells (cache_free h)).mono fun b q => ⟨_, q, rfl, rfl⟩).same hb hc
/-- the cache with one more write to it, of a block behind all others -/
theorem shown_put {b : List ByteArray} {c : List PutT} {t : ByteArray} (hb : 4 + L.length < b.length) (h : ∀ n, n < L.length → bl (c.foldl putC b) (4 + n) = bl L n) : ∀ n, n < (L ++ [t]).length → bl ((c ++ [(((4 + L.length : Nat) : Int), t)]).foldl putC b) (4 + n) = bl (L ++ [t]) n := by
  intro n hn
  rw [List.foldl_append, List.foldl_cons, List.foldl_nil, bl_put, puts_length, bl_append]
  simp only [List.length_append, List.length_cons, List.length_nil] at hn
  by_cases e : n = L.length
  · subst e
    rw [if_pos ⟨(Int.toNat_natCast _).symm, hb⟩, if_neg (by omega), Nat.sub_self]
    rfl
  · rw [if_neg (fun q => by have := q.1; rw [Int.toNat_natCast] at this; omega), if_pos (by omega)]
    exact h n (by omega)
theorem append_did (h : Lives j k A L m) (t : ByteArray) (ht : t.size = 4096) (hm : m < 4000) : Did j k A j.last.epoch j.last.clock k A (L ++ [t]) (m + 1) (appendE j t) (appendJ j t) ∧ (appendE j t = 0 → appendI j t = (L.length : Int)) := by
  have ho := sok h.tells.ok
  have he := h.tells.len
  have hu := h.used
  have htl := h.tells.tail
  have hle := h.le
  refine ⟨?_, fun q => by unfold appendI; rw [if_pos q, hu]⟩
  unfold appendE appendJ
  rw [h.br, if_neg (by simp), if_neg (by simpa using ht)]
  by_cases hr : roomG j.last j.used = 0
  · rw [if_pos hr, if_pos (Or.inr (Or.inr hr))]
    exact .not (by decide) rfl
  have hg := (geo_yes (sup_ok.1 h.tells.ok).1).2
  have hroom : j.used < j.last.b - 5 := by
    unfold roomG dataG at hr
    rw [hg] at hr
    split at hr <;> omega
  rw [if_neg hr, if_neg (by rintro (q | q | q); simp at q; exact q ht; exact hr q), (steps_one _ _).1, placeG_of h.tells.ok _ (by omega) (by omega)]
  rcases wr_cases (4 + j.used) t h.up (by omega) ht (by have := h.few; omega) with ⟨w1, w2, w3, w4⟩ | ⟨w1, w2, w3, w4⟩
  · rw [show stpE j.d (.wr (4 + j.used) t) = writeE j.d (4 + j.used) t from rfl, w1]
    refine .gone ?_ (by decide) ?_
    · show (stepsD j.d [.wr (4 + j.used) t]).down = true
      rw [(steps_one _ _).2]; exact w2
    · refine ((h.kept ?_ ?_).mono fun b q => Or.inl q)
      · show (stepsD j.d [.wr (4 + j.used) t]).blocks = _
        rw [(steps_one _ _).2]; exact w3
      · show (stepsD j.d [.wr (4 + j.used) t]).cache = _
        rw [(steps_one _ _).2]; exact w4
  · rw [show stpE j.d (.wr (4 + j.used) t) = writeE j.d (4 + j.used) t from rfl, w1]
    have hd : stepsD j.d [.wr (4 + j.used) t] = writeD j.d (4 + j.used) t := (steps_one _ _).2
    have hE : stepsE j.d [.wr (4 + j.used) t] = 0 := (steps_one _ _).1.trans w1
    have hJ : didJ (takenJ j) [.wr (4 + j.used) t] = ⟨writeD j.d (4 + j.used) t, j.last, j.used + 1, false⟩ := by
      unfold didJ takenJ
      simp only [hd, hE, h.br]
      rfl
    rw [hJ]
    refine .done rfl ⟨rfl, w2, by rw [w3]; exact h.tells, fun p hp => ?_, by show (writeD j.d (4 + j.used) t).cache.length ≤ _; rw [w4]; have := h.few; simp; omega, by show j.used + 1 = _; rw [hu]; simp, by show _ ∧ _ ≤ j.last.b - 4; simp; omega, ?_⟩ ⟨rfl, rfl, rfl⟩
    · rw [w4] at hp
      rcases List.mem_append.1 hp with hp | hp
      · exact h.cache p hp
      · rw [List.mem_singleton] at hp
        subst hp
        exact ⟨by show 4 + j.last.tail ≤ 4 + j.used; omega, by show 4 + j.used < j.last.b; omega, ht⟩
    · show ∀ n, n < (L ++ [t]).length → bl ((writeD j.d (4 + j.used) t).cache.foldl putC (writeD j.d (4 + j.used) t).blocks) (4 + n) = bl (L ++ [t]) n
      rw [w3, w4, show (4 : Int) + j.used = ((4 + L.length : Nat) : Int) by omega]
      exact shown_put (by omega) h.shown
theorem flush_cases (h : Lives j k A L m) :
    (stepsE j.d [.fl] = 14 ∧ (didJ j [.fl]).d.down = true ∧ Kept (TellsIn j.last.epoch j.last.clock k A) (didJ j [.fl]).d) ∨
    (stepsE j.d [.fl] = 0 ∧ Lives (didJ j [.fl]) k A L 0 ∧ (didJ j [.fl]).last = j.last ∧ (didJ j [.fl]).used = j.used ∧ (didJ j [.fl]).d.cache = []) := by
  have hE : stepsE j.d [.fl] = flushE j.d := (steps_one _ _).1
  have hD : stepsD j.d [.fl] = flushD j.d := (steps_one _ _).2
  rcases fl_cases h.up with ⟨w1, w2, w3, w4⟩ | ⟨w1, w2, w3, w4⟩
  · left
    refine ⟨hE.trans w1, by show (stepsD j.d [.fl]).down = true; rw [hD]; exact w2, h.kept ?_ ?_⟩
    · show (stepsD j.d [.fl]).blocks = _
      rw [hD]; exact w3
    · show (stepsD j.d [.fl]).cache = _
      rw [hD]; exact w4
  · right
    have hJ : didJ j [.fl] = ⟨flushD j.d, j.last, j.used, false⟩ := by
      unfold didJ
      rw [hD, hE, w1, h.br]
      rfl
    rw [hJ]
    refine ⟨hE.trans w1, ⟨rfl, w2, by rw [w3]; exact tells_puts _ h.tells (cache_free h), fun p hp => ?_, by rw [w4]; simp, h.used, h.le, fun n hn => ?_⟩, rfl, rfl, w4⟩
    · rw [w4] at hp; cases hp
    · show bl ((flushD j.d).cache.foldl putC (flushD j.d).blocks) (4 + n) = _
      rw [w4, w3]
      exact h.shown n hn
/-- a flush -/
def jflE2 (j : JrnT) : Int := if j.broken then 14 else stepsE j.d [.fl]
def jflJ2 (j : JrnT) : JrnT := if j.broken then j else didJ j [.fl]
theorem flush_did (h : Lives j k A L m) : Did j k A j.last.epoch j.last.clock k A L m (jflE2 j) (jflJ2 j) := by
  unfold jflE2 jflJ2
  rw [h.br]
  simp only [Bool.false_eq_true, if_false]
  rcases flush_cases h with ⟨w1, w2, w3⟩ | ⟨w1, w2, w3, w4, w5⟩
  · rw [w1]; exact .gone w2 (by decide) (w3.mono fun b q => Or.inl q)
  · rw [w1]
    exact .done rfl ⟨w2.br, w2.up, w2.tells, w2.cache, by have := w2.few; omega, w2.used, w2.le, w2.shown⟩ ⟨by rw [w3], by rw [w3], by rw [w3]⟩
/-- a superblock written over the other one: of a journal whose blocks are flushed -/
theorem commit_cases {k2 : ByteArray} {s2 : SupT} (h : Tells j.d.blocks j.last k A) (hbr : j.broken = false) (hup : j.d.down = false) (hc : j.d.cache = []) (hok : sOk s2 = true) (hg : s2.gen = j.last.gen + 1) (hb : s2.b = j.last.b) (hk : bl j.d.blocks (keyP s2.epoch).toNat = slotS s2.epoch k2)
    (hkk : k2.size = 32) (ht : s2.tail = L.length) (hd : ∀ n, n < L.length → bl j.d.blocks (4 + n) = bl L n) (hu : j.used = L.length) (hL : (L.length : Int) ≤ j.last.b - 4) :
    (commitE j s2 = 14 ∧ (commitJ j s2).d.down = true ∧ (commitJ j s2).broken = true ∧ (commitJ j s2).last = j.last ∧ Kept (fun b => TellsIn j.last.epoch j.last.clock k A b ∨ TellsIn s2.epoch s2.clock k2 L b) (commitJ j s2).d) ∨
    (commitE j s2 = 0 ∧ Lives (commitJ j s2) k2 L L 0 ∧ (commitJ j s2).last = s2 ∧ (commitJ j s2).d.cache = []) := by
  have ho := sok h.ok
  have ho2 := sok hok
  have he := h.len
  have hsE : sE s2 = 0 := sup_yes hok
  have hN := tells_next h hg hok hb hk hkk ht hd
  have hsp : supP s2.gen = 0 ∨ supP s2.gen = 1 := by unfold supP; omega
  unfold commitE commitJ commitL
  rw [hsE, if_neg (by decide), if_neg (by decide)]
  have hq0 : TellsIn j.last.epoch j.last.clock k A j.d.blocks := ⟨_, h, rfl, rfl⟩
  rcases wr_cases (supP s2.gen) (sS s2) hup (by omega) (sup_szs hok) (by rw [hc]; simp) with ⟨w1, w2, w3, w4⟩ | ⟨w1, w2, w3, w4⟩
  · obtain ⟨e1, e2⟩ := steps_no (d := j.d) (x := .wr (supP s2.gen) (sS s2)) [.fl] w1
    left
    rw [e1, if_pos (by decide)]
    refine ⟨rfl, ?_, ?_, rfl, ?_⟩
    · show (stepsD j.d _).down = true
      rw [e2]; exact w2
    · show (j.broken || decide (stepsE j.d _ ≠ 0)) = true
      rw [e1]; simp
    · show Kept _ (stepsD j.d _)
      rw [e2]
      intro c q
      rw [show (stpD j.d (.wr (supP s2.gen) (sS s2))).cache = [] from w4.trans hc] at q
      cases q
      rw [show (stpD j.d (.wr (supP s2.gen) (sS s2))).blocks = j.d.blocks from w3]
      exact Or.inl hq0
  · obtain ⟨e1, e2⟩ := steps_yes (d := j.d) (x := .wr (supP s2.gen) (sS s2)) [.fl] w1
    rw [(steps_one _ _).1] at e1
    rw [(steps_one _ _).2] at e2
    rcases fl_cases w2 with ⟨q1, q2, q3, q4⟩ | ⟨q1, q2, q3, q4⟩
    · left
      have e1' : stepsE j.d [.wr (supP s2.gen) (sS s2), .fl] = 14 := e1.trans q1
      rw [e1', if_pos (by decide)]
      refine ⟨rfl, ?_, ?_, rfl, ?_⟩
      · show (stepsD j.d _).down = true
        rw [e2]; exact q2
      · show (j.broken || decide (stepsE j.d _ ≠ 0)) = true
        rw [e1']; simp
      · show Kept _ (stepsD j.d _)
        rw [e2]
        have b1 : (stpD (stpD j.d (.wr (supP s2.gen) (sS s2))) .fl).blocks = j.d.blocks := q3.trans w3
        refine kept_one (p := (supP s2.gen, sS s2)) ?_ ?_ ?_
        · show (flushD (writeD j.d (supP s2.gen) (sS s2))).cache = _
          rw [q4, w4, hc]; rfl
        · rw [b1]; exact Or.inl hq0
        · rw [b1]; exact Or.inr ⟨s2, hN, rfl, rfl⟩
    · right
      have e1' : stepsE j.d [.wr (supP s2.gen) (sS s2), .fl] = 0 := e1.trans q1
      rw [e1', if_neg (by decide)]
      have hJ : ({ didJ j [.wr (supP s2.gen) (sS s2), .fl] with last := s2 } : JrnT) = ⟨flushD (writeD j.d (supP s2.gen) (sS s2)), s2, j.used, false⟩ := by
        unfold didJ
        simp only [e2, e1', hbr]
        rfl
      rw [hJ]
      have b1 : (flushD (writeD j.d (supP s2.gen) (sS s2))).blocks = putC j.d.blocks (supP s2.gen, sS s2) := by rw [q3, w3, w4, hc]; rfl
      refine ⟨rfl, ⟨rfl, q2, by rw [b1]; exact hN, fun p hp => ?_, by rw [q4]; simp, hu, ⟨Nat.le_refl _, by show (L.length : Int) ≤ s2.b - 4; omega⟩, fun n hn => ?_⟩, rfl, q4⟩
      · rw [q4] at hp; cases hp
      · show bl ((flushD (writeD j.d (supP s2.gen) (sS s2))).cache.foldl putC (flushD (writeD j.d (supP s2.gen) (sS s2))).blocks) (4 + n) = _
        rw [q4, List.foldl_nil, b1]
        exact hN.data n hn
theorem next_ok (h : Lives j k A L m) (c : Int) (hn : nextE j.last = 0) (ht : timeB j c = true) (u ep : Int) (hu : j.used ≤ u) (hub : u ≤ j.last.b - 4) (hep : j.last.epoch ≤ ep ∧ ep ≤ 4294967295) : sOk ⟨j.last.gen + 1, u, ep, c, j.last.b, j.last.l, j.last.f⟩ = true := by
  have ho := sok h.tells.ok
  have hg := (sup_ok.1 h.tells.ok).1
  have hu0 := h.used
  unfold nextE at hn
  rw [if_pos h.tells.ok] at hn
  have hgen : j.last.gen ≠ 1152921504606846976 := fun q => by rw [if_pos q] at hn; cases hn
  unfold timeB at ht
  rw [decide_eq_true_eq] at ht
  refine sup_ok.2 ⟨hg, ?_⟩
  show 1 ≤ j.last.gen + 1 ∧ j.last.gen + 1 ≤ 1152921504606846976 ∧ 0 ≤ u ∧ u ≤ j.last.b - 4 ∧ j.last.f ≤ ep ∧ ep ≤ 4294967295 ∧ 0 ≤ c ∧ c ≤ 1099511627776
  omega
theorem com_did (h : Lives j k A L m) (c : Int) : Did j k A j.last.epoch c k L L m (comE j c) (comJ j c) := by
  have ho := sok h.tells.ok
  have hle := h.le
  have hus := h.used
  unfold comE comJ
  rw [h.br]
  simp only [Bool.false_eq_true, if_false, false_or]
  cases ht : timeB j c with
  | false => rw [if_pos rfl, if_pos (Or.inl rfl)]; exact .not (by decide) rfl
  | true =>
    simp only [Bool.true_eq_false, if_false, false_or]
    by_cases hn : nextE j.last = 0
    case neg => simp only [ne_eq, hn, not_false_eq_true, if_true]; exact .not hn rfl
    simp only [ne_eq, hn, not_true_eq_false, if_false]
    rcases flush_cases h with ⟨w1, w2, w3⟩ | ⟨w1, w2, w3, w4, w5⟩
    · simp only [w1, if_false, show ¬ (14 : Int) = 0 by decide, not_false_eq_true, if_true]
      exact .gone w2 (by decide) (w3.mono fun b q => Or.inl q)
    · simp only [w1, not_true_eq_false, if_false]
      have hok : sOk (nextS j c) = true := next_ok h c hn ht j.used j.last.epoch (Int.le_refl _) (by omega) (by omega)
      have hT := w2.tells
      have hsh := w2.shown
      rw [w5] at hsh
      have hcc := commit_cases (j := didJ j [.fl]) (k := k) (A := A) (L := L) (k2 := k) (s2 := nextS j c) hT w2.br w2.up w5 hok (by rw [w3]; rfl) (by rw [w3]; rfl) (by have := hT.key; rw [w3] at this; exact this) hT.kk (show j.used = _ from h.used) hsh (w4.trans h.used) (by rw [w3]; exact h.le.2)
      rw [w3] at hcc
      rcases hcc with ⟨q1, q2, -, -, q3⟩ | ⟨q1, q2, q3, q4⟩
      · rw [q1]; exact .gone q2 (by decide) q3
      · rw [q1]
        exact .done rfl ⟨q2.br, q2.up, q2.tells, q2.cache, by have := q2.few; omega, q2.used, q2.le, q2.shown⟩ ⟨by rw [q3]; rfl, by rw [q3]; rfl, by rw [q3]; rfl⟩
end
end Ks
/- An epoch closed, plain: behind a crash at any step of the disk. A new disk formatted. No program is in sight. -/
namespace Ks
open Go Go.RowKit
set_option linter.unusedVariables false
set_option linter.unusedSimpArgs false
section
variable {j : JrnT} {k : ByteArray} {A L : List ByteArray} {m : Nat}
theorem shut_place (h : Lives j k A L m) (t k2 : ByteArray) (c : Int) (hn : shutNo j t k2 c = 0) :
    t.size = 4096 ∧ k2.size = 32 ∧ timeB j c = true ∧ nextE j.last = 0 ∧ j.last.epoch < 4294967295 ∧ j.used < j.last.b - 4 ∧ placeG j.last j.used = 4 + j.used := by
  have hg := (geo_yes (sup_ok.1 h.tells.ok).1).2
  have hu := h.used
  unfold shutNo at hn
  rw [h.br] at hn
  simp only [Bool.false_eq_true, if_false] at hn
  split at hn
  · cases hn
  rename_i h1
  simp only [not_or, Bool.not_eq_false] at h1
  obtain ⟨h11, h12, h13⟩ := h1
  split at hn
  · cases hn
  rename_i h2
  simp only [not_or] at h2
  obtain ⟨h21, h22⟩ := h2
  split at hn
  · cases hn
  rename_i h3
  unfold dataG at h3
  rw [hg] at h3
  exact ⟨Classical.byContradiction h11, Classical.byContradiction h12, h13, Classical.byContradiction h21, by omega, by omega, placeG_of h.tells.ok _ (by omega) (by omega)⟩
/-- the first three steps -/
theorem shut_steps (h : Lives j k A L m) (t k2 : ByteArray) (c : Int) (hn : shutNo j t k2 c = 0) (hm : m < 4000) :
    (stepsE j.d (shutL j t k2) = 14 ∧ (stepsD j.d (shutL j t k2)).down = true ∧ Kept (TellsIn j.last.epoch j.last.clock k A) (stepsD j.d (shutL j t k2))) ∨
    (stepsE j.d (shutL j t k2) = 0 ∧ (stepsD j.d (shutL j t k2)).down = false ∧ (stepsD j.d (shutL j t k2)).cache = [] ∧ Tells (stepsD j.d (shutL j t k2)).blocks j.last k A ∧
      bl (stepsD j.d (shutL j t k2)).blocks (keyP (j.last.epoch + 1)).toNat = slotS (j.last.epoch + 1) k2 ∧ ∀ n, n < (L ++ [t]).length → bl (stepsD j.d (shutL j t k2)).blocks (4 + n) = bl (L ++ [t]) n) := by
  obtain ⟨s1, s2, s3, s4, s5, s6, s7⟩ := shut_place h t k2 c hn
  have ho := sok h.tells.ok
  have he := h.tells.len
  have hu := h.used
  have htl := h.tells.tail
  have hle := h.le
  have hfew := h.few
  have hkp : keyP (j.last.epoch + 1) = 2 ∨ keyP (j.last.epoch + 1) = 3 := by unfold keyP; omega
  have hsl : slotOk (j.last.epoch + 1) k2 = true := slot_ok.2 (by omega)
  have hsz := slot_size _ _ hsl
  have hcf := cache_free h
  have hf1 : Free j.last (4 + j.used, t) := ⟨Or.inr (by show 4 + j.last.tail ≤ 4 + j.used; omega), by show 0 ≤ 4 + j.used; omega, by show 4 + j.used < j.last.b; omega, s1⟩
  have hf2 : Free j.last (keyP (j.last.epoch + 1), slotS (j.last.epoch + 1) k2) := ⟨Or.inl rfl, by show 0 ≤ keyP (j.last.epoch + 1); omega, by show keyP (j.last.epoch + 1) < j.last.b; omega, hsz⟩
  unfold shutL
  rw [s7]
  have hK : ∀ d : DS, d.blocks = j.d.blocks → (∀ p ∈ d.cache, Free j.last p) → Kept (TellsIn j.last.epoch j.last.clock k A) d := fun d q1 q2 => (kept_free (b := []) (by rw [q1]; exact h.tells) q2).mono fun b q => ⟨_, q, rfl, rfl⟩
  rcases wr_cases (4 + j.used) t h.up (by omega) s1 (by omega) with ⟨w1, w2, w3, w4⟩ | ⟨w1, w2, w3, w4⟩
  · obtain ⟨e1, e2⟩ := steps_no (d := j.d) (x := .wr (4 + j.used) t) [.wr (keyP (j.last.epoch + 1)) (slotS (j.last.epoch + 1) k2), .fl] w1
    left
    rw [e1, e2]
    exact ⟨rfl, w2, hK _ w3 (by intro p hp; exact hcf p (by rw [← w4]; exact hp))⟩
  obtain ⟨e1, e2⟩ := steps_yes (d := j.d) (x := .wr (4 + j.used) t) [.wr (keyP (j.last.epoch + 1)) (slotS (j.last.epoch + 1) k2), .fl] w1
  rw [e1, e2]
  show (stepsE (writeD j.d (4 + j.used) t) _ = 14 ∧ (stepsD (writeD j.d (4 + j.used) t) _).down = true ∧ _) ∨ _
  have hc1 : ∀ p ∈ (writeD j.d (4 + j.used) t).cache, Free j.last p := fun p hp => by
    rw [w4] at hp
    rcases List.mem_append.1 hp with hp | hp
    · exact hcf p hp
    · rw [List.mem_singleton] at hp; rw [hp]; exact hf1
  have hb1 : (writeD j.d (4 + j.used) t).blocks.length = j.d.blocks.length := by rw [w3]
  rcases wr_cases (d := writeD j.d (4 + j.used) t) (keyP (j.last.epoch + 1)) (slotS (j.last.epoch + 1) k2) w2 (by omega) hsz (by rw [w4]; simp; omega) with ⟨x1, x2, x3, x4⟩ | ⟨x1, x2, x3, x4⟩
  · obtain ⟨e3, e4⟩ := steps_no (d := writeD j.d (4 + j.used) t) (x := .wr (keyP (j.last.epoch + 1)) (slotS (j.last.epoch + 1) k2)) [.fl] x1
    left
    rw [e3]
    refine ⟨rfl, ?_, ?_⟩
    · show (stepsD (writeD j.d (4 + j.used) t) _).down = true
      rw [e4]; exact x2
    · show Kept _ (stepsD (writeD j.d (4 + j.used) t) _)
      rw [e4]
      exact hK _ (x3.trans w3) (fun p hp => hc1 p (by rw [← x4]; exact hp))
  obtain ⟨e3, e4⟩ := steps_yes (d := writeD j.d (4 + j.used) t) (x := .wr (keyP (j.last.epoch + 1)) (slotS (j.last.epoch + 1) k2)) [.fl] x1
  rw [(steps_one _ _).1] at e3
  rw [(steps_one _ _).2] at e4
  have hc2 : ∀ p ∈ (writeD (writeD j.d (4 + j.used) t) (keyP (j.last.epoch + 1)) (slotS (j.last.epoch + 1) k2)).cache, Free j.last p := fun p hp => by
    rw [x4] at hp
    rcases List.mem_append.1 hp with hp | hp
    · exact hc1 p hp
    · rw [List.mem_singleton] at hp; rw [hp]; exact hf2
  rcases fl_cases x2 with ⟨y1, y2, y3, y4⟩ | ⟨y1, y2, y3, y4⟩
  · left
    refine ⟨e3.trans y1, ?_, ?_⟩
    · show (stepsD (writeD j.d (4 + j.used) t) _).down = true
      rw [e4]; exact y2
    · show Kept _ (stepsD (writeD j.d (4 + j.used) t) _)
      rw [e4]
      exact hK _ (y3.trans (x3.trans w3)) (fun p hp => hc2 p (by rw [← y4]; exact hp))
  · right
    have hB : (stepsD (writeD j.d (4 + j.used) t) [.wr (keyP (j.last.epoch + 1)) (slotS (j.last.epoch + 1) k2), .fl]).blocks = putC ((j.d.cache ++ [(((4 + L.length : Nat) : Int), t)]).foldl putC j.d.blocks) (keyP (j.last.epoch + 1), slotS (j.last.epoch + 1) k2) := by
      rw [e4]
      show (flushD (writeD (writeD j.d (4 + j.used) t) (keyP (j.last.epoch + 1)) (slotS (j.last.epoch + 1) k2))).blocks = _
      rw [y3, x3, x4, w3, w4, List.foldl_append, List.foldl_cons, List.foldl_nil, show (4 : Int) + j.used = ((4 + L.length : Nat) : Int) by omega]
    refine ⟨e3.trans y1, ?_, ?_, ?_, ?_, fun n hn2 => ?_⟩
    · show (stepsD (writeD j.d (4 + j.used) t) _).down = false
      rw [e4]; exact y2
    · show (stepsD (writeD j.d (4 + j.used) t) _).cache = []
      rw [e4]; exact y4
    · show Tells (stepsD (writeD j.d (4 + j.used) t) _).blocks _ _ _
      rw [hB]
      refine tells_put (tells_puts _ h.tells fun p hp => ?_) hf2
      rcases List.mem_append.1 hp with hp | hp
      · exact hcf p hp
      · rw [List.mem_singleton] at hp; rw [hp, show (((4 + L.length : Nat) : Int)) = 4 + j.used by omega]; exact hf1
    · show bl (stepsD (writeD j.d (4 + j.used) t) _).blocks _ = _
      rw [hB, bl_put, puts_length, if_pos ⟨rfl, by omega⟩]
    · show bl (stepsD (writeD j.d (4 + j.used) t) _).blocks _ = _
      rw [hB, bl_put, puts_length, if_neg (fun q => by have := q.1; simp only at this; omega)]
      exact shown_put (by omega) h.shown n hn2
theorem shut_did (h : Lives j k A L m) (t k2 : ByteArray) (c : Int) (hm : m < 4000) : Did j k A (j.last.epoch + 1) c k2 (L ++ [t]) (L ++ [t]) m (shutE j t k2 c) (shutJ j t k2 c) ∧
    (shutE j t k2 c = 0 → (shutJ j t k2 c).d.cache = [] ∧ bl (shutJ j t k2 c).d.blocks (keyP j.last.epoch).toNat = zerosS 4096) := by
  unfold shutE shutJ
  by_cases hn : shutNo j t k2 c = 0
  case neg => simp only [ne_eq, hn, not_false_eq_true, if_true]; exact ⟨.not hn rfl, fun q => q.elim⟩
  simp only [ne_eq, hn, not_true_eq_false, if_false]
  obtain ⟨s1, s2, s3, s4, s5, s6, s7⟩ := shut_place h t k2 c hn
  have ho := sok h.tells.ok
  have hu := h.used
  have hle := h.le
  rcases shut_steps h t k2 c hn hm with ⟨w1, w2, w3⟩ | ⟨w1, w2, w3, w4, w5, w6⟩
  · simp only [w1, show ¬ (14 : Int) = 0 by decide, not_false_eq_true, if_true]
    exact ⟨.gone (show (stepsD j.d (shutL j t k2)).down = true from w2) (by decide) (show Kept _ (stepsD j.d (shutL j t k2)) from w3.mono fun b q => Or.inl q), fun q => by cases q⟩
  simp only [w1, not_true_eq_false, if_false]
  have h1 : shut1 j t k2 = ⟨stepsD j.d (shutL j t k2), j.last, j.used + 1, false⟩ := by
    unfold shut1 didJ takenJ
    simp only [w1, h.br]
    rfl
  have hok : sOk (shutS j c) = true := next_ok h c s4 s3 (j.used + 1) (j.last.epoch + 1) (by omega) (by omega) (by omega)
  have hcc := commit_cases (j := shut1 j t k2) (k := k) (A := A) (L := L ++ [t]) (k2 := k2) (s2 := shutS j c) (by rw [h1]; exact w4) (by rw [h1]) (by rw [h1]; exact w2) (by rw [h1]; exact w3) hok (by rw [h1]; rfl) (by rw [h1]; rfl) (by rw [h1]; exact w5) s2
    (by show j.used + 1 = _; simp; omega) (by rw [h1]; exact w6) (by rw [h1]; show j.used + 1 = _; simp; omega) (by rw [h1]; simp; omega)
  rw [show (shut1 j t k2).last = j.last by rw [h1]] at hcc
  have hS2 : shut2 j t k2 c = commitJ (shut1 j t k2) (shutS j c) := rfl
  rw [← hS2] at hcc
  rcases hcc with ⟨q1, q2, -, -, q3⟩ | ⟨q1, q2, q3, q4⟩
  · simp only [q1, show ¬ (14 : Int) = 0 by decide, not_false_eq_true, if_true]
    exact ⟨.gone q2 (by decide) q3, fun q => by cases q⟩
  simp only [q1, not_true_eq_false, if_false]
  generalize shut2 j t k2 c = j2 at *
  have ho2 := sok q2.tells.ok
  have he2 := q2.tells.len
  have hkp : keyP j.last.epoch = 2 ∨ keyP j.last.epoch = 3 := by unfold keyP; omega
  have hfr : Free j2.last (keyP j.last.epoch, zerosS 4096) := ⟨Or.inl (by rw [q3]; show keyP j.last.epoch = keyP (j.last.epoch + 1 + 1); unfold keyP; omega), by show 0 ≤ keyP j.last.epoch; omega, by show keyP j.last.epoch < j2.last.b; omega, zerosS_size 4096⟩
  have hK : ∀ d : DS, d.blocks = j2.d.blocks → (∀ p ∈ d.cache, Free j2.last p) → Kept (fun b => TellsIn j.last.epoch j.last.clock k A b ∨ TellsIn (j.last.epoch + 1) c k2 (L ++ [t]) b) d := fun d r1 r2 => (kept_free (b := []) (by rw [r1]; exact q2.tells) r2).mono fun b q => Or.inr ⟨_, q, by rw [q3]; rfl, by rw [q3]; rfl⟩
  unfold wipeL
  rcases wr_cases (keyP j.last.epoch) (zerosS 4096) q2.up (by omega) (zerosS_size 4096) (by rw [q4]; simp) with ⟨x1, x2, x3, x4⟩ | ⟨x1, x2, x3, x4⟩
  · obtain ⟨e1, e2⟩ := steps_no (d := j2.d) (x := .wr (keyP j.last.epoch) (zerosS 4096)) [.fl] x1
    rw [e1]
    refine ⟨.gone ?_ (by decide) ?_, fun q => by cases q⟩
    · show (stepsD j2.d _).down = true
      rw [e2]; exact x2
    · show Kept _ (stepsD j2.d _)
      rw [e2]
      exact hK _ x3 (fun p hp => by rw [show (stpD j2.d (.wr (keyP j.last.epoch) (zerosS 4096))).cache = [] from x4.trans q4] at hp; cases hp)
  obtain ⟨e1, e2⟩ := steps_yes (d := j2.d) (x := .wr (keyP j.last.epoch) (zerosS 4096)) [.fl] x1
  rw [(steps_one _ _).1] at e1
  rw [(steps_one _ _).2] at e2
  rcases fl_cases x2 with ⟨y1, y2, y3, y4⟩ | ⟨y1, y2, y3, y4⟩
  · have e1' : stepsE j2.d [.wr (keyP j.last.epoch) (zerosS 4096), .fl] = 14 := e1.trans y1
    rw [e1']
    refine ⟨.gone ?_ (by decide) ?_, fun q => by cases q⟩
    · show (stepsD j2.d _).down = true
      rw [e2]; exact y2
    · show Kept _ (stepsD j2.d _)
      rw [e2]
      refine hK _ (y3.trans x3) (fun p hp => ?_)
      rw [show (stpD (stpD j2.d (.wr (keyP j.last.epoch) (zerosS 4096))) .fl).cache = [(keyP j.last.epoch, zerosS 4096)] from y4.trans (x4.trans (by rw [q4]; rfl))] at hp
      rw [List.mem_singleton] at hp
      rw [hp]; exact hfr
  · have e1' : stepsE j2.d [.wr (keyP j.last.epoch) (zerosS 4096), .fl] = 0 := e1.trans y1
    have hJ : didJ j2 [.wr (keyP j.last.epoch) (zerosS 4096), .fl] = ⟨flushD (writeD j2.d (keyP j.last.epoch) (zerosS 4096)), j2.last, j2.used, false⟩ := by
      unfold didJ
      simp only [e2, e1', q2.br]
      rfl
    rw [hJ, e1']
    have b1 : (flushD (writeD j2.d (keyP j.last.epoch) (zerosS 4096))).blocks = putC j2.d.blocks (keyP j.last.epoch, zerosS 4096) := by
      rw [y3, x3, x4, q4]; rfl
    have c1 : (flushD (writeD j2.d (keyP j.last.epoch) (zerosS 4096))).cache = [] := y4
    have hT := tells_put q2.tells hfr
    refine ⟨.done rfl ⟨rfl, y2, by rw [b1]; exact hT, fun p hp => ?_, by rw [c1]; simp, q2.used, q2.le, fun n hn2 => ?_⟩ ⟨by rw [q3]; rfl, by rw [q3]; rfl, by rw [q3]; rfl⟩, fun _ => ⟨c1, ?_⟩⟩
    · rw [c1] at hp; cases hp
    · show bl ((flushD (writeD j2.d (keyP j.last.epoch) (zerosS 4096))).cache.foldl putC (flushD (writeD j2.d (keyP j.last.epoch) (zerosS 4096))).blocks) (4 + n) = _
      rw [c1, List.foldl_nil, b1]
      exact hT.data n hn2
    · rw [b1, bl_put, if_pos ⟨rfl, by omega⟩]
end
/-! A new disk formatted -/
theorem bl_new (n i : Nat) (h : i < n) : bl (newD n).blocks i = zerosS 4096 := by
  unfold bl newD
  simp only [List.getD_eq_getElem?_getD, List.getElem?_replicate, if_pos h]
  rfl
theorem formed (n : Nat) (l : Int) (k : ByteArray) (hg : geoOk (n : Int) l 0 = true) (hk : k.size = 32) :
    stepsE (newD n) (formL 0 k) = 0 ∧ commitE (didJ ⟨newD n, supT0, 0, false⟩ (formL 0 k)) (formS (n : Int) l 0) = 0 ∧ Clean (formJ n (n : Int) l 0 k).d (formS (n : Int) l 0) k [] ∧ (formJ n (n : Int) l 0 k).d.left = 0 := by
  have hgo := geo_ok.1 hg
  have hok : sOk (formS (n : Int) l 0) = true := sup_ok.2 ⟨hg, by show 1 ≤ (1 : Int) ∧ (1 : Int) ≤ 1152921504606846976 ∧ (0 : Int) ≤ 0 ∧ (0 : Int) ≤ (n : Int) - 4 ∧ (0 : Int) ≤ 0 ∧ (0 : Int) ≤ 4294967295 ∧ (0 : Int) ≤ 0 ∧ (0 : Int) ≤ 1099511627776; omega⟩
  have hsl : slotOk 0 k = true := slot_ok.2 (by omega)
  have hsz := slot_size _ _ hsl
  have hlen : (newD n).blocks.length = n := List.length_replicate
  have hkp : keyP 0 = 2 := by decide
  have hsp : supP 1 = 1 := by decide
  have st : ∀ d : DS, d.left = 0 → d.down = false → flushE d = 0 ∧ flushD d = ⟨d.cache.foldl putC d.blocks, [], false, 0⟩ := fun d q1 q2 => by
    unfold flushE flushD stepD
    rw [q1, q2]
    simp [q1, q2]
  have wt : ∀ (d : DS) (i : Int) (t : ByteArray), d.left = 0 → d.down = false → d.cache = [] → 0 ≤ i ∧ i < (d.blocks.length : Int) → t.size = 4096 → writeE d i t = 0 ∧ writeD d i t = ⟨d.blocks, [(i, t)], false, 0⟩ := fun d i t q1 q2 q3 q4 q5 => by
    have hp : placeE d i t = 0 := by unfold placeE; rw [if_pos ((inD_iff d i).2 q4), if_pos q5]
    unfold writeE writeD stepD
    rw [q1, q2, q3, hp]
    simp [q1, q2, q3]
  have a1 := st (newD n) rfl rfl
  have a1d : flushD (newD n) = newD n := by rw [a1.2]; rfl
  have a2 := wt (newD n) (keyP 0) (slotS 0 k) rfl rfl rfl (by rw [hkp, hlen]; omega) hsz
  have a3 := st (writeD (newD n) (keyP 0) (slotS 0 k)) (by rw [a2.2]) (by rw [a2.2])
  have E : stepsE (newD n) (formL 0 k) = 0 := by
    unfold formL
    rw [(steps_yes (d := newD n) (x := .fl) _ a1.1).1, show stpD (newD n) .fl = flushD (newD n) from rfl, a1d, (steps_yes (d := newD n) (x := .wr (keyP 0) (slotS 0 k)) _ a2.1).1, show stpD (newD n) (.wr (keyP 0) (slotS 0 k)) = writeD (newD n) (keyP 0) (slotS 0 k) from rfl, (steps_one _ _).1]
    exact a3.1
  have D : stepsD (newD n) (formL 0 k) = ⟨putC (newD n).blocks (keyP 0, slotS 0 k), [], false, 0⟩ := by
    unfold formL
    rw [(steps_yes (d := newD n) (x := .fl) _ a1.1).2, show stpD (newD n) .fl = flushD (newD n) from rfl, a1d, (steps_yes (d := newD n) (x := .wr (keyP 0) (slotS 0 k)) _ a2.1).2, show stpD (newD n) (.wr (keyP 0) (slotS 0 k)) = writeD (newD n) (keyP 0) (slotS 0 k) from rfl, (steps_one _ _).2]
    show flushD (writeD (newD n) (keyP 0) (slotS 0 k)) = _
    rw [a3.2, a2.2]
    rfl
  have hsE : sE (formS (n : Int) l 0) = 0 := sup_yes hok
  have hJ : didJ ⟨newD n, supT0, 0, false⟩ (formL 0 k) = ⟨⟨putC (newD n).blocks (keyP 0, slotS 0 k), [], false, 0⟩, supT0, 0, false⟩ := by
    unfold didJ
    simp only [D, E]
    rfl
  have hlen2 : (putC (newD n).blocks (keyP 0, slotS 0 k)).length = n := by rw [putC_length, hlen]
  have a4 := wt ⟨putC (newD n).blocks (keyP 0, slotS 0 k), [], false, 0⟩ (supP 1) (sS (formS (n : Int) l 0)) rfl rfl rfl (by rw [hsp]; show 0 ≤ (1 : Int) ∧ 1 < ((putC (newD n).blocks (keyP 0, slotS 0 k)).length : Int); omega) (sup_szs hok)
  have a5 := st (writeD ⟨putC (newD n).blocks (keyP 0, slotS 0 k), [], false, 0⟩ (supP 1) (sS (formS (n : Int) l 0))) (by rw [a4.2]) (by rw [a4.2])
  have E2 : stepsE ⟨putC (newD n).blocks (keyP 0, slotS 0 k), [], false, 0⟩ (commitL (formS (n : Int) l 0)) = 0 := by
    unfold commitL
    rw [show supP (formS (n : Int) l 0).gen = supP 1 from rfl, (steps_yes (d := ⟨putC (newD n).blocks (keyP 0, slotS 0 k), [], false, 0⟩) (x := .wr (supP 1) (sS (formS (n : Int) l 0))) _ a4.1).1, (steps_one _ _).1]
    exact a5.1
  have D2 : stepsD ⟨putC (newD n).blocks (keyP 0, slotS 0 k), [], false, 0⟩ (commitL (formS (n : Int) l 0)) = ⟨putC (putC (newD n).blocks (keyP 0, slotS 0 k)) (supP 1, sS (formS (n : Int) l 0)), [], false, 0⟩ := by
    unfold commitL
    rw [show supP (formS (n : Int) l 0).gen = supP 1 from rfl, (steps_yes (d := ⟨putC (newD n).blocks (keyP 0, slotS 0 k), [], false, 0⟩) (x := .wr (supP 1) (sS (formS (n : Int) l 0))) _ a4.1).2, (steps_one _ _).2]
    show flushD (writeD _ _ _) = _
    rw [a5.2, a4.2]
    rfl
  have CE : commitE (didJ ⟨newD n, supT0, 0, false⟩ (formL 0 k)) (formS (n : Int) l 0) = 0 := by
    unfold commitE
    rw [hsE, if_neg (by decide), hJ]
    exact E2
  have FD : (formJ n (n : Int) l 0 k).d = ⟨putC (putC (newD n).blocks (keyP 0, slotS 0 k)) (supP 1, sS (formS (n : Int) l 0)), [], false, 0⟩ := by
    unfold formJ commitJ
    rw [hsE, if_neg (by decide), hJ, if_neg (by rw [E2]; decide)]
    exact D2
  refine ⟨E, CE, ?_, by rw [FD]⟩
  rw [FD, hkp, hsp]
  rw [hkp] at hlen2
  have hB : ∀ i, i < n → bl (putC (putC (newD n).blocks ((2 : Int), slotS 0 k)) ((1 : Int), sS (formS (n : Int) l 0))) i = if i = 1 then sS (formS (n : Int) l 0) else if i = 2 then slotS 0 k else zerosS 4096 := fun i hi => by
    rw [bl_put, bl_put, hlen2, hlen, bl_new n i hi]
    show (if i = 1 ∧ i < n then _ else if i = 2 ∧ i < n then _ else _) = _
    simp [hi]
  have h8 : 8 ≤ n := by omega
  have e0 := hB 0 (by omega)
  have e1 := hB 1 (by omega)
  have e2 := hB 2 (by omega)
  have e3 := hB 3 (by omega)
  simp only [Nat.reduceEqDiff, if_true, if_false] at e0 e1 e2 e3
  refine ⟨⟨rfl, rfl, ⟨?_, fun i hi => ?_, hok, e1, Or.inl ?_, e2, hk, rfl, fun i hi => absurd hi (by simp)⟩⟩, e3, fun i h1 h2 => ?_⟩
  · show ((putC (putC (newD n).blocks ((2 : Int), slotS 0 k)) ((1 : Int), sS (formS (n : Int) l 0))).length : Int) = (n : Int)
    rw [putC_length, hlen2]
  · have hi' : i < n := by
      have : i < (putC (putC (newD n).blocks ((2 : Int), slotS 0 k)) ((1 : Int), sS (formS (n : Int) l 0))).length := hi
      rwa [putC_length, hlen2] at this
    rw [hB i hi']
    split
    · exact sup_szs hok
    · split
      · exact hsz
      · exact zerosS_size 4096
  · show stOk (bl _ 0) = false
    rw [e0]; exact zeros_st
  · have h2' : i < n := by
      have : i < (putC (putC (newD n).blocks ((2 : Int), slotS 0 k)) ((1 : Int), sS (formS (n : Int) l 0))).length := h2
      rwa [putC_length, hlen2] at this
    have h1' : 4 ≤ i := by
      have : (4 + (0 : Int)).toNat ≤ i := h1
      omega
    show bl _ i = _
    rw [hB i h2', if_neg (by omega), if_neg (by omega)]
/-- a clean disk, opened: a live journal -/
theorem clean_lives {d : DS} {s : SupT} {k : ByteArray} {A : List ByteArray} (h : Clean d s k A) : Lives ⟨d, s, s.tail, false⟩ k A A 0 := by
  have ho := sok h.rests.tells.ok
  have ht := h.rests.tells.tail
  refine ⟨rfl, h.rests.up, h.rests.tells, fun p hp => ?_, by show d.cache.length ≤ 0; rw [h.rests.cache]; exact Nat.le_refl _, ht, ⟨Nat.le_refl _, by show (A.length : Int) ≤ s.b - 4; omega⟩, fun n hn => ?_⟩
  · have : p ∈ d.cache := hp
    rw [h.rests.cache] at this; cases this
  · show bl (d.cache.foldl putC d.blocks) (4 + n) = _
    rw [h.rests.cache]
    exact h.rests.tells.data n hn
/-- the power armed -/
theorem arm_cases (d : DS) (n : Int) (h : d.down = false) (hn : 0 ≤ n) : armE d n = 0 ∧ armD d n = { d with left := n.toNat } := by
  unfold armE armD
  rw [h]
  have : ¬ n < 0 := by omega
  simp [this]
theorem Lives.left {j : JrnT} {k : ByteArray} {A L : List ByteArray} {m : Nat} (h : Lives j k A L m) (n : Nat) : Lives { j with d := { j.d with left := n } } k A L m := ⟨h.br, h.up, h.tells, h.cache, h.few, h.used, h.le, h.shown⟩
theorem Rests.left {d : DS} {s : SupT} {k : ByteArray} {A : List ByteArray} (h : Rests d s k A) (n : Nat) : Rests { d with left := n } s k A := ⟨h.up, h.cache, h.tells⟩
theorem Clean.left {d : DS} {s : SupT} {k : ByteArray} {A : List ByteArray} (h : Clean d s k A) (n : Nat) : Clean { d with left := n } s k A := ⟨h.rests.left n, h.key, h.rest⟩
/-- behind a crash -/
theorem crash_rests {Q : List ByteArray → Prop} {d : DS} (h : Kept Q d) (keep : List Int) : Q (bootD (crashD d keep)).blocks ∧ (bootD (crashD d keep)).down = false ∧ (bootD (crashD d keep)).cache = [] := ⟨kept_crash h keep, rfl, rfl⟩
theorem Did.more {j : JrnT} {k : ByteArray} {A : List ByteArray} {ep ck : Int} {k2 : ByteArray} {A2 L2 : List ByteArray} {m m2 : Nat} {e : Int} {j2 : JrnT} (h : Did j k A ep ck k2 A2 L2 m e j2) (hm : m ≤ m2) : Did j k A ep ck k2 A2 L2 m2 e j2 := by
  cases h with
  | gone a b c => exact .gone a b c
  | not a b => exact .not a b
  | done a b c => exact .done a ⟨b.br, b.up, b.tells, b.cache, Nat.le_trans b.few hm, b.used, b.le, b.shown⟩ c
end Ks
/- A journal whose disk's power is not armed: nothing fails but what is refused. No program is in sight. -/
namespace Ks
open Go Go.RowKit
set_option linter.unusedVariables false
set_option linter.unusedSimpArgs false
theorem stp_left (d : DS) (x : Stp) (h0 : d.left = 0) (h1 : d.down = false) : (stpD d x).left = 0 ∧ (stpD d x).down = false := by
  have hs : stepD d = d := by unfold stepD; rw [if_pos h0]
  cases x with
  | wr i t =>
    show (writeD d i t).left = 0 ∧ (writeD d i t).down = false
    unfold writeD
    rw [hs, h1]
    split
    · exact ⟨h0, h1⟩
    · simp [h0, h1]
  | fl =>
    show (flushD d).left = 0 ∧ (flushD d).down = false
    unfold flushD
    rw [hs, h1]
    simp [h0, h1]
theorem steps_left (l : List Stp) : ∀ d : DS, d.left = 0 → d.down = false → (stepsD d l).left = 0 ∧ (stepsD d l).down = false := by
  induction l with
  | nil => intro d h0 h1; exact ⟨h0, h1⟩
  | cons x l ih =>
    intro d h0 h1
    have h := stp_left d x h0 h1
    unfold stepsD
    split
    · exact h
    · exact ih _ h.1 h.2
theorem did_left (j : JrnT) (l : List Stp) (h0 : j.d.left = 0) (h1 : j.d.down = false) : (didJ j l).d.left = 0 ∧ (didJ j l).d.down = false := steps_left l j.d h0 h1
theorem commit_left (j : JrnT) (s : SupT) (h0 : j.d.left = 0) (h1 : j.d.down = false) : (commitJ j s).d.left = 0 ∧ (commitJ j s).d.down = false := by
  unfold commitJ
  split
  · exact ⟨h0, h1⟩
  · split
    · exact did_left j _ h0 h1
    · exact did_left j _ h0 h1
section
variable {j : JrnT} {k : ByteArray} {A L : List ByteArray} {m : Nat}
theorem append_left (h : Lives j k A L m) (t : ByteArray) (ht : t.size = 4096) (hm : m < 4000) (hr : roomG j.last j.used ≠ 0) (h0 : j.d.left = 0) :
    appendE j t = 0 ∧ appendI j t = (L.length : Int) ∧ Lives (appendJ j t) k A (L ++ [t]) (m + 1) ∧ (appendJ j t).last = j.last ∧ (appendJ j t).used = j.used + 1 ∧ (appendJ j t).d.left = 0 := by
  have hJ : appendJ j t = didJ (takenJ j) [.wr (placeG j.last j.used) t] := by unfold appendJ; rw [if_neg (by rintro (q | q | q); (rw [h.br] at q; cases q); exact q ht; exact hr q)]
  have hl := did_left (takenJ j) [.wr (placeG j.last j.used) t] h0 h.up
  have hE : appendE j t = stepsE j.d [.wr (placeG j.last j.used) t] := by
    unfold appendE
    rw [h.br, if_neg (by simp), if_neg (by simpa using ht), if_neg hr]
  obtain ⟨hd, hi⟩ := append_did h t ht hm
  cases hd with
  | gone a b c => rw [hJ] at a; rw [hl.2] at a; cases a
  | not a b =>
    have : (appendJ j t).used = j.used := by rw [b]
    rw [hJ] at this
    have h2 : j.used + 1 = j.used := this
    omega
  | done a b c => exact ⟨a, hi a, b, by rw [hJ]; rfl, by rw [hJ]; rfl, by rw [hJ]; exact hl.1⟩
theorem com_left (h : Lives j k A L m) (c : Int) (ht : timeB j c = true) (hn : nextE j.last = 0) (h0 : j.d.left = 0) :
    comE j c = 0 ∧ Lives (comJ j c) k L L 0 ∧ (comJ j c).last = nextS j c ∧ (comJ j c).used = j.used := by
  have ho := sok h.tells.ok
  have hle := h.le
  have hus := h.used
  have hl := did_left j [.fl] h0 h.up
  unfold comE comJ
  rw [h.br]
  simp only [Bool.false_eq_true, if_false, false_or, ht, Bool.true_eq_false, ne_eq, hn, not_true_eq_false]
  rcases flush_cases h with ⟨w1, w2, w3⟩ | ⟨w1, w2, w3, w4, w5⟩
  · rw [hl.2] at w2; cases w2
  · simp only [w1, not_true_eq_false, if_false]
    have hok : sOk (nextS j c) = true := next_ok h c hn ht j.used j.last.epoch (Int.le_refl _) (by omega) (by omega)
    have hT := w2.tells
    have hsh := w2.shown
    rw [w5] at hsh
    have hcc := commit_cases (j := didJ j [.fl]) (k := k) (A := A) (L := L) (k2 := k) (s2 := nextS j c) hT w2.br w2.up w5 hok (by rw [w3]; rfl) (by rw [w3]; rfl) (by have := hT.key; rw [w3] at this; exact this) hT.kk (show j.used = _ from h.used) hsh (w4.trans h.used) (by rw [w3]; exact h.le.2)
    have hl2 := commit_left (didJ j [.fl]) (nextS j c) hl.1 hl.2
    rcases hcc with ⟨q1, q2, -, -, q3⟩ | ⟨q1, q2, q3, q4⟩
    · rw [hl2.2] at q2; cases q2
    · refine ⟨q1, q2, q3, ?_⟩
      have e1 := q2.used
      omega
end
end Ks
/- What an epoch's closing leaves of the key ahead, plain. No program is in sight. -/
namespace Ks
open Go Go.RowKit
set_option linter.unusedVariables false
set_option linter.unusedSimpArgs false
theorem stp_len (d : DS) (x : Stp) : (stpD d x).blocks.length = d.blocks.length := by
  cases x with
  | wr i t =>
    show (writeD d i t).blocks.length = _
    unfold writeD
    split
    · rfl
    · split
      · rw [stepD_blocks]
      · show (stepD d).blocks.length = _; rw [stepD_blocks]
  | fl =>
    show (flushD d).blocks.length = _
    unfold flushD
    split
    · rfl
    · split
      · rw [stepD_blocks]
      · show (d.cache.foldl putC d.blocks).length = _; rw [puts_length]
theorem steps_len (l : List Stp) : ∀ d : DS, (stepsD d l).blocks.length = d.blocks.length := by
  induction l with
  | nil => intro d; rfl
  | cons x l ih =>
    intro d
    unfold stepsD
    split
    · exact stp_len d x
    · rw [ih, stp_len]
theorem did_len (j : JrnT) (l : List Stp) : (didJ j l).d.blocks.length = j.d.blocks.length := steps_len l j.d
theorem commit_len (j : JrnT) (s : SupT) : (commitJ j s).d.blocks.length = j.d.blocks.length := by
  unfold commitJ
  split
  · rfl
  · split
    · exact did_len j _
    · exact did_len j _
theorem shut_len (j : JrnT) (t k : ByteArray) (c : Int) : (shutJ j t k c).d.blocks.length = j.d.blocks.length := by
  have h1 : (shut1 j t k).d.blocks.length = j.d.blocks.length := did_len (takenJ j) _
  have h2 : (shut2 j t k c).d.blocks.length = j.d.blocks.length := (commit_len (shut1 j t k) _).trans h1
  unfold shutJ
  split
  · rfl
  · split
    · exact h1
    · split
      · exact h2
      · exact (did_len _ _).trans h2
theorem zeros_left (L : List Int) : ∀ d : DS, d.left = 0 → d.down = false → (zerosD d L).left = 0 ∧ (zerosD d L).down = false := by
  induction L with
  | nil => intro d h0 h1; exact ⟨h0, h1⟩
  | cons i L ih =>
    intro d h0 h1
    have h := stp_left d (.wr i (zerosS 4096)) h0 h1
    unfold zerosD
    split
    · exact h
    · exact ih _ h.1 h.2
theorem right_left {d : DS} {s : SupT} (h0 : d.left = 0) (h1 : d.down = false) : (rightD d s).down = false := by
  have h := zeros_left (rightL d s) d h0 h1
  unfold rightD
  split
  · exact h.2
  · split
    · exact h1
    · exact (stp_left _ .fl h.1 h.2).2
/-- the keys' places, and what is not flushed -/
structure WOK (j : JrnT) (a b : ByteArray) : Prop where
  cache : j.d.cache = []
  len : j.d.blocks.length = 9
  alt : (j.last.epoch = 0 ∧ bl j.d.blocks 2 = slotS 0 a ∧ bl j.d.blocks 3 = zerosS 4096) ∨ (j.last.epoch = 1 ∧ bl j.d.blocks 2 = zerosS 4096 ∧ bl j.d.blocks 3 = slotS 1 b)
section
variable {d : DS} {a b t : ByteArray}
/-- a closing: done, or behind a crash -/
theorem wiped_shut (hc : Clean d (formS 9 1 0) a []) (ht : t.size = 4096) (n : Nat) (keep : List Int) :
    (shutE ⟨{ d with left := n }, formS 9 1 0, 0, false⟩ t b 3 = 0 → WOK (shutJ ⟨{ d with left := n }, formS 9 1 0, 0, false⟩ t b 3) a b ∧ (shutJ ⟨{ d with left := n }, formS 9 1 0, 0, false⟩ t b 3).last.epoch = 1) ∧
    (shutE ⟨{ d with left := n }, formS 9 1 0, 0, false⟩ t b 3 ≠ 0 → ∃ s k A, Rests (bootD (crashD (shutJ ⟨{ d with left := n }, formS 9 1 0, 0, false⟩ t b 3).d keep)) s k A ∧ s.b = 9 ∧ ((s.epoch = 0 ∧ k = a) ∨ (s.epoch = 1 ∧ k = b))) := by
  have hl : Lives ⟨{ d with left := n }, formS 9 1 0, 0, false⟩ a [] [] 0 := (clean_lives hc).left n
  have hlen : d.blocks.length = 9 := by
    have h : (d.blocks.length : Int) = (9 : Int) := hc.rests.tells.len
    omega
  obtain ⟨hd, hw⟩ := shut_did hl t b 3 (by decide)
  have hL := shut_len ⟨{ d with left := n }, formS 9 1 0, 0, false⟩ t b 3
  have hL2 : (shutJ ⟨{ d with left := n }, formS 9 1 0, 0, false⟩ t b 3).d.blocks.length = 9 := hL.trans hlen
  have hcl : ∀ keep, (bootD (crashD (shutJ ⟨{ d with left := n }, formS 9 1 0, 0, false⟩ t b 3).d keep)).blocks.length = 9 := fun keep => by
    show ((keptC keep _ 0).foldl putC _).length = 9
    rw [puts_length, hL2]
  have key : ∀ k A ep ck, TellsIn ep ck k A (bootD (crashD (shutJ ⟨{ d with left := n }, formS 9 1 0, 0, false⟩ t b 3).d keep)).blocks → ∃ s, Rests (bootD (crashD (shutJ ⟨{ d with left := n }, formS 9 1 0, 0, false⟩ t b 3).d keep)) s k A ∧ s.b = 9 ∧ s.epoch = ep := fun k A ep ck ⟨s, q1, q2, q3⟩ =>
    ⟨s, ⟨rfl, rfl, q1⟩, by rw [← q1.len, hcl]; rfl, q2⟩
  refine ⟨fun he => ?_, fun he => ?_⟩
  · obtain ⟨w1, w2⟩ := hw he
    cases hd with
    | gone h1 h2 h3 => exact absurd he h2
    | not h1 h2 => exact absurd he h1
    | done h1 h2 h3 =>
      have hep : (shutJ ⟨{ d with left := n }, formS 9 1 0, 0, false⟩ t b 3).last.epoch = 1 := h3.1
      have hk := h2.tells.key
      rw [hep] at hk
      exact ⟨⟨w1, hL2, Or.inr ⟨hep, w2, hk⟩⟩, hep⟩
  · cases hd with
    | gone h1 h2 h3 =>
      rcases kept_crash h3 keep with q | q
      · obtain ⟨s, q1, q2, q3⟩ := key _ _ _ _ q
        exact ⟨s, _, _, q1, q2, Or.inl ⟨q3, rfl⟩⟩
      · obtain ⟨s, q1, q2, q3⟩ := key _ _ _ _ q
        exact ⟨s, _, _, q1, q2, Or.inr ⟨q3, rfl⟩⟩
    | not h1 h2 =>
      have h3 := kept_crash (hl.kept (d := (shutJ ⟨{ d with left := n }, formS 9 1 0, 0, false⟩ t b 3).d) (by rw [h2]) (by rw [h2])) keep
      obtain ⟨s, q1, q2, q3⟩ := key _ _ _ _ h3
      exact ⟨s, _, _, q1, q2, Or.inl ⟨q3, rfl⟩⟩
    | done h1 h2 h3 => exact absurd h1 he
theorem wiped_clean {s : SupT} {k : ByteArray} {A : List ByteArray} (h : Clean d s k A) (hb : s.b = 9) (ha : (s.epoch = 0 ∧ k = a) ∨ (s.epoch = 1 ∧ k = b)) : WOK ⟨d, s, s.tail, false⟩ a b := by
  have h1 := h.rests.tells.len
  have h2 := h.rests.tells.key
  have h3 := h.key
  refine ⟨h.rests.cache, by show d.blocks.length = 9; omega, ?_⟩
  rcases ha with ⟨e, rfl⟩ | ⟨e, rfl⟩
  · left
    rw [e] at h2 h3
    exact ⟨e, h2, h3⟩
  · right
    rw [e] at h2 h3
    exact ⟨e, h3, h2⟩
end
end Ks
/- A thing that was made, with a row of its own: what stands of it, what a call turns. Plain. No program is in sight. -/
namespace Ks
open Go Go.RowKit
set_option linter.unusedVariables false

variable {α : Type} {E : Enc α}

/-- a thing of two cells: that it was made, and its row -/
structure Held (E : Enc α) (w : World) (TN TL : TypeId) (n : Nat) (v : Value) (l : List α) : Prop where
  blk : w.heap[n]? = some (.cells #[.bool true, v] TN (0, 0))
  own : Row E w 0 TL v l
  ne : v.ownBlock ≠ some n
theorem Held.lt {w : World} {TN TL : TypeId} {n : Nat} {v : Value} {l : List α} (h : Held E w TN TL n v l) : n < w.heap.size := lt_of_block h.blk
theorem Held.keep {w w' : World} {TN TL : TypeId} {n : Nat} {v : Value} {l : List α} (h : Held E w TN TL n v l) (hb : Below w.heap.size w w') : Held E w' TN TL n v l :=
  ⟨(hb.block n h.lt).trans h.blk, h.own.below hb, h.ne⟩
theorem Held.cells {w : World} {TN TL : TypeId} {n : Nat} {v : Value} {l : List α} (h : Held E w TN TL n v l) : w.cell? ⟨n, 0, none⟩ = some (.bool true) ∧ w.cell? ⟨n, 1, none⟩ = some v ∧ w.frozen? ⟨n, 0, none⟩ = false ∧ w.frozen? ⟨n, 1, none⟩ = false :=
  ⟨by rw [cell_of_row w n 0 _ _ _ h.blk]; rfl, by rw [cell_of_row w n 1 _ _ _ h.blk]; rfl, frozen_of_row w n 0 _ _ h.blk, frozen_of_row w n 1 _ _ h.blk⟩
/-- a thing that is none, or that no call made -/
def Dead (w : World) (TN : TypeId) (v : Value) : Prop := v = .pointer none ∨ ∃ n, v = .pointer (some ⟨n, 0, none⟩) ∧ w.heap[n]? = some (.cells #[.bool false, .slice none 0 0] TN (0, 0))
theorem Dead.keep {w w' : World} {TN : TypeId} {v : Value} (h : Dead w TN v) (hb : Below w.heap.size w w') : Dead w' TN v := by
  rcases h with h | ⟨n, rfl, h⟩
  · exact Or.inl h
  · exact Or.inr ⟨n, rfl, (hb.block n (lt_of_block h)).trans h⟩

/-- only the thing and its own row are turned -/
structure Turned (w w' : World) (n : Nat) (v v' : Value) : Prop where
  os : w'.os = w.os
  tape : w'.tape = w.tape
  output : w'.output = w.output
  size : w.heap.size ≤ w'.heap.size
  block : ∀ k, k < w.heap.size → k ≠ n → v.ownBlock ≠ some k → w'.heap[k]? = w.heap[k]?
  own : v'.ownBlock = v.ownBlock ∨ ∀ b, v'.ownBlock = some b → w.heap.size ≤ b
theorem Turned.of_below {w w' : World} {n : Nat} {v : Value} (hb : Below w.heap.size w w') : Turned w w' n v v :=
  ⟨hb.os, hb.tape, hb.output, hb.size, fun k hk _ _ => hb.block k hk, Or.inl rfl⟩
theorem Turned.below {w w' : World} {n B : Nat} {v v' : Value} (h : Turned w w' n v v') (hn : B ≤ n) (hv : ∀ b, v.ownBlock = some b → B ≤ b) (hB : B ≤ w.heap.size) : Below B w w' :=
  ⟨h.os, h.tape, h.output, h.size, fun k hk => h.block k (by omega) (by omega) fun e => by have := hv k e; omega⟩
theorem Turned.after {w w1 w2 : World} {n : Nat} {v v' : Value} (hb : Below w.heap.size w w1) (h : Turned w1 w2 n v v') : Turned w w2 n v v' :=
  ⟨h.os.trans hb.os, h.tape.trans hb.tape, h.output.trans hb.output, Nat.le_trans hb.size h.size, fun k hk h1 h2 => (h.block k (Nat.lt_of_lt_of_le hk hb.size) h1 h2).trans (hb.block k hk),
    h.own.imp id fun h b e => Nat.le_trans hb.size (h b e)⟩
theorem Turned.then {w w1 w2 : World} {n : Nat} {v v' : Value} (h : Turned w w1 n v v') (hb : Below w1.heap.size w1 w2) : Turned w w2 n v v' :=
  ⟨hb.os.trans h.os, hb.tape.trans h.tape, hb.output.trans h.output, Nat.le_trans h.size hb.size, fun k hk h1 h2 => (hb.block k (Nat.lt_of_lt_of_le hk h.size)).trans (h.block k hk h1 h2), h.own⟩
theorem Turned.low {w w' : World} {n B : Nat} {v v' : Value} (h : Turned w w' n v v') (hv : ∀ b, v.ownBlock = some b → B ≤ b) (hB : B ≤ w.heap.size) : ∀ b, v'.ownBlock = some b → B ≤ b := by
  intro b hb
  rcases h.own with e | e
  · exact hv b (e ▸ hb)
  · exact Nat.le_trans hB (e b hb)
theorem set_ne {w : World} {n k o : Nat} (u : Value) (h : k ≠ n) : (w.setCell ⟨n, o, none⟩ u).heap[k]? = w.heap[k]? := Below.heap_setCell _ _ _ _ h
theorem set_one {w : World} {n : Nat} {c0 c1 : Value} {T : TypeId} (u : Value) (h : w.heap[n]? = some (.cells #[c0, c1] T (0, 0))) : (w.setCell ⟨n, 1, none⟩ u).heap[n]? = some (.cells #[c0, u] T (0, 0)) := by
  simp [World.setCell, Array.getElem?_modify, h]
theorem Rd.put {w : World} {v : Value} {l : List α} (h : Rd E w v l) {m o : Nat} (u : Value) (hm : v.ownBlock ≠ some m) : Rd E (w.setCell ⟨m, o, none⟩ u) v l :=
  h.keep (by simp) fun b e => set_ne u fun e2 => hm (by rw [e, e2])
theorem Rd.turned {w w' : World} {n : Nat} {v v' u : Value} {β : Type} {E' : Enc β} {l : List β} (hl : Rd E' w u l) (h : Turned w w' n v v') (h1 : u.ownBlock ≠ some n) (h2 : ∀ b, u.ownBlock = some b → v.ownBlock ≠ some b) : Rd E' w' u l := by
  obtain ⟨a, cap, rfl, hc, hn, hh⟩ := hl
  refine ⟨a, cap, rfl, hc, hn, fun i x hx => ?_⟩
  obtain ⟨b, o, rfl, hlt, hcs⟩ := hh i x hx
  have e := h.block b hlt (fun e => h1 (by simp [Value.ownBlock, e])) (h2 b rfl)
  exact ⟨b, o, rfl, Nat.lt_of_lt_of_le hlt h.size, fun j u hu => (World.cell?_of_block (a := ⟨b, o + i * E'.k + j, none⟩) e).trans (hcs j u hu)⟩
theorem Rd.lt' {w : World} {v : Value} {l : List α} (h : Rd E w v l) (hl : l ≠ []) {b : Nat} (hb : v.ownBlock = some b) : b < w.heap.size := by
  cases l with
  | nil => exact absurd rfl hl
  | cons x l =>
    obtain ⟨a, cap, rfl, _⟩ := h.shape
    obtain ⟨b', o, rfl, hb', _⟩ := h.at 0 x rfl
    simp [Value.ownBlock] at hb
    omega
theorem Rd.empty {w : World} {v : Value} (h : Rd E w v []) (w' : World) : Rd E w' v [] := by
  obtain ⟨a, cap, rfl, h1, h2, _⟩ := h
  exact ⟨a, cap, rfl, h1, h2, fun i x hx => by simp at hx⟩

theorem Row.any {w : World} {B : Nat} {T : TypeId} {v : Value} {l : List α} (h : Row E w B T v l) : ∃ a n cap, v = .slice a n cap := by
  obtain ⟨a, cap, e, _⟩ := h.shape
  exact ⟨a, _, cap, e⟩
/-- the store that ends a call -/
theorem Held.store {w w2 : World} {TN TL : TypeId} {n : Nat} {v v' : Value} {L L' : List α} (h : Held E w TN TL n v L) (hg : Grew E w w2 0 TL v v' L') :
    Held E (w2.setCell ⟨n, 1, none⟩ v') TN TL n v' L' ∧ Turned w (w2.setCell ⟨n, 1, none⟩ v') n v v' := by
  obtain ⟨ho, hg, hor, _⟩ := hg
  have hne : v'.ownBlock ≠ some n := by
    rcases hor with e | e
    · rw [e]; exact h.ne
    · intro e2; have := e n e2; have := h.lt; omega
  have hb2 : w2.heap[n]? = some (.cells #[.bool true, v] TN (0, 0)) := (hg.block n h.lt (fun e => h.ne e.symm)).trans h.blk
  have hs : (w2.setCell ⟨n, 1, none⟩ v').heap.size = w2.heap.size := by simp
  refine ⟨⟨set_one v' hb2, ho.keep fun b e => set_ne v' fun e2 => hne (by rw [e, e2]), hne⟩, ?_⟩
  have hB : Below 0 w2 (w2.setCell ⟨n, 1, none⟩ v') := (Below.refl 0 w2).setCell (Nat.zero_le _) v'
  refine ⟨hB.os.trans hg.os, hB.tape.trans hg.tape, hB.output.trans hg.output, by rw [hs]; exact hg.size, fun k hk h1 h2 => ?_, hor⟩
  rw [set_ne v' h1]
  exact hg.block k hk fun e => h2 e.symm

/-- cells of a block known whole -/
theorem blk1 {w : World} {b : Nat} {c0 : Value} {T : TypeId} (h : w.heap[b]? = some (.cells #[c0] T (0, 0))) : w.cell? ⟨b, 0, none⟩ = some c0 ∧ w.frozen? ⟨b, 0, none⟩ = false :=
  ⟨by rw [cell_of_row w b 0 _ _ _ h]; rfl, frozen_of_row w b 0 _ _ h⟩
theorem blk2 {w : World} {b : Nat} {c0 c1 : Value} {T : TypeId} (h : w.heap[b]? = some (.cells #[c0, c1] T (0, 0))) : w.cell? ⟨b, 0, none⟩ = some c0 ∧ w.cell? ⟨b, 1, none⟩ = some c1 ∧ w.frozen? ⟨b, 0, none⟩ = false ∧ w.frozen? ⟨b, 1, none⟩ = false :=
  ⟨by rw [cell_of_row w b 0 _ _ _ h]; rfl, by rw [cell_of_row w b 1 _ _ _ h]; rfl, frozen_of_row w b 0 _ _ h, frozen_of_row w b 1 _ _ h⟩
theorem blk3 {w : World} {b : Nat} {c0 c1 c2 : Value} {T : TypeId} (h : w.heap[b]? = some (.cells #[c0, c1, c2] T (0, 0))) : w.cell? ⟨b, 0, none⟩ = some c0 ∧ w.cell? ⟨b, 1, none⟩ = some c1 ∧ w.cell? ⟨b, 2, none⟩ = some c2 ∧ w.frozen? ⟨b, 0, none⟩ = false ∧ w.frozen? ⟨b, 1, none⟩ = false ∧ w.frozen? ⟨b, 2, none⟩ = false :=
  ⟨by rw [cell_of_row w b 0 _ _ _ h]; rfl, by rw [cell_of_row w b 1 _ _ _ h]; rfl, by rw [cell_of_row w b 2 _ _ _ h]; rfl, frozen_of_row w b 0 _ _ h, frozen_of_row w b 1 _ _ h, frozen_of_row w b 2 _ _ h⟩
theorem alloc_new (w : World) (o : Obj) : (w.alloc o).heap[w.heap.size]? = some o := heap_alloc_new w o
theorem alloc_below (w : World) (o : Obj) : Below w.heap.size w (w.alloc o) := (Below.refl _ _).alloc (Nat.le_refl _) _
theorem drew_below (w : World) : Below w.heap.size w w.drew := (Below.refl _ _).drew
end Ks
/- Whole arrays out of and into their blocks, by law: no program is in sight. -/
namespace Ks
open Go Go.RowKit
set_option linter.unusedVariables false
/-- numbers, as an array's cells -/
def u32s (l : List Nat) : Array Value := (l.map fun (n : Nat) => Value.int .u32 (n : Int)).toArray
def i64s (l : List Nat) : Array Value := (l.map fun (n : Nat) => Value.int .i64 (n : Int)).toArray
@[simp] theorem u32s_size (l : List Nat) : (u32s l).size = l.length := by simp [u32s]
@[simp] theorem i64s_size (l : List Nat) : (i64s l).size = l.length := by simp [i64s]
theorem u32s_one (l : List Nat) : (u32s l).all (·.oneCell') = true := by simp [u32s]; intro a _; rfl
theorem i64s_one (l : List Nat) : (i64s l).all (·.oneCell') = true := by simp [i64s]; intro a _; rfl
theorem u32s_set (l : List Nat) (i x : Nat) : (u32s l).setIfInBounds i (.int .u32 (x : Int)) = u32s (l.set i x) := by simp [u32s, List.map_set]
theorem i64s_set (l : List Nat) (i x : Nat) : (i64s l).setIfInBounds i (.int .i64 (x : Int)) = i64s (l.set i x) := by simp [i64s, List.map_set]
theorem u32s_get (l : List Nat) (i : Nat) (h : i < l.length) : (u32s l)[i]? = some (.int .u32 ((l.getD i 0 : Nat) : Int)) := by simp [u32s, h]
theorem i64s_get (l : List Nat) (i : Nat) (h : i < l.length) : (i64s l)[i]? = some (.int .i64 ((l.getD i 0 : Nat) : Int)) := by simp [i64s, h]

theorem blk_keep {w : World} {b : Nat} {o : Obj} (h : w.heap[b]? = some o) (o' : Obj) : (w.alloc o').heap[b]? = some o :=
  ((alloc_below w o').block b (Array.getElem?_eq_some_iff.1 h).1).trans h
theorem alloc_new2 (w : World) (o o' : Obj) : ((w.alloc o).alloc o').heap[w.heap.size + 1]? = some o' := by
  rw [← World.size_alloc (w := w) (o := o)]; exact alloc_new _ _
theorem code_cut {P : Program} {c : Code} {Q : Exit → Act → World → Prop} {a : Act} {w : World} (F : World → Prop) (hF : F w) (h : ∀ w', F w' → c.wp P Q a w') : c.wp P Q a w := h w hF
variable {P : Program}
theorem results_one {fn : Func} {p : Tmp} {ty : TypeId} (h : fn.results = #[.cell p ty]) {tmps : Array Value} {w : World} {a : Addr} {v : Value}
    (hp : tmps.getD p undef = .pointer (some a)) (hl : (loadVar ty a).run P w = .ok v w) : (results fn tmps).run P w = .ok v w := by
  simp only [results, h]
  simp only [Array.mapM_eq_mapM_toList, List.mapM_cons, List.mapM_nil, hp]
  simp [asAddr, hl]
/-- a result that lies in a variable of its own: an array's cells, known whole -/
theorem ret_arr {fn : Func} {R : Ending → World → Prop} {a : Act} {w : World} {p : Tmp} {ty t e : TypeId} {n b N : Nat} {C : Array Value} (h : fn.results = #[.cell p ty])
    (hp : a.tmps.getD p undef = .pointer (some ⟨b, 0, none⟩)) (hb : w.heap[b]? = some (.cells C t (0, 0))) (hu : P.underlying ty = some (.array n e)) (hi : (P.info? ty).map (·.size) = some N) (hn : C.size = N)
    (hd : a.defers = []) (hR : R (.returned (.agg C)) w) : bodyPost P fn R .ret a w :=
  bodyPost_ret (results_one h hp (run_loadVar_row _ _ t ty C (0, 0) _ hb hu rfl (by rw [hi, hn]))) hd hR

theorem wp_storeA {op : Oper} {a : Act} {w : World} {K : Act → World → Prop} {Q : Exit → Act → World → Prop} (ty : TypeId) (x y : Operand) (ho : op.op = .store ty x y)
    (b : Nat) (t : TypeId) (old C : Array Value) (N : Nat) (hx : a.eval x = .pointer (some ⟨b, 0, none⟩)) (hy : a.eval y = .agg C) (hb : w.heap[b]? = some (.cells old t (0, 0)))
    (hi : (P.info? ty).map (·.size) = some N) (hn : C.size = N) (hs : old.size = N) (h1 : C.all (·.oneCell') = true)
    (h : K (a.put op.dst undef) (w.setRow b C)) : op.wp P a w K Q := by
  unfold Oper.wp execOp
  simp only [ho, hx, hy, Instr.storeAt, Instr.sureAddr, Sem.run_bind, Sem.run_pure, Result.andThen_ok, run_storeVar_row w b t ty old C hb (by rw [hi, hn]) (by rw [hs, hn]) h1]
  exact h
theorem wpList_storeA {ops : Array Oper} {rest : List Oper} {op : Oper} {a : Act} {w : World} {Q : Exit → Act → World → Prop} (hgd : op.guard = none) (ty : TypeId) (x y : Operand) (ho : op.op = .store ty x y)
    (b : Nat) (t : TypeId) (old C : Array Value) (N : Nat) (hx : a.eval x = .pointer (some ⟨b, 0, none⟩)) (hy : a.eval y = .agg C) (hb : w.heap[b]? = some (.cells old t (0, 0)))
    (hi : (P.info? ty).map (·.size) = some N) (hn : C.size = N) (hs : old.size = N) (h1 : C.all (·.oneCell') = true)
    (h : wpList P ops Q rest (a.put op.dst undef) (w.setRow b C)) : wpList P ops Q (op :: rest) a w :=
  wpList_plain hgd fun _ hK => wp_storeA ty x y ho b t old C N hx hy hb hi hn hs h1 (hK _ _ h)
/-- into the block that was made last -/
theorem wpList_storeN {ops : Array Oper} {rest : List Oper} {op : Oper} {a : Act} {w : World} {Q : Exit → Act → World → Prop} (hgd : op.guard = none) (ty : TypeId) (x y : Operand) (ho : op.op = .store ty x y)
    (t : TypeId) (old C : Array Value) (N : Nat) (hx : a.eval x = .pointer (some ⟨w.heap.size, 0, none⟩)) (hy : a.eval y = .agg C)
    (hi : (P.info? ty).map (·.size) = some N) (hn : C.size = N) (hs : old.size = N) (h1 : C.all (·.oneCell') = true)
    (h : wpList P ops Q rest (a.put op.dst undef) (w.alloc (.cells C t))) : wpList P ops Q (op :: rest) a (w.alloc (.cells old t)) :=
  wpList_storeA hgd ty x y ho _ t old C N hx hy (alloc_new _ _) hi hn hs h1 (by rw [World.setRow_alloc_new]; exact h)
theorem wp_loadA {op : Oper} {a : Act} {w : World} {K : Act → World → Prop} {Q : Exit → Act → World → Prop} (ty : TypeId) (x : Operand) (ho : op.op = .load ty x)
    (b : Nat) (t e : TypeId) (C : Array Value) (n N : Nat) (hx : a.eval x = .pointer (some ⟨b, 0, none⟩)) (hb : w.heap[b]? = some (.cells C t (0, 0))) (hu : P.underlying ty = some (.array n e))
    (hi : (P.info? ty).map (·.size) = some N) (hn : C.size = N) (h : K (a.put op.dst (.agg C)) w) : op.wp P a w K Q := by
  unfold Oper.wp execOp
  simp only [ho, hx, Instr.loadAt, Instr.sureAddr, Sem.run_bind, Sem.run_pure, Result.andThen_ok, run_loadVar_row w b t ty C (0, 0) _ hb hu rfl (by rw [hi, hn])]
  exact h
theorem wpList_loadA {ops : Array Oper} {rest : List Oper} {op : Oper} {a : Act} {w : World} {Q : Exit → Act → World → Prop} (hgd : op.guard = none) (ty : TypeId) (x : Operand) (ho : op.op = .load ty x)
    (b : Nat) (t e : TypeId) (C : Array Value) (n N : Nat) (hx : a.eval x = .pointer (some ⟨b, 0, none⟩)) (hb : w.heap[b]? = some (.cells C t (0, 0))) (hu : P.underlying ty = some (.array n e))
    (hi : (P.info? ty).map (·.size) = some N) (hn : C.size = N) (h : wpList P ops Q rest (a.put op.dst (.agg C)) w) : wpList P ops Q (op :: rest) a w :=
  wpList_plain hgd fun _ hK => wp_loadA ty x ho b t e C n N hx hb hu hi hn (hK _ _ h)
end Ks
/- A region that draws its order, whose operations read and whose callees make memory but turn none that was there: walked once, in the order of the text. (Over the library's theorem on quiet regions.) -/
namespace Ks
open Go Go.RowKit

/-- a world behind another one: so many draws, such blocks more -/
def After (w : World) (p : Regrown) : World := Sort.grow (redrawn w p.d) p.os

theorem after_below (w : World) (p : Regrown) : Below w.heap.size w (After w p) := below_regrown w p.d p.os
theorem after_of {w w' : World} (h : Below w.heap.size w w') : ∃ p, w' = After w p := regrown_of_below h
theorem after_cell {w : World} {a : Addr} {v : Value} (h : w.cell? a = some v) (p : Regrown) : (After w p).cell? a = some v := cell_regrown h p.d p.os
theorem wp_region_after {P : Program} {id : Nat} {Q : Exit → Act → World → Prop} {a : Act} {w : World} {l : List Oper} (hm : P.follows .mixedOrders = true) (hB : Region.lexB .any l.toArray = true)
    (h : wpQuiet P l.toArray (fun w' => ∃ p : Regrown, w' = After w p) (fun a' => ∀ w', (∃ p : Regrown, w' = After w p) → Q .normal a' w') l a) : (Code.region id l.toArray true).wp P Q a w :=
  wp_region_quiet_below hm hB h
theorem calls_after {P : Program} {f : FuncId} {args : Array Value} {w : World} {p : Regrown} {v : Value}
    (h : Calls P f args (After w p) fun e w' => e = .returned v ∧ Below (After w p).heap.size (After w p) w') : Calls P f args (After w p) fun e w'' => e = .returned v ∧ ∃ p : Regrown, w'' = After w p :=
  Calls.regrown_of h
theorem calls_after_same {P : Program} {f : FuncId} {args : Array Value} {w : World} {p : Regrown} {v : Value}
    (h : Calls P f args (After w p) fun e w' => e = .returned v ∧ After w p = w') : Calls P f args (After w p) fun e w'' => e = .returned v ∧ ∃ p : Regrown, w'' = After w p :=
  h.mono fun _ _ ⟨he, hw⟩ => ⟨he, p, hw.symm⟩
theorem after_frozen {w : World} {a : Addr} (h : a.block < w.heap.size) (p : Regrown) : (After w p).frozen? a = w.frozen? a := (after_below w p).frozen h

theorem RdI.after {w : World} {v : Value} {l : List Int} (h : RdI w v l) (p : Regrown) : RdI (After w p) v l := h.below (after_below w p)

end Ks
/- A region that draws its order: reads and callees that turn nothing of what was there, ahead of a tail whose order is forced (a store of what was called): walked once. Plain. No program is in sight. -/
namespace Ks
open Go Go.RowKit
set_option linter.unusedVariables false

section
variable {P : Program} {ops : Array Oper} {md : Region.Mode} {C : World → Prop}

/-- the head of the region, in whatever order; behind it L -/
def headQ (P : Program) (md : Region.Mode) (ops : Array Oper) (C : World → Prop) (n : Nat) (L : Array Bool → Act → Prop) : Nat → Array Bool → Act → Prop
  | 0, listed, a => L listed a
  | f + 1, listed, a => Region.ready md ops listed ≠ [] ∧ ∀ i ∈ Region.ready md ops listed, i < n ∧ qOp P ops C i (headQ P md ops C n L f (listed.setIfInBounds i true)) a

theorem any_of_headQ {n g : Nat} {L : Array Bool → Act → Prop} {Q' : Exit → Act → World → Prop} (hL : ∀ listed a w, C w → L listed a → wpAny P md ops Q' g listed a w) :
    ∀ (f : Nat) (listed : Array Bool) (a : Act) (w : World), C w → headQ P md ops C n L f listed a → wpAny P md ops Q' (f + g) listed a w := by
  intro f
  induction f with
  | zero => intro listed a w hw h; rw [Nat.zero_add]; exact hL _ _ _ hw h
  | succ f ih =>
    intro listed a w hw h
    rw [show f + 1 + g = (f + g) + 1 by omega]
    exact ⟨fun e => absurd e h.1, fun i hi => wpOp_of_qOp hw (fun a' w' hw' hh => ih _ a' w' hw' hh) (h.2 i hi).2⟩

/-- an operation of the head that may come up now, and is apart from all others that may, is taken first -/
theorem headQ_first {n i : Nat} {oi : Oper} {v : Value} {L : Array Bool → Act → Prop} (hi : ops[i]? = some oi) (hsel : ∀ (j : Nat) (o : Oper) cs b, ops[j]? = some o → o.op ≠ .select cs b)
    (hs : Region.sinkB md ops n = true) (hc : Region.chainB md ops n = true) (hn : n < ops.size) (hin : i < n)
    (hdone : ∀ listed a, L listed a → ∀ j ∈ Region.ready md ops listed, n ≤ j) (f : Nat) :
    ∀ (listed : Array Bool) (a : Act), HeadInv md ops n listed →
      (∀ j oj, ops[j]? = some oj → j ≠ i → listed.getD j true = false → (∀ e ∈ oj.after, Region.binds md e = true → e.on ≠ i) → oi.apart ops oj = true) →
      i ∈ Region.ready md ops listed → YieldsIn P ops C oi v a →
      headQ P md ops C n L f (listed.setIfInBounds i true) (a.put oi.dst v) → headQ P md ops C n L (f + 1) listed a := by
  induction f with
  | zero =>
    intro listed a inv hfree hr hy H
    have hun := (mem_ready.1 hr).1
    refine ⟨(fun e => by rw [e] at hr; cases hr), fun j hj => ?_⟩
    rcases Nat.lt_or_ge j n with hjn | hjn
    · refine ⟨hjn, ?_⟩
      by_cases e : j = i
      · subst e; exact hy.qOp hi H
      · exact absurd (hdone _ _ H j (ready_mono hj e)) (by omega)
    · exact absurd hj (tail_waits hs hc hn inv _ i rfl hin hun j hjn)
  | succ f ih =>
    intro listed a inv hfree hr hy H
    have hun := (mem_ready.1 hr).1
    refine ⟨(fun e => by rw [e] at hr; cases hr), fun j hj => ?_⟩
    rcases Nat.lt_or_ge j n with hjn | hjn
    · refine ⟨hjn, ?_⟩
      by_cases e : j = i
      · subst e; exact hy.qOp hi H
      · have h1 := (H.2 j (ready_mono hj e)).2
        obtain ⟨hjun, oj, hoj, hall⟩ := mem_ready.1 hj
        have hnot : ∀ ed ∈ oj.after, Region.binds md ed = true → ed.on ≠ i := fun ed he hb heq => by
          have h2 := hall ed he hb
          rw [heq, getD_both hun] at h2
          cases h2
        have h2 := qOp_put hoj (hfree j oj hoj e hjun hnot) (fun cs b => hsel i oi cs b hi) (fun cs b => hsel j oj cs b hoj) hy h1
        refine qOp_mono (fun a' h3 => ih (listed.setIfInBounds j true) a' (inv.set hj hjn) (fun k ok hk hki hku hno => ?_) (ready_mono hr (Ne.symm e)) h3.1 ?_) h2
        · refine hfree k ok hk hki ?_ hno
          by_cases hjk : j = k
          · subst hjk; exact hjun
          · rwa [getD_set_ne true hjk] at hku
        · rw [Array.setIfInBounds_comm _ _ e]
          exact h3.2
    · exact absurd hj (tail_waits hs hc hn inv _ i rfl hin hun j hjn)

theorem headQ_lex {n g : Nat} {Lq : Act → Prop} (hsel : Region.noSelect ops = true) (hs : Region.sinkB md ops n = true) (hc : Region.chainB md ops n = true) (hn : n < ops.size) (l : List Oper) :
    ∀ (k : Nat) (listed : Array Bool) (a : Act), (∀ j, j < l.length → l[j]? = ops[k + j]?) → k + l.length = n → HeadInv md ops n listed →
    Region.lexHead md ops g l.length k listed = true → wpQuiet P ops C Lq l a →
    headQ P md ops C n (fun listed' a' => Region.seqB md ops g n listed' = true ∧ Lq a') l.length listed a := by
  induction l with
  | nil =>
    intro k listed a _ hk _ hB h
    obtain rfl : k = n := by simpa using hk
    exact ⟨by simpa [Region.lexHead] using hB, h⟩
  | cons o l ih =>
    intro k listed a hl hk inv hB h
    have h0 : ops[k]? = some o := by simpa using (hl 0 (by simp)).symm
    simp only [List.length_cons, Region.lexHead, Bool.and_eq_true] at hB hk
    obtain ⟨⟨hr, hf⟩, hB'⟩ := hB
    have hr' : k ∈ Region.ready md ops listed := by simpa using hr
    have hq : qOp P ops C k (wpQuiet P ops C Lq l) a := by unfold qOp; simp only [h0]; exact h
    obtain ⟨v, hy, hK⟩ := yieldsIn_of_qOp h0 hq
    refine headQ_first h0 (Region.noSelect_spec hsel) hs hc hn (by omega) (fun listed' a' hL => seqB_ready hL.1) l.length listed a inv (Region.free_spec h0 hf) hr' hy ?_
    refine ih (k + 1) _ _ (fun j hj => ?_) (by omega) (inv.set hr' (by omega)) hB' hK
    have := hl (j + 1) (by simp; omega)
    simpa [Nat.add_assoc, Nat.add_comm 1 j] using this

theorem wp_region_quiet_tail {id : Nat} {Q : Exit → Act → World → Prop} {a : Act} {w : World} {l : List Oper} (n : Nat) (hm : P.follows .mixedOrders = true) (hB : Region.lexTailB .any l.toArray n = true) (hC : C { w with drawn := w.drawn + 1 })
    (h : wpQuiet P l.toArray C (fun a' => ∀ w', C w' → wpList P l.toArray Q (l.drop n) a' w') (l.take n) a) : (Code.region id l.toArray true).wp P Q a w := by
  simp only [Region.lexTailB, Bool.and_eq_true, decide_eq_true_eq] at hB
  obtain ⟨⟨⟨⟨hsel, hn⟩, hs⟩, hc⟩, hlex⟩ := hB
  have hn' : n < l.length := by simpa using hn
  have htl : (l.take n).length = n := by simp; omega
  have hdl : (l.drop n).length = l.toArray.size - n := by simp
  have inv0 : HeadInv .any l.toArray n (Array.replicate l.toArray.size false) :=
    ⟨by simp, fun j oj _ hl => (by rw [getD_replicate_false] at hl; cases hl), fun t _ ht => getD_in (by simpa using ht) (getD_replicate_false _ _)⟩
  have H := headQ_lex (md := .any) (g := l.toArray.size - n) hsel hs hc hn (l.take n) 0 (Array.replicate l.toArray.size false) a
    (fun j hj => by rw [htl] at hj; simp [hj]) (by simpa using htl) inv0 (by rw [htl]; exact hlex) h
  refine wp_region_any hm ?_
  have key := any_of_headQ (Q' := Q) (g := l.toArray.size - n) (fun listed a' w' hw' hL => by
    have := wpAny_of_seq (md := .any) (Q' := Q) (l.drop n) n listed a' w' (fun j => by simp [List.getElem?_drop]) (by rw [hdl]; exact hL.1) (hL.2 w' hw')
    rwa [hdl] at this) _ _ _ _ hC H
  rwa [htl, show n + (l.toArray.size - n) = l.toArray.size by omega] at key
end

theorem drew_below0 (w : World) : Below w.heap.size w w.drew := (Below.refl _ _).drew
/-- at the class 'behind w' -/
theorem wp_region_after_tail {P : Program} {id : Nat} {Q : Exit → Act → World → Prop} {a : Act} {w : World} {l : List Oper} (n : Nat) (hm : P.follows .mixedOrders = true) (hB : Region.lexTailB .any l.toArray n = true)
    (h : wpQuiet P l.toArray (fun w' => ∃ p : Regrown, w' = After w p) (fun a' => ∀ w', (∃ p : Regrown, w' = After w p) → wpList P l.toArray Q (l.drop n) a' w') (l.take n) a) : (Code.region id l.toArray true).wp P Q a w :=
  wp_region_quiet_tail n hm hB (after_of (drew_below0 w)) h

end Ks
/- Parts of a block that is known whole: what is loaded out of its midst, what is stored there; also in a region that draws its order. Plain. No program is in sight. -/
namespace Ks
open Go Go.RowKit
set_option linter.unusedVariables false

/-- a block's cells, with others from a place on -/
def splice (C : Array Value) (o : Nat) (D : Array Value) : Array Value := (C.toList.take o ++ D.toList ++ C.toList.drop (o + D.size)).toArray
theorem splice_all (C D : Array Value) (h : D.size = C.size) : splice C 0 D = D := by
  have : C.toList.drop D.size = [] := List.drop_eq_nil_of_le (by simp [h])
  simp [splice, this]
theorem setCells_row (b : Nat) (t : TypeId) : ∀ (D : List Value) (o : Nat) (w : World) (C : Array Value), w.heap[b]? = some (.cells C t (0, 0)) → o + D.length ≤ C.size →
    w.setCells b o D = w.setRow b (splice C o D.toArray) := by
  intro D
  induction D with
  | nil =>
    intro o w C h _
    have : splice C o #[] = C := by simp [splice]
    rw [World.setCells, show ([] : List Value).toArray = #[] from rfl, this, setRow_self w b C t (0, 0) h]
  | cons v D ih =>
    intro o w C h hs
    simp only [List.length_cons] at hs
    rw [World.setCells, setCell_eq_setRow w b o C t (0, 0) v h]
    rw [ih (o + 1) _ (C.setIfInBounds o v) (setRow_heap _ _ _ _ _ _ h) (by simp; omega), setRow_setRow]
    congr 1
    simp only [splice, Array.toList_setIfInBounds, List.size_toArray, List.length_cons]
    have hlt : o < C.toList.length := by simp; omega
    rw [List.take_set, List.drop_set_of_lt (by omega), List.take_succ_eq_append_getElem hlt, List.set_append_right _ _ (by simp; omega)]
    congr 1
    simp [Nat.min_eq_left (Nat.le_of_lt (show o < C.size by omega)), Nat.add_assoc, Nat.add_comm 1]

variable {P : Program}
theorem run_loadAt_blk (w : World) (b o n : Nat) (ty : TypeId) (C D : Array Value) (t : TypeId) (fr : Nat × Nat) (d : TypeDesc) (hb : w.heap[b]? = some (.cells C t fr)) (hD : C.extract o (o + n) = D) (hn : D.size = n)
    (hu : P.underlying ty = some d) (hd : d.isRow = true) (hi : (P.info? ty).map (·.size) = some n) :
    (Instr.loadAt ty (.pointer (some ⟨b, o, none⟩))).run P w = .ok (.agg D) w := by
  have := run_loadAt_mid (P := P) w b o ty D.toList d (by rw [← hD]; exact World.rangeAt_of_block hb o n) hu hd (by rw [hi]; simp [hn])
  simpa using this
theorem wpList_load_blk {ops : Array Oper} {rest : List Oper} {op : Oper} {a : Act} {w : World} {Q : Exit → Act → World → Prop} (hgd : op.guard = none) (ty : TypeId) (x : Operand) (ho : op.op = .load ty x)
    (b o n : Nat) (hx : a.eval x = .pointer (some ⟨b, o, none⟩)) (C D : Array Value) (t : TypeId) (fr : Nat × Nat) (d : TypeDesc) (hb : w.heap[b]? = some (.cells C t fr)) (hD : C.extract o (o + n) = D) (hn : D.size = n)
    (hu : P.underlying ty = some d) (hd : d.isRow = true) (hi : (P.info? ty).map (·.size) = some n)
    (h : wpList P ops Q rest (a.put op.dst (.agg D)) w) : wpList P ops Q (op :: rest) a w := by
  refine wpList_plain hgd fun _ hK => ?_
  unfold Oper.wp execOp
  have := run_loadAt_blk (P := P) w b o n ty C D t fr d hb hD hn hu hd hi
  simp only [ho, hx, Sem.run_bind, Sem.run_pure, Result.andThen_ok, this]
  exact hK _ _ h
theorem wpList_store_blk {ops : Array Oper} {rest : List Oper} {op : Oper} {a : Act} {w : World} {Q : Exit → Act → World → Prop} (hgd : op.guard = none) (ty : TypeId) (x y : Operand) (ho : op.op = .store ty x y)
    (b o n : Nat) (hx : a.eval x = .pointer (some ⟨b, o, none⟩)) (C D E : Array Value) (hy : a.eval y = .agg D) (t : TypeId) (hb : w.heap[b]? = some (.cells C t (0, 0))) (hn : D.size = n) (hfit : o + n ≤ C.size)
    (hi : (P.info? ty).map (·.size) = some n) (h1 : D.all (·.oneCell') = true) (hE : splice C o D = E)
    (h : wpList P ops Q rest (a.put op.dst undef) (w.setRow b E)) : wpList P ops Q (op :: rest) a w := by
  refine wpList_store_mid hgd ty x y ho b o D hx hy (fun j hj => ⟨?_, frozen_of_row w b _ _ _ hb⟩) (by rw [hi, hn]) h1 ?_
  · rw [cell_of_row w b (o + j) C t (0, 0) hb, Array.getElem?_eq_getElem (by omega)]; rfl
  · rw [setCells_row b t D.toList o w C hb (by simp; omega), Array.toArray_toList, hE]
    exact h
/-- a result that lies in a variable of its own -/
theorem ret_blk {fn : Func} {R : Ending → World → Prop} {a : Act} {w : World} {p : Tmp} {ty t : TypeId} {b : Nat} {C : Array Value} {d : TypeDesc} {fr : Nat × Nat} (h : fn.results = #[.cell p ty])
    (hp : a.tmps.getD p undef = .pointer (some ⟨b, 0, none⟩)) (hb : w.heap[b]? = some (.cells C t fr)) (hu : P.underlying ty = some d) (hd : d.isRow = true) (hi : (P.info? ty).map (·.size) = some C.size)
    (hdf : a.defers = []) (hR : R (.returned (.agg C)) w) : bodyPost P fn R .ret a w := by
  refine bodyPost_ret (results_one h hp ?_) hdf hR
  have := run_loadVar_mid (P := P) w b 0 ty C.toList d (fun j v hj => by rw [Nat.zero_add, cell_of_row w b j C t fr hb]; simpa using hj) hu hd (by rw [hi]; simp)
  simpa using this
/-- a load in a region that draws its order -/
theorem wpQuiet_load_blk {ops : Array Oper} {rest : List Oper} {op : Oper} {a : Act} {Cw : World → Prop} {Q : Act → Prop} (hgd : op.guard = none) (ty : TypeId) (x : Operand) (ho : op.op = .load ty x)
    (b o n : Nat) (hx : a.eval x = .pointer (some ⟨b, o, none⟩)) (C D : Array Value) (t : TypeId) (fr : Nat × Nat) (d : TypeDesc) (hb : ∀ w, Cw w → w.heap[b]? = some (.cells C t fr)) (hD : C.extract o (o + n) = D) (hn : D.size = n)
    (hu : P.underlying ty = some d) (hd : d.isRow = true) (hi : (P.info? ty).map (·.size) = some n)
    (h : wpQuiet P ops Cw Q rest (a.put op.dst (.agg D))) : wpQuiet P ops Cw Q (op :: rest) a := by
  refine wpQuiet_step fun K hK => ?_
  rw [if_pos (by simp [Region.wanted, hgd])]
  refine ⟨.agg D, fun w hw => ?_, hK _ h⟩
  unfold Oper.quietAt execOp
  have := run_loadAt_blk (P := P) w b o n ty C D t fr d (hb w hw) hD hn hu hd hi
  simp only [ho, hx, Sem.run_bind, Sem.run_pure, Result.andThen_ok, this]
  exact ⟨rfl, rfl⟩
/-- a block that was there, behind w -/
theorem after_blk {w : World} {b : Nat} {o : Obj} (h : w.heap[b]? = some o) : ∀ w', (∃ p : Regrown, w' = After w p) → w'.heap[b]? = some o := by
  rintro w' ⟨p, rfl⟩
  exact ((after_below w p).block b (Array.getElem?_eq_some_iff.1 h).1).trans h
end Ks
/- Things made of several blocks: which blocks a call turns. Plain. No program is in sight. -/
namespace Ks
open Go Go.RowKit
set_option linter.unusedVariables false

/-- only the blocks of F are turned; what the thing has behind it, F', is of F or new -/
structure Turn (w w' : World) (F F' : Nat → Prop) : Prop where
  os : w'.os = w.os
  tape : w'.tape = w.tape
  output : w'.output = w.output
  size : w.heap.size ≤ w'.heap.size
  block : ∀ k, k < w.heap.size → ¬ F k → w'.heap[k]? = w.heap[k]?
  foot : ∀ k, F' k → F k ∨ w.heap.size ≤ k
theorem Turn.of_below {w w' : World} (F : Nat → Prop) (h : Below w.heap.size w w') : Turn w w' F F := ⟨h.os, h.tape, h.output, h.size, fun k hk _ => h.block k hk, fun k hk => Or.inl hk⟩
theorem Turn.refl (w : World) (F : Nat → Prop) : Turn w w F F := Turn.of_below F (Below.refl _ _)
theorem Turn.trans {w w1 w2 : World} {F F1 F2 : Nat → Prop} (h : Turn w w1 F F1) (g : Turn w1 w2 F1 F2) : Turn w w2 F F2 := by
  refine ⟨g.os.trans h.os, g.tape.trans h.tape, g.output.trans h.output, Nat.le_trans h.size g.size, fun k hk hF => ?_, fun k hk => ?_⟩
  · refine (g.block k (Nat.lt_of_lt_of_le hk h.size) fun h1 => ?_).trans (h.block k hk hF)
    rcases h.foot k h1 with h2 | h2
    · exact hF h2
    · omega
  · rcases g.foot k hk with h1 | h1
    · exact h.foot k h1
    · exact Or.inr (Nat.le_trans h.size h1)
theorem Turn.below {w w' : World} {F F' : Nat → Prop} {B : Nat} (h : Turn w w' F F') (hF : ∀ k, F k → B ≤ k) (hB : B ≤ w.heap.size) : Below B w w' :=
  ⟨h.os, h.tape, h.output, h.size, fun k hk => h.block k (by omega) fun h1 => by have := hF k h1; omega⟩
theorem Turn.low {w w' : World} {F F' : Nat → Prop} {B : Nat} (h : Turn w w' F F') (hF : ∀ k, F k → B ≤ k) (hB : B ≤ w.heap.size) : ∀ k, F' k → B ≤ k := by
  intro k hk
  rcases h.foot k hk with h1 | h1
  · exact hF k h1
  · omega
/-- another thing is not turned -/
theorem Turn.other {w w' : World} {F F' G : Nat → Prop} (h : Turn w w' F F') (hG : ∀ k, G k → k < w.heap.size) (hd : ∀ k, F k → ¬ G k) : ∀ k, G k → w'.heap[k]? = w.heap[k]? := fun k hk => h.block k (hG k hk) fun h1 => hd k h1 hk
theorem Turn.apart {w w' : World} {F F' G : Nat → Prop} (h : Turn w w' F F') (hG : ∀ k, G k → k < w.heap.size) (hd : ∀ k, F k → ¬ G k) : ∀ k, F' k → ¬ G k := fun k hk hg => by
  rcases h.foot k hk with h1 | h1
  · exact hd k h1 hg
  · have := hG k hg; omega
theorem Turn.mono {w w' : World} {F F' G : Nat → Prop} (h : Turn w w' F F') (hG : ∀ k, G k → F' k) : Turn w w' F G := ⟨h.os, h.tape, h.output, h.size, h.block, fun k hk => h.foot k (hG k hk)⟩
theorem Turn.wide {w w' : World} {F F' G G' : Nat → Prop} (h : Turn w w' F F') (hF : ∀ k, F k → G k) (hG : ∀ k, G' k → F' k ∨ G k ∨ w.heap.size ≤ k) : Turn w w' G G' := by
  refine ⟨h.os, h.tape, h.output, h.size, fun k hk hn => h.block k hk fun h1 => hn (hF k h1), fun k hk => ?_⟩
  rcases hG k hk with h1 | h1 | h1
  · rcases h.foot k h1 with h2 | h2
    · exact Or.inl (hF k h2)
    · exact Or.inr h2
  · exact Or.inl h1
  · exact Or.inr h1
theorem Turn.cell (w : World) {F : Nat → Prop} (b o : Nat) (v : Value) (h : F b) : Turn w (w.setCell ⟨b, o, none⟩ v) F F :=
  have h1 : Below 0 w (w.setCell ⟨b, o, none⟩ v) := (Below.refl 0 w).setCell (Nat.zero_le _) v
  ⟨h1.os, h1.tape, h1.output, by simp, fun k hk hn => set_ne v fun e => hn (e ▸ h), fun k hk => Or.inl hk⟩
theorem Turn.row (w : World) {F : Nat → Prop} (b : Nat) (C : Array Value) (h : F b) : Turn w (w.setRow b C) F F :=
  ⟨rfl, rfl, rfl, by simp, fun k hk hn => setRow_other w b k C fun e => hn (e ▸ h), fun k hk => Or.inl hk⟩
theorem Turn.grown {w w' : World} {F : Nat → Prop} {row : Option Nat} (h : w.grownBy w' row) (hF : ∀ b, row = some b → F b) : Turn w w' F F :=
  ⟨h.os, h.tape, h.output, h.size, fun k hk hn => h.block k hk fun e => hn (hF k e.symm), fun k hk => Or.inl hk⟩

/-- a cell of a block known whole is written -/
theorem set_blk {w : World} {b : Nat} {C : Array Value} {t : TypeId} (h : w.heap[b]? = some (.cells C t (0, 0))) (o : Nat) (v : Value) : (w.setCell ⟨b, o, none⟩ v).heap[b]? = some (.cells (C.setIfInBounds o v) t (0, 0)) := by
  rw [setCell_eq_setRow w b o _ _ _ _ h, setRow_heap w b _ _ _ _ h]
theorem Turn.cell1 (w : World) (b o : Nat) (v : Value) : Turn w (w.setCell ⟨b, o, none⟩ v) (fun k => k = b) (fun k => k = b) := Turn.cell w (F := fun k => k = b) b o v rfl

variable {α : Type} {E : Enc α}
/-- a cell of an own row, of elements of one cell -/
theorem Row.set1 {w : World} {B : Nat} {T : TypeId} {g n cap : Nat} {l : List α} (h : Row E w B T (.slice (some ⟨g, 0, none⟩) n cap) l) (hk : E.k = 1) (i : Nat) (hi : i < l.length) (x : α) (v : Value) (hv : E.enc x = [v]) :
    Row E (w.setCell ⟨g, i, none⟩ v) B T (.slice (some ⟨g, 0, none⟩) n cap) (l.set i x) := by
  have hcs : ∀ l : List α, ∀ j y, l[j]? = some y → (E.cs l)[j]? = (E.enc y)[0]? := fun l j y hj => by
    have := E.cs_get l j y hj 0 (by omega)
    rwa [hk, Nat.mul_one] at this
  refine ⟨by rw [E.cs_length, List.length_set], ?_⟩
  rcases h.2 with ⟨e, h0⟩ | ⟨g', cap', cur, e, hB, hg, hn, hc, hs, ht⟩
  · cases e
  · cases e
    rw [hk, Nat.mul_one] at ht hs
    have hlen : (l.set i x).length = l.length := List.length_set
    refine Or.inr ⟨g, cap, cur.setIfInBounds i v, by rw [hlen], hB, ?_, by rw [hlen]; exact hn, hc, by simpa [hk] using hs, ?_⟩
    · rw [setCell_eq_setRow w g i _ _ _ _ hg, setRow_heap w g _ _ _ _ hg]
    · rw [hk, Nat.mul_one, hlen, Array.toList_setIfInBounds]
      have hcl : l.length ≤ cur.toList.length := by simp; omega
      have hm : (E.cs l).length = l.length := by rw [E.cs_length, hk, Nat.mul_one]
      refine List.ext_getElem? fun j => ?_
      rw [List.getElem?_take]
      by_cases hj : j < l.length
      · rw [if_pos hj, List.getElem?_set]
        by_cases e : i = j
        · subst e
          have := hcs (l.set i x) i x (by rw [List.getElem?_set_self hi])
          rw [this, hv]
          simp; omega
        · rw [if_neg e]
          have hy : (l.set i x)[j]? = some l[j] := by rw [List.getElem?_set_ne e, List.getElem?_eq_getElem hj]
          rw [hcs _ j _ hy, ← hcs l j _ (List.getElem?_eq_getElem hj), ← ht, List.getElem?_take, if_pos hj]
      · rw [if_neg hj]
        exact (List.getElem?_eq_none (by rw [E.cs_length, hk, Nat.mul_one, hlen]; omega)).symm
theorem Row.own_lt {w : World} {B : Nat} {T : TypeId} {v : Value} {l : List α} (h : Row E w B T v l) {b : Nat} (hb : v.ownBlock = some b) : b < w.heap.size := (h.lt hb).2
/-- a row is kept where its block is -/
theorem Row.turn {w w' : World} {B : Nat} {T : TypeId} {v : Value} {l : List α} {F F' : Nat → Prop} (h : Row E w B T v l) (hT : Turn w w' F F') (hd : ∀ b, v.ownBlock = some b → ¬ F b) : Row E w' B T v l :=
  h.keep fun b e => hT.block b (h.own_lt e) (hd b e)
theorem Grew.turn {w w' : World} {B : Nat} {e : TypeId} {v v' : Value} {l : List α} (h : Grew E w w' B e v v' l) {F : Nat → Prop} (hF : ∀ b, v.ownBlock = some b → F b) : Turn w w' F F := Turn.grown h.2.1 hF
theorem Grew.foot {w w' : World} {B : Nat} {e : TypeId} {v v' : Value} {l : List α} (h : Grew E w w' B e v v' l) : ∀ b, v'.ownBlock = some b → v.ownBlock = some b ∨ w.heap.size ≤ b := fun b hb => by
  rcases h.2.2.1 with e | e
  · exact Or.inl (e ▸ hb)
  · exact Or.inr (e b hb)
end Ks
