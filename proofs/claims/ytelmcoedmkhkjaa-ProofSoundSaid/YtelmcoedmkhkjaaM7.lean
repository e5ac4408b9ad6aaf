/- Texts that the claim rests on, part 7: MerkleUp, MerkleClash, ProofTell, ProofSearch, CmpInt, ProofProve, ProofProve2. -/
import Derived.BigQuiet
import Derived.Test.YtelmcoedmkhkjaaProg
import Derived.Deep.LoopGhost
import Derived.Deep.QuietTactic
import Derived.Test.YtelmcoedmkhkjaaM6
/- Trees of hashes: to which root a path leads a leaf. -/
namespace Ks
open Go Go.RowKit
set_option linter.unusedVariables false
def upBad (c i : Int) : Prop := c < 1 ∨ 1048576 < c ∨ i < 0 ∨ c ≤ i
def upV (c i : Int) (x : ByteArray) (ps : List ByteArray) : ByteArray := if c < 1 ∨ 1048576 < c ∨ i < 0 ∨ c ≤ i then ⟨#[]⟩ else if x.size = 32 ∧ wholeL ps = true ∧ ps.length = (sidesH c.toNat i.toNat).length then upS c.toNat i.toNat x ps else ⟨#[]⟩
def upE (c i : Int) (x : ByteArray) (ps : List ByteArray) : Int := if c < 1 ∨ 1048576 < c ∨ i < 0 ∨ c ≤ i then 2 else if x.size = 32 ∧ wholeL ps = true ∧ ps.length = (sidesH c.toNat i.toNat).length then 0 else 17
theorem up_bad {c i : Int} {x : ByteArray} {ps : List ByteArray} (h : c < 1 ∨ 1048576 < c ∨ i < 0 ∨ c ≤ i) : upV c i x ps = ⟨#[]⟩ ∧ upE c i x ps = 2 := ⟨by rw [upV, if_pos h], by rw [upE, if_pos h]⟩
theorem up_no {c i : Int} {x : ByteArray} {ps : List ByteArray} (h : ¬ (c < 1 ∨ 1048576 < c ∨ i < 0 ∨ c ≤ i)) (h2 : ¬ (x.size = 32 ∧ wholeL ps = true ∧ ps.length = (sidesH c.toNat i.toNat).length)) : upV c i x ps = ⟨#[]⟩ ∧ upE c i x ps = 17 := ⟨by rw [upV, if_neg h, if_neg h2], by rw [upE, if_neg h, if_neg h2]⟩
theorem up_yes {c i : Int} {x : ByteArray} {ps : List ByteArray} (h : ¬ (c < 1 ∨ 1048576 < c ∨ i < 0 ∨ c ≤ i)) (h2 : x.size = 32 ∧ wholeL ps = true ∧ ps.length = (sidesH c.toNat i.toNat).length) : upV c i x ps = upS c.toNat i.toNat x ps ∧ upE c i x ps = 0 := ⟨by rw [upV, if_neg h, if_pos h2], by rw [upE, if_neg h, if_pos h2]⟩
theorem up_cases (c i : Int) (x : ByteArray) (ps : List ByteArray) : upE c i x ps = 0 ∨ upE c i x ps = 2 ∨ upE c i x ps = 17 := by
  unfold upE
  split
  · exact .inr (.inl rfl)
  · split
    · exact .inl rfl
    · exact .inr (.inr rfl)
/-- what climb tells of a path -/
theorem climb_twenty (n i : Nat) (x : ByteArray) (ps : List ByteArray) (hi : i < n) (hn : n ≤ 1048576) :
    (ps.length < (sidesH n i).length ∧ climbO 20 n i x ps = none) ∨ ((sidesH n i).length ≤ ps.length ∧ ∃ st, climbO 20 n i x ps = some (st, upS n i x ps, ps.drop (sidesH n i).length)) := by
  have he := sidesM_eq n 20 i hi hn
  obtain ⟨a, b⟩ := climb_spec 20 n i x ps hi
  rw [he] at a b
  rcases Nat.lt_or_ge ps.length (sidesH n i).length with h | h
  · exact .inl ⟨h, a h⟩
  · exact .inr ⟨h, b h⟩
end Ks
namespace Go.Proofs.Ytelmcoedmkhkjaa
open Go.RowKit Ks
set_option linter.unusedVariables false
theorem whole_one (x : ByteArray) (w : World) : Calls Try.prog 51 #[.slice (some ⟨w.heap.size, 0, none⟩) 1 1] (w.alloc (.cells #[.string x] 9)) fun e w' => e = .returned (.bool (decide (x.size = 32))) ∧ Below w.heap.size w w' := by
  refine (whole_any _ [x] _ (Rd.one w x 9) (by simp)).mono fun e w' ⟨h1, h2⟩ => ⟨?_, (alloc_below w _).trans (h2.mono (by simp))⟩
  rw [h1]
  congr 2
  simp [wholeL, Bool.beq_eq_decide_eq]
set_option maxRecDepth 100000 in
set_option maxHeartbeats 2000000 in
theorem up_bad_any (c i : Int) (x : ByteArray) (pa : Option Addr) (pl pc : Nat) (w : World) (h : c < 1 ∨ 1048576 < c ∨ i < 0 ∨ c ≤ i) :
    Calls Try.prog 85 #[.int .i64 c, .int .i64 i, .string x, .slice pa pl pc] w fun e w' => e = .returned (.tuple #[.string ⟨#[]⟩, .int .i64 2]) ∧ Below w.heap.size w w' := by
  refine calls_by fun R HR => ?_
  have hc : c < 1 ∨ (¬ c < 1 ∧ 1048576 < c) ∨ (¬ c < 1 ∧ ¬ 1048576 < c ∧ i < 0) ∨ (¬ c < 1 ∧ ¬ 1048576 < c ∧ ¬ i < 0 ∧ c ≤ i) := by omega
  clear h
  rcases hc with h1 | ⟨h1, h2⟩ | ⟨h1, h2, h3⟩ | ⟨h1, h2, h3, h4⟩
  all_goals
    go_enter Try.func85, Try.ntmps85
    go_wp2
    exact HR.out _ _ ⟨rfl, Below.refl _ _⟩
set_option maxRecDepth 100000 in
set_option maxHeartbeats 2000000 in
theorem up_good_any (n i : Nat) (x : ByteArray) (ps : List ByteArray) (pv : Value) (w : World) (hi : i < n) (hn : n ≤ 1048576) (hp : ps.length ≤ 100000000) (hr : Rd strE w pv ps) :
    Calls Try.prog 85 #[.int .i64 (n : Nat), .int .i64 (i : Nat), .string x, pv] w fun e w' => e = .returned (.tuple #[.string (upV n i x ps), .int .i64 (upE n i x ps)]) ∧ Below w.heap.size w w' := by
  refine calls_by fun R HR => ?_
  obtain ⟨pa, pc, rfl, -⟩ := hr.shape
  have hb : ¬ ((n : Int) < 1 ∨ 1048576 < (n : Int) ∨ (i : Int) < 0 ∨ (n : Int) ≤ (i : Int)) := by omega
  have h1 : ¬ (n : Int) < 1 := by omega
  have h2 : ¬ (1048576 : Int) < (n : Int) := by omega
  have h3 : ¬ (i : Int) < 0 := by omega
  have h4 : ¬ (n : Int) ≤ (i : Int) := by omega
  have HO := Lib.hid (whole_one x w)
  have HR0 := Lib.hid hr
  by_cases hx : x.size = 32
  · rw [decide_eq_true hx] at HO
    cases hw : wholeL ps
    · have HV := Lib.hid (up_no (x := x) hb (fun h => by rw [hw] at h; cases h.2.1))
      have HP := Lib.hid (fun w1 (h : Below w.heap.size w w1) => whole_any _ ps w1 (hr.below h) (by omega))
      rw [hw] at HP
      clear hb hx hw hr hi hn hp
      go_enter Try.func85, Try.ntmps85
      go_wp2_with fail
      refine HO.out.mono ?_
      rintro e w1 ⟨rfl, hb⟩
      have HB := Lib.hid hb
      clear hb
      go_wp2_with fail
      refine (HP.out w1 HB.out).mono ?_
      rintro e w2 ⟨rfl, hb⟩
      have HB2 := Lib.hid (HB.out.trans (hb.mono HB.out.size))
      clear hb
      go_wp2
      exact HR.out _ _ ⟨by rw [HV.out.1, HV.out.2]; rfl, HB2.out⟩
    · have HP := Lib.hid (fun w1 (h : Below w.heap.size w w1) => whole_any _ ps w1 (hr.below h) (by omega))
      have HC := Lib.hid (fun w1 (h : Below w.heap.size w w1) => climb_any 20 n i x ps _ w1 hi hn (by omega) (by omega) hx hw hp (hr.below h))
      rw [hw] at HP
      rcases climb_twenty n i x ps hi hn with ⟨hl, hc⟩ | ⟨hl, st, hc⟩
      · have hno : ¬ (x.size = 32 ∧ wholeL ps = true ∧ ps.length = (sidesH (n : Int).toNat (i : Int).toNat).length) := fun h => by
          have h9 := h.2.2
          rw [Int.toNat_natCast, Int.toNat_natCast] at h9
          omega
        have HV := Lib.hid (up_no (x := x) hb hno)
        clear hno
        rw [hc] at HC
        clear hb hx hw hr hi hn hp hl hc
        go_enter Try.func85, Try.ntmps85
        go_wp2_with fail
        refine HO.out.mono ?_
        rintro e w1 ⟨rfl, hb⟩
        have HB := Lib.hid hb
        clear hb
        go_wp2_with fail
        refine (HP.out w1 HB.out).mono ?_
        rintro e w2 ⟨rfl, hb⟩
        have HB2 := Lib.hid (HB.out.trans (hb.mono HB.out.size))
        clear hb
        go_wp2_with fail
        refine (HC.out w2 HB2.out).mono ?_
        rintro e w3 ⟨rfl, hb⟩
        have HB3 := Lib.hid (HB2.out.trans (hb.mono HB2.out.size))
        clear hb
        go_wp2
        exact HR.out _ _ ⟨by rw [HV.out.1, HV.out.2]; rfl, HB3.out⟩
      · obtain ⟨S, hS⟩ : ∃ S, upS n i x ps = S := ⟨_, rfl⟩
        rw [hc, hS] at HC
        by_cases he : ps.length = (sidesH n i).length
        · have HV := Lib.hid (up_yes (x := x) hb ⟨hx, hw, by simpa using he⟩)
          simp only [Int.toNat_natCast, hS] at HV
          have hq : (((ps.drop (sidesH n i).length).length : Int) == 0) = true := by rw [beq_iff_eq, List.length_drop]; omega
          generalize ps.drop (sidesH n i).length = rest at *
          clear hb hx hw hr hi hn hp hl hc he hS
          go_enter Try.func85, Try.ntmps85
          go_wp2_with fail
          refine HO.out.mono ?_
          rintro e w1 ⟨rfl, hb⟩
          have HB := Lib.hid hb
          clear hb
          go_wp2_with fail
          refine (HP.out w1 HB.out).mono ?_
          rintro e w2 ⟨rfl, hb⟩
          have HB2 := Lib.hid (HB.out.trans (hb.mono HB.out.size))
          clear hb
          go_wp2_with fail
          refine (HC.out w2 HB2.out).mono ?_
          rintro e w3 ⟨⟨v, rfl, hrow⟩, hb⟩
          have HB3 := Lib.hid (HB2.out.trans (hb.mono HB2.out.size))
          obtain ⟨va, vc, rfl, -⟩ := hrow.shape
          clear hb hrow
          simp only [hq]
          go_wp2
          exact HR.out _ _ ⟨by rw [HV.out.1, HV.out.2]; rfl, HB3.out⟩
        · have HV := Lib.hid (up_no (x := x) hb (fun h => he (by have := h.2.2; simpa using this)))
          have hq : (((ps.drop (sidesH n i).length).length : Int) == 0) = false := by rw [beq_eq_false_iff_ne, List.length_drop]; omega
          generalize ps.drop (sidesH n i).length = rest at *
          clear hb hx hw hr hi hn hp hl hc he hS
          go_enter Try.func85, Try.ntmps85
          go_wp2_with fail
          refine HO.out.mono ?_
          rintro e w1 ⟨rfl, hb⟩
          have HB := Lib.hid hb
          clear hb
          go_wp2_with fail
          refine (HP.out w1 HB.out).mono ?_
          rintro e w2 ⟨rfl, hb⟩
          have HB2 := Lib.hid (HB.out.trans (hb.mono HB.out.size))
          clear hb
          go_wp2_with fail
          refine (HC.out w2 HB2.out).mono ?_
          rintro e w3 ⟨⟨v, rfl, hrow⟩, hb⟩
          have HB3 := Lib.hid (HB2.out.trans (hb.mono HB2.out.size))
          obtain ⟨va, vc, rfl, -⟩ := hrow.shape
          clear hb hrow
          simp only [hq]
          go_wp2
          exact HR.out _ _ ⟨by rw [HV.out.1, HV.out.2]; rfl, HB3.out⟩
  · rw [decide_eq_false hx] at HO
    have HV := Lib.hid (up_no (ps := ps) hb (fun h => hx h.1))
    clear hb hx hr hi hn hp
    go_enter Try.func85, Try.ntmps85
    go_wp2_with fail
    refine HO.out.mono ?_
    rintro e w1 ⟨rfl, hb⟩
    have HB := Lib.hid hb
    clear hb
    go_wp2
    exact HR.out _ _ ⟨by rw [HV.out.1, HV.out.2]; rfl, HB.out⟩
theorem up_any (c i : Int) (x : ByteArray) (ps : List ByteArray) (pv : Value) (w : World) (hp : ps.length ≤ 100000000) (hr : Rd strE w pv ps) :
    Calls Try.prog 85 #[.int .i64 c, .int .i64 i, .string x, pv] w fun e w' => e = .returned (.tuple #[.string (upV c i x ps), .int .i64 (upE c i x ps)]) ∧ Below w.heap.size w w' := by
  by_cases h : c < 1 ∨ 1048576 < c ∨ i < 0 ∨ c ≤ i
  · obtain ⟨pa, pc, rfl, -⟩ := hr.shape
    rw [(up_bad h).1, (up_bad h).2]
    exact up_bad_any c i x pa _ pc w h
  · have e1 : c = ((c.toNat : Nat) : Int) := by omega
    have e2 : i = ((i.toNat : Nat) : Int) := by omega
    have := up_good_any c.toNat i.toNat x ps pv w (by omega) (by omega) hp hr
    rw [← e1, ← e2] at this
    exact this
def isV (root : ByteArray) (c i : Int) (x : ByteArray) (ps : List ByteArray) : Bool := decide (upE c i x ps = 0 ∧ upV c i x ps = root)
theorem check_any (root : ByteArray) (c i : Int) (x : ByteArray) (ps : List ByteArray) (pv : Value) (w : World) (hp : ps.length ≤ 100000000) (hr : Rd strE w pv ps) :
    Calls Try.prog 74 #[.string root, .int .i64 c, .int .i64 i, .string x, pv] w fun e w' => e = .returned (.bool (isV root c i x ps)) ∧ Below w.heap.size w w' := by
  refine calls_by fun R HR => ?_
  have HU := Lib.hid (up_any c i x ps pv w hp hr)
  obtain ⟨pa, pc, rfl, -⟩ := hr.shape
  have hc := up_cases c i x ps
  have HI := Lib.hid (show isV root c i x ps = decide (upE c i x ps = 0 ∧ upV c i x ps = root) from rfl)
  generalize upE c i x ps = e at *
  generalize upV c i x ps = v at *
  generalize isV root c i x ps = is at *
  clear hr hp
  rcases hc with rfl | rfl | rfl
  · by_cases hv : v = root
    · subst hv
      have HI2 := Lib.hid (show is = true by rw [HI.out]; simp)
      go_enter Try.func74, Try.ntmps74
      go_wp2_with fail
      refine HU.out.mono ?_
      rintro e w1 ⟨rfl, hb⟩
      have HB := Lib.hid hb
      clear hb
      go_wp2
      exact HR.out _ _ ⟨by rw [HI2.out]; rfl, HB.out⟩
    · have HI2 := Lib.hid (show is = false by rw [HI.out]; simp [hv])
      have hvb := text_ne hv
      clear hv
      go_enter Try.func74, Try.ntmps74
      go_wp2_with fail
      refine HU.out.mono ?_
      rintro e w1 ⟨rfl, hb⟩
      have HB := Lib.hid hb
      clear hb
      go_wp2
      exact HR.out _ _ ⟨by rw [HI2.out]; rfl, HB.out⟩
  all_goals
    have HI2 := Lib.hid (show is = false by rw [HI.out]; simp)
    go_enter Try.func74, Try.ntmps74
    go_wp2_with fail
    refine HU.out.mono ?_
    rintro e w1 ⟨rfl, hb⟩
    have HB := Lib.hid hb
    clear hb
    go_wp2
    exact HR.out _ _ ⟨by rw [HI2.out]; rfl, HB.out⟩
end Go.Proofs.Ytelmcoedmkhkjaa
/- Trees of hashes: what two paths that lead two leaves to one root tell. -/
namespace Ks
open Go Go.RowKit
set_option linter.unusedVariables false
theorem climb_sizes (m : Nat) : ∀ (n i : Nat) (x : ByteArray) (ps : List ByteArray) (r : List StepG × ByteArray × List ByteArray), x.size = 32 → wholeL ps = true → climbO m n i x ps = some r → ∀ s ∈ r.1, s.a.size ≤ 32 ∧ s.b.size ≤ 32 := by
  induction m with
  | zero =>
    intro n i x ps r hx hp h s hs
    simp only [climbO, Option.some.injEq] at h
    subst h
    simp at hs
  | succ m ih =>
    intro n i x ps r hx hp h s hs
    by_cases h1 : n ≤ 1
    · rw [climb_low h1] at h
      simp only [Option.some.injEq] at h
      subst h
      simp at hs
    · cases hd : dirN n i with
      | none =>
        rw [climb_none h1 hd] at h
        simp only [Option.map_eq_some_iff] at h
        obtain ⟨q, e, rfl⟩ := h
        rcases List.mem_cons.1 hs with rfl | hs
        · exact ⟨by show 0 ≤ 32; omega, by show 0 ≤ 32; omega⟩
        · exact ih _ _ _ _ q hx hp e s hs
      | some d =>
        match ps, hp, h with
        | [], _, h => rw [climb_nil h1 hd] at h; cases h
        | p :: ps, hp, h =>
          rw [climb_some h1 hd] at h
          simp only [Option.map_eq_some_iff] at h
          obtain ⟨q, e, rfl⟩ := h
          simp only [wholeL, List.all_cons, Bool.and_eq_true, beq_iff_eq] at hp
          rcases List.mem_cons.1 hs with rfl | hs
          · cases d <;> simp [pairS] <;> omega
          · exact ih _ _ _ _ q (nodeS_size _ _) hp.2 e s hs
theorem climb_steps (m : Nat) : ∀ (n i : Nat) (x : ByteArray) (ps : List ByteArray) (r : List StepG × ByteArray × List ByteArray), climbO m n i x ps = some r → r.1.length ≤ m := by
  induction m with
  | zero =>
    intro n i x ps r h
    simp only [climbO, Option.some.injEq] at h
    subst h
    exact Nat.le_refl _
  | succ m ih =>
    intro n i x ps r h
    by_cases h1 : n ≤ 1
    · rw [climb_low h1] at h
      simp only [Option.some.injEq] at h
      subst h
      exact Nat.zero_le _
    · cases hd : dirN n i with
      | none =>
        rw [climb_none h1 hd] at h
        simp only [Option.map_eq_some_iff] at h
        obtain ⟨q, e, rfl⟩ := h
        exact Nat.succ_le_succ (ih _ _ _ _ q e)
      | some d =>
        match ps, h with
        | [], h => rw [climb_nil h1 hd] at h; cases h
        | p :: ps, h =>
          rw [climb_some h1 hd] at h
          simp only [Option.map_eq_some_iff] at h
          obtain ⟨q, e, rfl⟩ := h
          exact Nat.succ_le_succ (ih _ _ _ _ q e)
/-- two unlike texts of one sum -/
def Unlike (a b : ByteArray) : Prop := a ≠ b ∧ shaS a.data.toList = shaS b.data.toList ∧ a.size ≤ 1000 ∧ b.size ≤ 1000
theorem clash_step (st su : List StepG) (k : Nat) (S T : StepG) (h : clashL (st.drop k) (su.drop k) = some (S, T)) (h1 : k < st.length) (h2 : k < su.length) :
    (clashes st[k] su[k] = true ∧ S = st[k] ∧ T = su[k]) ∨ (clashes st[k] su[k] = false ∧ clashL (st.drop (k + 1)) (su.drop (k + 1)) = some (S, T)) := by
  rw [List.drop_eq_getElem_cons h1, List.drop_eq_getElem_cons h2, clashL] at h
  cases hc : clashes st[k] su[k]
  · rw [hc] at h; exact .inr ⟨rfl, h⟩
  · rw [hc] at h
    simp only [if_true, Option.some.injEq, Prod.mk.injEq] at h
    exact .inl ⟨rfl, h.1.symm, h.2.symm⟩
theorem clash_end (st su : List StepG) (S T : StepG) (h : clashL (st.drop st.length) (su.drop st.length) = some (S, T)) : False := by
  rw [List.drop_length] at h
  simp [clashL] at h
/-- how it goes on at a level -/
theorem clash_ways (s t : StepG) : (s.a = ⟨#[]⟩ ∧ clashes s t = false) ∨ (s.a ≠ ⟨#[]⟩ ∧ s.a = t.a ∧ s.b = t.b ∧ clashes s t = false) ∨
    (s.a ≠ ⟨#[]⟩ ∧ s.a ≠ t.a ∧ ((nodeS s.a s.b = nodeS t.a t.b ∧ clashes s t = true) ∨ (nodeS s.a s.b ≠ nodeS t.a t.b ∧ clashes s t = false))) ∨
    (s.a ≠ ⟨#[]⟩ ∧ s.a = t.a ∧ s.b ≠ t.b ∧ ((nodeS s.a s.b = nodeS t.a t.b ∧ clashes s t = true) ∨ (nodeS s.a s.b ≠ nodeS t.a t.b ∧ clashes s t = false))) := by
  unfold clashes
  by_cases h0 : s.a = ⟨#[]⟩
  · exact .inl ⟨h0, by simp [h0]⟩
  · by_cases h1 : s.a = t.a
    · by_cases h2 : s.b = t.b
      · exact .inr (.inl ⟨h0, h1, h2, by simp [h1, h2]⟩)
      · refine .inr (.inr (.inr ⟨h0, h1, h2, ?_⟩))
        by_cases h3 : nodeS s.a s.b = nodeS t.a t.b
        · exact .inl ⟨h3, decide_eq_true ⟨h0, .inr h2, h3⟩⟩
        · exact .inr ⟨h3, decide_eq_false fun h => h3 h.2.2⟩
    · refine .inr (.inr (.inl ⟨h0, h1, ?_⟩))
      by_cases h3 : nodeS s.a s.b = nodeS t.a t.b
      · exact .inl ⟨h3, decide_eq_true ⟨h0, .inl h1, h3⟩⟩
      · exact .inr ⟨h3, decide_eq_false fun h => h3 h.2.2⟩
end Ks
namespace Go.Proofs.Ytelmcoedmkhkjaa
open Go.RowKit Ks
set_option linter.unusedVariables false
/-- the two paths clash -/
theorem clash_plain (l : List ByteArray) (j : Nat) (y x : ByteArray) (ps : List ByteArray) (hw : wholeL l = true) (hy : l[j]? = some y) (hn : l.length ≤ 1048576) (hne : x ≠ y) (his : isV (rootL l) l.length j x ps = true) :
    x.size = 32 ∧ y.size = 32 ∧ wholeL ps = true ∧ wholeL (pathL l j) = true ∧ ∃ st su S T, climbO 20 l.length j y (pathL l j) = some (st, rootL l, []) ∧ climbO 20 l.length j x ps = some (su, rootL l, []) ∧ st.length = su.length ∧ clashL st su = some (S, T) ∧
      Unlike (insideS S.a S.b) (insideS T.a T.b) ∧ (∀ s ∈ st, s.a.size ≤ 32 ∧ s.b.size ≤ 32) ∧ (∀ s ∈ su, s.a.size ≤ 32 ∧ s.b.size ≤ 32) := by
  have hj : j < l.length := (List.getElem?_eq_some_iff.1 hy).1
  have hz := whole_get hw j y hy
  obtain ⟨p1, p2⟩ := path_leads l.length l j y rfl hy
  obtain ⟨q1, -⟩ := path_whole l.length l j rfl hw hj
  have hb : ¬ ((l.length : Int) < 1 ∨ 1048576 < (l.length : Int) ∨ (j : Int) < 0 ∨ (l.length : Int) ≤ (j : Int)) := by omega
  have hx : x.size = 32 ∧ wholeL ps = true ∧ ps.length = (sidesH l.length j).length ∧ upS l.length j x ps = rootL l := by
    unfold isV at his
    have his := of_decide_eq_true his
    by_cases h2 : x.size = 32 ∧ wholeL ps = true ∧ ps.length = (sidesH (l.length : Int).toNat (j : Int).toNat).length
    · have hv := up_yes hb h2
      rw [hv.1, hv.2, Int.toNat_natCast, Int.toNat_natCast] at his
      rw [Int.toNat_natCast, Int.toNat_natCast] at h2
      exact ⟨h2.1, h2.2.1, h2.2.2, his.2⟩
    · have hv := up_no (x := x) (ps := ps) hb h2
      rw [hv.2] at his
      cases his.1
  obtain ⟨hx1, hx2, hx3, hx4⟩ := hx
  have c1 : ∃ st, climbO 20 l.length j y (pathL l j) = some (st, rootL l, []) := by
    rcases climb_twenty l.length j y (pathL l j) hj hn with ⟨h, _⟩ | ⟨_, st, h⟩
    · omega
    · exact ⟨st, by rw [h, p1, List.drop_of_length_le (by omega)]⟩
  have c2 : ∃ su, climbO 20 l.length j x ps = some (su, rootL l, []) := by
    rcases climb_twenty l.length j x ps hj hn with ⟨h, _⟩ | ⟨_, st, h⟩
    · omega
    · exact ⟨st, by rw [h, hx4, List.drop_of_length_le (by omega)]⟩
  obtain ⟨st, c1⟩ := c1
  obtain ⟨su, c2⟩ := c2
  obtain ⟨d1, d2, d3⟩ := clash_there 20 l.length j y x (pathL l j) ps st su (rootL l) [] [] hn hz hx1 q1 hx2 c1 c2
  obtain ⟨S, T, e⟩ := d2 (Ne.symm hne)
  obtain ⟨f1, f2, f3, f4⟩ := d3 S T e
  have f4 : T.a.size = 32 ∧ T.b.size = 32 := f4.elim id False.elim
  refine ⟨hx1, hz, hx2, q1, st, su, S, T, c1, c2, d1, e, ⟨fun h => ?_, ?_, ?_, ?_⟩, climb_sizes 20 _ _ _ _ _ hz q1 c1, climb_sizes 20 _ _ _ _ _ hx1 hx2 c2⟩
  · have := of_decide_eq_true f1
    obtain ⟨g1, g2⟩ := inside_inj (by omega) h
    rcases this.2.1 with h | h
    · exact h g1
    · exact h g2
  · have := of_decide_eq_true f1
    exact this.2.2
  · rw [inside_size]; omega
  · rw [inside_size]; omega
end Go.Proofs.Ytelmcoedmkhkjaa
/- What a proof tells: plain. No program's text is in sight. -/
namespace Ks
open Go Go.RowKit Go.Proofs.Ytelmcoedmkhkjaa
set_option linter.unusedVariables false
theorem own_is (l : List ByteArray) (j : Nat) (x : ByteArray) (hw : wholeL l = true) (hx : l[j]? = some x) (hn : l.length ≤ 1048576) (hz : x.size = 32) : isV (rootL l) l.length j x (pathL l j) = true := by
  have hj : j < l.length := (List.getElem?_eq_some_iff.1 hx).1
  obtain ⟨p1, p2⟩ := path_leads l.length l j x rfl hx
  obtain ⟨q1, -⟩ := path_whole l.length l j rfl hw hj
  have hb : ¬ ((l.length : Int) < 1 ∨ 1048576 < (l.length : Int) ∨ (j : Int) < 0 ∨ (l.length : Int) ≤ (j : Int)) := by omega
  have hv := up_yes (c := (l.length : Int)) (i := (j : Int)) (x := x) (ps := pathL l j) hb ⟨hz, q1, by rw [Int.toNat_natCast, Int.toNat_natCast]; exact p2⟩
  rw [isV, hv.1, hv.2, Int.toNat_natCast, Int.toNat_natCast, p1]
  simp
def leadsB (root : ByteArray) (count i : Int) (x : LeafT) (path : List ByteArray) : Bool := decide (mayLeaf x) && isV root count i (hashS x) path
def emptyB (x : LeafT) (path : List ByteArray) : Bool := decide (x = noLeaf ∧ path.length = 0)
def foundB (root : ByteArray) (count lba : Int) (p : PrfD) : Bool := decide (p.at_ < count ∧ p.here.1 = lba) && emptyB p.ahead p.left && leadsB root count p.at_ p.here p.up
def besideB (root : ByteArray) (count : Int) (is : Bool) (i : Int) (x : LeafT) (path : List ByteArray) (may : Bool) : Bool := if is then may && leadsB root count i x path else emptyB x path
def noneB (root : ByteArray) (count lba : Int) (p : PrfD) : Bool :=
  !(decide (count = 0 ∧ root ≠ sha1 [])) && besideB root count (decide (p.at_ < count)) p.at_ p.here p.up (decide (lba < p.here.1)) && besideB root count (decide (0 < p.at_)) (p.at_ - 1) p.ahead p.left (decide (p.ahead.1 < lba))
def badAsk (count lba : Int) : Prop := count < 0 ∨ 4096 < count ∨ lba < 0 ∨ 4096 ≤ lba
instance (count lba : Int) : Decidable (badAsk count lba) := by unfold badAsk; infer_instance
/-- what a proof tells: the hash, whether there is one, the error's number -/
def tellsP (root : ByteArray) (count lba : Int) (p : PrfD) : ByteArray × Bool × Int :=
  if badAsk count lba then (⟨#[]⟩, false, 2)
  else if p.at_ < 0 ∨ count < p.at_ then (⟨#[]⟩, false, 17)
  else if p.found = true then (if foundB root count lba p = true then (p.here.2, true, 0) else (⟨#[]⟩, false, 17))
  else if noneB root count lba p = true then (⟨#[]⟩, false, 0) else (⟨#[]⟩, false, 17)
theorem tells_ok {root : ByteArray} {count lba : Int} {p : PrfD} (h : (tellsP root count lba p).2.2 = 0) :
    ¬ badAsk count lba ∧ 0 ≤ p.at_ ∧ p.at_ ≤ count ∧ ((p.found = true ∧ foundB root count lba p = true ∧ tellsP root count lba p = (p.here.2, true, 0)) ∨ (p.found = false ∧ noneB root count lba p = true ∧ tellsP root count lba p = (⟨#[]⟩, false, 0))) := by
  by_cases h1 : badAsk count lba
  · rw [tellsP, if_pos h1] at h; cases h
  · by_cases h2 : p.at_ < 0 ∨ count < p.at_
    · rw [tellsP, if_neg h1, if_pos h2] at h; cases h
    · refine ⟨h1, by omega, by omega, ?_⟩
      by_cases h3 : p.found = true
      · by_cases h4 : foundB root count lba p = true
        · exact Or.inl ⟨h3, h4, by rw [tellsP, if_neg h1, if_neg h2, if_pos h3, if_pos h4]⟩
        · rw [tellsP, if_neg h1, if_neg h2, if_pos h3, if_neg h4] at h; cases h
      · by_cases h4 : noneB root count lba p = true
        · exact Or.inr ⟨by simpa using h3, h4, by rw [tellsP, if_neg h1, if_neg h2, if_neg h3, if_pos h4]⟩
        · rw [tellsP, if_neg h1, if_neg h2, if_neg h3, if_neg h4] at h; cases h
theorem own_leads {l : List LeafT} {i : Nat} {x : LeafT} (hr : rightB l = true) (hx : l[i]? = some x) (hn : l.length ≤ 1048576) : leadsB (rootL (hashL l)) l.length i x (pathL (hashL l) i) = true := by
  have hm := ((rightB_spec l).1 hr).1 x (List.mem_of_getElem? hx)
  have h := own_is (hashL l) i (hashS x) (hashL_whole l) (by rw [hashL, List.getElem?_map, hx]; rfl) (by rw [hashL_length]; exact hn) (hashS_size x)
  rw [hashL_length] at h
  rw [leadsB, h, decide_eq_true hm]; rfl
theorem here_some {l : List LeafT} {n : Nat} {x : LeafT} (h : l[n]? = some x) : hereOf l n = x := by rw [hereOf, h]; rfl
theorem here_none {l : List LeafT} {n : Nat} (h : l.length ≤ n) : hereOf l n = noLeaf := by rw [hereOf, List.getElem?_eq_none h]; rfl
/-- what is proved is told -/
theorem prove_told {l : List LeafT} {lba : Int} (hr : rightB l = true) (hn : l.length ≤ 4096) (h0 : 0 ≤ lba) (h1 : lba < 4096) : tellsP (rootL (hashL l)) l.length lba (proveP l lba) = ((wantP l lba).1, (wantP l lba).2, 0) := by
  obtain ⟨hm, hs⟩ := (rightB_spec l).1 hr
  have hle := ahead_le lba l
  rw [tellsP, if_neg (by unfold badAsk; omega), if_neg (by show ¬ ((aheadN lba l : Int) < 0 ∨ (l.length : Int) < (aheadN lba l : Int)); omega)]
  by_cases hf : metP l lba = true
  · rw [if_pos (show (proveP l lba).found = true from hf)]
    obtain ⟨x, hx, he⟩ : ∃ x, l[aheadN lba l]? = some x ∧ x.1 = lba := by
      unfold metP at hf
      cases hc : l[aheadN lba l]? with
      | none => rw [hc] at hf; cases hf
      | some x => rw [hc] at hf; exact ⟨x, rfl, by simpa using hf⟩
    have hlt : aheadN lba l < l.length := (List.getElem?_eq_some_iff.1 hx).1
    have hF : foundB (rootL (hashL l)) l.length lba (proveP l lba) = true := by
      have e1 : (proveP l lba).at_ = (aheadN lba l : Int) := rfl
      have e2 : (proveP l lba).here = x := here_some hx
      have e3 : (proveP l lba).ahead = noLeaf := if_neg (fun h => by rw [hf] at h; cases h.1)
      have e4 : (proveP l lba).left = [] := if_neg (fun h => by rw [hf] at h; cases h.1)
      have e5 : (proveP l lba).up = pathL (hashL l) (aheadN lba l) := if_pos hlt
      rw [foundB, e1, e2, e3, e4, e5, own_leads hr hx (by omega), decide_eq_true ⟨by omega, he⟩, emptyB, decide_eq_true ⟨rfl, rfl⟩]; rfl
    rw [if_pos hF, want_some l lba hs _ x hx he]
    have e2 : (proveP l lba).here = x := here_some hx
    show ((proveP l lba).here.2, true, (0 : Int)) = (x.2, true, 0)
    rw [e2]
  · rw [if_neg (show ¬ (proveP l lba).found = true from hf)]
    have hf' : metP l lba = false := by simpa using hf
    have hne : ∀ x, l[aheadN lba l]? = some x → x.1 ≠ lba := fun x hx he => hf (by unfold metP; rw [hx]; simpa using he)
    have hw : wantP l lba = (⟨#[]⟩, false) := by
      refine want_none l lba fun x hx => ?_
      obtain ⟨i, hi⟩ := List.mem_iff_getElem?.1 hx
      rcases Nat.lt_trichotomy i (aheadN lba l) with h | h | h
      · have := ahead_lt lba l i x h hi; omega
      · subst h; exact hne x hi
      · have h2 : i < l.length := (List.getElem?_eq_some_iff.1 hi).1
        obtain ⟨y, hy⟩ : ∃ y, l[aheadN lba l]? = some y := ⟨_, List.getElem?_eq_getElem (by omega)⟩
        have q1 := ahead_at lba l y hy
        have q2 := right_sorted hs h hy hi
        omega
    have e1 : (proveP l lba).at_ = (aheadN lba l : Int) := rfl
    have hN : noneB (rootL (hashL l)) l.length lba (proveP l lba) = true := by
      have g0 : (!(decide ((l.length : Int) = 0 ∧ rootL (hashL l) ≠ sha1 []))) = true := by
        rw [decide_eq_false]; rfl
        rintro ⟨q1, q2⟩
        have : l = [] := List.length_eq_zero_iff.1 (by omega)
        subst this
        exact q2 root_nil
      have g1 : besideB (rootL (hashL l)) l.length (decide ((aheadN lba l : Int) < l.length)) (aheadN lba l : Int) (proveP l lba).here (proveP l lba).up (decide (lba < (proveP l lba).here.1)) = true := by
        by_cases h : aheadN lba l < l.length
        · obtain ⟨x, hx⟩ : ∃ x, l[aheadN lba l]? = some x := ⟨_, List.getElem?_eq_getElem h⟩
          have e2 : (proveP l lba).here = x := here_some hx
          have e5 : (proveP l lba).up = pathL (hashL l) (aheadN lba l) := if_pos h
          have q1 := ahead_at lba l x hx
          have q2 := hne x hx
          rw [besideB, decide_eq_true (by omega : (aheadN lba l : Int) < l.length), e2, e5, own_leads hr hx (by omega), decide_eq_true (by omega : lba < x.1)]; rfl
        · have e2 : (proveP l lba).here = noLeaf := here_none (by omega)
          have e5 : (proveP l lba).up = [] := if_neg h
          rw [besideB, decide_eq_false (by omega : ¬ (aheadN lba l : Int) < l.length), e2, e5, emptyB]
          exact decide_eq_true (⟨rfl, rfl⟩ : noLeaf = noLeaf ∧ ([] : List ByteArray).length = 0)
      have g2 : besideB (rootL (hashL l)) l.length (decide (0 < (aheadN lba l : Int))) ((aheadN lba l : Int) - 1) (proveP l lba).ahead (proveP l lba).left (decide ((proveP l lba).ahead.1 < lba)) = true := by
        by_cases h : 0 < aheadN lba l
        · obtain ⟨x, hx⟩ : ∃ x, l[aheadN lba l - 1]? = some x := ⟨_, List.getElem?_eq_getElem (by omega)⟩
          have e3 : (proveP l lba).ahead = x := (if_pos ⟨hf', h⟩).trans (here_some hx)
          have e4 : (proveP l lba).left = pathL (hashL l) (aheadN lba l - 1) := if_pos ⟨hf', h⟩
          have q1 := ahead_lt lba l _ x (by omega) hx
          rw [besideB, decide_eq_true (by omega : 0 < (aheadN lba l : Int)), e3, e4, show ((aheadN lba l : Int) - 1) = ((aheadN lba l - 1 : Nat) : Int) by omega, own_leads hr hx (by omega), decide_eq_true q1]; rfl
        · have e3 : (proveP l lba).ahead = noLeaf := if_neg fun q => h q.2
          have e4 : (proveP l lba).left = [] := if_neg fun q => h q.2
          rw [besideB, decide_eq_false (by omega : ¬ 0 < (aheadN lba l : Int)), e3, e4, emptyB]
          exact decide_eq_true (⟨rfl, rfl⟩ : noLeaf = noLeaf ∧ ([] : List ByteArray).length = 0)
      rw [noneB, e1, g0, g1, g2]; rfl
    rw [if_pos hN, hw]
/-- a leaf stands proved at a place at which there is another one -/
def otherP (l : List LeafT) (i : Int) (x : LeafT) (path : List ByteArray) : Prop :=
  0 ≤ i ∧ i < l.length ∧ l[i.toNat]? ≠ some x ∧ ((∃ y, l[i.toNat]? = some y ∧ hashS y = hashS x) ∨ isV (rootL (hashL l)) l.length i (hashS x) path = true)
theorem lead_parts {root : ByteArray} {c i : Int} {x : LeafT} {path : List ByteArray} (h : leadsB root c i x path = true) : mayLeaf x ∧ isV root c i (hashS x) path = true := by
  rw [leadsB, Bool.and_eq_true, decide_eq_true_iff] at h
  exact h
/-- who tells what is not so proves a leaf where there is another one -/
theorem told_other {l : List LeafT} {lba : Int} {p : PrfD} (hr : rightB l = true) (h : (tellsP (rootL (hashL l)) l.length lba p).2.2 = 0)
    (hne : ¬ ((tellsP (rootL (hashL l)) l.length lba p).1 = (wantP l lba).1 ∧ (tellsP (rootL (hashL l)) l.length lba p).2.1 = (wantP l lba).2)) : otherP l p.at_ p.here p.up ∨ otherP l (p.at_ - 1) p.ahead p.left := by
  obtain ⟨hm, hs⟩ := (rightB_spec l).1 hr
  obtain ⟨-, h0, h1, h2⟩ := tells_ok h
  obtain ⟨k, hk⟩ : ∃ k : Nat, p.at_ = k := ⟨p.at_.toNat, by omega⟩
  rcases h2 with ⟨-, hF, he⟩ | ⟨-, hN, he⟩
  · rw [he] at hne
    rw [foundB, Bool.and_eq_true, Bool.and_eq_true, decide_eq_true_iff] at hF
    obtain ⟨⟨⟨f1, f2⟩, -⟩, f3⟩ := hF
    left
    refine ⟨h0, f1, fun hx => hne ?_, Or.inr (lead_parts f3).2⟩
    rw [want_some l lba hs _ _ hx f2]
    exact ⟨rfl, rfl⟩
  · rw [he] at hne
    rw [noneB, Bool.and_eq_true, Bool.and_eq_true] at hN
    obtain ⟨⟨-, g1⟩, g2⟩ := hN
    refine Classical.byContradiction fun hno => hne ?_
    have hw : wantP l lba = (⟨#[]⟩, false) := by
      refine want_none l lba fun x hx e => ?_
      obtain ⟨i, hi⟩ := List.mem_iff_getElem?.1 hx
      have hil : i < l.length := (List.getElem?_eq_some_iff.1 hi).1
      rcases Nat.lt_or_ge i k with hik | hik
      · -- ahead of it
        rw [besideB, decide_eq_true (by omega : 0 < p.at_), if_pos rfl, Bool.and_eq_true, decide_eq_true_iff] at g2
        have hy : l[(p.at_ - 1).toNat]? = some p.ahead := Classical.byContradiction fun hy => hno (Or.inr ⟨by omega, by omega, hy, Or.inr (lead_parts g2.2).2⟩)
        have hlt := g2.1
        rcases Nat.lt_or_ge i (p.at_ - 1).toNat with h3 | h3
        · have := right_sorted hs h3 hi hy; omega
        · obtain rfl : i = (p.at_ - 1).toNat := by omega
          rw [hi] at hy; cases hy; omega
      · rw [besideB, decide_eq_true (by omega : p.at_ < l.length), if_pos rfl, Bool.and_eq_true, decide_eq_true_iff] at g1
        have hy : l[p.at_.toNat]? = some p.here := Classical.byContradiction fun hy => hno (Or.inl ⟨by omega, by omega, hy, Or.inr (lead_parts g1.2).2⟩)
        have hlt := g1.1
        rcases Nat.lt_or_ge p.at_.toNat i with h3 | h3
        · have := right_sorted hs h3 hy hi; omega
        · obtain rfl : i = p.at_.toNat := by omega
          rw [hi] at hy; cases hy; omega
    rw [hw]
    exact ⟨rfl, rfl⟩
end Ks
/- A binary search among leaves for a place. -/
namespace Ks
def metLB (c : LeafT → Int) (L : List LeafT) (p : Nat) : Bool := match L[p]? with | some x => decide (c x = 0) | none => false
end Ks
namespace Go.Proofs.Ytelmcoedmkhkjaa
open Go.RowKit Ks
set_option linter.unusedVariables false

set_option maxHeartbeats 2000000 in
theorem lsearch_any (g : Nat) (lb : Array Value) (eg : ∀ args w, (callFunc g args).run Try.prog w = .ok (.enter g args) w) (c : LeafT → Int) (v : Value) (t : Int) (L : List LeafT) (p : Nat) (w : World) (hl : Rd leafE w v L) (hlen : L.length ≤ 1000000) (hp : p ≤ L.length)
    (h1 : ∀ i x, i < p → L[i]? = some x → c x < 0) (h2 : ∀ i x, p ≤ i → L[i]? = some x → ¬ c x < 0)
    (hc : ∀ x w', Below w.heap.size w w' → Calls Try.prog g (#[leafV x, (.int .i64 t)] ++ lb) w' fun e w'' => e = .returned (.int .i64 (c x)) ∧ Below w'.heap.size w' w'') :
    Calls Try.prog 30 #[v, (.int .i64 t), .func (.func g) #[] lb] w fun e w' => e = .returned (.tuple #[.int .i64 p, .bool (metLB c L p)]) ∧ Below w.heap.size w w' := by
  refine calls_by fun R HR => ?_
  obtain ⟨a, cap, hv, hcap, -⟩ := hl.shape
  subst hv
  have HL := Lib.hid hl
  have H12 := Lib.hid (And.intro h1 h2)
  have Hc := Lib.hid hc
  clear h1 h2 hc hl
  go_enter Try.func30, Try.ntmps30
  go_wp2
  go_loopg [9, 10] L.length (fun gh i j wr => ∃ (lo hi : Nat), hi - lo ≤ gh ∧ lo ≤ p ∧ p ≤ hi ∧ hi ≤ L.length ∧ i = .int .i64 lo ∧ j = .int .i64 hi ∧ Below w.heap.size w wr)
  case atStart => exact ⟨0, L.length, by omega, by omega, by omega, by omega, rfl, rfl, Below.refl _ _⟩
  case round =>
    obtain ⟨lo, hi, hgh, hlo, hhi, hhl, rfl, rfl, hbel⟩ := hrel
    by_cases hlt : lo < hi
    · obtain ⟨m, hm⟩ : ∃ m : Nat, ((lo : Int) + (hi : Int)) / 2 = (m : Int) := ⟨(lo + hi) / 2, by omega⟩
      have hm1 : lo ≤ m ∧ m < hi := by omega
      obtain ⟨x, hx⟩ : ∃ x, L[m]? = some x := ⟨_, List.getElem?_eq_getElem (by omega)⟩
      have hbw : Below w.heap.size w wr := hbel
      obtain ⟨b, o, ha, hb, dd⟩ := (HL.out.below hbw).at m x hx
      subst ha
      obtain ⟨x1, x2⟩ := x
      have d0 := dd 0 _ rfl
      have d1 := dd 1 _ rfl
      have cP := Hc.out (x1, x2) wr hbw
      have hmi : (0 : Int) ≤ (m : Int) := by omega
      have hmi2 : (m : Int) < (L.length : Int) := by omega
      obtain ⟨cx, hcx⟩ : ∃ cx, c (x1, x2) = cx := ⟨_, rfl⟩
      rw [hcx] at cP
      have HX := Lib.hid (And.intro hx hcx)
      clear dd hx hcx
      change wr.cell? ⟨b, o + m * 2, none⟩ = some (.int .i64 x1) at d0
      change wr.cell? ⟨b, o + m * 2 + 1, none⟩ = some (.string x2) at d1
      have CP := Lib.hid cP
      clear cP
      go_wp2_with fail
      refine CP.out.mono ?_
      rintro e w1 ⟨rfl, hb1⟩
      clear d0 d1 CP
      by_cases hneg : cx < 0
      · have hmp : m < p := by
          refine Nat.lt_of_not_le fun hle => ?_
          have := H12.out.2 m _ hle HX.out.1
          rw [HX.out.2] at this
          omega
        go_wp2
        go_roundg (hi - (m + 1))
        case measure => omega
        case rel => exact ⟨m + 1, hi, by omega, by omega, by omega, by omega, by go_num, rfl, hbel.trans (hb1.mono hbel.size)⟩
      · have hmp : p ≤ m := by
          refine Nat.le_of_not_lt fun hlt => ?_
          have := H12.out.1 m _ hlt HX.out.1
          rw [HX.out.2] at this
          omega
        go_wp2
        go_roundg (m - lo)
        case measure => omega
        case rel => exact ⟨lo, m, by omega, by omega, by omega, by omega, rfl, rfl, hbel.trans (hb1.mono hbel.size)⟩
    · obtain rfl : lo = p := by omega
      obtain rfl : hi = lo := by omega
      have hbw : Below w.heap.size w wr := hbel
      by_cases hpl : hi < L.length
      · obtain ⟨x, hx⟩ : ∃ x, L[hi]? = some x := ⟨_, List.getElem?_eq_getElem hpl⟩
        obtain ⟨b, o, ha, hb, dd⟩ := (HL.out.below hbw).at hi x hx
        subst ha
        obtain ⟨x1, x2⟩ := x
        have d0 := dd 0 _ rfl
        have d1 := dd 1 _ rfl
        have cP := Hc.out (x1, x2) wr hbw
        have hmi : (0 : Int) ≤ (hi : Int) := by omega
        have hmi2 : (hi : Int) < (L.length : Int) := by omega
        obtain ⟨cx, hcx⟩ : ∃ cx, c (x1, x2) = cx := ⟨_, rfl⟩
        rw [hcx] at cP
        have Q := Lib.hid (show metLB c L hi = (cx == 0) by unfold metLB; rw [hx]; simp only [hcx]; rfl)
        clear dd hx hcx
        change wr.cell? ⟨b, o + hi * 2, none⟩ = some (.int .i64 x1) at d0
        change wr.cell? ⟨b, o + hi * 2 + 1, none⟩ = some (.string x2) at d1
        have hd2 : decide (hi < L.length) = true := by simpa using hpl
        have CP := Lib.hid cP
        clear cP
        go_wp2_with fail
        refine CP.out.mono ?_
        rintro e w1 ⟨rfl, hb1⟩
        clear d0 d1 CP
        go_wp2
        exact HR.out _ _ ⟨by rw [Q.out]; try rfl, hbw.trans (hb1.mono hbw.size)⟩
      · have Q := Lib.hid (show metLB c L hi = false by unfold metLB; rw [List.getElem?_eq_none (by omega)])
        have hd : decide ((hi : Int) < (L.length : Int)) = false := by simp; omega
        have hd2 : decide (hi < L.length) = false := by simp; omega
        clear hlt
        go_wp2
        exact HR.out _ _ ⟨by rw [Q.out]; try rfl, hbw⟩

end Go.Proofs.Ytelmcoedmkhkjaa
/- Two numbers held against each other: cmp.Compare. -/
namespace Ks
def cmpZ (x y : Int) : Int := if x < y then -1 else if y < x then 1 else 0
end Ks
namespace Go.Proofs.Ytelmcoedmkhkjaa
open Go.RowKit Ks
set_option linter.unusedVariables false
theorem nan_any (x : Int) (w : World) : Calls Try.prog 54 #[.int .i64 x] w fun e w' => e = .returned (.bool false) ∧ w' = w := by
  refine calls_by fun R HR => ?_
  go_enter Try.func54, Try.ntmps54
  go_wp2
  exact HR.out _ _ ⟨by simp, rfl⟩

theorem compare_any (x y : Int) (w : World) : Calls Try.prog 32 #[.int .i64 x, .int .i64 y] w fun e w' => e = .returned (.int .i64 (cmpZ x y)) ∧ w' = w := by
  refine calls_by fun R HR => ?_
  by_cases h1 : x < y
  · have Q := Lib.hid (show cmpZ x y = -1 by rw [cmpZ, if_pos h1])
    go_enter Try.func32, Try.ntmps32
    go_wp2_with (go_at_call 54; refine (nan_any _ _).mono ?_; rintro e w' ⟨rfl, rfl⟩)
    exact HR.out _ _ ⟨by rw [Q.out]; try rfl, rfl⟩
  by_cases h2 : y < x
  · have Q := Lib.hid (show cmpZ x y = 1 by rw [cmpZ, if_neg h1, if_pos h2])
    go_enter Try.func32, Try.ntmps32
    go_wp2_with (go_at_call 54; refine (nan_any _ _).mono ?_; rintro e w' ⟨rfl, rfl⟩)
    exact HR.out _ _ ⟨by rw [Q.out]; try rfl, rfl⟩
  · have Q := Lib.hid (show cmpZ x y = 0 by rw [cmpZ, if_neg h1, if_neg h2])
    go_enter Try.func32, Try.ntmps32
    go_wp2_with (go_at_call 54; refine (nan_any _ _).mono ?_; rintro e w' ⟨rfl, rfl⟩)
    exact HR.out _ _ ⟨by rw [Q.out]; try rfl, rfl⟩

end Go.Proofs.Ytelmcoedmkhkjaa
/- The proof of a place: proof.Prove. -/
namespace Ks
open Go Go.RowKit
set_option linter.unusedVariables false
abbrev prfC (f : Bool) (a : Int) (h x : LeafT) (u l : Value) : Array Value := #[.bool f, .int .i64 a, .int .i64 h.1, .string h.2, .int .i64 x.1, .string x.2, u, l]
abbrev prfV (p : PrfD) (u l : Value) : Value := .agg (prfC p.found p.at_ p.here p.ahead u l)
theorem blk8 {w : World} {b : Nat} {c0 c1 c2 c3 c4 c5 c6 c7 : Value} {T : TypeId} (h : w.heap[b]? = some (.cells #[c0, c1, c2, c3, c4, c5, c6, c7] T (0, 0))) : w.cell? ⟨b, 0, none⟩ = some c0 ∧ w.cell? ⟨b, 1, none⟩ = some c1 ∧ w.cell? ⟨b, 2, none⟩ = some c2 ∧ w.cell? ⟨b, 3, none⟩ = some c3 ∧ w.cell? ⟨b, 4, none⟩ = some c4 ∧ w.cell? ⟨b, 5, none⟩ = some c5 ∧ w.cell? ⟨b, 6, none⟩ = some c6 ∧ w.cell? ⟨b, 7, none⟩ = some c7 :=
  ⟨by rw [cell_of_row w b 0 _ _ _ h]; rfl, by rw [cell_of_row w b 1 _ _ _ h]; rfl, by rw [cell_of_row w b 2 _ _ _ h]; rfl, by rw [cell_of_row w b 3 _ _ _ h]; rfl, by rw [cell_of_row w b 4 _ _ _ h]; rfl, by rw [cell_of_row w b 5 _ _ _ h]; rfl, by rw [cell_of_row w b 6 _ _ _ h]; rfl, by rw [cell_of_row w b 7 _ _ _ h]; rfl⟩
theorem prf_one (f : Bool) (a h : Int) (hs : ByteArray) (x : Int) (xs : ByteArray) (ua : Option Addr) (un uc : Nat) (la : Option Addr) (ln lc : Nat) : (#[.bool f, .int .i64 a, .int .i64 h, .string hs, .int .i64 x, .string xs, .slice ua un uc, .slice la ln lc] : Array Value).all (fun v => v.oneCell') = true := by simp [Value.oneCell']
theorem leaf_one (h : Int) (hs : ByteArray) : (#[.int .i64 h, .string hs] : Array Value).all (fun v => v.oneCell') = true := by simp [Value.oneCell']
end Ks
namespace Go.Proofs.Ytelmcoedmkhkjaa
open Go.RowKit Ks
set_option linter.unusedVariables false
set_option maxRecDepth 100000 in
theorem close_any (x : LeafT) (lba : Int) (w : World) : Calls Try.prog 31 #[leafV x, .int .i64 lba] w fun e w' => e = .returned (.int .i64 (cmpZ x.1 lba)) ∧ Below w.heap.size w w' := by
  obtain ⟨n, s⟩ := x
  refine calls_by fun R HR => ?_
  obtain ⟨W1, hW1⟩ : ∃ W1, w.alloc (.cells #[.int .i64 n, .string s] 25) = W1 := ⟨_, rfl⟩
  have b1 : Below w.heap.size w W1 := by rw [← hW1]; exact alloc_below w _
  have n1 : W1.heap[w.heap.size]? = some (.cells #[.int .i64 n, .string s] 25 (0, 0)) := by rw [← hW1]; exact alloc_new w _
  have c0 : W1.cell? ⟨w.heap.size, 0, none⟩ = some (.int .i64 n) := by rw [cell_of_row W1 _ 0 _ _ _ n1]; rfl
  have H1 := Lib.hid b1
  have HC := Lib.hid (fun w => compare_any n lba w)
  clear b1 n1
  go_enter Try.func31, Try.ntmps31
  go_wp2_with fail
  refine (HC.out _).mono ?_
  rintro e w2 ⟨rfl, hw⟩
  rw [hw]
  clear hw
  go_wp2
  exact HR.out _ _ ⟨rfl, H1.out⟩
/-- the place among leaves -/
theorem find_any (v : Value) (l : List LeafT) (lba : Int) (w : World) (hl : Rd leafE w v l) (hlen : l.length ≤ 1000000) (hs : l.Pairwise fun a b => a.1 < b.1) :
    Calls Try.prog 30 #[v, .int .i64 lba, .func (.func 31) #[] #[]] w fun e w' => e = .returned (.tuple #[.int .i64 (aheadN lba l : Nat), .bool (metP l lba)]) ∧ Below w.heap.size w w' := by
  have hm : metLB (fun x => cmpZ x.1 lba) l (aheadN lba l) = metP l lba := by
    unfold metLB metP
    cases l[aheadN lba l]? with
    | none => rfl
    | some x =>
      show decide (cmpZ x.1 lba = 0) = decide (x.1 = lba)
      rw [decide_eq_decide]
      unfold cmpZ
      split
      · omega
      · split <;> omega
  rw [← hm]
  refine lsearch_any 31 #[] (fun _ _ => rfl) (fun x => cmpZ x.1 lba) v lba l (aheadN lba l) w hl hlen (ahead_le lba l) (fun i x hi hx => ?_) (fun i x hi hx => ?_) (fun x w' _ => close_any x lba w')
  · have := ahead_lt lba l i x hi hx
    show cmpZ x.1 lba < 0
    rw [cmpZ, if_pos this]; decide
  · have := ahead_ge (lba := lba) hs i x hi hx
    show ¬ cmpZ x.1 lba < 0
    rw [cmpZ, if_neg this]
    split <;> decide
set_option maxRecDepth 100000 in
set_option maxHeartbeats 4000000 in
theorem prove_no (lv : Value) (l : List LeafT) (lba : Int) (w : World) (hl : Rd leafE w lv l) (hlen : l.length ≤ 1000000) (h : ¬ (rightB l = true ∧ 0 ≤ lba ∧ lba < 4096)) :
    Calls Try.prog 11 #[lv, .int .i64 lba] w fun e w' => e = .returned (.tuple #[prfV noPrf (.slice none 0 0) (.slice none 0 0), .int .i64 2]) ∧ Below w.heap.size w w' := by
  refine calls_by fun R HR => ?_
  obtain ⟨W1, hW1⟩ : ∃ W1, w.alloc (.cells #[.bool false, .int .i64 0, .int .i64 0, .string ⟨#[]⟩, .int .i64 0, .string ⟨#[]⟩, .slice none 0 0, .slice none 0 0] 29) = W1 := ⟨_, rfl⟩
  have b1 : Below w.heap.size w W1 := by rw [← hW1]; exact alloc_below w _
  have n1 : W1.heap[w.heap.size]? = some (.cells #[.bool false, .int .i64 0, .int .i64 0, .string ⟨#[]⟩, .int .i64 0, .string ⟨#[]⟩, .slice none 0 0, .slice none 0 0] 29 (0, 0)) := by rw [← hW1]; exact alloc_new w _
  have HC := Lib.hid (right_any lv l W1 (hl.below b1) hlen)
  obtain ⟨a, cap, rfl, -, -⟩ := hl.shape
  have H1 := Lib.hid (And.intro b1 n1)
  by_cases hr : rightB l = true
  · rw [if_pos hr] at HC
    have hp := fun w => place_any lba w
    rw [decide_eq_false (fun q => h ⟨hr, q⟩)] at hp
    have HP := Lib.hid hp
    clear hp h hr hl b1 n1
    go_enter Try.func11, Try.ntmps11
    go_wp2_with fail
    refine HC.out.mono ?_
    rintro e w2 ⟨rfl, hb⟩
    have H2 := Lib.hid (And.intro (H1.out.1.trans (hb.mono H1.out.1.size)) (blk_on hb H1.out.2))
    clear hb hW1
    go_wp2_with fail
    refine (HP.out _).mono ?_
    rintro e w3 ⟨rfl, hw⟩
    rw [hw]
    clear hw
    go_wp2_with (refine wpList_store_blk rfl 29 (.tmp 4) (.tmp 20) rfl w.heap.size 0 8 rfl #[.bool false, .int .i64 0, .int .i64 0, .string ⟨#[]⟩, .int .i64 0, .string ⟨#[]⟩, .slice none 0 0, .slice none 0 0] #[.bool false, .int .i64 0, .int .i64 0, .string ⟨#[]⟩, .int .i64 0, .string ⟨#[]⟩, .slice none 0 0, .slice none 0 0] #[.bool false, .int .i64 0, .int .i64 0, .string ⟨#[]⟩, .int .i64 0, .string ⟨#[]⟩, .slice none 0 0, .slice none 0 0] rfl 29 H2.out.2 rfl (Nat.le_refl 8) (by kernel_rfl) (prf_one _ _ _ _ _ _ _ _ _ _ _ _) (splice_all _ _ rfl) ?_; rw [setRow_self _ _ _ _ _ H2.out.2])
    obtain ⟨z0, z1, z2, z3, z4, z5, z6, z7⟩ := blk8 H2.out.2
    refine bodyPost_ret (v := .tuple #[prfV noPrf (.slice none 0 0) (.slice none 0 0), .int .i64 2]) (by simp [results, Try.results11, go_sem, noPrf, noLeaf, z0, z1, z2, z3, z4, z5, z6, z7]) rfl ?_
    exact HR.out _ _ ⟨rfl, H2.out.1⟩
  · rw [if_neg hr] at HC
    clear h hr hl b1 n1
    go_enter Try.func11, Try.ntmps11
    go_wp2_with fail
    refine HC.out.mono ?_
    rintro e w2 ⟨rfl, hb⟩
    have H2 := Lib.hid (And.intro (H1.out.1.trans (hb.mono H1.out.1.size)) (blk_on hb H1.out.2))
    clear hb hW1
    go_wp2_with (refine wpList_store_blk rfl 29 (.tmp 4) (.tmp 20) rfl w.heap.size 0 8 rfl #[.bool false, .int .i64 0, .int .i64 0, .string ⟨#[]⟩, .int .i64 0, .string ⟨#[]⟩, .slice none 0 0, .slice none 0 0] #[.bool false, .int .i64 0, .int .i64 0, .string ⟨#[]⟩, .int .i64 0, .string ⟨#[]⟩, .slice none 0 0, .slice none 0 0] #[.bool false, .int .i64 0, .int .i64 0, .string ⟨#[]⟩, .int .i64 0, .string ⟨#[]⟩, .slice none 0 0, .slice none 0 0] rfl 29 H2.out.2 rfl (Nat.le_refl 8) (by kernel_rfl) (prf_one _ _ _ _ _ _ _ _ _ _ _ _) (splice_all _ _ rfl) ?_; rw [setRow_self _ _ _ _ _ H2.out.2])
    obtain ⟨z0, z1, z2, z3, z4, z5, z6, z7⟩ := blk8 H2.out.2
    refine bodyPost_ret (v := .tuple #[prfV noPrf (.slice none 0 0) (.slice none 0 0), .int .i64 2]) (by simp [results, Try.results11, go_sem, noPrf, noLeaf, z0, z1, z2, z3, z4, z5, z6, z7]) rfl ?_
    exact HR.out _ _ ⟨rfl, H2.out.1⟩
end Go.Proofs.Ytelmcoedmkhkjaa
/- The proof of a place: proof.Prove, where there is one. -/
namespace Ks
open Go Go.RowKit
set_option linter.unusedVariables false
theorem set8_6 {w : World} {n : Nat} {c0 c1 c2 c3 c4 c5 c6 c7 : Value} {T : TypeId} (u : Value) (h : w.heap[n]? = some (.cells #[c0, c1, c2, c3, c4, c5, c6, c7] T (0, 0))) : (w.setCell ⟨n, 6, none⟩ u).heap[n]? = some (.cells #[c0, c1, c2, c3, c4, c5, u, c7] T (0, 0)) := by
  simp [World.setCell, Array.getElem?_modify, h]
theorem set8_7 {w : World} {n : Nat} {c0 c1 c2 c3 c4 c5 c6 c7 : Value} {T : TypeId} (u : Value) (h : w.heap[n]? = some (.cells #[c0, c1, c2, c3, c4, c5, c6, c7] T (0, 0))) : (w.setCell ⟨n, 7, none⟩ u).heap[n]? = some (.cells #[c0, c1, c2, c3, c4, c5, c6, u] T (0, 0)) := by
  simp [World.setCell, Array.getElem?_modify, h]
theorem row_under (w : World) (b : Nat) (C : Array Value) : Below b w (w.setRow b C) := ⟨rfl, rfl, rfl, by simp, fun k hk => setRow_other w b k C (by omega)⟩
theorem cell_under (w : World) (b o : Nat) (u : Value) : Below b w (w.setCell ⟨b, o, none⟩ u) := (Below.refl b w).setCell (Nat.le_refl _) u
/-- a row of its own, behind a block that is turned -/
theorem Row.past {α : Type} {E : Enc α} {w w' : World} {B b : Nat} {T : TypeId} {v : Value} {l : List α} (h : Row E w B T v l) (hb : b < B) (hk : ∀ k, k ≠ b → w'.heap[k]? = w.heap[k]?) : Row E w' B T v l :=
  h.keep fun k e => hk k (by have := (h.lt e).1; omega)
end Ks
namespace Go.Proofs.Ytelmcoedmkhkjaa
open Go.RowKit Ks
set_option linter.unusedVariables false
theorem right_yes {lv : Value} {l : List LeafT} (hr : rightB l = true) (w : World) (hl : Rd leafE w lv l) (hlen : l.length ≤ 1000000) :
    Calls Try.prog 15 #[lv] w fun e w' => e = .returned (.int .i64 0) ∧ Below w.heap.size w w' := by
  have h := right_any lv l w hl hlen
  rwa [if_pos hr] at h
theorem place_yes {lba : Int} (h : 0 ≤ lba ∧ lba < 4096) (w : World) : Calls Try.prog 29 #[.int .i64 lba] w fun e w' => e = .returned (.bool true) ∧ w' = w := by
  have := place_any lba w
  rwa [decide_eq_true h] at this
theorem find_is {lba : Int} {l : List LeafT} {n : Nat} {m : Bool} (hn : aheadN lba l = n) (hm : metP l lba = m) (v : Value) (w : World) (hl : Rd leafE w v l) (hlen : l.length ≤ 1000000) (hs : l.Pairwise fun a b => a.1 < b.1) :
    Calls Try.prog 30 #[v, .int .i64 lba, .func (.func 31) #[] #[]] w fun e w' => e = .returned (.tuple #[.int .i64 (n : Nat), .bool m]) ∧ Below w.heap.size w w' := by
  have h := find_any v l lba w hl hlen hs
  rwa [hn, hm] at h
theorem path_at {l : List LeafT} {n : Nat} (h : n < l.length) (v : Value) (w : World) (hr : Rd strE w v (hashL l)) (hl : l.length ≤ 1000000) :
    Calls Try.prog 33 #[v, .int .i64 (n : Nat)] w fun e w' => ∃ v, e = .returned (.tuple #[v, .int .i64 0]) ∧ Row strE w' w.heap.size 9 v (pathL (hashL l) n) ∧ Below w.heap.size w w' := by
  have hc : wholeL (hashL l) = true ∧ (0 : Int) ≤ (n : Int) ∧ ((n : Nat) : Int) < (hashL l).length := ⟨hashL_whole l, by omega, by rw [hashL_length]; omega⟩
  have h2 := path_any v (hashL l) (n : Int) w hr (by rw [hashL_length]; omega)
  rw [pathE, pathV, if_pos hc, if_pos hc, Int.toNat_natCast] at h2
  exact h2
set_option maxRecDepth 100000 in
set_option maxHeartbeats 16000000 in
theorem prove_met (lv : Value) (l : List LeafT) (lba : Int) (w : World) (hl : Rd leafE w lv l) (hlen : l.length ≤ 1000000) (hr : rightB l = true) (hlb : 0 ≤ lba ∧ lba < 4096) (n : Nat) (hn : aheadN lba l = n) (hm : metP l lba = true) (hnn : n < l.length) (x : LeafT) (hx : l[n]? = some x) :
    Calls Try.prog 11 #[lv, .int .i64 lba] w fun e w' => ∃ u v, e = .returned (.tuple #[prfV (proveP l lba) u v, .int .i64 0]) ∧ Rd strE w' u (proveP l lba).up ∧ Rd strE w' v (proveP l lba).left ∧ Below w.heap.size w w' := by
  refine calls_by fun R HR => ?_
  have hsr := ((rightB_spec l).1 hr).2
  have HL := Lib.hid (And.intro hl (And.intro hlen hsr))
  have HCk := Lib.hid (fun w h => right_yes (lv := lv) hr w h hlen)
  have HPl := Lib.hid (place_yes hlb)
  have HFi := Lib.hid (fun w h => find_is hn hm lv w h hlen hsr)
  have HHs := Lib.hid (fun w h => hashes_any lv l w h hlen)
  have HP1 := Lib.hid (fun v w h => path_at (l := l) (n := n) hnn v w h hlen)
  obtain ⟨xl, xs⟩ := x
  have HV := Lib.hid (show proveP l lba = ⟨true, n, (xl, xs), noLeaf, pathL (hashL l) n, []⟩ by
    simp [proveP, hn, hm, hnn, here_some hx])
  obtain ⟨a, cap, rfl, hcap, -⟩ := hl.shape
  have hnl : n ≤ l.length := by rw [← hn]; exact ahead_le lba l
  clear hr hl hlb hm hn
  have hli : (l.length : Int) ≤ 1000000 := by omega
  have H1 := Lib.hid (And.intro (Below.refl w.heap.size w) (HL.out.1))
  obtain ⟨W1, hW1⟩ : ∃ W1, w.alloc (.cells #[.bool false, .int .i64 0, .int .i64 0, .string ⟨#[]⟩, .int .i64 0, .string ⟨#[]⟩, .slice none 0 0, .slice none 0 0] 29) = W1 := ⟨_, rfl⟩
  have hbW1 : Below w.heap.size w W1 := by rw [← hW1]; exact alloc_below w _
  have kW1 : W1.heap[w.heap.size]? = some (.cells #[.bool false, .int .i64 0, .int .i64 0, .string ⟨#[]⟩, .int .i64 0, .string ⟨#[]⟩, .slice none 0 0, .slice none 0 0] 29 (0, 0)) := by rw [← hW1]; exact alloc_new w _
  have H2 := Lib.hid (And.intro (H1.out.1.trans (hbW1.mono H1.out.1.size)) (And.intro (H1.out.2.below hbW1) (kW1)))
  clear hbW1 kW1
  go_enter Try.func11, Try.ntmps11
  go_wp2_with fail
  refine (HCk.out _ H2.out.2.1).mono ?_
  rintro en v1 ⟨rfl, hb⟩
  clear hW1
  have H3 := Lib.hid (And.intro (H2.out.1.trans (hb.mono H2.out.1.size)) (And.intro (H2.out.2.1.below hb) (blk_on hb H2.out.2.2)))
  clear hb
  go_wp2_with fail
  refine (HPl.out _).mono ?_
  rintro en v2 ⟨rfl, hw⟩
  rw [hw]
  clear hw
  go_wp2_with fail
  refine (HHs.out _ H3.out.2.1).mono ?_
  rintro en v3 ⟨tv, rfl, hrow, hb⟩
  obtain ⟨ta, tc, rfl, -⟩ := hrow.shape
  have H4 := Lib.hid (And.intro (H3.out.1.trans (hb.mono H3.out.1.size)) (And.intro (H3.out.2.1.below hb) (And.intro (blk_on hb H3.out.2.2) (hrow.rd))))
  clear hb
  clear hrow
  go_wp2_with fail
  refine (HFi.out _ H4.out.2.1).mono ?_
  rintro en v4 ⟨rfl, hb⟩
  have H5 := Lib.hid (And.intro (H4.out.1.trans (hb.mono H4.out.1.size)) (And.intro (H4.out.2.1.below hb) (And.intro (blk_on hb H4.out.2.2.1) (H4.out.2.2.2.below hb))))
  clear hb
  obtain ⟨pb, hpb⟩ : ∃ pb, v4.heap.size = pb := ⟨_, rfl⟩
  obtain ⟨P0, hP0⟩ : ∃ P0, v4.alloc (.cells #[.bool true, .int .i64 (n : Nat), .int .i64 0, .string ⟨#[]⟩, .int .i64 0, .string ⟨#[]⟩, .slice none 0 0, .slice none 0 0] 29) = P0 := ⟨_, rfl⟩
  have K0 := Lib.hid (show P0.heap[pb]? = some (.cells #[.bool true, .int .i64 (n : Nat), .int .i64 0, .string ⟨#[]⟩, .int .i64 0, .string ⟨#[]⟩, .slice none 0 0, .slice none 0 0] 29 (0, 0)) by rw [← hP0, ← hpb]; exact alloc_new v4 _)
  have B0 := Lib.hid (show Below pb v4 P0 by rw [← hP0, ← hpb]; exact alloc_below v4 _)
  have Z0 := Lib.hid (show pb < P0.heap.size from lt_of_block K0.out)
  have E0 := Lib.hid hP0
  clear hP0
  go_upto_region 7 with fail
  rw [E0.out]
  clear E0
  have hni : (n : Int) < (l.length : Int) := by omega
  obtain ⟨b, o, ha, hb0, dd⟩ := (H5.out.2.1.below (hpb ▸ B0.out)).at (n) _ hx
  subst ha
  have d0 : P0.cell? ⟨b, o + (n) * 2, none⟩ = some (.int .i64 xl) := dd 0 _ rfl
  have d1 : P0.cell? ⟨b, o + (n) * 2 + 1, none⟩ = some (.string xs) := dd 1 _ rfl
  clear dd hb0
  obtain ⟨P1, hP1⟩ : ∃ W, P0.setRow pb #[.bool true, .int .i64 (n : Nat), .int .i64 xl, .string xs, .int .i64 0, .string ⟨#[]⟩, .slice none 0 0, .slice none 0 0] = W := ⟨_, rfl⟩
  have K1 := Lib.hid (show P1.heap[pb]? = some (.cells #[.bool true, .int .i64 (n : Nat), .int .i64 xl, .string xs, .int .i64 0, .string ⟨#[]⟩, .slice none 0 0, .slice none 0 0] 29 (0, 0)) by rw [← hP1]; exact setRow_heap P0 pb _ _ _ _ K0.out)
  have B1 := Lib.hid (show Below pb v4 P1 by rw [← hP1]; exact B0.out.trans (row_under P0 pb _))
  go_wp2_with (refine wpList_store_blk rfl 25 (.tmp 40) (.tmp 39) rfl pb 2 2 rfl #[.bool true, .int .i64 (n : Nat), .int .i64 0, .string ⟨#[]⟩, .int .i64 0, .string ⟨#[]⟩, .slice none 0 0, .slice none 0 0] #[.int .i64 xl, .string xs] #[.bool true, .int .i64 (n : Nat), .int .i64 xl, .string xs, .int .i64 0, .string ⟨#[]⟩, .slice none 0 0, .slice none 0 0] rfl 29 K0.out rfl (show 2 + 2 ≤ 8 by decide) (by kernel_rfl) (leaf_one _ _) rfl ?_; rw [hP1])
  clear hP1 d0 d1
  refine (HP1.out _ _ (H5.out.2.2.2.below (hpb ▸ B1.out))).mono ?_
  rintro en q1 ⟨uv, rfl, hrow, hb⟩
  obtain ⟨ua, uc, rfl, -⟩ := hrow.shape
  have K2 := Lib.hid (blk_on hb K1.out)
  have B2 := Lib.hid (B1.out.trans (hb.mono (Nat.le_of_lt (lt_of_block K1.out))))
  have Ru2 := Lib.hid hrow
  have Zu := Lib.hid (show pb < P1.heap.size from lt_of_block K1.out)
  clear hb hrow
  have c6 : q1.cell? ⟨pb, 6, none⟩ = some (.slice none 0 0) := (blk8 K2.out).2.2.2.2.2.2.1
  have f6 : q1.frozen? ⟨pb, 6, none⟩ = false := frozen_of_row q1 pb _ _ _ K2.out
  obtain ⟨P3, hP3⟩ : ∃ W, q1.setCell ⟨pb, 6, none⟩ (.slice ua (pathL (hashL l) n).length uc) = W := ⟨_, rfl⟩
  have K3 := Lib.hid (show P3.heap[pb]? = some (.cells #[.bool true, .int .i64 (n : Nat), .int .i64 xl, .string xs, .int .i64 0, .string ⟨#[]⟩, .slice ua (pathL (hashL l) n).length uc, .slice none 0 0] 29 (0, 0)) by rw [← hP3]; exact set8_6 _ K2.out)
  have B3 := Lib.hid (show Below pb v4 P3 by rw [← hP3]; exact B2.out.trans (cell_under q1 pb _ _))
  have Ru3 := Lib.hid (show Row strE P3 P1.heap.size 9 (.slice ua (pathL (hashL l) n).length uc) (pathL (hashL l) n) from by rw [← hP3]; exact Ru2.out.past Zu.out (fun k h => set_ne _ h))
  go_upto_region 10 with fail
  try rw [hP3]
  clear hP3 c6 f6
  go_upto_region 13 with fail
  obtain ⟨z0, z1, z2, z3, z4, z5, z6, z7⟩ := blk8 K3.out
  have KR := Lib.hid (blk_on (hpb ▸ B3.out) H5.out.2.2.1)
  obtain ⟨WR, hWR⟩ : ∃ W, P3.setRow w.heap.size #[.bool true, .int .i64 (n : Nat), .int .i64 xl, .string xs, .int .i64 0, .string ⟨#[]⟩, .slice ua (pathL (hashL l) n).length uc, .slice none 0 0] = W := ⟨_, rfl⟩
  have KE := Lib.hid (show WR.heap[w.heap.size]? = some (.cells #[.bool true, .int .i64 (n : Nat), .int .i64 xl, .string xs, .int .i64 0, .string ⟨#[]⟩, .slice ua (pathL (hashL l) n).length uc, .slice none 0 0] 29 (0, 0)) by rw [← hWR]; exact setRow_heap P3 _ _ _ _ _ KR.out)
  have BE := Lib.hid (show Below w.heap.size w WR by rw [← hWR]; exact (H5.out.1.trans ((hpb ▸ B3.out : Below v4.heap.size v4 P3).mono H5.out.1.size)).trans (row_under P3 _ _))
  have hlw := H5.out.1.size
  have REu := Lib.hid (show Rd strE WR (.slice ua (pathL (hashL l) n).length uc) (pathL (hashL l) n) by rw [← hWR]; exact (Ru3.out.past (b := w.heap.size) (by have := Zu.out; omega) (fun k h => setRow_other _ _ k _ h)).rd)
  clear hlw
  go_wp2_with (refine wpList_store_blk rfl 29 (.tmp 4) (.tmp 68) rfl w.heap.size 0 8 rfl #[.bool false, .int .i64 0, .int .i64 0, .string ⟨#[]⟩, .int .i64 0, .string ⟨#[]⟩, .slice none 0 0, .slice none 0 0] #[.bool true, .int .i64 (n : Nat), .int .i64 xl, .string xs, .int .i64 0, .string ⟨#[]⟩, .slice ua (pathL (hashL l) n).length uc, .slice none 0 0] #[.bool true, .int .i64 (n : Nat), .int .i64 xl, .string xs, .int .i64 0, .string ⟨#[]⟩, .slice ua (pathL (hashL l) n).length uc, .slice none 0 0] rfl 29 KR.out rfl (Nat.le_refl 8) (by kernel_rfl) (prf_one _ _ _ _ _ _ _ _ _ _ _ _) (splice_all _ _ rfl) ?_; rw [hWR])
  clear hWR z0 z1 z2 z3 z4 z5 z6 z7
  obtain ⟨z0, z1, z2, z3, z4, z5, z6, z7⟩ := blk8 KE.out
  refine bodyPost_ret (v := .tuple #[.agg #[.bool true, .int .i64 (n : Nat), .int .i64 xl, .string xs, .int .i64 0, .string ⟨#[]⟩, .slice ua (pathL (hashL l) n).length uc, .slice none 0 0], .int .i64 0]) (by simp [results, Try.results11, go_sem, z0, z1, z2, z3, z4, z5, z6, z7]) rfl ?_
  exact HR.out _ _ ⟨.slice ua (pathL (hashL l) n).length uc, .slice none 0 0, by rw [HV.out]; try rfl, by rw [HV.out]; exact REu.out, by rw [HV.out]; exact Rd.nil _, BE.out⟩
set_option maxRecDepth 100000 in
set_option maxHeartbeats 16000000 in
theorem prove_nil (lv : Value) (l : List LeafT) (lba : Int) (w : World) (hl : Rd leafE w lv l) (hlen : l.length ≤ 1000000) (hr : rightB l = true) (hlb : 0 ≤ lba ∧ lba < 4096) (n : Nat) (hn : aheadN lba l = n) (hm : metP l lba = false) (hnn : ¬ n < l.length) (h0 : ¬ 0 < n) :
    Calls Try.prog 11 #[lv, .int .i64 lba] w fun e w' => ∃ u v, e = .returned (.tuple #[prfV (proveP l lba) u v, .int .i64 0]) ∧ Rd strE w' u (proveP l lba).up ∧ Rd strE w' v (proveP l lba).left ∧ Below w.heap.size w w' := by
  refine calls_by fun R HR => ?_
  have hsr := ((rightB_spec l).1 hr).2
  have HL := Lib.hid (And.intro hl (And.intro hlen hsr))
  have HCk := Lib.hid (fun w h => right_yes (lv := lv) hr w h hlen)
  have HPl := Lib.hid (place_yes hlb)
  have HFi := Lib.hid (fun w h => find_is hn hm lv w h hlen hsr)
  have HHs := Lib.hid (fun w h => hashes_any lv l w h hlen)
  have HV := Lib.hid (show proveP l lba = ⟨false, n, noLeaf, noLeaf, [], []⟩ by
    simp [proveP, hn, hm, here_none (show l.length ≤ n by omega), (show ¬ n < l.length by omega), (show ¬ 0 < n by omega)])
  obtain ⟨a, cap, rfl, hcap, -⟩ := hl.shape
  have hnl : n ≤ l.length := by rw [← hn]; exact ahead_le lba l
  clear hr hl hlb hm hn
  have hli : (l.length : Int) ≤ 1000000 := by omega
  have H1 := Lib.hid (And.intro (Below.refl w.heap.size w) (HL.out.1))
  obtain ⟨W1, hW1⟩ : ∃ W1, w.alloc (.cells #[.bool false, .int .i64 0, .int .i64 0, .string ⟨#[]⟩, .int .i64 0, .string ⟨#[]⟩, .slice none 0 0, .slice none 0 0] 29) = W1 := ⟨_, rfl⟩
  have hbW1 : Below w.heap.size w W1 := by rw [← hW1]; exact alloc_below w _
  have kW1 : W1.heap[w.heap.size]? = some (.cells #[.bool false, .int .i64 0, .int .i64 0, .string ⟨#[]⟩, .int .i64 0, .string ⟨#[]⟩, .slice none 0 0, .slice none 0 0] 29 (0, 0)) := by rw [← hW1]; exact alloc_new w _
  have H2 := Lib.hid (And.intro (H1.out.1.trans (hbW1.mono H1.out.1.size)) (And.intro (H1.out.2.below hbW1) (kW1)))
  clear hbW1 kW1
  go_enter Try.func11, Try.ntmps11
  go_wp2_with fail
  refine (HCk.out _ H2.out.2.1).mono ?_
  rintro en v1 ⟨rfl, hb⟩
  clear hW1
  have H3 := Lib.hid (And.intro (H2.out.1.trans (hb.mono H2.out.1.size)) (And.intro (H2.out.2.1.below hb) (blk_on hb H2.out.2.2)))
  clear hb
  go_wp2_with fail
  refine (HPl.out _).mono ?_
  rintro en v2 ⟨rfl, hw⟩
  rw [hw]
  clear hw
  go_wp2_with fail
  refine (HHs.out _ H3.out.2.1).mono ?_
  rintro en v3 ⟨tv, rfl, hrow, hb⟩
  obtain ⟨ta, tc, rfl, -⟩ := hrow.shape
  have H4 := Lib.hid (And.intro (H3.out.1.trans (hb.mono H3.out.1.size)) (And.intro (H3.out.2.1.below hb) (And.intro (blk_on hb H3.out.2.2) (hrow.rd))))
  clear hb
  clear hrow
  go_wp2_with fail
  refine (HFi.out _ H4.out.2.1).mono ?_
  rintro en v4 ⟨rfl, hb⟩
  have H5 := Lib.hid (And.intro (H4.out.1.trans (hb.mono H4.out.1.size)) (And.intro (H4.out.2.1.below hb) (And.intro (blk_on hb H4.out.2.2.1) (H4.out.2.2.2.below hb))))
  clear hb
  obtain ⟨pb, hpb⟩ : ∃ pb, v4.heap.size = pb := ⟨_, rfl⟩
  obtain ⟨P0, hP0⟩ : ∃ P0, v4.alloc (.cells #[.bool false, .int .i64 (n : Nat), .int .i64 0, .string ⟨#[]⟩, .int .i64 0, .string ⟨#[]⟩, .slice none 0 0, .slice none 0 0] 29) = P0 := ⟨_, rfl⟩
  have K0 := Lib.hid (show P0.heap[pb]? = some (.cells #[.bool false, .int .i64 (n : Nat), .int .i64 0, .string ⟨#[]⟩, .int .i64 0, .string ⟨#[]⟩, .slice none 0 0, .slice none 0 0] 29 (0, 0)) by rw [← hP0, ← hpb]; exact alloc_new v4 _)
  have B0 := Lib.hid (show Below pb v4 P0 by rw [← hP0, ← hpb]; exact alloc_below v4 _)
  have Z0 := Lib.hid (show pb < P0.heap.size from lt_of_block K0.out)
  have E0 := Lib.hid hP0
  clear hP0
  go_upto_region 7 with fail
  rw [E0.out]
  clear E0
  have hni : ¬ (n : Int) < (l.length : Int) := by omega
  go_upto_region 10 with fail
  have hn0 : ¬ (0 : Int) < (n : Int) := by omega
  go_upto_region 13 with fail
  obtain ⟨z0, z1, z2, z3, z4, z5, z6, z7⟩ := blk8 K0.out
  have KR := Lib.hid (blk_on (hpb ▸ B0.out) H5.out.2.2.1)
  obtain ⟨WR, hWR⟩ : ∃ W, P0.setRow w.heap.size #[.bool false, .int .i64 (n : Nat), .int .i64 0, .string ⟨#[]⟩, .int .i64 0, .string ⟨#[]⟩, .slice none 0 0, .slice none 0 0] = W := ⟨_, rfl⟩
  have KE := Lib.hid (show WR.heap[w.heap.size]? = some (.cells #[.bool false, .int .i64 (n : Nat), .int .i64 0, .string ⟨#[]⟩, .int .i64 0, .string ⟨#[]⟩, .slice none 0 0, .slice none 0 0] 29 (0, 0)) by rw [← hWR]; exact setRow_heap P0 _ _ _ _ _ KR.out)
  have BE := Lib.hid (show Below w.heap.size w WR by rw [← hWR]; exact (H5.out.1.trans ((hpb ▸ B0.out : Below v4.heap.size v4 P0).mono H5.out.1.size)).trans (row_under P0 _ _))
  have hlw := H5.out.1.size
  clear hlw
  go_wp2_with (refine wpList_store_blk rfl 29 (.tmp 4) (.tmp 68) rfl w.heap.size 0 8 rfl #[.bool false, .int .i64 0, .int .i64 0, .string ⟨#[]⟩, .int .i64 0, .string ⟨#[]⟩, .slice none 0 0, .slice none 0 0] #[.bool false, .int .i64 (n : Nat), .int .i64 0, .string ⟨#[]⟩, .int .i64 0, .string ⟨#[]⟩, .slice none 0 0, .slice none 0 0] #[.bool false, .int .i64 (n : Nat), .int .i64 0, .string ⟨#[]⟩, .int .i64 0, .string ⟨#[]⟩, .slice none 0 0, .slice none 0 0] rfl 29 KR.out rfl (Nat.le_refl 8) (by kernel_rfl) (prf_one _ _ _ _ _ _ _ _ _ _ _ _) (splice_all _ _ rfl) ?_; rw [hWR])
  clear hWR z0 z1 z2 z3 z4 z5 z6 z7
  obtain ⟨z0, z1, z2, z3, z4, z5, z6, z7⟩ := blk8 KE.out
  refine bodyPost_ret (v := .tuple #[.agg #[.bool false, .int .i64 (n : Nat), .int .i64 0, .string ⟨#[]⟩, .int .i64 0, .string ⟨#[]⟩, .slice none 0 0, .slice none 0 0], .int .i64 0]) (by simp [results, Try.results11, go_sem, z0, z1, z2, z3, z4, z5, z6, z7]) rfl ?_
  exact HR.out _ _ ⟨.slice none 0 0, .slice none 0 0, by rw [HV.out]; try rfl, by rw [HV.out]; exact Rd.nil _, by rw [HV.out]; exact Rd.nil _, BE.out⟩
end Go.Proofs.Ytelmcoedmkhkjaa
