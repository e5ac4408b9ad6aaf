/- Texts that the claim rests on, part 8: MerkleClash, ProofTell, ProofSearch, CmpInt, ProofProve, ProofLeads, ProofFound, ProofNone. -/
import Derived.BigQuiet
import Derived.Test.YtdbabkkmdlkjaaaProg
import Derived.Deep.LoopGhost
import Derived.Deep.QuietTactic
import Derived.Laws.EntriesVeiled
import Derived.Test.YtdbabkkmdlkjaaaM7
/- Trees of hashes: what two paths that lead two leaves to one root tell. -/
namespace Ks
open Go Go.RowKit
set_option linter.unusedVariables false
theorem climb_sizes (m : Nat) : ∀ (n i : Nat) (x : ByteArray) (ps : List ByteArray) (r : List StepG × ByteArray × List ByteArray), x.size = 32 → wholeL ps = true → climbO m n i x ps = some r → ∀ s ∈ r.1, s.a.size ≤ 32 ∧ s.b.size ≤ 32 := by
  induction m with
  | zero =>
    intro n i x ps r hx hp h s hs
    simp only [climbO, Option.some.injEq] at h
    subst h
    simp at hs
  | succ m ih =>
    intro n i x ps r hx hp h s hs
    by_cases h1 : n ≤ 1
    · rw [climb_low h1] at h
      simp only [Option.some.injEq] at h
      subst h
      simp at hs
    · cases hd : dirN n i with
      | none =>
        rw [climb_none h1 hd] at h
        simp only [Option.map_eq_some_iff] at h
        obtain ⟨q, e, rfl⟩ := h
        rcases List.mem_cons.1 hs with rfl | hs
        · exact ⟨by show 0 ≤ 32; omega, by show 0 ≤ 32; omega⟩
        · exact ih _ _ _ _ q hx hp e s hs
      | some d =>
        match ps, hp, h with
        | [], _, h => rw [climb_nil h1 hd] at h; cases h
        | p :: ps, hp, h =>
          rw [climb_some h1 hd] at h
          simp only [Option.map_eq_some_iff] at h
          obtain ⟨q, e, rfl⟩ := h
          simp only [wholeL, List.all_cons, Bool.and_eq_true, beq_iff_eq] at hp
          rcases List.mem_cons.1 hs with rfl | hs
          · cases d <;> simp [pairS] <;> omega
          · exact ih _ _ _ _ q (nodeS_size _ _) hp.2 e s hs
theorem climb_steps (m : Nat) : ∀ (n i : Nat) (x : ByteArray) (ps : List ByteArray) (r : List StepG × ByteArray × List ByteArray), climbO m n i x ps = some r → r.1.length ≤ m := by
  induction m with
  | zero =>
    intro n i x ps r h
    simp only [climbO, Option.some.injEq] at h
    subst h
    exact Nat.le_refl _
  | succ m ih =>
    intro n i x ps r h
    by_cases h1 : n ≤ 1
    · rw [climb_low h1] at h
      simp only [Option.some.injEq] at h
      subst h
      exact Nat.zero_le _
    · cases hd : dirN n i with
      | none =>
        rw [climb_none h1 hd] at h
        simp only [Option.map_eq_some_iff] at h
        obtain ⟨q, e, rfl⟩ := h
        exact Nat.succ_le_succ (ih _ _ _ _ q e)
      | some d =>
        match ps, h with
        | [], h => rw [climb_nil h1 hd] at h; cases h
        | p :: ps, h =>
          rw [climb_some h1 hd] at h
          simp only [Option.map_eq_some_iff] at h
          obtain ⟨q, e, rfl⟩ := h
          exact Nat.succ_le_succ (ih _ _ _ _ q e)
/-- two unlike texts of one sum -/
def Unlike (a b : ByteArray) : Prop := a ≠ b ∧ shaS a.data.toList = shaS b.data.toList ∧ a.size ≤ 1000 ∧ b.size ≤ 1000
theorem clash_step (st su : List StepG) (k : Nat) (S T : StepG) (h : clashL (st.drop k) (su.drop k) = some (S, T)) (h1 : k < st.length) (h2 : k < su.length) :
    (clashes st[k] su[k] = true ∧ S = st[k] ∧ T = su[k]) ∨ (clashes st[k] su[k] = false ∧ clashL (st.drop (k + 1)) (su.drop (k + 1)) = some (S, T)) := by
  rw [List.drop_eq_getElem_cons h1, List.drop_eq_getElem_cons h2, clashL] at h
  cases hc : clashes st[k] su[k]
  · rw [hc] at h; exact .inr ⟨rfl, h⟩
  · rw [hc] at h
    simp only [if_true, Option.some.injEq, Prod.mk.injEq] at h
    exact .inl ⟨rfl, h.1.symm, h.2.symm⟩
theorem clash_end (st su : List StepG) (S T : StepG) (h : clashL (st.drop st.length) (su.drop st.length) = some (S, T)) : False := by
  rw [List.drop_length] at h
  simp [clashL] at h
/-- how it goes on at a level -/
theorem clash_ways (s t : StepG) : (s.a = ⟨#[]⟩ ∧ clashes s t = false) ∨ (s.a ≠ ⟨#[]⟩ ∧ s.a = t.a ∧ s.b = t.b ∧ clashes s t = false) ∨
    (s.a ≠ ⟨#[]⟩ ∧ s.a ≠ t.a ∧ ((nodeS s.a s.b = nodeS t.a t.b ∧ clashes s t = true) ∨ (nodeS s.a s.b ≠ nodeS t.a t.b ∧ clashes s t = false))) ∨
    (s.a ≠ ⟨#[]⟩ ∧ s.a = t.a ∧ s.b ≠ t.b ∧ ((nodeS s.a s.b = nodeS t.a t.b ∧ clashes s t = true) ∨ (nodeS s.a s.b ≠ nodeS t.a t.b ∧ clashes s t = false))) := by
  unfold clashes
  by_cases h0 : s.a = ⟨#[]⟩
  · exact .inl ⟨h0, by simp [h0]⟩
  · by_cases h1 : s.a = t.a
    · by_cases h2 : s.b = t.b
      · exact .inr (.inl ⟨h0, h1, h2, by simp [h1, h2]⟩)
      · refine .inr (.inr (.inr ⟨h0, h1, h2, ?_⟩))
        by_cases h3 : nodeS s.a s.b = nodeS t.a t.b
        · exact .inl ⟨h3, decide_eq_true ⟨h0, .inr h2, h3⟩⟩
        · exact .inr ⟨h3, decide_eq_false fun h => h3 h.2.2⟩
    · refine .inr (.inr (.inl ⟨h0, h1, ?_⟩))
      by_cases h3 : nodeS s.a s.b = nodeS t.a t.b
      · exact .inl ⟨h3, decide_eq_true ⟨h0, .inl h1, h3⟩⟩
      · exact .inr ⟨h3, decide_eq_false fun h => h3 h.2.2⟩
end Ks
namespace Go.Proofs.Ytdbabkkmdlkjaaa
open Go.RowKit Ks
set_option linter.unusedVariables false
/-- the two paths clash -/
theorem clash_plain (l : List ByteArray) (j : Nat) (y x : ByteArray) (ps : List ByteArray) (hw : wholeL l = true) (hy : l[j]? = some y) (hn : l.length ≤ 1048576) (hne : x ≠ y) (his : isV (rootL l) l.length j x ps = true) :
    x.size = 32 ∧ y.size = 32 ∧ wholeL ps = true ∧ wholeL (pathL l j) = true ∧ ∃ st su S T, climbO 20 l.length j y (pathL l j) = some (st, rootL l, []) ∧ climbO 20 l.length j x ps = some (su, rootL l, []) ∧ st.length = su.length ∧ clashL st su = some (S, T) ∧
      Unlike (insideS S.a S.b) (insideS T.a T.b) ∧ (∀ s ∈ st, s.a.size ≤ 32 ∧ s.b.size ≤ 32) ∧ (∀ s ∈ su, s.a.size ≤ 32 ∧ s.b.size ≤ 32) := by
  have hj : j < l.length := (List.getElem?_eq_some_iff.1 hy).1
  have hz := whole_get hw j y hy
  obtain ⟨p1, p2⟩ := path_leads l.length l j y rfl hy
  obtain ⟨q1, -⟩ := path_whole l.length l j rfl hw hj
  have hb : ¬ ((l.length : Int) < 1 ∨ 1048576 < (l.length : Int) ∨ (j : Int) < 0 ∨ (l.length : Int) ≤ (j : Int)) := by omega
  have hx : x.size = 32 ∧ wholeL ps = true ∧ ps.length = (sidesH l.length j).length ∧ upS l.length j x ps = rootL l := by
    unfold isV at his
    have his := of_decide_eq_true his
    by_cases h2 : x.size = 32 ∧ wholeL ps = true ∧ ps.length = (sidesH (l.length : Int).toNat (j : Int).toNat).length
    · have hv := up_yes hb h2
      rw [hv.1, hv.2, Int.toNat_natCast, Int.toNat_natCast] at his
      rw [Int.toNat_natCast, Int.toNat_natCast] at h2
      exact ⟨h2.1, h2.2.1, h2.2.2, his.2⟩
    · have hv := up_no (x := x) (ps := ps) hb h2
      rw [hv.2] at his
      cases his.1
  obtain ⟨hx1, hx2, hx3, hx4⟩ := hx
  have c1 : ∃ st, climbO 20 l.length j y (pathL l j) = some (st, rootL l, []) := by
    rcases climb_twenty l.length j y (pathL l j) hj hn with ⟨h, _⟩ | ⟨_, st, h⟩
    · omega
    · exact ⟨st, by rw [h, p1, List.drop_of_length_le (by omega)]⟩
  have c2 : ∃ su, climbO 20 l.length j x ps = some (su, rootL l, []) := by
    rcases climb_twenty l.length j x ps hj hn with ⟨h, _⟩ | ⟨_, st, h⟩
    · omega
    · exact ⟨st, by rw [h, hx4, List.drop_of_length_le (by omega)]⟩
  obtain ⟨st, c1⟩ := c1
  obtain ⟨su, c2⟩ := c2
  obtain ⟨d1, d2, d3⟩ := clash_there 20 l.length j y x (pathL l j) ps st su (rootL l) [] [] hn hz hx1 q1 hx2 c1 c2
  obtain ⟨S, T, e⟩ := d2 (Ne.symm hne)
  obtain ⟨f1, f2, f3, f4⟩ := d3 S T e
  have f4 : T.a.size = 32 ∧ T.b.size = 32 := f4.elim id False.elim
  refine ⟨hx1, hz, hx2, q1, st, su, S, T, c1, c2, d1, e, ⟨fun h => ?_, ?_, ?_, ?_⟩, climb_sizes 20 _ _ _ _ _ hz q1 c1, climb_sizes 20 _ _ _ _ _ hx1 hx2 c2⟩
  · have := of_decide_eq_true f1
    obtain ⟨g1, g2⟩ := inside_inj (by omega) h
    rcases this.2.1 with h | h
    · exact h g1
    · exact h g2
  · have := of_decide_eq_true f1
    exact this.2.2
  · rw [inside_size]; omega
  · rw [inside_size]; omega
end Go.Proofs.Ytdbabkkmdlkjaaa
/- What a proof tells: plain. No program's text is in sight. -/
namespace Ks
open Go Go.RowKit Go.Proofs.Ytdbabkkmdlkjaaa
set_option linter.unusedVariables false
theorem own_is (l : List ByteArray) (j : Nat) (x : ByteArray) (hw : wholeL l = true) (hx : l[j]? = some x) (hn : l.length ≤ 1048576) (hz : x.size = 32) : isV (rootL l) l.length j x (pathL l j) = true := by
  have hj : j < l.length := (List.getElem?_eq_some_iff.1 hx).1
  obtain ⟨p1, p2⟩ := path_leads l.length l j x rfl hx
  obtain ⟨q1, -⟩ := path_whole l.length l j rfl hw hj
  have hb : ¬ ((l.length : Int) < 1 ∨ 1048576 < (l.length : Int) ∨ (j : Int) < 0 ∨ (l.length : Int) ≤ (j : Int)) := by omega
  have hv := up_yes (c := (l.length : Int)) (i := (j : Int)) (x := x) (ps := pathL l j) hb ⟨hz, q1, by rw [Int.toNat_natCast, Int.toNat_natCast]; exact p2⟩
  rw [isV, hv.1, hv.2, Int.toNat_natCast, Int.toNat_natCast, p1]
  simp
def leadsB (root : ByteArray) (count i : Int) (x : LeafT) (path : List ByteArray) : Bool := decide (mayLeaf x) && isV root count i (hashS x) path
def emptyB (x : LeafT) (path : List ByteArray) : Bool := decide (x = noLeaf ∧ path.length = 0)
def foundB (root : ByteArray) (count lba : Int) (p : PrfD) : Bool := decide (p.at_ < count ∧ p.here.1 = lba) && emptyB p.ahead p.left && leadsB root count p.at_ p.here p.up
def besideB (root : ByteArray) (count : Int) (is : Bool) (i : Int) (x : LeafT) (path : List ByteArray) (may : Bool) : Bool := if is then may && leadsB root count i x path else emptyB x path
def noneB (root : ByteArray) (count lba : Int) (p : PrfD) : Bool :=
  !(decide (count = 0 ∧ root ≠ sha1 [])) && besideB root count (decide (p.at_ < count)) p.at_ p.here p.up (decide (lba < p.here.1)) && besideB root count (decide (0 < p.at_)) (p.at_ - 1) p.ahead p.left (decide (p.ahead.1 < lba))
def badAsk (count lba : Int) : Prop := count < 0 ∨ 4096 < count ∨ lba < 0 ∨ 4096 ≤ lba
instance (count lba : Int) : Decidable (badAsk count lba) := by unfold badAsk; infer_instance
/-- what a proof tells: the hash, whether there is one, the error's number -/
def tellsP (root : ByteArray) (count lba : Int) (p : PrfD) : ByteArray × Bool × Int :=
  if badAsk count lba then (⟨#[]⟩, false, 2)
  else if p.at_ < 0 ∨ count < p.at_ then (⟨#[]⟩, false, 17)
  else if p.found = true then (if foundB root count lba p = true then (p.here.2, true, 0) else (⟨#[]⟩, false, 17))
  else if noneB root count lba p = true then (⟨#[]⟩, false, 0) else (⟨#[]⟩, false, 17)
theorem tells_ok {root : ByteArray} {count lba : Int} {p : PrfD} (h : (tellsP root count lba p).2.2 = 0) :
    ¬ badAsk count lba ∧ 0 ≤ p.at_ ∧ p.at_ ≤ count ∧ ((p.found = true ∧ foundB root count lba p = true ∧ tellsP root count lba p = (p.here.2, true, 0)) ∨ (p.found = false ∧ noneB root count lba p = true ∧ tellsP root count lba p = (⟨#[]⟩, false, 0))) := by
  by_cases h1 : badAsk count lba
  · rw [tellsP, if_pos h1] at h; cases h
  · by_cases h2 : p.at_ < 0 ∨ count < p.at_
    · rw [tellsP, if_neg h1, if_pos h2] at h; cases h
    · refine ⟨h1, by omega, by omega, ?_⟩
      by_cases h3 : p.found = true
      · by_cases h4 : foundB root count lba p = true
        · exact Or.inl ⟨h3, h4, by rw [tellsP, if_neg h1, if_neg h2, if_pos h3, if_pos h4]⟩
        · rw [tellsP, if_neg h1, if_neg h2, if_pos h3, if_neg h4] at h; cases h
      · by_cases h4 : noneB root count lba p = true
        · exact Or.inr ⟨by simpa using h3, h4, by rw [tellsP, if_neg h1, if_neg h2, if_neg h3, if_pos h4]⟩
        · rw [tellsP, if_neg h1, if_neg h2, if_neg h3, if_neg h4] at h; cases h
theorem own_leads {l : List LeafT} {i : Nat} {x : LeafT} (hr : rightB l = true) (hx : l[i]? = some x) (hn : l.length ≤ 1048576) : leadsB (rootL (hashL l)) l.length i x (pathL (hashL l) i) = true := by
  have hm := ((rightB_spec l).1 hr).1 x (List.mem_of_getElem? hx)
  have h := own_is (hashL l) i (hashS x) (hashL_whole l) (by rw [hashL, List.getElem?_map, hx]; rfl) (by rw [hashL_length]; exact hn) (hashS_size x)
  rw [hashL_length] at h
  rw [leadsB, h, decide_eq_true hm]; rfl
theorem here_some {l : List LeafT} {n : Nat} {x : LeafT} (h : l[n]? = some x) : hereOf l n = x := by rw [hereOf, h]; rfl
theorem here_none {l : List LeafT} {n : Nat} (h : l.length ≤ n) : hereOf l n = noLeaf := by rw [hereOf, List.getElem?_eq_none h]; rfl
/-- what is proved is told -/
theorem prove_told {l : List LeafT} {lba : Int} (hr : rightB l = true) (hn : l.length ≤ 4096) (h0 : 0 ≤ lba) (h1 : lba < 4096) : tellsP (rootL (hashL l)) l.length lba (proveP l lba) = ((wantP l lba).1, (wantP l lba).2, 0) := by
  obtain ⟨hm, hs⟩ := (rightB_spec l).1 hr
  have hle := ahead_le lba l
  rw [tellsP, if_neg (by unfold badAsk; omega), if_neg (by show ¬ ((aheadN lba l : Int) < 0 ∨ (l.length : Int) < (aheadN lba l : Int)); omega)]
  by_cases hf : metP l lba = true
  · rw [if_pos (show (proveP l lba).found = true from hf)]
    obtain ⟨x, hx, he⟩ : ∃ x, l[aheadN lba l]? = some x ∧ x.1 = lba := by
      unfold metP at hf
      cases hc : l[aheadN lba l]? with
      | none => rw [hc] at hf; cases hf
      | some x => rw [hc] at hf; exact ⟨x, rfl, by simpa using hf⟩
    have hlt : aheadN lba l < l.length := (List.getElem?_eq_some_iff.1 hx).1
    have hF : foundB (rootL (hashL l)) l.length lba (proveP l lba) = true := by
      have e1 : (proveP l lba).at_ = (aheadN lba l : Int) := rfl
      have e2 : (proveP l lba).here = x := here_some hx
      have e3 : (proveP l lba).ahead = noLeaf := if_neg (fun h => by rw [hf] at h; cases h.1)
      have e4 : (proveP l lba).left = [] := if_neg (fun h => by rw [hf] at h; cases h.1)
      have e5 : (proveP l lba).up = pathL (hashL l) (aheadN lba l) := if_pos hlt
      rw [foundB, e1, e2, e3, e4, e5, own_leads hr hx (by omega), decide_eq_true ⟨by omega, he⟩, emptyB, decide_eq_true ⟨rfl, rfl⟩]; rfl
    rw [if_pos hF, want_some l lba hs _ x hx he]
    have e2 : (proveP l lba).here = x := here_some hx
    show ((proveP l lba).here.2, true, (0 : Int)) = (x.2, true, 0)
    rw [e2]
  · rw [if_neg (show ¬ (proveP l lba).found = true from hf)]
    have hf' : metP l lba = false := by simpa using hf
    have hne : ∀ x, l[aheadN lba l]? = some x → x.1 ≠ lba := fun x hx he => hf (by unfold metP; rw [hx]; simpa using he)
    have hw : wantP l lba = (⟨#[]⟩, false) := by
      refine want_none l lba fun x hx => ?_
      obtain ⟨i, hi⟩ := List.mem_iff_getElem?.1 hx
      rcases Nat.lt_trichotomy i (aheadN lba l) with h | h | h
      · have := ahead_lt lba l i x h hi; omega
      · subst h; exact hne x hi
      · have h2 : i < l.length := (List.getElem?_eq_some_iff.1 hi).1
        obtain ⟨y, hy⟩ : ∃ y, l[aheadN lba l]? = some y := ⟨_, List.getElem?_eq_getElem (by omega)⟩
        have q1 := ahead_at lba l y hy
        have q2 := right_sorted hs h hy hi
        omega
    have e1 : (proveP l lba).at_ = (aheadN lba l : Int) := rfl
    have hN : noneB (rootL (hashL l)) l.length lba (proveP l lba) = true := by
      have g0 : (!(decide ((l.length : Int) = 0 ∧ rootL (hashL l) ≠ sha1 []))) = true := by
        rw [decide_eq_false]; rfl
        rintro ⟨q1, q2⟩
        have : l = [] := List.length_eq_zero_iff.1 (by omega)
        subst this
        exact q2 root_nil
      have g1 : besideB (rootL (hashL l)) l.length (decide ((aheadN lba l : Int) < l.length)) (aheadN lba l : Int) (proveP l lba).here (proveP l lba).up (decide (lba < (proveP l lba).here.1)) = true := by
        by_cases h : aheadN lba l < l.length
        · obtain ⟨x, hx⟩ : ∃ x, l[aheadN lba l]? = some x := ⟨_, List.getElem?_eq_getElem h⟩
          have e2 : (proveP l lba).here = x := here_some hx
          have e5 : (proveP l lba).up = pathL (hashL l) (aheadN lba l) := if_pos h
          have q1 := ahead_at lba l x hx
          have q2 := hne x hx
          rw [besideB, decide_eq_true (by omega : (aheadN lba l : Int) < l.length), e2, e5, own_leads hr hx (by omega), decide_eq_true (by omega : lba < x.1)]; rfl
        · have e2 : (proveP l lba).here = noLeaf := here_none (by omega)
          have e5 : (proveP l lba).up = [] := if_neg h
          rw [besideB, decide_eq_false (by omega : ¬ (aheadN lba l : Int) < l.length), e2, e5, emptyB]
          exact decide_eq_true (⟨rfl, rfl⟩ : noLeaf = noLeaf ∧ ([] : List ByteArray).length = 0)
      have g2 : besideB (rootL (hashL l)) l.length (decide (0 < (aheadN lba l : Int))) ((aheadN lba l : Int) - 1) (proveP l lba).ahead (proveP l lba).left (decide ((proveP l lba).ahead.1 < lba)) = true := by
        by_cases h : 0 < aheadN lba l
        · obtain ⟨x, hx⟩ : ∃ x, l[aheadN lba l - 1]? = some x := ⟨_, List.getElem?_eq_getElem (by omega)⟩
          have e3 : (proveP l lba).ahead = x := (if_pos ⟨hf', h⟩).trans (here_some hx)
          have e4 : (proveP l lba).left = pathL (hashL l) (aheadN lba l - 1) := if_pos ⟨hf', h⟩
          have q1 := ahead_lt lba l _ x (by omega) hx
          rw [besideB, decide_eq_true (by omega : 0 < (aheadN lba l : Int)), e3, e4, show ((aheadN lba l : Int) - 1) = ((aheadN lba l - 1 : Nat) : Int) by omega, own_leads hr hx (by omega), decide_eq_true q1]; rfl
        · have e3 : (proveP l lba).ahead = noLeaf := if_neg fun q => h q.2
          have e4 : (proveP l lba).left = [] := if_neg fun q => h q.2
          rw [besideB, decide_eq_false (by omega : ¬ 0 < (aheadN lba l : Int)), e3, e4, emptyB]
          exact decide_eq_true (⟨rfl, rfl⟩ : noLeaf = noLeaf ∧ ([] : List ByteArray).length = 0)
      rw [noneB, e1, g0, g1, g2]; rfl
    rw [if_pos hN, hw]
/-- a leaf stands proved at a place at which there is another one -/
def otherP (l : List LeafT) (i : Int) (x : LeafT) (path : List ByteArray) : Prop :=
  0 ≤ i ∧ i < l.length ∧ l[i.toNat]? ≠ some x ∧ ((∃ y, l[i.toNat]? = some y ∧ hashS y = hashS x) ∨ isV (rootL (hashL l)) l.length i (hashS x) path = true)
theorem lead_parts {root : ByteArray} {c i : Int} {x : LeafT} {path : List ByteArray} (h : leadsB root c i x path = true) : mayLeaf x ∧ isV root c i (hashS x) path = true := by
  rw [leadsB, Bool.and_eq_true, decide_eq_true_iff] at h
  exact h
/-- who tells what is not so proves a leaf where there is another one -/
theorem told_other {l : List LeafT} {lba : Int} {p : PrfD} (hr : rightB l = true) (h : (tellsP (rootL (hashL l)) l.length lba p).2.2 = 0)
    (hne : ¬ ((tellsP (rootL (hashL l)) l.length lba p).1 = (wantP l lba).1 ∧ (tellsP (rootL (hashL l)) l.length lba p).2.1 = (wantP l lba).2)) : otherP l p.at_ p.here p.up ∨ otherP l (p.at_ - 1) p.ahead p.left := by
  obtain ⟨hm, hs⟩ := (rightB_spec l).1 hr
  obtain ⟨-, h0, h1, h2⟩ := tells_ok h
  obtain ⟨k, hk⟩ : ∃ k : Nat, p.at_ = k := ⟨p.at_.toNat, by omega⟩
  rcases h2 with ⟨-, hF, he⟩ | ⟨-, hN, he⟩
  · rw [he] at hne
    rw [foundB, Bool.and_eq_true, Bool.and_eq_true, decide_eq_true_iff] at hF
    obtain ⟨⟨⟨f1, f2⟩, -⟩, f3⟩ := hF
    left
    refine ⟨h0, f1, fun hx => hne ?_, Or.inr (lead_parts f3).2⟩
    rw [want_some l lba hs _ _ hx f2]
    exact ⟨rfl, rfl⟩
  · rw [he] at hne
    rw [noneB, Bool.and_eq_true, Bool.and_eq_true] at hN
    obtain ⟨⟨-, g1⟩, g2⟩ := hN
    refine Classical.byContradiction fun hno => hne ?_
    have hw : wantP l lba = (⟨#[]⟩, false) := by
      refine want_none l lba fun x hx e => ?_
      obtain ⟨i, hi⟩ := List.mem_iff_getElem?.1 hx
      have hil : i < l.length := (List.getElem?_eq_some_iff.1 hi).1
      rcases Nat.lt_or_ge i k with hik | hik
      · -- ahead of it
        rw [besideB, decide_eq_true (by omega : 0 < p.at_), if_pos rfl, Bool.and_eq_true, decide_eq_true_iff] at g2
        have hy : l[(p.at_ - 1).toNat]? = some p.ahead := Classical.byContradiction fun hy => hno (Or.inr ⟨by omega, by omega, hy, Or.inr (lead_parts g2.2).2⟩)
        have hlt := g2.1
        rcases Nat.lt_or_ge i (p.at_ - 1).toNat with h3 | h3
        · have := right_sorted hs h3 hi hy; omega
        · obtain rfl : i = (p.at_ - 1).toNat := by omega
          rw [hi] at hy; cases hy; omega
      · rw [besideB, decide_eq_true (by omega : p.at_ < l.length), if_pos rfl, Bool.and_eq_true, decide_eq_true_iff] at g1
        have hy : l[p.at_.toNat]? = some p.here := Classical.byContradiction fun hy => hno (Or.inl ⟨by omega, by omega, hy, Or.inr (lead_parts g1.2).2⟩)
        have hlt := g1.1
        rcases Nat.lt_or_ge p.at_.toNat i with h3 | h3
        · have := right_sorted hs h3 hy hi; omega
        · obtain rfl : i = p.at_.toNat := by omega
          rw [hi] at hy; cases hy; omega
    rw [hw]
    exact ⟨rfl, rfl⟩
end Ks
/- A binary search among leaves for a place. -/
namespace Ks
def metLB (c : LeafT → Int) (L : List LeafT) (p : Nat) : Bool := match L[p]? with | some x => decide (c x = 0) | none => false
end Ks
namespace Go.Proofs.Ytdbabkkmdlkjaaa
open Go.RowKit Ks
set_option linter.unusedVariables false

set_option maxHeartbeats 2000000 in
theorem lsearch_any (g : Nat) (lb : Array Value) (eg : ∀ args w, (callFunc g args).run Try.prog w = .ok (.enter g args) w) (c : LeafT → Int) (v : Value) (t : Int) (L : List LeafT) (p : Nat) (w : World) (hl : Rd leafE w v L) (hlen : L.length ≤ 1000000) (hp : p ≤ L.length)
    (h1 : ∀ i x, i < p → L[i]? = some x → c x < 0) (h2 : ∀ i x, p ≤ i → L[i]? = some x → ¬ c x < 0)
    (hc : ∀ x w', Below w.heap.size w w' → Calls Try.prog g (#[leafV x, (.int .i64 t)] ++ lb) w' fun e w'' => e = .returned (.int .i64 (c x)) ∧ Below w'.heap.size w' w'') :
    Calls Try.prog 46 #[v, (.int .i64 t), .func (.func g) #[] lb] w fun e w' => e = .returned (.tuple #[.int .i64 p, .bool (metLB c L p)]) ∧ Below w.heap.size w w' := by
  refine calls_by fun R HR => ?_
  obtain ⟨a, cap, hv, hcap, -⟩ := hl.shape
  subst hv
  have HL := Lib.hid hl
  have H12 := Lib.hid (And.intro h1 h2)
  have Hc := Lib.hid hc
  clear h1 h2 hc hl
  go_enter Try.func46, Try.ntmps46
  go_wp2
  go_loopg [9, 10] L.length (fun gh i j wr => ∃ (lo hi : Nat), hi - lo ≤ gh ∧ lo ≤ p ∧ p ≤ hi ∧ hi ≤ L.length ∧ i = .int .i64 lo ∧ j = .int .i64 hi ∧ Below w.heap.size w wr)
  case atStart => exact ⟨0, L.length, by omega, by omega, by omega, by omega, rfl, rfl, Below.refl _ _⟩
  case round =>
    obtain ⟨lo, hi, hgh, hlo, hhi, hhl, rfl, rfl, hbel⟩ := hrel
    by_cases hlt : lo < hi
    · obtain ⟨m, hm⟩ : ∃ m : Nat, ((lo : Int) + (hi : Int)) / 2 = (m : Int) := ⟨(lo + hi) / 2, by omega⟩
      have hm1 : lo ≤ m ∧ m < hi := by omega
      obtain ⟨x, hx⟩ : ∃ x, L[m]? = some x := ⟨_, List.getElem?_eq_getElem (by omega)⟩
      have hbw : Below w.heap.size w wr := hbel
      obtain ⟨b, o, ha, hb, dd⟩ := (HL.out.below hbw).at m x hx
      subst ha
      obtain ⟨x1, x2⟩ := x
      have d0 := dd 0 _ rfl
      have d1 := dd 1 _ rfl
      have cP := Hc.out (x1, x2) wr hbw
      have hmi : (0 : Int) ≤ (m : Int) := by omega
      have hmi2 : (m : Int) < (L.length : Int) := by omega
      obtain ⟨cx, hcx⟩ : ∃ cx, c (x1, x2) = cx := ⟨_, rfl⟩
      rw [hcx] at cP
      have HX := Lib.hid (And.intro hx hcx)
      clear dd hx hcx
      change wr.cell? ⟨b, o + m * 2, none⟩ = some (.int .i64 x1) at d0
      change wr.cell? ⟨b, o + m * 2 + 1, none⟩ = some (.string x2) at d1
      have CP := Lib.hid cP
      clear cP
      go_wp2_with fail
      refine CP.out.mono ?_
      rintro e w1 ⟨rfl, hb1⟩
      clear d0 d1 CP
      by_cases hneg : cx < 0
      · have hmp : m < p := by
          refine Nat.lt_of_not_le fun hle => ?_
          have := H12.out.2 m _ hle HX.out.1
          rw [HX.out.2] at this
          omega
        go_wp2
        go_roundg (hi - (m + 1))
        case measure => omega
        case rel => exact ⟨m + 1, hi, by omega, by omega, by omega, by omega, by go_num, rfl, hbel.trans (hb1.mono hbel.size)⟩
      · have hmp : p ≤ m := by
          refine Nat.le_of_not_lt fun hlt => ?_
          have := H12.out.1 m _ hlt HX.out.1
          rw [HX.out.2] at this
          omega
        go_wp2
        go_roundg (m - lo)
        case measure => omega
        case rel => exact ⟨lo, m, by omega, by omega, by omega, by omega, rfl, rfl, hbel.trans (hb1.mono hbel.size)⟩
    · obtain rfl : lo = p := by omega
      obtain rfl : hi = lo := by omega
      have hbw : Below w.heap.size w wr := hbel
      by_cases hpl : hi < L.length
      · obtain ⟨x, hx⟩ : ∃ x, L[hi]? = some x := ⟨_, List.getElem?_eq_getElem hpl⟩
        obtain ⟨b, o, ha, hb, dd⟩ := (HL.out.below hbw).at hi x hx
        subst ha
        obtain ⟨x1, x2⟩ := x
        have d0 := dd 0 _ rfl
        have d1 := dd 1 _ rfl
        have cP := Hc.out (x1, x2) wr hbw
        have hmi : (0 : Int) ≤ (hi : Int) := by omega
        have hmi2 : (hi : Int) < (L.length : Int) := by omega
        obtain ⟨cx, hcx⟩ : ∃ cx, c (x1, x2) = cx := ⟨_, rfl⟩
        rw [hcx] at cP
        have Q := Lib.hid (show metLB c L hi = (cx == 0) by unfold metLB; rw [hx]; simp only [hcx]; rfl)
        clear dd hx hcx
        change wr.cell? ⟨b, o + hi * 2, none⟩ = some (.int .i64 x1) at d0
        change wr.cell? ⟨b, o + hi * 2 + 1, none⟩ = some (.string x2) at d1
        have hd2 : decide (hi < L.length) = true := by simpa using hpl
        have CP := Lib.hid cP
        clear cP
        go_wp2_with fail
        refine CP.out.mono ?_
        rintro e w1 ⟨rfl, hb1⟩
        clear d0 d1 CP
        go_wp2
        exact HR.out _ _ ⟨by rw [Q.out]; try rfl, hbw.trans (hb1.mono hbw.size)⟩
      · have Q := Lib.hid (show metLB c L hi = false by unfold metLB; rw [List.getElem?_eq_none (by omega)])
        have hd : decide ((hi : Int) < (L.length : Int)) = false := by simp; omega
        have hd2 : decide (hi < L.length) = false := by simp; omega
        clear hlt
        go_wp2
        exact HR.out _ _ ⟨by rw [Q.out]; try rfl, hbw⟩

end Go.Proofs.Ytdbabkkmdlkjaaa
/- Two numbers held against each other: cmp.Compare. -/
namespace Ks
def cmpZ (x y : Int) : Int := if x < y then -1 else if y < x then 1 else 0
end Ks
namespace Go.Proofs.Ytdbabkkmdlkjaaa
open Go.RowKit Ks
set_option linter.unusedVariables false
theorem nan_any (x : Int) (w : World) : Calls Try.prog 66 #[.int .i64 x] w fun e w' => e = .returned (.bool false) ∧ w' = w := by
  refine calls_by fun R HR => ?_
  go_enter Try.func66, Try.ntmps66
  go_wp2
  exact HR.out _ _ ⟨by simp, rfl⟩

theorem compare_any (x y : Int) (w : World) : Calls Try.prog 48 #[.int .i64 x, .int .i64 y] w fun e w' => e = .returned (.int .i64 (cmpZ x y)) ∧ w' = w := by
  refine calls_by fun R HR => ?_
  by_cases h1 : x < y
  · have Q := Lib.hid (show cmpZ x y = -1 by rw [cmpZ, if_pos h1])
    go_enter Try.func48, Try.ntmps48
    go_wp2_with (go_at_call 66; refine (nan_any _ _).mono ?_; rintro e w' ⟨rfl, rfl⟩)
    exact HR.out _ _ ⟨by rw [Q.out]; try rfl, rfl⟩
  by_cases h2 : y < x
  · have Q := Lib.hid (show cmpZ x y = 1 by rw [cmpZ, if_neg h1, if_pos h2])
    go_enter Try.func48, Try.ntmps48
    go_wp2_with (go_at_call 66; refine (nan_any _ _).mono ?_; rintro e w' ⟨rfl, rfl⟩)
    exact HR.out _ _ ⟨by rw [Q.out]; try rfl, rfl⟩
  · have Q := Lib.hid (show cmpZ x y = 0 by rw [cmpZ, if_neg h1, if_neg h2])
    go_enter Try.func48, Try.ntmps48
    go_wp2_with (go_at_call 66; refine (nan_any _ _).mono ?_; rintro e w' ⟨rfl, rfl⟩)
    exact HR.out _ _ ⟨by rw [Q.out]; try rfl, rfl⟩

end Go.Proofs.Ytdbabkkmdlkjaaa
/- The proof of a place: proof.Prove. -/
set_option maxRecDepth 100000
namespace Ks
open Go Go.RowKit
set_option linter.unusedVariables false
abbrev prfC (f : Bool) (a : Int) (h x : LeafT) (u l : Value) : Array Value := #[.bool f, .int .i64 a, .int .i64 h.1, .string h.2, .int .i64 x.1, .string x.2, u, l]
abbrev prfV (p : PrfD) (u l : Value) : Value := .agg (prfC p.found p.at_ p.here p.ahead u l)
theorem blk8 {w : World} {b : Nat} {c0 c1 c2 c3 c4 c5 c6 c7 : Value} {T : TypeId} (h : w.heap[b]? = some (.cells #[c0, c1, c2, c3, c4, c5, c6, c7] T (0, 0))) : w.cell? ⟨b, 0, none⟩ = some c0 ∧ w.cell? ⟨b, 1, none⟩ = some c1 ∧ w.cell? ⟨b, 2, none⟩ = some c2 ∧ w.cell? ⟨b, 3, none⟩ = some c3 ∧ w.cell? ⟨b, 4, none⟩ = some c4 ∧ w.cell? ⟨b, 5, none⟩ = some c5 ∧ w.cell? ⟨b, 6, none⟩ = some c6 ∧ w.cell? ⟨b, 7, none⟩ = some c7 :=
  ⟨by rw [cell_of_row w b 0 _ _ _ h]; rfl, by rw [cell_of_row w b 1 _ _ _ h]; rfl, by rw [cell_of_row w b 2 _ _ _ h]; rfl, by rw [cell_of_row w b 3 _ _ _ h]; rfl, by rw [cell_of_row w b 4 _ _ _ h]; rfl, by rw [cell_of_row w b 5 _ _ _ h]; rfl, by rw [cell_of_row w b 6 _ _ _ h]; rfl, by rw [cell_of_row w b 7 _ _ _ h]; rfl⟩
theorem prf_one (f : Bool) (a h : Int) (hs : ByteArray) (x : Int) (xs : ByteArray) (ua : Option Addr) (un uc : Nat) (la : Option Addr) (ln lc : Nat) : (#[.bool f, .int .i64 a, .int .i64 h, .string hs, .int .i64 x, .string xs, .slice ua un uc, .slice la ln lc] : Array Value).all (fun v => v.oneCell') = true := by simp [Value.oneCell']
theorem leaf_one (h : Int) (hs : ByteArray) : (#[.int .i64 h, .string hs] : Array Value).all (fun v => v.oneCell') = true := by simp [Value.oneCell']
end Ks
namespace Go.Proofs.Ytdbabkkmdlkjaaa
open Go.RowKit Ks
set_option linter.unusedVariables false
set_option maxRecDepth 100000 in
theorem close_any (x : LeafT) (lba : Int) (w : World) : Calls Try.prog 47 #[leafV x, .int .i64 lba] w fun e w' => e = .returned (.int .i64 (cmpZ x.1 lba)) ∧ Below w.heap.size w w' := by
  obtain ⟨n, s⟩ := x
  refine calls_by fun R HR => ?_
  obtain ⟨W1, hW1⟩ : ∃ W1, w.alloc (.cells #[.int .i64 n, .string s] 45) = W1 := ⟨_, rfl⟩
  have b1 : Below w.heap.size w W1 := by rw [← hW1]; exact alloc_below w _
  have n1 : W1.heap[w.heap.size]? = some (.cells #[.int .i64 n, .string s] 45 (0, 0)) := by rw [← hW1]; exact alloc_new w _
  have c0 : W1.cell? ⟨w.heap.size, 0, none⟩ = some (.int .i64 n) := by rw [cell_of_row W1 _ 0 _ _ _ n1]; rfl
  have H1 := Lib.hid b1
  have HC := Lib.hid (fun w => compare_any n lba w)
  clear b1 n1
  go_enter Try.func47, Try.ntmps47
  go_wp2_with fail
  refine (HC.out _).mono ?_
  rintro e w2 ⟨rfl, hw⟩
  rw [hw]
  clear hw
  go_wp2
  exact HR.out _ _ ⟨rfl, H1.out⟩
/-- the place among leaves -/
theorem find_any (v : Value) (l : List LeafT) (lba : Int) (w : World) (hl : Rd leafE w v l) (hlen : l.length ≤ 1000000) (hs : l.Pairwise fun a b => a.1 < b.1) :
    Calls Try.prog 46 #[v, .int .i64 lba, .func (.func 47) #[] #[]] w fun e w' => e = .returned (.tuple #[.int .i64 (aheadN lba l : Nat), .bool (metP l lba)]) ∧ Below w.heap.size w w' := by
  have hm : metLB (fun x => cmpZ x.1 lba) l (aheadN lba l) = metP l lba := by
    unfold metLB metP
    cases l[aheadN lba l]? with
    | none => rfl
    | some x =>
      show decide (cmpZ x.1 lba = 0) = decide (x.1 = lba)
      rw [decide_eq_decide]
      unfold cmpZ
      split
      · omega
      · split <;> omega
  rw [← hm]
  refine lsearch_any 47 #[] (fun _ _ => rfl) (fun x => cmpZ x.1 lba) v lba l (aheadN lba l) w hl hlen (ahead_le lba l) (fun i x hi hx => ?_) (fun i x hi hx => ?_) (fun x w' _ => close_any x lba w')
  · have := ahead_lt lba l i x hi hx
    show cmpZ x.1 lba < 0
    rw [cmpZ, if_pos this]; decide
  · have := ahead_ge (lba := lba) hs i x hi hx
    show ¬ cmpZ x.1 lba < 0
    rw [cmpZ, if_neg this]
    split <;> decide
set_option maxRecDepth 100000 in
set_option maxHeartbeats 4000000 in
theorem prove_no (lv : Value) (l : List LeafT) (lba : Int) (w : World) (hl : Rd leafE w lv l) (hlen : l.length ≤ 1000000) (h : ¬ (rightB l = true ∧ 0 ≤ lba ∧ lba < 4096)) :
    Calls Try.prog 29 #[lv, .int .i64 lba] w fun e w' => e = .returned (.tuple #[prfV noPrf (.slice none 0 0) (.slice none 0 0), .int .i64 2]) ∧ Below w.heap.size w w' := by
  refine calls_by fun R HR => ?_
  obtain ⟨W1, hW1⟩ : ∃ W1, w.alloc (.cells #[.bool false, .int .i64 0, .int .i64 0, .string ⟨#[]⟩, .int .i64 0, .string ⟨#[]⟩, .slice none 0 0, .slice none 0 0] 48) = W1 := ⟨_, rfl⟩
  have b1 : Below w.heap.size w W1 := by rw [← hW1]; exact alloc_below w _
  have n1 : W1.heap[w.heap.size]? = some (.cells #[.bool false, .int .i64 0, .int .i64 0, .string ⟨#[]⟩, .int .i64 0, .string ⟨#[]⟩, .slice none 0 0, .slice none 0 0] 48 (0, 0)) := by rw [← hW1]; exact alloc_new w _
  have HC := Lib.hid (right_any lv l W1 (hl.below b1) hlen)
  obtain ⟨a, cap, rfl, -, -⟩ := hl.shape
  have H1 := Lib.hid (And.intro b1 n1)
  by_cases hr : rightB l = true
  · rw [if_pos hr] at HC
    have hp := fun w => place_any lba w
    rw [decide_eq_false (fun q => h ⟨hr, q⟩)] at hp
    have HP := Lib.hid hp
    clear hp h hr hl b1 n1
    go_enter Try.func29, Try.ntmps29
    go_wp2_with fail
    refine HC.out.mono ?_
    rintro e w2 ⟨rfl, hb⟩
    have H2 := Lib.hid (And.intro (H1.out.1.trans (hb.mono H1.out.1.size)) (blk_on hb H1.out.2))
    clear hb hW1
    go_wp2_with fail
    refine (HP.out _).mono ?_
    rintro e w3 ⟨rfl, hw⟩
    rw [hw]
    clear hw
    go_wp2_with (refine wpList_store_blk rfl 48 (.tmp 4) (.tmp 20) rfl w.heap.size 0 8 rfl #[.bool false, .int .i64 0, .int .i64 0, .string ⟨#[]⟩, .int .i64 0, .string ⟨#[]⟩, .slice none 0 0, .slice none 0 0] #[.bool false, .int .i64 0, .int .i64 0, .string ⟨#[]⟩, .int .i64 0, .string ⟨#[]⟩, .slice none 0 0, .slice none 0 0] #[.bool false, .int .i64 0, .int .i64 0, .string ⟨#[]⟩, .int .i64 0, .string ⟨#[]⟩, .slice none 0 0, .slice none 0 0] rfl 48 H2.out.2 rfl (Nat.le_refl 8) (by kernel_rfl) (prf_one _ _ _ _ _ _ _ _ _ _ _ _) (splice_all _ _ rfl) ?_; rw [setRow_self _ _ _ _ _ H2.out.2])
    obtain ⟨z0, z1, z2, z3, z4, z5, z6, z7⟩ := blk8 H2.out.2
    refine bodyPost_ret (v := .tuple #[prfV noPrf (.slice none 0 0) (.slice none 0 0), .int .i64 2]) (by simp [results, Try.results29, go_sem, noPrf, noLeaf, z0, z1, z2, z3, z4, z5, z6, z7]) rfl ?_
    exact HR.out _ _ ⟨rfl, H2.out.1⟩
  · rw [if_neg hr] at HC
    clear h hr hl b1 n1
    go_enter Try.func29, Try.ntmps29
    go_wp2_with fail
    refine HC.out.mono ?_
    rintro e w2 ⟨rfl, hb⟩
    have H2 := Lib.hid (And.intro (H1.out.1.trans (hb.mono H1.out.1.size)) (blk_on hb H1.out.2))
    clear hb hW1
    go_wp2_with (refine wpList_store_blk rfl 48 (.tmp 4) (.tmp 20) rfl w.heap.size 0 8 rfl #[.bool false, .int .i64 0, .int .i64 0, .string ⟨#[]⟩, .int .i64 0, .string ⟨#[]⟩, .slice none 0 0, .slice none 0 0] #[.bool false, .int .i64 0, .int .i64 0, .string ⟨#[]⟩, .int .i64 0, .string ⟨#[]⟩, .slice none 0 0, .slice none 0 0] #[.bool false, .int .i64 0, .int .i64 0, .string ⟨#[]⟩, .int .i64 0, .string ⟨#[]⟩, .slice none 0 0, .slice none 0 0] rfl 48 H2.out.2 rfl (Nat.le_refl 8) (by kernel_rfl) (prf_one _ _ _ _ _ _ _ _ _ _ _ _) (splice_all _ _ rfl) ?_; rw [setRow_self _ _ _ _ _ H2.out.2])
    obtain ⟨z0, z1, z2, z3, z4, z5, z6, z7⟩ := blk8 H2.out.2
    refine bodyPost_ret (v := .tuple #[prfV noPrf (.slice none 0 0) (.slice none 0 0), .int .i64 2]) (by simp [results, Try.results29, go_sem, noPrf, noLeaf, z0, z1, z2, z3, z4, z5, z6, z7]) rfl ?_
    exact HR.out _ _ ⟨rfl, H2.out.1⟩
end Go.Proofs.Ytdbabkkmdlkjaaa
/- What a proof tells: of the program. -/
namespace Ks
open Go Go.RowKit
theorem nil_text {s : ByteArray} (h : s ≠ ⟨#[]⟩) : (s.toList == []) = false := by
  have := text_ne h
  rwa [show (ByteArray.mk #[]).toList = [] by rw [ByteArray.toList_eq]] at this
end Ks
namespace Go.Proofs.Ytdbabkkmdlkjaaa
open Go.RowKit Ks
set_option linter.unusedVariables false
theorem eg_said : ∀ args w, (callFunc 59 args).run Try.prog w = .ok (.enter 59 args) w := fun _ _ => rfl
theorem eg_hash : ∀ args w, (callFunc 62 args).run Try.prog w = .ok (.enter 62 args) w := fun _ _ => rfl
set_option maxRecDepth 100000 in
set_option maxHeartbeats 4000000 in
theorem empty_any (x : LeafT) (lv : Value) (l : List ByteArray) (w : World) (hl : Rd strE w lv l) :
    Calls Try.prog 56 #[leafV x, lv] w fun e w' => e = .returned (.bool (emptyB x l)) ∧ Below w.heap.size w w' := by
  refine calls_by fun R HR => ?_
  obtain ⟨a, cap, rfl, -⟩ := hl.shape
  obtain ⟨n, s⟩ := x
  clear hl
  have H1 := Lib.hid (Below.refl w.heap.size w)
  obtain ⟨W1, hW1⟩ : ∃ W1, w.alloc (.cells #[.int .i64 n, .string s] 45) = W1 := ⟨_, rfl⟩
  have hbW1 : Below w.heap.size w W1 := by rw [← hW1]; exact alloc_below w _
  have kW1 : W1.heap[w.heap.size]? = some (.cells #[.int .i64 n, .string s] 45 (0, 0)) := by rw [← hW1]; exact alloc_new w _
  have H2 := Lib.hid (And.intro (H1.out.trans (hbW1.mono H1.out.size)) (kW1))
  clear hbW1 kW1
  obtain ⟨z0, z1, fzx0, fzx1⟩ := blk2 H2.out.2
  by_cases h1 : n = 0
  · by_cases h2 : s = ⟨#[]⟩
    · by_cases h3 : l.length = 0
      · subst h1 h2
        have h4 : ((l.length : Int) == 0) = true := by rw [h3]; rfl
        have HZ := Lib.hid (show emptyB (0, ⟨#[]⟩) l = true from decide_eq_true ⟨rfl, h3⟩)
        go_enter Try.func56, Try.ntmps56
        go_wp2
        exact HR.out _ _ ⟨by rw [HZ.out]; try rfl, H2.out.1⟩
      · subst h1 h2
        have h4 : ((l.length : Int) == 0) = false := by simpa using h3
        have HZ := Lib.hid (show emptyB (0, ⟨#[]⟩) l = false from decide_eq_false fun h => h3 h.2)
        go_enter Try.func56, Try.ntmps56
        go_wp2
        exact HR.out _ _ ⟨by rw [HZ.out]; try rfl, H2.out.1⟩
    · have h4 := nil_text h2
      subst h1
      have HZ := Lib.hid (show emptyB (0, s) l = false from decide_eq_false fun h => h2 (congrArg Prod.snd h.1))
      go_enter Try.func56, Try.ntmps56
      go_wp2
      exact HR.out _ _ ⟨by rw [HZ.out]; try rfl, H2.out.1⟩
  · have h4 : (n == 0) = false := by simpa using h1
    have HZ := Lib.hid (show emptyB (n, s) l = false from decide_eq_false fun h => h1 (congrArg Prod.fst h.1))
    go_enter Try.func56, Try.ntmps56
    go_wp2
    exact HR.out _ _ ⟨by rw [HZ.out]; try rfl, H2.out.1⟩
set_option maxRecDepth 100000 in
set_option maxHeartbeats 4000000 in
theorem leads_any (root : ByteArray) (count i : Int) (x : LeafT) (pv : Value) (ps : List ByteArray) (w : World) (hp : Rd strE w pv ps) (hpn : ps.length ≤ 100000000) :
    Calls Try.prog 57 #[.agg #[.string root, .int .i64 count], .int .i64 i, leafV x, pv] w fun e w' => e = .returned (.bool (leadsB root count i x ps)) ∧ Below w.heap.size w w' := by
  refine calls_by fun R HR => ?_
  obtain ⟨a, cap, rfl, -⟩ := hp.shape
  have HP := Lib.hid hp
  have HS := Lib.hid (fun w => said_any x w)
  have HH := Lib.hid (fun w => hash_any x w)
  have HC := Lib.hid (fun w (h : Rd strE w (.slice a ps.length cap) ps) => check_any root count i (hashS x) ps _ w hpn h)
  have HM := Lib.hid (@said_ne x)
  have HL := Lib.hid (show leadsB root count i x ps = (decide (mayLeaf x) && isV root count i (hashS x) ps) from rfl)
  generalize hashS x = hx at *
  generalize saidS x = sx at *
  generalize isV root count i hx ps = V at *
  obtain ⟨n, s⟩ := x
  clear hp
  have H1 := Lib.hid (And.intro (Below.refl w.heap.size w) (HP.out))
  obtain ⟨W1, hW1⟩ : ∃ W1, w.alloc (.cells #[.string root, .int .i64 count] 75) = W1 := ⟨_, rfl⟩
  have hbW1 : Below w.heap.size w W1 := by rw [← hW1]; exact alloc_below w _
  have kW1 : W1.heap[w.heap.size]? = some (.cells #[.string root, .int .i64 count] 75 (0, 0)) := by rw [← hW1]; exact alloc_new w _
  have H2 := Lib.hid (And.intro (H1.out.1.trans (hbW1.mono H1.out.1.size)) (And.intro (H1.out.2.below hbW1) (kW1)))
  clear hbW1 kW1
  obtain ⟨W2, hW2⟩ : ∃ W2, W1.alloc (.cells #[.int .i64 n, .string s] 45) = W2 := ⟨_, rfl⟩
  have hbW2 : Below W1.heap.size W1 W2 := by rw [← hW2]; exact alloc_below W1 _
  have kW2 : W2.heap[W1.heap.size]? = some (.cells #[.int .i64 n, .string s] 45 (0, 0)) := by rw [← hW2]; exact alloc_new W1 _
  have H3 := Lib.hid (And.intro (H2.out.1.trans (hbW2.mono H2.out.1.size)) (And.intro (H2.out.2.1.below hbW2) (And.intro (blk_on hbW2 H2.out.2.2) (kW2))))
  clear hbW2 kW2
  obtain ⟨y0, y1, fzc0, fzc1⟩ := blk2 H3.out.2.2.1
  obtain ⟨z0, z1, fzx0, fzx1⟩ := blk2 H3.out.2.2.2
  have r0 := fun p => after_cell y0 p
  have r1 := fun p => after_cell y1 p
  have s0 := fun p => after_cell z0 p
  have s1 := fun p => after_cell z1 p
  have cS := Lib.hid (fun p => calls_after (p := p) (HS.out (After W2 p)))
  have cH := Lib.hid (fun p => calls_after (p := p) (HH.out (After W2 p)))
  have cC := Lib.hid (fun p => calls_after (p := p) (HC.out (After W2 p) (H3.out.2.1.below (after_below W2 p))))
  by_cases hm : mayLeaf (n, s)
  · have hn := not_blank (HM.out.2 hm)
    have HD := Lib.hid (show decide (mayLeaf (n, s)) = true from decide_eq_true hm)
    clear hm
    go_enter Try.func57, Try.ntmps57
    go_wp2_with fail
    refine wp_region_after (by kernel_rfl) (by kernel_rfl) ?_
    repeat (go_big_quiet_step (fail))
    go_big_quiet_step (exact cS.out _)
    repeat (go_big_quiet_step (fail))
    go_big_quiet_step (exact cH.out _)
    repeat (go_big_quiet_step (fail))
    go_big_quiet_step (exact cC.out _)
    repeat (go_big_quiet_step (fail))
    refine wpQuiet_nil ?_
    rintro w5 ⟨q, rfl⟩
    have hb5 := after_below W2 q
    have H9 := Lib.hid (H3.out.1.trans (hb5.mono H3.out.1.size))
    generalize After W2 q = w5 at *
    clear hb5 cS cH cC r0 r1 s0 s1 y0 y1 z0 z1 hW1 hW2
    go_wp2
    exact HR.out _ _ ⟨by rw [HL.out, HD.out, Bool.true_and]; try rfl, H9.out⟩
  · have hsx : sx = ⟨#[]⟩ := Classical.byContradiction fun h => hm (HM.out.1 h)
    have HD := Lib.hid (show decide (mayLeaf (n, s)) = false from decide_eq_false hm)
    subst hsx
    clear hm
    go_enter Try.func57, Try.ntmps57
    go_wp2_with fail
    refine wp_region_after (by kernel_rfl) (by kernel_rfl) ?_
    repeat (go_big_quiet_step (fail))
    go_big_quiet_step (exact cS.out _)
    repeat (go_big_quiet_step (fail))
    refine wpQuiet_nil ?_
    rintro w5 ⟨q, rfl⟩
    have hb5 := after_below W2 q
    have H9 := Lib.hid (H3.out.1.trans (hb5.mono H3.out.1.size))
    generalize After W2 q = w5 at *
    clear hb5 cS cH cC r0 r1 s0 s1 y0 y1 z0 z1 hW1 hW2
    go_wp2
    exact HR.out _ _ ⟨by rw [HL.out, HD.out, Bool.false_and]; try rfl, H9.out⟩
end Go.Proofs.Ytdbabkkmdlkjaaa
/- What a proof tells of a leaf: of the program. -/
namespace Go.Proofs.Ytdbabkkmdlkjaaa
open Go.RowKit Ks
set_option linter.unusedVariables false
set_option maxRecDepth 100000 in
set_option maxHeartbeats 4000000 in
theorem found_any (root : ByteArray) (count lba : Int) (p : PrfD) (u v : Value) (w : World) (hu : Rd strE w u p.up) (hv : Rd strE w v p.left) (hun : p.up.length ≤ 100000000) (hvn : p.left.length ≤ 100000000) :
    Calls Try.prog 35 #[.agg #[.string root, .int .i64 count], .int .i64 lba, prfV p u v] w fun e w' => e = .returned (.bool (foundB root count lba p)) ∧ Below w.heap.size w w' := by
  refine calls_by fun R HR => ?_
  obtain ⟨fd, at9, ⟨hn, hs⟩, ⟨an, as9⟩, up, left⟩ := p
  obtain ⟨ua, uc, rfl, -⟩ := hu.shape
  obtain ⟨la, lc, rfl, -⟩ := hv.shape
  dsimp only [prfV, prfC]
  have HU := Lib.hid hu
  have HV := Lib.hid hv
  have HE := Lib.hid (fun w (h : Rd strE w (.slice la left.length lc) left) => empty_any (an, as9) _ left w h)
  have HL := Lib.hid (fun w (h : Rd strE w (.slice ua up.length uc) up) => leads_any root count at9 (hn, hs) _ up w h hun)
  have HF := Lib.hid (show foundB root count lba ⟨fd, at9, (hn, hs), (an, as9), up, left⟩ = (decide (at9 < count ∧ hn = lba) && emptyB (an, as9) left && leadsB root count at9 (hn, hs) up) from rfl)
  generalize emptyB (an, as9) left = EB at *
  generalize leadsB root count at9 (hn, hs) up = LB at *
  clear hu hv hun hvn
  have H1 := Lib.hid (And.intro (Below.refl w.heap.size w) (And.intro (HU.out) (HV.out)))
  obtain ⟨W1, hW1⟩ : ∃ W1, w.alloc (.cells #[.string root, .int .i64 count] 75) = W1 := ⟨_, rfl⟩
  have hbW1 : Below w.heap.size w W1 := by rw [← hW1]; exact alloc_below w _
  have kW1 : W1.heap[w.heap.size]? = some (.cells #[.string root, .int .i64 count] 75 (0, 0)) := by rw [← hW1]; exact alloc_new w _
  have H2 := Lib.hid (And.intro (H1.out.1.trans (hbW1.mono H1.out.1.size)) (And.intro (H1.out.2.1.below hbW1) (And.intro (H1.out.2.2.below hbW1) (kW1))))
  clear hbW1 kW1
  obtain ⟨W2, hW2⟩ : ∃ W2, W1.alloc (.cells #[.bool fd, .int .i64 at9, .int .i64 hn, .string hs, .int .i64 an, .string as9, .slice ua up.length uc, .slice la left.length lc] 48) = W2 := ⟨_, rfl⟩
  have hbW2 : Below W1.heap.size W1 W2 := by rw [← hW2]; exact alloc_below W1 _
  have kW2 : W2.heap[W1.heap.size]? = some (.cells #[.bool fd, .int .i64 at9, .int .i64 hn, .string hs, .int .i64 an, .string as9, .slice ua up.length uc, .slice la left.length lc] 48 (0, 0)) := by rw [← hW2]; exact alloc_new W1 _
  have H3 := Lib.hid (And.intro (H2.out.1.trans (hbW2.mono H2.out.1.size)) (And.intro (H2.out.2.1.below hbW2) (And.intro (H2.out.2.2.1.below hbW2) (And.intro (blk_on hbW2 H2.out.2.2.2) (kW2)))))
  clear hbW2 kW2
  obtain ⟨y0, y1, fzc0, fzc1⟩ := blk2 H3.out.2.2.2.1
  obtain ⟨z0, z1, z2, z3, z4, z5, z6, z7⟩ := blk8 H3.out.2.2.2.2
  by_cases h1 : at9 < count
  · by_cases h2 : hn = lba
    · have HD := Lib.hid (show decide (at9 < count ∧ hn = lba) = true from decide_eq_true ⟨h1, h2⟩)
      subst h2
      cases EB with
      | false =>
        go_enter Try.func35, Try.ntmps35
        go_wp2_with fail
        refine (HE.out _ H3.out.2.2.1).mono ?_
        rintro en v1 ⟨rfl, hb⟩
        clear hW1 hW2
        have H4 := Lib.hid (And.intro (H3.out.1.trans (hb.mono H3.out.1.size)) (And.intro (H3.out.2.1.below hb) (And.intro (H3.out.2.2.1.below hb) (And.intro (blk_on hb H3.out.2.2.2.1) (blk_on hb H3.out.2.2.2.2)))))
        clear hb
        go_wp2
        exact HR.out _ _ ⟨by rw [HF.out, HD.out]; try rfl, H4.out.1⟩
      | true =>
        go_enter Try.func35, Try.ntmps35
        go_wp2_with fail
        refine (HE.out _ H3.out.2.2.1).mono ?_
        rintro en v1 ⟨rfl, hb⟩
        clear hW1 hW2
        have H4 := Lib.hid (And.intro (H3.out.1.trans (hb.mono H3.out.1.size)) (And.intro (H3.out.2.1.below hb) (And.intro (H3.out.2.2.1.below hb) (And.intro (blk_on hb H3.out.2.2.2.1) (blk_on hb H3.out.2.2.2.2)))))
        clear hb
        obtain ⟨y0, y1, fzc0, fzc1⟩ := blk2 H4.out.2.2.2.1
        obtain ⟨z0, z1, z2, z3, z4, z5, z6, z7⟩ := blk8 H4.out.2.2.2.2
        go_wp2_with fail
        refine (HL.out _ H4.out.2.1).mono ?_
        rintro en v2 ⟨rfl, hb⟩
        have H5 := Lib.hid (And.intro (H4.out.1.trans (hb.mono H4.out.1.size)) (And.intro (H4.out.2.1.below hb) (And.intro (H4.out.2.2.1.below hb) (And.intro (blk_on hb H4.out.2.2.2.1) (blk_on hb H4.out.2.2.2.2)))))
        clear hb
        go_wp2
        exact HR.out _ _ ⟨by rw [HF.out, HD.out]; try rfl, H5.out.1⟩
    · have HD := Lib.hid (show decide (at9 < count ∧ hn = lba) = false from decide_eq_false fun h => h2 h.2)
      have h4 : (hn == lba) = false := by simpa using h2
      go_enter Try.func35, Try.ntmps35
      go_wp2
      exact HR.out _ _ ⟨by rw [HF.out, HD.out]; try rfl, H3.out.1⟩
  · have HD := Lib.hid (show decide (at9 < count ∧ hn = lba) = false from decide_eq_false fun h => h1 h.1)
    go_enter Try.func35, Try.ntmps35
    go_wp2
    exact HR.out _ _ ⟨by rw [HF.out, HD.out]; try rfl, H3.out.1⟩
set_option maxRecDepth 100000 in
set_option maxHeartbeats 4000000 in
theorem beside_any (root : ByteArray) (count i : Int) (is may : Bool) (x : LeafT) (pv : Value) (ps : List ByteArray) (fb : Nat) (w : World) (hp : Rd strE w pv ps) (hpn : ps.length ≤ 100000000)
    (hf : w.heap[fb]? = some (.cells #[.func (.func 57) #[.agg #[.string root, .int .i64 count]] #[]] 109 (0, 0))) :
    Calls Try.prog 58 #[.bool is, .int .i64 i, leafV x, pv, .bool may, .pointer (some ⟨fb, 0, none⟩)] w fun e w' => e = .returned (.bool (besideB root count is i x ps may)) ∧ Below w.heap.size w w' := by
  refine calls_by fun R HR => ?_
  obtain ⟨a, cap, rfl, -⟩ := hp.shape
  have HP := Lib.hid hp
  have HE := Lib.hid (fun w (h : Rd strE w (.slice a ps.length cap) ps) => empty_any x _ ps w h)
  have HL := Lib.hid (fun w (h : Rd strE w (.slice a ps.length cap) ps) => leads_any root count i x _ ps w h hpn)
  have HB := Lib.hid (show besideB root count is i x ps may = if is then may && leadsB root count i x ps else emptyB x ps from rfl)
  generalize emptyB x ps = EB at *
  generalize leadsB root count i x ps = LB at *
  obtain ⟨n, s⟩ := x
  clear hp
  have H1 := Lib.hid (And.intro (Below.refl w.heap.size w) (And.intro (HP.out) (hf)))
  obtain ⟨W1, hW1⟩ : ∃ W1, w.alloc (.cells #[.int .i64 n, .string s] 45) = W1 := ⟨_, rfl⟩
  have hbW1 : Below w.heap.size w W1 := by rw [← hW1]; exact alloc_below w _
  have kW1 : W1.heap[w.heap.size]? = some (.cells #[.int .i64 n, .string s] 45 (0, 0)) := by rw [← hW1]; exact alloc_new w _
  have H2 := Lib.hid (And.intro (H1.out.1.trans (hbW1.mono H1.out.1.size)) (And.intro (H1.out.2.1.below hbW1) (And.intro (blk_on hbW1 H1.out.2.2) (kW1))))
  clear hbW1 kW1
  obtain ⟨z0, z1, fzx0, fzx1⟩ := blk2 H2.out.2.2.2
  obtain ⟨f0, ff0⟩ := blk1 H2.out.2.2.1
  clear hf
  cases is with
  | false =>
    go_enter Try.func58, Try.ntmps58
    go_wp2_with fail
    refine (HE.out _ H2.out.2.1).mono ?_
    rintro en v1 ⟨rfl, hb⟩
    clear hW1
    have H3 := Lib.hid (And.intro (H2.out.1.trans (hb.mono H2.out.1.size)) (And.intro (H2.out.2.1.below hb) (And.intro (blk_on hb H2.out.2.2.1) (blk_on hb H2.out.2.2.2))))
    clear hb
    go_wp2
    exact HR.out _ _ ⟨by rw [HB.out]; try rfl, H3.out.1⟩
  | true =>
    cases may with
    | false =>
      go_enter Try.func58, Try.ntmps58
      go_wp2
      exact HR.out _ _ ⟨by rw [HB.out]; try rfl, H2.out.1⟩
    | true =>
      go_enter Try.func58, Try.ntmps58
      go_wp2_with fail
      refine (HL.out _ H2.out.2.1).mono ?_
      rintro en v1 ⟨rfl, hb⟩
      clear hW1
      have H3 := Lib.hid (And.intro (H2.out.1.trans (hb.mono H2.out.1.size)) (And.intro (H2.out.2.1.below hb) (And.intro (blk_on hb H2.out.2.2.1) (blk_on hb H2.out.2.2.2))))
      clear hb
      go_wp2
      exact HR.out _ _ ⟨by rw [HB.out]; try rfl, H3.out.1⟩
end Go.Proofs.Ytdbabkkmdlkjaaa
/- What a proof tells where there is no leaf: of the program. -/
namespace Go.Proofs.Ytdbabkkmdlkjaaa
open Go.RowKit Ks
set_option linter.unusedVariables false
set_option maxRecDepth 100000 in
set_option maxHeartbeats 4000000 in
theorem none_any (root : ByteArray) (count lba : Int) (p : PrfD) (u v : Value) (w : World) (hu : Rd strE w u p.up) (hv : Rd strE w v p.left) (hun : p.up.length ≤ 100000000) (hvn : p.left.length ≤ 100000000) (h0 : 0 ≤ p.at_) (h1 : p.at_ ≤ count) (h2 : count ≤ 4096) :
    Calls Try.prog 36 #[.agg #[.string root, .int .i64 count], .int .i64 lba, prfV p u v] w fun e w' => e = .returned (.bool (noneB root count lba p)) ∧ Below w.heap.size w w' := by
  refine calls_by fun R HR => ?_
  obtain ⟨fd, at9, ⟨hn, hs⟩, ⟨an, as9⟩, up, left⟩ := p
  obtain ⟨ua, uc, rfl, -⟩ := hu.shape
  obtain ⟨la, lc, rfl, -⟩ := hv.shape
  dsimp only [prfV, prfC]
  have HU := Lib.hid hu
  have HV := Lib.hid hv
  simp only at h0 h1
  have hw1 : wrap64 (at9 - 1) = at9 - 1 := by unfold wrap64; omega
  have HS := Lib.hid (fun w => sum0_any w)
  rw [← show sha1 [] = shaS [] from rfl] at HS
  obtain ⟨S, hS⟩ : ∃ S, sha1 [] = S := ⟨_, rfl⟩
  rw [hS] at HS
  obtain ⟨B1, hB1⟩ : ∃ B, decide (at9 < count) = B := ⟨_, rfl⟩
  obtain ⟨M1, hM1⟩ : ∃ B, decide (lba < hn) = B := ⟨_, rfl⟩
  obtain ⟨B2, hB2⟩ : ∃ B, decide (0 < at9) = B := ⟨_, rfl⟩
  obtain ⟨M2, hM2⟩ : ∃ B, decide (an < lba) = B := ⟨_, rfl⟩
  have HF := Lib.hid (show noneB root count lba ⟨fd, at9, (hn, hs), (an, as9), up, left⟩ = (!(decide (count = 0 ∧ root ≠ S)) && besideB root count B1 at9 (hn, hs) up M1 && besideB root count B2 (at9 - 1) (an, as9) left M2) by rw [noneB, hS, ← hB1, ← hM1, ← hB2, ← hM2])
  have HX := Lib.hid (fun fb w (h : Rd strE w (.slice ua up.length uc) up) hf => beside_any root count at9 B1 M1 (hn, hs) _ up fb w h hun hf)
  have HY := Lib.hid (fun fb w (h : Rd strE w (.slice la left.length lc) left) hf => beside_any root count (at9 - 1) B2 M2 (an, as9) _ left fb w h hvn hf)
  generalize besideB root count B1 at9 (hn, hs) up M1 = X at *
  generalize besideB root count B2 (at9 - 1) (an, as9) left M2 = Y at *
  clear hu hv hun hvn h0 h1 h2 hS
  have H1 := Lib.hid (And.intro (Below.refl w.heap.size w) (And.intro (HU.out) (HV.out)))
  obtain ⟨W1, hW1⟩ : ∃ W1, w.alloc (.cells #[.string root, .int .i64 count] 75) = W1 := ⟨_, rfl⟩
  have hbW1 : Below w.heap.size w W1 := by rw [← hW1]; exact alloc_below w _
  have kW1 : W1.heap[w.heap.size]? = some (.cells #[.string root, .int .i64 count] 75 (0, 0)) := by rw [← hW1]; exact alloc_new w _
  have H2 := Lib.hid (And.intro (H1.out.1.trans (hbW1.mono H1.out.1.size)) (And.intro (H1.out.2.1.below hbW1) (And.intro (H1.out.2.2.below hbW1) (kW1))))
  clear hbW1 kW1
  obtain ⟨W2, hW2⟩ : ∃ W2, W1.alloc (.cells #[.bool fd, .int .i64 at9, .int .i64 hn, .string hs, .int .i64 an, .string as9, .slice ua up.length uc, .slice la left.length lc] 48) = W2 := ⟨_, rfl⟩
  have hbW2 : Below W1.heap.size W1 W2 := by rw [← hW2]; exact alloc_below W1 _
  have kW2 : W2.heap[W1.heap.size]? = some (.cells #[.bool fd, .int .i64 at9, .int .i64 hn, .string hs, .int .i64 an, .string as9, .slice ua up.length uc, .slice la left.length lc] 48 (0, 0)) := by rw [← hW2]; exact alloc_new W1 _
  have H3 := Lib.hid (And.intro (H2.out.1.trans (hbW2.mono H2.out.1.size)) (And.intro (H2.out.2.1.below hbW2) (And.intro (H2.out.2.2.1.below hbW2) (And.intro (blk_on hbW2 H2.out.2.2.2) (kW2)))))
  clear hbW2 kW2
  obtain ⟨y0, y1, fzc0, fzc1⟩ := blk2 H3.out.2.2.2.1
  obtain ⟨z0, z1, z2, z3, z4, z5, z6, z7⟩ := blk8 H3.out.2.2.2.2
  obtain ⟨W3, hW3⟩ : ∃ W3, W2.alloc (.cells #[.func (.func 57) #[.agg #[.string root, .int .i64 count]] #[]] 109) = W3 := ⟨_, rfl⟩
  have hbW3 : Below W2.heap.size W2 W3 := by rw [← hW3]; exact alloc_below W2 _
  have kW3 : W3.heap[W2.heap.size]? = some (.cells #[.func (.func 57) #[.agg #[.string root, .int .i64 count]] #[]] 109 (0, 0)) := by rw [← hW3]; exact alloc_new W2 _
  have H4 := Lib.hid (And.intro (H3.out.1.trans (hbW3.mono H3.out.1.size)) (And.intro (H3.out.2.1.below hbW3) (And.intro (H3.out.2.2.1.below hbW3) (And.intro (blk_on hbW3 H3.out.2.2.2.1) (And.intro (blk_on hbW3 H3.out.2.2.2.2) (kW3))))))
  clear hbW3 kW3
  by_cases hc : count = 0
  · subst hc
    by_cases hr : root = S
    · subst hr
      have HD := Lib.hid (show (!(decide ((0 : Int) = 0 ∧ root ≠ root))) = true by simp)
      obtain ⟨y0, y1, fzc0, fzc1⟩ := blk2 H4.out.2.2.2.1
      obtain ⟨z0, z1, z2, z3, z4, z5, z6, z7⟩ := blk8 H4.out.2.2.2.2.1
      have r0 := fun p => after_cell y0 p
      have r1 := fun p => after_cell y1 p
      have cS := Lib.hid (fun p => calls_after (p := p) (HS.out (After W3 p)))
      go_enter Try.func36, Try.ntmps36
      go_wp2_with fail
      refine wp_region_after (by kernel_rfl) (by kernel_rfl) ?_
      repeat (go_big_quiet_step (fail))
      go_big_quiet_step (exact cS.out _)
      repeat (go_big_quiet_step (fail))
      refine wpQuiet_nil ?_
      rintro w5 ⟨q, rfl⟩
      have hb5 := after_below W3 q
      have H5 := Lib.hid (And.intro (H4.out.1.trans (hb5.mono H4.out.1.size)) (And.intro (H4.out.2.1.below hb5) (And.intro (H4.out.2.2.1.below hb5) (And.intro (blk_on hb5 H4.out.2.2.2.1) (And.intro (blk_on hb5 H4.out.2.2.2.2.1) (blk_on hb5 H4.out.2.2.2.2.2))))))
      generalize After W3 q = w5 at *
      clear hb5 cS r0 r1 y0 y1 z0 z1 z2 z3 z4 z5 z6 z7 hW1 hW2 hW3
      obtain ⟨y0, y1, fzc0, fzc1⟩ := blk2 H5.out.2.2.2.1
      obtain ⟨z0, z1, z2, z3, z4, z5, z6, z7⟩ := blk8 H5.out.2.2.2.2.1
      cases X with
      | false =>
          go_wp2_with fail
          refine (HX.out _ _ H5.out.2.1 H5.out.2.2.2.2.2).mono ?_
          rintro en v1 ⟨rfl, hb⟩
          have H6 := Lib.hid (And.intro (H5.out.1.trans (hb.mono H5.out.1.size)) (And.intro (H5.out.2.1.below hb) (And.intro (H5.out.2.2.1.below hb) (And.intro (blk_on hb H5.out.2.2.2.1) (And.intro (blk_on hb H5.out.2.2.2.2.1) (blk_on hb H5.out.2.2.2.2.2))))))
          clear hb
          go_wp2
          exact HR.out _ _ ⟨by rw [HF.out, HD.out]; try rfl, H6.out.1⟩
      | true =>
          go_wp2_with fail
          refine (HX.out _ _ H5.out.2.1 H5.out.2.2.2.2.2).mono ?_
          rintro en v1 ⟨rfl, hb⟩
          have H6 := Lib.hid (And.intro (H5.out.1.trans (hb.mono H5.out.1.size)) (And.intro (H5.out.2.1.below hb) (And.intro (H5.out.2.2.1.below hb) (And.intro (blk_on hb H5.out.2.2.2.1) (And.intro (blk_on hb H5.out.2.2.2.2.1) (blk_on hb H5.out.2.2.2.2.2))))))
          clear hb
          obtain ⟨y0, y1, fzc0, fzc1⟩ := blk2 H6.out.2.2.2.1
          obtain ⟨z0, z1, z2, z3, z4, z5, z6, z7⟩ := blk8 H6.out.2.2.2.2.1
          go_wp2_with fail
          refine (HY.out _ _ H6.out.2.2.1 H6.out.2.2.2.2.2).mono ?_
          rintro en v2 ⟨rfl, hb⟩
          have H7 := Lib.hid (And.intro (H6.out.1.trans (hb.mono H6.out.1.size)) (And.intro (H6.out.2.1.below hb) (And.intro (H6.out.2.2.1.below hb) (And.intro (blk_on hb H6.out.2.2.2.1) (And.intro (blk_on hb H6.out.2.2.2.2.1) (blk_on hb H6.out.2.2.2.2.2))))))
          clear hb
          go_wp2
          exact HR.out _ _ ⟨by rw [HF.out, HD.out]; try rfl, H7.out.1⟩
    · have hne := text_ne hr
      have HD := Lib.hid (show (!(decide ((0 : Int) = 0 ∧ root ≠ S))) = false by simp [hr])
      obtain ⟨y0, y1, fzc0, fzc1⟩ := blk2 H4.out.2.2.2.1
      obtain ⟨z0, z1, z2, z3, z4, z5, z6, z7⟩ := blk8 H4.out.2.2.2.2.1
      have r0 := fun p => after_cell y0 p
      have r1 := fun p => after_cell y1 p
      have cS := Lib.hid (fun p => calls_after (p := p) (HS.out (After W3 p)))
      go_enter Try.func36, Try.ntmps36
      go_wp2_with fail
      refine wp_region_after (by kernel_rfl) (by kernel_rfl) ?_
      repeat (go_big_quiet_step (fail))
      go_big_quiet_step (exact cS.out _)
      repeat (go_big_quiet_step (fail))
      refine wpQuiet_nil ?_
      rintro w5 ⟨q, rfl⟩
      have hb5 := after_below W3 q
      have H5 := Lib.hid (And.intro (H4.out.1.trans (hb5.mono H4.out.1.size)) (And.intro (H4.out.2.1.below hb5) (And.intro (H4.out.2.2.1.below hb5) (And.intro (blk_on hb5 H4.out.2.2.2.1) (And.intro (blk_on hb5 H4.out.2.2.2.2.1) (blk_on hb5 H4.out.2.2.2.2.2))))))
      generalize After W3 q = w5 at *
      clear hb5 cS r0 r1 y0 y1 z0 z1 z2 z3 z4 z5 z6 z7 hW1 hW2 hW3
      obtain ⟨y0, y1, fzc0, fzc1⟩ := blk2 H5.out.2.2.2.1
      obtain ⟨z0, z1, z2, z3, z4, z5, z6, z7⟩ := blk8 H5.out.2.2.2.2.1
      go_wp2
      exact HR.out _ _ ⟨by rw [HF.out, HD.out]; try rfl, H5.out.1⟩
  · have hce : (count == 0) = false := by simpa using hc
    have HD := Lib.hid (show (!(decide (count = 0 ∧ root ≠ S))) = true by simp [hc])
    clear hc
    obtain ⟨y0, y1, fzc0, fzc1⟩ := blk2 H4.out.2.2.2.1
    obtain ⟨z0, z1, z2, z3, z4, z5, z6, z7⟩ := blk8 H4.out.2.2.2.2.1
    have r0 := fun p => after_cell y0 p
    have r1 := fun p => after_cell y1 p
    go_enter Try.func36, Try.ntmps36
    go_wp2_with fail
    refine wp_region_after (by kernel_rfl) (by kernel_rfl) ?_
    repeat (go_big_quiet_step (fail))
    refine wpQuiet_nil ?_
    rintro w5 ⟨q, rfl⟩
    have hb5 := after_below W3 q
    have H5 := Lib.hid (And.intro (H4.out.1.trans (hb5.mono H4.out.1.size)) (And.intro (H4.out.2.1.below hb5) (And.intro (H4.out.2.2.1.below hb5) (And.intro (blk_on hb5 H4.out.2.2.2.1) (And.intro (blk_on hb5 H4.out.2.2.2.2.1) (blk_on hb5 H4.out.2.2.2.2.2))))))
    generalize After W3 q = w5 at *
    clear hb5 r0 r1 y0 y1 z0 z1 z2 z3 z4 z5 z6 z7 hW1 hW2 hW3
    obtain ⟨y0, y1, fzc0, fzc1⟩ := blk2 H5.out.2.2.2.1
    obtain ⟨z0, z1, z2, z3, z4, z5, z6, z7⟩ := blk8 H5.out.2.2.2.2.1
    cases X with
    | false =>
        go_wp2_with fail
        refine (HX.out _ _ H5.out.2.1 H5.out.2.2.2.2.2).mono ?_
        rintro en v1 ⟨rfl, hb⟩
        have H6 := Lib.hid (And.intro (H5.out.1.trans (hb.mono H5.out.1.size)) (And.intro (H5.out.2.1.below hb) (And.intro (H5.out.2.2.1.below hb) (And.intro (blk_on hb H5.out.2.2.2.1) (And.intro (blk_on hb H5.out.2.2.2.2.1) (blk_on hb H5.out.2.2.2.2.2))))))
        clear hb
        go_wp2
        exact HR.out _ _ ⟨by rw [HF.out, HD.out]; try rfl, H6.out.1⟩
    | true =>
        go_wp2_with fail
        refine (HX.out _ _ H5.out.2.1 H5.out.2.2.2.2.2).mono ?_
        rintro en v1 ⟨rfl, hb⟩
        have H6 := Lib.hid (And.intro (H5.out.1.trans (hb.mono H5.out.1.size)) (And.intro (H5.out.2.1.below hb) (And.intro (H5.out.2.2.1.below hb) (And.intro (blk_on hb H5.out.2.2.2.1) (And.intro (blk_on hb H5.out.2.2.2.2.1) (blk_on hb H5.out.2.2.2.2.2))))))
        clear hb
        obtain ⟨y0, y1, fzc0, fzc1⟩ := blk2 H6.out.2.2.2.1
        obtain ⟨z0, z1, z2, z3, z4, z5, z6, z7⟩ := blk8 H6.out.2.2.2.2.1
        go_wp2_with fail
        refine (HY.out _ _ H6.out.2.2.1 H6.out.2.2.2.2.2).mono ?_
        rintro en v2 ⟨rfl, hb⟩
        have H7 := Lib.hid (And.intro (H6.out.1.trans (hb.mono H6.out.1.size)) (And.intro (H6.out.2.1.below hb) (And.intro (H6.out.2.2.1.below hb) (And.intro (blk_on hb H6.out.2.2.2.1) (And.intro (blk_on hb H6.out.2.2.2.2.1) (blk_on hb H6.out.2.2.2.2.2))))))
        clear hb
        go_wp2
        exact HR.out _ _ ⟨by rw [HF.out, HD.out]; try rfl, H7.out.1⟩
end Go.Proofs.Ytdbabkkmdlkjaaa
