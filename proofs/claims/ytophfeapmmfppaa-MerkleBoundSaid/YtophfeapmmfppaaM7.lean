/- Texts that the claim rests on, part 7: MerkleClash, MerkleClash2, Open, FrameStr. -/
import Derived.BigQuiet
import Derived.Deep.DeepCutAuto
import Derived.Deep.Slices
import Derived.Test.YtophfeapmmfppaaProg
import Derived.Test.YtophfeapmmfppaaM6
/- Trees of hashes: what two paths that lead two leaves to one root tell. -/
namespace Ks
open Go Go.RowKit
set_option linter.unusedVariables false
theorem climb_sizes (m : Nat) : ∀ (n i : Nat) (x : ByteArray) (ps : List ByteArray) (r : List StepG × ByteArray × List ByteArray), x.size = 32 → wholeL ps = true → climbO m n i x ps = some r → ∀ s ∈ r.1, s.a.size ≤ 32 ∧ s.b.size ≤ 32 := by
  induction m with
  | zero =>
    intro n i x ps r hx hp h s hs
    simp only [climbO, Option.some.injEq] at h
    subst h
    simp at hs
  | succ m ih =>
    intro n i x ps r hx hp h s hs
    by_cases h1 : n ≤ 1
    · rw [climb_low h1] at h
      simp only [Option.some.injEq] at h
      subst h
      simp at hs
    · cases hd : dirN n i with
      | none =>
        rw [climb_none h1 hd] at h
        simp only [Option.map_eq_some_iff] at h
        obtain ⟨q, e, rfl⟩ := h
        rcases List.mem_cons.1 hs with rfl | hs
        · exact ⟨by show 0 ≤ 32; omega, by show 0 ≤ 32; omega⟩
        · exact ih _ _ _ _ q hx hp e s hs
      | some d =>
        match ps, hp, h with
        | [], _, h => rw [climb_nil h1 hd] at h; cases h
        | p :: ps, hp, h =>
          rw [climb_some h1 hd] at h
          simp only [Option.map_eq_some_iff] at h
          obtain ⟨q, e, rfl⟩ := h
          simp only [wholeL, List.all_cons, Bool.and_eq_true, beq_iff_eq] at hp
          rcases List.mem_cons.1 hs with rfl | hs
          · cases d <;> simp [pairS] <;> omega
          · exact ih _ _ _ _ q (nodeS_size _ _) hp.2 e s hs
theorem climb_steps (m : Nat) : ∀ (n i : Nat) (x : ByteArray) (ps : List ByteArray) (r : List StepG × ByteArray × List ByteArray), climbO m n i x ps = some r → r.1.length ≤ m := by
  induction m with
  | zero =>
    intro n i x ps r h
    simp only [climbO, Option.some.injEq] at h
    subst h
    exact Nat.le_refl _
  | succ m ih =>
    intro n i x ps r h
    by_cases h1 : n ≤ 1
    · rw [climb_low h1] at h
      simp only [Option.some.injEq] at h
      subst h
      exact Nat.zero_le _
    · cases hd : dirN n i with
      | none =>
        rw [climb_none h1 hd] at h
        simp only [Option.map_eq_some_iff] at h
        obtain ⟨q, e, rfl⟩ := h
        exact Nat.succ_le_succ (ih _ _ _ _ q e)
      | some d =>
        match ps, h with
        | [], h => rw [climb_nil h1 hd] at h; cases h
        | p :: ps, h =>
          rw [climb_some h1 hd] at h
          simp only [Option.map_eq_some_iff] at h
          obtain ⟨q, e, rfl⟩ := h
          exact Nat.succ_le_succ (ih _ _ _ _ q e)
/-- two unlike texts of one sum -/
def Unlike (a b : ByteArray) : Prop := a ≠ b ∧ shaS a.data.toList = shaS b.data.toList ∧ a.size ≤ 1000 ∧ b.size ≤ 1000
theorem clash_step (st su : List StepG) (k : Nat) (S T : StepG) (h : clashL (st.drop k) (su.drop k) = some (S, T)) (h1 : k < st.length) (h2 : k < su.length) :
    (clashes st[k] su[k] = true ∧ S = st[k] ∧ T = su[k]) ∨ (clashes st[k] su[k] = false ∧ clashL (st.drop (k + 1)) (su.drop (k + 1)) = some (S, T)) := by
  rw [List.drop_eq_getElem_cons h1, List.drop_eq_getElem_cons h2, clashL] at h
  cases hc : clashes st[k] su[k]
  · rw [hc] at h; exact .inr ⟨rfl, h⟩
  · rw [hc] at h
    simp only [if_true, Option.some.injEq, Prod.mk.injEq] at h
    exact .inl ⟨rfl, h.1.symm, h.2.symm⟩
theorem clash_end (st su : List StepG) (S T : StepG) (h : clashL (st.drop st.length) (su.drop st.length) = some (S, T)) : False := by
  rw [List.drop_length] at h
  simp [clashL] at h
/-- how it goes on at a level -/
theorem clash_ways (s t : StepG) : (s.a = ⟨#[]⟩ ∧ clashes s t = false) ∨ (s.a ≠ ⟨#[]⟩ ∧ s.a = t.a ∧ s.b = t.b ∧ clashes s t = false) ∨
    (s.a ≠ ⟨#[]⟩ ∧ s.a ≠ t.a ∧ ((nodeS s.a s.b = nodeS t.a t.b ∧ clashes s t = true) ∨ (nodeS s.a s.b ≠ nodeS t.a t.b ∧ clashes s t = false))) ∨
    (s.a ≠ ⟨#[]⟩ ∧ s.a = t.a ∧ s.b ≠ t.b ∧ ((nodeS s.a s.b = nodeS t.a t.b ∧ clashes s t = true) ∨ (nodeS s.a s.b ≠ nodeS t.a t.b ∧ clashes s t = false))) := by
  unfold clashes
  by_cases h0 : s.a = ⟨#[]⟩
  · exact .inl ⟨h0, by simp [h0]⟩
  · by_cases h1 : s.a = t.a
    · by_cases h2 : s.b = t.b
      · exact .inr (.inl ⟨h0, h1, h2, by simp [h1, h2]⟩)
      · refine .inr (.inr (.inr ⟨h0, h1, h2, ?_⟩))
        by_cases h3 : nodeS s.a s.b = nodeS t.a t.b
        · exact .inl ⟨h3, decide_eq_true ⟨h0, .inr h2, h3⟩⟩
        · exact .inr ⟨h3, decide_eq_false fun h => h3 h.2.2⟩
    · refine .inr (.inr (.inl ⟨h0, h1, ?_⟩))
      by_cases h3 : nodeS s.a s.b = nodeS t.a t.b
      · exact .inl ⟨h3, decide_eq_true ⟨h0, .inl h1, h3⟩⟩
      · exact .inr ⟨h3, decide_eq_false fun h => h3 h.2.2⟩
end Ks
namespace Go.Proofs.Ytophfeapmmfppaa
open Go.RowKit Ks
set_option linter.unusedVariables false
/-- the two paths clash -/
theorem clash_plain (l : List ByteArray) (j : Nat) (y x : ByteArray) (ps : List ByteArray) (hw : wholeL l = true) (hy : l[j]? = some y) (hn : l.length ≤ 1048576) (hne : x ≠ y) (his : isV (rootL l) l.length j x ps = true) :
    x.size = 32 ∧ y.size = 32 ∧ wholeL ps = true ∧ wholeL (pathL l j) = true ∧ ∃ st su S T, climbO 20 l.length j y (pathL l j) = some (st, rootL l, []) ∧ climbO 20 l.length j x ps = some (su, rootL l, []) ∧ st.length = su.length ∧ clashL st su = some (S, T) ∧
      Unlike (insideS S.a S.b) (insideS T.a T.b) ∧ (∀ s ∈ st, s.a.size ≤ 32 ∧ s.b.size ≤ 32) ∧ (∀ s ∈ su, s.a.size ≤ 32 ∧ s.b.size ≤ 32) := by
  have hj : j < l.length := (List.getElem?_eq_some_iff.1 hy).1
  have hz := whole_get hw j y hy
  obtain ⟨p1, p2⟩ := path_leads l.length l j y rfl hy
  obtain ⟨q1, -⟩ := path_whole l.length l j rfl hw hj
  have hb : ¬ ((l.length : Int) < 1 ∨ 1048576 < (l.length : Int) ∨ (j : Int) < 0 ∨ (l.length : Int) ≤ (j : Int)) := by omega
  have hx : x.size = 32 ∧ wholeL ps = true ∧ ps.length = (sidesH l.length j).length ∧ upS l.length j x ps = rootL l := by
    unfold isV at his
    have his := of_decide_eq_true his
    by_cases h2 : x.size = 32 ∧ wholeL ps = true ∧ ps.length = (sidesH (l.length : Int).toNat (j : Int).toNat).length
    · have hv := up_yes hb h2
      rw [hv.1, hv.2, Int.toNat_natCast, Int.toNat_natCast] at his
      rw [Int.toNat_natCast, Int.toNat_natCast] at h2
      exact ⟨h2.1, h2.2.1, h2.2.2, his.2⟩
    · have hv := up_no (x := x) (ps := ps) hb h2
      rw [hv.2] at his
      cases his.1
  obtain ⟨hx1, hx2, hx3, hx4⟩ := hx
  have c1 : ∃ st, climbO 20 l.length j y (pathL l j) = some (st, rootL l, []) := by
    rcases climb_twenty l.length j y (pathL l j) hj hn with ⟨h, _⟩ | ⟨_, st, h⟩
    · omega
    · exact ⟨st, by rw [h, p1, List.drop_of_length_le (by omega)]⟩
  have c2 : ∃ su, climbO 20 l.length j x ps = some (su, rootL l, []) := by
    rcases climb_twenty l.length j x ps hj hn with ⟨h, _⟩ | ⟨_, st, h⟩
    · omega
    · exact ⟨st, by rw [h, hx4, List.drop_of_length_le (by omega)]⟩
  obtain ⟨st, c1⟩ := c1
  obtain ⟨su, c2⟩ := c2
  obtain ⟨d1, d2, d3⟩ := clash_there 20 l.length j y x (pathL l j) ps st su (rootL l) [] [] hn hz hx1 q1 hx2 c1 c2
  obtain ⟨S, T, e⟩ := d2 (Ne.symm hne)
  obtain ⟨f1, f2, f3, f4⟩ := d3 S T e
  have f4 : T.a.size = 32 ∧ T.b.size = 32 := f4.elim id False.elim
  refine ⟨hx1, hz, hx2, q1, st, su, S, T, c1, c2, d1, e, ⟨fun h => ?_, ?_, ?_, ?_⟩, climb_sizes 20 _ _ _ _ _ hz q1 c1, climb_sizes 20 _ _ _ _ _ hx1 hx2 c2⟩
  · have := of_decide_eq_true f1
    obtain ⟨g1, g2⟩ := inside_inj (by omega) h
    rcases this.2.1 with h | h
    · exact h g1
    · exact h g2
  · have := of_decide_eq_true f1
    exact this.2.2
  · rw [inside_size]; omega
  · rw [inside_size]; omega
end Go.Proofs.Ytophfeapmmfppaa
/- Trees of hashes: merkle.Clash. -/
namespace Go.Proofs.Ytophfeapmmfppaa
open Go.RowKit Ks
set_option linter.unusedVariables false
def clashN (e : Ending) : Prop := e = .returned (.tuple #[.string ⟨#[]⟩, .string ⟨#[]⟩, .bool false])
def clashY (e : Ending) : Prop := ∃ a b : ByteArray, e = .returned (.tuple #[.string a, .string b, .bool true]) ∧ Unlike a b
theorem Rd.stepAt {w : World} {a : Option Addr} {n c : Nat} {l : List StepG} (h : Rd stepE w (.slice a n c) l) (k : Nat) (hk : k < l.length) : ∃ b o, a = some ⟨b, o, none⟩ ∧ b < w.heap.size ∧ w.cell? ⟨b, o + k * 4, none⟩ = some (.int .i64 (l[k].i : Nat)) ∧ w.cell? ⟨b, o + k * 4 + 1, none⟩ = some (.int .i64 (l[k].n : Nat)) ∧ w.cell? ⟨b, o + k * 4 + 2, none⟩ = some (.string l[k].a) ∧ w.cell? ⟨b, o + k * 4 + 3, none⟩ = some (.string l[k].b) := by
  obtain ⟨b, o, h1, h2, h3⟩ := h.at k l[k] (List.getElem?_eq_getElem hk)
  exact ⟨b, o, h1, h2, h3 0 _ rfl, h3 1 _ rfl, h3 2 _ rfl, h3 3 _ rfl⟩
set_option maxRecDepth 100000 in
set_option maxHeartbeats 4000000 in
theorem clash_no1 (lv : Value) (l : List ByteArray) (i : Int) (x : ByteArray) (pv : Value) (ps : List ByteArray) (w : World) (hl : Rd strE w lv l) (hp : Rd strE w pv ps) (hln : l.length ≤ 1048576) (hpn : ps.length ≤ 100000000) (hw : wholeL l = false) :
    Calls Try.prog 23 #[lv, .int .i64 i, .string x, pv] w fun e w' => clashN e ∧ Below w.heap.size w w' := by
  refine calls_by fun R HR => ?_
  obtain ⟨a, cap, rfl, -⟩ := hl.shape
  obtain ⟨pa, pc, rfl, -⟩ := hp.shape
  have HRt := Lib.hid (root_any _ l w hl (by omega))
  have HD := Lib.hid (And.intro hl hp)
  have hv := (show rootV l = ⟨#[]⟩ ∧ wholeE l = 2 from ⟨by rw [rootV, hw]; rfl, by rw [wholeE, hw]; rfl⟩)
  simp only [hv] at HRt
  clear hl hp hln hpn hw hv
  have H1 := Lib.hid (And.intro (Below.refl w.heap.size w) (And.intro HD.out.1 HD.out.2))
  go_enter Try.func23, Try.ntmps23
  go_wp2_with fail
  refine (HRt.out).mono ?_
  rintro en v2 ⟨rfl, hb⟩
  have H2 := Lib.hid (And.intro (H1.out.1.trans (hb.mono H1.out.1.size)) (And.intro (H1.out.2.1.below hb) (H1.out.2.2.below hb)))
  clear hb
  go_wp2
  go_ret3
  exact HR.out _ _ ⟨rfl, H2.out.1⟩
set_option maxRecDepth 100000 in
set_option maxHeartbeats 4000000 in
theorem clash_no2 (lv : Value) (l : List ByteArray) (i : Int) (x : ByteArray) (pv : Value) (ps : List ByteArray) (w : World) (hl : Rd strE w lv l) (hp : Rd strE w pv ps) (hln : l.length ≤ 1048576) (hpn : ps.length ≤ 100000000) (hw : wholeL l = true) (ho : i < 0 ∨ (¬ i < 0 ∧ (l.length : Int) ≤ i)) :
    Calls Try.prog 23 #[lv, .int .i64 i, .string x, pv] w fun e w' => clashN e ∧ Below w.heap.size w w' := by
  refine calls_by fun R HR => ?_
  obtain ⟨a, cap, rfl, -⟩ := hl.shape
  obtain ⟨pa, pc, rfl, -⟩ := hp.shape
  have HRt := Lib.hid (root_any _ l w hl (by omega))
  have HD := Lib.hid (And.intro hl hp)
  have hv := (show rootV l = rootL l ∧ wholeE l = 0 from ⟨by rw [rootV, if_pos hw], by rw [wholeE, if_pos hw]⟩)
  simp only [hv] at HRt
  clear hl hp hln hpn hw hv
  rcases ho with h1 | ⟨h1, h2⟩
  all_goals
    have H1 := Lib.hid (And.intro (Below.refl w.heap.size w) (And.intro HD.out.1 HD.out.2))
    go_enter Try.func23, Try.ntmps23
    go_wp2_with fail
    refine (HRt.out).mono ?_
    rintro en v2 ⟨rfl, hb⟩
    have H2 := Lib.hid (And.intro (H1.out.1.trans (hb.mono H1.out.1.size)) (And.intro (H1.out.2.1.below hb) (H1.out.2.2.below hb)))
    clear hb
    go_wp2
    go_ret3
    exact HR.out _ _ ⟨rfl, H2.out.1⟩
set_option maxRecDepth 100000 in
set_option maxHeartbeats 4000000 in
theorem clash_no3 (lv : Value) (l : List ByteArray) (j : Nat) (x : ByteArray) (pv : Value) (ps : List ByteArray) (w : World) (hl : Rd strE w lv l) (hp : Rd strE w pv ps) (hln : l.length ≤ 1048576) (hpn : ps.length ≤ 100000000) (hw : wholeL l = true) (hj : j < l.length) (he : l[j] = x) :
    Calls Try.prog 23 #[lv, .int .i64 (j : Nat), .string x, pv] w fun e w' => clashN e ∧ Below w.heap.size w w' := by
  refine calls_by fun R HR => ?_
  obtain ⟨a, cap, rfl, -⟩ := hl.shape
  obtain ⟨pa, pc, rfl, -⟩ := hp.shape
  have HRt := Lib.hid (root_any _ l w hl (by omega))
  have HD := Lib.hid (And.intro hl hp)
  have hv := (show rootV l = rootL l ∧ wholeE l = 0 from ⟨by rw [rootV, if_pos hw], by rw [wholeE, if_pos hw]⟩)
  simp only [hv] at HRt
  have h1 : ¬ (j : Int) < 0 := by omega
  have h2 : ¬ (l.length : Int) ≤ (j : Int) := by omega
  have h2' : (j : Int) < (l.length : Int) := by omega
  obtain ⟨b, o, rfl, hb0, c0⟩ := hl.str j hj
  have HL1 := Lib.hid (fun (w1 : World) (h : Below w.heap.size w w1) => (h.cell (p := ⟨b, o + j, none⟩) hb0).trans c0)
  rw [he] at HL1
  clear hl hp hln hpn hw hv hj he c0 hb0
  have H1 := Lib.hid (And.intro (Below.refl w.heap.size w) (And.intro HD.out.1 HD.out.2))
  go_enter Try.func23, Try.ntmps23
  go_wp2_with fail
  refine (HRt.out).mono ?_
  rintro en v2 ⟨rfl, hb⟩
  have H2 := Lib.hid (And.intro (H1.out.1.trans (hb.mono H1.out.1.size)) (And.intro (H1.out.2.1.below hb) (H1.out.2.2.below hb)))
  have cc := HL1.out _ (H1.out.1.trans (hb.mono H1.out.1.size))
  clear hb
  go_wp2
  go_ret3
  exact HR.out _ _ ⟨rfl, H2.out.1⟩
set_option maxRecDepth 100000 in
set_option maxHeartbeats 4000000 in
theorem clash_no4 (lv : Value) (l : List ByteArray) (j : Nat) (x : ByteArray) (pv : Value) (ps : List ByteArray) (w : World) (hl : Rd strE w lv l) (hp : Rd strE w pv ps) (hln : l.length ≤ 1048576) (hpn : ps.length ≤ 100000000) (hw : wholeL l = true) (hj : j < l.length) (he : ¬ x = l[j]) (hc : isV (rootL l) l.length j x ps = false) :
    Calls Try.prog 23 #[lv, .int .i64 (j : Nat), .string x, pv] w fun e w' => clashN e ∧ Below w.heap.size w w' := by
  refine calls_by fun R HR => ?_
  obtain ⟨a, cap, rfl, -⟩ := hl.shape
  obtain ⟨pa, pc, rfl, -⟩ := hp.shape
  have HRt := Lib.hid (root_any _ l w hl (by omega))
  have HD := Lib.hid (And.intro hl hp)
  have hv := (show rootV l = rootL l ∧ wholeE l = 0 from ⟨by rw [rootV, if_pos hw], by rw [wholeE, if_pos hw]⟩)
  simp only [hv] at HRt
  have HC := Lib.hid (fun w1 (h : Rd strE w1 (.slice pa ps.length pc) ps) => check_any (rootL l) l.length j x ps _ w1 hpn h)
  simp only [hc] at HC
  have h1 : ¬ (j : Int) < 0 := by omega
  have h2 : ¬ (l.length : Int) ≤ (j : Int) := by omega
  have h2' : (j : Int) < (l.length : Int) := by omega
  obtain ⟨b, o, rfl, hb0, c0⟩ := hl.str j hj
  have HL1 := Lib.hid (fun (w1 : World) (h : Below w.heap.size w w1) => (h.cell (p := ⟨b, o + j, none⟩) hb0).trans c0)
  have hne := text_ne he
  generalize l[j] = y at *
  generalize rootL l = Z at *
  clear hl hp hln hpn hw hv hj he c0 hb0 hc
  have H1 := Lib.hid (And.intro (Below.refl w.heap.size w) (And.intro HD.out.1 HD.out.2))
  go_enter Try.func23, Try.ntmps23
  go_wp2_with fail
  refine (HRt.out).mono ?_
  rintro en v2 ⟨rfl, hb⟩
  have H2 := Lib.hid (And.intro (H1.out.1.trans (hb.mono H1.out.1.size)) (And.intro (H1.out.2.1.below hb) (H1.out.2.2.below hb)))
  have cc := HL1.out _ (H1.out.1.trans (hb.mono H1.out.1.size))
  clear hb
  go_wp2_with fail
  refine (HC.out _ H2.out.2.2).mono ?_
  rintro en v3 ⟨rfl, hb⟩
  have H3 := Lib.hid (And.intro (H2.out.1.trans (hb.mono H2.out.1.size)) (And.intro (H2.out.2.1.below hb) (H2.out.2.2.below hb)))
  clear cc
  clear hb
  go_wp2
  go_ret3
  exact HR.out _ _ ⟨rfl, H3.out.1⟩
set_option maxRecDepth 100000 in
set_option maxHeartbeats 4000000 in
theorem clash_yes (lv : Value) (l : List ByteArray) (j : Nat) (x : ByteArray) (pv : Value) (ps : List ByteArray) (w : World) (hl : Rd strE w lv l) (hp : Rd strE w pv ps) (hln : l.length ≤ 1048576) (hpn : ps.length ≤ 100000000) (hw : wholeL l = true) (hj : j < l.length) (he : ¬ x = l[j]) (hc : isV (rootL l) l.length j x ps = true) :
    Calls Try.prog 23 #[lv, .int .i64 (j : Nat), .string x, pv] w fun e w' => clashY e ∧ Below w.heap.size w w' := by
  refine calls_by fun R HR => ?_
  obtain ⟨a, cap, rfl, -⟩ := hl.shape
  obtain ⟨pa, pc, rfl, -⟩ := hp.shape
  have HRt := Lib.hid (root_any _ l w hl (by omega))
  have HD := Lib.hid (And.intro hl hp)
  have hv := (show rootV l = rootL l ∧ wholeE l = 0 from ⟨by rw [rootV, if_pos hw], by rw [wholeE, if_pos hw]⟩)
  simp only [hv] at HRt
  have hpi := (show pathE l (j : Int) = 0 ∧ pathV l (j : Int) = pathL l j from by
    have h : wholeL l = true ∧ (0 : Int) ≤ (j : Int) ∧ (j : Int) < l.length := ⟨hw, by omega, by omega⟩
    exact ⟨by rw [pathE, if_pos h], by rw [pathV, if_pos h]; rfl⟩)
  have HPt := Lib.hid (fun w (h : Rd strE w (.slice a l.length cap) l) => path_any _ l (j : Int) w h (by omega))
  simp only [hpi] at HPt
  have HC := Lib.hid (fun w1 (h : Rd strE w1 (.slice pa ps.length pc) ps) => check_any (rootL l) l.length j x ps _ w1 hpn h)
  simp only [hc] at HC
  obtain ⟨zx, zy, wp, wo, st, su, S, T, e1, e2, hlen, hcl, hun, hz1, hz2⟩ := clash_plain l j l[j] x ps hw (List.getElem?_eq_getElem hj) hln he hc
  have hst := climb_steps 20 _ _ _ _ _ e1
  have hpl : (pathL l j).length ≤ 20 := by
    rw [(path_leads l.length l j l[j] rfl (List.getElem?_eq_getElem hj)).2, ← sidesM_eq l.length 20 j hj hln]
    exact sidesM_le _ _ _
  have HCl := Lib.hid (fun w1 v (h : Rd strE w1 v (pathL l j)) => climb_any 20 l.length j l[j] (pathL l j) v w1 hj hln (by omega) (by omega) zy wo (by omega) h)
  have HCx := Lib.hid (fun w1 (h : Rd strE w1 (.slice pa ps.length pc) ps) => climb_any 20 l.length j x ps _ w1 hj hln (by omega) (by omega) zx wp hpn h)
  rw [e1] at HCl
  rw [e2] at HCx
  have h1 : ¬ (j : Int) < 0 := by omega
  have h2 : ¬ (l.length : Int) ≤ (j : Int) := by omega
  have h2' : (j : Int) < (l.length : Int) := by omega
  obtain ⟨b, o, rfl, hb0, c0⟩ := hl.str j hj
  have HL1 := Lib.hid (fun (w1 : World) (h : Below w.heap.size w w1) => (h.cell (p := ⟨b, o + j, none⟩) hb0).trans c0)
  have hne := text_ne he
  have HSL := Lib.hid (And.intro hlen (And.intro hcl (And.intro hun (And.intro hz1 hz2))))
  generalize l[j] = y at *
  generalize rootL l = Z at *
  generalize pathL l j = P at *
  clear hl hp hln hpn hw hv hj he c0 hb0 hc hpi zx zy wp wo e1 e2 hlen hcl hun hz1 hz2 hpl
  have H1 := Lib.hid (And.intro (Below.refl w.heap.size w) (And.intro HD.out.1 HD.out.2))
  go_enter Try.func23, Try.ntmps23
  go_wp2_with fail
  refine (HRt.out).mono ?_
  rintro en v2 ⟨rfl, hb⟩
  have H2 := Lib.hid (And.intro (H1.out.1.trans (hb.mono H1.out.1.size)) (And.intro (H1.out.2.1.below hb) (H1.out.2.2.below hb)))
  have cc := HL1.out _ (H1.out.1.trans (hb.mono H1.out.1.size))
  clear hb
  go_wp2_with fail
  refine (HC.out _ H2.out.2.2).mono ?_
  rintro en v3 ⟨rfl, hb⟩
  have H3 := Lib.hid (And.intro (H2.out.1.trans (hb.mono H2.out.1.size)) (And.intro (H2.out.2.1.below hb) (H2.out.2.2.below hb)))
  clear cc
  clear hb
  go_wp2_with fail
  refine (HPt.out _ H3.out.2.1).mono ?_
  rintro en v4 ⟨ov, rfl, hrow, hb⟩
  have H4 := Lib.hid (And.intro (H3.out.1.trans (hb.mono H3.out.1.size)) (And.intro (H3.out.2.1.below hb) (And.intro (H3.out.2.2.below hb) hrow.rd)))
  obtain ⟨oa, oc, rfl, -⟩ := hrow.shape
  clear hrow
  clear hb
  have cc := HL1.out _ H4.out.1
  go_wp2_with fail
  refine (HCl.out _ _ H4.out.2.2.2).mono ?_
  rintro en v5 ⟨⟨mv, rfl, hrow⟩, hb⟩
  have H5 := Lib.hid (And.intro (H4.out.1.trans (hb.mono H4.out.1.size)) (And.intro (H4.out.2.1.below hb) (And.intro (H4.out.2.2.1.below hb) (And.intro (H4.out.2.2.2.below hb) hrow.rd))))
  obtain ⟨ma, mc, rfl, -⟩ := hrow.shape
  clear hrow cc
  clear hb
  go_wp2_with fail
  refine (HCx.out _ H5.out.2.2.1).mono ?_
  rintro en v6 ⟨⟨tv, rfl, hrow⟩, hb⟩
  have H6 := Lib.hid (And.intro (H5.out.1.trans (hb.mono H5.out.1.size)) (And.intro (H5.out.2.1.below hb) (And.intro (H5.out.2.2.1.below hb) (And.intro (H5.out.2.2.2.1.below hb) (And.intro (H5.out.2.2.2.2.below hb) hrow.rd)))))
  obtain ⟨ta, tc, rfl, -⟩ := hrow.shape
  clear hrow
  clear hb
  obtain ⟨N, hN⟩ : ∃ N, st.length = N := ⟨_, rfl⟩
  have HM := Lib.hid (And.intro H6.out.1 (And.intro H6.out.2.2.2.2.1 H6.out.2.2.2.2.2))
  have HSN := Lib.hid (And.intro hN (HSL.out.1.symm.trans hN))
  rw [hN, HSL.out.1.symm.trans hN]
  have hNb : (N : Int) ≤ 20 := by omega
  clear hst
  clear hN HD H1 H2 H3 H4 H5 H6
  go_wp2_with fail
  go_loopw [90] (fun c wr => ∃ k : Nat, k ≤ N ∧ c = .int .i64 k ∧ Hid (clashL (st.drop k) (su.drop k) = some (S, T) ∧ Below w.heap.size w wr ∧ Rd stepE wr (.slice ma N mc) st ∧ Rd stepE wr (.slice ta N tc) su)) (fun c _ => N - (intOf c).toNat)
  case atStart => exact ⟨0, by omega, rfl, Lib.hid ⟨HSL.out.2.1, HM.out.1, by have := HM.out.2.1; rw [HSN.out.1] at this; exact this, by have := HM.out.2.2; rw [HSN.out.2] at this; exact this⟩⟩
  case round =>
    obtain ⟨k, hk, rfl, hN⟩ := hrel
    by_cases hlt : k < N
    · have hki : (k : Int) < (N : Int) := by omega
      have h1k : k < st.length := by rw [HSN.out.1]; exact hlt
      have h2k : k < su.length := by rw [HSN.out.2]; exact hlt
      have hcs := Lib.hid (clash_step st su k S T hN.out.1 h1k h2k)
      obtain ⟨bm, om, rfl, hbm, m0, m1, m2, m3⟩ := Rd.stepAt hN.out.2.2.1 k h1k
      obtain ⟨bt, ot, rfl, hbt, t0, t1, t2, t3⟩ := Rd.stepAt hN.out.2.2.2 k h2k
      have hcw := clash_ways st[k] su[k]
      have zs := HSL.out.2.2.2.1 st[k] (List.getElem_mem h1k)
      have zt := HSL.out.2.2.2.2 su[k] (List.getElem_mem h2k)
      generalize st[k] = ss at *
      generalize su[k] = tt at *
      obtain ⟨si, sn, sa, sb⟩ := ss
      obtain ⟨ti, tn, ta', tb⟩ := tt
      simp only at m0 m1 m2 m3 t0 t1 t2 t3 hcw zs zt
      obtain ⟨W1, hW1⟩ : ∃ W1, wr.alloc (.cells #[.int .i64 (si : Nat), .int .i64 (sn : Nat), .string sa, .string sb] 61) = W1 := ⟨_, rfl⟩
      have hb1 : Below wr.heap.size wr W1 := by rw [← hW1]; exact alloc_below wr _
      have k1 : W1.heap[wr.heap.size]? = some (.cells #[.int .i64 (si : Nat), .int .i64 (sn : Nat), .string sa, .string sb] 61 (0, 0)) := by rw [← hW1]; exact alloc_new wr _
      obtain ⟨W2, hW2⟩ : ∃ W2, W1.alloc (.cells #[.int .i64 (ti : Nat), .int .i64 (tn : Nat), .string ta', .string tb] 61) = W2 := ⟨_, rfl⟩
      have hb2 : Below W1.heap.size W1 W2 := by rw [← hW2]; exact alloc_below W1 _
      have k2 : W2.heap[W1.heap.size]? = some (.cells #[.int .i64 (ti : Nat), .int .i64 (tn : Nat), .string ta', .string tb] 61 (0, 0)) := by rw [← hW2]; exact alloc_new W1 _
      have HW := Lib.hid (And.intro hW1 hW2)
      have HK := Lib.hid (And.intro (hb1.trans (hb2.mono hb1.size)) (And.intro (blk_on hb2 k1) k2))
      have HT := Lib.hid (And.intro ((hb1.cell (p := ⟨bt, ot + k * 4, none⟩) hbt).trans t0) (And.intro ((hb1.cell (p := ⟨bt, ot + k * 4 + 1, none⟩) hbt).trans t1) (And.intro ((hb1.cell (p := ⟨bt, ot + k * 4 + 2, none⟩) hbt).trans t2) ((hb1.cell (p := ⟨bt, ot + k * 4 + 3, none⟩) hbt).trans t3))))
      have HNS := Lib.hid (fun w => node_any sa sb w (by omega) (by omega))
      have HNT := Lib.hid (fun w => node_any ta' tb w (by omega) (by omega))
      have HIS := Lib.hid (fun w => inside_any sa sb w (by omega) (by omega))
      have HIT := Lib.hid (fun w => inside_any ta' tb w (by omega) (by omega))
      have HCW := Lib.hid hcw
      clear hW1 hW2 hb1 k1 hb2 k2 t0 t1 t2 t3 zs zt hcw hbm hbt
      go_upto_region 10 with fail
      rw [HW.out.1]
      obtain ⟨t0, t1, t2, t3⟩ := HT.out
      clear m0 m1 m2 m3
      go_upto_region 11 with fail
      rw [HW.out.2]
      clear t0 t1 t2 t3 HT HW
      obtain ⟨p0, p1, p2, p3, -, -⟩ := blk4 HK.out.2.1
      obtain ⟨q0, q1, q2, q3, -, -⟩ := blk4 HK.out.2.2
      have r2 := fun p => after_cell p2 p
      have r3 := fun p => after_cell p3 p
      have u2 := fun p => after_cell q2 p
      have u3 := fun p => after_cell q3 p
      have cS := Lib.hid (fun p => calls_after (p := p) (HNS.out (After W2 p)))
      have cT := Lib.hid (fun p => calls_after (p := p) (HNT.out (After W2 p)))
      have hse : sa = ⟨#[]⟩ ∨ (0 < sa.size) := by
        by_cases h : sa.size = 0
        · exact .inl (str_none sa h)
        · exact .inr (by omega)
      rcases HCW.out with ⟨rfl, hx⟩ | ⟨h0, rfl, rfl, hx⟩ | ⟨h0, hne1, hx⟩ | ⟨h0, rfl, hne1, hx⟩
      · have HX := Lib.hid hx
        clear hx hse HCW
        refine wp_region_after (by kernel_rfl) (by kernel_rfl) ?_
        repeat (go_big_quiet_step (fail))
        refine wpQuiet_nil ?_
        rintro w5 ⟨q, rfl⟩
        have hb5 := after_below W2 q
        have H5 := Lib.hid (And.intro (HK.out.1.trans (hb5.mono HK.out.1.size)) (And.intro (blk_on hb5 HK.out.2.1) (blk_on hb5 HK.out.2.2)))
        generalize After W2 q = w5 at *
        clear cS cT r2 r3 u2 u3 p0 p1 p2 p3 q0 q1 q2 q3 hb5
        have HN := Lib.hid (show clashL (st.drop (k + 1)) (su.drop (k + 1)) = some (S, T) by
          rcases hcs.out with ⟨h, _⟩ | ⟨_, h⟩
          · rw [HX.out] at h; cases h
          · exact h)
        go_wp2_with fail
        go_roundw
        case rel => exact ⟨k + 1, by omega, by go_num, Lib.hid ⟨HN.out, hN.out.2.1.trans (H5.out.1.mono hN.out.2.1.size), hN.out.2.2.1.below H5.out.1, hN.out.2.2.2.below H5.out.1⟩⟩
        case measure => simp [intOf]; omega
      · have HX := Lib.hid hx
        have he := str_some sa (hse.resolve_left h0)
        have he1 := he.1
        have he2 := he.2
        clear hx h0 hse he HCW
        refine wp_region_after (by kernel_rfl) (by kernel_rfl) ?_
        repeat (go_big_quiet_step (fail))
        refine wpQuiet_nil ?_
        rintro w5 ⟨q, rfl⟩
        have hb5 := after_below W2 q
        have H5 := Lib.hid (And.intro (HK.out.1.trans (hb5.mono HK.out.1.size)) (And.intro (blk_on hb5 HK.out.2.1) (blk_on hb5 HK.out.2.2)))
        generalize After W2 q = w5 at *
        clear cS cT r2 r3 u2 u3 p0 p1 p2 p3 q0 q1 q2 q3 hb5
        have HN := Lib.hid (show clashL (st.drop (k + 1)) (su.drop (k + 1)) = some (S, T) by
          rcases hcs.out with ⟨h, _⟩ | ⟨_, h⟩
          · rw [HX.out] at h; cases h
          · exact h)
        go_wp2_with fail
        go_roundw
        case rel => exact ⟨k + 1, by omega, by go_num, Lib.hid ⟨HN.out, hN.out.2.1.trans (H5.out.1.mono hN.out.2.1.size), hN.out.2.2.1.below H5.out.1, hN.out.2.2.2.below H5.out.1⟩⟩
        case measure => simp [intOf]; omega
      · have hnb := text_ne hne1
        have he := str_some sa (hse.resolve_left h0)
        have he1 := he.1
        have he2 := he.2
        clear h0 hse he HCW hne1
        rcases hx with ⟨hq, hx⟩ | ⟨hq, hx⟩
        · have HX := Lib.hid hx
          rw [← hq] at cT
          generalize nodeS sa sb = Q at *
          clear hx hq
          refine wp_region_after (by kernel_rfl) (by kernel_rfl) ?_
          repeat (go_big_quiet_step (fail))
          go_big_quiet_step (exact cS.out _)
          repeat (go_big_quiet_step (fail))
          go_big_quiet_step (exact cT.out _)
          repeat (go_big_quiet_step (fail))
          refine wpQuiet_nil ?_
          rintro w5 ⟨q, rfl⟩
          have hb5 := after_below W2 q
          have H5 := Lib.hid (And.intro (HK.out.1.trans (hb5.mono HK.out.1.size)) (And.intro (blk_on hb5 HK.out.2.1) (blk_on hb5 HK.out.2.2)))
          generalize After W2 q = w5 at *
          clear cS cT r2 r3 u2 u3 p0 p1 p2 p3 q0 q1 q2 q3 hb5
          have HS := Lib.hid (show Unlike (insideS sa sb) (insideS ta' tb) by
            rcases hcs.out with ⟨_, h1, h2⟩ | ⟨h, _⟩
            · have := HSL.out.2.2.1; rw [h1, h2] at this; exact this
            · rw [HX.out] at h; cases h)
          obtain ⟨p0, p1, p2, p3, -, -⟩ := blk4 H5.out.2.1
          obtain ⟨q0, q1, q2, q3, -, -⟩ := blk4 H5.out.2.2
          have r2 := fun p => after_cell p2 p
          have r3 := fun p => after_cell p3 p
          have u2 := fun p => after_cell q2 p
          have u3 := fun p => after_cell q3 p
          have dS := Lib.hid (fun p => calls_after (p := p) ((HIS.out (After w5 p)).mono fun e w' ⟨h1, h2⟩ => ⟨h1, by rw [h2]; exact Below.refl _ _⟩))
          have dT := Lib.hid (fun p => calls_after (p := p) ((HIT.out (After w5 p)).mono fun e w' ⟨h1, h2⟩ => ⟨h1, by rw [h2]; exact Below.refl _ _⟩))
          go_wp2_with fail
          refine wp_region_after (by kernel_rfl) (by kernel_rfl) ?_
          repeat (go_big_quiet_step (fail))
          go_big_quiet_step (exact dS.out _)
          repeat (go_big_quiet_step (fail))
          go_big_quiet_step (exact dT.out _)
          repeat (go_big_quiet_step (fail))
          refine wpQuiet_nil ?_
          rintro w6 ⟨q, rfl⟩
          have hb6 := after_below w5 q
          have H6 := Lib.hid (hN.out.2.1.trans ((H5.out.1.trans (hb6.mono H5.out.1.size)).mono hN.out.2.1.size))
          generalize After w5 q = w6 at *
          clear dS dT r2 r3 u2 u3 p0 p1 p2 p3 q0 q1 q2 q3 hb6
          go_wp2
          go_ret3
          exact HR.out _ _ ⟨⟨_, _, rfl, HS.out⟩, H6.out⟩
        · have HX := Lib.hid hx
          have hqb := text_ne hq
          generalize nodeS sa sb = Q at *
          generalize nodeS ta' tb = Q2 at *
          clear hx hq
          refine wp_region_after (by kernel_rfl) (by kernel_rfl) ?_
          repeat (go_big_quiet_step (fail))
          go_big_quiet_step (exact cS.out _)
          repeat (go_big_quiet_step (fail))
          go_big_quiet_step (exact cT.out _)
          repeat (go_big_quiet_step (fail))
          refine wpQuiet_nil ?_
          rintro w5 ⟨q, rfl⟩
          have hb5 := after_below W2 q
          have H5 := Lib.hid (And.intro (HK.out.1.trans (hb5.mono HK.out.1.size)) (And.intro (blk_on hb5 HK.out.2.1) (blk_on hb5 HK.out.2.2)))
          generalize After W2 q = w5 at *
          clear cS cT r2 r3 u2 u3 p0 p1 p2 p3 q0 q1 q2 q3 hb5
          have HN := Lib.hid (show clashL (st.drop (k + 1)) (su.drop (k + 1)) = some (S, T) by
            rcases hcs.out with ⟨h, _⟩ | ⟨_, h⟩
            · rw [HX.out] at h; cases h
            · exact h)
          go_wp2_with fail
          go_roundw
          case rel => exact ⟨k + 1, by omega, by go_num, Lib.hid ⟨HN.out, hN.out.2.1.trans (H5.out.1.mono hN.out.2.1.size), hN.out.2.2.1.below H5.out.1, hN.out.2.2.2.below H5.out.1⟩⟩
          case measure => simp [intOf]; omega
      · have hnb := text_ne hne1
        have he := str_some sa (hse.resolve_left h0)
        have he1 := he.1
        have he2 := he.2
        clear h0 hse he HCW hne1
        rcases hx with ⟨hq, hx⟩ | ⟨hq, hx⟩
        · have HX := Lib.hid hx
          rw [← hq] at cT
          generalize nodeS sa sb = Q at *
          clear hx hq
          refine wp_region_after (by kernel_rfl) (by kernel_rfl) ?_
          repeat (go_big_quiet_step (fail))
          go_big_quiet_step (exact cS.out _)
          repeat (go_big_quiet_step (fail))
          go_big_quiet_step (exact cT.out _)
          repeat (go_big_quiet_step (fail))
          refine wpQuiet_nil ?_
          rintro w5 ⟨q, rfl⟩
          have hb5 := after_below W2 q
          have H5 := Lib.hid (And.intro (HK.out.1.trans (hb5.mono HK.out.1.size)) (And.intro (blk_on hb5 HK.out.2.1) (blk_on hb5 HK.out.2.2)))
          generalize After W2 q = w5 at *
          clear cS cT r2 r3 u2 u3 p0 p1 p2 p3 q0 q1 q2 q3 hb5
          have HS := Lib.hid (show Unlike (insideS sa sb) (insideS sa tb) by
            rcases hcs.out with ⟨_, h1, h2⟩ | ⟨h, _⟩
            · have := HSL.out.2.2.1; rw [h1, h2] at this; exact this
            · rw [HX.out] at h; cases h)
          obtain ⟨p0, p1, p2, p3, -, -⟩ := blk4 H5.out.2.1
          obtain ⟨q0, q1, q2, q3, -, -⟩ := blk4 H5.out.2.2
          have r2 := fun p => after_cell p2 p
          have r3 := fun p => after_cell p3 p
          have u2 := fun p => after_cell q2 p
          have u3 := fun p => after_cell q3 p
          have dS := Lib.hid (fun p => calls_after (p := p) ((HIS.out (After w5 p)).mono fun e w' ⟨h1, h2⟩ => ⟨h1, by rw [h2]; exact Below.refl _ _⟩))
          have dT := Lib.hid (fun p => calls_after (p := p) ((HIT.out (After w5 p)).mono fun e w' ⟨h1, h2⟩ => ⟨h1, by rw [h2]; exact Below.refl _ _⟩))
          go_wp2_with fail
          refine wp_region_after (by kernel_rfl) (by kernel_rfl) ?_
          repeat (go_big_quiet_step (fail))
          go_big_quiet_step (exact dS.out _)
          repeat (go_big_quiet_step (fail))
          go_big_quiet_step (exact dT.out _)
          repeat (go_big_quiet_step (fail))
          refine wpQuiet_nil ?_
          rintro w6 ⟨q, rfl⟩
          have hb6 := after_below w5 q
          have H6 := Lib.hid (hN.out.2.1.trans ((H5.out.1.trans (hb6.mono H5.out.1.size)).mono hN.out.2.1.size))
          generalize After w5 q = w6 at *
          clear dS dT r2 r3 u2 u3 p0 p1 p2 p3 q0 q1 q2 q3 hb6
          go_wp2
          go_ret3
          exact HR.out _ _ ⟨⟨_, _, rfl, HS.out⟩, H6.out⟩
        · have HX := Lib.hid hx
          have hqb := text_ne hq
          generalize nodeS sa sb = Q at *
          generalize nodeS sa tb = Q2 at *
          clear hx hq
          refine wp_region_after (by kernel_rfl) (by kernel_rfl) ?_
          repeat (go_big_quiet_step (fail))
          go_big_quiet_step (exact cS.out _)
          repeat (go_big_quiet_step (fail))
          go_big_quiet_step (exact cT.out _)
          repeat (go_big_quiet_step (fail))
          refine wpQuiet_nil ?_
          rintro w5 ⟨q, rfl⟩
          have hb5 := after_below W2 q
          have H5 := Lib.hid (And.intro (HK.out.1.trans (hb5.mono HK.out.1.size)) (And.intro (blk_on hb5 HK.out.2.1) (blk_on hb5 HK.out.2.2)))
          generalize After W2 q = w5 at *
          clear cS cT r2 r3 u2 u3 p0 p1 p2 p3 q0 q1 q2 q3 hb5
          have HN := Lib.hid (show clashL (st.drop (k + 1)) (su.drop (k + 1)) = some (S, T) by
            rcases hcs.out with ⟨h, _⟩ | ⟨_, h⟩
            · rw [HX.out] at h; cases h
            · exact h)
          go_wp2_with fail
          go_roundw
          case rel => exact ⟨k + 1, by omega, by go_num, Lib.hid ⟨HN.out, hN.out.2.1.trans (H5.out.1.mono hN.out.2.1.size), hN.out.2.2.1.below H5.out.1, hN.out.2.2.2.below H5.out.1⟩⟩
          case measure => simp [intOf]; omega
    · obtain rfl : k = N := by omega
      have h9 := hN.out.1
      rw [← HSN.out.1] at h9
      exact (clash_end st su S T h9).elim
theorem clash_any (lv : Value) (l : List ByteArray) (i : Int) (x : ByteArray) (pv : Value) (ps : List ByteArray) (w : World) (hl : Rd strE w lv l) (hp : Rd strE w pv ps) (hln : l.length ≤ 1048576) (hpn : ps.length ≤ 100000000) :
    Calls Try.prog 23 #[lv, .int .i64 i, .string x, pv] w fun e w' => (if wholeL l = true ∧ 0 ≤ i ∧ i < l.length ∧ l[i.toNat]? ≠ some x ∧ isV (rootL l) l.length i x ps = true then clashY e else clashN e) ∧ Below w.heap.size w w' := by
  cases hw : wholeL l
  · exact (clash_no1 lv l i x pv ps w hl hp hln hpn hw).mono fun e w' ⟨h1, h2⟩ => ⟨by rw [if_neg (fun h => by cases h.1)]; exact h1, h2⟩
  by_cases h0 : i < 0
  · exact (clash_no2 lv l i x pv ps w hl hp hln hpn hw (.inl h0)).mono fun e w' ⟨h1, h2⟩ => ⟨by rw [if_neg (fun h => by have := h.2.1; omega)]; exact h1, h2⟩
  by_cases h1 : (l.length : Int) ≤ i
  · exact (clash_no2 lv l i x pv ps w hl hp hln hpn hw (.inr ⟨h0, h1⟩)).mono fun e w' ⟨h1, h2⟩ => ⟨by rw [if_neg (fun h => by have := h.2.2.1; omega)]; exact h1, h2⟩
  obtain ⟨j, rfl⟩ : ∃ j : Nat, i = (j : Int) := ⟨i.toNat, by omega⟩
  have hj : j < l.length := by omega
  rw [Int.toNat_natCast, List.getElem?_eq_getElem hj]
  by_cases he : l[j] = x
  · exact (clash_no3 lv l j x pv ps w hl hp hln hpn hw hj he).mono fun e w' ⟨h1, h2⟩ => ⟨by rw [if_neg (fun h => h.2.2.2.1 (by rw [he]))]; exact h1, h2⟩
  have he' : ¬ x = l[j] := fun h => he h.symm
  cases hc : isV (rootL l) l.length j x ps
  · exact (clash_no4 lv l j x pv ps w hl hp hln hpn hw hj he' hc).mono fun e w' ⟨h1, h2⟩ => ⟨by rw [if_neg (fun h => by cases h.2.2.2.2)]; exact h1, h2⟩
  · exact (clash_yes lv l j x pv ps w hl hp hln hpn hw hj he' hc).mono fun e w' ⟨h1, h2⟩ => ⟨by rw [if_pos ⟨rfl, by omega, by omega, fun h => he (by simpa using h), rfl⟩]; exact h1, h2⟩
end Go.Proofs.Ytophfeapmmfppaa
/- Slices among a law's arguments, of whatever elements: what they read as. No program is in sight. -/
namespace Ks
open Go Go.RowKit Go.ChangeShapes Go.WideShapes Go.ChangeAt
set_option linter.unusedVariables false

section
variable {α : Type} {E : Enc α} {H : Type} {enc : TypeId × Value → H} {P : Program} {W : World}

theorem cells_at {w : World} {base : Nat} {a : Addr} {k : Nat} {cs : List Value} (h : w.cells? base a k = some cs) : cs.length = k ∧ ∀ j u, cs[j]? = some u → w.cell? (a.add j) = some u := by
  obtain ⟨_, h2, h3⟩ := World.cells?_some h
  refine ⟨h2, fun j u hj => ?_⟩
  have hlt : j < k := by have := (List.getElem?_eq_some_iff.1 hj).1; omega
  have := h3 j hlt
  rw [hj] at this
  exact this

theorem rd_opens {T e : TypeId} {fuel : Nat} {cs : List Value} {d : DataW H × List MemPlace} (hT : P.underlying T = some (.slice e)) (hc : P.cellsOf e = E.k) (G : α → Prop)
    (hE : ∀ n cs d, DataW.trod enc P W 0 (fun _ => true) true n e cs = some d → cs.length = E.k → ∃ x, cs = E.enc x ∧ G x)
    (h : DataW.trod enc P W 0 (fun _ => true) true fuel T cs = some d) : ∃ v l, cs = [v] ∧ v.oneCell' = true ∧ Rd E W v l ∧ l.length ≤ maxLen ∧ ∀ x ∈ l, G x := by
  rcases Go.Deep.open_slice hT h with ⟨rfl, _⟩ | ⟨a, len, cap, m, n, D, Pl, rfl, _, hl, hm, hmm, _, hxx⟩
  · exact ⟨_, [], rfl, rfl, Rd.nil W, by simp, fun x hx => by simp at hx⟩
  · simp only [if_true] at hmm
    have hall : ∀ i, i < len → ∃ x : α, G x ∧ ∀ j u, (E.enc x)[j]? = some u → W.cell? ((a.add (i * E.k)).add j) = some u := by
      intro i hi
      obtain ⟨cs', h1, h2⟩ := hxx i (by omega)
      rw [hc] at h1
      obtain ⟨h3, h4⟩ := cells_at h1
      obtain ⟨x, rfl, hG⟩ := hE _ _ _ h2 h3
      exact ⟨x, hG, h4⟩
    have key : ∀ k, k ≤ len → ∃ l : List α, l.length = k ∧ (∀ x ∈ l, G x) ∧ ∀ i x, l[i]? = some x → ∀ j u, (E.enc x)[j]? = some u → W.cell? ((a.add (i * E.k)).add j) = some u := by
      intro k
      induction k with
      | zero => exact fun _ => ⟨[], rfl, fun x hx => by simp at hx, fun i x hx => by simp at hx⟩
      | succ k ih =>
        intro hk
        obtain ⟨l, h1, h2, h3⟩ := ih (by omega)
        obtain ⟨x, hG, hc⟩ := hall k (by omega)
        refine ⟨l ++ [x], by simp [h1], fun y hy => ?_, fun i y hy => ?_⟩
        · rcases List.mem_append.1 hy with h | h
          · exact h2 y h
          · simp at h; subst h; exact hG
        · by_cases hi : i < l.length
          · rw [List.getElem?_append_left hi] at hy
            exact h3 i y hy
          · have hik : i = k := by have := (List.getElem?_eq_some_iff.1 hy).1; simp at this; omega
            subst hik
            rw [List.getElem?_append_right (by omega), h1, Nat.sub_self] at hy
            simp at hy
            subst hy
            exact hc
    obtain ⟨l, hlen, hG, hcell⟩ := key len (Nat.le_refl _)
    subst hlen
    refine ⟨_, l, rfl, rfl, ⟨some a, cap, rfl, hl, fun e => by simp at e, fun i x hx => ?_⟩, by omega, hG⟩
    have h0 : 0 < (E.enc x).length := by rw [E.len]; exact E.pos
    have hlt : 0 < l.length := by have := (List.getElem?_eq_some_iff.1 hx).1; omega
    have h00 : 0 < (E.enc l[0]).length := by rw [E.len]; exact E.pos
    have hc0 := hcell 0 l[0] (List.getElem?_eq_getElem hlt) 0 _ (List.getElem?_eq_getElem h00)
    obtain ⟨b, o, s⟩ := a
    have ha : ((⟨b, o, s⟩ : Addr).add (0 * E.k)).add 0 = ⟨b, o, s⟩ := by simp [Addr.add]
    rw [ha] at hc0
    have hs : s = none := spot_none hc0
    subst hs
    refine ⟨b, o, rfl, ?_, fun j u hu => ?_⟩
    · exact World.block_lt_of_cell? _ _ hc0
    · have := hcell i x hx j u hu
      rwa [add_place, add_place] at this

theorem rd_open {T e : TypeId} {base : Nat} {v : Value} {d : DataW H} {ps : List MemPlace} (hT : P.underlying T = some (.slice e)) (hc : P.cellsOf e = E.k) (G : α → Prop)
    (hE : ∀ n cs d, DataW.trod enc P W 0 (fun _ => true) true n e cs = some d → cs.length = E.k → ∃ x, cs = E.enc x ∧ G x)
    (hok : Value.okWide P W .any base T v) (h : DataW.Trod enc P W 0 (fun _ => true) true T v d ps) : ∃ l, Rd E W v l ∧ l.length ≤ maxLen ∧ ∀ x ∈ l, G x := by
  obtain ⟨a0, len, cap, rfl⟩ := okWide_slice hT hok
  obtain ⟨fuel, hf⟩ := h
  obtain ⟨v', l, e, _, h1, h2, h3⟩ := rd_opens (E := E) hT hc G hE hf
  simp only [Value.cells, List.cons.injEq, and_true] at e
  subst e
  exact ⟨l, h1, h2, h3⟩
end

theorem choose_list {α β : Type} {p : α → β → Prop} : ∀ (l : List α), (∀ x ∈ l, ∃ y, p x y) → ∃ l' : List β, l'.length = l.length ∧ ∀ (i : Nat) (x : α) (y : β), l[i]? = some x → l'[i]? = some y → p x y
  | [], _ => ⟨[], rfl, fun i x y hx => by simp at hx⟩
  | x :: l, h => by
    obtain ⟨y, hy⟩ := h x (by simp)
    obtain ⟨l', h1, h2⟩ := choose_list l fun z hz => h z (by simp [hz])
    refine ⟨y :: l', by simp [h1], fun i a b ha hb => ?_⟩
    match i, ha, hb with
    | 0, ha, hb => simp at ha hb; subst ha hb; exact hy
    | i + 1, ha, hb => exact h2 i a b (by simpa using ha) (by simpa using hb)

/-- a slice's head, as data -/
abbrev Hdr := Option Addr × Nat × Nat
abbrev hdrV (h : Hdr) : Value := .slice h.1 h.2.1 h.2.2
end Ks
/- Texts among a law's arguments. -/
namespace Go.Proofs.Ytophfeapmmfppaa
open Go Go.RowKit Go.ChangeShapes Go.WideShapes Go.ChangeAt Ks
set_option linter.unusedVariables false
theorem cellsStrS : Try.prog.cellsOf 9 = 1 := by kernel_rfl
theorem str_of {H : Type} {enc : TypeId × Value → H} {W : World} (n : Nat) (cs : List Value) (d : DataW H × List MemPlace) (h : DataW.trod enc Try.prog W 0 (fun _ => true) true n 9 cs = some d) (hl : cs.length = strE.k) :
    ∃ x : ByteArray, cs = strE.enc x ∧ x.size ≤ maxLen := by
  obtain ⟨t, h1, _, s1⟩ := DataW.trod_string Try.underlying9 h
  exact ⟨t, h1, s1⟩
set_option maxRecDepth 100000 in
theorem open_strs {H : Type} {enc : TypeId × Value → H} {W : World} {base : Nat} {v : Value} {d : DataW H} {ps : List MemPlace}
    (hok : Value.okWide Try.prog W .any base 22 v) (h : DataW.Trod enc Try.prog W 0 (fun _ => true) true 22 v d ps) : ∃ l, Rd strE W v l ∧ l.length ≤ maxLen ∧ ∀ x ∈ l, x.size ≤ maxLen :=
  rd_open (E := strE) Try.underlying22 cellsStrS _ str_of hok h
end Go.Proofs.Ytophfeapmmfppaa
