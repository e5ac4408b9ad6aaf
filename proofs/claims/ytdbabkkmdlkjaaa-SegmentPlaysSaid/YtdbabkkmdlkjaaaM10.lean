/- Texts that the claim rests on, part 10: MovedFork, MerkleRPath, ProofOwn, SegLeaves, ProofRef, ProofSame, SegLow, Open, FrameSeg. -/
import Derived.BigQuiet
import Derived.Deep.Slices
import Derived.Test.YtdbabkkmdlkjaaaProg
import Derived.Test.YtdbabkkmdlkjaaaM9
/- A region that draws its order, where two steps may come either way round: a call that makes a row of its own, and what is appended to it. Plain. No program is in sight. -/
namespace Ks
open Go Go.RowKit
set_option linter.unusedVariables false
section
variable {P : Program} {ops : Array Oper} {md : Region.Mode} {C : Told → World → Prop}
theorem mOp_alone {K : Told → Act → Prop} {F : Told} {a : Act} (i : Nat) {o : Oper} (ho : ops[i]? = some o) (hw : Region.wanted o (yielded ops a.tmps) = true) (V : Value → Prop)
    (hc : ∀ g w, agree md o F g → g i = none → C g w → ∀ D : Value → World → Prop, (∀ v w', V v → C (upd g i v) w' → D v w') → movesUpon P D ((execOp a.eval o).run P w))
    (hK : ∀ v, V v → K (upd F i v) (a.put o.dst v)) : mOp P md ops C i K F a :=
  Moves.mOp (V := V) ho (.inl ⟨hw, fun g w h0 h1 h2 => hc g w h0 h1 h2 _ fun v w' a b => ⟨a, b⟩⟩) hK
theorem mOp_call {K : Told → Act → Prop} {F : Told} {a : Act} (i : Nat) {o : Oper} (f : FuncId) {xs : Array Operand} {ts : Array TypeId} (ho : ops[i]? = some o) (hw : Region.wanted o (yielded ops a.tmps) = true)
    (hop : o.op = Op.call { callee := Callee.value (.func f), args := xs, argTypes := ts }) (eg : ∀ args w, (callFunc f args).run P w = .ok (.enter f args) w) {args : Array Value} (hargs : xs.toList.map a.eval = args.toList)
    (V : Value → Prop) (hc : ∀ g w, agree md o F g → g i = none → C g w → Calls P f args w fun e w' => ∃ v, e = .returned v ∧ V v ∧ C (upd g i v) w')
    (hK : ∀ v, V v → K (upd F i v) (a.put o.dst v)) : mOp P md ops C i K F a := by
  refine Moves.mOp (V := V) ho (.inl ⟨hw, fun g w h0 h1 h2 => ?_⟩) hK
  have hrun : (execOp a.eval o).run P w = .ok (.enter f args) w := by
    have h : xs.map a.eval = args := Array.toList_inj.1 (by simpa using hargs)
    simp [execOp, hop, resolve, Deferred.ofValue, Act.eval, invoke, eg, ← h]
  rw [hrun]
  exact hc g w h0 h1 h2
theorem mv_fork {Q : Told → Act → Prop} {fuel : Nat} {listed : Array Bool} {F : Told} {a : Act} (i j : Nat) (hr : Region.ready md ops listed = [i, j])
    (h1 : mOp P md ops C i (wpAnyM P md ops C Q fuel (listed.setIfInBounds i true)) F a) (h2 : mOp P md ops C j (wpAnyM P md ops C Q fuel (listed.setIfInBounds j true)) F a) : wpAnyM P md ops C Q (fuel + 1) listed F a := by
  refine ⟨by rw [hr]; simp, fun k hk => ?_⟩
  rw [hr] at hk
  rcases List.mem_cons.1 hk with rfl | hk
  · exact h1
  · obtain rfl : k = j := by simpa using hk
    exact h2
end
/-- a class of worlds behind one, where a call makes a row of its own (p), a step makes what is appended (s), and a step appends it (u) -/
def Joins {α : Type} (E : Enc α) (w0 : World) (T : TypeId) (L l : List α) (p s u : Option Value) (w : World) : Prop :=
  Below w0.heap.size w0 w ∧ (match u with
  | none => (∀ v, p = some v → Row E w w0.heap.size T v L) ∧ (∀ x, s = some x → Rd E w x l)
  | some u => (p ≠ none ∧ s ≠ none) ∧ Row E w w0.heap.size T u (L ++ l))
section
variable {α : Type} {E : Enc α} {w0 w w' : World} {T : TypeId} {L l : List α} {p s u : Option Value}
theorem Joins.start (hb : Below w0.heap.size w0 w) : Joins E w0 T L l none none none w := ⟨hb, ⟨(fun v h => by cases h), (fun v h => by cases h)⟩⟩
theorem Joins.on (h : Joins E w0 T L l p s u w) (hb : Below w.heap.size w w') : Joins E w0 T L l p s u w' := by
  refine ⟨h.1.trans (hb.mono h.1.size), ?_⟩
  have h2 := h.2
  cases u with
  | none => exact ⟨fun v e => (h2.1 v e).below hb, fun x e => (h2.2 x e).below hb⟩
  | some u => exact ⟨h2.1, h2.2.below hb⟩
theorem Joins.early1 (h : Joins E w0 T L l none s u w) : u = none := by
  cases u with
  | none => rfl
  | some u => exact absurd rfl h.2.1.1
theorem Joins.early2 (h : Joins E w0 T L l p none u w) : u = none := by
  cases u with
  | none => rfl
  | some u => exact absurd rfl h.2.1.2
theorem Joins.path {v : Value} (h : Joins E w0 T L l none s u w) (hr : Row E w' w.heap.size T v L) (hb : Below w.heap.size w w') : Joins E w0 T L l (some v) s u w' := by
  obtain rfl := h.early1
  exact ⟨h.1.trans (hb.mono h.1.size), ⟨(fun v' e => by cases e; exact hr.down h.1.size), (fun x e => (h.2.2 x e).below hb)⟩⟩
theorem Joins.made (h : Joins E w0 T L l p none u w) (cs : Array Value) (e : cs.toList = E.cs l) (fr : Nat × Nat := (0, 0)) (T' : TypeId) : Joins E w0 T L l p (some (.slice (some ⟨w.heap.size, 0, none⟩) l.length l.length)) u (w.alloc (.cells cs T' fr)) := by
  obtain rfl := h.early2
  have hb := alloc_below w (.cells cs T' fr)
  exact ⟨h.1.trans (hb.mono h.1.size), ⟨(fun v e => (h.2.1 v e).below hb), (fun x e2 => by cases e2; exact Rd.block (alloc_new w _) e)⟩⟩
theorem Joins.rows {v x : Value} (h : Joins E w0 T L l (some v) (some x) none w) : Row E w w0.heap.size T v L ∧ Rd E w x l ∧ w0.heap.size ≤ w.heap.size := ⟨h.2.1 v rfl, h.2.2 x rfl, h.1.size⟩
theorem Joins.grew {v x v' : Value} (h : Joins E w0 T L l (some v) (some x) none w) (hG : Grew E w w' w0.heap.size T v v' (L ++ l)) : Joins E w0 T L l (some v) (some x) (some v') w' :=
  ⟨hG.below h.1 h.1.size (fun b e => ((h.2.1 v rfl).lt e).1), ⟨(fun e => by cases e), (fun e => by cases e)⟩, hG.1⟩
end
end Ks
/- The reference's trees of hashes: a leaf's path. -/
namespace Go.Proofs.Ytdbabkkmdlkjaaa
open Go.RowKit Ks
set_option linter.unusedVariables false
theorem eg_rroot : ∀ args w, (callFunc 16 args).run Try.prog w = .ok (.enter 16 args) w := fun _ _ => rfl
theorem eg_rpath : ∀ args w, (callFunc 31 args).run Try.prog w = .ok (.enter 31 args) w := fun _ _ => rfl
theorem path_len : ∀ (n : Nat) (l : List ByteArray) (i : Nat), l.length = n → (pathL l i).length ≤ n := by
  intro n
  induction n using Nat.strongRecOn with
  | ind n ih =>
    intro l i hn
    by_cases h : 2 ≤ l.length
    · have hh := half_lt l.length h
      rw [path_two l i h]
      split
      · have := ih (halfN l.length) (by omega) (l.take (halfN l.length)) i (by rw [List.length_take]; omega)
        simp; omega
      · have := ih (l.length - halfN l.length) (by omega) (l.drop (halfN l.length)) (i - halfN l.length) (by rw [List.length_drop])
        simp; omega
    · rw [path_low l i h]; simp
set_option maxRecDepth 100000 in
set_option maxHeartbeats 4000000 in
theorem rpath_any : ∀ (n : Nat) (l : List ByteArray) (i : Nat) (lv : Value) (w : World), l.length = n → n ≤ 100000000 → i < n → Rd strE w lv l → wholeL l = true →
    Calls Try.prog 31 #[lv, .int .i64 (i : Nat)] w fun e w' => ∃ v, e = .returned v ∧ Row strE w' w.heap.size 9 v (pathL l i) ∧ Below w.heap.size w w' := by
  intro n
  induction n using Nat.strongRecOn with
  | ind n ih =>
  intro l i lv w hn hb hi hr hw
  refine calls_by fun R HR => ?_
  obtain ⟨a, cap, rfl, hcap, -⟩ := hr.shape
  by_cases h2 : 2 ≤ n
  · obtain ⟨b, o, rfl, hb1, -⟩ := hr.str 0 (by omega)
    have hn2 : ¬ (l.length : Int) < 2 := by omega
    have hh := half_lt l.length (by omega)
    have HH := Lib.hid (rhalf_any l.length w (by omega) (by omega))
    have hw' : ∀ s ∈ l, s.size = 32 := by simpa [wholeL] using hw
    have w1' : wholeL (l.take (halfN l.length)) = true := by simp only [wholeL, List.all_eq_true, beq_iff_eq]; exact fun s hs => hw' s (List.mem_of_mem_take hs)
    have w2 : wholeL (l.drop (halfN l.length)) = true := by simp only [wholeL, List.all_eq_true, beq_iff_eq]; exact fun s hs => hw' s (List.mem_of_mem_drop hs)
    have hT := hr.take (k := halfN l.length) (by omega) cap (by omega)
    have hD := hr.drop (k := halfN l.length) (by omega) (some ⟨b, o + halfN l.length, none⟩) (fun _ => by simp [strE]) (by simp) (cap - halfN l.length) (by omega)
    have hk1 : ((halfN l.length : Nat) : Int) < (l.length : Int) := by omega
    have hk0 : (0 : Int) < ((halfN l.length : Nat) : Int) := by omega
    have hk2 : ((halfN l.length : Nat) : Int) ≤ (cap : Int) := by omega
    have hk3 : ¬ cap = halfN l.length := by omega
    have hk4 : ((halfN l.length : Nat) : Int) ≤ (l.length : Int) := by omega
    have hk5 : (l.length : Int) ≤ (cap : Int) := by omega
    have hli : (l.length : Int) ≤ 100000000 := by omega
    by_cases hk : i < halfN l.length
    · have HZ := Lib.hid (show pathL l i = pathL (l.take (halfN l.length)) i ++ [rootL (l.drop (halfN l.length))] by rw [path_two l i (by omega), if_pos hk])
      have cR := Lib.hid (fun (w1 : World) (h : Below w.heap.size w w1) => rroot_any (l.drop (halfN l.length)).length (l.drop (halfN l.length)) _ w1 rfl (by rw [List.length_drop]; omega) (hD.below h) w2)
      have cP := Lib.hid (fun (w1 : World) (h : Below w.heap.size w w1) => ih (l.take (halfN l.length)).length (by rw [List.length_take]; omega) (l.take (halfN l.length)) i _ w1 rfl (by rw [List.length_take]; omega) (by rw [List.length_take]; omega) (hT.below h) w1')
      have hAL := Lib.hid (show (pathL (l.take (halfN l.length)) i).length ≤ 100000000 by have := path_len _ (l.take (halfN l.length)) i rfl; rw [List.length_take] at this; omega)
      have hki : (i : Int) < ((halfN l.length : Nat) : Int) := by omega
      generalize rootL (l.drop (halfN l.length)) = y at *
      generalize pathL (l.take (halfN l.length)) i = A at *
      generalize halfN l.length = k at *
      clear hr ih hn h2 hw hw' w1' w2 hT hD hh hk hi
      go_enter Try.func31, Try.ntmps31
      go_wp2_with fail
      refine HH.out.mono ?_
      rintro e w3 ⟨rfl, hw3⟩
      rw [hw3]
      clear hw3
      go_wp2_with fail
      refine wp_region_mv (fun f => Joins strE w 9 A [y] (f 4) (f 9) (f 10)) (by kernel_rfl) (Joins.start (drew_below w)) ?_
      obtain ⟨S, F, hF, hFC⟩ := moved_class (fun f => Joins strE w 9 A [y] (f 4) (f 9) (f 10))
      show wpAnyM _ _ _ _ _ 12 (Array.replicate 12 false) _ _
      refine mv_read 0 hF (fun _ _ _ h => h) rfl (by kernel_rfl) (by kernel_rfl) (by kernel_rfl) (fun K hK => ?_)
      go_simp
      first | refine ⟨_, fun _ => rfl, hK _ _ ?_⟩ | refine hK _ _ ?_
      clear hK K
      refine mv_read 1 hF (fun _ _ _ h => h) rfl (by kernel_rfl) (by kernel_rfl) (by kernel_rfl) (fun K hK => ?_)
      go_simp
      first | refine ⟨_, fun _ => rfl, hK _ _ ?_⟩ | refine hK _ _ ?_
      clear hK K
      refine mv_read 2 hF (fun _ _ _ h => h) rfl (by kernel_rfl) (by kernel_rfl) (by kernel_rfl) (fun K hK => ?_)
      go_simp
      first | refine ⟨_, fun _ => rfl, hK _ _ ?_⟩ | refine hK _ _ ?_
      clear hK K
      refine mv_read 3 hF (fun _ _ _ h => h) rfl (by kernel_rfl) (by kernel_rfl) (by kernel_rfl) (fun K hK => ?_)
      go_simp
      first | refine ⟨_, fun _ => rfl, hK _ _ ?_⟩ | refine hK _ _ ?_
      clear hK K
      refine mv_read 5 hF (fun _ _ _ h => h) rfl (by kernel_rfl) (by kernel_rfl) (by kernel_rfl) (fun K hK => ?_)
      go_simp
      first | refine ⟨_, fun _ => rfl, hK _ _ ?_⟩ | refine hK _ _ ?_
      clear hK K
      refine mv_read 6 hF (fun _ _ _ h => h) rfl (by kernel_rfl) (by kernel_rfl) (by kernel_rfl) (fun K hK => ?_)
      go_simp
      first | refine ⟨_, fun _ => rfl, hK _ _ ?_⟩ | refine hK _ _ ?_
      clear hK K
      refine mv_read 7 hF (fun _ _ _ h => h) rfl (by kernel_rfl) (by kernel_rfl) (by kernel_rfl) (fun K hK => ?_)
      go_simp
      first | refine ⟨_, fun _ => rfl, hK _ _ ?_⟩ | refine hK _ _ ?_
      clear hK K
      refine mv_call 4 31 rfl (by kernel_rfl) rfl rfl eg_rpath (args := #[.slice (some ⟨b, o, none⟩) k cap, .int .i64 (i : Nat)]) rfl (fun _ => True) (fun g w1 ha h0 h => by
          simp only [h0] at h
          exact (cP.out w1 h.1).mono fun e w' ⟨v', h1, h2, h3⟩ => ⟨v', h1, trivial, h.path h2 h3⟩) ?_
      rintro pv -
      refine mv_call1 8 16 rfl (by kernel_rfl) (by kernel_rfl) (by kernel_rfl) rfl rfl eg_rroot (args := #[.slice (some ⟨b, o + k, none⟩) (l.length - k) (cap - k)]) rfl (u := .string y) (fun g w1 _ _ h => (cR.out w1 h.1).mono fun e w' ⟨h1, h2⟩ => ⟨h1, h.on h2⟩) ?_
      refine mv_alone 9 rfl (by kernel_rfl) rfl (fun v => ∃ g, v = .slice (some ⟨g, 0, none⟩) 1 1) (fun g w1 ha h0 h D hD => by
          simp only [h0] at h
          have h8 := h.made #[.string y] rfl (T' := 9)
          clear h
          go_simp
          exact hD _ _ ⟨_, rfl⟩ h8) ?_
      rintro _ ⟨gs, rfl⟩
      refine mv_append 10 rfl (by kernel_rfl) rfl (.tmp 19) (.tmp 24) 42 rfl strT w.heap.size _ _ A [y] rfl rfl (by have := hAL.out; simp; omega) (by decide) (fun g w1 ha h0 h => ?_) (fun _ => True) (fun g w1 v' w' ha h0 h hG => ?_) ?_
      · have e1 : g 9 = some (.slice (some ⟨gs, 0, none⟩) 1 1) := (agree_on 9 ha (by kernel_rfl)).trans rfl
        have e2 : g 4 = some pv := (agree_on 4 ha (by kernel_rfl)).trans rfl
        simp only [e1, e2, h0] at h
        exact h.rows
      · have e1 : g 9 = some (.slice (some ⟨gs, 0, none⟩) 1 1) := (agree_on 9 ha (by kernel_rfl)).trans rfl
        have e2 : g 4 = some pv := (agree_on 4 ha (by kernel_rfl)).trans rfl
        simp only [e1, e2, h0] at h
        refine ⟨trivial, ?_⟩
        show Joins _ _ _ _ _ (g 4) (g 9) _ _
        rw [e1, e2]
        exact h.grew hG
      rintro vz -
      refine mv_read 11 hF (fun _ _ _ h => h) rfl (by kernel_rfl) (by kernel_rfl) (by kernel_rfl) (fun K hK => ?_)
      go_simp
      first | refine ⟨_, fun _ => rfl, hK _ _ ?_⟩ | refine hK _ _ ?_
      clear hK K
      refine mv_end (by kernel_rfl) ?_
      intro w2 hw2
      have HG : Joins strE w 9 A [y] (some pv) (some (.slice (some ⟨gs, 0, none⟩) 1 1)) (some vz) w2 := hw2
      have HG := Lib.hid HG
      clear hw2 hF hFC
      go_wp2
      exact HR.out _ _ ⟨vz, rfl, by rw [HZ.out]; exact HG.out.2.2, HG.out.1⟩
    · have HZ := Lib.hid (show pathL l i = pathL (l.drop (halfN l.length)) (i - halfN l.length) ++ [rootL (l.take (halfN l.length))] by rw [path_two l i (by omega), if_neg hk])
      have cR := Lib.hid (fun (w1 : World) (h : Below w.heap.size w w1) => rroot_any (l.take (halfN l.length)).length (l.take (halfN l.length)) _ w1 rfl (by rw [List.length_take]; omega) (hT.below h) w1')
      have cP := Lib.hid (fun (w1 : World) (h : Below w.heap.size w w1) => ih (l.drop (halfN l.length)).length (by rw [List.length_drop]; omega) (l.drop (halfN l.length)) (i - halfN l.length) _ w1 rfl (by rw [List.length_drop]; omega) (by rw [List.length_drop]; omega) (hD.below h) w2)
      have hAL := Lib.hid (show (pathL (l.drop (halfN l.length)) (i - halfN l.length)).length ≤ 100000000 by have := path_len _ (l.drop (halfN l.length)) (i - halfN l.length) rfl; rw [List.length_drop] at this; omega)
      have hki : ¬ (i : Int) < ((halfN l.length : Nat) : Int) := by omega
      have e2 : (i : Int) - ((halfN l.length : Nat) : Int) = ((i - halfN l.length : Nat) : Int) := by omega
      have hii : i - halfN l.length ≤ 100000000 := by omega
      generalize rootL (l.take (halfN l.length)) = y at *
      generalize pathL (l.drop (halfN l.length)) (i - halfN l.length) = A at *
      generalize i - halfN l.length = i2 at *
      generalize halfN l.length = k at *
      have wi2 : IntKind.i64.wrap ((i2 : Nat) : Int) = ((i2 : Nat) : Int) := by rw [IntKind.wrap_i64]; omega
      clear hr ih hn h2 hw hw' w1' w2 hT hD hh hk hi hii
      go_enter Try.func31, Try.ntmps31
      go_wp2_with fail
      refine HH.out.mono ?_
      rintro e w3 ⟨rfl, hw3⟩
      rw [hw3]
      clear hw3
      go_wp2_with fail
      refine wp_region_mv (fun f => Joins strE w 9 A [y] (f 6) (f 11) (f 12)) (by kernel_rfl) (Joins.start (drew_below w)) ?_
      obtain ⟨S, F, hF, hFC⟩ := moved_class (fun f => Joins strE w 9 A [y] (f 6) (f 11) (f 12))
      show wpAnyM _ _ _ _ _ 14 (Array.replicate 14 false) _ _
      refine mv_read 0 hF (fun _ _ _ h => h) rfl (by kernel_rfl) (by kernel_rfl) (by kernel_rfl) (fun K hK => ?_)
      go_simp
      first | refine ⟨_, fun _ => rfl, hK _ _ ?_⟩ | refine hK _ _ ?_
      clear hK K
      refine mv_read 1 hF (fun _ _ _ h => h) rfl (by kernel_rfl) (by kernel_rfl) (by kernel_rfl) (fun K hK => ?_)
      go_simp
      first | refine ⟨_, fun _ => rfl, hK _ _ ?_⟩ | refine hK _ _ ?_
      clear hK K
      refine mv_read 2 hF (fun _ _ _ h => h) rfl (by kernel_rfl) (by kernel_rfl) (by kernel_rfl) (fun K hK => ?_)
      go_simp
      first | refine ⟨_, fun _ => rfl, hK _ _ ?_⟩ | refine hK _ _ ?_
      clear hK K
      refine mv_read 3 hF (fun _ _ _ h => h) rfl (by kernel_rfl) (by kernel_rfl) (by kernel_rfl) (fun K hK => ?_)
      go_simp
      first | refine ⟨_, fun _ => rfl, hK _ _ ?_⟩ | refine hK _ _ ?_
      clear hK K
      refine mv_read 4 hF (fun _ _ _ h => h) rfl (by kernel_rfl) (by kernel_rfl) (by kernel_rfl) (fun K hK => ?_)
      go_simp
      first | refine ⟨_, fun _ => rfl, hK _ _ ?_⟩ | refine hK _ _ ?_
      clear hK K
      refine mv_read 5 hF (fun _ _ _ h => h) rfl (by kernel_rfl) (by kernel_rfl) (by kernel_rfl) (fun K hK => ?_)
      go_simp
      first | refine ⟨_, fun _ => rfl, hK _ _ ?_⟩ | refine hK _ _ ?_
      clear hK K
      refine mv_read 7 hF (fun _ _ _ h => h) rfl (by kernel_rfl) (by kernel_rfl) (by kernel_rfl) (fun K hK => ?_)
      go_simp
      first | refine ⟨_, fun _ => rfl, hK _ _ ?_⟩ | refine hK _ _ ?_
      clear hK K
      refine mv_read 8 hF (fun _ _ _ h => h) rfl (by kernel_rfl) (by kernel_rfl) (by kernel_rfl) (fun K hK => ?_)
      go_simp
      first | refine ⟨_, fun _ => rfl, hK _ _ ?_⟩ | refine hK _ _ ?_
      clear hK K
      refine mv_read 9 hF (fun _ _ _ h => h) rfl (by kernel_rfl) (by kernel_rfl) (by kernel_rfl) (fun K hK => ?_)
      go_simp
      first | refine ⟨_, fun _ => rfl, hK _ _ ?_⟩ | refine hK _ _ ?_
      clear hK K
      refine mv_call 6 31 rfl (by kernel_rfl) rfl rfl eg_rpath (args := #[.slice (some ⟨b, o + k, none⟩) (l.length - k) (cap - k), .int .i64 (i2 : Nat)]) rfl (fun _ => True) (fun g w1 ha h0 h => by
          simp only [h0] at h
          exact (cP.out w1 h.1).mono fun e w' ⟨v', h1, h2, h3⟩ => ⟨v', h1, trivial, h.path h2 h3⟩) ?_
      rintro pv -
      refine mv_call1 10 16 rfl (by kernel_rfl) (by kernel_rfl) (by kernel_rfl) rfl rfl eg_rroot (args := #[.slice (some ⟨b, o, none⟩) k cap]) rfl (u := .string y) (fun g w1 _ _ h => (cR.out w1 h.1).mono fun e w' ⟨h1, h2⟩ => ⟨h1, h.on h2⟩) ?_
      refine mv_alone 11 rfl (by kernel_rfl) rfl (fun v => ∃ g, v = .slice (some ⟨g, 0, none⟩) 1 1) (fun g w1 ha h0 h D hD => by
          simp only [h0] at h
          have h8 := h.made #[.string y] rfl (T' := 9)
          clear h
          go_simp
          exact hD _ _ ⟨_, rfl⟩ h8) ?_
      rintro _ ⟨gs, rfl⟩
      refine mv_append 12 rfl (by kernel_rfl) rfl (.tmp 32) (.tmp 37) 42 rfl strT w.heap.size _ _ A [y] rfl rfl (by have := hAL.out; simp; omega) (by decide) (fun g w1 ha h0 h => ?_) (fun _ => True) (fun g w1 v' w' ha h0 h hG => ?_) ?_
      · have e1 : g 11 = some (.slice (some ⟨gs, 0, none⟩) 1 1) := (agree_on 11 ha (by kernel_rfl)).trans rfl
        have e2 : g 6 = some pv := (agree_on 6 ha (by kernel_rfl)).trans rfl
        simp only [e1, e2, h0] at h
        exact h.rows
      · have e1 : g 11 = some (.slice (some ⟨gs, 0, none⟩) 1 1) := (agree_on 11 ha (by kernel_rfl)).trans rfl
        have e2 : g 6 = some pv := (agree_on 6 ha (by kernel_rfl)).trans rfl
        simp only [e1, e2, h0] at h
        refine ⟨trivial, ?_⟩
        show Joins _ _ _ _ _ (g 6) (g 11) _ _
        rw [e1, e2]
        exact h.grew hG
      rintro vz -
      refine mv_read 13 hF (fun _ _ _ h => h) rfl (by kernel_rfl) (by kernel_rfl) (by kernel_rfl) (fun K hK => ?_)
      go_simp
      first | refine ⟨_, fun _ => rfl, hK _ _ ?_⟩ | refine hK _ _ ?_
      clear hK K
      refine mv_end (by kernel_rfl) ?_
      intro w2 hw2
      have HG : Joins strE w 9 A [y] (some pv) (some (.slice (some ⟨gs, 0, none⟩) 1 1)) (some vz) w2 := hw2
      have HG := Lib.hid HG
      clear hw2 hF hFC
      go_wp2
      exact HR.out _ _ ⟨vz, rfl, by rw [HZ.out]; exact HG.out.2.2, HG.out.1⟩
  · have HZ := Lib.hid (path_low l i (by omega))
    have hn2 : (l.length : Int) < 2 := by omega
    clear ih hi hb h2 hr hw
    go_enter Try.func31, Try.ntmps31
    go_wp2
    exact HR.out _ _ ⟨_, rfl, by rw [HZ.out]; exact Row.nil _ _ _, Below.refl _ _⟩
end Go.Proofs.Ytdbabkkmdlkjaaa
/- A place's own proof tells what it has. -/
namespace Ks
open Go Go.RowKit Go.Proofs.Ytdbabkkmdlkjaaa
theorem prove_lens (l : List LeafT) (lba : Int) : (proveP l lba).up.length ≤ l.length ∧ (proveP l lba).left.length ≤ l.length := by
  have h := fun i => path_len (hashL l).length (hashL l) i rfl
  rw [hashL_length] at h
  refine ⟨?_, ?_⟩
  · show (if _ then _ else _ : List ByteArray).length ≤ _
    split
    · exact h _
    · exact Nat.zero_le _
  · show (if _ then _ else _ : List ByteArray).length ≤ _
    split
    · exact h _
    · exact Nat.zero_le _
end Ks
namespace Go.Proofs.Ytdbabkkmdlkjaaa
open Go.RowKit Ks
set_option linter.unusedVariables false
def liesP (l : List LeafT) (lba : Int) (p : PrfD) : Prop :=
  ¬ ((tellsP (rootL (hashL l)) l.length lba p).1 = (wantP l lba).1 ∧ (tellsP (rootL (hashL l)) l.length lba p).2.1 = (wantP l lba).2)
theorem proot_yes {l : List LeafT} (hr : rightB l = true) (lv : Value) (w : World) (hl : Rd leafE w lv l) (hlen : l.length ≤ 1000000) :
    Calls Try.prog 25 #[lv] w fun e w' => e = .returned (.tuple #[.string (rootL (hashL l)), .int .i64 0]) ∧ Below w.heap.size w w' := by
  have h := proot_any lv l w hl hlen
  rw [prootV, prootE, if_pos hr, if_pos hr] at h
  exact h
theorem tells_own {l : List LeafT} {lba : Int} (hr : rightB l = true) (hlen : l.length ≤ 4096) (h0 : 0 ≤ lba) (h1 : lba < 4096) (u v : Value) (w : World) (hu : Rd strE w u (proveP l lba).up) (hv : Rd strE w v (proveP l lba).left) :
    Calls Try.prog 22 #[.string (rootL (hashL l)), .int .i64 l.length, .int .i64 lba, prfV (proveP l lba) u v] w fun e w' => e = .returned (.tuple #[.string (wantP l lba).1, .bool (wantP l lba).2, .int .i64 0]) ∧ Below w.heap.size w w' := by
  have hl := prove_lens l lba
  have h := tells_any (rootL (hashL l)) l.length lba (proveP l lba) u v w hu hv (by omega) (by omega)
  rw [prove_told hr hlen h0 h1] at h
  exact h
end Go.Proofs.Ytdbabkkmdlkjaaa
/- The program's segment: leaves, root, prove. -/
set_option maxRecDepth 100000
namespace Go.Proofs.Ytdbabkkmdlkjaaa
open Go.RowKit Ks Go.Maps
set_option linter.unusedVariables false
theorem infoLeaf : (Try.prog.info? 45).map (fun i => (i.zero, i.size, i.bytes)) = some (some (.agg #[.int .i64 0, .string ⟨#[]⟩]), 2, 24) := by kernel_rfl
theorem leafT : ElemT Try.prog 30 45 leafE.k 24 := elemT_of Try.underlying30 infoLeaf rfl
theorem leavesTo_len (m : SegM) (k : Nat) : (leavesTo m k).length ≤ k := by
  unfold leavesTo
  exact Nat.le_trans (List.length_filterMap_le _ _) (by simp)
set_option maxRecDepth 100000 in
set_option maxHeartbeats 4000000 in
theorem sleaves_any (n mb : Nat) (e : Int) (m : SegM) (w : World) (h : SegAt segKV w 56 n mb e m) :
    Calls Try.prog 12 #[.pointer (some ⟨n, 0, none⟩)] w fun r w' => ∃ v, r = .returned v ∧ Row leafE w' w.heap.size 45 v (leavesTo m 4096) ∧ Below w.heap.size w w' := by
  refine calls_by fun R HR => ?_
  have HS := Lib.hid h
  have HT := Lib.hid (there_any w h)
  clear h
  go_enter Try.func12, Try.ntmps12
  go_wp2_with fail
  refine HT.out.mono ?_
  rintro en v1 ⟨rfl, hw⟩
  rw [hw]
  clear hw
  go_wp2_with fail
  go_loopw [3, 10] (fun v i wx => ∃ (k : Nat), k ≤ 4096 ∧ i = .int .i64 k ∧ Hid (Row leafE wx w.heap.size 45 v (leavesTo m k) ∧ Below w.heap.size w wx)) (fun _ i _ => 4096 - (intOf i).toNat)
  case atStart => exact ⟨0, Nat.zero_le _, rfl, Lib.hid ⟨Row.nil _ _ _, Below.refl _ _⟩⟩
  case round =>
    obtain ⟨k, hk, rfl, hN⟩ := hrel
    by_cases hlt : k < 4096
    · have hki : (k : Int) < 4096 := by omega
      have HSr := Lib.hid (HS.out.below hN.out.2)
      obtain ⟨z0, z1, fz0, fz1⟩ := blk2 HSr.out.blk
      have q5 : segKV.ok (k : Int) := segKV_ok (by omega) hki
      have HX := Lib.hid (leaves_succ m k)
      cases hl : Ks.look m (k : Int) with
      | none =>
        have HX2 := Lib.hid (show leavesTo m (k + 1) = leavesTo m k by rw [HX.out, hl]; simp)
        clear HX
        go_wp2_with (at_lookup; refine wpList_look _ rfl _ _ 54 true rfl 9 segKey Try.underlying54 (zeroStr _) HSr.out.map rfl (k : Int) rfl q5 (.tuple #[.string ⟨#[]⟩, .bool false]) (by rw [hl]; rfl) ?_)
        go_roundw
        case rel => exact ⟨k + 1, by omega, by go_num, Lib.hid ⟨by rw [HX2.out]; exact hN.out.1, hN.out.2⟩⟩
        case measure => simp [intOf]; omega
      | some x =>
        have HX2 := Lib.hid (show leavesTo m (k + 1) = leavesTo m k ++ [((k : Int), x)] by rw [HX.out, hl])
        have HK := Lib.hid (show (leavesTo m k).length ≤ 4096 from Nat.le_trans (leavesTo_len m k) hk)
        clear HX
        obtain ⟨W4, hW4⟩ : ∃ W4, wr.alloc (.cells #[.int .i64 k, .string x] 45) = W4 := ⟨_, rfl⟩
        have hb4 : Below wr.heap.size wr W4 := by rw [← hW4]; exact alloc_below _ _
        have hr4 : Rd leafE W4 (.slice (some ⟨wr.heap.size, 0, none⟩) 1 1) [((k : Int), x)] := by rw [← hW4]; exact Rd.single (E := leafE) ((k : Int), x) (alloc_new _ _) rfl
        have H4 := Lib.hid (And.intro (hN.out.2.trans (hb4.mono hN.out.2.size)) (And.intro hr4 (hN.out.1.below hb4)))
        clear hb4 hr4
        go_wp2_with (first | (at_lookup; refine wpList_look _ rfl _ _ 54 true rfl 9 segKey Try.underlying54 (zeroStr _) HSr.out.map rfl (k : Int) rfl q5 (.tuple #[.string x, .bool true]) (by rw [hl]; rfl) ?_) | (at_builtin; refine wpList_append_row _ rfl _ _ 30 rfl leafT w.heap.size _ _ (leavesTo m k) [((k : Int), x)] rfl rfl H4.out.2.2 H4.out.2.1 H4.out.1.size (by have := HK.out; simp; omega) (by decide) ?_))
        intro r5 w5 hG
        have HG := Lib.hid (And.intro hG.1 (hG.below H4.out.1 H4.out.1.size (fun b e => (H4.out.2.2.lt e).1)))
        clear hG hW4
        go_wp2_with fail
        go_roundw
        case rel => exact ⟨k + 1, by omega, by go_num, Lib.hid ⟨by rw [HX2.out]; exact HG.out.1, HG.out.2⟩⟩
        case measure => simp [intOf]; omega
    · obtain rfl : k = 4096 := by omega
      go_wp2
      exact HR.out _ _ ⟨_, rfl, hN.out.1, hN.out.2⟩
theorem sleaves_no {v : Value} (w : World) (h : SegNo w 56 v) : Calls Try.prog 12 #[v] w fun r w' => r = .returned (.slice none 0 0) ∧ w' = w := by
  refine calls_by fun R HR => ?_
  have HT := Lib.hid (there_no w h)
  clear h
  go_enter Try.func12, Try.ntmps12
  go_wp2_with fail
  refine HT.out.mono ?_
  rintro en v1 ⟨rfl, hw⟩
  rw [hw]
  clear hw
  go_wp2
  exact HR.out _ _ ⟨rfl, rfl⟩
set_option maxRecDepth 100000 in
set_option maxHeartbeats 4000000 in
theorem sroot_any (n mb : Nat) (e : Int) (m : SegM) (l : List LeafT) (w : World) (h : SegAt segKV w 56 n mb e m) (hR : SegR m l) (hlen : l.length ≤ 1000000) :
    Calls Try.prog 15 #[.pointer (some ⟨n, 0, none⟩)] w fun r w' => r = .returned (.string (rootL (hashL l))) ∧ Below w.heap.size w w' := by
  refine calls_by fun R HR => ?_
  have HS := Lib.hid h
  have HT := Lib.hid (there_any w h)
  have HL := Lib.hid (sleaves_any n mb e m w h)
  rw [hR.leaves] at HL
  have HRt := Lib.hid (fun v w h => proot_yes hR.right v w h hlen)
  generalize rootL (hashL l) = RT at *
  clear h hR
  go_enter Try.func15, Try.ntmps15
  go_wp2_with fail
  refine HT.out.mono ?_
  rintro en v1 ⟨rfl, hw⟩
  rw [hw]
  clear hw
  go_wp2_with fail
  refine HL.out.mono ?_
  rintro en v1 ⟨lv, rfl, hrow, hb⟩
  have H1 := Lib.hid (And.intro hb hrow)
  clear hb hrow
  go_wp2_with fail
  refine (HRt.out _ _ H1.out.2.rd).mono ?_
  rintro en v2 ⟨rfl, hb⟩
  have H2 := Lib.hid (H1.out.1.trans (hb.mono H1.out.1.size))
  clear hb
  go_wp2
  exact HR.out _ _ ⟨rfl, H2.out⟩
theorem sroot_no {v : Value} (w : World) (h : SegNo w 56 v) : Calls Try.prog 15 #[v] w fun r w' => r = .returned (.string ⟨#[]⟩) ∧ w' = w := by
  refine calls_by fun R HR => ?_
  have HT := Lib.hid (there_no w h)
  clear h
  go_enter Try.func15, Try.ntmps15
  go_wp2_with fail
  refine HT.out.mono ?_
  rintro en v1 ⟨rfl, hw⟩
  rw [hw]
  clear hw
  go_wp2
  exact HR.out _ _ ⟨rfl, rfl⟩
set_option maxRecDepth 100000 in
set_option maxHeartbeats 4000000 in
theorem sprove_no {v : Value} (lba : Int) (w : World) (h : SegNo w 56 v) :
    Calls Try.prog 18 #[v, .int .i64 lba] w fun r w' => r = .returned (.tuple #[.agg #[.bool false, .int .i64 0, .int .i64 0, .string ⟨#[]⟩, .int .i64 0, .string ⟨#[]⟩, .slice none 0 0, .slice none 0 0], .int .i64 1]) ∧ Below w.heap.size w w' := by
  refine calls_by fun R HR => ?_
  have HS := Lib.hid h
  have HT := Lib.hid (fun w h => there_no (v := v) w h)
  clear h
  have H1 := Lib.hid (And.intro (Below.refl w.heap.size w) (HS.out))
  obtain ⟨W1, hW1⟩ : ∃ W1, w.alloc (.cells #[.bool false, .int .i64 0, .int .i64 0, .string ⟨#[]⟩, .int .i64 0, .string ⟨#[]⟩, .slice none 0 0, .slice none 0 0] 48) = W1 := ⟨_, rfl⟩
  have hbW1 : Below w.heap.size w W1 := by rw [← hW1]; exact alloc_below w _
  have kW1 : W1.heap[w.heap.size]? = some (.cells #[.bool false, .int .i64 0, .int .i64 0, .string ⟨#[]⟩, .int .i64 0, .string ⟨#[]⟩, .slice none 0 0, .slice none 0 0] 48 (0, 0)) := by rw [← hW1]; exact alloc_new w _
  have H2 := Lib.hid (And.intro (H1.out.1.trans (hbW1.mono H1.out.1.size)) (And.intro (H1.out.2.below hbW1) (kW1)))
  clear hbW1 kW1
  have hpn : w.heap.size < W1.heap.size := lt_of_block H2.out.2.2
  have HZ := Lib.hid hpn
  clear hpn
  go_enter Try.func18, Try.ntmps18
  go_wp2_with fail
  refine (HT.out _ H2.out.2.1).mono ?_
  rintro en v1 ⟨rfl, hw⟩
  rw [hw]
  clear hw hW1
  obtain ⟨WR, hWR⟩ : ∃ W, W1.setRow w.heap.size #[.bool false, .int .i64 0, .int .i64 0, .string ⟨#[]⟩, .int .i64 0, .string ⟨#[]⟩, .slice none 0 0, .slice none 0 0] = W := ⟨_, rfl⟩
  have KE := Lib.hid (show WR.heap[w.heap.size]? = some (.cells #[.bool false, .int .i64 0, .int .i64 0, .string ⟨#[]⟩, .int .i64 0, .string ⟨#[]⟩, .slice none 0 0, .slice none 0 0] 48 (0, 0)) by rw [← hWR]; exact setRow_heap W1 _ _ _ _ _ H2.out.2.2)
  have BE := Lib.hid (show Below w.heap.size w WR by rw [← hWR]; exact H2.out.1.trans (row_under W1 _ _))
  go_wp2_with (refine wpList_store_blk rfl 48 (.tmp 4) (.tmp 9) rfl w.heap.size 0 8 rfl #[.bool false, .int .i64 0, .int .i64 0, .string ⟨#[]⟩, .int .i64 0, .string ⟨#[]⟩, .slice none 0 0, .slice none 0 0] #[.bool false, .int .i64 0, .int .i64 0, .string ⟨#[]⟩, .int .i64 0, .string ⟨#[]⟩, .slice none 0 0, .slice none 0 0] #[.bool false, .int .i64 0, .int .i64 0, .string ⟨#[]⟩, .int .i64 0, .string ⟨#[]⟩, .slice none 0 0, .slice none 0 0] rfl 48 H2.out.2.2 rfl (Nat.le_refl 8) (by kernel_rfl) (prf_one _ _ _ _ _ _ _ _ _ _ _ _) (splice_all _ _ rfl) ?_; rw [hWR])
  clear hWR
  obtain ⟨z0, z1, z2, z3, z4, z5, z6, z7⟩ := blk8 KE.out
  refine bodyPost_ret (v := .tuple #[.agg #[.bool false, .int .i64 0, .int .i64 0, .string ⟨#[]⟩, .int .i64 0, .string ⟨#[]⟩, .slice none 0 0, .slice none 0 0], .int .i64 1]) (by simp [results, Try.results18, go_sem, z0, z1, z2, z3, z4, z5, z6, z7]) rfl ?_
  exact HR.out _ _ ⟨rfl, BE.out⟩
set_option maxRecDepth 100000 in
set_option maxHeartbeats 4000000 in
theorem sprove_out (n mb : Nat) (e : Int) (m : SegM) (lba : Int) (w : World) (h : SegAt segKV w 56 n mb e m) (ho : ¬ (0 ≤ lba ∧ lba < 4096)) :
    Calls Try.prog 18 #[.pointer (some ⟨n, 0, none⟩), .int .i64 lba] w fun r w' => r = .returned (.tuple #[.agg #[.bool false, .int .i64 0, .int .i64 0, .string ⟨#[]⟩, .int .i64 0, .string ⟨#[]⟩, .slice none 0 0, .slice none 0 0], .int .i64 2]) ∧ Below w.heap.size w w' := by
  refine calls_by fun R HR => ?_
  have HS := Lib.hid h
  have HT := Lib.hid (fun w (h : SegAt segKV w 56 n mb e m) => there_any w h)
  have HL := Lib.hid (fun w h => sleaves_any n mb e m w h)
  have HK := Lib.hid (show (leavesTo m 4096).length ≤ 1000000 from Nat.le_trans (leavesTo_len m _) (by decide))
  have HP := Lib.hid (fun v w h => (show Calls Try.prog 29 #[v, .int .i64 lba] w (fun r w' => r = .returned (.tuple #[.agg #[.bool false, .int .i64 0, .int .i64 0, .string ⟨#[]⟩, .int .i64 0, .string ⟨#[]⟩, .slice none 0 0, .slice none 0 0], .int .i64 2]) ∧ Below w.heap.size w w') from prove_no v (leavesTo m 4096) lba w h HK.out (fun q => ho q.2)))
  generalize leavesTo m 4096 = l at *
  clear h ho
  have H1 := Lib.hid (And.intro (Below.refl w.heap.size w) (HS.out))
  obtain ⟨W1, hW1⟩ : ∃ W1, w.alloc (.cells #[.bool false, .int .i64 0, .int .i64 0, .string ⟨#[]⟩, .int .i64 0, .string ⟨#[]⟩, .slice none 0 0, .slice none 0 0] 48) = W1 := ⟨_, rfl⟩
  have hbW1 : Below w.heap.size w W1 := by rw [← hW1]; exact alloc_below w _
  have kW1 : W1.heap[w.heap.size]? = some (.cells #[.bool false, .int .i64 0, .int .i64 0, .string ⟨#[]⟩, .int .i64 0, .string ⟨#[]⟩, .slice none 0 0, .slice none 0 0] 48 (0, 0)) := by rw [← hW1]; exact alloc_new w _
  have H2 := Lib.hid (And.intro (H1.out.1.trans (hbW1.mono H1.out.1.size)) (And.intro (H1.out.2.below hbW1) (kW1)))
  clear hbW1 kW1
  have hpn : w.heap.size < W1.heap.size := lt_of_block H2.out.2.2
  have HZ := Lib.hid hpn
  clear hpn
  go_enter Try.func18, Try.ntmps18
  go_wp2_with fail
  refine (HT.out _ H2.out.2.1).mono ?_
  rintro en v1 ⟨rfl, hw⟩
  rw [hw]
  clear hw hW1
  go_wp2_with fail
  refine (HL.out _ H2.out.2.1).mono ?_
  rintro en v1 ⟨lv, rfl, hrow, hb⟩
  have H3 := Lib.hid (And.intro (H2.out.1.trans (hb.mono H2.out.1.size)) (And.intro (H2.out.2.1.below hb) (And.intro (blk_on hb H2.out.2.2) (hrow.rd))))
  clear hb
  clear hrow
  go_wp2_with fail
  refine (HP.out _ _ H3.out.2.2.2).mono ?_
  rintro en v2 ⟨rfl, hb⟩
  have H4 := Lib.hid (And.intro (H3.out.1.trans (hb.mono H3.out.1.size)) (And.intro (H3.out.2.1.below hb) (And.intro (blk_on hb H3.out.2.2.1) (H3.out.2.2.2.below hb))))
  clear hb
  obtain ⟨WR, hWR⟩ : ∃ W, v2.setRow w.heap.size #[.bool false, .int .i64 0, .int .i64 0, .string ⟨#[]⟩, .int .i64 0, .string ⟨#[]⟩, .slice none 0 0, .slice none 0 0] = W := ⟨_, rfl⟩
  have KE := Lib.hid (show WR.heap[w.heap.size]? = some (.cells #[.bool false, .int .i64 0, .int .i64 0, .string ⟨#[]⟩, .int .i64 0, .string ⟨#[]⟩, .slice none 0 0, .slice none 0 0] 48 (0, 0)) by rw [← hWR]; exact setRow_heap v2 _ _ _ _ _ H4.out.2.2.1)
  have BE := Lib.hid (show Below w.heap.size w WR by rw [← hWR]; exact H4.out.1.trans (row_under v2 _ _))
  go_wp2_with (refine wpList_store_blk rfl 48 (.tmp 4) (.tmp 14) rfl w.heap.size 0 8 rfl #[.bool false, .int .i64 0, .int .i64 0, .string ⟨#[]⟩, .int .i64 0, .string ⟨#[]⟩, .slice none 0 0, .slice none 0 0] #[.bool false, .int .i64 0, .int .i64 0, .string ⟨#[]⟩, .int .i64 0, .string ⟨#[]⟩, .slice none 0 0, .slice none 0 0] #[.bool false, .int .i64 0, .int .i64 0, .string ⟨#[]⟩, .int .i64 0, .string ⟨#[]⟩, .slice none 0 0, .slice none 0 0] rfl 48 H4.out.2.2.1 rfl (Nat.le_refl 8) (by kernel_rfl) (prf_one _ _ _ _ _ _ _ _ _ _ _ _) (splice_all _ _ rfl) ?_; rw [hWR])
  clear hWR
  obtain ⟨z0, z1, z2, z3, z4, z5, z6, z7⟩ := blk8 KE.out
  refine bodyPost_ret (v := .tuple #[.agg #[.bool false, .int .i64 0, .int .i64 0, .string ⟨#[]⟩, .int .i64 0, .string ⟨#[]⟩, .slice none 0 0, .slice none 0 0], .int .i64 2]) (by simp [results, Try.results18, go_sem, z0, z1, z2, z3, z4, z5, z6, z7]) rfl ?_
  exact HR.out _ _ ⟨rfl, BE.out⟩
set_option maxRecDepth 100000 in
set_option maxHeartbeats 4000000 in
theorem sprove_any (n mb : Nat) (e : Int) (m : SegM) (l : List LeafT) (lba : Int) (w : World) (h : SegAt segKV w 56 n mb e m) (hR : SegR m l) (hlen : l.length ≤ 1000000) (ho : 0 ≤ lba ∧ lba < 4096) :
    Calls Try.prog 18 #[.pointer (some ⟨n, 0, none⟩), .int .i64 lba] w fun r w' => ∃ u v, r = .returned (.tuple #[prfV (proveP l lba) u v, .int .i64 0]) ∧ Rd strE w' u (proveP l lba).up ∧ Rd strE w' v (proveP l lba).left ∧ Below w.heap.size w w' := by
  refine calls_by fun R HR => ?_
  have HS := Lib.hid h
  have HT := Lib.hid (fun w (h : SegAt segKV w 56 n mb e m) => there_any w h)
  have HL := Lib.hid (fun w h => sleaves_any n mb e m w h)
  rw [hR.leaves] at HL
  have HP := Lib.hid (fun v w h => prove_rows v l lba w h hlen hR.right ho)
  generalize proveP l lba = PP at *
  obtain ⟨fo, ao, ⟨ho2, hso⟩, ⟨xo, xso⟩, uo, lo⟩ := PP
  clear h ho hR
  have H1 := Lib.hid (And.intro (Below.refl w.heap.size w) (HS.out))
  obtain ⟨W1, hW1⟩ : ∃ W1, w.alloc (.cells #[.bool false, .int .i64 0, .int .i64 0, .string ⟨#[]⟩, .int .i64 0, .string ⟨#[]⟩, .slice none 0 0, .slice none 0 0] 48) = W1 := ⟨_, rfl⟩
  have hbW1 : Below w.heap.size w W1 := by rw [← hW1]; exact alloc_below w _
  have kW1 : W1.heap[w.heap.size]? = some (.cells #[.bool false, .int .i64 0, .int .i64 0, .string ⟨#[]⟩, .int .i64 0, .string ⟨#[]⟩, .slice none 0 0, .slice none 0 0] 48 (0, 0)) := by rw [← hW1]; exact alloc_new w _
  have H2 := Lib.hid (And.intro (H1.out.1.trans (hbW1.mono H1.out.1.size)) (And.intro (H1.out.2.below hbW1) (kW1)))
  clear hbW1 kW1
  have hpn : w.heap.size < W1.heap.size := lt_of_block H2.out.2.2
  have HZ := Lib.hid hpn
  clear hpn
  go_enter Try.func18, Try.ntmps18
  go_wp2_with fail
  refine (HT.out _ H2.out.2.1).mono ?_
  rintro en v1 ⟨rfl, hw⟩
  rw [hw]
  clear hw hW1
  go_wp2_with fail
  refine (HL.out _ H2.out.2.1).mono ?_
  rintro en v1 ⟨lv, rfl, hrow, hb⟩
  have H3 := Lib.hid (And.intro (H2.out.1.trans (hb.mono H2.out.1.size)) (And.intro (H2.out.2.1.below hb) (And.intro (blk_on hb H2.out.2.2) (hrow.rd))))
  clear hb
  clear hrow
  have HV1 := Lib.hid (lt_of_block H3.out.2.2.1)
  go_wp2_with fail
  refine (HP.out _ _ H3.out.2.2.2).mono ?_
  rintro en v2 ⟨pu, pv, rfl, hu, hv, hb⟩
  obtain ⟨ua, uc, rfl, -⟩ := hu.shape
  obtain ⟨va, vc, rfl, -⟩ := hv.shape
  have H4 := Lib.hid (And.intro (H3.out.1.trans (hb.mono H3.out.1.size)) (And.intro (H3.out.2.1.below hb) (And.intro (blk_on hb H3.out.2.2.1) (And.intro (H3.out.2.2.2.below hb) (And.intro (hu) (hv))))))
  clear hb
  clear hu hv
  obtain ⟨WR, hWR⟩ : ∃ W, v2.setRow w.heap.size #[.bool fo, .int .i64 ao, .int .i64 ho2, .string hso, .int .i64 xo, .string xso, .slice ua uo.length uc, .slice va lo.length vc] = W := ⟨_, rfl⟩
  have KE := Lib.hid (show WR.heap[w.heap.size]? = some (.cells #[.bool fo, .int .i64 ao, .int .i64 ho2, .string hso, .int .i64 xo, .string xso, .slice ua uo.length uc, .slice va lo.length vc] 48 (0, 0)) by rw [← hWR]; exact setRow_heap v2 _ _ _ _ _ H4.out.2.2.1)
  have BE := Lib.hid (show Below w.heap.size w WR by rw [← hWR]; exact H4.out.1.trans (row_under v2 _ _))
  have REu := Lib.hid (show Rd strE WR (.slice ua uo.length uc) uo by rw [← hWR]; exact (H4.out.2.2.2.2.1.past (b := w.heap.size) HV1.out (fun k h => setRow_other _ _ k _ h)).rd)
  have REv := Lib.hid (show Rd strE WR (.slice va lo.length vc) lo by rw [← hWR]; exact (H4.out.2.2.2.2.2.past (b := w.heap.size) HV1.out (fun k h => setRow_other _ _ k _ h)).rd)
  go_wp2_with (refine wpList_store_blk rfl 48 (.tmp 4) (.tmp 14) rfl w.heap.size 0 8 rfl #[.bool false, .int .i64 0, .int .i64 0, .string ⟨#[]⟩, .int .i64 0, .string ⟨#[]⟩, .slice none 0 0, .slice none 0 0] #[.bool fo, .int .i64 ao, .int .i64 ho2, .string hso, .int .i64 xo, .string xso, .slice ua uo.length uc, .slice va lo.length vc] #[.bool fo, .int .i64 ao, .int .i64 ho2, .string hso, .int .i64 xo, .string xso, .slice ua uo.length uc, .slice va lo.length vc] rfl 48 H4.out.2.2.1 rfl (Nat.le_refl 8) (by kernel_rfl) (prf_one _ _ _ _ _ _ _ _ _ _ _ _) (splice_all _ _ rfl) ?_; rw [hWR])
  clear hWR
  obtain ⟨z0, z1, z2, z3, z4, z5, z6, z7⟩ := blk8 KE.out
  refine bodyPost_ret (v := .tuple #[.agg #[.bool fo, .int .i64 ao, .int .i64 ho2, .string hso, .int .i64 xo, .string xso, .slice ua uo.length uc, .slice va lo.length vc], .int .i64 0]) (by simp [results, Try.results18, go_sem, z0, z1, z2, z3, z4, z5, z6, z7]) rfl ?_
  exact HR.out _ _ ⟨_, _, rfl, REu.out, REv.out, BE.out⟩
end Go.Proofs.Ytdbabkkmdlkjaaa
/- Leaves and their hashes, the hash of data: the reference's answers. -/
namespace Ks
open Go
theorem data_ok (a b : Int) : dataE a b = 0 ↔ putOk a 4 = true ∧ putOk b 4 = true := by
  rw [dataE, packE]
  have h : packOk [4, 4] [a, b] = true ↔ putOk a 4 = true ∧ putOk b 4 = true := by
    rw [packOk, decide_eq_true_iff]
    constructor
    · rintro ⟨_, h⟩
      exact ⟨h 0 (by simp), h 1 (by simp)⟩
    · rintro ⟨h1, h2⟩
      refine ⟨rfl, fun i hi => ?_⟩
      match i, hi with
      | 0, _ => exact h1
      | 1, _ => exact h2
  by_cases hp : packOk [4, 4] [a, b] = true
  · rw [if_pos hp]; exact ⟨fun _ => h.1 hp, fun _ => rfl⟩
  · rw [if_neg hp]; exact ⟨fun e => absurd e (by decide), fun q => absurd (h.2 q) hp⟩
theorem data_cat {a b : Int} (h1 : putOk a 4 = true) (h2 : putOk b 4 = true) : packS [4, 4] [a, b] = putS a 4 ++ putS b 4 := by
  have hp : packOk [4, 4] [a, b] = true := by
    rw [packOk, decide_eq_true_iff]
    refine ⟨rfl, fun i hi => ?_⟩
    match i, hi with
    | 0, _ => exact h1
    | 1, _ => exact h2
  rw [packS, if_pos hp, putS, putS, if_pos h1, if_pos h2]
  show (⟨((([] : List UInt8) ++ putL 4 a.toNat) ++ putL 4 b.toNat).toArray⟩ : ByteArray) = ⟨(putL 4 a.toNat).toArray⟩ ++ ⟨(putL 4 b.toNat).toArray⟩
  rw [List.nil_append]
  all_goals (apply ByteArray.ext; simp [ByteArray.data_append])
theorem put_small (n : Int) : (putS n 4).size ≤ 8 := by
  rw [putS]
  split
  · show (putL 4 n.toNat).toArray.size ≤ 8
    simp
  · decide
theorem data_sum {a b : Int} (s : ByteArray) (h1 : putOk a 4 = true) (h2 : putOk b 4 = true) : shaS (putS a 4 ++ putS b 4 ++ s).data.toList = dataS a b s := by
  rw [dataS, if_pos ((data_ok a b).2 ⟨h1, h2⟩), data_cat h1 h2]
  show sha1 _ = sha1 _
  congr 1
  all_goals simp [ByteArray.data_append]
end Ks
namespace Ks
open Go
/-- the place ahead of a leaf -/
def wasL (l : List LeafT) (k : Nat) : Int := if k = 0 then -1 else ((l[k - 1]?).getD noLeaf).1
end Ks
namespace Go.Proofs.Ytdbabkkmdlkjaaa
open Go.RowKit Ks
set_option linter.unusedVariables false
set_option linter.unusedSimpArgs false
set_option maxRecDepth 100000 in
set_option maxHeartbeats 4000000 in
theorem rdata_any (epoch slot : Int) (s : ByteArray) (w : World) (h1 : epoch ≤ 9223372036854775807) (h2 : slot ≤ 9223372036854775807) (hs : s.size ≤ 200000000000000 - 100) :
    Calls Try.prog 23 #[.int .i64 epoch, .int .i64 slot, .string s] w fun e w' => e = .returned (.tuple #[.string (dataS epoch slot s), .bool (decide (dataE epoch slot = 0))]) ∧ Below w.heap.size w w' := by
  refine calls_by fun R HR => ?_
  have HA := Lib.hid (fun w => rput_any epoch 4 w h1)
  have HB := Lib.hid (fun w => rput_any slot 4 w h2)
  have z1 := put_small epoch
  have z2 := put_small slot
  have HS := Lib.hid (fun w => rsumS_any (putS epoch 4 ++ putS slot 4 ++ s) w (by rw [ByteArray.size_append, ByteArray.size_append]; omega))
  have c1 : ¬ 9223372036854775807 < (putS epoch 4).size + (putS slot 4).size := by omega
  have c2 : ¬ 9223372036854775807 < (putS epoch 4).size + (putS slot 4).size + s.size := by omega
  have hok := data_ok epoch slot
  have hsum := @data_sum epoch slot s
  by_cases p1 : putOk epoch 4 = true
  · by_cases p2 : putOk slot 4 = true
    · rw [hsum p1 p2] at HS
      have HD := Lib.hid (show decide (dataE epoch slot = 0) = true from decide_eq_true (hok.2 ⟨p1, p2⟩))
      simp only [putE, p1, p2, if_true] at HA HB
      clear hsum hok p1 p2 z1 z2 h1 h2 hs
      generalize putS epoch 4 = A at *
      generalize putS slot 4 = B at *
      generalize dataS epoch slot s = Z at *
      have H1 := Lib.hid (Below.refl w.heap.size w)
      go_enter Try.func23, Try.ntmps23
      go_wp2_with fail
      refine (HA.out _).mono ?_
      rintro en v1 ⟨rfl, hb⟩
      have H2 := Lib.hid (H1.out.trans (hb.mono H1.out.size))
      clear hb
      go_wp2_with fail
      refine (HB.out _).mono ?_
      rintro en v2 ⟨rfl, hb⟩
      have H3 := Lib.hid (H2.out.trans (hb.mono H2.out.size))
      clear hb
      go_wp2_with fail
      refine (HS.out _).mono ?_
      rintro en v3 ⟨rfl, hb⟩
      have H4 := Lib.hid (H3.out.trans (hb.mono H3.out.size))
      clear hb
      go_wp2
      exact HR.out _ _ ⟨by rw [HD.out]; try rfl, H4.out⟩
    · have hno : ¬ (putOk epoch 4 = true ∧ putOk slot 4 = true) := fun q => p2 q.2
      simp only [putE, p1, p2, if_true, if_false, Bool.false_eq_true] at HA HB
      have HD := Lib.hid (show dataS epoch slot s = ⟨#[]⟩ ∧ decide (dataE epoch slot = 0) = false from ⟨by rw [dataS, if_neg (fun e => hno (hok.1 e))], decide_eq_false fun e => hno (hok.1 e)⟩)
      have H1 := Lib.hid (Below.refl w.heap.size w)
      clear hsum hok hno z1 z2 c1 c2 h1 h2 hs HS
      go_enter Try.func23, Try.ntmps23
      go_wp2_with fail
      refine (HA.out _).mono ?_
      rintro en v1 ⟨rfl, hb⟩
      have H2 := Lib.hid (H1.out.trans (hb.mono H1.out.size))
      clear hb
      go_wp2_with fail
      refine (HB.out _).mono ?_
      rintro en v2 ⟨rfl, hb⟩
      have H3 := Lib.hid (H2.out.trans (hb.mono H2.out.size))
      clear hb
      go_wp2
      exact HR.out _ _ ⟨by rw [HD.out.1, HD.out.2]; try rfl, H3.out⟩
  · have hno : ¬ (putOk epoch 4 = true ∧ putOk slot 4 = true) := fun q => p1 q.1
    by_cases p2 : putOk slot 4 = true
    · simp only [putE, p1, p2, if_true, if_false, Bool.false_eq_true] at HA HB
      have HD := Lib.hid (show dataS epoch slot s = ⟨#[]⟩ ∧ decide (dataE epoch slot = 0) = false from ⟨by rw [dataS, if_neg (fun e => hno (hok.1 e))], decide_eq_false fun e => hno (hok.1 e)⟩)
      have H1 := Lib.hid (Below.refl w.heap.size w)
      clear hsum hok hno z1 z2 c1 c2 h1 h2 hs HS
      go_enter Try.func23, Try.ntmps23
      go_wp2_with fail
      refine (HA.out _).mono ?_
      rintro en v1 ⟨rfl, hb⟩
      have H2 := Lib.hid (H1.out.trans (hb.mono H1.out.size))
      clear hb
      go_wp2_with fail
      refine (HB.out _).mono ?_
      rintro en v2 ⟨rfl, hb⟩
      have H3 := Lib.hid (H2.out.trans (hb.mono H2.out.size))
      clear hb
      go_wp2
      exact HR.out _ _ ⟨by rw [HD.out.1, HD.out.2]; try rfl, H3.out⟩
    · simp only [putE, p1, p2, if_true, if_false, Bool.false_eq_true] at HA HB
      have HD := Lib.hid (show dataS epoch slot s = ⟨#[]⟩ ∧ decide (dataE epoch slot = 0) = false from ⟨by rw [dataS, if_neg (fun e => hno (hok.1 e))], decide_eq_false fun e => hno (hok.1 e)⟩)
      have H1 := Lib.hid (Below.refl w.heap.size w)
      clear hsum hok hno z1 z2 c1 c2 h1 h2 hs HS
      go_enter Try.func23, Try.ntmps23
      go_wp2_with fail
      refine (HA.out _).mono ?_
      rintro en v1 ⟨rfl, hb⟩
      have H2 := Lib.hid (H1.out.trans (hb.mono H1.out.size))
      clear hb
      go_wp2_with fail
      refine (HB.out _).mono ?_
      rintro en v2 ⟨rfl, hb⟩
      have H3 := Lib.hid (H2.out.trans (hb.mono H2.out.size))
      clear hb
      go_wp2
      exact HR.out _ _ ⟨by rw [HD.out.1, HD.out.2]; try rfl, H3.out⟩
set_option maxRecDepth 100000 in
set_option maxHeartbeats 4000000 in
theorem rsaid_any (x : LeafT) (w : World) : Calls Try.prog 28 #[leafV x] w fun e w' => e = .returned (.string (saidS x)) ∧ Below w.heap.size w w' := by
  obtain ⟨n, s⟩ := x
  refine calls_by fun R HR => ?_
  by_cases h1 : n < 0
  · have HZ := Lib.hid (said_no (x := (n, s)) fun h => by have := h.1; simp at this; omega)
    have H1 := Lib.hid (Below.refl w.heap.size w)
    obtain ⟨W1, hW1⟩ : ∃ W1, w.alloc (.cells #[.int .i64 n, .string s] 45) = W1 := ⟨_, rfl⟩
    have hbW1 : Below w.heap.size w W1 := by rw [← hW1]; exact alloc_below w _
    have kW1 : W1.heap[w.heap.size]? = some (.cells #[.int .i64 n, .string s] 45 (0, 0)) := by rw [← hW1]; exact alloc_new w _
    have H2 := Lib.hid (And.intro (H1.out.trans (hbW1.mono H1.out.size)) (kW1))
    clear hbW1 kW1
    obtain ⟨z0, z1, fzx0, fzx1⟩ := blk2 H2.out.2
    go_enter Try.func28, Try.ntmps28
    go_wp2
    exact HR.out _ _ ⟨by rw [HZ.out]; try rfl, H2.out.1⟩
  · by_cases h2 : 4095 < n
    · have HZ := Lib.hid (said_no (x := (n, s)) fun h => by have := h.2.1; simp at this; omega)
      have H1 := Lib.hid (Below.refl w.heap.size w)
      obtain ⟨W1, hW1⟩ : ∃ W1, w.alloc (.cells #[.int .i64 n, .string s] 45) = W1 := ⟨_, rfl⟩
      have hbW1 : Below w.heap.size w W1 := by rw [← hW1]; exact alloc_below w _
      have kW1 : W1.heap[w.heap.size]? = some (.cells #[.int .i64 n, .string s] 45 (0, 0)) := by rw [← hW1]; exact alloc_new w _
      have H2 := Lib.hid (And.intro (H1.out.trans (hbW1.mono H1.out.size)) (kW1))
      clear hbW1 kW1
      obtain ⟨z0, z1, fzx0, fzx1⟩ := blk2 H2.out.2
      go_enter Try.func28, Try.ntmps28
      go_wp2
      exact HR.out _ _ ⟨by rw [HZ.out]; try rfl, H2.out.1⟩
    · by_cases h3 : s.size = 32
      · have hm : mayLeaf (n, s) := ⟨by show 0 ≤ n; omega, by show n < 4096; omega, h3⟩
        have HZ := Lib.hid (said_may hm)
        have h4 : ((s.size : Int) != 32) = false := by rw [h3]; rfl
        have HU := Lib.hid (fun w => rput_any n 4 w (by omega))
        have hz := put_small n
        simp only [putE, put4_ok hm.1 hm.2.1, if_true] at HU
        obtain ⟨A, hA⟩ : ∃ A, putS n 4 = A := ⟨_, rfl⟩
        rw [show (putS (n, s).1 4 ++ (n, s).2) = A ++ s by rw [← hA]] at HZ
        rw [hA] at HU hz
        have h5 : ¬ 9223372036854775807 < A.size + s.size := by omega
        clear hm hz hA h3
        have H1 := Lib.hid (Below.refl w.heap.size w)
        obtain ⟨W1, hW1⟩ : ∃ W1, w.alloc (.cells #[.int .i64 n, .string s] 45) = W1 := ⟨_, rfl⟩
        have hbW1 : Below w.heap.size w W1 := by rw [← hW1]; exact alloc_below w _
        have kW1 : W1.heap[w.heap.size]? = some (.cells #[.int .i64 n, .string s] 45 (0, 0)) := by rw [← hW1]; exact alloc_new w _
        have H2 := Lib.hid (And.intro (H1.out.trans (hbW1.mono H1.out.size)) (kW1))
        clear hbW1 kW1
        obtain ⟨z0, z1, fzx0, fzx1⟩ := blk2 H2.out.2
        go_enter Try.func28, Try.ntmps28
        go_wp2_with fail
        refine (HU.out _).mono ?_
        rintro en v1 ⟨rfl, hb⟩
        have H3 := Lib.hid (And.intro (H2.out.1.trans (hb.mono H2.out.1.size)) (blk_on hb H2.out.2))
        clear hb
        clear hW1
        obtain ⟨z0, z1, fzx0, fzx1⟩ := blk2 H3.out.2
        go_wp2
        exact HR.out _ _ ⟨by rw [HZ.out]; try rfl, H3.out.1⟩
      · have HZ := Lib.hid (said_no (x := (n, s)) fun h => h3 h.2.2)
        have h4 : ((s.size : Int) != 32) = true := by rw [bne_iff_ne]; omega
        clear h3
        have H1 := Lib.hid (Below.refl w.heap.size w)
        obtain ⟨W1, hW1⟩ : ∃ W1, w.alloc (.cells #[.int .i64 n, .string s] 45) = W1 := ⟨_, rfl⟩
        have hbW1 : Below w.heap.size w W1 := by rw [← hW1]; exact alloc_below w _
        have kW1 : W1.heap[w.heap.size]? = some (.cells #[.int .i64 n, .string s] 45 (0, 0)) := by rw [← hW1]; exact alloc_new w _
        have H2 := Lib.hid (And.intro (H1.out.trans (hbW1.mono H1.out.size)) (kW1))
        clear hbW1 kW1
        obtain ⟨z0, z1, fzx0, fzx1⟩ := blk2 H2.out.2
        go_enter Try.func28, Try.ntmps28
        go_wp2
        exact HR.out _ _ ⟨by rw [HZ.out]; try rfl, H2.out.1⟩
theorem rhash_any (x : LeafT) (w : World) : Calls Try.prog 26 #[.string (ByteArray.mk #[0] ++ saidS x)] w fun e w' => e = .returned (.string (hashS x)) ∧ Below w.heap.size w w' := by
  have hz := said_le x
  have h := rsumS_any (ByteArray.mk #[0] ++ saidS x) w (by rw [ByteArray.size_append]; show 1 + (saidS x).size ≤ _; omega)
  rw [show (ByteArray.mk #[0] ++ saidS x).data.toList = 0 :: (saidS x).data.toList by simp] at h
  exact h
set_option maxRecDepth 100000 in
set_option maxHeartbeats 4000000 in
theorem rhashes_any (lv : Value) (l : List LeafT) (w : World) (hl : Rd leafE w lv l) (hlen : l.length ≤ 1000000) :
    Calls Try.prog 17 #[lv] w fun e w' => ∃ v, e = .returned v ∧ Row strE w' w.heap.size 9 v (hashL l) ∧ Below w.heap.size w w' := by
  refine calls_by fun R HR => ?_
  have HL := Lib.hid hl
  obtain ⟨a, cap, rfl, hcap, -⟩ := hl.shape
  have hli : (l.length : Int) ≤ 1000000 := by omega
  clear hl hcap
  go_enter Try.func17, Try.ntmps17
  go_wp2_with fail
  go_loopw [3, 4] (fun v i wx => ∃ (k : Nat), k ≤ l.length ∧ i = .int .i64 k ∧ Hid (Row strE wx w.heap.size 9 v (hashL (l.take k)) ∧ Below w.heap.size w wx)) (fun _ i _ => l.length - (intOf i).toNat)
  case atStart => exact ⟨0, Nat.zero_le _, rfl, Lib.hid ⟨Row.nil _ _ _, Below.refl _ _⟩⟩
  case round =>
    obtain ⟨k, hk, rfl, hN⟩ := hrel
    by_cases hlt : k < l.length
    · have hki : (k : Int) < (l.length : Int) := by omega
      obtain ⟨x, hx⟩ : ∃ x, l[k]? = some x := ⟨_, List.getElem?_eq_getElem hlt⟩
      obtain ⟨b, o, ha, hb0, dd⟩ := (HL.out.below hN.out.2).at k x hx
      subst ha
      have HX := Lib.hid (hash_take l k x hx)
      have HK := Lib.hid (show (hashL (l.take k)).length ≤ 1000000 by rw [hashL_length, List.length_take]; omega)
      have HS := Lib.hid (fun w => rsaid_any x w)
      have HH := Lib.hid (fun w => rhash_any x w)
      have hz := said_le x
      generalize hashS x = sx at *
      generalize saidS x = sy at *
      have h5 : ¬ 9223372036854775807 < 1 + sy.size := by omega
      clear hz
      obtain ⟨n, s⟩ := x
      have d0 : wr.cell? ⟨b, o + k * 2, none⟩ = some (.int .i64 n) := dd 0 _ rfl
      have d1 : wr.cell? ⟨b, o + k * 2 + 1, none⟩ = some (.string s) := dd 1 _ rfl
      clear dd hx hb0
      go_wp2_with fail
      refine (HS.out _).mono ?_
      rintro e w3 ⟨rfl, hb⟩
      have H3 := Lib.hid (And.intro (hN.out.2.trans (hb.mono hN.out.2.size)) (hN.out.1.below hb))
      clear hb d0 d1
      go_wp2_with fail
      refine (HH.out _).mono ?_
      rintro e w4 ⟨rfl, hb⟩
      obtain ⟨W4, hW4⟩ : ∃ W4, w4.alloc (.cells #[.string sx] 9) = W4 := ⟨_, rfl⟩
      have hb4 : Below w4.heap.size w4 W4 := by rw [← hW4]; exact alloc_below _ _
      have hr4 : Rd strE W4 (.slice (some ⟨w4.heap.size, 0, none⟩) 1 1) [sx] := by rw [← hW4]; exact Rd.single (E := strE) sx (alloc_new _ _) rfl
      have H4 := Lib.hid (And.intro ((H3.out.1.trans (hb.mono H3.out.1.size)).trans (hb4.mono (Nat.le_trans H3.out.1.size hb.size))) (And.intro hr4 ((H3.out.2.below hb).below hb4)))
      clear hb hb4 hr4
      go_wp2_with (at_builtin; refine wpList_append_row _ rfl _ _ 42 rfl strT w.heap.size _ _ (hashL (l.take k)) [sx] rfl rfl H4.out.2.2 H4.out.2.1 H4.out.1.size (by have := HK.out; simp; omega) (by decide) ?_)
      intro r5 w5 hG
      have HG := Lib.hid (And.intro hG.1 (hG.below H4.out.1 H4.out.1.size (fun b e => (H4.out.2.2.lt e).1)))
      clear hG hW4
      go_wp2_with fail
      go_roundw
      case rel => exact ⟨k + 1, by omega, by go_num, Lib.hid ⟨by rw [HX.out]; exact HG.out.1, HG.out.2⟩⟩
      case measure => simp [intOf]; omega
    · obtain rfl : k = l.length := by omega
      have hki : ¬ (l.length : Int) < (l.length : Int) := by omega
      have HN := Lib.hid (show Row strE wr w.heap.size 9 u3 (hashL l) by have := hN.out.1; rwa [List.take_length] at this)
      go_wp2
      exact HR.out _ _ ⟨_, rfl, HN.out, hN.out.2⟩
end Go.Proofs.Ytdbabkkmdlkjaaa
/- Equal proofs are the same, for the reference. -/
namespace Go.Proofs.Ytdbabkkmdlkjaaa
open Go.RowKit Ks
set_option linter.unusedVariables false
set_option maxRecDepth 100000 in
set_option maxHeartbeats 4000000 in
theorem rsame_any (p : PrfD) (u v u2 v2 : Value) (w : World) (hu : Rd strE w u p.up) (hv : Rd strE w v p.left) (hu2 : Rd strE w u2 p.up) (hv2 : Rd strE w v2 p.left) (hun : p.up.length ≤ maxLen) (hvn : p.left.length ≤ maxLen) :
    Calls Try.prog 19 #[prfV p u v, prfV p u2 v2] w fun e w' => e = .returned (.bool true) ∧ Below w.heap.size w w' := by
  refine calls_by fun R HR => ?_
  have HD := Lib.hid (And.intro hu (And.intro hv (And.intro hu2 hv2)))
  obtain ⟨fd, at9, ⟨hn, hs⟩, ⟨an, as9⟩, up, left⟩ := p
  have HT := Lib.hid (fun (x y : Value) w h h' => (texts_any x y up up w h h' hun hun).mono fun e w' q => (show e = .returned (.bool true) ∧ Below w.heap.size w w' from ⟨by obtain ⟨b, q1, q2, q3⟩ := q; rw [q1, q2.2 rfl], by obtain ⟨b, q1, q2, q3⟩ := q; exact q3⟩))
  have HT2 := Lib.hid (fun (x y : Value) w h h' => (texts_any x y left left w h h' hvn hvn).mono fun e w' q => (show e = .returned (.bool true) ∧ Below w.heap.size w w' from ⟨by obtain ⟨b, q1, q2, q3⟩ := q; rw [q1, q2.2 rfl], by obtain ⟨b, q1, q2, q3⟩ := q; exact q3⟩))
  obtain ⟨ua, uc, rfl, -⟩ := hu.shape
  obtain ⟨la, lc, rfl, -⟩ := hv.shape
  obtain ⟨ub, ud, rfl, -⟩ := hu2.shape
  obtain ⟨lb, ld, rfl, -⟩ := hv2.shape
  dsimp only [prfV, prfC]
  clear hu hv hu2 hv2 hun hvn
  have H1 := Lib.hid (And.intro (Below.refl w.heap.size w) (And.intro (HD.out.1) (And.intro (HD.out.2.1) (And.intro (HD.out.2.2.1) (HD.out.2.2.2)))))
  obtain ⟨W1, hW1⟩ : ∃ W1, w.alloc (.cells #[.bool fd, .int .i64 at9, .int .i64 hn, .string hs, .int .i64 an, .string as9, .slice ua up.length uc, .slice la left.length lc] 48) = W1 := ⟨_, rfl⟩
  have hbW1 : Below w.heap.size w W1 := by rw [← hW1]; exact alloc_below w _
  have kW1 : W1.heap[w.heap.size]? = some (.cells #[.bool fd, .int .i64 at9, .int .i64 hn, .string hs, .int .i64 an, .string as9, .slice ua up.length uc, .slice la left.length lc] 48 (0, 0)) := by rw [← hW1]; exact alloc_new w _
  have H2 := Lib.hid (And.intro (H1.out.1.trans (hbW1.mono H1.out.1.size)) (And.intro (H1.out.2.1.below hbW1) (And.intro (H1.out.2.2.1.below hbW1) (And.intro (H1.out.2.2.2.1.below hbW1) (And.intro (H1.out.2.2.2.2.below hbW1) (kW1))))))
  clear hbW1 kW1
  obtain ⟨W2, hW2⟩ : ∃ W2, W1.alloc (.cells #[.bool fd, .int .i64 at9, .int .i64 hn, .string hs, .int .i64 an, .string as9, .slice ub up.length ud, .slice lb left.length ld] 48) = W2 := ⟨_, rfl⟩
  have hbW2 : Below W1.heap.size W1 W2 := by rw [← hW2]; exact alloc_below W1 _
  have kW2 : W2.heap[W1.heap.size]? = some (.cells #[.bool fd, .int .i64 at9, .int .i64 hn, .string hs, .int .i64 an, .string as9, .slice ub up.length ud, .slice lb left.length ld] 48 (0, 0)) := by rw [← hW2]; exact alloc_new W1 _
  have H3 := Lib.hid (And.intro (H2.out.1.trans (hbW2.mono H2.out.1.size)) (And.intro (H2.out.2.1.below hbW2) (And.intro (H2.out.2.2.1.below hbW2) (And.intro (H2.out.2.2.2.1.below hbW2) (And.intro (H2.out.2.2.2.2.1.below hbW2) (And.intro (blk_on hbW2 H2.out.2.2.2.2.2) (kW2)))))))
  clear hbW2 kW2
  obtain ⟨y0, y1, y2, y3, y4, y5, y6, y7⟩ := blk8 H3.out.2.2.2.2.2.1
  obtain ⟨z0, z1, z2, z3, z4, z5, z6, z7⟩ := blk8 H3.out.2.2.2.2.2.2
  go_enter Try.func19, Try.ntmps19
  go_wp2_with fail
  refine (HT.out _ _ _ H3.out.2.1 H3.out.2.2.2.1).mono ?_
  rintro en v1 ⟨rfl, hb⟩
  clear y0 z0 y1 z1 y2 z2 y3 z3 y4 z4 y5 z5 y6 z6 y7 z7 hW1 hW2
  have H4 := Lib.hid (And.intro (H3.out.1.trans (hb.mono H3.out.1.size)) (And.intro (H3.out.2.1.below hb) (And.intro (H3.out.2.2.1.below hb) (And.intro (H3.out.2.2.2.1.below hb) (And.intro (H3.out.2.2.2.2.1.below hb) (And.intro (blk_on hb H3.out.2.2.2.2.2.1) (blk_on hb H3.out.2.2.2.2.2.2)))))))
  clear hb
  obtain ⟨y0, y1, y2, y3, y4, y5, y6, y7⟩ := blk8 H4.out.2.2.2.2.2.1
  obtain ⟨z0, z1, z2, z3, z4, z5, z6, z7⟩ := blk8 H4.out.2.2.2.2.2.2
  go_wp2_with fail
  refine (HT2.out _ _ _ H4.out.2.2.1 H4.out.2.2.2.2.1).mono ?_
  rintro en v2 ⟨rfl, hb⟩
  clear y0 z0 y1 z1 y2 z2 y3 z3 y4 z4 y5 z5 y6 z6 y7 z7
  have H5 := Lib.hid (And.intro (H4.out.1.trans (hb.mono H4.out.1.size)) (And.intro (H4.out.2.1.below hb) (And.intro (H4.out.2.2.1.below hb) (And.intro (H4.out.2.2.2.1.below hb) (And.intro (H4.out.2.2.2.2.1.below hb) (And.intro (blk_on hb H4.out.2.2.2.2.2.1) (blk_on hb H4.out.2.2.2.2.2.2)))))))
  clear hb
  go_wp2
  exact HR.out _ _ ⟨rfl, H5.out.1⟩
end Go.Proofs.Ytdbabkkmdlkjaaa
/- The law's own functions of chapter 17: few acts, the same rows, the example. -/
set_option maxRecDepth 100000
namespace Ks
open Go Go.RowKit
def aliveA : List ActT := [(3, 0, ⟨#[97]⟩), (3, 1, ⟨#[98]⟩)]
theorem alive_ok0 : okAct 1 (3, 0, ⟨#[97]⟩) = true := okAct_spec.2 ⟨by decide, by decide, by decide, by decide⟩
theorem alive_ok1 : okAct 1 (3, 1, ⟨#[98]⟩) = true := okAct_spec.2 ⟨by decide, by decide, by decide, by decide⟩
theorem aliveL : playL 1 aliveA = [(3, dataS 1 1 ⟨#[98]⟩)] := by
  show refPut 1 (refPut 1 [] (3, 0, ⟨#[97]⟩)) (3, 1, ⟨#[98]⟩) = _
  rw [refPut, if_pos alive_ok1, refPut, if_pos alive_ok0]
  rfl
theorem alive_leaves : leavesTo (playM 1 aliveA) 4096 = [(3, dataS 1 1 ⟨#[98]⟩)] := by rw [(play_R 1 aliveA).leaves, aliveL]
theorem alive_count : (playM 1 aliveA).length = 1 := by rw [(play_R 1 aliveA).len, aliveL]; rfl
end Ks
namespace Go.Proofs.Ytdbabkkmdlkjaaa
open Go.RowKit Ks
set_option linter.unusedVariables false
set_option maxHeartbeats 4000000 in
theorem few17_any (lv : Value) (l : List ActT) (w : World) (hl : Rd actE17 w lv l) :
    Calls Try.prog 6 #[lv] w fun e w' => ∃ b : Bool, e = .returned (.bool b) ∧ (b = true → l.length ≤ 40) ∧ w' = w := by
  refine calls_by fun R HR => ?_
  have HL := Lib.hid hl
  obtain ⟨a, cap, rfl, -⟩ := hl.shape
  clear hl
  go_enter Try.func6, Try.ntmps6
  go_wp2_with fail
  go_loopw [3, 4] (fun n i wx => ∃ (k : Nat) (m : Int), k ≤ l.length ∧ n = .int .i64 m ∧ i = .int .i64 k ∧ wx = w) (fun _ i _ => l.length - (intOf i).toNat)
  case atStart => exact ⟨0, 0, Nat.zero_le _, rfl, rfl, rfl⟩
  case round =>
    obtain ⟨k, m, hk, rfl, rfl, hwr⟩ := hrel
    subst hwr
    by_cases hlt : k < l.length
    · have hki : (k : Int) < (l.length : Int) := by omega
      by_cases h2 : k ≤ 40
      · have h2i : (k : Int) ≤ 40 := by omega
        obtain ⟨x, hx⟩ : ∃ x, l[k]? = some x := ⟨_, List.getElem?_eq_getElem hlt⟩
        obtain ⟨b, o, ha, hb0, dd⟩ := (HL.out).at k x hx
        subst ha
        obtain ⟨n, s, t⟩ := x
        have d1 : wr.cell? ⟨b, o + k * 3 + 2, none⟩ = some (.string t) := dd 2 _ rfl
        clear dd hx hb0
        by_cases hs9 : t.size < 10000
        · have hsi : (t.size : Int) < 10000 := by omega
          go_wp2
          all_goals
            go_roundw
            case rel => exact ⟨k + 1, _, by omega, rfl, by go_num, trivial⟩
            case measure => simp [intOf]; omega
        · have hsi : ¬ (t.size : Int) < 10000 := by omega
          go_wp2
          all_goals
            go_roundw
            case rel => exact ⟨k + 1, _, by omega, rfl, by go_num, trivial⟩
            case measure => simp [intOf]; omega
      · have h2i : ¬ (k : Int) ≤ 40 := by omega
        have h40i : ¬ (l.length : Int) ≤ 40 := by omega
        have h40d : decide ((l.length : Int) ≤ 40) = false := decide_eq_false h40i
        have h40e : decide (l.length ≤ 40) = false := decide_eq_false (by omega)
        go_wp2
        exact HR.out _ _ ⟨false, rfl, (fun h => by cases h), rfl⟩
    · obtain rfl : k = l.length := by omega
      have hki : ¬ (l.length : Int) < (l.length : Int) := by omega
      by_cases h40 : l.length ≤ 40
      · have h40i : (l.length : Int) ≤ 40 := by omega
        go_wp2
        exact HR.out _ _ ⟨_, rfl, fun _ => h40, rfl⟩
      · have h40i : ¬ (l.length : Int) ≤ 40 := by omega
        have h40d : decide ((l.length : Int) ≤ 40) = false := decide_eq_false h40i
        have h40e : decide (l.length ≤ 40) = false := decide_eq_false h40
        go_wp2
        exact HR.out _ _ ⟨false, rfl, (fun h => by cases h), rfl⟩
set_option maxHeartbeats 4000000 in
theorem rsame17_any (u v : Value) (l : List LeafT) (w : World) (hu : Rd leafE w u l) (hv : Rd leafE w v l) (hlen : l.length ≤ 1000000) :
    Calls Try.prog 11 #[u, v] w fun e w' => e = .returned (.bool true) ∧ Below w.heap.size w w' := by
  refine calls_by fun R HR => ?_
  have HU := Lib.hid hu
  have HV := Lib.hid hv
  obtain ⟨a, cap, rfl, -⟩ := hu.shape
  obtain ⟨a2, cap2, rfl, -⟩ := hv.shape
  clear hu hv
  have hli : (l.length : Int) ≤ 1000000 := by omega
  go_enter Try.func11, Try.ntmps11
  go_wp2_with fail
  go_loopw [5] (fun i wx => ∃ (k : Nat), k ≤ l.length ∧ i = .int .i64 k ∧ Hid (Below w.heap.size w wx)) (fun i _ => l.length - (intOf i).toNat)
  case atStart => exact ⟨0, Nat.zero_le _, rfl, Lib.hid (Below.refl _ _)⟩
  case round =>
    obtain ⟨k, hk, rfl, hN⟩ := hrel
    by_cases hlt : k < l.length
    · have hki : (k : Int) < (l.length : Int) := by omega
      obtain ⟨x, hx⟩ : ∃ x, l[k]? = some x := ⟨_, List.getElem?_eq_getElem hlt⟩
      obtain ⟨b, o, ha, hb0, dd⟩ := (HU.out.below hN.out).at k x hx
      obtain ⟨b2, o2, ha2, hb2, dd2⟩ := (HV.out.below hN.out).at k x hx
      subst ha ha2
      obtain ⟨n, s⟩ := x
      have d0 : wr.cell? ⟨b, o + k * 2, none⟩ = some (.int .i64 n) := dd 0 _ rfl
      have d1 : wr.cell? ⟨b, o + k * 2 + 1, none⟩ = some (.string s) := dd 1 _ rfl
      have e0 : wr.cell? ⟨b2, o2 + k * 2, none⟩ = some (.int .i64 n) := dd2 0 _ rfl
      have e1 : wr.cell? ⟨b2, o2 + k * 2 + 1, none⟩ = some (.string s) := dd2 1 _ rfl
      have r0 := fun p => after_cell d0 p
      have r1 := fun p => after_cell d1 p
      have r2 := fun p => after_cell e0 p
      have r3 := fun p => after_cell e1 p
      clear dd dd2 hx hb0 hb2
      go_wp2_with fail
      refine wp_region_after (by kernel_rfl) (by kernel_rfl) ?_
      repeat (go_big_quiet_step (fail))
      refine wpQuiet_nil ?_
      rintro w5 ⟨q, rfl⟩
      have hb5 := after_below wr q
      have H5 := Lib.hid (hN.out.trans (hb5.mono hN.out.size))
      generalize After wr q = w5 at *
      clear hb5 r0 r1 r2 r3 d0 d1 e0 e1
      go_wp2_with fail
      go_roundw
      case rel => exact ⟨k + 1, by omega, by go_num, H5⟩
      case measure => simp [intOf]; omega
    · obtain rfl : k = l.length := by omega
      have hki : ¬ (l.length : Int) < (l.length : Int) := by omega
      go_wp2
      exact HR.out _ _ ⟨rfl, hN.out⟩
set_option maxHeartbeats 4000000 in
theorem alive17_any (w : World) : Calls Try.prog 7 #[] w fun e w' => e = .returned (.bool true) ∧ Below w.heap.size w w' := by
  refine calls_by fun R HR => ?_
  have HN := Lib.hid (snew_any 1 w (by decide) (by decide))
  have HP0 := Lib.hid (fun n mb m w h => sput_any n mb 1 m (3, 0, ⟨#[97]⟩) w h (by decide) (by decide))
  have HP1 := Lib.hid (fun n mb m w h => sput_any n mb 1 m (3, 1, ⟨#[98]⟩) w h (by decide) (by decide))
  simp only [segE, alive_ok0, alive_ok1, if_true] at HP0 HP1
  have HL := Lib.hid (fun n mb w h => sleaves_any n mb 1 (playM 1 aliveA) w h)
  have HC := Lib.hid (fun n mb w h => scount_any (n := n) (mb := mb) (e := 1) (m := playM 1 aliveA) w h)
  simp only [alive_leaves, alive_count] at HL HC
  have HD := Lib.hid (fun w => rdata_any 1 1 ⟨#[98]⟩ w (by decide) (by decide) (by decide))
  simp only [show dataE 1 1 = 0 from by decide, decide_true] at HD
  generalize dataS 1 1 ⟨#[98]⟩ = DS at *
  go_enter Try.func7, Try.ntmps7
  go_wp2_with fail
  refine HN.out.mono ?_
  rintro en v1 ⟨n, mb, rfl, hs, hb, hn0, hm0⟩
  have H1 := Lib.hid (And.intro hb (And.intro hs (And.intro hn0 hm0)))
  clear hs hb hn0 hm0
  go_wp2_with fail
  refine (HP0.out _ _ _ _ H1.out.2.1).mono ?_
  rintro en v2 ⟨rfl, hs, hb⟩
  have H2 := Lib.hid (And.intro (H1.out.1.trans (hb.below H1.out.2.2.2 H1.out.1.size)) hs)
  clear hs hb
  go_wp2_with fail
  refine (HP1.out _ _ _ _ H2.out.2).mono ?_
  rintro en v3 ⟨rfl, hs, hb⟩
  have H3 := Lib.hid (And.intro (H2.out.1.trans (hb.below H1.out.2.2.2 H2.out.1.size)) (show SegAt segKV v3 56 n mb 1 (playM 1 aliveA) from hs))
  clear hs hb
  go_wp2_with fail
  refine (HL.out _ _ _ H3.out.2).mono ?_
  rintro en v4 ⟨lv, rfl, hrow, hb⟩
  obtain ⟨g, cap, rfl, -⟩ := hrow.pos (by simp)
  have H4 := Lib.hid (And.intro (H3.out.1.trans (hb.mono H3.out.1.size)) (And.intro (H3.out.2.below hb) hrow.rd))
  clear hb hrow
  go_wp2_with fail
  refine (HD.out _).mono ?_
  rintro en v5 ⟨rfl, hb⟩
  have H5 := Lib.hid (And.intro (H4.out.1.trans (hb.mono H4.out.1.size)) (And.intro (H4.out.2.1.below hb) (H4.out.2.2.below hb)))
  clear hb
  obtain ⟨b, o, ha, hb0, dd⟩ := H5.out.2.2.at 0 _ rfl
  have d0 : v5.cell? ⟨b, o, none⟩ = some (.int .i64 3) := dd 0 _ rfl
  have d1 : v5.cell? ⟨b, o + 1, none⟩ = some (.string DS) := dd 1 _ rfl
  cases ha
  clear dd hb0
  go_wp2_with fail
  refine (HC.out _ _ _ H5.out.2.1).mono ?_
  rintro en v6 ⟨rfl, hw⟩
  rw [hw]
  clear hw
  go_wp2
  exact HR.out _ _ ⟨rfl, H5.out.1⟩
end Go.Proofs.Ytdbabkkmdlkjaaa
/- Slices among a law's arguments, of whatever elements: what they read as. No program is in sight. -/
namespace Ks
open Go Go.RowKit Go.ChangeShapes Go.WideShapes Go.ChangeAt
set_option linter.unusedVariables false

section
variable {α : Type} {E : Enc α} {H : Type} {enc : TypeId × Value → H} {P : Program} {W : World}

theorem cells_at {w : World} {base : Nat} {a : Addr} {k : Nat} {cs : List Value} (h : w.cells? base a k = some cs) : cs.length = k ∧ ∀ j u, cs[j]? = some u → w.cell? (a.add j) = some u := by
  obtain ⟨_, h2, h3⟩ := World.cells?_some h
  refine ⟨h2, fun j u hj => ?_⟩
  have hlt : j < k := by have := (List.getElem?_eq_some_iff.1 hj).1; omega
  have := h3 j hlt
  rw [hj] at this
  exact this

theorem rd_opens {T e : TypeId} {fuel : Nat} {cs : List Value} {d : DataW H × List MemPlace} (hT : P.underlying T = some (.slice e)) (hc : P.cellsOf e = E.k) (G : α → Prop)
    (hE : ∀ n cs d, DataW.trod enc P W 0 (fun _ => true) true n e cs = some d → cs.length = E.k → ∃ x, cs = E.enc x ∧ G x)
    (h : DataW.trod enc P W 0 (fun _ => true) true fuel T cs = some d) : ∃ v l, cs = [v] ∧ v.oneCell' = true ∧ Rd E W v l ∧ l.length ≤ maxLen ∧ ∀ x ∈ l, G x := by
  rcases Go.Deep.open_slice hT h with ⟨rfl, _⟩ | ⟨a, len, cap, m, n, D, Pl, rfl, _, hl, hm, hmm, _, hxx⟩
  · exact ⟨_, [], rfl, rfl, Rd.nil W, by simp, fun x hx => by simp at hx⟩
  · simp only [if_true] at hmm
    have hall : ∀ i, i < len → ∃ x : α, G x ∧ ∀ j u, (E.enc x)[j]? = some u → W.cell? ((a.add (i * E.k)).add j) = some u := by
      intro i hi
      obtain ⟨cs', h1, h2⟩ := hxx i (by omega)
      rw [hc] at h1
      obtain ⟨h3, h4⟩ := cells_at h1
      obtain ⟨x, rfl, hG⟩ := hE _ _ _ h2 h3
      exact ⟨x, hG, h4⟩
    have key : ∀ k, k ≤ len → ∃ l : List α, l.length = k ∧ (∀ x ∈ l, G x) ∧ ∀ i x, l[i]? = some x → ∀ j u, (E.enc x)[j]? = some u → W.cell? ((a.add (i * E.k)).add j) = some u := by
      intro k
      induction k with
      | zero => exact fun _ => ⟨[], rfl, fun x hx => by simp at hx, fun i x hx => by simp at hx⟩
      | succ k ih =>
        intro hk
        obtain ⟨l, h1, h2, h3⟩ := ih (by omega)
        obtain ⟨x, hG, hc⟩ := hall k (by omega)
        refine ⟨l ++ [x], by simp [h1], fun y hy => ?_, fun i y hy => ?_⟩
        · rcases List.mem_append.1 hy with h | h
          · exact h2 y h
          · simp at h; subst h; exact hG
        · by_cases hi : i < l.length
          · rw [List.getElem?_append_left hi] at hy
            exact h3 i y hy
          · have hik : i = k := by have := (List.getElem?_eq_some_iff.1 hy).1; simp at this; omega
            subst hik
            rw [List.getElem?_append_right (by omega), h1, Nat.sub_self] at hy
            simp at hy
            subst hy
            exact hc
    obtain ⟨l, hlen, hG, hcell⟩ := key len (Nat.le_refl _)
    subst hlen
    refine ⟨_, l, rfl, rfl, ⟨some a, cap, rfl, hl, fun e => by simp at e, fun i x hx => ?_⟩, by omega, hG⟩
    have h0 : 0 < (E.enc x).length := by rw [E.len]; exact E.pos
    have hlt : 0 < l.length := by have := (List.getElem?_eq_some_iff.1 hx).1; omega
    have h00 : 0 < (E.enc l[0]).length := by rw [E.len]; exact E.pos
    have hc0 := hcell 0 l[0] (List.getElem?_eq_getElem hlt) 0 _ (List.getElem?_eq_getElem h00)
    obtain ⟨b, o, s⟩ := a
    have ha : ((⟨b, o, s⟩ : Addr).add (0 * E.k)).add 0 = ⟨b, o, s⟩ := by simp [Addr.add]
    rw [ha] at hc0
    have hs : s = none := spot_none hc0
    subst hs
    refine ⟨b, o, rfl, ?_, fun j u hu => ?_⟩
    · exact World.block_lt_of_cell? _ _ hc0
    · have := hcell i x hx j u hu
      rwa [add_place, add_place] at this

theorem rd_open {T e : TypeId} {base : Nat} {v : Value} {d : DataW H} {ps : List MemPlace} (hT : P.underlying T = some (.slice e)) (hc : P.cellsOf e = E.k) (G : α → Prop)
    (hE : ∀ n cs d, DataW.trod enc P W 0 (fun _ => true) true n e cs = some d → cs.length = E.k → ∃ x, cs = E.enc x ∧ G x)
    (hok : Value.okWide P W .any base T v) (h : DataW.Trod enc P W 0 (fun _ => true) true T v d ps) : ∃ l, Rd E W v l ∧ l.length ≤ maxLen ∧ ∀ x ∈ l, G x := by
  obtain ⟨a0, len, cap, rfl⟩ := okWide_slice hT hok
  obtain ⟨fuel, hf⟩ := h
  obtain ⟨v', l, e, _, h1, h2, h3⟩ := rd_opens (E := E) hT hc G hE hf
  simp only [Value.cells, List.cons.injEq, and_true] at e
  subst e
  exact ⟨l, h1, h2, h3⟩
end

theorem choose_list {α β : Type} {p : α → β → Prop} : ∀ (l : List α), (∀ x ∈ l, ∃ y, p x y) → ∃ l' : List β, l'.length = l.length ∧ ∀ (i : Nat) (x : α) (y : β), l[i]? = some x → l'[i]? = some y → p x y
  | [], _ => ⟨[], rfl, fun i x y hx => by simp at hx⟩
  | x :: l, h => by
    obtain ⟨y, hy⟩ := h x (by simp)
    obtain ⟨l', h1, h2⟩ := choose_list l fun z hz => h z (by simp [hz])
    refine ⟨y :: l', by simp [h1], fun i a b ha hb => ?_⟩
    match i, ha, hb with
    | 0, ha, hb => simp at ha hb; subst ha hb; exact hy
    | i + 1, ha, hb => exact h2 i a b (by simpa using ha) (by simpa using hb)

/-- a slice's head, as data -/
abbrev Hdr := Option Addr × Nat × Nat
abbrev hdrV (h : Hdr) : Value := .slice h.1 h.2.1 h.2.2
end Ks
/- Acts of chapter 17 among a law's arguments. -/
namespace Go.Proofs.Ytdbabkkmdlkjaaa
open Go Go.RowKit Go.ChangeShapes Go.WideShapes Go.ChangeAt Ks
set_option linter.unusedVariables false
theorem cellsAct17 : Try.prog.cellsOf 34 = 3 := by kernel_rfl
theorem cellsInt17 : Try.prog.cellsOf 3 = 1 := by kernel_rfl
theorem cellsString17 : Try.prog.cellsOf 9 = 1 := by kernel_rfl
set_option maxRecDepth 100000 in
theorem act17_of {H : Type} {enc : TypeId × Value → H} {W : World} (n : Nat) (cs : List Value) (d : DataW H × List MemPlace) (h : DataW.trod enc Try.prog W 0 (fun _ => true) true n 34 cs = some d) (hl : cs.length = actE17.k) :
    ∃ x : ActT, cs = actE17.enc x ∧ fitAct x := by
  obtain ⟨xs, n, _, _, hl, hlen, hF⟩ := DataW.trod_struct Try.underlying34 h
  rw [cellsAct17] at hl
  match cs, hl, xs, hlen with
  | [c0, c1, c2], _, [x0, x1, x2], _ =>
    have t0 := hF 0 _ rfl
    have t1 := hF 1 _ rfl
    have t2 := hF 2 _ rfl
    simp [cellsInt17, cellsString17] at t0 t1 t2
    obtain ⟨e, h0, _, s0⟩ := DataW.trod_int Try.underlying3 t0
    obtain ⟨f, h1, _, s1⟩ := DataW.trod_int Try.underlying3 t1
    obtain ⟨t, h2, _, s2⟩ := DataW.trod_string Try.underlying9 t2
    simp at h0 h1 h2
    subst h0 h1 h2
    exact ⟨(e, f, t), rfl, i64_range s0, i64_range s1, s2⟩
set_option maxRecDepth 100000 in
theorem open_acts17 {H : Type} {enc : TypeId × Value → H} {W : World} {base : Nat} {v : Value} {d : DataW H} {ps : List MemPlace}
    (hok : Value.okWide Try.prog W .any base 22 v) (h : DataW.Trod enc Try.prog W 0 (fun _ => true) true 22 v d ps) : ∃ l, Rd actE17 W v l ∧ l.length ≤ maxLen ∧ ∀ x ∈ l, fitAct x :=
  rd_open (E := actE17) Try.underlying22 cellsAct17 _ act17_of hok h
set_option maxRecDepth 100000 in
theorem open_act17 {H : Type} {enc : TypeId × Value → H} {W : World} {base : Nat} {v : Value} {d : DataW H} {ps : List MemPlace}
    (hok : Value.okWide Try.prog W .any base 34 v) (h : DataW.Trod enc Try.prog W 0 (fun _ => true) true 34 v d ps) :
    ∃ x : ActT, v = actV17 x ∧ fitAct x := by
  obtain ⟨fuel, hf⟩ := h
  have hv : ∃ cs, v = .agg cs := by
    have h0 := hok
    unfold Value.okWide at h0
    rw [Try.underlying34] at h0
    obtain ⟨cs, h1, _⟩ := h0
    exact ⟨cs, h1⟩
  obtain ⟨⟨cs⟩, rfl⟩ := hv
  have hl : cs.length = 3 := by
    obtain ⟨xs, n, _, _, hl, _, _⟩ := DataW.trod_struct Try.underlying34 hf
    rw [cellsAct17] at hl
    simpa [Value.cells] using hl
  obtain ⟨x, hx, hg⟩ := act17_of _ _ _ hf hl
  refine ⟨x, ?_, hg⟩
  simp only [Value.cells] at hx
  subst hx
  rfl
end Go.Proofs.Ytdbabkkmdlkjaaa
