/- Texts that the claim rests on, part 6: MerkleRPath, SeqBoth, Texts, Foot, MerkleClimb, MerkleUp, MerkleRUp. -/
import Derived.Test.YtophfeapmmfppaaProg
import Derived.BigQuiet
import Derived.Deep.DeepCutAuto
import Derived.Test.YtophfeapmmfppaaM5
/- The reference's trees of hashes: a leaf's path. -/
namespace Go.Proofs.Ytophfeapmmfppaa
open Go.RowKit Ks
set_option linter.unusedVariables false
theorem eg_rroot : ∀ args w, (callFunc 16 args).run Try.prog w = .ok (.enter 16 args) w := fun _ _ => rfl
theorem eg_rpath : ∀ args w, (callFunc 18 args).run Try.prog w = .ok (.enter 18 args) w := fun _ _ => rfl
theorem path_len : ∀ (n : Nat) (l : List ByteArray) (i : Nat), l.length = n → (pathL l i).length ≤ n := by
  intro n
  induction n using Nat.strongRecOn with
  | ind n ih =>
    intro l i hn
    by_cases h : 2 ≤ l.length
    · have hh := half_lt l.length h
      rw [path_two l i h]
      split
      · have := ih (halfN l.length) (by omega) (l.take (halfN l.length)) i (by rw [List.length_take]; omega)
        simp; omega
      · have := ih (l.length - halfN l.length) (by omega) (l.drop (halfN l.length)) (i - halfN l.length) (by rw [List.length_drop])
        simp; omega
    · rw [path_low l i h]; simp
set_option maxRecDepth 100000 in
set_option maxHeartbeats 4000000 in
theorem rpath_any : ∀ (n : Nat) (l : List ByteArray) (i : Nat) (lv : Value) (w : World), l.length = n → n ≤ 100000000 → i < n → Rd strE w lv l → wholeL l = true →
    Calls Try.prog 18 #[lv, .int .i64 (i : Nat)] w fun e w' => ∃ v, e = .returned v ∧ Row strE w' w.heap.size 9 v (pathL l i) ∧ Below w.heap.size w w' := by
  intro n
  induction n using Nat.strongRecOn with
  | ind n ih =>
  intro l i lv w hn hb hi hr hw
  refine calls_by fun R HR => ?_
  obtain ⟨a, cap, rfl, hcap, -⟩ := hr.shape
  by_cases h2 : 2 ≤ n
  · obtain ⟨b, o, rfl, hb1, -⟩ := hr.str 0 (by omega)
    have hn2 : ¬ (l.length : Int) < 2 := by omega
    have hh := half_lt l.length (by omega)
    have HH := Lib.hid (rhalf_any l.length w (by omega) (by omega))
    have hw' : ∀ s ∈ l, s.size = 32 := by simpa [wholeL] using hw
    have w1' : wholeL (l.take (halfN l.length)) = true := by simp only [wholeL, List.all_eq_true, beq_iff_eq]; exact fun s hs => hw' s (List.mem_of_mem_take hs)
    have w2 : wholeL (l.drop (halfN l.length)) = true := by simp only [wholeL, List.all_eq_true, beq_iff_eq]; exact fun s hs => hw' s (List.mem_of_mem_drop hs)
    have hT := hr.take (k := halfN l.length) (by omega) cap (by omega)
    have hD := hr.drop (k := halfN l.length) (by omega) (some ⟨b, o + halfN l.length, none⟩) (fun _ => by simp [strE]) (by simp) (cap - halfN l.length) (by omega)
    have hk1 : ((halfN l.length : Nat) : Int) < (l.length : Int) := by omega
    have hk0 : (0 : Int) < ((halfN l.length : Nat) : Int) := by omega
    have hk2 : ((halfN l.length : Nat) : Int) ≤ (cap : Int) := by omega
    have hk3 : ¬ cap = halfN l.length := by omega
    have hk4 : ((halfN l.length : Nat) : Int) ≤ (l.length : Int) := by omega
    have hk5 : (l.length : Int) ≤ (cap : Int) := by omega
    have hli : (l.length : Int) ≤ 100000000 := by omega
    by_cases hk : i < halfN l.length
    · have HZ := Lib.hid (show pathL l i = pathL (l.take (halfN l.length)) i ++ [rootL (l.drop (halfN l.length))] by rw [path_two l i (by omega), if_pos hk])
      have cR := Lib.hid (fun (w1 : World) (h : Below w.heap.size w w1) => rroot_any (l.drop (halfN l.length)).length (l.drop (halfN l.length)) _ w1 rfl (by rw [List.length_drop]; omega) (hD.below h) w2)
      have cP := Lib.hid (fun (w1 : World) (h : Below w.heap.size w w1) => ih (l.take (halfN l.length)).length (by rw [List.length_take]; omega) (l.take (halfN l.length)) i _ w1 rfl (by rw [List.length_take]; omega) (by rw [List.length_take]; omega) (hT.below h) w1')
      have hAL := Lib.hid (show (pathL (l.take (halfN l.length)) i).length ≤ 100000000 by have := path_len _ (l.take (halfN l.length)) i rfl; rw [List.length_take] at this; omega)
      have hki : (i : Int) < ((halfN l.length : Nat) : Int) := by omega
      generalize rootL (l.drop (halfN l.length)) = y at *
      generalize pathL (l.take (halfN l.length)) i = A at *
      generalize halfN l.length = k at *
      clear hr ih hn h2 hw hw' w1' w2 hT hD hh hk hi
      go_enter Try.func18, Try.ntmps18
      go_wp2_with fail
      refine HH.out.mono ?_
      rintro e w3 ⟨rfl, hw3⟩
      rw [hw3]
      clear hw3
      go_wp2_with fail
      refine wp_region_mv (fun f => Joins strE w 9 A [y] (f 4) (f 9) (f 10)) (by kernel_rfl) (Joins.start (drew_below w)) ?_
      obtain ⟨S, F, hF, hFC⟩ := moved_class (fun f => Joins strE w 9 A [y] (f 4) (f 9) (f 10))
      show wpAnyM _ _ _ _ _ 12 (Array.replicate 12 false) _ _
      refine mv_read 0 hF (fun _ _ _ h => h) rfl (by kernel_rfl) (by kernel_rfl) (by kernel_rfl) (fun K hK => ?_)
      go_simp
      first | refine ⟨_, fun _ => rfl, hK _ _ ?_⟩ | refine hK _ _ ?_
      clear hK K
      refine mv_read 1 hF (fun _ _ _ h => h) rfl (by kernel_rfl) (by kernel_rfl) (by kernel_rfl) (fun K hK => ?_)
      go_simp
      first | refine ⟨_, fun _ => rfl, hK _ _ ?_⟩ | refine hK _ _ ?_
      clear hK K
      refine mv_read 2 hF (fun _ _ _ h => h) rfl (by kernel_rfl) (by kernel_rfl) (by kernel_rfl) (fun K hK => ?_)
      go_simp
      first | refine ⟨_, fun _ => rfl, hK _ _ ?_⟩ | refine hK _ _ ?_
      clear hK K
      refine mv_read 3 hF (fun _ _ _ h => h) rfl (by kernel_rfl) (by kernel_rfl) (by kernel_rfl) (fun K hK => ?_)
      go_simp
      first | refine ⟨_, fun _ => rfl, hK _ _ ?_⟩ | refine hK _ _ ?_
      clear hK K
      refine mv_read 5 hF (fun _ _ _ h => h) rfl (by kernel_rfl) (by kernel_rfl) (by kernel_rfl) (fun K hK => ?_)
      go_simp
      first | refine ⟨_, fun _ => rfl, hK _ _ ?_⟩ | refine hK _ _ ?_
      clear hK K
      refine mv_read 6 hF (fun _ _ _ h => h) rfl (by kernel_rfl) (by kernel_rfl) (by kernel_rfl) (fun K hK => ?_)
      go_simp
      first | refine ⟨_, fun _ => rfl, hK _ _ ?_⟩ | refine hK _ _ ?_
      clear hK K
      refine mv_read 7 hF (fun _ _ _ h => h) rfl (by kernel_rfl) (by kernel_rfl) (by kernel_rfl) (fun K hK => ?_)
      go_simp
      first | refine ⟨_, fun _ => rfl, hK _ _ ?_⟩ | refine hK _ _ ?_
      clear hK K
      refine mv_call 4 18 rfl (by kernel_rfl) rfl rfl eg_rpath (args := #[.slice (some ⟨b, o, none⟩) k cap, .int .i64 (i : Nat)]) rfl (fun _ => True) (fun g w1 ha h0 h => by
          simp only [h0] at h
          exact (cP.out w1 h.1).mono fun e w' ⟨v', h1, h2, h3⟩ => ⟨v', h1, trivial, h.path h2 h3⟩) ?_
      rintro pv -
      refine mv_call1 8 16 rfl (by kernel_rfl) (by kernel_rfl) (by kernel_rfl) rfl rfl eg_rroot (args := #[.slice (some ⟨b, o + k, none⟩) (l.length - k) (cap - k)]) rfl (u := .string y) (fun g w1 _ _ h => (cR.out w1 h.1).mono fun e w' ⟨h1, h2⟩ => ⟨h1, h.on h2⟩) ?_
      refine mv_alone 9 rfl (by kernel_rfl) rfl (fun v => ∃ g, v = .slice (some ⟨g, 0, none⟩) 1 1) (fun g w1 ha h0 h D hD => by
          simp only [h0] at h
          have h8 := h.made #[.string y] rfl (T' := 9)
          clear h
          go_simp
          exact hD _ _ ⟨_, rfl⟩ h8) ?_
      rintro _ ⟨gs, rfl⟩
      refine mv_append 10 rfl (by kernel_rfl) rfl (.tmp 19) (.tmp 24) 22 rfl strT w.heap.size _ _ A [y] rfl rfl (by have := hAL.out; simp; omega) (by decide) (fun g w1 ha h0 h => ?_) (fun _ => True) (fun g w1 v' w' ha h0 h hG => ?_) ?_
      · have e1 : g 9 = some (.slice (some ⟨gs, 0, none⟩) 1 1) := (agree_on 9 ha (by kernel_rfl)).trans rfl
        have e2 : g 4 = some pv := (agree_on 4 ha (by kernel_rfl)).trans rfl
        simp only [e1, e2, h0] at h
        exact h.rows
      · have e1 : g 9 = some (.slice (some ⟨gs, 0, none⟩) 1 1) := (agree_on 9 ha (by kernel_rfl)).trans rfl
        have e2 : g 4 = some pv := (agree_on 4 ha (by kernel_rfl)).trans rfl
        simp only [e1, e2, h0] at h
        refine ⟨trivial, ?_⟩
        show Joins _ _ _ _ _ (g 4) (g 9) _ _
        rw [e1, e2]
        exact h.grew hG
      rintro vz -
      refine mv_read 11 hF (fun _ _ _ h => h) rfl (by kernel_rfl) (by kernel_rfl) (by kernel_rfl) (fun K hK => ?_)
      go_simp
      first | refine ⟨_, fun _ => rfl, hK _ _ ?_⟩ | refine hK _ _ ?_
      clear hK K
      refine mv_end (by kernel_rfl) ?_
      intro w2 hw2
      have HG : Joins strE w 9 A [y] (some pv) (some (.slice (some ⟨gs, 0, none⟩) 1 1)) (some vz) w2 := hw2
      have HG := Lib.hid HG
      clear hw2 hF hFC
      go_wp2
      exact HR.out _ _ ⟨vz, rfl, by rw [HZ.out]; exact HG.out.2.2, HG.out.1⟩
    · have HZ := Lib.hid (show pathL l i = pathL (l.drop (halfN l.length)) (i - halfN l.length) ++ [rootL (l.take (halfN l.length))] by rw [path_two l i (by omega), if_neg hk])
      have cR := Lib.hid (fun (w1 : World) (h : Below w.heap.size w w1) => rroot_any (l.take (halfN l.length)).length (l.take (halfN l.length)) _ w1 rfl (by rw [List.length_take]; omega) (hT.below h) w1')
      have cP := Lib.hid (fun (w1 : World) (h : Below w.heap.size w w1) => ih (l.drop (halfN l.length)).length (by rw [List.length_drop]; omega) (l.drop (halfN l.length)) (i - halfN l.length) _ w1 rfl (by rw [List.length_drop]; omega) (by rw [List.length_drop]; omega) (hD.below h) w2)
      have hAL := Lib.hid (show (pathL (l.drop (halfN l.length)) (i - halfN l.length)).length ≤ 100000000 by have := path_len _ (l.drop (halfN l.length)) (i - halfN l.length) rfl; rw [List.length_drop] at this; omega)
      have hki : ¬ (i : Int) < ((halfN l.length : Nat) : Int) := by omega
      have e2 : (i : Int) - ((halfN l.length : Nat) : Int) = ((i - halfN l.length : Nat) : Int) := by omega
      have hii : i - halfN l.length ≤ 100000000 := by omega
      generalize rootL (l.take (halfN l.length)) = y at *
      generalize pathL (l.drop (halfN l.length)) (i - halfN l.length) = A at *
      generalize i - halfN l.length = i2 at *
      generalize halfN l.length = k at *
      have wi2 : IntKind.i64.wrap ((i2 : Nat) : Int) = ((i2 : Nat) : Int) := by rw [IntKind.wrap_i64]; omega
      clear hr ih hn h2 hw hw' w1' w2 hT hD hh hk hi hii
      go_enter Try.func18, Try.ntmps18
      go_wp2_with fail
      refine HH.out.mono ?_
      rintro e w3 ⟨rfl, hw3⟩
      rw [hw3]
      clear hw3
      go_wp2_with fail
      refine wp_region_mv (fun f => Joins strE w 9 A [y] (f 6) (f 11) (f 12)) (by kernel_rfl) (Joins.start (drew_below w)) ?_
      obtain ⟨S, F, hF, hFC⟩ := moved_class (fun f => Joins strE w 9 A [y] (f 6) (f 11) (f 12))
      show wpAnyM _ _ _ _ _ 14 (Array.replicate 14 false) _ _
      refine mv_read 0 hF (fun _ _ _ h => h) rfl (by kernel_rfl) (by kernel_rfl) (by kernel_rfl) (fun K hK => ?_)
      go_simp
      first | refine ⟨_, fun _ => rfl, hK _ _ ?_⟩ | refine hK _ _ ?_
      clear hK K
      refine mv_read 1 hF (fun _ _ _ h => h) rfl (by kernel_rfl) (by kernel_rfl) (by kernel_rfl) (fun K hK => ?_)
      go_simp
      first | refine ⟨_, fun _ => rfl, hK _ _ ?_⟩ | refine hK _ _ ?_
      clear hK K
      refine mv_read 2 hF (fun _ _ _ h => h) rfl (by kernel_rfl) (by kernel_rfl) (by kernel_rfl) (fun K hK => ?_)
      go_simp
      first | refine ⟨_, fun _ => rfl, hK _ _ ?_⟩ | refine hK _ _ ?_
      clear hK K
      refine mv_read 3 hF (fun _ _ _ h => h) rfl (by kernel_rfl) (by kernel_rfl) (by kernel_rfl) (fun K hK => ?_)
      go_simp
      first | refine ⟨_, fun _ => rfl, hK _ _ ?_⟩ | refine hK _ _ ?_
      clear hK K
      refine mv_read 4 hF (fun _ _ _ h => h) rfl (by kernel_rfl) (by kernel_rfl) (by kernel_rfl) (fun K hK => ?_)
      go_simp
      first | refine ⟨_, fun _ => rfl, hK _ _ ?_⟩ | refine hK _ _ ?_
      clear hK K
      refine mv_read 5 hF (fun _ _ _ h => h) rfl (by kernel_rfl) (by kernel_rfl) (by kernel_rfl) (fun K hK => ?_)
      go_simp
      first | refine ⟨_, fun _ => rfl, hK _ _ ?_⟩ | refine hK _ _ ?_
      clear hK K
      refine mv_read 7 hF (fun _ _ _ h => h) rfl (by kernel_rfl) (by kernel_rfl) (by kernel_rfl) (fun K hK => ?_)
      go_simp
      first | refine ⟨_, fun _ => rfl, hK _ _ ?_⟩ | refine hK _ _ ?_
      clear hK K
      refine mv_read 8 hF (fun _ _ _ h => h) rfl (by kernel_rfl) (by kernel_rfl) (by kernel_rfl) (fun K hK => ?_)
      go_simp
      first | refine ⟨_, fun _ => rfl, hK _ _ ?_⟩ | refine hK _ _ ?_
      clear hK K
      refine mv_read 9 hF (fun _ _ _ h => h) rfl (by kernel_rfl) (by kernel_rfl) (by kernel_rfl) (fun K hK => ?_)
      go_simp
      first | refine ⟨_, fun _ => rfl, hK _ _ ?_⟩ | refine hK _ _ ?_
      clear hK K
      refine mv_call 6 18 rfl (by kernel_rfl) rfl rfl eg_rpath (args := #[.slice (some ⟨b, o + k, none⟩) (l.length - k) (cap - k), .int .i64 (i2 : Nat)]) rfl (fun _ => True) (fun g w1 ha h0 h => by
          simp only [h0] at h
          exact (cP.out w1 h.1).mono fun e w' ⟨v', h1, h2, h3⟩ => ⟨v', h1, trivial, h.path h2 h3⟩) ?_
      rintro pv -
      refine mv_call1 10 16 rfl (by kernel_rfl) (by kernel_rfl) (by kernel_rfl) rfl rfl eg_rroot (args := #[.slice (some ⟨b, o, none⟩) k cap]) rfl (u := .string y) (fun g w1 _ _ h => (cR.out w1 h.1).mono fun e w' ⟨h1, h2⟩ => ⟨h1, h.on h2⟩) ?_
      refine mv_alone 11 rfl (by kernel_rfl) rfl (fun v => ∃ g, v = .slice (some ⟨g, 0, none⟩) 1 1) (fun g w1 ha h0 h D hD => by
          simp only [h0] at h
          have h8 := h.made #[.string y] rfl (T' := 9)
          clear h
          go_simp
          exact hD _ _ ⟨_, rfl⟩ h8) ?_
      rintro _ ⟨gs, rfl⟩
      refine mv_append 12 rfl (by kernel_rfl) rfl (.tmp 32) (.tmp 37) 22 rfl strT w.heap.size _ _ A [y] rfl rfl (by have := hAL.out; simp; omega) (by decide) (fun g w1 ha h0 h => ?_) (fun _ => True) (fun g w1 v' w' ha h0 h hG => ?_) ?_
      · have e1 : g 11 = some (.slice (some ⟨gs, 0, none⟩) 1 1) := (agree_on 11 ha (by kernel_rfl)).trans rfl
        have e2 : g 6 = some pv := (agree_on 6 ha (by kernel_rfl)).trans rfl
        simp only [e1, e2, h0] at h
        exact h.rows
      · have e1 : g 11 = some (.slice (some ⟨gs, 0, none⟩) 1 1) := (agree_on 11 ha (by kernel_rfl)).trans rfl
        have e2 : g 6 = some pv := (agree_on 6 ha (by kernel_rfl)).trans rfl
        simp only [e1, e2, h0] at h
        refine ⟨trivial, ?_⟩
        show Joins _ _ _ _ _ (g 6) (g 11) _ _
        rw [e1, e2]
        exact h.grew hG
      rintro vz -
      refine mv_read 13 hF (fun _ _ _ h => h) rfl (by kernel_rfl) (by kernel_rfl) (by kernel_rfl) (fun K hK => ?_)
      go_simp
      first | refine ⟨_, fun _ => rfl, hK _ _ ?_⟩ | refine hK _ _ ?_
      clear hK K
      refine mv_end (by kernel_rfl) ?_
      intro w2 hw2
      have HG : Joins strE w 9 A [y] (some pv) (some (.slice (some ⟨gs, 0, none⟩) 1 1)) (some vz) w2 := hw2
      have HG := Lib.hid HG
      clear hw2 hF hFC
      go_wp2
      exact HR.out _ _ ⟨vz, rfl, by rw [HZ.out]; exact HG.out.2.2, HG.out.1⟩
  · have HZ := Lib.hid (path_low l i (by omega))
    have hn2 : (l.length : Int) < 2 := by omega
    clear ih hi hb h2 hr hw
    go_enter Try.func18, Try.ntmps18
    go_wp2
    exact HR.out _ _ ⟨_, rfl, by rw [HZ.out]; exact Row.nil _ _ _, Below.refl _ _⟩
end Go.Proofs.Ytophfeapmmfppaa
/- A row copied by append, and one more behind it, in a statement that draws its order: what each order runs to. Plain. No program is in sight. -/
namespace Ks
open Go Go.RowKit
set_option linter.unusedVariables false

variable {α : Type} {E : Enc α}

theorem alloc2_heap (w : World) (o o' : Obj) : ((w.alloc o).alloc o').heap[w.heap.size]? = some o ∧ ((w.alloc o).alloc o').heap[w.heap.size + 1]? = some o' := by
  refine ⟨by rw [Below.heap_alloc _ _ _ (by simp)]; exact heap_alloc_new w o, ?_⟩
  have := heap_alloc_new (w.alloc o) o'
  rw [show (w.alloc o).heap.size = w.heap.size + 1 by simp] at this
  exact this
theorem row_fresh {w : World} {B g : Nat} {e : TypeId} (h : w.heap[g]? = some (.cells #[] e (0, 0))) (hB : B ≤ g) : Row E w B e (.slice (some ⟨g, 0, none⟩) 0 0) [] :=
  ⟨by simp [Enc.cs_nil], Or.inr ⟨g, 0, #[], rfl, hB, h, Nat.le_refl _, Nat.zero_le _, by simp, by simp [Enc.cs_nil]⟩⟩

/-- what two appends leave -/
def Two {P : Program} (E : Enc α) (t e : TypeId) (w Wa : World) (s lv u : Value) (L : List α) (x : α) : Prop :=
  ∃ a1 n1 c1 w5 a2 n2 c2 w6, (Builtin.append_ #[t, t] t #[s, lv]).run P Wa = .ok (.slice a1 n1 c1) w5 ∧ (Builtin.append_ #[t, t] t #[.slice a1 n1 c1, u]).run P w5 = .ok (.slice a2 n2 c2) w6 ∧
    Row E w6 w.heap.size e (.slice a2 n2 c2) (L ++ [x]) ∧ Below w.heap.size w w5 ∧ Below w.heap.size w w6

theorem append_two {P : Program} {t e : TypeId} {bytes : Nat} (T : ElemT P t e E.k bytes) (w : World) (lv : Value) (L : List α) (x : α) (X : Array Value) (hX : X.toList = E.enc x) (hl : Rd E w lv L) (b1 : L.length ≤ 1000000) (b2 : bytes ≤ 1000) :
    (∃ a1 n1 c1 w5 a2 n2 c2 w6, (Builtin.append_ #[t, t] t #[.slice (some ⟨w.heap.size, 0, none⟩) 0 0, lv]).run P (w.alloc (.cells #[] e)) = .ok (.slice a1 n1 c1) w5 ∧
      (Builtin.append_ #[t, t] t #[.slice a1 n1 c1, .slice (some ⟨w5.heap.size, 0, none⟩) 1 1]).run P (w5.alloc (.cells X e)) = .ok (.slice a2 n2 c2) w6 ∧ Row E w6 w.heap.size e (.slice a2 n2 c2) (L ++ [x]) ∧ Below w.heap.size w w5 ∧ Below w.heap.size w w6) ∧
    Two (P := P) E t e w ((w.alloc (.cells #[] e)).alloc (.cells X e)) (.slice (some ⟨w.heap.size, 0, none⟩) 0 0) lv (.slice (some ⟨w.heap.size + 1, 0, none⟩) 1 1) L x ∧
    Two (P := P) E t e w ((w.alloc (.cells X e)).alloc (.cells #[] e)) (.slice (some ⟨w.heap.size + 1, 0, none⟩) 0 0) lv (.slice (some ⟨w.heap.size, 0, none⟩) 1 1) L x := by
  have hA := alloc_below w (.cells #[] e)
  have hAX : Below w.heap.size w ((w.alloc (.cells #[] e)).alloc (.cells X e)) := hA.alloc hA.size _
  have hX1 := alloc_below w (.cells X e)
  have hXA : Below w.heap.size w ((w.alloc (.cells X e)).alloc (.cells #[] e)) := hX1.alloc hX1.size _
  have shape : ∀ {w' : World} {B : Nat} {v : Value} {l : List α}, Row E w' B e v l → ∃ a n c, v = .slice a n c := fun h => by
    obtain ⟨a, c, e, _⟩ := h.shape
    exact ⟨a, _, c, e⟩
  refine ⟨?_, ?_, ?_⟩
  · obtain ⟨v1, w5, hr1, hG1⟩ := run_append_row (ty := t) T (w.alloc (.cells #[] e)) w.heap.size _ _ [] L (row_fresh (alloc_new w _) (Nat.le_refl _)) (hl.below hA) hA.size (by simp; omega) b2
    have hB5 : Below w.heap.size w w5 := hG1.below hA hA.size fun b hb => by simp [Value.ownBlock] at hb; omega
    have hX5 := alloc_below w5 (.cells X e)
    rw [List.nil_append] at hG1
    obtain ⟨v2, w6, hr2, hG2⟩ := run_append_row (ty := t) T (w5.alloc (.cells X e)) w.heap.size _ _ L [x] (hG1.1.below hX5) (Rd.single x (alloc_new w5 _) hX) (Nat.le_trans hB5.size hX5.size) (by simp; omega) b2
    obtain ⟨a1, n1, c1, rfl⟩ := shape hG1.1
    obtain ⟨a2, n2, c2, rfl⟩ := shape hG2.1
    exact ⟨a1, n1, c1, w5, a2, n2, c2, w6, hr1, hr2, hG2.1, hB5, hG2.below (hB5.trans (hX5.mono hB5.size)) (Nat.le_trans hB5.size hX5.size) fun b hb => (hG1.1.lt hb).1⟩
  · obtain ⟨k1, k2⟩ := alloc2_heap w (.cells #[] e) (.cells X e)
    obtain ⟨v1, w5, hr1, hG1⟩ := run_append_row (ty := t) T ((w.alloc (.cells #[] e)).alloc (.cells X e)) w.heap.size _ _ [] L (row_fresh k1 (Nat.le_refl _)) (hl.below hAX) hAX.size (by simp; omega) b2
    have hB5 : Below w.heap.size w w5 := hG1.below hAX hAX.size fun b hb => by simp [Value.ownBlock] at hb; omega
    rw [List.nil_append] at hG1
    have kx := hG1.block k2 (by simp [Value.ownBlock])
    obtain ⟨v2, w6, hr2, hG2⟩ := run_append_row (ty := t) T w5 w.heap.size _ _ L [x] hG1.1 (Rd.single x kx hX) hB5.size (by simp; omega) b2
    obtain ⟨a1, n1, c1, rfl⟩ := shape hG1.1
    obtain ⟨a2, n2, c2, rfl⟩ := shape hG2.1
    exact ⟨a1, n1, c1, w5, a2, n2, c2, w6, hr1, hr2, hG2.1, hB5, hG2.below hB5 hB5.size fun b hb => (hG1.1.lt hb).1⟩
  · obtain ⟨k1, k2⟩ := alloc2_heap w (.cells X e) (.cells #[] e)
    obtain ⟨v1, w5, hr1, hG1⟩ := run_append_row (ty := t) T ((w.alloc (.cells X e)).alloc (.cells #[] e)) w.heap.size _ _ [] L (row_fresh k2 (by omega)) (hl.below hXA) hXA.size (by simp; omega) b2
    have hB5 : Below w.heap.size w w5 := hG1.below hXA hXA.size fun b hb => by simp [Value.ownBlock] at hb; omega
    rw [List.nil_append] at hG1
    have kx := hG1.block k1 (by simp [Value.ownBlock])
    obtain ⟨v2, w6, hr2, hG2⟩ := run_append_row (ty := t) T w5 w.heap.size _ _ L [x] hG1.1 (Rd.single x kx hX) hB5.size (by simp; omega) b2
    obtain ⟨a1, n1, c1, rfl⟩ := shape hG1.1
    obtain ⟨a2, n2, c2, rfl⟩ := shape hG2.1
    exact ⟨a1, n1, c1, w5, a2, n2, c2, w6, hr1, hr2, hG2.1, hB5, hG2.below hB5 hB5.size fun b hb => (hG1.1.lt hb).1⟩
end Ks
/- Are two rows of texts the same? The reference's answer. -/
namespace Ks
open Go
theorem text_ne {a b : ByteArray} (h : a ≠ b) : (a.toList == b.toList) = false := by
  rw [beq_eq_false_iff_ne]
  intro e
  rw [ByteArray.toList_eq, ByteArray.toList_eq] at e
  apply h
  obtain ⟨⟨x⟩⟩ := a
  obtain ⟨⟨y⟩⟩ := b
  have : x = y := e
  rw [this]
end Ks
namespace Go.Proofs.Ytophfeapmmfppaa
open Go.RowKit Ks
set_option linter.unusedVariables false

set_option maxHeartbeats 1000000 in
theorem texts_any (va vb : Value) (A B : List ByteArray) (w : World) (ha : Rd strE w va A) (hb : Rd strE w vb B) (hA : A.length ≤ maxLen) (hB : B.length ≤ maxLen) :
    Calls Try.prog 17 #[va, vb] w fun e w' => ∃ b, e = .returned (.bool b) ∧ (b = true ↔ A = B) ∧ Below w.heap.size w w' := by
  unfold maxLen at hA hB
  refine calls_by fun R HR => ?_
  obtain ⟨aa, ca, hva, _⟩ := ha.shape
  obtain ⟨ab, cb, hvb, _⟩ := hb.shape
  have HH := Lib.hid (And.intro ha hb)
  subst hva hvb
  clear ha hb
  by_cases hl : A.length = B.length
  · obtain ⟨ln, hln⟩ : ∃ ln, A.length = ln := ⟨_, rfl⟩
    have HL := Lib.hid (And.intro hln (hl.symm.trans hln))
    rw [← hl, hln]
    rw [hln] at hA
    clear hl hln hB
    go_enter Try.func17, Try.ntmps17
    go_wp2_with fail
    go_loopw [5] (fun i wx => ∃ k : Nat, k ≤ ln ∧ i = .int .i64 k ∧ Hid (A.take k = B.take k ∧ Below w.heap.size w wx)) (fun i _ => ln - (intOf i).toNat)
    case atStart => exact ⟨0, by omega, rfl, Lib.hid ⟨by simp, Below.refl _ _⟩⟩
    case round =>
      obtain ⟨k, hk, rfl, hN⟩ := hrel
      by_cases hlt : k < ln
      · have h1 : k < A.length := by rw [HL.out.1]; exact hlt
        have h2 : k < B.length := by rw [HL.out.2]; exact hlt
        have ra : Rd strE wr (.slice aa A.length ca) A := HH.out.1.below hN.out.2
        have rb : Rd strE wr (.slice ab B.length cb) B := HH.out.2.below hN.out.2
        obtain ⟨b1, o1, rfl, hb1, d1⟩ := ra.str k h1
        obtain ⟨b2, o2, rfl, hb2, d2⟩ := rb.str k h2
        have T1 := Lib.hid (show A.take (k + 1) = A.take k ++ [A[k]] from List.take_succ_eq_append_getElem h1)
        have T2 := Lib.hid (show B.take (k + 1) = B.take k ++ [B[k]] from List.take_succ_eq_append_getElem h2)
        have NE := Lib.hid (fun (h : A[k] ≠ B[k]) (e : A = B) => h (by subst e; rfl))
        generalize A[k] = x at *
        generalize B[k] = y at *
        have hki : (k : Int) < (ln : Int) := by omega
        have HB := Lib.hid (fun q => below_drewN hN.out.2 q)
        clear ra rb hb1 hb2 h1 h2
        by_cases hxy : x = y
        · subst hxy
          have HQ := Lib.hid (show A.take (k + 1) = B.take (k + 1) by rw [T1.out, T2.out, hN.out.1])
          go_wp2_with fail
          go_quiet (fail)
          go_wp2_with fail
          go_roundw
          case rel => exact ⟨k + 1, by omega, by go_num, Lib.hid ⟨HQ.out, HB.out _⟩⟩
          case measure => simp [intOf]; omega
        · have hne := text_ne hxy
          have hno := Lib.hid (NE.out hxy)
          clear hxy
          go_wp2
          go_quiet (fail)
          go_wp2
          exact HR.out _ _ ⟨false, rfl, by simp; exact hno.out, HB.out _⟩
      · obtain rfl : k = ln := by omega
        have HE := Lib.hid (show A = B by have := hN.out.1; rwa [List.take_of_length_le (by rw [HL.out.1]; exact Nat.le_refl _), List.take_of_length_le (by rw [HL.out.2]; exact Nat.le_refl _)] at this)
        go_wp2
        exact HR.out _ _ ⟨true, rfl, by simp; exact HE.out, hN.out.2⟩
  · have hne : ((A.length : Int) != (B.length : Int)) = true := by simp; omega
    have hno := Lib.hid (fun (e : A = B) => hl (by rw [e]))
    clear hl
    go_enter Try.func17, Try.ntmps17
    go_wp2
    exact HR.out _ _ ⟨false, rfl, by simp; exact hno.out, Below.refl _ _⟩

end Go.Proofs.Ytophfeapmmfppaa
/- Things made of several blocks: which blocks a call turns. Plain. No program is in sight. -/
namespace Ks
open Go Go.RowKit
set_option linter.unusedVariables false

/-- only the blocks of F are turned; what the thing has behind it, F', is of F or new -/
structure Turn (w w' : World) (F F' : Nat → Prop) : Prop where
  os : w'.os = w.os
  tape : w'.tape = w.tape
  output : w'.output = w.output
  size : w.heap.size ≤ w'.heap.size
  block : ∀ k, k < w.heap.size → ¬ F k → w'.heap[k]? = w.heap[k]?
  foot : ∀ k, F' k → F k ∨ w.heap.size ≤ k
theorem Turn.of_below {w w' : World} (F : Nat → Prop) (h : Below w.heap.size w w') : Turn w w' F F := ⟨h.os, h.tape, h.output, h.size, fun k hk _ => h.block k hk, fun k hk => Or.inl hk⟩
theorem Turn.refl (w : World) (F : Nat → Prop) : Turn w w F F := Turn.of_below F (Below.refl _ _)
theorem Turn.trans {w w1 w2 : World} {F F1 F2 : Nat → Prop} (h : Turn w w1 F F1) (g : Turn w1 w2 F1 F2) : Turn w w2 F F2 := by
  refine ⟨g.os.trans h.os, g.tape.trans h.tape, g.output.trans h.output, Nat.le_trans h.size g.size, fun k hk hF => ?_, fun k hk => ?_⟩
  · refine (g.block k (Nat.lt_of_lt_of_le hk h.size) fun h1 => ?_).trans (h.block k hk hF)
    rcases h.foot k h1 with h2 | h2
    · exact hF h2
    · omega
  · rcases g.foot k hk with h1 | h1
    · exact h.foot k h1
    · exact Or.inr (Nat.le_trans h.size h1)
theorem Turn.below {w w' : World} {F F' : Nat → Prop} {B : Nat} (h : Turn w w' F F') (hF : ∀ k, F k → B ≤ k) (hB : B ≤ w.heap.size) : Below B w w' :=
  ⟨h.os, h.tape, h.output, h.size, fun k hk => h.block k (by omega) fun h1 => by have := hF k h1; omega⟩
theorem Turn.low {w w' : World} {F F' : Nat → Prop} {B : Nat} (h : Turn w w' F F') (hF : ∀ k, F k → B ≤ k) (hB : B ≤ w.heap.size) : ∀ k, F' k → B ≤ k := by
  intro k hk
  rcases h.foot k hk with h1 | h1
  · exact hF k h1
  · omega
/-- another thing is not turned -/
theorem Turn.other {w w' : World} {F F' G : Nat → Prop} (h : Turn w w' F F') (hG : ∀ k, G k → k < w.heap.size) (hd : ∀ k, F k → ¬ G k) : ∀ k, G k → w'.heap[k]? = w.heap[k]? := fun k hk => h.block k (hG k hk) fun h1 => hd k h1 hk
theorem Turn.apart {w w' : World} {F F' G : Nat → Prop} (h : Turn w w' F F') (hG : ∀ k, G k → k < w.heap.size) (hd : ∀ k, F k → ¬ G k) : ∀ k, F' k → ¬ G k := fun k hk hg => by
  rcases h.foot k hk with h1 | h1
  · exact hd k h1 hg
  · have := hG k hg; omega
theorem Turn.mono {w w' : World} {F F' G : Nat → Prop} (h : Turn w w' F F') (hG : ∀ k, G k → F' k) : Turn w w' F G := ⟨h.os, h.tape, h.output, h.size, h.block, fun k hk => h.foot k (hG k hk)⟩
theorem Turn.wide {w w' : World} {F F' G G' : Nat → Prop} (h : Turn w w' F F') (hF : ∀ k, F k → G k) (hG : ∀ k, G' k → F' k ∨ G k ∨ w.heap.size ≤ k) : Turn w w' G G' := by
  refine ⟨h.os, h.tape, h.output, h.size, fun k hk hn => h.block k hk fun h1 => hn (hF k h1), fun k hk => ?_⟩
  rcases hG k hk with h1 | h1 | h1
  · rcases h.foot k h1 with h2 | h2
    · exact Or.inl (hF k h2)
    · exact Or.inr h2
  · exact Or.inl h1
  · exact Or.inr h1
theorem Turn.cell (w : World) {F : Nat → Prop} (b o : Nat) (v : Value) (h : F b) : Turn w (w.setCell ⟨b, o, none⟩ v) F F :=
  have h1 : Below 0 w (w.setCell ⟨b, o, none⟩ v) := (Below.refl 0 w).setCell (Nat.zero_le _) v
  ⟨h1.os, h1.tape, h1.output, by simp, fun k hk hn => set_ne v fun e => hn (e ▸ h), fun k hk => Or.inl hk⟩
theorem Turn.row (w : World) {F : Nat → Prop} (b : Nat) (C : Array Value) (h : F b) : Turn w (w.setRow b C) F F :=
  ⟨rfl, rfl, rfl, by simp, fun k hk hn => setRow_other w b k C fun e => hn (e ▸ h), fun k hk => Or.inl hk⟩
theorem Turn.grown {w w' : World} {F : Nat → Prop} {row : Option Nat} (h : w.grownBy w' row) (hF : ∀ b, row = some b → F b) : Turn w w' F F :=
  ⟨h.os, h.tape, h.output, h.size, fun k hk hn => h.block k hk fun e => hn (hF k e.symm), fun k hk => Or.inl hk⟩

/-- a cell of a block known whole is written -/
theorem set_blk {w : World} {b : Nat} {C : Array Value} {t : TypeId} (h : w.heap[b]? = some (.cells C t (0, 0))) (o : Nat) (v : Value) : (w.setCell ⟨b, o, none⟩ v).heap[b]? = some (.cells (C.setIfInBounds o v) t (0, 0)) := by
  rw [setCell_eq_setRow w b o _ _ _ _ h, setRow_heap w b _ _ _ _ h]
theorem Turn.cell1 (w : World) (b o : Nat) (v : Value) : Turn w (w.setCell ⟨b, o, none⟩ v) (fun k => k = b) (fun k => k = b) := Turn.cell w (F := fun k => k = b) b o v rfl

variable {α : Type} {E : Enc α}
/-- a cell of an own row, of elements of one cell -/
theorem Row.set1 {w : World} {B : Nat} {T : TypeId} {g n cap : Nat} {l : List α} (h : Row E w B T (.slice (some ⟨g, 0, none⟩) n cap) l) (hk : E.k = 1) (i : Nat) (hi : i < l.length) (x : α) (v : Value) (hv : E.enc x = [v]) :
    Row E (w.setCell ⟨g, i, none⟩ v) B T (.slice (some ⟨g, 0, none⟩) n cap) (l.set i x) := by
  have hcs : ∀ l : List α, ∀ j y, l[j]? = some y → (E.cs l)[j]? = (E.enc y)[0]? := fun l j y hj => by
    have := E.cs_get l j y hj 0 (by omega)
    rwa [hk, Nat.mul_one] at this
  refine ⟨by rw [E.cs_length, List.length_set], ?_⟩
  rcases h.2 with ⟨e, h0⟩ | ⟨g', cap', cur, e, hB, hg, hn, hc, hs, ht⟩
  · cases e
  · cases e
    rw [hk, Nat.mul_one] at ht hs
    have hlen : (l.set i x).length = l.length := List.length_set
    refine Or.inr ⟨g, cap, cur.setIfInBounds i v, by rw [hlen], hB, ?_, by rw [hlen]; exact hn, hc, by simpa [hk] using hs, ?_⟩
    · rw [setCell_eq_setRow w g i _ _ _ _ hg, setRow_heap w g _ _ _ _ hg]
    · rw [hk, Nat.mul_one, hlen, Array.toList_setIfInBounds]
      have hcl : l.length ≤ cur.toList.length := by simp; omega
      have hm : (E.cs l).length = l.length := by rw [E.cs_length, hk, Nat.mul_one]
      refine List.ext_getElem? fun j => ?_
      rw [List.getElem?_take]
      by_cases hj : j < l.length
      · rw [if_pos hj, List.getElem?_set]
        by_cases e : i = j
        · subst e
          have := hcs (l.set i x) i x (by rw [List.getElem?_set_self hi])
          rw [this, hv]
          simp; omega
        · rw [if_neg e]
          have hy : (l.set i x)[j]? = some l[j] := by rw [List.getElem?_set_ne e, List.getElem?_eq_getElem hj]
          rw [hcs _ j _ hy, ← hcs l j _ (List.getElem?_eq_getElem hj), ← ht, List.getElem?_take, if_pos hj]
      · rw [if_neg hj]
        exact (List.getElem?_eq_none (by rw [E.cs_length, hk, Nat.mul_one, hlen]; omega)).symm
theorem Row.own_lt {w : World} {B : Nat} {T : TypeId} {v : Value} {l : List α} (h : Row E w B T v l) {b : Nat} (hb : v.ownBlock = some b) : b < w.heap.size := (h.lt hb).2
/-- a row is kept where its block is -/
theorem Row.turn {w w' : World} {B : Nat} {T : TypeId} {v : Value} {l : List α} {F F' : Nat → Prop} (h : Row E w B T v l) (hT : Turn w w' F F') (hd : ∀ b, v.ownBlock = some b → ¬ F b) : Row E w' B T v l :=
  h.keep fun b e => hT.block b (h.own_lt e) (hd b e)
theorem Grew.turn {w w' : World} {B : Nat} {e : TypeId} {v v' : Value} {l : List α} (h : Grew E w w' B e v v' l) {F : Nat → Prop} (hF : ∀ b, v.ownBlock = some b → F b) : Turn w w' F F := Turn.grown h.2.1 hF
theorem Grew.foot {w w' : World} {B : Nat} {e : TypeId} {v v' : Value} {l : List α} (h : Grew E w w' B e v v' l) : ∀ b, v'.ownBlock = some b → v.ownBlock = some b ∨ w.heap.size ≤ b := fun b hb => by
  rcases h.2.2.1 with e | e
  · exact Or.inl (e ▸ hb)
  · exact Or.inr (e b hb)
end Ks
/- Trees of hashes: the steps up from a leaf. -/
namespace Ks
open Go Go.RowKit
set_option linter.unusedVariables false
def stepE : Enc StepG := ⟨4, fun s => [.int .i64 (s.i : Nat), .int .i64 (s.n : Nat), .string s.a, .string s.b], fun _ => rfl, fun x u hu => by simp only [List.mem_cons, List.not_mem_nil, or_false] at hu; rcases hu with rfl | rfl | rfl | rfl <;> rfl, by decide⟩
/-- so far, and what is left to be done -/
def Climbs (m n i : Nat) (x : ByteArray) (ps : List ByteArray) (mm nk ik : Nat) (xk : ByteArray) (pk : List ByteArray) (out : List StepG) : Prop :=
  climbO m n i x ps = (climbO mm nk ik xk pk).map fun r => (out ++ r.1, r.2)
theorem Climbs.start (m n i : Nat) (x : ByteArray) (ps : List ByteArray) : Climbs m n i x ps m n i x ps [] := by
  unfold Climbs
  cases climbO m n i x ps <;> rfl
section
variable {m n i mm nk ik : Nat} {x xk p : ByteArray} {ps pk : List ByteArray} {out : List StepG} {s : Bool}
theorem Climbs.goN (h : Climbs m n i x ps (mm + 1) nk ik xk pk out) (h1 : ¬ nk ≤ 1) (hd : dirN nk ik = none) : Climbs m n i x ps mm ((nk + 1) / 2) (ik / 2) xk pk (out ++ [⟨ik, nk, ⟨#[]⟩, ⟨#[]⟩⟩]) := by
  unfold Climbs at *
  rw [h, climb_none h1 hd]
  cases climbO mm ((nk + 1) / 2) (ik / 2) xk pk with
  | none => rfl
  | some r => simp
theorem Climbs.goS (h : Climbs m n i x ps (mm + 1) nk ik xk (p :: pk) out) (h1 : ¬ nk ≤ 1) (hd : dirN nk ik = some s) : Climbs m n i x ps mm ((nk + 1) / 2) (ik / 2) (nodeS (pairS s xk p).1 (pairS s xk p).2) pk (out ++ [⟨ik, nk, (pairS s xk p).1, (pairS s xk p).2⟩]) := by
  unfold Climbs at *
  rw [h, climb_some h1 hd]
  cases climbO mm ((nk + 1) / 2) (ik / 2) (nodeS (pairS s xk p).1 (pairS s xk p).2) pk with
  | none => rfl
  | some r => simp
theorem Climbs.stop (h : Climbs m n i x ps (mm + 1) nk ik xk [] out) (h1 : ¬ nk ≤ 1) (hd : dirN nk ik = some s) : climbO m n i x ps = none := by
  unfold Climbs at *
  rw [h, climb_nil h1 hd]; rfl
theorem Climbs.done (h : Climbs m n i x ps mm nk ik xk pk out) (h1 : nk ≤ 1) : climbO m n i x ps = some (out, xk, pk) := by
  unfold Climbs at *
  rw [h]
  cases mm with
  | zero => simp [climbO]
  | succ mm => rw [climb_low h1]; simp
end
theorem Grew.rd' {α β : Type} {E : Enc α} {E' : Enc β} {w w' : World} {B : Nat} {e : TypeId} {v v' u : Value} {l : List α} {m : List β} (h : Grew E w w' B e v v' l) (hr : Rd E' w u m) (hv : m ≠ [] → ∀ b, u.ownBlock = some b → v.ownBlock ≠ some b) : Rd E' w' u m := by
  cases m with
  | nil => exact hr.empty w'
  | cons x m => exact h.rd hr (hv (by simp))
theorem blk4 {w : World} {b : Nat} {c0 c1 c2 c3 : Value} {T : TypeId} (h : w.heap[b]? = some (.cells #[c0, c1, c2, c3] T (0, 0))) : w.cell? ⟨b, 0, none⟩ = some c0 ∧ w.cell? ⟨b, 1, none⟩ = some c1 ∧ w.cell? ⟨b, 2, none⟩ = some c2 ∧ w.cell? ⟨b, 3, none⟩ = some c3 ∧ w.frozen? ⟨b, 2, none⟩ = false ∧ w.frozen? ⟨b, 3, none⟩ = false := by
  refine ⟨?_, ?_, ?_, ?_, frozen_of_row w b 2 _ _ h, frozen_of_row w b 3 _ _ h⟩
  all_goals (rw [cell_of_row w b _ _ _ _ h]; rfl)
theorem wrap_half (k j : Nat) (h : k / 2 = j) (hb : k ≤ 1000000000) : wrap64 ((k : Int) / 2) = ((j : Nat) : Int) := by
  have e : (k : Int) / 2 = ((j : Nat) : Int) := by omega
  rw [e, wrap64]; omega
theorem wrap_half1 (k j : Nat) (h : (k + 1) / 2 = j) (hb : k ≤ 1000000000) : wrap64 (((k : Int) + 1) / 2) = ((j : Nat) : Int) := by
  have e : ((k : Int) + 1) / 2 = ((j : Nat) : Int) := by omega
  rw [e, wrap64]; omega
theorem dir_none {n i : Nat} (h : ¬ besideN i < n) : dirN n i = none := by rw [dirN, if_neg h]
theorem dir_left {n i : Nat} (h : besideN i < n) (h2 : ¬ besideN i < i) : dirN n i = some true := by
  rw [dirN, if_pos h]
  have : i % 2 = 0 := by
    unfold besideN at h2
    split at h2 <;> omega
  rw [decide_eq_true this]
theorem dir_right {n i : Nat} (h : besideN i < n) (h2 : besideN i < i) : dirN n i = some false := by
  rw [dirN, if_pos h]
  have : ¬ i % 2 = 0 := by
    unfold besideN at h2
    split at h2 <;> omega
  rw [decide_eq_false this]
end Ks
namespace Go.Proofs.Ytophfeapmmfppaa
open Go.RowKit Ks
set_option linter.unusedVariables false
theorem Try.infoStep : (Try.prog.info? 61).map (fun i => (i.zero, i.size, i.bytes)) = some (some (.agg #[.int .i64 0, .int .i64 0, .string ⟨#[]⟩, .string ⟨#[]⟩]), 4, 48) := by kernel_rfl
theorem stepT : ElemT Try.prog 57 61 stepE.k 48 := elemT_of Try.underlying57 Try.infoStep rfl
/-- what climb hands back -/
def climbR (w : World) (c : Option (List StepG × ByteArray × List ByteArray)) (e : Ending) (w' : World) : Prop :=
  match c with
  | none => e = .returned (.tuple #[.slice none 0 0, .string ⟨#[]⟩, .bool false])
  | some r => ∃ v, e = .returned (.tuple #[v, .string r.2.1, .bool ((r.2.2.length : Int) == 0)]) ∧ Row stepE w' w.heap.size 61 v r.1
set_option maxRecDepth 100000 in
set_option maxHeartbeats 2000000 in
theorem climb_any (m n i : Nat) (x : ByteArray) (ps : List ByteArray) (pv : Value) (w : World) (hi : i < n) (hn : n ≤ 2 ^ m) (hm : n ≤ 100000000) (hmm : m ≤ 1000) (hx : x.size = 32) (hw : wholeL ps = true) (hp : ps.length ≤ 100000000) (hr : Rd strE w pv ps) :
    Calls Try.prog 33 #[.int .i64 (n : Nat), .int .i64 (i : Nat), .string x, pv] w fun e w' => climbR w (climbO m n i x ps) e w' ∧ Below w.heap.size w w' := by
  refine calls_by fun R HR => ?_
  obtain ⟨a, cap, rfl, hcap, -⟩ := hr.shape
  have HS := Lib.hid (And.intro hn (And.intro hx (And.intro hw hr)))
  have HI := Lib.hid (And.intro hi (And.intro hm hmm))
  have HPL := Lib.hid hp
  clear hn hx hw hr hi hm hp hmm
  go_enter Try.func33, Try.ntmps33
  go_wp2_with fail
  go_loopw [0, 1, 2, 3, 11] (fun c0 c1 c2 c3 c11 wr => ∃ (mm nk ik : Nat) (xk : ByteArray) (pk : List ByteArray) (ak : Option Addr) (ck : Nat) (out : List StepG) (ov : Value), c0 = .int .i64 nk ∧ c1 = .int .i64 ik ∧ c2 = .string xk ∧ c3 = .slice ak pk.length ck ∧ ov = c11 ∧ ik < nk ∧ nk ≤ 100000000 ∧
      Hid (Climbs m n i x ps mm nk ik xk pk out ∧ nk ≤ 2 ^ mm ∧ xk.size = 32 ∧ wholeL pk = true ∧ Rd strE wr (.slice ak pk.length ck) pk ∧ Row stepE wr w.heap.size 61 ov out ∧ Below w.heap.size w wr ∧ out.length + mm ≤ m ∧ pk.length ≤ 100000000 ∧ pk.length ≤ ck ∧ (∀ b, (Value.slice ak pk.length ck).ownBlock = some b → pk ≠ [] → b < w.heap.size))) (fun c0 _ _ _ _ _ => (intOf c0).toNat)
  case atStart =>
    refine ⟨m, n, i, x, ps, a, cap, [], _, rfl, rfl, rfl, rfl, rfl, HI.out.1, HI.out.2.1, Lib.hid ⟨Climbs.start _ _ _ _ _, HS.out.1, HS.out.2.1, HS.out.2.2.1, HS.out.2.2.2, Row.nil _ _ _, Below.refl _ _, by simp, HPL.out, hcap, fun b e h => ?_⟩⟩
    exact HS.out.2.2.2.lt' h e
  case round =>
    obtain ⟨mm, nk, ik, xk, pk, ak, ck, out, ov, rfl, rfl, rfl, rfl, rfl, hik, hnk, hN⟩ := hrel
    by_cases h1 : nk ≤ 1
    · have h1i : ¬ (1 : Int) < (nk : Int) := by omega
      have HC := Lib.hid (Climbs.done hN.out.1 h1)
      clear h1
      go_wp2
      go_ret3
      refine HR.out _ _ ⟨?_, hN.out.2.2.2.2.2.2.1⟩
      rw [HC.out]
      exact ⟨_, rfl, hN.out.2.2.2.2.2.1⟩
    · have h1i : (1 : Int) < (nk : Int) := by omega
      obtain ⟨mm, rfl⟩ : ∃ m', mm = m' + 1 := by
        cases mm with
        | zero => have := hN.out.2.1; rw [Nat.pow_zero] at this; omega
        | succ m' => exact ⟨m', rfl⟩
      have hxor := xor_one ik (by omega)
      obtain ⟨ik2, hik2⟩ : ∃ ik2, ik / 2 = ik2 := ⟨_, rfl⟩
      obtain ⟨nk2, hnk2⟩ : ∃ nk2, (nk + 1) / 2 = nk2 := ⟨_, rfl⟩
      have HK := Lib.hid (show ik2 < nk2 ∧ nk2 ≤ 100000000 ∧ nk2 ≤ 2 ^ mm ∧ nk2 < nk by
        have := hN.out.2.1
        rw [Nat.pow_succ] at this
        omega)
      have hdi : wrap64 ((ik : Int) / 2) = ((ik2 : Nat) : Int) := wrap_half ik ik2 hik2 (by omega)
      have hdn : wrap64 (((nk : Int) + 1) / 2) = ((nk2 : Nat) : Int) := wrap_half1 nk nk2 hnk2 (by omega)
      have HE := Lib.hid (And.intro h1 (And.intro hik2 hnk2))
      obtain ⟨W1, hW1⟩ : ∃ W1, wr.alloc (.cells #[.int .i64 (ik : Nat), .int .i64 (nk : Nat), .string ⟨#[]⟩, .string ⟨#[]⟩] 61) = W1 := ⟨_, rfl⟩
      have hb1 : Below wr.heap.size wr W1 := by rw [← hW1]; exact alloc_below wr _
      have k1 : W1.heap[wr.heap.size]? = some (.cells #[.int .i64 (ik : Nat), .int .i64 (nk : Nat), .string ⟨#[]⟩, .string ⟨#[]⟩] 61 (0, 0)) := by rw [← hW1]; exact alloc_new wr _
      have H1 := Lib.hid (And.intro hb1 k1)
      have HW1 := Lib.hid hW1
      clear h1 hik2 hnk2 hb1 k1 hW1
      go_upto_region 5 with fail
      rw [HW1.out]
      clear HW1
      by_cases hbes : besideN ik < nk
      · have hbi : ((besideN ik : Nat) : Int) < (nk : Int) := by omega
        match pk with
        | [] =>
          have HC := Lib.hid (show climbO m n i x ps = none by
            by_cases h2 : besideN ik < ik
            · exact Climbs.stop hN.out.1 HE.out.1 (dir_right hbes h2)
            · exact Climbs.stop hN.out.1 HE.out.1 (dir_left hbes h2))
          have HB := Lib.hid (hN.out.2.2.2.2.2.2.1.trans (H1.out.1.mono hN.out.2.2.2.2.2.2.1.size))
          generalize besideN ik = bs at *
          clear hbes
          simp only [List.length_nil]
          go_wp2
          go_ret3
          exact HR.out _ _ ⟨by rw [HC.out]; rfl, HB.out⟩
        | p :: pk =>
          have hrd := hN.out.2.2.2.2.1
          obtain ⟨b, o, hae, hb, c0⟩ := hrd.str 0 (by simp)
          subst hae
          simp only [Nat.add_zero, List.getElem_cons_zero] at c0
          obtain ⟨L, hL⟩ : ∃ L, pk.length = L := ⟨_, rfl⟩
          rw [List.length_cons, hL]
          have hl0 : (((L : Int) + 1) == 0) = false := by rw [beq_eq_false_iff_ne]; omega
          have hl1 : (0 : Int) < (L : Int) + 1 := by omega
          have hl2 : (1 : Int) ≤ (L : Int) + 1 := by omega
          have hl3 : (1 : Int) ≤ (ck : Int) := by have := hN.out.2.2.2.2.2.2.2.2.2.1; simp at this; omega
          have hl4 : (L : Int) + 1 ≤ (ck : Int) := by have := hN.out.2.2.2.2.2.2.2.2.2.1; simp at this; omega
          have c0' : W1.cell? ⟨b, o, none⟩ = some (.string p) := (H1.out.1.cell (p := ⟨b, o, none⟩) hb).trans c0
          obtain ⟨d0, d1, d2, d3, d4, d5⟩ := blk4 H1.out.2
          have hne : ¬ b = wr.heap.size := by omega
          have HL := Lib.hid (And.intro hL hb)
          have hwp : p.size = 32 ∧ wholeL pk = true := by
            have := hN.out.2.2.2.1
            simp only [wholeL, List.all_cons, Bool.and_eq_true, beq_iff_eq] at this
            exact this
          have HW := Lib.hid hwp
          clear hrd c0 hL hb hwp
          go_wp2
          go_region
          obtain ⟨W2, hW2⟩ : ∃ W2, ((W1.setCell ⟨wr.heap.size, 2, none⟩ (.string xk)).setCell ⟨wr.heap.size, 3, none⟩ (.string p)).drew = W2 := ⟨_, rfl⟩
          have hb2 : Below wr.heap.size wr W2 := by rw [← hW2]; exact ((H1.out.1.setCell (p := ⟨wr.heap.size, 2, none⟩) (Nat.le_refl _) _).setCell (p := ⟨wr.heap.size, 3, none⟩) (Nat.le_refl _) _).drew
          have k2 : W2.heap[wr.heap.size]? = some (.cells #[.int .i64 (ik : Nat), .int .i64 (nk : Nat), .string xk, .string p] 61 (0, 0)) := by
            rw [← hW2]
            exact set_blk (set_blk H1.out.2 2 (.string xk)) 3 (.string p)
          rw [hW2]
          have H2 := Lib.hid (And.intro hb2 k2)
          clear hW2 hb2 k2 c0' d0 d1 d2 d3 d4 d5 H1
          have c2' : W2.cell? ⟨b, o, none⟩ = some (.string p) := by
            obtain ⟨b', o', e, hb', c0⟩ := hN.out.2.2.2.2.1.str 0 (by simp)
            cases e
            exact (H2.out.1.cell (p := ⟨b, o, none⟩) hb').trans (by simpa using c0)
          have hz1 : xk.size ≤ 10000000000 := by have := hN.out.2.2.1; omega
          have hz2 : p.size ≤ 10000000000 := by have := HW.out.1; omega
          have HZ := Lib.hid (And.intro hz1 hz2)
          clear hz1 hz2
          by_cases h2 : besideN ik < ik
          · have h2i : ((besideN ik : Nat) : Int) < (ik : Int) := by omega
            by_cases hck : ck = 1
            · have HC := Lib.hid (Climbs.goS hN.out.1 HE.out.1 (dir_right hbes h2))
              simp only [HE.out.2.1, HE.out.2.2] at HC
              generalize hbs : besideN ik = bs at *
              clear hbes h2 hbs
              obtain ⟨d0, d1, d2, d3, d4, d5⟩ := blk4 H2.out.2
              go_upto_region 12 with fail
              obtain ⟨W3, hW3⟩ : ∃ W3, (W2.setCell ⟨wr.heap.size, 2, none⟩ (.string p)).setCell ⟨wr.heap.size, 3, none⟩ (.string xk) = W3 := ⟨_, rfl⟩
              have hb3 : Below wr.heap.size wr W3 := by rw [← hW3]; exact (H2.out.1.setCell (p := ⟨wr.heap.size, 2, none⟩) (Nat.le_refl _) _).setCell (p := ⟨wr.heap.size, 3, none⟩) (Nat.le_refl _) _
              have k3 : W3.heap[wr.heap.size]? = some (.cells #[.int .i64 (ik : Nat), .int .i64 (nk : Nat), .string p, .string xk] 61 (0, 0)) := by
                rw [← hW3]
                exact set_blk (set_blk H2.out.2 2 (.string p)) 3 (.string xk)
              rw [hW3]
              have H3 := Lib.hid (And.intro hb3 k3)
              clear hW3 hb3 k3 d0 d1 d2 d3 d4 d5 H2 c2'
              obtain ⟨d0, d1, d2, d3, -, -⟩ := blk4 H3.out.2
              have f2 := fun p => after_cell d2 p
              have f3 := fun p => after_cell d3 p
              have cN := Lib.hid (fun q => calls_after (p := q) (node_any p xk (After W3 q) HZ.out.2 HZ.out.1))
              refine wp_region_after (by kernel_rfl) (by kernel_rfl) ?_
              quiet_step (fail)
              quiet_step (fail)
              quiet_step (fail)
              quiet_step (fail)
              quiet_step (exact cN.out _)
              quiet_step (fail)
              quiet_step (fail)
              quiet_step (fail)
              quiet_step (fail)
              refine wpQuiet_nil ?_
              rintro w5 ⟨q, rfl⟩
              have hb5 := after_below W3 q
              have HX := Lib.hid (And.intro (H3.out.1.trans (hb5.mono H3.out.1.size)) (blk_on hb5 H3.out.2))
              have HPR := Lib.hid (show Rd strE (After W3 q) (.slice (some ⟨b, o, none⟩) pk.length 0) pk ∧ (∀ b', (Value.slice (some ⟨b, o, none⟩) pk.length 0).ownBlock = some b' → pk ≠ [] → b' < w.heap.size) by
                have h9 := (hN.out.2.2.2.2.1.below HX.out.1).drop (k := 1) (by simp) (some ⟨b, o, none⟩) (fun h => by have := hN.out.2.2.2.2.2.2.2.2.2.1; simp at this h; omega) (by simp) 0 (by have := hN.out.2.2.2.2.2.2.2.2.2.1; simp only [List.length_cons] at this ⊢; omega)
                simp only [List.length_cons, Nat.add_sub_cancel, List.drop_succ_cons, List.drop_zero] at h9
                refine ⟨h9, fun b' e hne' => ?_⟩
                simp only [Value.ownBlock, Option.some.injEq] at e
                subst e
                exact hN.out.2.2.2.2.2.2.2.2.2.2 b rfl (by simp))
              generalize After W3 q = w5 at *
              clear cN f2 f3 d0 d1 d2 d3 hb5 H3
              rw [← HL.out.1]
              obtain ⟨e0, e1, e2, e3, -, -⟩ := blk4 HX.out.2
              go_wp2_with (at_builtin; refine wpList_append_row _ rfl _ _ 57 rfl stepT w.heap.size _ _ out [(⟨ik, nk, p, xk⟩ : StepG)] rfl rfl ((hN.out.2.2.2.2.2.1.below HX.out.1).below (alloc_below w5 _)) (Rd.single (E := stepE) (⟨ik, nk, p, xk⟩ : StepG) (alloc_new w5 _) rfl) (by have h1 := hN.out.2.2.2.2.2.2.1.size; have h2 := HX.out.1.size; simp; omega) (by have h1 := hN.out.2.2.2.2.2.2.2.1; have h2 := HI.out.2.2; simp; omega) (by decide) ?_)
              intro v' w6 hG
              have HG := Lib.hid (And.intro hG.1 (And.intro (hG.below ((hN.out.2.2.2.2.2.2.1.trans (HX.out.1.mono hN.out.2.2.2.2.2.2.1.size)).trans ((alloc_below w5 _).mono (by have h1 := hN.out.2.2.2.2.2.2.1.size; have h2 := HX.out.1.size; omega))) (by have h1 := hN.out.2.2.2.2.2.2.1.size; have h2 := HX.out.1.size; simp; omega) (fun b hb => (hN.out.2.2.2.2.2.1.lt hb).1)) (Grew.rd' hG (HPR.out.1.below (alloc_below w5 _)) (fun hne b e e2 => by have h1 := HPR.out.2 b e hne; have h2 := (hN.out.2.2.2.2.2.1.lt e2).1; omega))))
              clear hG e0 e1 e2 e3
              go_wp2_with fail
              go_roundw
              case rel =>
                refine ⟨mm, nk2, ik2, (nodeS p xk), pk, (some ⟨b, o, none⟩), 0, out ++ [(⟨ik, nk, p, xk⟩ : StepG)], v', (by first | rfl | rw [show ((nk : Int) + 1) / 2 = ((nk2 : Nat) : Int) by have := HE.out.2.2; omega]), (by first | rfl | rw [show (ik : Int) / 2 = ((ik2 : Nat) : Int) by have := HE.out.2.1; omega]), rfl, rfl, rfl, HK.out.1, HK.out.2.1, Lib.hid ⟨HC.out, HK.out.2.2.1, nodeS_size _ _, HW.out.2, HG.out.2.2, HG.out.1, HG.out.2.1, by have := hN.out.2.2.2.2.2.2.2.1; simp; omega, by have := hN.out.2.2.2.2.2.2.2.2.1; simp at this; omega, by have := hN.out.2.2.2.2.2.2.2.2.2.1; simp at this; omega, HPR.out.2⟩⟩
              case measure =>
                have := HK.out.2.2.2
                simp [intOf]; omega
            · have HC := Lib.hid (Climbs.goS hN.out.1 HE.out.1 (dir_right hbes h2))
              simp only [HE.out.2.1, HE.out.2.2] at HC
              generalize hbs : besideN ik = bs at *
              clear hbes h2 hbs
              obtain ⟨d0, d1, d2, d3, d4, d5⟩ := blk4 H2.out.2
              go_upto_region 12 with fail
              obtain ⟨W3, hW3⟩ : ∃ W3, (W2.setCell ⟨wr.heap.size, 2, none⟩ (.string p)).setCell ⟨wr.heap.size, 3, none⟩ (.string xk) = W3 := ⟨_, rfl⟩
              have hb3 : Below wr.heap.size wr W3 := by rw [← hW3]; exact (H2.out.1.setCell (p := ⟨wr.heap.size, 2, none⟩) (Nat.le_refl _) _).setCell (p := ⟨wr.heap.size, 3, none⟩) (Nat.le_refl _) _
              have k3 : W3.heap[wr.heap.size]? = some (.cells #[.int .i64 (ik : Nat), .int .i64 (nk : Nat), .string p, .string xk] 61 (0, 0)) := by
                rw [← hW3]
                exact set_blk (set_blk H2.out.2 2 (.string p)) 3 (.string xk)
              rw [hW3]
              have H3 := Lib.hid (And.intro hb3 k3)
              clear hW3 hb3 k3 d0 d1 d2 d3 d4 d5 H2 c2'
              obtain ⟨d0, d1, d2, d3, -, -⟩ := blk4 H3.out.2
              have f2 := fun p => after_cell d2 p
              have f3 := fun p => after_cell d3 p
              have cN := Lib.hid (fun q => calls_after (p := q) (node_any p xk (After W3 q) HZ.out.2 HZ.out.1))
              refine wp_region_after (by kernel_rfl) (by kernel_rfl) ?_
              quiet_step (fail)
              quiet_step (fail)
              quiet_step (fail)
              quiet_step (fail)
              quiet_step (exact cN.out _)
              quiet_step (fail)
              quiet_step (fail)
              quiet_step (fail)
              quiet_step (fail)
              refine wpQuiet_nil ?_
              rintro w5 ⟨q, rfl⟩
              have hb5 := after_below W3 q
              have HX := Lib.hid (And.intro (H3.out.1.trans (hb5.mono H3.out.1.size)) (blk_on hb5 H3.out.2))
              have HPR := Lib.hid (show Rd strE (After W3 q) (.slice (some ⟨b, o + 1, none⟩) pk.length (ck - 1)) pk ∧ (∀ b', (Value.slice (some ⟨b, o + 1, none⟩) pk.length (ck - 1)).ownBlock = some b' → pk ≠ [] → b' < w.heap.size) by
                have h9 := (hN.out.2.2.2.2.1.below HX.out.1).drop (k := 1) (by simp) (some ⟨b, o + 1, none⟩) (fun h => by simp [strE]) (by simp) (ck - 1) (by have := hN.out.2.2.2.2.2.2.2.2.2.1; simp only [List.length_cons] at this ⊢; omega)
                simp only [List.length_cons, Nat.add_sub_cancel, List.drop_succ_cons, List.drop_zero] at h9
                refine ⟨h9, fun b' e hne' => ?_⟩
                simp only [Value.ownBlock, Option.some.injEq] at e
                subst e
                exact hN.out.2.2.2.2.2.2.2.2.2.2 b rfl (by simp))
              generalize After W3 q = w5 at *
              clear cN f2 f3 d0 d1 d2 d3 hb5 H3
              rw [← HL.out.1]
              obtain ⟨e0, e1, e2, e3, -, -⟩ := blk4 HX.out.2
              go_wp2_with (at_builtin; refine wpList_append_row _ rfl _ _ 57 rfl stepT w.heap.size _ _ out [(⟨ik, nk, p, xk⟩ : StepG)] rfl rfl ((hN.out.2.2.2.2.2.1.below HX.out.1).below (alloc_below w5 _)) (Rd.single (E := stepE) (⟨ik, nk, p, xk⟩ : StepG) (alloc_new w5 _) rfl) (by have h1 := hN.out.2.2.2.2.2.2.1.size; have h2 := HX.out.1.size; simp; omega) (by have h1 := hN.out.2.2.2.2.2.2.2.1; have h2 := HI.out.2.2; simp; omega) (by decide) ?_)
              intro v' w6 hG
              have HG := Lib.hid (And.intro hG.1 (And.intro (hG.below ((hN.out.2.2.2.2.2.2.1.trans (HX.out.1.mono hN.out.2.2.2.2.2.2.1.size)).trans ((alloc_below w5 _).mono (by have h1 := hN.out.2.2.2.2.2.2.1.size; have h2 := HX.out.1.size; omega))) (by have h1 := hN.out.2.2.2.2.2.2.1.size; have h2 := HX.out.1.size; simp; omega) (fun b hb => (hN.out.2.2.2.2.2.1.lt hb).1)) (Grew.rd' hG (HPR.out.1.below (alloc_below w5 _)) (fun hne b e e2 => by have h1 := HPR.out.2 b e hne; have h2 := (hN.out.2.2.2.2.2.1.lt e2).1; omega))))
              clear hG e0 e1 e2 e3
              go_wp2_with fail
              go_roundw
              case rel =>
                refine ⟨mm, nk2, ik2, (nodeS p xk), pk, (some ⟨b, o + 1, none⟩), (ck - 1), out ++ [(⟨ik, nk, p, xk⟩ : StepG)], v', (by first | rfl | rw [show ((nk : Int) + 1) / 2 = ((nk2 : Nat) : Int) by have := HE.out.2.2; omega]), (by first | rfl | rw [show (ik : Int) / 2 = ((ik2 : Nat) : Int) by have := HE.out.2.1; omega]), rfl, rfl, rfl, HK.out.1, HK.out.2.1, Lib.hid ⟨HC.out, HK.out.2.2.1, nodeS_size _ _, HW.out.2, HG.out.2.2, HG.out.1, HG.out.2.1, by have := hN.out.2.2.2.2.2.2.2.1; simp; omega, by have := hN.out.2.2.2.2.2.2.2.2.1; simp at this; omega, by have := hN.out.2.2.2.2.2.2.2.2.2.1; simp at this; omega, HPR.out.2⟩⟩
              case measure =>
                have := HK.out.2.2.2
                simp [intOf]; omega
          · have h2i : ¬ ((besideN ik : Nat) : Int) < (ik : Int) := by omega
            by_cases hck : ck = 1
            · have HC := Lib.hid (Climbs.goS hN.out.1 HE.out.1 (dir_left hbes h2))
              simp only [HE.out.2.1, HE.out.2.2] at HC
              generalize hbs : besideN ik = bs at *
              clear hbes h2 hbs
              go_upto_region 12 with fail
              obtain ⟨W3, rfl⟩ : ∃ W3, W3 = W2 := ⟨_, rfl⟩
              have H3 := H2
              clear H2 c2'
              obtain ⟨d0, d1, d2, d3, -, -⟩ := blk4 H3.out.2
              have f2 := fun p => after_cell d2 p
              have f3 := fun p => after_cell d3 p
              have cN := Lib.hid (fun q => calls_after (p := q) (node_any xk p (After W3 q) HZ.out.1 HZ.out.2))
              refine wp_region_after (by kernel_rfl) (by kernel_rfl) ?_
              quiet_step (fail)
              quiet_step (fail)
              quiet_step (fail)
              quiet_step (fail)
              quiet_step (exact cN.out _)
              quiet_step (fail)
              quiet_step (fail)
              quiet_step (fail)
              quiet_step (fail)
              refine wpQuiet_nil ?_
              rintro w5 ⟨q, rfl⟩
              have hb5 := after_below W3 q
              have HX := Lib.hid (And.intro (H3.out.1.trans (hb5.mono H3.out.1.size)) (blk_on hb5 H3.out.2))
              have HPR := Lib.hid (show Rd strE (After W3 q) (.slice (some ⟨b, o, none⟩) pk.length 0) pk ∧ (∀ b', (Value.slice (some ⟨b, o, none⟩) pk.length 0).ownBlock = some b' → pk ≠ [] → b' < w.heap.size) by
                have h9 := (hN.out.2.2.2.2.1.below HX.out.1).drop (k := 1) (by simp) (some ⟨b, o, none⟩) (fun h => by have := hN.out.2.2.2.2.2.2.2.2.2.1; simp at this h; omega) (by simp) 0 (by have := hN.out.2.2.2.2.2.2.2.2.2.1; simp only [List.length_cons] at this ⊢; omega)
                simp only [List.length_cons, Nat.add_sub_cancel, List.drop_succ_cons, List.drop_zero] at h9
                refine ⟨h9, fun b' e hne' => ?_⟩
                simp only [Value.ownBlock, Option.some.injEq] at e
                subst e
                exact hN.out.2.2.2.2.2.2.2.2.2.2 b rfl (by simp))
              generalize After W3 q = w5 at *
              clear cN f2 f3 d0 d1 d2 d3 hb5 H3
              rw [← HL.out.1]
              obtain ⟨e0, e1, e2, e3, -, -⟩ := blk4 HX.out.2
              go_wp2_with (at_builtin; refine wpList_append_row _ rfl _ _ 57 rfl stepT w.heap.size _ _ out [(⟨ik, nk, xk, p⟩ : StepG)] rfl rfl ((hN.out.2.2.2.2.2.1.below HX.out.1).below (alloc_below w5 _)) (Rd.single (E := stepE) (⟨ik, nk, xk, p⟩ : StepG) (alloc_new w5 _) rfl) (by have h1 := hN.out.2.2.2.2.2.2.1.size; have h2 := HX.out.1.size; simp; omega) (by have h1 := hN.out.2.2.2.2.2.2.2.1; have h2 := HI.out.2.2; simp; omega) (by decide) ?_)
              intro v' w6 hG
              have HG := Lib.hid (And.intro hG.1 (And.intro (hG.below ((hN.out.2.2.2.2.2.2.1.trans (HX.out.1.mono hN.out.2.2.2.2.2.2.1.size)).trans ((alloc_below w5 _).mono (by have h1 := hN.out.2.2.2.2.2.2.1.size; have h2 := HX.out.1.size; omega))) (by have h1 := hN.out.2.2.2.2.2.2.1.size; have h2 := HX.out.1.size; simp; omega) (fun b hb => (hN.out.2.2.2.2.2.1.lt hb).1)) (Grew.rd' hG (HPR.out.1.below (alloc_below w5 _)) (fun hne b e e2 => by have h1 := HPR.out.2 b e hne; have h2 := (hN.out.2.2.2.2.2.1.lt e2).1; omega))))
              clear hG e0 e1 e2 e3
              go_wp2_with fail
              go_roundw
              case rel =>
                refine ⟨mm, nk2, ik2, (nodeS xk p), pk, (some ⟨b, o, none⟩), 0, out ++ [(⟨ik, nk, xk, p⟩ : StepG)], v', (by first | rfl | rw [show ((nk : Int) + 1) / 2 = ((nk2 : Nat) : Int) by have := HE.out.2.2; omega]), (by first | rfl | rw [show (ik : Int) / 2 = ((ik2 : Nat) : Int) by have := HE.out.2.1; omega]), rfl, rfl, rfl, HK.out.1, HK.out.2.1, Lib.hid ⟨HC.out, HK.out.2.2.1, nodeS_size _ _, HW.out.2, HG.out.2.2, HG.out.1, HG.out.2.1, by have := hN.out.2.2.2.2.2.2.2.1; simp; omega, by have := hN.out.2.2.2.2.2.2.2.2.1; simp at this; omega, by have := hN.out.2.2.2.2.2.2.2.2.2.1; simp at this; omega, HPR.out.2⟩⟩
              case measure =>
                have := HK.out.2.2.2
                simp [intOf]; omega
            · have HC := Lib.hid (Climbs.goS hN.out.1 HE.out.1 (dir_left hbes h2))
              simp only [HE.out.2.1, HE.out.2.2] at HC
              generalize hbs : besideN ik = bs at *
              clear hbes h2 hbs
              go_upto_region 12 with fail
              obtain ⟨W3, rfl⟩ : ∃ W3, W3 = W2 := ⟨_, rfl⟩
              have H3 := H2
              clear H2 c2'
              obtain ⟨d0, d1, d2, d3, -, -⟩ := blk4 H3.out.2
              have f2 := fun p => after_cell d2 p
              have f3 := fun p => after_cell d3 p
              have cN := Lib.hid (fun q => calls_after (p := q) (node_any xk p (After W3 q) HZ.out.1 HZ.out.2))
              refine wp_region_after (by kernel_rfl) (by kernel_rfl) ?_
              quiet_step (fail)
              quiet_step (fail)
              quiet_step (fail)
              quiet_step (fail)
              quiet_step (exact cN.out _)
              quiet_step (fail)
              quiet_step (fail)
              quiet_step (fail)
              quiet_step (fail)
              refine wpQuiet_nil ?_
              rintro w5 ⟨q, rfl⟩
              have hb5 := after_below W3 q
              have HX := Lib.hid (And.intro (H3.out.1.trans (hb5.mono H3.out.1.size)) (blk_on hb5 H3.out.2))
              have HPR := Lib.hid (show Rd strE (After W3 q) (.slice (some ⟨b, o + 1, none⟩) pk.length (ck - 1)) pk ∧ (∀ b', (Value.slice (some ⟨b, o + 1, none⟩) pk.length (ck - 1)).ownBlock = some b' → pk ≠ [] → b' < w.heap.size) by
                have h9 := (hN.out.2.2.2.2.1.below HX.out.1).drop (k := 1) (by simp) (some ⟨b, o + 1, none⟩) (fun h => by simp [strE]) (by simp) (ck - 1) (by have := hN.out.2.2.2.2.2.2.2.2.2.1; simp only [List.length_cons] at this ⊢; omega)
                simp only [List.length_cons, Nat.add_sub_cancel, List.drop_succ_cons, List.drop_zero] at h9
                refine ⟨h9, fun b' e hne' => ?_⟩
                simp only [Value.ownBlock, Option.some.injEq] at e
                subst e
                exact hN.out.2.2.2.2.2.2.2.2.2.2 b rfl (by simp))
              generalize After W3 q = w5 at *
              clear cN f2 f3 d0 d1 d2 d3 hb5 H3
              rw [← HL.out.1]
              obtain ⟨e0, e1, e2, e3, -, -⟩ := blk4 HX.out.2
              go_wp2_with (at_builtin; refine wpList_append_row _ rfl _ _ 57 rfl stepT w.heap.size _ _ out [(⟨ik, nk, xk, p⟩ : StepG)] rfl rfl ((hN.out.2.2.2.2.2.1.below HX.out.1).below (alloc_below w5 _)) (Rd.single (E := stepE) (⟨ik, nk, xk, p⟩ : StepG) (alloc_new w5 _) rfl) (by have h1 := hN.out.2.2.2.2.2.2.1.size; have h2 := HX.out.1.size; simp; omega) (by have h1 := hN.out.2.2.2.2.2.2.2.1; have h2 := HI.out.2.2; simp; omega) (by decide) ?_)
              intro v' w6 hG
              have HG := Lib.hid (And.intro hG.1 (And.intro (hG.below ((hN.out.2.2.2.2.2.2.1.trans (HX.out.1.mono hN.out.2.2.2.2.2.2.1.size)).trans ((alloc_below w5 _).mono (by have h1 := hN.out.2.2.2.2.2.2.1.size; have h2 := HX.out.1.size; omega))) (by have h1 := hN.out.2.2.2.2.2.2.1.size; have h2 := HX.out.1.size; simp; omega) (fun b hb => (hN.out.2.2.2.2.2.1.lt hb).1)) (Grew.rd' hG (HPR.out.1.below (alloc_below w5 _)) (fun hne b e e2 => by have h1 := HPR.out.2 b e hne; have h2 := (hN.out.2.2.2.2.2.1.lt e2).1; omega))))
              clear hG e0 e1 e2 e3
              go_wp2_with fail
              go_roundw
              case rel =>
                refine ⟨mm, nk2, ik2, (nodeS xk p), pk, (some ⟨b, o + 1, none⟩), (ck - 1), out ++ [(⟨ik, nk, xk, p⟩ : StepG)], v', (by first | rfl | rw [show ((nk : Int) + 1) / 2 = ((nk2 : Nat) : Int) by have := HE.out.2.2; omega]), (by first | rfl | rw [show (ik : Int) / 2 = ((ik2 : Nat) : Int) by have := HE.out.2.1; omega]), rfl, rfl, rfl, HK.out.1, HK.out.2.1, Lib.hid ⟨HC.out, HK.out.2.2.1, nodeS_size _ _, HW.out.2, HG.out.2.2, HG.out.1, HG.out.2.1, by have := hN.out.2.2.2.2.2.2.2.1; simp; omega, by have := hN.out.2.2.2.2.2.2.2.2.1; simp at this; omega, by have := hN.out.2.2.2.2.2.2.2.2.2.1; simp at this; omega, HPR.out.2⟩⟩
              case measure =>
                have := HK.out.2.2.2
                simp [intOf]; omega
      · have hbi : ¬ ((besideN ik : Nat) : Int) < (nk : Int) := by omega
        have HC := Lib.hid (Climbs.goN hN.out.1 HE.out.1 (dir_none hbes))
        simp only [HE.out.2.1, HE.out.2.2] at HC
        generalize hbs : besideN ik = bs at *
        clear hbes hbs
        have HX := H1
        have HPR := Lib.hid (And.intro (hN.out.2.2.2.2.1.below H1.out.1) hN.out.2.2.2.2.2.2.2.2.2.2)
        obtain ⟨e0, e1, e2, e3, -, -⟩ := blk4 HX.out.2
        go_wp2_with (at_builtin; refine wpList_append_row _ rfl _ _ 57 rfl stepT w.heap.size _ _ out [(⟨ik, nk, ⟨#[]⟩, ⟨#[]⟩⟩ : StepG)] rfl rfl ((hN.out.2.2.2.2.2.1.below HX.out.1).below (alloc_below W1 _)) (Rd.single (E := stepE) (⟨ik, nk, ⟨#[]⟩, ⟨#[]⟩⟩ : StepG) (alloc_new W1 _) rfl) (by have h1 := hN.out.2.2.2.2.2.2.1.size; have h2 := HX.out.1.size; simp; omega) (by have h1 := hN.out.2.2.2.2.2.2.2.1; have h2 := HI.out.2.2; simp; omega) (by decide) ?_)
        intro v' w6 hG
        have HG := Lib.hid (And.intro hG.1 (And.intro (hG.below ((hN.out.2.2.2.2.2.2.1.trans (HX.out.1.mono hN.out.2.2.2.2.2.2.1.size)).trans ((alloc_below W1 _).mono (by have h1 := hN.out.2.2.2.2.2.2.1.size; have h2 := HX.out.1.size; omega))) (by have h1 := hN.out.2.2.2.2.2.2.1.size; have h2 := HX.out.1.size; simp; omega) (fun b hb => (hN.out.2.2.2.2.2.1.lt hb).1)) (Grew.rd' hG (HPR.out.1.below (alloc_below W1 _)) (fun hne b e e2 => by have h1 := HPR.out.2 b e hne; have h2 := (hN.out.2.2.2.2.2.1.lt e2).1; omega))))
        clear hG e0 e1 e2 e3
        go_wp2_with fail
        go_roundw
        case rel =>
          refine ⟨mm, nk2, ik2, xk, pk, ak, ck, out ++ [(⟨ik, nk, ⟨#[]⟩, ⟨#[]⟩⟩ : StepG)], v', (by first | rfl | rw [show ((nk : Int) + 1) / 2 = ((nk2 : Nat) : Int) by have := HE.out.2.2; omega]), (by first | rfl | rw [show (ik : Int) / 2 = ((ik2 : Nat) : Int) by have := HE.out.2.1; omega]), rfl, rfl, rfl, HK.out.1, HK.out.2.1, Lib.hid ⟨HC.out, HK.out.2.2.1, hN.out.2.2.1, hN.out.2.2.2.1, HG.out.2.2, HG.out.1, HG.out.2.1, by have := hN.out.2.2.2.2.2.2.2.1; simp; omega, hN.out.2.2.2.2.2.2.2.2.1, hN.out.2.2.2.2.2.2.2.2.2.1, HPR.out.2⟩⟩
        case measure =>
          have := HK.out.2.2.2
          simp [intOf]; omega
end Go.Proofs.Ytophfeapmmfppaa
/- Trees of hashes: to which root a path leads a leaf. -/
namespace Ks
open Go Go.RowKit
set_option linter.unusedVariables false
def upBad (c i : Int) : Prop := c < 1 ∨ 1048576 < c ∨ i < 0 ∨ c ≤ i
def upV (c i : Int) (x : ByteArray) (ps : List ByteArray) : ByteArray := if c < 1 ∨ 1048576 < c ∨ i < 0 ∨ c ≤ i then ⟨#[]⟩ else if x.size = 32 ∧ wholeL ps = true ∧ ps.length = (sidesH c.toNat i.toNat).length then upS c.toNat i.toNat x ps else ⟨#[]⟩
def upE (c i : Int) (x : ByteArray) (ps : List ByteArray) : Int := if c < 1 ∨ 1048576 < c ∨ i < 0 ∨ c ≤ i then 2 else if x.size = 32 ∧ wholeL ps = true ∧ ps.length = (sidesH c.toNat i.toNat).length then 0 else 17
theorem up_bad {c i : Int} {x : ByteArray} {ps : List ByteArray} (h : c < 1 ∨ 1048576 < c ∨ i < 0 ∨ c ≤ i) : upV c i x ps = ⟨#[]⟩ ∧ upE c i x ps = 2 := ⟨by rw [upV, if_pos h], by rw [upE, if_pos h]⟩
theorem up_no {c i : Int} {x : ByteArray} {ps : List ByteArray} (h : ¬ (c < 1 ∨ 1048576 < c ∨ i < 0 ∨ c ≤ i)) (h2 : ¬ (x.size = 32 ∧ wholeL ps = true ∧ ps.length = (sidesH c.toNat i.toNat).length)) : upV c i x ps = ⟨#[]⟩ ∧ upE c i x ps = 17 := ⟨by rw [upV, if_neg h, if_neg h2], by rw [upE, if_neg h, if_neg h2]⟩
theorem up_yes {c i : Int} {x : ByteArray} {ps : List ByteArray} (h : ¬ (c < 1 ∨ 1048576 < c ∨ i < 0 ∨ c ≤ i)) (h2 : x.size = 32 ∧ wholeL ps = true ∧ ps.length = (sidesH c.toNat i.toNat).length) : upV c i x ps = upS c.toNat i.toNat x ps ∧ upE c i x ps = 0 := ⟨by rw [upV, if_neg h, if_pos h2], by rw [upE, if_neg h, if_pos h2]⟩
theorem up_cases (c i : Int) (x : ByteArray) (ps : List ByteArray) : upE c i x ps = 0 ∨ upE c i x ps = 2 ∨ upE c i x ps = 17 := by
  unfold upE
  split
  · exact .inr (.inl rfl)
  · split
    · exact .inl rfl
    · exact .inr (.inr rfl)
/-- what climb tells of a path -/
theorem climb_twenty (n i : Nat) (x : ByteArray) (ps : List ByteArray) (hi : i < n) (hn : n ≤ 1048576) :
    (ps.length < (sidesH n i).length ∧ climbO 20 n i x ps = none) ∨ ((sidesH n i).length ≤ ps.length ∧ ∃ st, climbO 20 n i x ps = some (st, upS n i x ps, ps.drop (sidesH n i).length)) := by
  have he := sidesM_eq n 20 i hi hn
  obtain ⟨a, b⟩ := climb_spec 20 n i x ps hi
  rw [he] at a b
  rcases Nat.lt_or_ge ps.length (sidesH n i).length with h | h
  · exact .inl ⟨h, a h⟩
  · exact .inr ⟨h, b h⟩
end Ks
namespace Go.Proofs.Ytophfeapmmfppaa
open Go.RowKit Ks
set_option linter.unusedVariables false
theorem whole_one (x : ByteArray) (w : World) : Calls Try.prog 25 #[.slice (some ⟨w.heap.size, 0, none⟩) 1 1] (w.alloc (.cells #[.string x] 9)) fun e w' => e = .returned (.bool (decide (x.size = 32))) ∧ Below w.heap.size w w' := by
  refine (whole_any _ [x] _ (Rd.one w x 9) (by simp)).mono fun e w' ⟨h1, h2⟩ => ⟨?_, (alloc_below w _).trans (h2.mono (by simp))⟩
  rw [h1]
  congr 2
  simp [wholeL, Bool.beq_eq_decide_eq]
set_option maxRecDepth 100000 in
set_option maxHeartbeats 2000000 in
theorem up_bad_any (c i : Int) (x : ByteArray) (pa : Option Addr) (pl pc : Nat) (w : World) (h : c < 1 ∨ 1048576 < c ∨ i < 0 ∨ c ≤ i) :
    Calls Try.prog 19 #[.int .i64 c, .int .i64 i, .string x, .slice pa pl pc] w fun e w' => e = .returned (.tuple #[.string ⟨#[]⟩, .int .i64 2]) ∧ Below w.heap.size w w' := by
  refine calls_by fun R HR => ?_
  have hc : c < 1 ∨ (¬ c < 1 ∧ 1048576 < c) ∨ (¬ c < 1 ∧ ¬ 1048576 < c ∧ i < 0) ∨ (¬ c < 1 ∧ ¬ 1048576 < c ∧ ¬ i < 0 ∧ c ≤ i) := by omega
  clear h
  rcases hc with h1 | ⟨h1, h2⟩ | ⟨h1, h2, h3⟩ | ⟨h1, h2, h3, h4⟩
  all_goals
    go_enter Try.func19, Try.ntmps19
    go_wp2
    exact HR.out _ _ ⟨rfl, Below.refl _ _⟩
set_option maxRecDepth 100000 in
set_option maxHeartbeats 2000000 in
theorem up_good_any (n i : Nat) (x : ByteArray) (ps : List ByteArray) (pv : Value) (w : World) (hi : i < n) (hn : n ≤ 1048576) (hp : ps.length ≤ 100000000) (hr : Rd strE w pv ps) :
    Calls Try.prog 19 #[.int .i64 (n : Nat), .int .i64 (i : Nat), .string x, pv] w fun e w' => e = .returned (.tuple #[.string (upV n i x ps), .int .i64 (upE n i x ps)]) ∧ Below w.heap.size w w' := by
  refine calls_by fun R HR => ?_
  obtain ⟨pa, pc, rfl, -⟩ := hr.shape
  have hb : ¬ ((n : Int) < 1 ∨ 1048576 < (n : Int) ∨ (i : Int) < 0 ∨ (n : Int) ≤ (i : Int)) := by omega
  have h1 : ¬ (n : Int) < 1 := by omega
  have h2 : ¬ (1048576 : Int) < (n : Int) := by omega
  have h3 : ¬ (i : Int) < 0 := by omega
  have h4 : ¬ (n : Int) ≤ (i : Int) := by omega
  have HO := Lib.hid (whole_one x w)
  have HR0 := Lib.hid hr
  by_cases hx : x.size = 32
  · rw [decide_eq_true hx] at HO
    cases hw : wholeL ps
    · have HV := Lib.hid (up_no (x := x) hb (fun h => by rw [hw] at h; cases h.2.1))
      have HP := Lib.hid (fun w1 (h : Below w.heap.size w w1) => whole_any _ ps w1 (hr.below h) (by omega))
      rw [hw] at HP
      clear hb hx hw hr hi hn hp
      go_enter Try.func19, Try.ntmps19
      go_wp2_with fail
      refine HO.out.mono ?_
      rintro e w1 ⟨rfl, hb⟩
      have HB := Lib.hid hb
      clear hb
      go_wp2_with fail
      refine (HP.out w1 HB.out).mono ?_
      rintro e w2 ⟨rfl, hb⟩
      have HB2 := Lib.hid (HB.out.trans (hb.mono HB.out.size))
      clear hb
      go_wp2
      exact HR.out _ _ ⟨by rw [HV.out.1, HV.out.2]; rfl, HB2.out⟩
    · have HP := Lib.hid (fun w1 (h : Below w.heap.size w w1) => whole_any _ ps w1 (hr.below h) (by omega))
      have HC := Lib.hid (fun w1 (h : Below w.heap.size w w1) => climb_any 20 n i x ps _ w1 hi hn (by omega) (by omega) hx hw hp (hr.below h))
      rw [hw] at HP
      rcases climb_twenty n i x ps hi hn with ⟨hl, hc⟩ | ⟨hl, st, hc⟩
      · have hno : ¬ (x.size = 32 ∧ wholeL ps = true ∧ ps.length = (sidesH (n : Int).toNat (i : Int).toNat).length) := fun h => by
          have h9 := h.2.2
          rw [Int.toNat_natCast, Int.toNat_natCast] at h9
          omega
        have HV := Lib.hid (up_no (x := x) hb hno)
        clear hno
        rw [hc] at HC
        clear hb hx hw hr hi hn hp hl hc
        go_enter Try.func19, Try.ntmps19
        go_wp2_with fail
        refine HO.out.mono ?_
        rintro e w1 ⟨rfl, hb⟩
        have HB := Lib.hid hb
        clear hb
        go_wp2_with fail
        refine (HP.out w1 HB.out).mono ?_
        rintro e w2 ⟨rfl, hb⟩
        have HB2 := Lib.hid (HB.out.trans (hb.mono HB.out.size))
        clear hb
        go_wp2_with fail
        refine (HC.out w2 HB2.out).mono ?_
        rintro e w3 ⟨rfl, hb⟩
        have HB3 := Lib.hid (HB2.out.trans (hb.mono HB2.out.size))
        clear hb
        go_wp2
        exact HR.out _ _ ⟨by rw [HV.out.1, HV.out.2]; rfl, HB3.out⟩
      · obtain ⟨S, hS⟩ : ∃ S, upS n i x ps = S := ⟨_, rfl⟩
        rw [hc, hS] at HC
        by_cases he : ps.length = (sidesH n i).length
        · have HV := Lib.hid (up_yes (x := x) hb ⟨hx, hw, by simpa using he⟩)
          simp only [Int.toNat_natCast, hS] at HV
          have hq : (((ps.drop (sidesH n i).length).length : Int) == 0) = true := by rw [beq_iff_eq, List.length_drop]; omega
          generalize ps.drop (sidesH n i).length = rest at *
          clear hb hx hw hr hi hn hp hl hc he hS
          go_enter Try.func19, Try.ntmps19
          go_wp2_with fail
          refine HO.out.mono ?_
          rintro e w1 ⟨rfl, hb⟩
          have HB := Lib.hid hb
          clear hb
          go_wp2_with fail
          refine (HP.out w1 HB.out).mono ?_
          rintro e w2 ⟨rfl, hb⟩
          have HB2 := Lib.hid (HB.out.trans (hb.mono HB.out.size))
          clear hb
          go_wp2_with fail
          refine (HC.out w2 HB2.out).mono ?_
          rintro e w3 ⟨⟨v, rfl, hrow⟩, hb⟩
          have HB3 := Lib.hid (HB2.out.trans (hb.mono HB2.out.size))
          obtain ⟨va, vc, rfl, -⟩ := hrow.shape
          clear hb hrow
          simp only [hq]
          go_wp2
          exact HR.out _ _ ⟨by rw [HV.out.1, HV.out.2]; rfl, HB3.out⟩
        · have HV := Lib.hid (up_no (x := x) hb (fun h => he (by have := h.2.2; simpa using this)))
          have hq : (((ps.drop (sidesH n i).length).length : Int) == 0) = false := by rw [beq_eq_false_iff_ne, List.length_drop]; omega
          generalize ps.drop (sidesH n i).length = rest at *
          clear hb hx hw hr hi hn hp hl hc he hS
          go_enter Try.func19, Try.ntmps19
          go_wp2_with fail
          refine HO.out.mono ?_
          rintro e w1 ⟨rfl, hb⟩
          have HB := Lib.hid hb
          clear hb
          go_wp2_with fail
          refine (HP.out w1 HB.out).mono ?_
          rintro e w2 ⟨rfl, hb⟩
          have HB2 := Lib.hid (HB.out.trans (hb.mono HB.out.size))
          clear hb
          go_wp2_with fail
          refine (HC.out w2 HB2.out).mono ?_
          rintro e w3 ⟨⟨v, rfl, hrow⟩, hb⟩
          have HB3 := Lib.hid (HB2.out.trans (hb.mono HB2.out.size))
          obtain ⟨va, vc, rfl, -⟩ := hrow.shape
          clear hb hrow
          simp only [hq]
          go_wp2
          exact HR.out _ _ ⟨by rw [HV.out.1, HV.out.2]; rfl, HB3.out⟩
  · rw [decide_eq_false hx] at HO
    have HV := Lib.hid (up_no (ps := ps) hb (fun h => hx h.1))
    clear hb hx hr hi hn hp
    go_enter Try.func19, Try.ntmps19
    go_wp2_with fail
    refine HO.out.mono ?_
    rintro e w1 ⟨rfl, hb⟩
    have HB := Lib.hid hb
    clear hb
    go_wp2
    exact HR.out _ _ ⟨by rw [HV.out.1, HV.out.2]; rfl, HB.out⟩
theorem up_any (c i : Int) (x : ByteArray) (ps : List ByteArray) (pv : Value) (w : World) (hp : ps.length ≤ 100000000) (hr : Rd strE w pv ps) :
    Calls Try.prog 19 #[.int .i64 c, .int .i64 i, .string x, pv] w fun e w' => e = .returned (.tuple #[.string (upV c i x ps), .int .i64 (upE c i x ps)]) ∧ Below w.heap.size w w' := by
  by_cases h : c < 1 ∨ 1048576 < c ∨ i < 0 ∨ c ≤ i
  · obtain ⟨pa, pc, rfl, -⟩ := hr.shape
    rw [(up_bad h).1, (up_bad h).2]
    exact up_bad_any c i x pa _ pc w h
  · have e1 : c = ((c.toNat : Nat) : Int) := by omega
    have e2 : i = ((i.toNat : Nat) : Int) := by omega
    have := up_good_any c.toNat i.toNat x ps pv w (by omega) (by omega) hp hr
    rw [← e1, ← e2] at this
    exact this
def isV (root : ByteArray) (c i : Int) (x : ByteArray) (ps : List ByteArray) : Bool := decide (upE c i x ps = 0 ∧ upV c i x ps = root)
theorem check_any (root : ByteArray) (c i : Int) (x : ByteArray) (ps : List ByteArray) (pv : Value) (w : World) (hp : ps.length ≤ 100000000) (hr : Rd strE w pv ps) :
    Calls Try.prog 20 #[.string root, .int .i64 c, .int .i64 i, .string x, pv] w fun e w' => e = .returned (.bool (isV root c i x ps)) ∧ Below w.heap.size w w' := by
  refine calls_by fun R HR => ?_
  have HU := Lib.hid (up_any c i x ps pv w hp hr)
  obtain ⟨pa, pc, rfl, -⟩ := hr.shape
  have hc := up_cases c i x ps
  have HI := Lib.hid (show isV root c i x ps = decide (upE c i x ps = 0 ∧ upV c i x ps = root) from rfl)
  generalize upE c i x ps = e at *
  generalize upV c i x ps = v at *
  generalize isV root c i x ps = is at *
  clear hr hp
  rcases hc with rfl | rfl | rfl
  · by_cases hv : v = root
    · subst hv
      have HI2 := Lib.hid (show is = true by rw [HI.out]; simp)
      go_enter Try.func20, Try.ntmps20
      go_wp2_with fail
      refine HU.out.mono ?_
      rintro e w1 ⟨rfl, hb⟩
      have HB := Lib.hid hb
      clear hb
      go_wp2
      exact HR.out _ _ ⟨by rw [HI2.out]; rfl, HB.out⟩
    · have HI2 := Lib.hid (show is = false by rw [HI.out]; simp [hv])
      have hvb := text_ne hv
      clear hv
      go_enter Try.func20, Try.ntmps20
      go_wp2_with fail
      refine HU.out.mono ?_
      rintro e w1 ⟨rfl, hb⟩
      have HB := Lib.hid hb
      clear hb
      go_wp2
      exact HR.out _ _ ⟨by rw [HI2.out]; rfl, HB.out⟩
  all_goals
    have HI2 := Lib.hid (show is = false by rw [HI.out]; simp)
    go_enter Try.func20, Try.ntmps20
    go_wp2_with fail
    refine HU.out.mono ?_
    rintro e w1 ⟨rfl, hb⟩
    have HB := Lib.hid hb
    clear hb
    go_wp2
    exact HR.out _ _ ⟨by rw [HI2.out]; rfl, HB.out⟩
end Go.Proofs.Ytophfeapmmfppaa
/- The reference's trees of hashes: where a path leads a leaf. -/
namespace Go.Proofs.Ytophfeapmmfppaa
open Go.RowKit Ks
set_option linter.unusedVariables false
set_option maxHeartbeats 2000000 in
theorem rup_any : ∀ (n i : Nat) (x : ByteArray) (ps : List ByteArray) (pv : Value) (w : World), i < n → n ≤ 100000000 → x.size = 32 → wholeL ps = true → ps.length = (sidesH n i).length → Rd strE w pv ps →
    Calls Try.prog 22 #[.int .i64 (n : Nat), .int .i64 (i : Nat), .string x, pv] w fun e w' => e = .returned (.string (upS n i x ps)) ∧ Below w.heap.size w w' := by
  intro n
  induction n using Nat.strongRecOn with
  | ind n ih =>
  intro i x ps pv w hi hn hx hw hl hr
  refine calls_by fun R HR => ?_
  by_cases h2 : 2 ≤ n
  · have hh := half_lt n h2
    have HH := Lib.hid (rhalf_any n w h2 (by omega))
    have hn2 : ¬ (n : Int) < 2 := by omega
    have hne : ps ≠ [] := fun e => by
      rw [e, sides_two n i h2] at hl
      split at hl <;> simp at hl
    obtain ⟨qs, p, rfl⟩ : ∃ qs p, ps = qs ++ [p] := ⟨ps.dropLast, ps.getLast hne, (List.dropLast_concat_getLast hne).symm⟩
    obtain ⟨a, cap, rfl, hcap, -⟩ := hr.shape
    have hlen : (qs ++ [p]).length = qs.length + 1 := by simp
    obtain ⟨b, o, rfl, hb, c1⟩ := hr.str qs.length (by omega)
    have hget : (qs ++ [p])[qs.length]'(by simp) = p := by simp
    rw [hget] at c1
    have hwq : wholeL qs = true ∧ p.size = 32 := by
      simp only [wholeL, List.all_append, List.all_cons, List.all_nil, Bool.and_true, Bool.and_eq_true, beq_iff_eq] at hw
      exact hw
    have hT := hr.take (k := qs.length) (by omega) cap (by omega)
    rw [List.take_left] at hT
    rw [hlen] at hcap
    have hps := hwq.2
    have d1 := fun p => after_cell c1 p
    have hsl : ∀ n i, (sidesH n i).length ≤ n := by
      intro n
      induction n using Nat.strongRecOn with
      | ind n ih =>
        intro i
        by_cases h : 2 ≤ n
        · have := half_lt n h
          rw [sides_two n i h]
          split
          · have := ih (halfN n) (by omega) i; simp; omega
          · have := ih (n - halfN n) (by omega) (i - halfN n); simp; omega
        · rw [sides_low n i h]; simp
    have hqi : (qs.length : Int) ≤ 100000000 := by have := hsl n i; omega
    have hki0 : (0 : Int) ≤ (qs.length : Int) := by omega
    have hki1 : (qs.length : Int) < (qs.length : Int) + 1 := by omega
    have hki2 : (qs.length : Int) ≤ (qs.length : Int) + 1 := by omega
    have hki3 : (qs.length : Int) ≤ (cap : Int) := by omega
    by_cases hk : i < halfN n
    · obtain ⟨HU, hl2⟩ := up_left n i x qs p h2 hk hl
      have hy : (upS (halfN n) i x qs).size = 32 := foldU_size _ _ _ hx
      have cU := Lib.hid (fun p => calls_after (p := p) (ih (halfN n) (by omega) i x qs _ (After w p) hk (by omega) hx hwq.1 hl2 (hT.below (after_below w p))))
      have cS := Lib.hid (fun q => calls_after (p := q) (rnode_any (upS (halfN n) i x qs) p (After w q) (by omega) (by omega)))
      have HU := Lib.hid HU
      have hcat1 : ¬ 9223372036854775807 < 1 + (upS (halfN n) i x qs).size := by omega
      have hcat2 : ¬ 9223372036854775807 < 1 + (upS (halfN n) i x qs).size + p.size := by omega
      have hki : (i : Int) < ((halfN n : Nat) : Int) := by omega
      generalize upS (halfN n) i x qs = y at *
      generalize halfN n = k at *
      clear ih hi hn hh hk h2 hr hT hx hw hwq hl hl2 hlen hne hget hsl
      simp only [List.length_append, List.length_singleton]
      generalize qs.length = m at *
      go_enter Try.func22, Try.ntmps22
      go_wp2_with fail
      refine HH.out.mono ?_
      rintro e w1 ⟨rfl, hw⟩
      subst hw
      go_wp2_with fail
      refine wp_region_after (by kernel_rfl) (by kernel_rfl) ?_
      quiet_step (fail)
      quiet_step (fail)
      quiet_step (fail)
      quiet_step (fail)
      quiet_step (fail)
      quiet_step (fail)
      quiet_step (exact cU.out _)
      quiet_step (fail)
      quiet_step (fail)
      quiet_step (fail)
      quiet_step (fail)
      quiet_step (fail)
      quiet_step (fail)
      quiet_step (exact cS.out _)
      quiet_step (fail)
      refine wpQuiet_nil ?_
      rintro w2 ⟨q, rfl⟩
      have H2 := Lib.hid (after_below w1 q)
      generalize After w1 q = w2 at *
      clear cU cS d1
      go_wp2
      exact HR.out _ _ ⟨by rw [HU.out] <;> rfl, H2.out⟩
    · obtain ⟨HU, hl2⟩ := up_right n i x qs p h2 hk hl
      have hy : (upS (n - halfN n) (i - halfN n) x qs).size = 32 := foldU_size _ _ _ hx
      have cU := Lib.hid (fun p => calls_after (p := p) (ih (n - halfN n) (by omega) (i - halfN n) x qs _ (After w p) (by omega) (by omega) hx hwq.1 hl2 (hT.below (after_below w p))))
      have cS := Lib.hid (fun q => calls_after (p := q) (rnode_any p (upS (n - halfN n) (i - halfN n) x qs) (After w q) (by omega) (by omega)))
      have HU := Lib.hid HU
      have hcat1 : ¬ 9223372036854775807 < 1 + p.size := by omega
      have hcat2 : ¬ 9223372036854775807 < 1 + p.size + (upS (n - halfN n) (i - halfN n) x qs).size := by omega
      have hki : ¬ (i : Int) < ((halfN n : Nat) : Int) := by omega
      have e1 : (n : Int) - ((halfN n : Nat) : Int) = ((n - halfN n : Nat) : Int) := by omega
      have e2 : (i : Int) - ((halfN n : Nat) : Int) = ((i - halfN n : Nat) : Int) := by omega
      generalize upS (n - halfN n) (i - halfN n) x qs = y at *
      have hnn : n - halfN n ≤ 100000000 := by omega
      have hii : i - halfN n ≤ 100000000 := by omega
      generalize n - halfN n = n2 at *
      generalize i - halfN n = i2 at *
      generalize halfN n = k at *
      have w1 : IntKind.i64.wrap ((n2 : Nat) : Int) = ((n2 : Nat) : Int) := by rw [IntKind.wrap_i64]; omega
      have w2 : IntKind.i64.wrap ((i2 : Nat) : Int) = ((i2 : Nat) : Int) := by rw [IntKind.wrap_i64]; omega
      clear ih hi hn hh hk h2 hr hT hx hw hwq hl hl2 hlen hne hget hsl hnn hii
      simp only [List.length_append, List.length_singleton]
      generalize qs.length = m at *
      go_enter Try.func22, Try.ntmps22
      go_wp2_with fail
      refine HH.out.mono ?_
      rintro e w1 ⟨rfl, hw⟩
      subst hw
      go_wp2_with fail
      refine wp_region_after (by kernel_rfl) (by kernel_rfl) ?_
      quiet_step (fail)
      quiet_step (fail)
      quiet_step (fail)
      quiet_step (fail)
      quiet_step (fail)
      quiet_step (fail)
      quiet_step (fail)
      quiet_step (fail)
      quiet_step (fail)
      quiet_step (fail)
      quiet_step (fail)
      quiet_step (fail)
      quiet_step (fail)
      quiet_step (fail)
      quiet_step (fail)
      quiet_step (exact cU.out _)
      quiet_step (fail)
      quiet_step (exact cS.out _)
      quiet_step (fail)
      refine wpQuiet_nil ?_
      rintro w2 ⟨q, rfl⟩
      have H2 := Lib.hid (after_below w1 q)
      generalize After w1 q = w2 at *
      clear cU cS d1
      go_wp2
      exact HR.out _ _ ⟨by rw [HU.out] <;> rfl, H2.out⟩
  · have HS := Lib.hid (up_low n i x ps h2)
    have hn2 : (n : Int) < 2 := by omega
    obtain ⟨a, cap, rfl, hcap, -⟩ := hr.shape
    clear ih hi hn h2 hr hw hl hx
    go_enter Try.func22, Try.ntmps22
    go_wp2
    exact HR.out _ _ ⟨by rw [HS.out]; rfl, Below.refl _ _⟩
end Go.Proofs.Ytophfeapmmfppaa
