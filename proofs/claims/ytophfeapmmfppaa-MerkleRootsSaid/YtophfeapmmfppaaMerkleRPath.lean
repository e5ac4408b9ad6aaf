/- The reference's trees of hashes: a leaf's path. -/
import Derived.Test.YtophfeapmmfppaaMerkleRef2
import Derived.Test.YtophfeapmmfppaaMovedFork
namespace Go.Proofs.Ytophfeapmmfppaa
open Go.RowKit Ks
set_option linter.unusedVariables false
theorem eg_rroot : ∀ args w, (callFunc 16 args).run Try.prog w = .ok (.enter 16 args) w := fun _ _ => rfl
theorem eg_rpath : ∀ args w, (callFunc 18 args).run Try.prog w = .ok (.enter 18 args) w := fun _ _ => rfl
theorem path_len : ∀ (n : Nat) (l : List ByteArray) (i : Nat), l.length = n → (pathL l i).length ≤ n := by
  intro n
  induction n using Nat.strongRecOn with
  | ind n ih =>
    intro l i hn
    by_cases h : 2 ≤ l.length
    · have hh := half_lt l.length h
      rw [path_two l i h]
      split
      · have := ih (halfN l.length) (by omega) (l.take (halfN l.length)) i (by rw [List.length_take]; omega)
        simp; omega
      · have := ih (l.length - halfN l.length) (by omega) (l.drop (halfN l.length)) (i - halfN l.length) (by rw [List.length_drop])
        simp; omega
    · rw [path_low l i h]; simp
set_option maxRecDepth 100000 in
set_option maxHeartbeats 4000000 in
theorem rpath_any : ∀ (n : Nat) (l : List ByteArray) (i : Nat) (lv : Value) (w : World), l.length = n → n ≤ 100000000 → i < n → Rd strE w lv l → wholeL l = true →
    Calls Try.prog 18 #[lv, .int .i64 (i : Nat)] w fun e w' => ∃ v, e = .returned v ∧ Row strE w' w.heap.size 9 v (pathL l i) ∧ Below w.heap.size w w' := by
  intro n
  induction n using Nat.strongRecOn with
  | ind n ih =>
  intro l i lv w hn hb hi hr hw
  refine calls_by fun R HR => ?_
  obtain ⟨a, cap, rfl, hcap, -⟩ := hr.shape
  by_cases h2 : 2 ≤ n
  · obtain ⟨b, o, rfl, hb1, -⟩ := hr.str 0 (by omega)
    have hn2 : ¬ (l.length : Int) < 2 := by omega
    have hh := half_lt l.length (by omega)
    have HH := Lib.hid (rhalf_any l.length w (by omega) (by omega))
    have hw' : ∀ s ∈ l, s.size = 32 := by simpa [wholeL] using hw
    have w1' : wholeL (l.take (halfN l.length)) = true := by simp only [wholeL, List.all_eq_true, beq_iff_eq]; exact fun s hs => hw' s (List.mem_of_mem_take hs)
    have w2 : wholeL (l.drop (halfN l.length)) = true := by simp only [wholeL, List.all_eq_true, beq_iff_eq]; exact fun s hs => hw' s (List.mem_of_mem_drop hs)
    have hT := hr.take (k := halfN l.length) (by omega) cap (by omega)
    have hD := hr.drop (k := halfN l.length) (by omega) (some ⟨b, o + halfN l.length, none⟩) (fun _ => by simp [strE]) (by simp) (cap - halfN l.length) (by omega)
    have hk1 : ((halfN l.length : Nat) : Int) < (l.length : Int) := by omega
    have hk0 : (0 : Int) < ((halfN l.length : Nat) : Int) := by omega
    have hk2 : ((halfN l.length : Nat) : Int) ≤ (cap : Int) := by omega
    have hk3 : ¬ cap = halfN l.length := by omega
    have hk4 : ((halfN l.length : Nat) : Int) ≤ (l.length : Int) := by omega
    have hk5 : (l.length : Int) ≤ (cap : Int) := by omega
    have hli : (l.length : Int) ≤ 100000000 := by omega
    by_cases hk : i < halfN l.length
    · have HZ := Lib.hid (show pathL l i = pathL (l.take (halfN l.length)) i ++ [rootL (l.drop (halfN l.length))] by rw [path_two l i (by omega), if_pos hk])
      have cR := Lib.hid (fun (w1 : World) (h : Below w.heap.size w w1) => rroot_any (l.drop (halfN l.length)).length (l.drop (halfN l.length)) _ w1 rfl (by rw [List.length_drop]; omega) (hD.below h) w2)
      have cP := Lib.hid (fun (w1 : World) (h : Below w.heap.size w w1) => ih (l.take (halfN l.length)).length (by rw [List.length_take]; omega) (l.take (halfN l.length)) i _ w1 rfl (by rw [List.length_take]; omega) (by rw [List.length_take]; omega) (hT.below h) w1')
      have hAL := Lib.hid (show (pathL (l.take (halfN l.length)) i).length ≤ 100000000 by have := path_len _ (l.take (halfN l.length)) i rfl; rw [List.length_take] at this; omega)
      have hki : (i : Int) < ((halfN l.length : Nat) : Int) := by omega
      generalize rootL (l.drop (halfN l.length)) = y at *
      generalize pathL (l.take (halfN l.length)) i = A at *
      generalize halfN l.length = k at *
      clear hr ih hn h2 hw hw' w1' w2 hT hD hh hk hi
      go_enter Try.func18, Try.ntmps18
      go_wp2_with fail
      refine HH.out.mono ?_
      rintro e w3 ⟨rfl, hw3⟩
      rw [hw3]
      clear hw3
      go_wp2_with fail
      refine wp_region_mv (fun f => Joins strE w 9 A [y] (f 4) (f 9) (f 10)) (by kernel_rfl) (Joins.start (drew_below w)) ?_
      obtain ⟨S, F, hF, hFC⟩ := moved_class (fun f => Joins strE w 9 A [y] (f 4) (f 9) (f 10))
      show wpAnyM _ _ _ _ _ 12 (Array.replicate 12 false) _ _
      refine mv_read 0 hF (fun _ _ _ h => h) rfl (by kernel_rfl) (by kernel_rfl) (by kernel_rfl) (fun K hK => ?_)
      go_simp
      first | refine ⟨_, fun _ => rfl, hK _ _ ?_⟩ | refine hK _ _ ?_
      clear hK K
      refine mv_read 1 hF (fun _ _ _ h => h) rfl (by kernel_rfl) (by kernel_rfl) (by kernel_rfl) (fun K hK => ?_)
      go_simp
      first | refine ⟨_, fun _ => rfl, hK _ _ ?_⟩ | refine hK _ _ ?_
      clear hK K
      refine mv_read 2 hF (fun _ _ _ h => h) rfl (by kernel_rfl) (by kernel_rfl) (by kernel_rfl) (fun K hK => ?_)
      go_simp
      first | refine ⟨_, fun _ => rfl, hK _ _ ?_⟩ | refine hK _ _ ?_
      clear hK K
      refine mv_read 3 hF (fun _ _ _ h => h) rfl (by kernel_rfl) (by kernel_rfl) (by kernel_rfl) (fun K hK => ?_)
      go_simp
      first | refine ⟨_, fun _ => rfl, hK _ _ ?_⟩ | refine hK _ _ ?_
      clear hK K
      refine mv_read 5 hF (fun _ _ _ h => h) rfl (by kernel_rfl) (by kernel_rfl) (by kernel_rfl) (fun K hK => ?_)
      go_simp
      first | refine ⟨_, fun _ => rfl, hK _ _ ?_⟩ | refine hK _ _ ?_
      clear hK K
      refine mv_read 6 hF (fun _ _ _ h => h) rfl (by kernel_rfl) (by kernel_rfl) (by kernel_rfl) (fun K hK => ?_)
      go_simp
      first | refine ⟨_, fun _ => rfl, hK _ _ ?_⟩ | refine hK _ _ ?_
      clear hK K
      refine mv_read 7 hF (fun _ _ _ h => h) rfl (by kernel_rfl) (by kernel_rfl) (by kernel_rfl) (fun K hK => ?_)
      go_simp
      first | refine ⟨_, fun _ => rfl, hK _ _ ?_⟩ | refine hK _ _ ?_
      clear hK K
      refine mv_call 4 18 rfl (by kernel_rfl) rfl rfl eg_rpath (args := #[.slice (some ⟨b, o, none⟩) k cap, .int .i64 (i : Nat)]) rfl (fun _ => True) (fun g w1 ha h0 h => by
          simp only [h0] at h
          exact (cP.out w1 h.1).mono fun e w' ⟨v', h1, h2, h3⟩ => ⟨v', h1, trivial, h.path h2 h3⟩) ?_
      rintro pv -
      refine mv_call1 8 16 rfl (by kernel_rfl) (by kernel_rfl) (by kernel_rfl) rfl rfl eg_rroot (args := #[.slice (some ⟨b, o + k, none⟩) (l.length - k) (cap - k)]) rfl (u := .string y) (fun g w1 _ _ h => (cR.out w1 h.1).mono fun e w' ⟨h1, h2⟩ => ⟨h1, h.on h2⟩) ?_
      refine mv_alone 9 rfl (by kernel_rfl) rfl (fun v => ∃ g, v = .slice (some ⟨g, 0, none⟩) 1 1) (fun g w1 ha h0 h D hD => by
          simp only [h0] at h
          have h8 := h.made #[.string y] rfl (T' := 9)
          clear h
          go_simp
          exact hD _ _ ⟨_, rfl⟩ h8) ?_
      rintro _ ⟨gs, rfl⟩
      refine mv_append 10 rfl (by kernel_rfl) rfl (.tmp 19) (.tmp 24) 22 rfl strT w.heap.size _ _ A [y] rfl rfl (by have := hAL.out; simp; omega) (by decide) (fun g w1 ha h0 h => ?_) (fun _ => True) (fun g w1 v' w' ha h0 h hG => ?_) ?_
      · have e1 : g 9 = some (.slice (some ⟨gs, 0, none⟩) 1 1) := (agree_on 9 ha (by kernel_rfl)).trans rfl
        have e2 : g 4 = some pv := (agree_on 4 ha (by kernel_rfl)).trans rfl
        simp only [e1, e2, h0] at h
        exact h.rows
      · have e1 : g 9 = some (.slice (some ⟨gs, 0, none⟩) 1 1) := (agree_on 9 ha (by kernel_rfl)).trans rfl
        have e2 : g 4 = some pv := (agree_on 4 ha (by kernel_rfl)).trans rfl
        simp only [e1, e2, h0] at h
        refine ⟨trivial, ?_⟩
        show Joins _ _ _ _ _ (g 4) (g 9) _ _
        rw [e1, e2]
        exact h.grew hG
      rintro vz -
      refine mv_read 11 hF (fun _ _ _ h => h) rfl (by kernel_rfl) (by kernel_rfl) (by kernel_rfl) (fun K hK => ?_)
      go_simp
      first | refine ⟨_, fun _ => rfl, hK _ _ ?_⟩ | refine hK _ _ ?_
      clear hK K
      refine mv_end (by kernel_rfl) ?_
      intro w2 hw2
      have HG : Joins strE w 9 A [y] (some pv) (some (.slice (some ⟨gs, 0, none⟩) 1 1)) (some vz) w2 := hw2
      have HG := Lib.hid HG
      clear hw2 hF hFC
      go_wp2
      exact HR.out _ _ ⟨vz, rfl, by rw [HZ.out]; exact HG.out.2.2, HG.out.1⟩
    · have HZ := Lib.hid (show pathL l i = pathL (l.drop (halfN l.length)) (i - halfN l.length) ++ [rootL (l.take (halfN l.length))] by rw [path_two l i (by omega), if_neg hk])
      have cR := Lib.hid (fun (w1 : World) (h : Below w.heap.size w w1) => rroot_any (l.take (halfN l.length)).length (l.take (halfN l.length)) _ w1 rfl (by rw [List.length_take]; omega) (hT.below h) w1')
      have cP := Lib.hid (fun (w1 : World) (h : Below w.heap.size w w1) => ih (l.drop (halfN l.length)).length (by rw [List.length_drop]; omega) (l.drop (halfN l.length)) (i - halfN l.length) _ w1 rfl (by rw [List.length_drop]; omega) (by rw [List.length_drop]; omega) (hD.below h) w2)
      have hAL := Lib.hid (show (pathL (l.drop (halfN l.length)) (i - halfN l.length)).length ≤ 100000000 by have := path_len _ (l.drop (halfN l.length)) (i - halfN l.length) rfl; rw [List.length_drop] at this; omega)
      have hki : ¬ (i : Int) < ((halfN l.length : Nat) : Int) := by omega
      have e2 : (i : Int) - ((halfN l.length : Nat) : Int) = ((i - halfN l.length : Nat) : Int) := by omega
      have hii : i - halfN l.length ≤ 100000000 := by omega
      generalize rootL (l.take (halfN l.length)) = y at *
      generalize pathL (l.drop (halfN l.length)) (i - halfN l.length) = A at *
      generalize i - halfN l.length = i2 at *
      generalize halfN l.length = k at *
      have wi2 : IntKind.i64.wrap ((i2 : Nat) : Int) = ((i2 : Nat) : Int) := by rw [IntKind.wrap_i64]; omega
      clear hr ih hn h2 hw hw' w1' w2 hT hD hh hk hi hii
      go_enter Try.func18, Try.ntmps18
      go_wp2_with fail
      refine HH.out.mono ?_
      rintro e w3 ⟨rfl, hw3⟩
      rw [hw3]
      clear hw3
      go_wp2_with fail
      refine wp_region_mv (fun f => Joins strE w 9 A [y] (f 6) (f 11) (f 12)) (by kernel_rfl) (Joins.start (drew_below w)) ?_
      obtain ⟨S, F, hF, hFC⟩ := moved_class (fun f => Joins strE w 9 A [y] (f 6) (f 11) (f 12))
      show wpAnyM _ _ _ _ _ 14 (Array.replicate 14 false) _ _
      refine mv_read 0 hF (fun _ _ _ h => h) rfl (by kernel_rfl) (by kernel_rfl) (by kernel_rfl) (fun K hK => ?_)
      go_simp
      first | refine ⟨_, fun _ => rfl, hK _ _ ?_⟩ | refine hK _ _ ?_
      clear hK K
      refine mv_read 1 hF (fun _ _ _ h => h) rfl (by kernel_rfl) (by kernel_rfl) (by kernel_rfl) (fun K hK => ?_)
      go_simp
      first | refine ⟨_, fun _ => rfl, hK _ _ ?_⟩ | refine hK _ _ ?_
      clear hK K
      refine mv_read 2 hF (fun _ _ _ h => h) rfl (by kernel_rfl) (by kernel_rfl) (by kernel_rfl) (fun K hK => ?_)
      go_simp
      first | refine ⟨_, fun _ => rfl, hK _ _ ?_⟩ | refine hK _ _ ?_
      clear hK K
      refine mv_read 3 hF (fun _ _ _ h => h) rfl (by kernel_rfl) (by kernel_rfl) (by kernel_rfl) (fun K hK => ?_)
      go_simp
      first | refine ⟨_, fun _ => rfl, hK _ _ ?_⟩ | refine hK _ _ ?_
      clear hK K
      refine mv_read 4 hF (fun _ _ _ h => h) rfl (by kernel_rfl) (by kernel_rfl) (by kernel_rfl) (fun K hK => ?_)
      go_simp
      first | refine ⟨_, fun _ => rfl, hK _ _ ?_⟩ | refine hK _ _ ?_
      clear hK K
      refine mv_read 5 hF (fun _ _ _ h => h) rfl (by kernel_rfl) (by kernel_rfl) (by kernel_rfl) (fun K hK => ?_)
      go_simp
      first | refine ⟨_, fun _ => rfl, hK _ _ ?_⟩ | refine hK _ _ ?_
      clear hK K
      refine mv_read 7 hF (fun _ _ _ h => h) rfl (by kernel_rfl) (by kernel_rfl) (by kernel_rfl) (fun K hK => ?_)
      go_simp
      first | refine ⟨_, fun _ => rfl, hK _ _ ?_⟩ | refine hK _ _ ?_
      clear hK K
      refine mv_read 8 hF (fun _ _ _ h => h) rfl (by kernel_rfl) (by kernel_rfl) (by kernel_rfl) (fun K hK => ?_)
      go_simp
      first | refine ⟨_, fun _ => rfl, hK _ _ ?_⟩ | refine hK _ _ ?_
      clear hK K
      refine mv_read 9 hF (fun _ _ _ h => h) rfl (by kernel_rfl) (by kernel_rfl) (by kernel_rfl) (fun K hK => ?_)
      go_simp
      first | refine ⟨_, fun _ => rfl, hK _ _ ?_⟩ | refine hK _ _ ?_
      clear hK K
      refine mv_call 6 18 rfl (by kernel_rfl) rfl rfl eg_rpath (args := #[.slice (some ⟨b, o + k, none⟩) (l.length - k) (cap - k), .int .i64 (i2 : Nat)]) rfl (fun _ => True) (fun g w1 ha h0 h => by
          simp only [h0] at h
          exact (cP.out w1 h.1).mono fun e w' ⟨v', h1, h2, h3⟩ => ⟨v', h1, trivial, h.path h2 h3⟩) ?_
      rintro pv -
      refine mv_call1 10 16 rfl (by kernel_rfl) (by kernel_rfl) (by kernel_rfl) rfl rfl eg_rroot (args := #[.slice (some ⟨b, o, none⟩) k cap]) rfl (u := .string y) (fun g w1 _ _ h => (cR.out w1 h.1).mono fun e w' ⟨h1, h2⟩ => ⟨h1, h.on h2⟩) ?_
      refine mv_alone 11 rfl (by kernel_rfl) rfl (fun v => ∃ g, v = .slice (some ⟨g, 0, none⟩) 1 1) (fun g w1 ha h0 h D hD => by
          simp only [h0] at h
          have h8 := h.made #[.string y] rfl (T' := 9)
          clear h
          go_simp
          exact hD _ _ ⟨_, rfl⟩ h8) ?_
      rintro _ ⟨gs, rfl⟩
      refine mv_append 12 rfl (by kernel_rfl) rfl (.tmp 32) (.tmp 37) 22 rfl strT w.heap.size _ _ A [y] rfl rfl (by have := hAL.out; simp; omega) (by decide) (fun g w1 ha h0 h => ?_) (fun _ => True) (fun g w1 v' w' ha h0 h hG => ?_) ?_
      · have e1 : g 11 = some (.slice (some ⟨gs, 0, none⟩) 1 1) := (agree_on 11 ha (by kernel_rfl)).trans rfl
        have e2 : g 6 = some pv := (agree_on 6 ha (by kernel_rfl)).trans rfl
        simp only [e1, e2, h0] at h
        exact h.rows
      · have e1 : g 11 = some (.slice (some ⟨gs, 0, none⟩) 1 1) := (agree_on 11 ha (by kernel_rfl)).trans rfl
        have e2 : g 6 = some pv := (agree_on 6 ha (by kernel_rfl)).trans rfl
        simp only [e1, e2, h0] at h
        refine ⟨trivial, ?_⟩
        show Joins _ _ _ _ _ (g 6) (g 11) _ _
        rw [e1, e2]
        exact h.grew hG
      rintro vz -
      refine mv_read 13 hF (fun _ _ _ h => h) rfl (by kernel_rfl) (by kernel_rfl) (by kernel_rfl) (fun K hK => ?_)
      go_simp
      first | refine ⟨_, fun _ => rfl, hK _ _ ?_⟩ | refine hK _ _ ?_
      clear hK K
      refine mv_end (by kernel_rfl) ?_
      intro w2 hw2
      have HG : Joins strE w 9 A [y] (some pv) (some (.slice (some ⟨gs, 0, none⟩) 1 1)) (some vz) w2 := hw2
      have HG := Lib.hid HG
      clear hw2 hF hFC
      go_wp2
      exact HR.out _ _ ⟨vz, rfl, by rw [HZ.out]; exact HG.out.2.2, HG.out.1⟩
  · have HZ := Lib.hid (path_low l i (by omega))
    have hn2 : (l.length : Int) < 2 := by omega
    clear ih hi hb h2 hr hw
    go_enter Try.func18, Try.ntmps18
    go_wp2
    exact HR.out _ _ ⟨_, rfl, by rw [HZ.out]; exact Row.nil _ _ _, Below.refl _ _⟩
end Go.Proofs.Ytophfeapmmfppaa
