/- Texts that the claim rests on, part 9: ModNewest, RNewest, RLow. -/
import Derived.Test.YtnkiokaeooopgaaGreatM8
/- Versions from behind, the newest one: of the program's model. -/
set_option maxRecDepth 100000
namespace Ks
open Go Go.RowKit
def zeroVer : VerD := (0, 0, ⟨#[]⟩)
/-- the newest one of the last k -/
def lastN (l : List VerD) (lba fr up : Int) (k : Nat) : Option VerD := newestN (l.drop (l.length - k)) lba fr up
theorem lastN_zero (l : List VerD) (lba fr up : Int) : lastN l lba fr up 0 = none := by simp [lastN, newestN]
theorem lastN_all (l : List VerD) (lba fr up : Int) : lastN l lba fr up l.length = newestN l lba fr up := by simp [lastN]
theorem lastN_step (l : List VerD) (lba fr up : Int) (k : Nat) (x : VerD) (hk : k < l.length) (h : l[l.length - 1 - k]? = some x) : lastN l lba fr up (k + 1) = stepV lba fr up x (lastN l lba fr up k) := by
  unfold lastN
  have h1 : l.drop (l.length - (k + 1)) = x :: l.drop (l.length - k) := by
    obtain ⟨h2, h3⟩ := List.getElem?_eq_some_iff.1 h
    rw [show l.length - (k + 1) = l.length - 1 - k by omega, List.drop_eq_getElem_cons h2, h3, show l.length - 1 - k + 1 = l.length - k by omega]
  rw [h1]; rfl
end Ks
namespace Go.Proofs.YtnkiokaeooopgaaGreat
open Go.RowKit Ks Go.Maps
set_option linter.unusedVariables false
set_option linter.unusedSimpArgs false
attribute [local go_sem] Oper.semAt_some
abbrev verC (x : VerD) : Array Value := #[.int .i64 x.1, .int .i64 x.2.1, .string x.2.2]
theorem ver_one (a b : Int) (s : ByteArray) : (#[.int .i64 a, .int .i64 b, .string s] : Array Value).all (fun v => v.oneCell') = true := by simp [Value.oneCell']
/-- where the search stands behind k versions -/
structure NewI (w : World) (n : Nat) (l : List VerD) (lb fr up : Int) (k : Nat) (W : World) : Prop where
  b : Below w.heap.size w W
  blb : W.heap[w.heap.size]? = some (.cells #[.int .i64 lb] 3 (0, 0))
  bfr : W.heap[w.heap.size + 1]? = some (.cells #[.int .i64 fr] 3 (0, 0))
  bup : W.heap[w.heap.size + 2]? = some (.cells #[.int .i64 up] 3 (0, 0))
  res : W.heap[w.heap.size + 3]? = some (.cells (verC zeroVer) 89 (0, 0))
  best : W.heap[w.heap.size + 4]? = some (.cells (verC ((lastN l lb fr up k).getD zeroVer)) 89 (0, 0))
  any : W.heap[w.heap.size + 5]? = some (.cells #[.bool (lastN l lb fr up k).isSome] 4 (0, 0))
  box : W.heap[w.heap.size + 6]? = some (.cells #[.pointer (some ⟨n, 0, none⟩)] 27 (0, 0))
theorem NewI.own (w : World) (n : Nat) (l : List VerD) (lb fr up : Int) (B : Nat) (hB : w.heap.size ≤ B) : OwnFrom B (NewI w n l lb fr up) := fun s W W' row hs hg hr => by
  have k : ∀ {b : Nat} {o : Obj}, W.heap[b]? = some o → o.isCells = true → W'.heap[b]? = some o := fun h ho => (grownBy_keeps_cells hg (fun r e => (hr r e).2) h ho).trans h
  exact ⟨ownFrom_below (β := Nat) (Nat.le_refl _) hB s W W' row hs.b hg hr, k hs.blb rfl, k hs.bfr rfl, k hs.bup rfl, k hs.res rfl, k hs.best rfl, k hs.any rfl, k hs.box rfl⟩
theorem NewI.on {w W W' : World} {n : Nat} {l : List VerD} {lb fr up : Int} {k : Nat} (h : NewI w n l lb fr up k W) (hb : Below W.heap.size W W') : NewI w n l lb fr up k W' :=
  ⟨h.b.trans (hb.mono h.b.size), blk_on hb h.blb, blk_on hb h.bfr, blk_on hb h.bup, blk_on hb h.res, blk_on hb h.best, blk_on hb h.any, blk_on hb h.box⟩
theorem NewI.miss {w W : World} {n : Nat} {l : List VerD} {lb fr up : Int} {k : Nat} (h : NewI w n l lb fr up k W) (e : lastN l lb fr up (k + 1) = lastN l lb fr up k) : NewI w n l lb fr up (k + 1) W :=
  ⟨h.b, h.blb, h.bfr, h.bup, h.res, by rw [e]; exact h.best, by rw [e]; exact h.any, h.box⟩
theorem NewI.hit {w W : World} {n : Nat} {l : List VerD} {lb fr up : Int} {k : Nat} {x : VerD} (h : NewI w n l lb fr up k W) (e : lastN l lb fr up (k + 1) = some x) :
    NewI w n l lb fr up (k + 1) ((((W.setCell ⟨w.heap.size + 4, 0, none⟩ (.int .i64 x.1)).setCell ⟨w.heap.size + 4, 1, none⟩ (.int .i64 x.2.1)).setCell ⟨w.heap.size + 4, 2, none⟩ (.string x.2.2)).setCell ⟨w.heap.size + 5, 0, none⟩ (.bool true)) := by
  have far : ∀ {b : Nat} {o : Obj}, b ≠ w.heap.size + 4 → b ≠ w.heap.size + 5 → W.heap[b]? = some o → ((((W.setCell ⟨w.heap.size + 4, 0, none⟩ (.int .i64 x.1)).setCell ⟨w.heap.size + 4, 1, none⟩ (.int .i64 x.2.1)).setCell ⟨w.heap.size + 4, 2, none⟩ (.string x.2.2)).setCell ⟨w.heap.size + 5, 0, none⟩ (.bool true)).heap[b]? = some o := fun h4 h5 h =>
    (set_ne _ h5).trans ((set_ne _ h4).trans ((set_ne _ h4).trans ((set_ne _ h4).trans h)))
  refine ⟨?_, far (by omega) (by omega) h.blb, far (by omega) (by omega) h.bfr, far (by omega) (by omega) h.bup, far (by omega) (by omega) h.res, ?_, ?_, far (by omega) (by omega) h.box⟩
  · exact (((h.b.setCell (p := ⟨_, _, none⟩) (by simp) _).setCell (p := ⟨_, _, none⟩) (by simp) _).setCell (p := ⟨_, _, none⟩) (by simp) _).setCell (p := ⟨_, _, none⟩) (by simp) _
  · rw [e]
    exact (set_ne _ (by omega)).trans (set_blk (set_blk (set_blk h.best 0 _) 1 _) 2 _)
  · rw [e]
    exact set_blk ((set_ne _ (by omega)).trans ((set_ne _ (by omega)).trans ((set_ne _ (by omega)).trans h.any))) 0 _
theorem mback_any (n : Nat) (w : World) : Calls Tryz.prog 63 #[.pointer (some ⟨n, 0, none⟩)] w fun e w' => e = .returned (.func (.func 85) #[] #[.pointer (some ⟨w.heap.size, 0, none⟩)]) ∧ w' = w.alloc (.cells #[.pointer (some ⟨n, 0, none⟩)] 27) := by
  refine calls_by fun R HR => ?_
  go_enter Tryz.func63, Tryz.ntmps63
  go_wp2
  exact HR.out _ _ ⟨rfl, rfl⟩
set_option maxRecDepth 100000 in
set_option maxHeartbeats 4000000 in
theorem mback_iter (k0 bx n : Nat) (va : Option Addr) (vc : Nat) (l : List VerD) (I : Nat → World → Prop) (w : World) (hl : l.length ≤ 1000000)
    (hI : ∀ k A, I k A → A.cell? ⟨bx, 0, none⟩ = some (.pointer (some ⟨n, 0, none⟩)) ∧ A.cell? ⟨n, 7, none⟩ = some (.slice va l.length vc) ∧ Rd verD A (.slice va l.length vc) l) :
    IterAll Fence.wide k0 Tryz.prog 85 #[.pointer (some ⟨bx, 0, none⟩)] (fun x : VerD => #[.agg #[.int .i64 x.1, .int .i64 x.2.1, .string x.2.2]]) I (fun k x => k < l.length ∧ l[l.length - 1 - k]? = some x) (fun k _ k' => k' = k + 1) (fun _ _ => False) 0 (fun k => k = l.length) w := by
  intro lp J Jx W hW hJI hJB hY hS h0
  have HI := Lib.hid (fun k A (h : J k A) => hI k A (hJI k A h))
  have HYd := Lib.hid hY
  have H0 := Lib.hid h0
  have HL := Lib.hid hl
  have hll : (l.length : Int) ≤ 1000000 := by omega
  clear hJI hJB hY hS h0 hI hl
  obtain ⟨b0, b1, -⟩ := HI.out 0 W H0.out
  have hw1 : wrap64 ((l.length : Int) - 1) = (l.length : Int) - 1 := by unfold wrap64; omega
  refine callsIn_of_wp Tryz.func85 rfl trivial ?_ rfl
  simp only [Tryz.ntmps85, List.size_toArray, List.length_cons, List.length_nil, Nat.reduceAdd, Nat.reduceSub, Array.replicate_succ, Array.replicate_zero, List.push_toArray, List.append_toArray, List.nil_append, List.cons_append]
  gi_wp2
  gi_loopw [3] (fun v wr => ∃ (j : Nat), j ≤ l.length ∧ v = .int .i64 ((j : Int) - 1) ∧ Hid (J (l.length - j) wr)) (fun v _ => (intOf v + 1).toNat)
  case atStart => exact ⟨l.length, Nat.le_refl _, rfl, by rw [Nat.sub_self]; exact H0⟩
  case round =>
    obtain ⟨j, hj, rfl, hN⟩ := hrel
    obtain ⟨c0, c1, hr⟩ := HI.out _ wr hN.out
    cases j with
    | zero =>
      have hz : decide ((0 : Int) ≤ ((0 : Nat) : Int) - 1) = false := decide_eq_false (by omega)
      have hz2 : ¬ ((0 : Int) ≤ ((0 : Nat) : Int) - 1) := by omega
      clear hr
      gi_wp2
      go_end0
      exact ⟨⟨_, rfl⟩, Or.inl (by first | exact hN.out | exact ⟨l.length, rfl, hN.out⟩)⟩
    | succ i =>
      have hN2 : Hid (J (l.length - 1 - i) wr) := Lib.hid (by have := hN.out; rwa [show l.length - (i + 1) = l.length - 1 - i by omega] at this)
      clear hN
      have e0 : (((i + 1 : Nat) : Int) - 1) = (i : Int) := by omega
      rw [e0]
      have hlt : i < l.length := by omega
      have hki : (i : Int) < (l.length : Int) := by omega
      obtain ⟨x, hx⟩ : ∃ x, l[i]? = some x := ⟨_, List.getElem?_eq_getElem hlt⟩
      obtain ⟨b, o, ha, hb0, dd⟩ := hr.at i x hx
      cases ha
      have HX := Lib.hid (show l.length - 1 - i < l.length ∧ l[l.length - 1 - (l.length - 1 - i)]? = some x from ⟨by omega, by rw [show l.length - 1 - (l.length - 1 - i) = i by omega]; exact hx⟩)
      have HR3 := Lib.hid (HYd.out _ x wr hN2.out HX.out)
      obtain ⟨xl, xe, xt⟩ := x
      have d0 : wr.cell? ⟨b, o + i * 3, none⟩ = some (.int .i64 xl) := dd 0 _ rfl
      have d1 : wr.cell? ⟨b, o + i * 3 + 1, none⟩ = some (.int .i64 xe) := dd 1 _ rfl
      have d2 : wr.cell? ⟨b, o + i * 3 + 2, none⟩ = some (.string xt) := dd 2 _ rfl
      obtain ⟨fn, tmps, assign, body, hy, hR⟩ := HR3.out
      dsimp only at hy
      have HR4 := Lib.hid hR
      have hw2 : wrap64 ((i : Int) - 1) = (i : Int) - 1 := by unfold wrap64; omega
      clear dd hx hb0 hr HR3 hR
      gi_wp2
      refine ⟨(fun e => by cases e), HR4.out.mono ?_⟩
      rintro e W3 (⟨rfl, s', rfl, hJ3⟩ | ⟨rfl, hJ3⟩)
      · have H3 := Lib.hid hJ3
        clear hJ3
        gi_wp2
        go_roundw
        case rel => exact ⟨i, by omega, rfl, Lib.hid (by have := H3.out; rwa [show l.length - 1 - i + 1 = l.length - i by omega] at this)⟩
        case measure => simp [intOf]
      · have H3 := Lib.hid hJ3
        clear hJ3
        gi_wp2
        exact bodyPost_ret (results_none rfl _ _ _) rfl ⟨⟨_, rfl⟩, Or.inr H3.out⟩
set_option maxRecDepth 100000 in
set_option maxHeartbeats 8000000 in
theorem mnewest_any {n cc bn c mu mh mg : Nat} {rv vv : Value} {m : ModT} (lb fr up : Int) (w : World) (h : ModAt w n cc bn c mu mh mg rv vv m) (hl : m.vers.length ≤ 1000000) :
    Calls Tryz.prog 43 #[.pointer (some ⟨n, 0, none⟩), .int .i64 lb, .int .i64 fr, .int .i64 up] w fun e w' =>
      e = .returned (.tuple #[.agg #[.int .i64 ((newestN m.vers lb fr up).getD zeroVer).1, .int .i64 ((newestN m.vers lb fr up).getD zeroVer).2.1, .string ((newestN m.vers lb fr up).getD zeroVer).2.2], .bool (newestN m.vers lb fr up).isSome]) ∧ Below w.heap.size w w' := by
  have HD := Lib.hid h
  have HL := Lib.hid hl
  obtain ⟨va, vc, hvs, -⟩ := h.vers.shape
  subst hvs
  have HQ := Lib.hid (lastN_all m.vers lb fr up)
  have HQ0 := Lib.hid (lastN_zero m.vers lb fr up)
  have HQS := Lib.hid (lastN_step m.vers lb fr up)
  clear h hl
  obtain ⟨W1, hW1⟩ : ∃ W, w.alloc (.cells #[.int .i64 lb] 3) = W := ⟨_, rfl⟩
  have b1 : Below w.heap.size w W1 := by rw [← hW1]; exact alloc_below _ _
  have n1 : W1.heap[w.heap.size]? = some (.cells #[.int .i64 lb] 3 (0, 0)) := by rw [← hW1]; exact alloc_new _ _
  have s1 : W1.heap.size = w.heap.size + 1 := by rw [← hW1]; simp
  obtain ⟨W2, hW2⟩ : ∃ W, W1.alloc (.cells #[.int .i64 fr] 3) = W := ⟨_, rfl⟩
  have b2 : Below W1.heap.size W1 W2 := by rw [← hW2]; exact alloc_below _ _
  have n2 : W2.heap[W1.heap.size]? = some (.cells #[.int .i64 fr] 3 (0, 0)) := by rw [← hW2]; exact alloc_new _ _
  have s2 : W2.heap.size = w.heap.size + 2 := by rw [← hW2]; simp [s1]
  obtain ⟨W3, hW3⟩ : ∃ W, W2.alloc (.cells #[.int .i64 up] 3) = W := ⟨_, rfl⟩
  have b3 : Below W2.heap.size W2 W3 := by rw [← hW3]; exact alloc_below _ _
  have n3 : W3.heap[W2.heap.size]? = some (.cells #[.int .i64 up] 3 (0, 0)) := by rw [← hW3]; exact alloc_new _ _
  have s3 : W3.heap.size = w.heap.size + 3 := by rw [← hW3]; simp [s2]
  obtain ⟨W4, hW4⟩ : ∃ W, W3.alloc (.cells #[.int .i64 0, .int .i64 0, .string ⟨#[]⟩] 89) = W := ⟨_, rfl⟩
  have b4 : Below W3.heap.size W3 W4 := by rw [← hW4]; exact alloc_below _ _
  have n4 : W4.heap[W3.heap.size]? = some (.cells #[.int .i64 0, .int .i64 0, .string ⟨#[]⟩] 89 (0, 0)) := by rw [← hW4]; exact alloc_new _ _
  have s4 : W4.heap.size = w.heap.size + 4 := by rw [← hW4]; simp [s3]
  obtain ⟨W5, hW5⟩ : ∃ W, W4.alloc (.cells #[.int .i64 0, .int .i64 0, .string ⟨#[]⟩] 89) = W := ⟨_, rfl⟩
  have b5 : Below W4.heap.size W4 W5 := by rw [← hW5]; exact alloc_below _ _
  have n5 : W5.heap[W4.heap.size]? = some (.cells #[.int .i64 0, .int .i64 0, .string ⟨#[]⟩] 89 (0, 0)) := by rw [← hW5]; exact alloc_new _ _
  have s5 : W5.heap.size = w.heap.size + 5 := by rw [← hW5]; simp [s4]
  obtain ⟨W6, hW6⟩ : ∃ W, W5.alloc (.cells #[.bool false] 4) = W := ⟨_, rfl⟩
  have b6 : Below W5.heap.size W5 W6 := by rw [← hW6]; exact alloc_below _ _
  have n6 : W6.heap[W5.heap.size]? = some (.cells #[.bool false] 4 (0, 0)) := by rw [← hW6]; exact alloc_new _ _
  have s6 : W6.heap.size = w.heap.size + 6 := by rw [← hW6]; simp [s5]
  obtain ⟨W7, hW7⟩ : ∃ W, W6.alloc (.cells #[.pointer (some ⟨n, 0, none⟩)] 27) = W := ⟨_, rfl⟩
  have b7 : Below W6.heap.size W6 W7 := by rw [← hW7]; exact alloc_below _ _
  have n7 : W7.heap[W6.heap.size]? = some (.cells #[.pointer (some ⟨n, 0, none⟩)] 27 (0, 0)) := by rw [← hW7]; exact alloc_new _ _
  have s7 : W7.heap.size = w.heap.size + 7 := by rw [← hW7]; simp [s6]
  rw [s1] at n2
  rw [s2] at n3
  rw [s3] at n4
  rw [s4] at n5
  rw [s5] at n6
  rw [s6] at n7
  replace n1 := blk_on b2 n1
  replace n1 := blk_on b3 n1
  replace n1 := blk_on b4 n1
  replace n1 := blk_on b5 n1
  replace n1 := blk_on b6 n1
  replace n1 := blk_on b7 n1
  replace n2 := blk_on b3 n2
  replace n2 := blk_on b4 n2
  replace n2 := blk_on b5 n2
  replace n2 := blk_on b6 n2
  replace n2 := blk_on b7 n2
  replace n3 := blk_on b4 n3
  replace n3 := blk_on b5 n3
  replace n3 := blk_on b6 n3
  replace n3 := blk_on b7 n3
  replace n4 := blk_on b5 n4
  replace n4 := blk_on b6 n4
  replace n4 := blk_on b7 n4
  replace n5 := blk_on b6 n5
  replace n5 := blk_on b7 n5
  replace n6 := blk_on b7 n6
  have B2 := b1.trans (b2.mono b1.size)
  have B3 := B2.trans (b3.mono B2.size)
  have B4 := B3.trans (b4.mono B3.size)
  have B5 := B4.trans (b5.mono B4.size)
  have B6 := B5.trans (b6.mono B5.size)
  have B7 := B6.trans (b7.mono B6.size)
  have H0 := Lib.hid (And.intro B7 (And.intro n1 (And.intro n2 (And.intro n3 (And.intro n4 (And.intro n5 (And.intro n6 n7)))))))
  have HS := Lib.hid (And.intro s6 s7)
  have E5 := Lib.hid (And.intro hW5 (And.intro hW6 hW7))
  clear hW5 hW6 hW7 s5 s6 s7
  clear b1 b2 b3 b4 b5 b6 b7 B2 B3 B4 B5 B6 B7 n1 n2 n3 n4 n5 n6 n7
  refine (callsIn_wide (n := 5)).1 ?_
  refine callsIn_of_wp_marks Tryz.func43 rfl trivial ?_ rfl
  simp only [Tryz.ntmps43, List.size_toArray, List.length_cons, List.length_nil, Nat.reduceAdd, Nat.reduceSub, Array.replicate_succ, Array.replicate_zero, List.push_toArray, List.append_toArray, List.nil_append, List.cons_append]
  gi_wp2
  rw [E5.out.1, E5.out.2.1]
  refine ⟨trivial, (callsIn_wide.2 (mback_any n _)).mono ?_⟩
  rintro e v7 ⟨rfl, hv7⟩
  rw [hv7, E5.out.2.2]
  clear hv7
  gi_wp2
  have HN := Lib.hid (show NewI w n m.vers lb fr up 0 W7 from ⟨H0.out.1, H0.out.2.1, H0.out.2.2.1, H0.out.2.2.2.1, H0.out.2.2.2.2.1, by rw [HQ0.out]; exact H0.out.2.2.2.2.2.1, by rw [HQ0.out]; exact H0.out.2.2.2.2.2.2.1, H0.out.2.2.2.2.2.2.2⟩)
  have HZ := Lib.hid (show w.heap.size ≤ W7.heap.size from H0.out.1.size)
  rw [HS.out.1]
  refine wpIn_range_gen (σ := Nat) (α := VerD) rfl (by omega) (gf := 85) (lb := #[.pointer (some ⟨w.heap.size + 6, 0, none⟩)]) rfl trivial (enters_of Tryz.func85 (by kernel_rfl) rfl)
    (NewI w n m.vers lb fr up) (fun _ _ => False)
    (mback_iter _ (w.heap.size + 6) n va vc m.vers _ _ HL.out fun k A hk => ⟨by rw [cell_of_row _ _ _ _ _ _ hk.box]; rfl, by rw [cell_of_row _ _ _ _ _ _ (HD.out.below hk.b).blk]; rfl, (HD.out.below hk.b).vers.rd⟩) (fun _ => rfl)
    (NewI.own w n m.vers lb fr up _ HZ.out) (fun _ _ _ _ h => h.elim) (fun s A B h _ hb => h.on hb) (fun _ _ _ _ h => h.elim) HN.out
    (fun x b => { tmps := #[.pointer (some ⟨n, 0, none⟩), .int .i64 lb, .int .i64 fr, .int .i64 up, undef, .pointer (some ⟨w.heap.size, 0, none⟩), .pointer (some ⟨w.heap.size + 1, 0, none⟩), .pointer (some ⟨w.heap.size + 2, 0, none⟩), .pointer (some ⟨w.heap.size + 3, 0, none⟩), .bool false, .pointer (some ⟨w.heap.size + 4, 0, none⟩), .pointer (some ⟨w.heap.size + 4 + 1, 0, none⟩), .pointer (some ⟨b, 0, none⟩), .agg #[.int .i64 0, .int .i64 0, .string ⟨#[]⟩], .pointer (some ⟨n, 0, none⟩), .func (.func 85) #[] #[.pointer (some ⟨w.heap.size + 6, 0, none⟩)], .agg (verC x), undef, undef, undef, undef, undef, undef, undef, undef, undef, undef, undef, undef, undef, undef, undef, undef, undef, undef, undef, undef, undef, undef, undef, undef, undef, undef, undef, undef, undef, undef], defers := [] })
    (fun x W => W.alloc (.cells (verC x) 89)) (fun p W => W.heap[p.2]? = some (.cells (verC p.1) 89 (0, 0))) (fun p W W' row hs hg hr => (grownBy_keeps_cells hg (fun r e => (hr r e).2) hs rfl).trans hs) (fun x W => ⟨alloc_below _ _, alloc_new _ _⟩)
    ?assign ?body ?done (fun _ _ _ _ h => h.elim)
  case assign =>
    rintro lp ⟨xl, xe, xt⟩ W K hK
    gi_wp2
    exact hK
  case body =>
    rintro lp k ⟨xl, xe, xt⟩ b W hb hbW hI ⟨hk, hx⟩ hN9
    have HI := Lib.hid hI
    have HX := Lib.hid (HQS.out k _ hk hx)
    have HX9 := Lib.hid hN9
    clear hk hx hN9 hI
    obtain ⟨p0, q0⟩ := blk1 HI.out.blb
    obtain ⟨p1, q1⟩ := blk1 HI.out.bfr
    obtain ⟨p2, q2⟩ := blk1 HI.out.bup
    obtain ⟨p3, p4, p5, q3, q4, q5⟩ := blk3 HI.out.best
    obtain ⟨p6, q6⟩ := blk1 HI.out.any
    obtain ⟨p7, p8, p9, -, -, -⟩ := blk3 HX9.out
    have HM := Lib.hid (fun e => NewI.miss HI.out (k := k) e)
    have HH := Lib.hid (fun e => NewI.hit (x := (xl, xe, xt)) HI.out (k := k) e)
    have HK1 : Hid (∀ v1 v2 v3 v4 : Value, KeepsFrom W7.heap.size W ((((W.setCell ⟨w.heap.size + 4, 0, none⟩ v1).setCell ⟨w.heap.size + 4, 1, none⟩ v2).setCell ⟨w.heap.size + 4, 2, none⟩ v3).setCell ⟨w.heap.size + 5, 0, none⟩ v4)) := Lib.hid fun v1 v2 v3 v4 => KeepsOthers.from ((((KeepsOthers.setCell _ _ _).trans (KeepsOthers.setCell _ _ _)).trans (KeepsOthers.setCell _ _ _)).trans (KeepsOthers.setCell _ _ _)) _
    clear HX9
    by_cases e1 : xl = lb
    case neg =>
      have e1b : (xl == lb) = false := by simpa using e1
      have HE := Lib.hid (show lastN m.vers lb fr up (k + 1) = lastN m.vers lb fr up k by rw [HX.out, stepV, if_neg]; simp [hitB, e1])
      clear HI
      gi_wp2
      exact ⟨KeepsFrom.refl _ _, k + 1, rfl, HM.out HE.out⟩
    obtain rfl : lb = xl := e1.symm
    clear e1
    by_cases e2 : fr ≤ xe
    case neg =>
      have e2b : decide (fr ≤ xe) = false := decide_eq_false e2
      have HE := Lib.hid (show lastN m.vers lb fr up (k + 1) = lastN m.vers lb fr up k by rw [HX.out, stepV, if_neg]; simp [hitB, e2])
      clear HI
      gi_wp2
      exact ⟨KeepsFrom.refl _ _, k + 1, rfl, HM.out HE.out⟩
    have e2b : decide (fr ≤ xe) = true := decide_eq_true e2
    by_cases e3 : xe ≤ up
    case neg =>
      have e3b : decide (xe ≤ up) = false := decide_eq_false e3
      have HE := Lib.hid (show lastN m.vers lb fr up (k + 1) = lastN m.vers lb fr up k by rw [HX.out, stepV, if_neg]; simp [hitB, e3])
      clear HI
      gi_wp2
      exact ⟨KeepsFrom.refl _ _, k + 1, rfl, HM.out HE.out⟩
    have e3b : decide (xe ≤ up) = true := decide_eq_true e3
    have hit : hitB (lb, xe, xt) lb fr up = true := by simp [hitB, e2, e3]
    rw [stepV, if_pos hit] at HX
    cases hob : lastN m.vers lb fr up k with
    | none =>
      rw [hob] at HX p6
      have HE := Lib.hid (show lastN m.vers lb fr up (k + 1) = some (lb, xe, xt) from HX.out)
      simp only [Option.isSome] at p6
      clear HI hob
      gi_wp2
      exact ⟨HK1.out _ _ _ _, k + 1, rfl, HH.out HE.out⟩
    | some u =>
      obtain ⟨ul, ue, ut⟩ := u
      rw [hob] at HX p6 p3 p4 p5
      simp only [Option.isSome, Option.getD] at p6 p3 p4 p5
      by_cases e4 : ue < xe
      · have HE := Lib.hid (show lastN m.vers lb fr up (k + 1) = some (lb, xe, xt) by rw [HX.out]; exact if_pos e4)
        clear HI hob
        gi_wp2
        exact ⟨HK1.out _ _ _ _, k + 1, rfl, HH.out HE.out⟩
      · have HE := Lib.hid (show lastN m.vers lb fr up (k + 1) = lastN m.vers lb fr up k by rw [HX.out, hob]; exact if_neg e4)
        clear HI hob
        gi_wp2
        exact ⟨KeepsFrom.refl _ _, k + 1, rfl, HM.out HE.out⟩
  case done =>
    rintro D k W hD rfl hI hK
    have HI := Lib.hid hI
    have HD9 := Lib.hid (And.intro hD hK)
    obtain ⟨p3, p4, p5, -, -, -⟩ := blk3 HI.out.best
    obtain ⟨p6, -⟩ := blk1 HI.out.any
    have hbest := HI.out.best
    have hany := HI.out.any
    rw [HQ.out] at hbest hany
    have HB9 := Lib.hid (And.intro hbest hany)
    clear hI hK hD p3 p4 p5 p6 hbest hany
    obtain ⟨V, hV⟩ : ∃ V, (newestN m.vers lb fr up).getD zeroVer = V := ⟨_, rfl⟩
    obtain ⟨S0, hS0⟩ : ∃ V, (newestN m.vers lb fr up).isSome = V := ⟨_, rfl⟩
    have HVS := Lib.hid (And.intro hV hS0)
    simp only [hV, hS0] at HB9
    clear hV hS0
    gi_wp2
    refine wpIn_wide.2 ?_
    refine wp_region_mv (fun f W' => RetCls w.heap.size w (w.heap.size + 4) (.cells (verC V) 89 (0, 0)) (w.heap.size + 5) (.cells #[.bool S0] 4 (0, 0)) (w.heap.size + 3) (verC zeroVer) (verC V) 89 (f 2) W' ∧ W'.heap[D]? = some (.deferred (some []))) (by kernel_rfl) ⟨RetCls.start HI.out.b HI.out.b.size HB9.out.1 HB9.out.2 HI.out.res, ((drew_below W).block _ (lt_of_block HD9.out.2)).trans HD9.out.2⟩ ?_
    obtain ⟨S, F, hF, hFC⟩ := moved_class (fun f W' => RetCls w.heap.size w (w.heap.size + 4) (.cells (verC V) 89 (0, 0)) (w.heap.size + 5) (.cells #[.bool S0] 4 (0, 0)) (w.heap.size + 3) (verC zeroVer) (verC V) 89 (f 2) W' ∧ W'.heap[D]? = some (.deferred (some [])))
    have k0 : ∀ s, (F s).cell? ⟨w.heap.size + 4, 0, none⟩ = some (.int .i64 V.1) := fun s => by
      obtain ⟨f, hf⟩ := hFC s
      exact (blk3 hf.1.x).1
    have k1 : ∀ s, (F s).cell? ⟨w.heap.size + 4, 1, none⟩ = some (.int .i64 V.2.1) := fun s => by
      obtain ⟨f, hf⟩ := hFC s
      exact (blk3 hf.1.x).2.1
    have k2 : ∀ s, (F s).cell? ⟨w.heap.size + 4, 2, none⟩ = some (.string V.2.2) := fun s => by
      obtain ⟨f, hf⟩ := hFC s
      exact (blk3 hf.1.x).2.2.1
    have ko : ∀ s, (F s).cell? ⟨w.heap.size + 5, 0, none⟩ = some (.bool S0) := fun s => by
      obtain ⟨f, hf⟩ := hFC s
      exact (blk1 hf.1.o).1
    show wpAnyM _ _ _ _ _ 4 (Array.replicate 4 false) _ _
    refine mv_read 0 hF (fun _ _ _ h => h) rfl (by kernel_rfl) (by kernel_rfl) (by kernel_rfl) (fun K hK => ?_)
    go_simp
    first | refine ⟨_, fun _ => rfl, hK _ _ ?_⟩ | refine hK _ _ ?_
    clear hK K
    refine mv_read 1 hF (fun _ _ _ h => h) rfl (by kernel_rfl) (by kernel_rfl) (by kernel_rfl) (fun K hK => ?_)
    go_simp
    first | refine ⟨_, fun _ => rfl, hK _ _ ?_⟩ | refine hK _ _ ?_
    clear hK K
    refine mv_store_blk 2 rfl (by kernel_rfl) rfl 89 (.tmp 8) (.tmp 45) rfl (w.heap.size + 3) 0 (verC V) rfl rfl (by kernel_rfl) (ver_one _ _ _) (fun g w9 ha h0 h => ?_) ?_
    · have h9 := h
      rw [h0] at h9
      refine ⟨verC zeroVer, 89, h9.1.z, Nat.le_refl 3, ?_⟩
      rw [splice_all (verC zeroVer) (verC V) rfl]
      show RetCls _ _ _ _ _ _ _ _ _ _ (upd g 2 undef 2) _ ∧ _
      rw [upd_self]
      exact ⟨h9.1.stored (by omega) (by omega) (by omega), (setRow_other _ _ _ _ (by have := HD9.out.1; have := HS.out; omega)).trans h9.2⟩
    refine mv_read 3 hF (fun _ _ _ h => h) rfl (by kernel_rfl) (by kernel_rfl) (by kernel_rfl) (fun K hK => ?_)
    go_simp
    first | refine ⟨_, fun _ => rfl, hK _ _ ?_⟩ | refine hK _ _ ?_
    clear hK K
    refine mv_end (by kernel_rfl) ?_
    intro y2 hy2
    have KY := Lib.hid (show y2.heap[w.heap.size + 3]? = some (.cells (verC V) 89 (0, 0)) from hy2.1.z)
    have BY := Lib.hid hy2.1.b
    have HK9 := Lib.hid hy2.2
    clear hy2 hF hFC k0 k1 k2 ko
    have KZ := Lib.hid (show (y2.putObj D (.deferred none)).heap[w.heap.size + 3]? = some (.cells (verC V) 89 (0, 0)) from (World.putObj_heap_other (by have := HD9.out.1; have := HS.out; omega)).trans KY.out)
    have BZ := Lib.hid (BY.out.trans (belowK_b (w := w) (Nat.le_refl _) y2 D _ (.deferred none) (by have := HD9.out.1; have := HZ.out; omega) HK9.out rfl rfl))
    obtain ⟨z0, z1, z2, -, -, -⟩ := blk3 KZ.out
    gi_wp2
    refine ⟨by simp, .inl ⟨_, _, rfl, run_takeDeferred HK9.out, ?_⟩⟩
    exact ⟨.tuple #[.agg (verC V), .bool S0], by simp [results, Tryz.results43, go_sem, z0, z1, z2], by rw [HVS.out.1, HVS.out.2], BZ.out⟩
end Go.Proofs.YtnkiokaeooopgaaGreat
/- The document's model: the newest version of a place, how many places have one, what room is left. -/
set_option maxRecDepth 100000
namespace Ks
open Go Go.RowKit
theorem newestR_take (lba fr up : Int) (l : List VerD) (k : Nat) (v : VerD) (h : l[k]? = some v) : newestR (l.take (k + 1)) lba fr up = if hitB v lba fr up = true ∧ (newestR (l.take k) lba fr up = none ∨ ((newestR (l.take k) lba fr up).map fun u => u.2.1).getD 0 ≤ v.2.1) then some v else newestR (l.take k) lba fr up := by
  rw [newestR, List.take_add_one, h, List.foldl_append]; rfl
theorem placesR_succ (l : List VerD) (fr : Int) (n : Nat) : placesR l fr (n + 1) = placesR l fr n + if (newestR l n fr 4294967295).isSome then 1 else 0 := by
  unfold placesR
  rw [List.range_succ, List.filter_append, List.length_append]
  simp only [List.filter_cons, List.filter_nil]
  split <;> rfl
theorem placesR_le (l : List VerD) (fr : Int) (n : Nat) : placesR l fr n ≤ n := by
  unfold placesR
  exact Nat.le_trans (List.length_filter_le _ _) (by simp)
end Ks
namespace Go.Proofs.YtnkiokaeooopgaaGreat
open Go.RowKit Ks
set_option linter.unusedVariables false
set_option linter.unusedSimpArgs false
abbrev verX (v : VerD) : Array Value := #[.int .i64 v.1, .int .i64 v.2.1, .string v.2.2]
def verZ : VerD := (0, 0, ⟨#[]⟩)
theorem verx_one (a b : Int) (s : ByteArray) : (#[.int .i64 a, .int .i64 b, .string s] : Array Value).all (·.oneCell') = true := by simp [Value.oneCell']
set_option maxRecDepth 100000 in
set_option maxHeartbeats 8000000 in
theorem rnewest_any {n : Nat} {rv vv : Value} {m : ModT} (lba fr up : Int) (w : World) (h : RMd w n rv vv m) (hl : m.vers.length ≤ 100000) : Calls Tryz.prog 34 #[.pointer (some ⟨n, 0, none⟩), .int .i64 lba, .int .i64 fr, .int .i64 up] w fun e w' =>
    e = .returned (.tuple #[.agg (verX ((newestR m.vers lba fr up).getD verZ)), .bool (newestR m.vers lba fr up).isSome]) ∧ Below w.heap.size w w' := by
  refine calls_by fun R HR => ?_
  have HD := Lib.hid h
  have HU := Lib.hid hl
  obtain ⟨va, vcp, hvs, -⟩ := h.vers.rd.shape
  subst hvs
  clear h hl
  have H1 := Lib.hid (And.intro (Below.refl w.heap.size w) (HD.out))
  obtain ⟨W1, hW1⟩ : ∃ W1, w.alloc (.cells #[.int .i64 0, .int .i64 0, .string ⟨#[]⟩] 76) = W1 := ⟨_, rfl⟩
  have hbW1 : Below w.heap.size w W1 := by rw [← hW1]; exact alloc_below w _
  have kW1 : W1.heap[w.heap.size]? = some (.cells #[.int .i64 0, .int .i64 0, .string ⟨#[]⟩] 76 (0, 0)) := by rw [← hW1]; exact alloc_new w _
  have EW1 := Lib.hid hW1
  have H2 := Lib.hid (And.intro (H1.out.1.trans (hbW1.mono H1.out.1.size)) (And.intro (H1.out.2.below hbW1) (kW1)))
  clear hbW1 kW1 hW1
  obtain ⟨W2, hW2⟩ : ∃ W2, W1.alloc (.cells #[.int .i64 0, .int .i64 0, .string ⟨#[]⟩] 76) = W2 := ⟨_, rfl⟩
  have hbW2 : Below W1.heap.size W1 W2 := by rw [← hW2]; exact alloc_below W1 _
  have kW2 : W2.heap[W1.heap.size]? = some (.cells #[.int .i64 0, .int .i64 0, .string ⟨#[]⟩] 76 (0, 0)) := by rw [← hW2]; exact alloc_new W1 _
  have EW2 := Lib.hid hW2
  have H3 := Lib.hid (And.intro (H2.out.1.trans (hbW2.mono H2.out.1.size)) (And.intro (H2.out.2.1.below hbW2) (And.intro (blk_on hbW2 H2.out.2.2) (kW2))))
  clear hbW2 kW2 hW2
  have HN1 := Lib.hid (show W1.heap.size = w.heap.size + 1 by rw [← EW1.out]; simp)
  have HN2 := Lib.hid (show W2.heap.size = w.heap.size + 2 by rw [← EW2.out]; simp [HN1.out])
  go_enter Tryz.func34, Tryz.ntmps34
  go_upto_region 2 with fail
  try rw [EW1.out]
  try rw [EW2.out]
  go_wp2_with fail
  go_loopw [11, 12] (fun s i wx => ∃ (k : Nat) (bo : Option VerD), k ≤ m.vers.length ∧ s = .bool bo.isSome ∧ i = .int .i64 (k : Int) ∧ Hid (Below w.heap.size w wx ∧ bo = newestR (m.vers.take k) lba fr up ∧ wx.heap[w.heap.size + 1]? = some (.cells (verX (bo.getD verZ)) 76 (0, 0)) ∧ wx.heap[w.heap.size]? = some (.cells #[.int .i64 0, .int .i64 0, .string ⟨#[]⟩] 76 (0, 0)))) (fun _ i _ => m.vers.length - (intOf i).toNat)
  case atStart => exact ⟨0, none, Nat.zero_le _, rfl, rfl, Lib.hid ⟨H3.out.1, rfl, by have h := H3.out.2.2.2; rw [HN1.out] at h; exact h, H3.out.2.2.1⟩⟩
  case round =>
    obtain ⟨k, bo, hk, rfl, rfl, hN⟩ := hrel
    obtain ⟨⟨z0, z1, z2, z3, z4, z5, z6, z7⟩, -⟩ := blkR (HD.out.below hN.out.1).blk
    by_cases hlt : k < m.vers.length
    case neg =>
      obtain rfl : k = m.vers.length := by omega
      have hki : ¬ (m.vers.length : Int) < (m.vers.length : Int) := by omega
      have hbo := hN.out.2.1
      rw [List.take_length] at hbo
      have HBO := Lib.hid hbo
      obtain ⟨b0, b1, b2, -, -, -⟩ := blk3 hN.out.2.2.1
      have HBK := Lib.hid hN.out
      clear hbo hN
      obtain ⟨WR, hWR⟩ : ∃ W, wr.setRow w.heap.size (verX (bo.getD verZ)) = W := ⟨_, rfl⟩
      have KE := Lib.hid (show WR.heap[w.heap.size]? = some (.cells (verX (bo.getD verZ)) 76 (0, 0)) by rw [← hWR]; exact setRow_heap _ _ _ _ _ _ HBK.out.2.2.2)
      have KB := Lib.hid (show Below w.heap.size w WR by rw [← hWR]; exact HBK.out.1.trans (below_setRow (Below.refl _ _) (Nat.le_refl _) _))
      have HNew := Lib.hid (show newestR m.vers lba fr up = bo from HBO.out.symm)
      skip
      go_wp2_with (refine wpList_store_blk rfl 76 (.tmp 8) (.tmp 81) rfl w.heap.size 0 3 rfl #[.int .i64 0, .int .i64 0, .string ⟨#[]⟩] (verX (bo.getD verZ)) (verX (bo.getD verZ)) rfl 76 HBK.out.2.2.2 rfl (Nat.le_refl 3) (by kernel_rfl) (verx_one _ _ _) (splice_all _ _ rfl) ?_; rw [hWR])
      obtain ⟨y0, y1, y2, -, -, -⟩ := blk3 KE.out
      go_wp2
      refine bodyPost_ret (v := .tuple #[.agg (verX (bo.getD verZ)), .bool bo.isSome]) (by simp [results, Tryz.results34, go_sem, y0, y1, y2]) rfl ?_
      exact HR.out _ _ ⟨by rw [HNew.out], KB.out⟩
    have hki : (k : Int) < (m.vers.length : Int) := by omega
    have HLT := Lib.hid hlt
    have hw64 : wrap64 ((k : Int) + 1) = ((k + 1 : Nat) : Int) := by have := HU.out; unfold wrap64; omega
    obtain ⟨x, hx⟩ : ∃ x, m.vers[k]? = some x := ⟨_, List.getElem?_eq_getElem hlt⟩
    obtain ⟨bb, oo, ha, hb0, dd⟩ := (HD.out.below hN.out.1).vers.rd.at k x hx
    cases ha
    have HT := Lib.hid (newestR_take lba fr up m.vers k x hx)
    obtain ⟨vl, ve, vd⟩ := x
    have d0 : wr.cell? ⟨bb, oo + k * 3, none⟩ = some (.int .i64 vl) := dd 0 _ rfl
    have d1 : wr.cell? ⟨bb, oo + k * 3 + 1, none⟩ = some (.int .i64 ve) := dd 1 _ rfl
    have d2 : wr.cell? ⟨bb, oo + k * 3 + 2, none⟩ = some (.string vd) := dd 2 _ rfl
    clear dd hx hb0 hlt
    rw [← hN.out.2.1] at HT
    obtain ⟨b0, b1, b2, -, -, -⟩ := blk3 hN.out.2.2.1
    have HH : Hid (hitB (vl, ve, vd) lba fr up = decide (vl = lba ∧ fr ≤ ve ∧ ve ≤ up)) := Lib.hid rfl
    go_upto_region 5 with fail
    by_cases c1 : vl = lba
    case neg =>
      have e1 : (vl == lba) = false := by simpa using c1
      have HNx := Lib.hid (show bo = newestR (m.vers.take (k + 1)) lba fr up by rw [HT.out, if_neg (fun q => by have h := q.1; rw [HH.out, decide_eq_true_eq] at h; exact c1 h.1)])
      have gz7 := fun p => after_cell z7 p
      have gd0 := fun p => after_cell d0 p
      have gd1 := fun p => after_cell d1 p
      have gd2 := fun p => after_cell d2 p
      have gb1 := fun p => after_cell b1 p
      refine wp_region_after (by kernel_rfl) (by kernel_rfl) ?_
      repeat (go_big_quiet_step (fail))
      refine wpQuiet_nil ?_
      rintro q1 ⟨p9, rfl⟩
      have hb := after_below wr p9
      have HM := Lib.hid (show Below w.heap.size w (After wr p9) ∧ (After wr p9).heap[w.heap.size + 1]? = some (.cells (verX (bo.getD verZ)) 76 (0, 0)) ∧ (After wr p9).heap[w.heap.size]? = some (.cells #[.int .i64 0, .int .i64 0, .string ⟨#[]⟩] 76 (0, 0)) from ⟨hN.out.1.trans (hb.mono hN.out.1.size), blk_on hb hN.out.2.2.1, blk_on hb hN.out.2.2.2⟩)
      have hz7 := (cell_on hb z7).1
      have hd0 := (cell_on hb d0).1
      have hd1 := (cell_on hb d1).1
      have hd2 := (cell_on hb d2).1
      generalize After wr p9 = q1 at *
      clear hb gz7 gd0 gd1 gd2 gb1 z7 d0 d1 d2 b0 b1 b2 z0 z1 z2 z3 z4 z5 z6
      go_wp2
      go_roundw
      case rel => exact ⟨k + 1, bo, by have := HLT.out; omega, by first | rfl | simp, by first | rw [hw64] | go_num, Lib.hid ⟨HM.out.1, HNx.out, HM.out.2.1, HM.out.2.2⟩⟩
      case measure => have := HLT.out; first | (rw [hw64]; simp [intOf]; omega) | (simp [intOf]; omega)
    have e1 : (vl == lba) = true := by simpa using c1
    by_cases c2 : fr ≤ ve
    case neg =>
      have e2 : decide (fr ≤ ve) = false := decide_eq_false c2
      have HNx := Lib.hid (show bo = newestR (m.vers.take (k + 1)) lba fr up by rw [HT.out, if_neg (fun q => by have h := q.1; rw [HH.out, decide_eq_true_eq] at h; exact c2 h.2.1)])
      have gz7 := fun p => after_cell z7 p
      have gd0 := fun p => after_cell d0 p
      have gd1 := fun p => after_cell d1 p
      have gd2 := fun p => after_cell d2 p
      have gb1 := fun p => after_cell b1 p
      refine wp_region_after (by kernel_rfl) (by kernel_rfl) ?_
      repeat (go_big_quiet_step (fail))
      refine wpQuiet_nil ?_
      rintro q1 ⟨p9, rfl⟩
      have hb := after_below wr p9
      have HM := Lib.hid (show Below w.heap.size w (After wr p9) ∧ (After wr p9).heap[w.heap.size + 1]? = some (.cells (verX (bo.getD verZ)) 76 (0, 0)) ∧ (After wr p9).heap[w.heap.size]? = some (.cells #[.int .i64 0, .int .i64 0, .string ⟨#[]⟩] 76 (0, 0)) from ⟨hN.out.1.trans (hb.mono hN.out.1.size), blk_on hb hN.out.2.2.1, blk_on hb hN.out.2.2.2⟩)
      have hz7 := (cell_on hb z7).1
      have hd0 := (cell_on hb d0).1
      have hd1 := (cell_on hb d1).1
      have hd2 := (cell_on hb d2).1
      generalize After wr p9 = q1 at *
      clear hb gz7 gd0 gd1 gd2 gb1 z7 d0 d1 d2 b0 b1 b2 z0 z1 z2 z3 z4 z5 z6
      go_wp2
      go_roundw
      case rel => exact ⟨k + 1, bo, by have := HLT.out; omega, by first | rfl | simp, by first | rw [hw64] | go_num, Lib.hid ⟨HM.out.1, HNx.out, HM.out.2.1, HM.out.2.2⟩⟩
      case measure => have := HLT.out; first | (rw [hw64]; simp [intOf]; omega) | (simp [intOf]; omega)
    have e2 : decide (fr ≤ ve) = true := decide_eq_true c2
    by_cases c3 : ve ≤ up
    case neg =>
      have e3 : decide (ve ≤ up) = false := decide_eq_false c3
      have HNx := Lib.hid (show bo = newestR (m.vers.take (k + 1)) lba fr up by rw [HT.out, if_neg (fun q => by have h := q.1; rw [HH.out, decide_eq_true_eq] at h; exact c3 h.2.2)])
      have gz7 := fun p => after_cell z7 p
      have gd0 := fun p => after_cell d0 p
      have gd1 := fun p => after_cell d1 p
      have gd2 := fun p => after_cell d2 p
      have gb1 := fun p => after_cell b1 p
      refine wp_region_after (by kernel_rfl) (by kernel_rfl) ?_
      repeat (go_big_quiet_step (fail))
      refine wpQuiet_nil ?_
      rintro q1 ⟨p9, rfl⟩
      have hb := after_below wr p9
      have HM := Lib.hid (show Below w.heap.size w (After wr p9) ∧ (After wr p9).heap[w.heap.size + 1]? = some (.cells (verX (bo.getD verZ)) 76 (0, 0)) ∧ (After wr p9).heap[w.heap.size]? = some (.cells #[.int .i64 0, .int .i64 0, .string ⟨#[]⟩] 76 (0, 0)) from ⟨hN.out.1.trans (hb.mono hN.out.1.size), blk_on hb hN.out.2.2.1, blk_on hb hN.out.2.2.2⟩)
      have hz7 := (cell_on hb z7).1
      have hd0 := (cell_on hb d0).1
      have hd1 := (cell_on hb d1).1
      have hd2 := (cell_on hb d2).1
      generalize After wr p9 = q1 at *
      clear hb gz7 gd0 gd1 gd2 gb1 z7 d0 d1 d2 b0 b1 b2 z0 z1 z2 z3 z4 z5 z6
      go_wp2
      go_roundw
      case rel => exact ⟨k + 1, bo, by have := HLT.out; omega, by first | rfl | simp, by first | rw [hw64] | go_num, Lib.hid ⟨HM.out.1, HNx.out, HM.out.2.1, HM.out.2.2⟩⟩
      case measure => have := HLT.out; first | (rw [hw64]; simp [intOf]; omega) | (simp [intOf]; omega)
    have e3 : decide (ve ≤ up) = true := decide_eq_true c3
    have HHT := Lib.hid (show hitB (vl, ve, vd) lba fr up = true by rw [HH.out, decide_eq_true_eq]; exact ⟨c1, c2, c3⟩)
    clear c1 c2 c3
    cases bo with
    | none =>
      have e4 : ((none : Option VerD).isSome) = false := rfl
      have HNx := Lib.hid (show some (vl, ve, vd) = newestR (m.vers.take (k + 1)) lba fr up by rw [HT.out, if_pos (⟨HHT.out, Or.inl rfl⟩)])
      have gz7 := fun p => after_cell z7 p
      have gd0 := fun p => after_cell d0 p
      have gd1 := fun p => after_cell d1 p
      have gd2 := fun p => after_cell d2 p
      have gb1 := fun p => after_cell b1 p
      refine wp_region_after (by kernel_rfl) (by kernel_rfl) ?_
      repeat (go_big_quiet_step (fail))
      refine wpQuiet_nil ?_
      rintro q1 ⟨p9, rfl⟩
      have hb := after_below wr p9
      have HM := Lib.hid (show Below w.heap.size w (After wr p9) ∧ (After wr p9).heap[w.heap.size + 1]? = some (.cells (verX ((none : Option VerD).getD verZ)) 76 (0, 0)) ∧ (After wr p9).heap[w.heap.size]? = some (.cells #[.int .i64 0, .int .i64 0, .string ⟨#[]⟩] 76 (0, 0)) from ⟨hN.out.1.trans (hb.mono hN.out.1.size), blk_on hb hN.out.2.2.1, blk_on hb hN.out.2.2.2⟩)
      have hz7 := (cell_on hb z7).1
      have hd0 := (cell_on hb d0).1
      have hd1 := (cell_on hb d1).1
      have hd2 := (cell_on hb d2).1
      generalize After wr p9 = q1 at *
      clear hb gz7 gd0 gd1 gd2 gb1 z7 d0 d1 d2 b0 b1 b2 z0 z1 z2 z3 z4 z5 z6
      obtain ⟨WR, hWR⟩ : ∃ W, q1.setRow (w.heap.size + 1) #[.int .i64 vl, .int .i64 ve, .string vd] = W := ⟨_, rfl⟩
      have KE := Lib.hid (show WR.heap[w.heap.size + 1]? = some (.cells #[.int .i64 vl, .int .i64 ve, .string vd] 76 (0, 0)) by rw [← hWR]; exact setRow_heap _ _ _ _ _ _ HM.out.2.1)
      have KR := Lib.hid (show WR.heap[w.heap.size]? = some (.cells #[.int .i64 0, .int .i64 0, .string ⟨#[]⟩] 76 (0, 0)) by rw [← hWR]; exact (setRow_other _ _ _ _ (by have := HN1.out; omega)).trans HM.out.2.2)
      have KB := Lib.hid (show Below w.heap.size w WR by rw [← hWR]; exact HM.out.1.trans (below_setRow (Below.refl _ _) (by have := HN1.out; omega) _))
      go_wp2_with (refine wpList_store_blk rfl 76 (.tmp 10) (.tmp 80) rfl (w.heap.size + 1) 0 3 rfl (verX verZ) #[.int .i64 vl, .int .i64 ve, .string vd] #[.int .i64 vl, .int .i64 ve, .string vd] rfl 76 HM.out.2.1 rfl (Nat.le_refl 3) (by kernel_rfl) (verx_one _ _ _) (splice_all _ _ rfl) ?_; rw [hWR])
      go_wp2
      go_roundw
      case rel => exact ⟨k + 1, some (vl, ve, vd), by have := HLT.out; omega, by first | rfl | simp, by first | rw [hw64] | go_num, Lib.hid ⟨KB.out, HNx.out, KE.out, KR.out⟩⟩
      case measure => have := HLT.out; first | (rw [hw64]; simp [intOf]; omega) | (simp [intOf]; omega)
    | some u =>
      obtain ⟨ul, ue, ud⟩ := u
      have e5 : (some (ul, ue, ud) : Option VerD).isSome = true := rfl
      by_cases c4 : ue ≤ ve
      case neg =>
        have e4 : decide (ue ≤ ve) = false := decide_eq_false c4
        have HNx := Lib.hid (show some (ul, ue, ud) = newestR (m.vers.take (k + 1)) lba fr up by rw [HT.out, if_neg (fun q => by rcases q.2 with h | h; cases h; exact c4 h)])
        have gz7 := fun p => after_cell z7 p
        have gd0 := fun p => after_cell d0 p
        have gd1 := fun p => after_cell d1 p
        have gd2 := fun p => after_cell d2 p
        have gb1 := fun p => after_cell b1 p
        refine wp_region_after (by kernel_rfl) (by kernel_rfl) ?_
        repeat (go_big_quiet_step (fail))
        refine wpQuiet_nil ?_
        rintro q1 ⟨p9, rfl⟩
        have hb := after_below wr p9
        have HM := Lib.hid (show Below w.heap.size w (After wr p9) ∧ (After wr p9).heap[w.heap.size + 1]? = some (.cells (verX ((some (ul, ue, ud) : Option VerD).getD verZ)) 76 (0, 0)) ∧ (After wr p9).heap[w.heap.size]? = some (.cells #[.int .i64 0, .int .i64 0, .string ⟨#[]⟩] 76 (0, 0)) from ⟨hN.out.1.trans (hb.mono hN.out.1.size), blk_on hb hN.out.2.2.1, blk_on hb hN.out.2.2.2⟩)
        have hz7 := (cell_on hb z7).1
        have hd0 := (cell_on hb d0).1
        have hd1 := (cell_on hb d1).1
        have hd2 := (cell_on hb d2).1
        generalize After wr p9 = q1 at *
        clear hb gz7 gd0 gd1 gd2 gb1 z7 d0 d1 d2 b0 b1 b2 z0 z1 z2 z3 z4 z5 z6
        go_wp2
        go_roundw
        case rel => exact ⟨k + 1, some (ul, ue, ud), by have := HLT.out; omega, by first | rfl | simp, by first | rw [hw64] | go_num, Lib.hid ⟨HM.out.1, HNx.out, HM.out.2.1, HM.out.2.2⟩⟩
        case measure => have := HLT.out; first | (rw [hw64]; simp [intOf]; omega) | (simp [intOf]; omega)
      have e4 : decide (ue ≤ ve) = true := decide_eq_true c4
      have HNx := Lib.hid (show some (vl, ve, vd) = newestR (m.vers.take (k + 1)) lba fr up by rw [HT.out, if_pos (⟨HHT.out, Or.inr c4⟩)])
      have gz7 := fun p => after_cell z7 p
      have gd0 := fun p => after_cell d0 p
      have gd1 := fun p => after_cell d1 p
      have gd2 := fun p => after_cell d2 p
      have gb1 := fun p => after_cell b1 p
      refine wp_region_after (by kernel_rfl) (by kernel_rfl) ?_
      repeat (go_big_quiet_step (fail))
      refine wpQuiet_nil ?_
      rintro q1 ⟨p9, rfl⟩
      have hb := after_below wr p9
      have HM := Lib.hid (show Below w.heap.size w (After wr p9) ∧ (After wr p9).heap[w.heap.size + 1]? = some (.cells (verX ((some (ul, ue, ud) : Option VerD).getD verZ)) 76 (0, 0)) ∧ (After wr p9).heap[w.heap.size]? = some (.cells #[.int .i64 0, .int .i64 0, .string ⟨#[]⟩] 76 (0, 0)) from ⟨hN.out.1.trans (hb.mono hN.out.1.size), blk_on hb hN.out.2.2.1, blk_on hb hN.out.2.2.2⟩)
      have hz7 := (cell_on hb z7).1
      have hd0 := (cell_on hb d0).1
      have hd1 := (cell_on hb d1).1
      have hd2 := (cell_on hb d2).1
      generalize After wr p9 = q1 at *
      clear hb gz7 gd0 gd1 gd2 gb1 z7 d0 d1 d2 b0 b1 b2 z0 z1 z2 z3 z4 z5 z6
      obtain ⟨WR, hWR⟩ : ∃ W, q1.setRow (w.heap.size + 1) #[.int .i64 vl, .int .i64 ve, .string vd] = W := ⟨_, rfl⟩
      have KE := Lib.hid (show WR.heap[w.heap.size + 1]? = some (.cells #[.int .i64 vl, .int .i64 ve, .string vd] 76 (0, 0)) by rw [← hWR]; exact setRow_heap _ _ _ _ _ _ HM.out.2.1)
      have KR := Lib.hid (show WR.heap[w.heap.size]? = some (.cells #[.int .i64 0, .int .i64 0, .string ⟨#[]⟩] 76 (0, 0)) by rw [← hWR]; exact (setRow_other _ _ _ _ (by have := HN1.out; omega)).trans HM.out.2.2)
      have KB := Lib.hid (show Below w.heap.size w WR by rw [← hWR]; exact HM.out.1.trans (below_setRow (Below.refl _ _) (by have := HN1.out; omega) _))
      go_wp2_with (refine wpList_store_blk rfl 76 (.tmp 10) (.tmp 80) rfl (w.heap.size + 1) 0 3 rfl (verX (ul, ue, ud)) #[.int .i64 vl, .int .i64 ve, .string vd] #[.int .i64 vl, .int .i64 ve, .string vd] rfl 76 HM.out.2.1 rfl (Nat.le_refl 3) (by kernel_rfl) (verx_one _ _ _) (splice_all _ _ rfl) ?_; rw [hWR])
      go_wp2
      go_roundw
      case rel => exact ⟨k + 1, some (vl, ve, vd), by have := HLT.out; omega, by first | rfl | simp, by first | rw [hw64] | go_num, Lib.hid ⟨KB.out, HNx.out, KE.out, KR.out⟩⟩
      case measure => have := HLT.out; first | (rw [hw64]; simp [intOf]; omega) | (simp [intOf]; omega)
end Go.Proofs.YtnkiokaeooopgaaGreat
/- The document's model: what it asks of its book, of its shape; a clock that goes on. -/
set_option maxRecDepth 100000
namespace Ks
open Go Go.RowKit
theorem tw_epoch {m : ModT} (h : Twin m) : epochR m.geo.first m.recs = m.book.epoch := by rw [h.book, epoch_eq]
theorem tw_gone {m : ModT} (h : Twin m) (t : Int) : goneR m.recs t = goneB m.book t := by rw [h.book, gone_eq _ _ _ h.good]
theorem tw_until {m : ModT} (h : Twin m) (t : Int) : untilR m.recs t = tillN m.book t := by rw [h.book, until_eq]
theorem tw_may {m : ModT} (h : Twin m) (r : RecT) : mayE (bookR m.geo.first m.recs) r = mayE m.book r := by rw [← h.book]
theorem tw_names {m : ModT} (h : Twin m) (N : List ByteArray) (hn : NamesR m.recs N) : N.length = m.book.holds.length := by rw [h.book]; exact names_len _ _ h.good N hn
theorem tw_places {m : ModT} (hi : ModI m) (fr : Int) : placesR m.vers fr m.geo.lbas.toNat = placesN m fr := by
  have hd := hi.data
  have he := hi.epoch
  exact places_eq m.vers fr m.geo.lbas.toNat fun v hv => by
    have := hi.vers v hv
    omega
/-- lengths, and numbers, of a model that may be -/
theorem mi_len {m : ModT} (hi : ModI m) : m.recs.length ≤ 2000 ∧ m.vers.length ≤ 2000 ∧ (0 ≤ m.geo.first ∧ m.geo.first ≤ 4294967295) ∧ (0 ≤ m.used ∧ m.used ≤ 1020) ∧ (1 ≤ m.geo.lbas ∧ m.geo.lbas ≤ 4096) ∧ (8 ≤ m.geo.blocks ∧ m.geo.blocks ≤ 1024) ∧ (0 ≤ m.now ∧ m.now ≤ 1099511627776) ∧ (0 ≤ m.book.epoch ∧ m.book.epoch ≤ 4294967295) := by
  have h1 := hi.data
  have h2 := hi.used
  have h3 := hi.vlen
  have h4 := hi.rlen
  have h5 := hi.now
  have h6 := hi.epoch
  omega
def thereE (m : ModT) (ep : Int) (cl : Bool) : Int := if ep < m.geo.first ∨ m.book.epoch < ep then 7 else if cl = true ∧ ep = m.book.epoch then 8 else 0
end Ks
namespace Go.Proofs.YtnkiokaeooopgaaGreat
open Go.RowKit Ks
set_option linter.unusedVariables false
set_option linter.unusedSimpArgs false
section
variable {n : Nat} {rv vv : Value} {m : ModT}
theorem repoch_any (w : World) (h : RMd w n rv vv m) (hi : ModI m) (ht : Ks.Twin m) : Calls Tryz.prog 25 #[.pointer (some ⟨n, 5, none⟩)] w fun e w' => e = .returned (.int .i64 m.book.epoch) ∧ Below w.heap.size w w' := by
  have hl := mi_len hi
  have := bkepoch_any w h.bk (by omega) hl.2.2.1
  rwa [tw_epoch ht] at this
theorem rgone_any (t : Int) (w : World) (h : RMd w n rv vv m) (hi : ModI m) (ht : Ks.Twin m) : Calls Tryz.prog 36 #[.pointer (some ⟨n, 5, none⟩), .int .i64 t] w fun e w' => e = .returned (.bool (goneB m.book t)) ∧ Below w.heap.size w w' := by
  have hl := mi_len hi
  have := bkgone_any t w h.bk (by omega)
  rwa [tw_gone ht] at this
theorem runtil_any (t : Int) (w : World) (h : RMd w n rv vv m) (hi : ModI m) (ht : Ks.Twin m) : Calls Tryz.prog 59 #[.pointer (some ⟨n, 5, none⟩), .int .i64 t] w fun e w' => e = .returned (.int .i64 (tillN m.book t)) ∧ Below w.heap.size w w' := by
  have hl := mi_len hi
  have := bkuntil_any t w h.bk (by omega)
  rwa [tw_until ht] at this
theorem rmay_any (r : RecT) (w : World) (h : RMd w n rv vv m) (hi : ModI m) (ht : Ks.Twin m) : Calls Tryz.prog 56 #[.pointer (some ⟨n, 5, none⟩), recV r] w fun e w' => e = .returned (.int .i64 (mayE m.book r)) ∧ Below w.heap.size w w' := by
  have hl := mi_len hi
  have := bkmay_any r w h.bk (by omega) hl.2.2.1 ht.good
  rwa [tw_may ht] at this
theorem rnames_any (w : World) (h : RMd w n rv vv m) (hi : ModI m) (ht : Ks.Twin m) : Calls Tryz.prog 60 #[.pointer (some ⟨n, 5, none⟩)] w fun e w' => ∃ (a : Option Addr) (c : Nat), e = .returned (.slice a m.book.holds.length c) ∧ Below w.heap.size w w' := by
  have hl := mi_len hi
  refine (bknames_any w h.bk (by omega)).mono ?_
  rintro e w' ⟨vn, N, rfl, h1, h2, -, h3⟩
  obtain ⟨a, c, rfl, -⟩ := h1.shape
  exact ⟨a, c, by rw [tw_names ht N h2], h3⟩
end
theorem gright2_any (b l f : Int) (w : World) : Calls Tryz.prog 14 #[.agg #[.int .i64 b, .int .i64 l, .int .i64 f]] w fun e w' => e = .returned (.bool (geoOk b l f)) ∧ Below w.heap.size w w' := by
  refine calls_by fun R HR => ?_
  have HB := Lib.hid (alloc_below w (.cells #[.int .i64 b, .int .i64 l, .int .i64 f] 23))
  rcases geo_cases b l f with ⟨h1, h⟩ | ⟨h1, h2, h⟩ | ⟨h1, h2, h3, h⟩ | ⟨h1, h2, h3, h4, h⟩ | ⟨h1, h2, h3, h4, h5, h⟩ | ⟨h1, h2, h3, h4, h5, h6, h⟩ | ⟨h1, h2, h3, h4, h5, h6, h⟩
  all_goals
    have HV := Lib.hid h
    clear h
    try have hd : decide (f ≤ 4294967295) = false := by rw [decide_eq_false_iff_not]; omega
    go_enter Tryz.func14, Tryz.ntmps14
    go_wp2
    exact HR.out _ _ ⟨by rw [HV.out] <;> rfl, HB.out⟩
theorem rgdata2_any (b l f : Int) (w : World) (hg : geoOk b l f = true) : Calls Tryz.prog 26 #[.agg #[.int .i64 b, .int .i64 l, .int .i64 f]] w fun e w' => e = .returned (.int .i64 (b - 4)) ∧ Below w.heap.size w w' := by
  refine calls_by fun R HR => ?_
  have hb := geo_ok.1 hg
  have HRi := Lib.hid (fun A => gright2_any b l f A)
  rw [hg] at HRi
  have hw : wrap64 (b - 4) = b - 4 := by unfold wrap64; omega
  clear hb hg
  have H1 := Lib.hid (Below.refl w.heap.size w)
  obtain ⟨W1, hW1⟩ : ∃ W1, w.alloc (.cells #[.int .i64 b, .int .i64 l, .int .i64 f] 23) = W1 := ⟨_, rfl⟩
  have hbW1 : Below w.heap.size w W1 := by rw [← hW1]; exact alloc_below w _
  have kW1 : W1.heap[w.heap.size]? = some (.cells #[.int .i64 b, .int .i64 l, .int .i64 f] 23 (0, 0)) := by rw [← hW1]; exact alloc_new w _
  have H2 := Lib.hid (And.intro (H1.out.trans (hbW1.mono H1.out.size)) (kW1))
  clear hbW1 kW1
  obtain ⟨c0, c1, c2, -, -, -⟩ := blk3 H2.out.2
  go_enter Tryz.func26, Tryz.ntmps26
  go_wp2_with fail
  refine (HRi.out W1).mono ?_
  rintro en v1 ⟨rfl, hb⟩
  have H3 := Lib.hid (And.intro (H2.out.1.trans (hb.mono H2.out.1.size)) (blk_on hb H2.out.2))
  clear hb
  clear hW1 c0 c1 c2
  obtain ⟨c0, c1, c2, -, -, -⟩ := blk3 H3.out.2
  have H99 := Lib.hid H3.out.1
  go_wp2
  exact HR.out _ _ ⟨by first | rfl | simp [hw], H99.out⟩
set_option maxRecDepth 100000 in
set_option maxHeartbeats 4000000 in
theorem rroom09_any (b l f used : Int) (w : World) (hg : geoOk b l f = true) (hu : 0 ≤ used ∧ used ≤ 1024) : Calls Tryz.prog 79 #[.agg #[.int .i64 b, .int .i64 l, .int .i64 f], .int .i64 used] w fun e w' => e = .returned (.int .i64 (geoRoom ⟨b, l, f⟩ used)) ∧ Below w.heap.size w w' := by
  refine calls_by fun R HR => ?_
  have hb := geo_ok.1 hg
  have hdt : geoD b l f = b - 4 := (geo_yes hg).2
  have HV : Hid (geoRoom ⟨b, l, f⟩ used = if used < 0 then 0 else max (geoD b l f - 1 - min used 1024) 0) := Lib.hid rfl
  rw [hdt] at HV
  have HRi := Lib.hid (fun A => gright2_any b l f A)
  rw [hg] at HRi
  have hw : wrap64 (b - 5) = b - 5 := by unfold wrap64; omega
  have hu0 : ¬ used < 0 := by omega
  have hu0d : decide (used < 0) = false := decide_eq_false hu0
  have H1 := Lib.hid (Below.refl w.heap.size w)
  obtain ⟨W1, hW1⟩ : ∃ W1, w.alloc (.cells #[.int .i64 b, .int .i64 l, .int .i64 f] 23) = W1 := ⟨_, rfl⟩
  have hbW1 : Below w.heap.size w W1 := by rw [← hW1]; exact alloc_below w _
  have kW1 : W1.heap[w.heap.size]? = some (.cells #[.int .i64 b, .int .i64 l, .int .i64 f] 23 (0, 0)) := by rw [← hW1]; exact alloc_new w _
  have H2 := Lib.hid (And.intro (H1.out.trans (hbW1.mono H1.out.size)) (kW1))
  clear hbW1 kW1
  obtain ⟨c0, c1, c2, -, -, -⟩ := blk3 H2.out.2
  have HBd := Lib.hid hb
  have HUd := Lib.hid hu
  clear hg hdt hb hu
  go_enter Tryz.func79, Tryz.ntmps79
  go_wp2_with fail
  refine (HRi.out W1).mono ?_
  rintro en v1 ⟨rfl, hb⟩
  have H3 := Lib.hid (And.intro (H2.out.1.trans (hb.mono H2.out.1.size)) (blk_on hb H2.out.2))
  clear hb
  clear hW1 c0 c1 c2
  obtain ⟨c0, c1, c2, -, -, -⟩ := blk3 H3.out.2
  have H99 := Lib.hid H3.out.1
  by_cases h : b - 5 ≤ used
  · have HZ := Lib.hid (show geoRoom ⟨b, l, f⟩ used = 0 by rw [HV.out, if_neg (show ¬ used < 0 by have := HUd.out; omega)]; have := HUd.out; omega)
    have hd : decide (b - 5 ≤ used) = true := decide_eq_true h
    go_wp2
    exact HR.out _ _ ⟨by rw [HZ.out] <;> rfl, H99.out⟩
  · have HZ := Lib.hid (show geoRoom ⟨b, l, f⟩ used = b - 5 - used by rw [HV.out, if_neg (show ¬ used < 0 by have := HUd.out; omega)]; have := HUd.out; omega)
    have hd : decide (b - 5 ≤ used) = false := decide_eq_false h
    have hw2 : wrap64 (b - 5 - used) = b - 5 - used := by have := HUd.out; have := HBd.out; unfold wrap64; omega
    go_wp2
    exact HR.out _ _ ⟨by rw [HZ.out] <;> first | rfl | simp [hw, hw2], H99.out⟩
set_option maxRecDepth 100000 in
set_option maxHeartbeats 4000000 in
theorem rroom_any {n : Nat} {rv vv : Value} {m : ModT} (w : World) (h : RMd w n rv vv m) (hi : ModI m) (ht : Ks.Twin m) : Calls Tryz.prog 54 #[.pointer (some ⟨n, 0, none⟩)] w fun e w' => e = .returned (.int .i64 (roomM m)) ∧ Below w.heap.size w w' := by
  refine calls_by fun R HR => ?_
  have HD := Lib.hid h
  have HI := Lib.hid hi
  have HTw := Lib.hid ht
  have HL := Lib.hid (mi_len hi)
  have HRo : Hid (∀ A, Calls Tryz.prog 79 #[.agg #[.int .i64 m.geo.blocks, .int .i64 m.geo.lbas, .int .i64 m.geo.first], .int .i64 m.used] A fun e w' => e = .returned (.int .i64 (roomM m)) ∧ Below A.heap.size A w') := Lib.hid (fun A => rroom09_any m.geo.blocks m.geo.lbas m.geo.first m.used A hi.geo (by have := mi_len hi; omega))
  generalize roomM m = RM at *
  obtain ⟨⟨z0, z1, z2, z3, z4, z5, z6, z7⟩, -⟩ := blkR h.blk
  clear h hi ht
  have g0 := fun p => after_cell z0 p
  have g1 := fun p => after_cell z1 p
  have g2 := fun p => after_cell z2 p
  have g3 := fun p => after_cell z3 p
  have cR := Lib.hid (fun p => calls_after (p := p) (HRo.out (After w p)))
  go_enter Tryz.func54, Tryz.ntmps54
  go_upto_region 1 with fail
  refine wp_region_after (by kernel_rfl) (by kernel_rfl) ?_
  repeat (go_big_quiet_step (fail))
  go_big_quiet_step (exact cR.out _)
  repeat (go_big_quiet_step (fail))
  refine wpQuiet_nil ?_
  rintro q1 ⟨p9, rfl⟩
  have hb := after_below w p9
  have HB := Lib.hid hb
  clear hb
  go_wp2
  exact HR.out _ _ ⟨rfl, HB.out⟩
set_option maxRecDepth 100000 in
set_option maxHeartbeats 4000000 in
theorem rplaces_any {n : Nat} {rv vv : Value} {m : ModT} (fr : Int) (w : World) (h : RMd w n rv vv m) (hi : ModI m) (ht : Ks.Twin m) : Calls Tryz.prog 28 #[.pointer (some ⟨n, 0, none⟩), .int .i64 fr] w fun e w' => e = .returned (.int .i64 (placesN m fr : Nat)) ∧ Below w.heap.size w w' := by
  refine calls_by fun R HR => ?_
  have HD := Lib.hid h
  have HI := Lib.hid hi
  have HTw := Lib.hid ht
  have HL := Lib.hid (mi_len hi)
  have HNw := Lib.hid (fun (lba : Int) (A : World) (q : RMd A n rv vv m) => rnewest_any lba fr 4294967295 A q (by have := mi_len hi; omega))
  have HV := Lib.hid (tw_places hi fr)
  obtain ⟨LB, hLB⟩ : ∃ LB : Nat, m.geo.lbas = (LB : Int) := ⟨m.geo.lbas.toNat, by have := mi_len hi; omega⟩
  have HLB := Lib.hid hLB
  have HL2 := Lib.hid (show LB ≤ 4096 by have := mi_len hi; omega)
  have HVV : Hid (placesN m fr = placesR m.vers fr LB) := Lib.hid (by rw [← HV.out, hLB]; rfl)
  generalize placesN m fr = PN at *
  clear h hi ht hLB HV
  go_enter Tryz.func28, Tryz.ntmps28
  go_wp2_with fail
  go_loopw [5, 6] (fun s i wx => ∃ k : Nat, k ≤ LB ∧ s = .int .i64 ((placesR m.vers fr k : Nat) : Int) ∧ i = .int .i64 (k : Int) ∧ Hid (Below w.heap.size w wx)) (fun _ i _ => LB - (intOf i).toNat)
  case atStart => exact ⟨0, Nat.zero_le _, rfl, rfl, Lib.hid (Below.refl _ _)⟩
  case round =>
    obtain ⟨k, hk, rfl, rfl, hN⟩ := hrel
    obtain ⟨⟨z0, z1, z2, z3, z4, z5, z6, z7⟩, -⟩ := blkR (HD.out.below hN.out).blk
    rw [HLB.out] at z1
    by_cases hlt : k < LB
    case neg =>
      have hkl : k = LB := by omega
      have HKL := Lib.hid hkl
      have hki : ¬ (k : Int) < (LB : Int) := by omega
      clear hkl
      go_wp2
      exact HR.out _ _ ⟨by rw [HVV.out, ← HKL.out], hN.out⟩
    have hki : (k : Int) < (LB : Int) := by omega
    have HLT := Lib.hid hlt
    have hw64 : wrap64 ((k : Int) + 1) = ((k + 1 : Nat) : Int) := by have := HL2.out; unfold wrap64; omega
    have HSu := Lib.hid (placesR_succ m.vers fr k)
    have hle := placesR_le m.vers fr k
    generalize placesR m.vers fr k = PK at *
    have hwk : wrap64 ((PK : Int) + 1) = ((PK + 1 : Nat) : Int) := by have := HL2.out; unfold wrap64; omega
    have HNk := Lib.hid (HNw.out (k : Int) wr (HD.out.below hN.out))
    generalize newestR m.vers (k : Int) fr 4294967295 = NR at *
    clear hlt hle
    go_wp2_with fail
    refine HNk.out.mono ?_
    rintro en u1 ⟨rfl, hb⟩
    have H1 := Lib.hid (hN.out.trans (hb.mono hN.out.size))
    clear hb z0 z1 z2 z3 z4 z5 z6 z7
    have hA := alloc_below u1 (.cells (verX (NR.getD verZ)) 76)
    have H2 := Lib.hid (H1.out.trans (hA.mono H1.out.size))
    clear hA hN
    cases NR with
    | none =>
      have HE := Lib.hid (show placesR m.vers fr (k + 1) = PK by rw [HSu.out]; rfl)
      have e4 : ((none : Option VerD).isSome) = false := rfl
      go_wp2
      go_roundw
      case rel => exact ⟨k + 1, by have := HLT.out; omega, by rw [HE.out], by first | rw [hw64] | go_num, H2⟩
      case measure => have := HLT.out; first | (rw [hw64]; simp [intOf]; omega) | (simp [intOf]; omega)
    | some u =>
      have HE := Lib.hid (show placesR m.vers fr (k + 1) = PK + 1 by rw [HSu.out]; rfl)
      have e4 : ((some u : Option VerD).isSome) = true := rfl
      go_wp2
      go_roundw
      case rel => exact ⟨k + 1, by have := HLT.out; omega, by rw [HE.out, hwk], by first | rw [hw64] | go_num, H2⟩
      case measure => have := HLT.out; first | (rw [hw64]; simp [intOf]; omega) | (simp [intOf]; omega)
set_option maxRecDepth 100000 in
set_option maxHeartbeats 4000000 in
theorem rthere_any {n : Nat} {rv vv : Value} {m : ModT} (ep : Int) (cl : Bool) (w : World) (h : RMd w n rv vv m) (hi : ModI m) (ht : Ks.Twin m) : Calls Tryz.prog 55 #[.pointer (some ⟨n, 0, none⟩), .int .i64 ep, .bool cl] w fun e w' => e = .returned (.int .i64 (thereE m ep cl)) ∧ Below w.heap.size w w' := by
  refine calls_by fun R HR => ?_
  have HD := Lib.hid h
  have HI := Lib.hid hi
  have HTw := Lib.hid ht
  have HL := Lib.hid (mi_len hi)
  have HEp := Lib.hid (fun A (q : RMd A n rv vv m) => repoch_any A q hi ht)
  have HV : Hid (thereE m ep cl = if ep < m.geo.first ∨ m.book.epoch < ep then 7 else if cl = true ∧ ep = m.book.epoch then 8 else 0) := Lib.hid rfl
  generalize thereE m ep cl = TE at *
  generalize m.book.epoch = E at *
  obtain ⟨⟨z0, z1, z2, z3, z4, z5, z6, z7⟩, -⟩ := blkR h.blk
  clear h hi ht
  by_cases c1 : ep < m.geo.first
  · have d1 : decide (ep < m.geo.first) = true := decide_eq_true c1
    have HZ := Lib.hid (show TE = 7 by rw [HV.out, if_pos (Or.inl c1)])
    go_enter Tryz.func55, Tryz.ntmps55
    go_wp2
    exact HR.out _ _ ⟨by rw [HZ.out] <;> rfl, Below.refl _ _⟩
  have d1 : decide (ep < m.geo.first) = false := decide_eq_false c1
  have HC1 := Lib.hid c1
  clear c1
  go_enter Tryz.func55, Tryz.ntmps55
  go_wp2_with fail
  refine (HEp.out w HD.out).mono ?_
  rintro en u1 ⟨rfl, hb⟩
  have H1 := Lib.hid hb
  clear hb
  by_cases c2 : E < ep
  · have d2 : decide (E < ep) = true := decide_eq_true c2
    have HZ := Lib.hid (show TE = 7 by rw [HV.out, if_pos (Or.inr c2)])
    go_wp2
    exact HR.out _ _ ⟨by rw [HZ.out] <;> rfl, H1.out⟩
  have d2 : decide (E < ep) = false := decide_eq_false c2
  have HC2 := Lib.hid (show ¬ (ep < m.geo.first ∨ E < ep) by have := HC1.out; omega)
  clear c2
  cases cl with
  | false =>
    have HZ := Lib.hid (show TE = 0 by rw [HV.out, if_neg HC2.out, if_neg (fun q => by cases q.1)])
    go_wp2
    exact HR.out _ _ ⟨by rw [HZ.out] <;> rfl, H1.out⟩
  | true =>
    go_wp2_with fail
    refine (HEp.out u1 (HD.out.below H1.out)).mono ?_
    rintro en u2 ⟨rfl, hb⟩
    have H2 := Lib.hid (H1.out.trans (hb.mono H1.out.size))
    clear hb
    by_cases c3 : ep = E
    · have d3 : (ep == E) = true := by simpa using c3
      have HZ := Lib.hid (show TE = 8 by rw [HV.out, if_neg HC2.out]; simp [c3])
      clear c3
      go_wp2
      exact HR.out _ _ ⟨by rw [HZ.out] <;> rfl, H2.out⟩
    · have d3 : (ep == E) = false := by simpa using c3
      have HZ := Lib.hid (show TE = 0 by rw [HV.out, if_neg HC2.out, if_neg (fun q => c3 q.2)])
      clear c3
      go_wp2
      exact HR.out _ _ ⟨by rw [HZ.out] <;> rfl, H2.out⟩
set_option maxRecDepth 100000 in
set_option maxHeartbeats 4000000 in
theorem rtick_any {n : Nat} {rv vv : Value} {m : ModT} (tm : Int) (w : World) (h : RMd w n rv vv m) : Calls Tryz.prog 32 #[.pointer (some ⟨n, 0, none⟩), .int .i64 tm] w fun e w' => e = .returned (.int .i64 (tickE m tm)) ∧ RMd w' n rv vv (tickM m tm) ∧ Turn w w' (FR n rv vv) (FR n rv vv) := by
  refine calls_by fun R HR => ?_
  have HD := Lib.hid h
  have HV : Hid (tickE m tm = if tm < 0 ∨ 1099511627776 < tm then 2 else if tm < m.now then 11 else 0) := Lib.hid rfl
  have HM : Hid (tickM m tm = if tickE m tm = 0 then { m with now := tm } else m) := Lib.hid rfl
  generalize tickE m tm = TE at *
  generalize tickM m tm = TM at *
  obtain ⟨⟨z0, z1, z2, z3, z4, z5, z6, z7⟩, fz⟩ := blkR h.blk
  have f4 := fz 4
  clear h fz
  by_cases c1 : tm < 0
  · have d1 : decide (tm < 0) = true := decide_eq_true c1
    have HZ := Lib.hid (show TE = 2 by rw [HV.out, if_pos (Or.inl c1)])
    go_enter Tryz.func32, Tryz.ntmps32
    go_wp2
    exact HR.out _ _ ⟨by rw [HZ.out] <;> rfl, by rw [HM.out, HZ.out]; exact HD.out, Turn.refl _ _⟩
  have d1 : decide (tm < 0) = false := decide_eq_false c1
  by_cases c2 : 1099511627776 < tm
  · have d2 : decide (1099511627776 < tm) = true := decide_eq_true c2
    have HZ := Lib.hid (show TE = 2 by rw [HV.out, if_pos (Or.inr c2)])
    go_enter Tryz.func32, Tryz.ntmps32
    go_wp2
    exact HR.out _ _ ⟨by rw [HZ.out] <;> rfl, by rw [HM.out, HZ.out]; exact HD.out, Turn.refl _ _⟩
  have d2 : decide (1099511627776 < tm) = false := decide_eq_false c2
  have HC := Lib.hid (show ¬ (tm < 0 ∨ 1099511627776 < tm) by omega)
  by_cases c3 : tm < m.now
  · have d3 : decide (tm < m.now) = true := decide_eq_true c3
    have HZ := Lib.hid (show TE = 11 by rw [HV.out, if_neg HC.out, if_pos c3])
    go_enter Tryz.func32, Tryz.ntmps32
    go_wp2
    exact HR.out _ _ ⟨by rw [HZ.out] <;> rfl, by rw [HM.out, HZ.out]; exact HD.out, Turn.refl _ _⟩
  have d3 : decide (tm < m.now) = false := decide_eq_false c3
  have HZ := Lib.hid (show TE = 0 by rw [HV.out, if_neg HC.out, if_neg c3])
  go_enter Tryz.func32, Tryz.ntmps32
  go_wp2
  refine HR.out _ _ ⟨by rw [HZ.out] <;> rfl, ?_, Turn.cell w n 4 _ (Or.inl rfl)⟩
  rw [HM.out, if_pos HZ.out]
  exact ⟨set_blk HD.out.blk 4 _, HD.out.recs.keep fun k e => set_ne _ (HD.out.far k (Or.inl e)), HD.out.vers.keep fun k e => set_ne _ (HD.out.far k (Or.inr e)), HD.out.ne, HD.out.far⟩
set_option maxRecDepth 100000 in
set_option maxHeartbeats 4000000 in
theorem rmnew_any (g : GeoD) (w : World) : Calls Tryz.prog 7 #[.agg #[.int .i64 g.blocks, .int .i64 g.lbas, .int .i64 g.first]] w fun e w' =>
    (geoOk g.blocks g.lbas g.first = false ∧ e = .returned (.pointer none) ∧ Below w.heap.size w w') ∨ (geoOk g.blocks g.lbas g.first = true ∧ ∃ n, e = .returned (.pointer (some ⟨n, 0, none⟩)) ∧ RMd w' n (.slice none 0 0) (.slice none 0 0) (newM g) ∧ w.heap.size ≤ n ∧ Below w.heap.size w w') := by
  refine calls_by fun R HR => ?_
  obtain ⟨b, l, f⟩ := g
  have HRi := Lib.hid (fun A => gright2_any b l f A)
  have HR1 : Hid (∀ w', geoOk b l f = false → Below w.heap.size w w' → R (.returned (.pointer none)) w') := Lib.hid fun w' q1 q2 => HR.out _ _ (Or.inl ⟨q1, rfl, q2⟩)
  have HR2 : Hid (∀ w' n, geoOk b l f = true → RMd w' n (.slice none 0 0) (.slice none 0 0) (newM ⟨b, l, f⟩) → w.heap.size ≤ n → Below w.heap.size w w' → R (.returned (.pointer (some ⟨n, 0, none⟩))) w') := Lib.hid fun w' n q1 q2 q3 q4 => HR.out _ _ (Or.inr ⟨q1, n, rfl, q2, q3, q4⟩)
  clear HR
  have H1 := Lib.hid (Below.refl w.heap.size w)
  obtain ⟨W1, hW1⟩ : ∃ W1, w.alloc (.cells #[.int .i64 b, .int .i64 l, .int .i64 f] 23) = W1 := ⟨_, rfl⟩
  have hbW1 : Below w.heap.size w W1 := by rw [← hW1]; exact alloc_below w _
  have kW1 : W1.heap[w.heap.size]? = some (.cells #[.int .i64 b, .int .i64 l, .int .i64 f] 23 (0, 0)) := by rw [← hW1]; exact alloc_new w _
  have H2 := Lib.hid (And.intro (H1.out.trans (hbW1.mono H1.out.size)) (kW1))
  clear hbW1 kW1
  obtain ⟨c0, c1, c2, -, -, -⟩ := blk3 H2.out.2
  go_enter Tryz.func7, Tryz.ntmps7
  cases hg : geoOk b l f with
  | false =>
    rw [hg] at HRi
    have HG := Lib.hid hg
    clear hg
    go_wp2_with fail
    refine (HRi.out W1).mono ?_
    rintro en v1 ⟨rfl, hb⟩
    have H3 := Lib.hid (And.intro (H2.out.1.trans (hb.mono H2.out.1.size)) (blk_on hb H2.out.2))
    clear hb
    clear hW1 c0 c1 c2
    have HZ := Lib.hid (HR1.out _ HG.out H3.out.1)
    go_wp2
    exact HZ.out
  | true =>
    rw [hg] at HRi
    have HG := Lib.hid hg
    clear hg
    go_wp2_with fail
    refine (HRi.out W1).mono ?_
    rintro en v1 ⟨rfl, hb⟩
    have H3 := Lib.hid (And.intro (H2.out.1.trans (hb.mono H2.out.1.size)) (blk_on hb H2.out.2))
    clear hb
    clear hW1 c0 c1 c2
    obtain ⟨c0, c1, c2, -, -, -⟩ := blk3 H3.out.2
    obtain ⟨W5, hW5⟩ : ∃ W, v1.alloc (.cells #[.int .i64 b, .int .i64 l, .int .i64 f, .int .i64 0, .int .i64 0, .int .i64 f, .slice none 0 0, .slice none 0 0] 59) = W := ⟨_, rfl⟩
    have hb5 : Below v1.heap.size v1 W5 := by rw [← hW5]; exact alloc_below _ _
    have n5 : W5.heap[v1.heap.size]? = some (.cells #[.int .i64 b, .int .i64 l, .int .i64 f, .int .i64 0, .int .i64 0, .int .i64 f, .slice none 0 0, .slice none 0 0] 59 (0, 0)) := by rw [← hW5]; exact alloc_new _ _
    have HZ := Lib.hid (HR2.out W5 v1.heap.size HG.out ⟨n5, Row.nil _ _ _, Row.nil _ _ _, fun k e => by simp [Value.ownBlock] at e, fun k e => by simp [Value.ownBlock] at e⟩ H3.out.1.size (H3.out.1.trans (hb5.mono H3.out.1.size)))
    clear hb5 n5
    go_wp2
    exact HZ.out
end Go.Proofs.YtnkiokaeooopgaaGreat
