/- Texts that the claim rests on, part 7: ModNewest, ModDo, MovedNew, ModRead. -/
import Derived.Test.YtnkiokaeooopgaaM6
/- Versions from behind, the newest one: of the program's model. -/
set_option maxRecDepth 100000
namespace Ks
open Go Go.RowKit
def zeroVer : VerD := (0, 0, ⟨#[]⟩)
/-- the newest one of the last k -/
def lastN (l : List VerD) (lba fr up : Int) (k : Nat) : Option VerD := newestN (l.drop (l.length - k)) lba fr up
theorem lastN_zero (l : List VerD) (lba fr up : Int) : lastN l lba fr up 0 = none := by simp [lastN, newestN]
theorem lastN_all (l : List VerD) (lba fr up : Int) : lastN l lba fr up l.length = newestN l lba fr up := by simp [lastN]
theorem lastN_step (l : List VerD) (lba fr up : Int) (k : Nat) (x : VerD) (hk : k < l.length) (h : l[l.length - 1 - k]? = some x) : lastN l lba fr up (k + 1) = stepV lba fr up x (lastN l lba fr up k) := by
  unfold lastN
  have h1 : l.drop (l.length - (k + 1)) = x :: l.drop (l.length - k) := by
    obtain ⟨h2, h3⟩ := List.getElem?_eq_some_iff.1 h
    rw [show l.length - (k + 1) = l.length - 1 - k by omega, List.drop_eq_getElem_cons h2, h3, show l.length - 1 - k + 1 = l.length - k by omega]
  rw [h1]; rfl
end Ks
namespace Go.Proofs.Ytnkiokaeooopgaa
open Go.RowKit Ks Go.Maps
set_option linter.unusedVariables false
set_option linter.unusedSimpArgs false
attribute [local go_sem] Oper.semAt_some
abbrev verC (x : VerD) : Array Value := #[.int .i64 x.1, .int .i64 x.2.1, .string x.2.2]
theorem ver_one (a b : Int) (s : ByteArray) : (#[.int .i64 a, .int .i64 b, .string s] : Array Value).all (fun v => v.oneCell') = true := by simp [Value.oneCell']
/-- where the search stands behind k versions -/
structure NewI (w : World) (n : Nat) (l : List VerD) (lb fr up : Int) (k : Nat) (W : World) : Prop where
  b : Below w.heap.size w W
  blb : W.heap[w.heap.size]? = some (.cells #[.int .i64 lb] 3 (0, 0))
  bfr : W.heap[w.heap.size + 1]? = some (.cells #[.int .i64 fr] 3 (0, 0))
  bup : W.heap[w.heap.size + 2]? = some (.cells #[.int .i64 up] 3 (0, 0))
  res : W.heap[w.heap.size + 3]? = some (.cells (verC zeroVer) 66 (0, 0))
  best : W.heap[w.heap.size + 4]? = some (.cells (verC ((lastN l lb fr up k).getD zeroVer)) 66 (0, 0))
  any : W.heap[w.heap.size + 5]? = some (.cells #[.bool (lastN l lb fr up k).isSome] 4 (0, 0))
  box : W.heap[w.heap.size + 6]? = some (.cells #[.pointer (some ⟨n, 0, none⟩)] 25 (0, 0))
theorem NewI.own (w : World) (n : Nat) (l : List VerD) (lb fr up : Int) (B : Nat) (hB : w.heap.size ≤ B) : OwnFrom B (NewI w n l lb fr up) := fun s W W' row hs hg hr => by
  have k : ∀ {b : Nat} {o : Obj}, W.heap[b]? = some o → o.isCells = true → W'.heap[b]? = some o := fun h ho => (grownBy_keeps_cells hg (fun r e => (hr r e).2) h ho).trans h
  exact ⟨ownFrom_below (β := Nat) (Nat.le_refl _) hB s W W' row hs.b hg hr, k hs.blb rfl, k hs.bfr rfl, k hs.bup rfl, k hs.res rfl, k hs.best rfl, k hs.any rfl, k hs.box rfl⟩
theorem NewI.on {w W W' : World} {n : Nat} {l : List VerD} {lb fr up : Int} {k : Nat} (h : NewI w n l lb fr up k W) (hb : Below W.heap.size W W') : NewI w n l lb fr up k W' :=
  ⟨h.b.trans (hb.mono h.b.size), blk_on hb h.blb, blk_on hb h.bfr, blk_on hb h.bup, blk_on hb h.res, blk_on hb h.best, blk_on hb h.any, blk_on hb h.box⟩
theorem NewI.miss {w W : World} {n : Nat} {l : List VerD} {lb fr up : Int} {k : Nat} (h : NewI w n l lb fr up k W) (e : lastN l lb fr up (k + 1) = lastN l lb fr up k) : NewI w n l lb fr up (k + 1) W :=
  ⟨h.b, h.blb, h.bfr, h.bup, h.res, by rw [e]; exact h.best, by rw [e]; exact h.any, h.box⟩
theorem NewI.hit {w W : World} {n : Nat} {l : List VerD} {lb fr up : Int} {k : Nat} {x : VerD} (h : NewI w n l lb fr up k W) (e : lastN l lb fr up (k + 1) = some x) :
    NewI w n l lb fr up (k + 1) ((((W.setCell ⟨w.heap.size + 4, 0, none⟩ (.int .i64 x.1)).setCell ⟨w.heap.size + 4, 1, none⟩ (.int .i64 x.2.1)).setCell ⟨w.heap.size + 4, 2, none⟩ (.string x.2.2)).setCell ⟨w.heap.size + 5, 0, none⟩ (.bool true)) := by
  have far : ∀ {b : Nat} {o : Obj}, b ≠ w.heap.size + 4 → b ≠ w.heap.size + 5 → W.heap[b]? = some o → ((((W.setCell ⟨w.heap.size + 4, 0, none⟩ (.int .i64 x.1)).setCell ⟨w.heap.size + 4, 1, none⟩ (.int .i64 x.2.1)).setCell ⟨w.heap.size + 4, 2, none⟩ (.string x.2.2)).setCell ⟨w.heap.size + 5, 0, none⟩ (.bool true)).heap[b]? = some o := fun h4 h5 h =>
    (set_ne _ h5).trans ((set_ne _ h4).trans ((set_ne _ h4).trans ((set_ne _ h4).trans h)))
  refine ⟨?_, far (by omega) (by omega) h.blb, far (by omega) (by omega) h.bfr, far (by omega) (by omega) h.bup, far (by omega) (by omega) h.res, ?_, ?_, far (by omega) (by omega) h.box⟩
  · exact (((h.b.setCell (p := ⟨_, _, none⟩) (by simp) _).setCell (p := ⟨_, _, none⟩) (by simp) _).setCell (p := ⟨_, _, none⟩) (by simp) _).setCell (p := ⟨_, _, none⟩) (by simp) _
  · rw [e]
    exact (set_ne _ (by omega)).trans (set_blk (set_blk (set_blk h.best 0 _) 1 _) 2 _)
  · rw [e]
    exact set_blk ((set_ne _ (by omega)).trans ((set_ne _ (by omega)).trans ((set_ne _ (by omega)).trans h.any))) 0 _
theorem mback_any (n : Nat) (w : World) : Calls Try.prog 53 #[.pointer (some ⟨n, 0, none⟩)] w fun e w' => e = .returned (.func (.func 70) #[] #[.pointer (some ⟨w.heap.size, 0, none⟩)]) ∧ w' = w.alloc (.cells #[.pointer (some ⟨n, 0, none⟩)] 25) := by
  refine calls_by fun R HR => ?_
  go_enter Try.func53, Try.ntmps53
  go_wp2
  exact HR.out _ _ ⟨rfl, rfl⟩
set_option maxRecDepth 100000 in
set_option maxHeartbeats 4000000 in
theorem mback_iter (k0 bx n : Nat) (va : Option Addr) (vc : Nat) (l : List VerD) (I : Nat → World → Prop) (w : World) (hl : l.length ≤ 1000000)
    (hI : ∀ k A, I k A → A.cell? ⟨bx, 0, none⟩ = some (.pointer (some ⟨n, 0, none⟩)) ∧ A.cell? ⟨n, 7, none⟩ = some (.slice va l.length vc) ∧ Rd verD A (.slice va l.length vc) l) :
    IterAll Fence.wide k0 Try.prog 70 #[.pointer (some ⟨bx, 0, none⟩)] (fun x : VerD => #[.agg #[.int .i64 x.1, .int .i64 x.2.1, .string x.2.2]]) I (fun k x => k < l.length ∧ l[l.length - 1 - k]? = some x) (fun k _ k' => k' = k + 1) (fun _ _ => False) 0 (fun k => k = l.length) w := by
  intro lp J Jx W hW hJI hJB hY hS h0
  have HI := Lib.hid (fun k A (h : J k A) => hI k A (hJI k A h))
  have HYd := Lib.hid hY
  have H0 := Lib.hid h0
  have HL := Lib.hid hl
  have hll : (l.length : Int) ≤ 1000000 := by omega
  clear hJI hJB hY hS h0 hI hl
  obtain ⟨b0, b1, -⟩ := HI.out 0 W H0.out
  have hw1 : wrap64 ((l.length : Int) - 1) = (l.length : Int) - 1 := by unfold wrap64; omega
  refine callsIn_of_wp Try.func70 rfl trivial ?_ rfl
  simp only [Try.ntmps70, List.size_toArray, List.length_cons, List.length_nil, Nat.reduceAdd, Nat.reduceSub, Array.replicate_succ, Array.replicate_zero, List.push_toArray, List.append_toArray, List.nil_append, List.cons_append]
  gi_wp2
  gi_loopw [3] (fun v wr => ∃ (j : Nat), j ≤ l.length ∧ v = .int .i64 ((j : Int) - 1) ∧ Hid (J (l.length - j) wr)) (fun v _ => (intOf v + 1).toNat)
  case atStart => exact ⟨l.length, Nat.le_refl _, rfl, by rw [Nat.sub_self]; exact H0⟩
  case round =>
    obtain ⟨j, hj, rfl, hN⟩ := hrel
    obtain ⟨c0, c1, hr⟩ := HI.out _ wr hN.out
    cases j with
    | zero =>
      have hz : decide ((0 : Int) ≤ ((0 : Nat) : Int) - 1) = false := decide_eq_false (by omega)
      have hz2 : ¬ ((0 : Int) ≤ ((0 : Nat) : Int) - 1) := by omega
      clear hr
      gi_wp2
      go_end0
      exact ⟨⟨_, rfl⟩, Or.inl (by first | exact hN.out | exact ⟨l.length, rfl, hN.out⟩)⟩
    | succ i =>
      have hN2 : Hid (J (l.length - 1 - i) wr) := Lib.hid (by have := hN.out; rwa [show l.length - (i + 1) = l.length - 1 - i by omega] at this)
      clear hN
      have e0 : (((i + 1 : Nat) : Int) - 1) = (i : Int) := by omega
      rw [e0]
      have hlt : i < l.length := by omega
      have hki : (i : Int) < (l.length : Int) := by omega
      obtain ⟨x, hx⟩ : ∃ x, l[i]? = some x := ⟨_, List.getElem?_eq_getElem hlt⟩
      obtain ⟨b, o, ha, hb0, dd⟩ := hr.at i x hx
      cases ha
      have HX := Lib.hid (show l.length - 1 - i < l.length ∧ l[l.length - 1 - (l.length - 1 - i)]? = some x from ⟨by omega, by rw [show l.length - 1 - (l.length - 1 - i) = i by omega]; exact hx⟩)
      have HR3 := Lib.hid (HYd.out _ x wr hN2.out HX.out)
      obtain ⟨xl, xe, xt⟩ := x
      have d0 : wr.cell? ⟨b, o + i * 3, none⟩ = some (.int .i64 xl) := dd 0 _ rfl
      have d1 : wr.cell? ⟨b, o + i * 3 + 1, none⟩ = some (.int .i64 xe) := dd 1 _ rfl
      have d2 : wr.cell? ⟨b, o + i * 3 + 2, none⟩ = some (.string xt) := dd 2 _ rfl
      obtain ⟨fn, tmps, assign, body, hy, hR⟩ := HR3.out
      dsimp only at hy
      have HR4 := Lib.hid hR
      have hw2 : wrap64 ((i : Int) - 1) = (i : Int) - 1 := by unfold wrap64; omega
      clear dd hx hb0 hr HR3 hR
      gi_wp2
      refine ⟨(fun e => by cases e), HR4.out.mono ?_⟩
      rintro e W3 (⟨rfl, s', rfl, hJ3⟩ | ⟨rfl, hJ3⟩)
      · have H3 := Lib.hid hJ3
        clear hJ3
        gi_wp2
        go_roundw
        case rel => exact ⟨i, by omega, rfl, Lib.hid (by have := H3.out; rwa [show l.length - 1 - i + 1 = l.length - i by omega] at this)⟩
        case measure => simp [intOf]
      · have H3 := Lib.hid hJ3
        clear hJ3
        gi_wp2
        exact bodyPost_ret (results_none rfl _ _ _) rfl ⟨⟨_, rfl⟩, Or.inr H3.out⟩
set_option maxRecDepth 100000 in
set_option maxHeartbeats 8000000 in
theorem mnewest_any {n cc bn c mu mh mg : Nat} {rv vv : Value} {m : ModT} (lb fr up : Int) (w : World) (h : ModAt w n cc bn c mu mh mg rv vv m) (hl : m.vers.length ≤ 1000000) :
    Calls Try.prog 32 #[.pointer (some ⟨n, 0, none⟩), .int .i64 lb, .int .i64 fr, .int .i64 up] w fun e w' =>
      e = .returned (.tuple #[.agg #[.int .i64 ((newestN m.vers lb fr up).getD zeroVer).1, .int .i64 ((newestN m.vers lb fr up).getD zeroVer).2.1, .string ((newestN m.vers lb fr up).getD zeroVer).2.2], .bool (newestN m.vers lb fr up).isSome]) ∧ Below w.heap.size w w' := by
  have HD := Lib.hid h
  have HL := Lib.hid hl
  obtain ⟨va, vc, hvs, -⟩ := h.vers.shape
  subst hvs
  have HQ := Lib.hid (lastN_all m.vers lb fr up)
  have HQ0 := Lib.hid (lastN_zero m.vers lb fr up)
  have HQS := Lib.hid (lastN_step m.vers lb fr up)
  clear h hl
  obtain ⟨W1, hW1⟩ : ∃ W, w.alloc (.cells #[.int .i64 lb] 3) = W := ⟨_, rfl⟩
  have b1 : Below w.heap.size w W1 := by rw [← hW1]; exact alloc_below _ _
  have n1 : W1.heap[w.heap.size]? = some (.cells #[.int .i64 lb] 3 (0, 0)) := by rw [← hW1]; exact alloc_new _ _
  have s1 : W1.heap.size = w.heap.size + 1 := by rw [← hW1]; simp
  obtain ⟨W2, hW2⟩ : ∃ W, W1.alloc (.cells #[.int .i64 fr] 3) = W := ⟨_, rfl⟩
  have b2 : Below W1.heap.size W1 W2 := by rw [← hW2]; exact alloc_below _ _
  have n2 : W2.heap[W1.heap.size]? = some (.cells #[.int .i64 fr] 3 (0, 0)) := by rw [← hW2]; exact alloc_new _ _
  have s2 : W2.heap.size = w.heap.size + 2 := by rw [← hW2]; simp [s1]
  obtain ⟨W3, hW3⟩ : ∃ W, W2.alloc (.cells #[.int .i64 up] 3) = W := ⟨_, rfl⟩
  have b3 : Below W2.heap.size W2 W3 := by rw [← hW3]; exact alloc_below _ _
  have n3 : W3.heap[W2.heap.size]? = some (.cells #[.int .i64 up] 3 (0, 0)) := by rw [← hW3]; exact alloc_new _ _
  have s3 : W3.heap.size = w.heap.size + 3 := by rw [← hW3]; simp [s2]
  obtain ⟨W4, hW4⟩ : ∃ W, W3.alloc (.cells #[.int .i64 0, .int .i64 0, .string ⟨#[]⟩] 66) = W := ⟨_, rfl⟩
  have b4 : Below W3.heap.size W3 W4 := by rw [← hW4]; exact alloc_below _ _
  have n4 : W4.heap[W3.heap.size]? = some (.cells #[.int .i64 0, .int .i64 0, .string ⟨#[]⟩] 66 (0, 0)) := by rw [← hW4]; exact alloc_new _ _
  have s4 : W4.heap.size = w.heap.size + 4 := by rw [← hW4]; simp [s3]
  obtain ⟨W5, hW5⟩ : ∃ W, W4.alloc (.cells #[.int .i64 0, .int .i64 0, .string ⟨#[]⟩] 66) = W := ⟨_, rfl⟩
  have b5 : Below W4.heap.size W4 W5 := by rw [← hW5]; exact alloc_below _ _
  have n5 : W5.heap[W4.heap.size]? = some (.cells #[.int .i64 0, .int .i64 0, .string ⟨#[]⟩] 66 (0, 0)) := by rw [← hW5]; exact alloc_new _ _
  have s5 : W5.heap.size = w.heap.size + 5 := by rw [← hW5]; simp [s4]
  obtain ⟨W6, hW6⟩ : ∃ W, W5.alloc (.cells #[.bool false] 4) = W := ⟨_, rfl⟩
  have b6 : Below W5.heap.size W5 W6 := by rw [← hW6]; exact alloc_below _ _
  have n6 : W6.heap[W5.heap.size]? = some (.cells #[.bool false] 4 (0, 0)) := by rw [← hW6]; exact alloc_new _ _
  have s6 : W6.heap.size = w.heap.size + 6 := by rw [← hW6]; simp [s5]
  obtain ⟨W7, hW7⟩ : ∃ W, W6.alloc (.cells #[.pointer (some ⟨n, 0, none⟩)] 25) = W := ⟨_, rfl⟩
  have b7 : Below W6.heap.size W6 W7 := by rw [← hW7]; exact alloc_below _ _
  have n7 : W7.heap[W6.heap.size]? = some (.cells #[.pointer (some ⟨n, 0, none⟩)] 25 (0, 0)) := by rw [← hW7]; exact alloc_new _ _
  have s7 : W7.heap.size = w.heap.size + 7 := by rw [← hW7]; simp [s6]
  rw [s1] at n2
  rw [s2] at n3
  rw [s3] at n4
  rw [s4] at n5
  rw [s5] at n6
  rw [s6] at n7
  replace n1 := blk_on b2 n1
  replace n1 := blk_on b3 n1
  replace n1 := blk_on b4 n1
  replace n1 := blk_on b5 n1
  replace n1 := blk_on b6 n1
  replace n1 := blk_on b7 n1
  replace n2 := blk_on b3 n2
  replace n2 := blk_on b4 n2
  replace n2 := blk_on b5 n2
  replace n2 := blk_on b6 n2
  replace n2 := blk_on b7 n2
  replace n3 := blk_on b4 n3
  replace n3 := blk_on b5 n3
  replace n3 := blk_on b6 n3
  replace n3 := blk_on b7 n3
  replace n4 := blk_on b5 n4
  replace n4 := blk_on b6 n4
  replace n4 := blk_on b7 n4
  replace n5 := blk_on b6 n5
  replace n5 := blk_on b7 n5
  replace n6 := blk_on b7 n6
  have B2 := b1.trans (b2.mono b1.size)
  have B3 := B2.trans (b3.mono B2.size)
  have B4 := B3.trans (b4.mono B3.size)
  have B5 := B4.trans (b5.mono B4.size)
  have B6 := B5.trans (b6.mono B5.size)
  have B7 := B6.trans (b7.mono B6.size)
  have H0 := Lib.hid (And.intro B7 (And.intro n1 (And.intro n2 (And.intro n3 (And.intro n4 (And.intro n5 (And.intro n6 n7)))))))
  have HS := Lib.hid (And.intro s6 s7)
  have E5 := Lib.hid (And.intro hW5 (And.intro hW6 hW7))
  clear hW5 hW6 hW7 s5 s6 s7
  clear b1 b2 b3 b4 b5 b6 b7 B2 B3 B4 B5 B6 B7 n1 n2 n3 n4 n5 n6 n7
  refine (callsIn_wide (n := 5)).1 ?_
  refine callsIn_of_wp_marks Try.func32 rfl trivial ?_ rfl
  simp only [Try.ntmps32, List.size_toArray, List.length_cons, List.length_nil, Nat.reduceAdd, Nat.reduceSub, Array.replicate_succ, Array.replicate_zero, List.push_toArray, List.append_toArray, List.nil_append, List.cons_append]
  gi_wp2
  rw [E5.out.1, E5.out.2.1]
  refine ⟨trivial, (callsIn_wide.2 (mback_any n _)).mono ?_⟩
  rintro e v7 ⟨rfl, hv7⟩
  rw [hv7, E5.out.2.2]
  clear hv7
  gi_wp2
  have HN := Lib.hid (show NewI w n m.vers lb fr up 0 W7 from ⟨H0.out.1, H0.out.2.1, H0.out.2.2.1, H0.out.2.2.2.1, H0.out.2.2.2.2.1, by rw [HQ0.out]; exact H0.out.2.2.2.2.2.1, by rw [HQ0.out]; exact H0.out.2.2.2.2.2.2.1, H0.out.2.2.2.2.2.2.2⟩)
  have HZ := Lib.hid (show w.heap.size ≤ W7.heap.size from H0.out.1.size)
  rw [HS.out.1]
  refine wpIn_range_gen (σ := Nat) (α := VerD) rfl (by omega) (gf := 70) (lb := #[.pointer (some ⟨w.heap.size + 6, 0, none⟩)]) rfl trivial (enters_of Try.func70 (by kernel_rfl) rfl)
    (NewI w n m.vers lb fr up) (fun _ _ => False)
    (mback_iter _ (w.heap.size + 6) n va vc m.vers _ _ HL.out fun k A hk => ⟨by rw [cell_of_row _ _ _ _ _ _ hk.box]; rfl, by rw [cell_of_row _ _ _ _ _ _ (HD.out.below hk.b).blk]; rfl, (HD.out.below hk.b).vers.rd⟩) (fun _ => rfl)
    (NewI.own w n m.vers lb fr up _ HZ.out) (fun _ _ _ _ h => h.elim) (fun s A B h _ hb => h.on hb) (fun _ _ _ _ h => h.elim) HN.out
    (fun x b => { tmps := #[.pointer (some ⟨n, 0, none⟩), .int .i64 lb, .int .i64 fr, .int .i64 up, undef, .pointer (some ⟨w.heap.size, 0, none⟩), .pointer (some ⟨w.heap.size + 1, 0, none⟩), .pointer (some ⟨w.heap.size + 2, 0, none⟩), .pointer (some ⟨w.heap.size + 3, 0, none⟩), .bool false, .pointer (some ⟨w.heap.size + 4, 0, none⟩), .pointer (some ⟨w.heap.size + 4 + 1, 0, none⟩), .pointer (some ⟨b, 0, none⟩), .agg #[.int .i64 0, .int .i64 0, .string ⟨#[]⟩], .pointer (some ⟨n, 0, none⟩), .func (.func 70) #[] #[.pointer (some ⟨w.heap.size + 6, 0, none⟩)], .agg (verC x), undef, undef, undef, undef, undef, undef, undef, undef, undef, undef, undef, undef, undef, undef, undef, undef, undef, undef, undef, undef, undef, undef, undef, undef, undef, undef, undef, undef, undef, undef], defers := [] })
    (fun x W => W.alloc (.cells (verC x) 66)) (fun p W => W.heap[p.2]? = some (.cells (verC p.1) 66 (0, 0))) (fun p W W' row hs hg hr => (grownBy_keeps_cells hg (fun r e => (hr r e).2) hs rfl).trans hs) (fun x W => ⟨alloc_below _ _, alloc_new _ _⟩)
    ?assign ?body ?done (fun _ _ _ _ h => h.elim)
  case assign =>
    rintro lp ⟨xl, xe, xt⟩ W K hK
    gi_wp2
    exact hK
  case body =>
    rintro lp k ⟨xl, xe, xt⟩ b W hb hbW hI ⟨hk, hx⟩ hN9
    have HI := Lib.hid hI
    have HX := Lib.hid (HQS.out k _ hk hx)
    have HX9 := Lib.hid hN9
    clear hk hx hN9 hI
    obtain ⟨p0, q0⟩ := blk1 HI.out.blb
    obtain ⟨p1, q1⟩ := blk1 HI.out.bfr
    obtain ⟨p2, q2⟩ := blk1 HI.out.bup
    obtain ⟨p3, p4, p5, q3, q4, q5⟩ := blk3 HI.out.best
    obtain ⟨p6, q6⟩ := blk1 HI.out.any
    obtain ⟨p7, p8, p9, -, -, -⟩ := blk3 HX9.out
    have HM := Lib.hid (fun e => NewI.miss HI.out (k := k) e)
    have HH := Lib.hid (fun e => NewI.hit (x := (xl, xe, xt)) HI.out (k := k) e)
    have HK1 : Hid (∀ v1 v2 v3 v4 : Value, KeepsFrom W7.heap.size W ((((W.setCell ⟨w.heap.size + 4, 0, none⟩ v1).setCell ⟨w.heap.size + 4, 1, none⟩ v2).setCell ⟨w.heap.size + 4, 2, none⟩ v3).setCell ⟨w.heap.size + 5, 0, none⟩ v4)) := Lib.hid fun v1 v2 v3 v4 => KeepsOthers.from ((((KeepsOthers.setCell _ _ _).trans (KeepsOthers.setCell _ _ _)).trans (KeepsOthers.setCell _ _ _)).trans (KeepsOthers.setCell _ _ _)) _
    clear HX9
    by_cases e1 : xl = lb
    case neg =>
      have e1b : (xl == lb) = false := by simpa using e1
      have HE := Lib.hid (show lastN m.vers lb fr up (k + 1) = lastN m.vers lb fr up k by rw [HX.out, stepV, if_neg]; simp [hitB, e1])
      clear HI
      gi_wp2
      exact ⟨KeepsFrom.refl _ _, k + 1, rfl, HM.out HE.out⟩
    obtain rfl : lb = xl := e1.symm
    clear e1
    by_cases e2 : fr ≤ xe
    case neg =>
      have e2b : decide (fr ≤ xe) = false := decide_eq_false e2
      have HE := Lib.hid (show lastN m.vers lb fr up (k + 1) = lastN m.vers lb fr up k by rw [HX.out, stepV, if_neg]; simp [hitB, e2])
      clear HI
      gi_wp2
      exact ⟨KeepsFrom.refl _ _, k + 1, rfl, HM.out HE.out⟩
    have e2b : decide (fr ≤ xe) = true := decide_eq_true e2
    by_cases e3 : xe ≤ up
    case neg =>
      have e3b : decide (xe ≤ up) = false := decide_eq_false e3
      have HE := Lib.hid (show lastN m.vers lb fr up (k + 1) = lastN m.vers lb fr up k by rw [HX.out, stepV, if_neg]; simp [hitB, e3])
      clear HI
      gi_wp2
      exact ⟨KeepsFrom.refl _ _, k + 1, rfl, HM.out HE.out⟩
    have e3b : decide (xe ≤ up) = true := decide_eq_true e3
    have hit : hitB (lb, xe, xt) lb fr up = true := by simp [hitB, e2, e3]
    rw [stepV, if_pos hit] at HX
    cases hob : lastN m.vers lb fr up k with
    | none =>
      rw [hob] at HX p6
      have HE := Lib.hid (show lastN m.vers lb fr up (k + 1) = some (lb, xe, xt) from HX.out)
      simp only [Option.isSome] at p6
      clear HI hob
      gi_wp2
      exact ⟨HK1.out _ _ _ _, k + 1, rfl, HH.out HE.out⟩
    | some u =>
      obtain ⟨ul, ue, ut⟩ := u
      rw [hob] at HX p6 p3 p4 p5
      simp only [Option.isSome, Option.getD] at p6 p3 p4 p5
      by_cases e4 : ue < xe
      · have HE := Lib.hid (show lastN m.vers lb fr up (k + 1) = some (lb, xe, xt) by rw [HX.out]; exact if_pos e4)
        clear HI hob
        gi_wp2
        exact ⟨HK1.out _ _ _ _, k + 1, rfl, HH.out HE.out⟩
      · have HE := Lib.hid (show lastN m.vers lb fr up (k + 1) = lastN m.vers lb fr up k by rw [HX.out, hob]; exact if_neg e4)
        clear HI hob
        gi_wp2
        exact ⟨KeepsFrom.refl _ _, k + 1, rfl, HM.out HE.out⟩
  case done =>
    rintro D k W hD rfl hI hK
    have HI := Lib.hid hI
    have HD9 := Lib.hid (And.intro hD hK)
    obtain ⟨p3, p4, p5, -, -, -⟩ := blk3 HI.out.best
    obtain ⟨p6, -⟩ := blk1 HI.out.any
    have hbest := HI.out.best
    have hany := HI.out.any
    rw [HQ.out] at hbest hany
    have HB9 := Lib.hid (And.intro hbest hany)
    clear hI hK hD p3 p4 p5 p6 hbest hany
    obtain ⟨V, hV⟩ : ∃ V, (newestN m.vers lb fr up).getD zeroVer = V := ⟨_, rfl⟩
    obtain ⟨S0, hS0⟩ : ∃ V, (newestN m.vers lb fr up).isSome = V := ⟨_, rfl⟩
    have HVS := Lib.hid (And.intro hV hS0)
    simp only [hV, hS0] at HB9
    clear hV hS0
    gi_wp2
    refine wpIn_wide.2 ?_
    refine wp_region_mv (fun f W' => RetCls w.heap.size w (w.heap.size + 4) (.cells (verC V) 66 (0, 0)) (w.heap.size + 5) (.cells #[.bool S0] 4 (0, 0)) (w.heap.size + 3) (verC zeroVer) (verC V) 66 (f 2) W' ∧ W'.heap[D]? = some (.deferred (some []))) (by kernel_rfl) ⟨RetCls.start HI.out.b HI.out.b.size HB9.out.1 HB9.out.2 HI.out.res, ((drew_below W).block _ (lt_of_block HD9.out.2)).trans HD9.out.2⟩ ?_
    obtain ⟨S, F, hF, hFC⟩ := moved_class (fun f W' => RetCls w.heap.size w (w.heap.size + 4) (.cells (verC V) 66 (0, 0)) (w.heap.size + 5) (.cells #[.bool S0] 4 (0, 0)) (w.heap.size + 3) (verC zeroVer) (verC V) 66 (f 2) W' ∧ W'.heap[D]? = some (.deferred (some [])))
    have k0 : ∀ s, (F s).cell? ⟨w.heap.size + 4, 0, none⟩ = some (.int .i64 V.1) := fun s => by
      obtain ⟨f, hf⟩ := hFC s
      exact (blk3 hf.1.x).1
    have k1 : ∀ s, (F s).cell? ⟨w.heap.size + 4, 1, none⟩ = some (.int .i64 V.2.1) := fun s => by
      obtain ⟨f, hf⟩ := hFC s
      exact (blk3 hf.1.x).2.1
    have k2 : ∀ s, (F s).cell? ⟨w.heap.size + 4, 2, none⟩ = some (.string V.2.2) := fun s => by
      obtain ⟨f, hf⟩ := hFC s
      exact (blk3 hf.1.x).2.2.1
    have ko : ∀ s, (F s).cell? ⟨w.heap.size + 5, 0, none⟩ = some (.bool S0) := fun s => by
      obtain ⟨f, hf⟩ := hFC s
      exact (blk1 hf.1.o).1
    show wpAnyM _ _ _ _ _ 4 (Array.replicate 4 false) _ _
    refine mv_read 0 hF (fun _ _ _ h => h) rfl (by kernel_rfl) (by kernel_rfl) (by kernel_rfl) (fun K hK => ?_)
    go_simp
    first | refine ⟨_, fun _ => rfl, hK _ _ ?_⟩ | refine hK _ _ ?_
    clear hK K
    refine mv_read 1 hF (fun _ _ _ h => h) rfl (by kernel_rfl) (by kernel_rfl) (by kernel_rfl) (fun K hK => ?_)
    go_simp
    first | refine ⟨_, fun _ => rfl, hK _ _ ?_⟩ | refine hK _ _ ?_
    clear hK K
    refine mv_store_blk 2 rfl (by kernel_rfl) rfl 66 (.tmp 8) (.tmp 45) rfl (w.heap.size + 3) 0 (verC V) rfl rfl (by kernel_rfl) (ver_one _ _ _) (fun g w9 ha h0 h => ?_) ?_
    · have h9 := h
      rw [h0] at h9
      refine ⟨verC zeroVer, 66, h9.1.z, Nat.le_refl 3, ?_⟩
      rw [splice_all (verC zeroVer) (verC V) rfl]
      show RetCls _ _ _ _ _ _ _ _ _ _ (upd g 2 undef 2) _ ∧ _
      rw [upd_self]
      exact ⟨h9.1.stored (by omega) (by omega) (by omega), (setRow_other _ _ _ _ (by have := HD9.out.1; have := HS.out; omega)).trans h9.2⟩
    refine mv_read 3 hF (fun _ _ _ h => h) rfl (by kernel_rfl) (by kernel_rfl) (by kernel_rfl) (fun K hK => ?_)
    go_simp
    first | refine ⟨_, fun _ => rfl, hK _ _ ?_⟩ | refine hK _ _ ?_
    clear hK K
    refine mv_end (by kernel_rfl) ?_
    intro y2 hy2
    have KY := Lib.hid (show y2.heap[w.heap.size + 3]? = some (.cells (verC V) 66 (0, 0)) from hy2.1.z)
    have BY := Lib.hid hy2.1.b
    have HK9 := Lib.hid hy2.2
    clear hy2 hF hFC k0 k1 k2 ko
    have KZ := Lib.hid (show (y2.putObj D (.deferred none)).heap[w.heap.size + 3]? = some (.cells (verC V) 66 (0, 0)) from (World.putObj_heap_other (by have := HD9.out.1; have := HS.out; omega)).trans KY.out)
    have BZ := Lib.hid (BY.out.trans (belowK_b (w := w) (Nat.le_refl _) y2 D _ (.deferred none) (by have := HD9.out.1; have := HZ.out; omega) HK9.out rfl rfl))
    obtain ⟨z0, z1, z2, -, -, -⟩ := blk3 KZ.out
    gi_wp2
    refine ⟨by simp, .inl ⟨_, _, rfl, run_takeDeferred HK9.out, ?_⟩⟩
    exact ⟨.tuple #[.agg (verC V), .bool S0], by simp [results, Try.results32, go_sem, z0, z1, z2], by rw [HVS.out.1, HVS.out.2], BZ.out⟩
end Go.Proofs.Ytnkiokaeooopgaa
/- A call done: where there is no model, a write, a close: of the program's model. -/
set_option maxRecDepth 100000
namespace Go.Proofs.Ytnkiokaeooopgaa
open Go.RowKit Ks Go.Maps
set_option linter.unusedVariables false
set_option linter.unusedSimpArgs false
theorem ans_one (e : Int) (s : ByteArray) (a b c d f g : Int) : (#[.int .i64 e, .string s, .int .i64 a, .int .i64 b, .int .i64 c, .int .i64 d, .int .i64 f, .int .i64 g] : Array Value).all (fun v => v.oneCell') = true := by simp [Value.oneCell']
abbrev callV (c : CallT) (ka : Option Addr) (kn kc : Nat) : Value := .agg #[.int .i64 c.kind, .int .i64 c.lba, .int .i64 c.epoch, .int .i64 c.time, .string c.data, .string c.name, .slice ka kn kc]
set_option maxRecDepth 100000 in
set_option maxHeartbeats 4000000 in
theorem mdo_no {v : Value} (cl : CallT) (ka : Option Addr) (kn kc : Nat) (w : World) (h : ModNo w v) :
    Calls Try.prog 11 #[v, callV cl ka kn kc] w fun e w' => e = .returned (.agg #[.int .i64 1, .string ⟨#[]⟩, .int .i64 0, .int .i64 0, .int .i64 0, .int .i64 0, .int .i64 0, .int .i64 0]) ∧ Below w.heap.size w w' := by
  refine calls_by fun R HR => ?_
  have HD := Lib.hid h
  have HT := Lib.hid (fun w h => mthere_no (v := v) w h)
  obtain ⟨ki, lb, ce, ti, da, na⟩ := cl
  clear h
  have H1 := Lib.hid (And.intro (Below.refl w.heap.size w) (HD.out))
  obtain ⟨W1, hW1⟩ : ∃ W1, w.alloc (.cells #[.int .i64 ki, .int .i64 lb, .int .i64 ce, .int .i64 ti, .string da, .string na, .slice ka kn kc] 32) = W1 := ⟨_, rfl⟩
  have hbW1 : Below w.heap.size w W1 := by rw [← hW1]; exact alloc_below w _
  have kW1 : W1.heap[w.heap.size]? = some (.cells #[.int .i64 ki, .int .i64 lb, .int .i64 ce, .int .i64 ti, .string da, .string na, .slice ka kn kc] 32 (0, 0)) := by rw [← hW1]; exact alloc_new w _
  have H2 := Lib.hid (And.intro (H1.out.1.trans (hbW1.mono H1.out.1.size)) (And.intro (H1.out.2.below hbW1) (kW1)))
  clear hbW1 kW1
  have s1 : w.heap.size < W1.heap.size := lt_of_block H2.out.2.2
  obtain ⟨W2, hW2⟩ : ∃ W2, W1.alloc (.cells #[.int .i64 0, .string ⟨#[]⟩, .int .i64 0, .int .i64 0, .int .i64 0, .int .i64 0, .int .i64 0, .int .i64 0] 37) = W2 := ⟨_, rfl⟩
  have hbW2 : Below W1.heap.size W1 W2 := by rw [← hW2]; exact alloc_below W1 _
  have kW2 : W2.heap[W1.heap.size]? = some (.cells #[.int .i64 0, .string ⟨#[]⟩, .int .i64 0, .int .i64 0, .int .i64 0, .int .i64 0, .int .i64 0, .int .i64 0] 37 (0, 0)) := by rw [← hW2]; exact alloc_new W1 _
  have H3 := Lib.hid (And.intro (H2.out.1.trans (hbW2.mono H2.out.1.size)) (And.intro (H2.out.2.1.below hbW2) (And.intro (blk_on hbW2 H2.out.2.2) (kW2))))
  clear hbW2 kW2
  go_enter Try.func11, Try.ntmps11
  go_wp2_with fail
  refine (HT.out _ H3.out.2.1).mono ?_
  rintro en y0 ⟨rfl, hw⟩
  rw [hw]
  clear hw hW1 hW2
  obtain ⟨WR, hWR⟩ : ∃ W, W2.setRow W1.heap.size #[.int .i64 1, .string ⟨#[]⟩, .int .i64 0, .int .i64 0, .int .i64 0, .int .i64 0, .int .i64 0, .int .i64 0] = W := ⟨_, rfl⟩
  have KE := Lib.hid (show WR.heap[W1.heap.size]? = some (.cells #[.int .i64 1, .string ⟨#[]⟩, .int .i64 0, .int .i64 0, .int .i64 0, .int .i64 0, .int .i64 0, .int .i64 0] 37 (0, 0)) by rw [← hWR]; exact setRow_heap W2 _ _ _ _ _ H3.out.2.2.2)
  have BE := Lib.hid (show Below w.heap.size w WR by rw [← hWR]; exact below_setRow H3.out.1 (Nat.le_of_lt s1) _)
  go_wp2_with (refine wpList_store_blk rfl 37 (.tmp 4) (.tmp 8) rfl W1.heap.size 0 8 rfl #[.int .i64 0, .string ⟨#[]⟩, .int .i64 0, .int .i64 0, .int .i64 0, .int .i64 0, .int .i64 0, .int .i64 0] #[.int .i64 1, .string ⟨#[]⟩, .int .i64 0, .int .i64 0, .int .i64 0, .int .i64 0, .int .i64 0, .int .i64 0] #[.int .i64 1, .string ⟨#[]⟩, .int .i64 0, .int .i64 0, .int .i64 0, .int .i64 0, .int .i64 0, .int .i64 0] rfl 37 H3.out.2.2.2 rfl (Nat.le_refl 8) (by kernel_rfl) (ans_one _ _ _ _ _ _ _ _) (splice_all _ _ rfl) ?_; rw [hWR])
  obtain ⟨⟨y0, y1, y2, y3, y4, y5, y6, y7⟩, -⟩ := blkR KE.out
  refine bodyPost_ret (v := .agg #[.int .i64 1, .string ⟨#[]⟩, .int .i64 0, .int .i64 0, .int .i64 0, .int .i64 0, .int .i64 0, .int .i64 0]) (by simp [results, Try.results11, go_sem, y0, y1, y2, y3, y4, y5, y6, y7]) rfl ?_
  exact HR.out _ _ ⟨rfl, BE.out⟩
theorem ModAt.ltF {w : World} {n cc bn c mu mh mg : Nat} {rv vv : Value} {m : ModT} (h : ModAt w n cc bn c mu mh mg rv vv m) : ∀ k, FM n cc bn c mu mh mg rv vv k → k < w.heap.size := by
  rintro k (rfl | rfl | q | q | q)
  · exact h.lt
  · exact lt_of_block h.clk
  · exact h.book.lt k q
  · exact (h.recs.lt q).2
  · exact (h.vers.lt q).2
theorem ModAt.sameF {w w' : World} {n cc bn c mu mh mg : Nat} {rv vv : Value} {m : ModT} (h : ModAt w n cc bn c mu mh mg rv vv m) (hk : ∀ k, FM n cc bn c mu mh mg rv vv k → w'.heap[k]? = w.heap[k]?) : ModAt w' n cc bn c mu mh mg rv vv m :=
  ⟨(hk n (Or.inl rfl)).trans h.blk, (hk cc (Or.inr (Or.inl rfl))).trans h.clk, h.book.same fun k o hf e => (hk k (Or.inr (Or.inr (Or.inl hf)))).trans e, h.recs.keep fun k e => hk k (Or.inr (Or.inr (Or.inr (Or.inl e)))), h.vers.keep fun k e => hk k (Or.inr (Or.inr (Or.inr (Or.inr e)))), h.ne, h.far⟩
set_option maxRecDepth 100000 in
set_option maxHeartbeats 4000000 in
theorem mdo_write {n cc bn c mu mh mg : Nat} {rv vv : Value} {m : ModT} (cl : CallT) (ka : Option Addr) (kn kc : Nat) (w : World) (h : ModAt w n cc bn c mu mh mg rv vv m) (hk : cl.kind = 1) (h7 : Seven n cc bn c mu mh mg) (hg : -9223372036854775808 ≤ m.geo.blocks ∧ m.geo.blocks ≤ 9223372036854775807) (hu : 0 ≤ m.used ∧ m.used ≤ 1000000000) (hn : m.vers.length ≤ 1000000) :
    Calls Try.prog 11 #[.pointer (some ⟨n, 0, none⟩), callV cl ka kn kc] w fun e w' => e = .returned (.agg #[.int .i64 (writeE m cl), .string ⟨#[]⟩, .int .i64 0, .int .i64 0, .int .i64 0, .int .i64 0, .int .i64 0, .int .i64 0]) ∧ ∃ vv', ModAt w' n cc bn c mu mh mg rv vv' (writeM m cl) ∧ Turn w w' (FM n cc bn c mu mh mg rv vv) (FM n cc bn c mu mh mg rv vv') := by
  refine calls_by fun R HR => ?_
  have HD := Lib.hid h
  have HT := Lib.hid (fun w (h : ModAt w n cc bn c mu mh mg rv vv m) => mthere_yes w h)
  have HC := Lib.hid (fun w (h : ModAt w n cc bn c mu mh mg rv vv m) => mwrite_any cl ka kn kc w h h7 hg hu hn)
  generalize (writeE m cl) = EE at *
  generalize writeM m cl = MM at *
  obtain ⟨ki, lb, ce, ti, da, na⟩ := cl
  simp only at hk
  subst hk
  clear h
  have H1 := Lib.hid (And.intro (Below.refl w.heap.size w) (HD.out))
  obtain ⟨W1, hW1⟩ : ∃ W1, w.alloc (.cells #[.int .i64 1, .int .i64 lb, .int .i64 ce, .int .i64 ti, .string da, .string na, .slice ka kn kc] 32) = W1 := ⟨_, rfl⟩
  have hbW1 : Below w.heap.size w W1 := by rw [← hW1]; exact alloc_below w _
  have kW1 : W1.heap[w.heap.size]? = some (.cells #[.int .i64 1, .int .i64 lb, .int .i64 ce, .int .i64 ti, .string da, .string na, .slice ka kn kc] 32 (0, 0)) := by rw [← hW1]; exact alloc_new w _
  have H2 := Lib.hid (And.intro (H1.out.1.trans (hbW1.mono H1.out.1.size)) (And.intro (H1.out.2.below hbW1) (kW1)))
  clear hbW1 kW1
  have s1 : w.heap.size < W1.heap.size := lt_of_block H2.out.2.2
  obtain ⟨W2, hW2⟩ : ∃ W2, W1.alloc (.cells #[.int .i64 0, .string ⟨#[]⟩, .int .i64 0, .int .i64 0, .int .i64 0, .int .i64 0, .int .i64 0, .int .i64 0] 37) = W2 := ⟨_, rfl⟩
  have hbW2 : Below W1.heap.size W1 W2 := by rw [← hW2]; exact alloc_below W1 _
  have kW2 : W2.heap[W1.heap.size]? = some (.cells #[.int .i64 0, .string ⟨#[]⟩, .int .i64 0, .int .i64 0, .int .i64 0, .int .i64 0, .int .i64 0, .int .i64 0] 37 (0, 0)) := by rw [← hW2]; exact alloc_new W1 _
  have H3 := Lib.hid (And.intro (H2.out.1.trans (hbW2.mono H2.out.1.size)) (And.intro (H2.out.2.1.below hbW2) (And.intro (blk_on hbW2 H2.out.2.2) (kW2))))
  clear hbW2 kW2
  obtain ⟨a0, a1, a2, a3, a4, a5, a6⟩ := blk7c H3.out.2.2.1
  go_enter Try.func11, Try.ntmps11
  go_wp2_with fail
  refine (HT.out _ H3.out.2.1).mono ?_
  rintro en y0 ⟨rfl, hw⟩
  rw [hw]
  clear hw hW1 hW2
  go_wp2_with fail
  refine (HC.out _ H3.out.2.1).mono ?_
  rintro en v9 ⟨rfl, nv, hm9, ht9⟩
  have hfm : ∀ k, FM n cc bn c mu mh mg rv vv k → k < w.heap.size := HD.out.ltF
  have KZ := Lib.hid (show v9.heap[W1.heap.size]? = some (.cells #[.int .i64 0, .string ⟨#[]⟩, .int .i64 0, .int .i64 0, .int .i64 0, .int .i64 0, .int .i64 0, .int .i64 0] 37 (0, 0)) from (ht9.block _ (lt_of_block H3.out.2.2.2) (fun q => by have := hfm _ q; omega)).trans H3.out.2.2.2)
  have hfm2 : ∀ k, FM n cc bn c mu mh mg rv nv k → k ≠ W1.heap.size := fun k q e => by rcases ht9.foot k q with h1 | h1; have := hfm k h1; omega; have := lt_of_block H3.out.2.2.2; omega
  have HT9 := Lib.hid ((Turn.of_below (FM n cc bn c mu mh mg rv vv) H3.out.1).trans ht9)
  have HM9 := Lib.hid hm9
  have HF2 := Lib.hid hfm2
  clear a0 a1 a2 a3 a4 a5 a6 hm9 ht9 hfm2 hfm
  obtain ⟨WR, hWR⟩ : ∃ W, v9.setRow W1.heap.size #[.int .i64 EE, .string ⟨#[]⟩, .int .i64 0, .int .i64 0, .int .i64 0, .int .i64 0, .int .i64 0, .int .i64 0] = W := ⟨_, rfl⟩
  have KE := Lib.hid (show WR.heap[W1.heap.size]? = some (.cells #[.int .i64 EE, .string ⟨#[]⟩, .int .i64 0, .int .i64 0, .int .i64 0, .int .i64 0, .int .i64 0, .int .i64 0] 37 (0, 0)) by rw [← hWR]; exact setRow_heap v9 _ _ _ _ _ KZ.out)
  have HO := Lib.hid (show ∀ k, k ≠ W1.heap.size → WR.heap[k]? = v9.heap[k]? from fun k hk => by rw [← hWR]; exact setRow_other _ _ _ _ hk)
  have HTR := Lib.hid (show Turn w WR (FM n cc bn c mu mh mg rv vv) (FM n cc bn c mu mh mg rv nv) from by rw [← hWR]; exact ⟨HT9.out.os, HT9.out.tape, HT9.out.output, by simpa using HT9.out.size, fun k hk hF => (setRow_other _ _ _ _ (by omega)).trans (HT9.out.block k hk hF), HT9.out.foot⟩)
  go_wp2_with (refine wpList_store_blk rfl 37 (.tmp 4) (.tmp 33) rfl W1.heap.size 0 8 rfl #[.int .i64 0, .string ⟨#[]⟩, .int .i64 0, .int .i64 0, .int .i64 0, .int .i64 0, .int .i64 0, .int .i64 0] #[.int .i64 EE, .string ⟨#[]⟩, .int .i64 0, .int .i64 0, .int .i64 0, .int .i64 0, .int .i64 0, .int .i64 0] #[.int .i64 EE, .string ⟨#[]⟩, .int .i64 0, .int .i64 0, .int .i64 0, .int .i64 0, .int .i64 0, .int .i64 0] rfl 37 KZ.out rfl (Nat.le_refl 8) (by kernel_rfl) (ans_one _ _ _ _ _ _ _ _) (splice_all _ _ rfl) ?_; rw [hWR])
  obtain ⟨⟨y0, y1, y2, y3, y4, y5, y6, y7⟩, -⟩ := blkR KE.out
  refine bodyPost_ret (v := .agg #[.int .i64 EE, .string ⟨#[]⟩, .int .i64 0, .int .i64 0, .int .i64 0, .int .i64 0, .int .i64 0, .int .i64 0]) (by simp [results, Try.results11, go_sem, y0, y1, y2, y3, y4, y5, y6, y7]) rfl ?_
  exact HR.out _ _ ⟨rfl, nv, HM9.out.sameF (fun k q => HO.out k (HF2.out k q)), HTR.out⟩
set_option maxRecDepth 100000 in
set_option maxHeartbeats 4000000 in
theorem mdo_close {n cc bn c mu mh mg : Nat} {rv vv : Value} {m : ModT} (cl : CallT) (ka : Option Addr) (kn kc : Nat) (w : World) (h : ModAt w n cc bn c mu mh mg rv vv m) (hk : cl.kind = 5) (h7 : Seven n cc bn c mu mh mg) (hg : -9223372036854775808 ≤ m.geo.blocks ∧ m.geo.blocks ≤ 9223372036854775807) (hh : m.book.holds.length ≤ 1000000) (hu : 0 ≤ m.used ∧ m.used ≤ 1000000000) (hn : m.recs.length ≤ 1000000) (hv : ∀ v ∈ m.vers, 0 ≤ v.1 ∧ v.1 < 4096) (hl : m.vers.length ≤ 1000000) :
    Calls Try.prog 11 #[.pointer (some ⟨n, 0, none⟩), callV cl ka kn kc] w fun e w' => e = .returned (.agg #[.int .i64 (closeE m), .string ⟨#[]⟩, .int .i64 0, .int .i64 0, .int .i64 0, .int .i64 0, .int .i64 0, .int .i64 0]) ∧ ∃ rv', ModAt w' n cc bn c mu mh mg rv' vv (closeM m (zerosS 32)) ∧ Turn w w' (FM n cc bn c mu mh mg rv vv) (FM n cc bn c mu mh mg rv' vv) := by
  refine calls_by fun R HR => ?_
  have HD := Lib.hid h
  have HT := Lib.hid (fun w (h : ModAt w n cc bn c mu mh mg rv vv m) => mthere_yes w h)
  have HC := Lib.hid (fun w (h : ModAt w n cc bn c mu mh mg rv vv m) => mclose_any w h h7 hg hh hu hn hv hl)
  generalize (closeE m) = EE at *
  generalize closeM m (zerosS 32) = MM at *
  obtain ⟨ki, lb, ce, ti, da, na⟩ := cl
  simp only at hk
  subst hk
  clear h
  have H1 := Lib.hid (And.intro (Below.refl w.heap.size w) (HD.out))
  obtain ⟨W1, hW1⟩ : ∃ W1, w.alloc (.cells #[.int .i64 5, .int .i64 lb, .int .i64 ce, .int .i64 ti, .string da, .string na, .slice ka kn kc] 32) = W1 := ⟨_, rfl⟩
  have hbW1 : Below w.heap.size w W1 := by rw [← hW1]; exact alloc_below w _
  have kW1 : W1.heap[w.heap.size]? = some (.cells #[.int .i64 5, .int .i64 lb, .int .i64 ce, .int .i64 ti, .string da, .string na, .slice ka kn kc] 32 (0, 0)) := by rw [← hW1]; exact alloc_new w _
  have H2 := Lib.hid (And.intro (H1.out.1.trans (hbW1.mono H1.out.1.size)) (And.intro (H1.out.2.below hbW1) (kW1)))
  clear hbW1 kW1
  have s1 : w.heap.size < W1.heap.size := lt_of_block H2.out.2.2
  obtain ⟨W2, hW2⟩ : ∃ W2, W1.alloc (.cells #[.int .i64 0, .string ⟨#[]⟩, .int .i64 0, .int .i64 0, .int .i64 0, .int .i64 0, .int .i64 0, .int .i64 0] 37) = W2 := ⟨_, rfl⟩
  have hbW2 : Below W1.heap.size W1 W2 := by rw [← hW2]; exact alloc_below W1 _
  have kW2 : W2.heap[W1.heap.size]? = some (.cells #[.int .i64 0, .string ⟨#[]⟩, .int .i64 0, .int .i64 0, .int .i64 0, .int .i64 0, .int .i64 0, .int .i64 0] 37 (0, 0)) := by rw [← hW2]; exact alloc_new W1 _
  have H3 := Lib.hid (And.intro (H2.out.1.trans (hbW2.mono H2.out.1.size)) (And.intro (H2.out.2.1.below hbW2) (And.intro (blk_on hbW2 H2.out.2.2) (kW2))))
  clear hbW2 kW2
  obtain ⟨a0, a1, a2, a3, a4, a5, a6⟩ := blk7c H3.out.2.2.1
  go_enter Try.func11, Try.ntmps11
  go_wp2_with fail
  refine (HT.out _ H3.out.2.1).mono ?_
  rintro en y0 ⟨rfl, hw⟩
  rw [hw]
  clear hw hW1 hW2
  go_wp2_with fail
  refine (HC.out _ H3.out.2.1).mono ?_
  rintro en v9 ⟨rfl, nv, hm9, ht9⟩
  have hfm : ∀ k, FM n cc bn c mu mh mg rv vv k → k < w.heap.size := HD.out.ltF
  have KZ := Lib.hid (show v9.heap[W1.heap.size]? = some (.cells #[.int .i64 0, .string ⟨#[]⟩, .int .i64 0, .int .i64 0, .int .i64 0, .int .i64 0, .int .i64 0, .int .i64 0] 37 (0, 0)) from (ht9.block _ (lt_of_block H3.out.2.2.2) (fun q => by have := hfm _ q; omega)).trans H3.out.2.2.2)
  have hfm2 : ∀ k, FM n cc bn c mu mh mg nv vv k → k ≠ W1.heap.size := fun k q e => by rcases ht9.foot k q with h1 | h1; have := hfm k h1; omega; have := lt_of_block H3.out.2.2.2; omega
  have HT9 := Lib.hid ((Turn.of_below (FM n cc bn c mu mh mg rv vv) H3.out.1).trans ht9)
  have HM9 := Lib.hid hm9
  have HF2 := Lib.hid hfm2
  clear a0 a1 a2 a3 a4 a5 a6 hm9 ht9 hfm2 hfm
  obtain ⟨WR, hWR⟩ : ∃ W, v9.setRow W1.heap.size #[.int .i64 EE, .string ⟨#[]⟩, .int .i64 0, .int .i64 0, .int .i64 0, .int .i64 0, .int .i64 0, .int .i64 0] = W := ⟨_, rfl⟩
  have KE := Lib.hid (show WR.heap[W1.heap.size]? = some (.cells #[.int .i64 EE, .string ⟨#[]⟩, .int .i64 0, .int .i64 0, .int .i64 0, .int .i64 0, .int .i64 0, .int .i64 0] 37 (0, 0)) by rw [← hWR]; exact setRow_heap v9 _ _ _ _ _ KZ.out)
  have HO := Lib.hid (show ∀ k, k ≠ W1.heap.size → WR.heap[k]? = v9.heap[k]? from fun k hk => by rw [← hWR]; exact setRow_other _ _ _ _ hk)
  have HTR := Lib.hid (show Turn w WR (FM n cc bn c mu mh mg rv vv) (FM n cc bn c mu mh mg nv vv) from by rw [← hWR]; exact ⟨HT9.out.os, HT9.out.tape, HT9.out.output, by simpa using HT9.out.size, fun k hk hF => (setRow_other _ _ _ _ (by omega)).trans (HT9.out.block k hk hF), HT9.out.foot⟩)
  go_wp2_with (refine wpList_store_blk rfl 37 (.tmp 4) (.tmp 57) rfl W1.heap.size 0 8 rfl #[.int .i64 0, .string ⟨#[]⟩, .int .i64 0, .int .i64 0, .int .i64 0, .int .i64 0, .int .i64 0, .int .i64 0] #[.int .i64 EE, .string ⟨#[]⟩, .int .i64 0, .int .i64 0, .int .i64 0, .int .i64 0, .int .i64 0, .int .i64 0] #[.int .i64 EE, .string ⟨#[]⟩, .int .i64 0, .int .i64 0, .int .i64 0, .int .i64 0, .int .i64 0, .int .i64 0] rfl 37 KZ.out rfl (Nat.le_refl 8) (by kernel_rfl) (ans_one _ _ _ _ _ _ _ _) (splice_all _ _ rfl) ?_; rw [hWR])
  obtain ⟨⟨y0, y1, y2, y3, y4, y5, y6, y7⟩, -⟩ := blkR KE.out
  refine bodyPost_ret (v := .agg #[.int .i64 EE, .string ⟨#[]⟩, .int .i64 0, .int .i64 0, .int .i64 0, .int .i64 0, .int .i64 0, .int .i64 0]) (by simp [results, Try.results11, go_sem, y0, y1, y2, y3, y4, y5, y6, y7]) rfl ?_
  exact HR.out _ _ ⟨rfl, nv, HM9.out.sameF (fun k q => HO.out k (HF2.out k q)), HTR.out⟩
end Go.Proofs.Ytnkiokaeooopgaa
/- A drawn region walked by its class, where a struct is kept in a new block. Plain. No program is in sight. -/
namespace Ks
open Go Go.RowKit
set_option linter.unusedVariables false
def newC (Z E : Array Value) : Option Value → Array Value
  | none => Z
  | some _ => E
/-- worlds where a new block is made (a: what its making yielded) and stored into (s) -/
structure NewBlk (B : Nat) (w0 : World) (Z E : Array Value) (t : TypeId) (a s : Option Value) (w : World) : Prop where
  b : Below B w0 w
  hB : B ≤ w.heap.size
  ne : s ≠ none → a ≠ none
  blk : ∀ v, a = some v → ∃ b, v = .pointer (some ⟨b, 0, none⟩) ∧ B ≤ b ∧ w.heap[b]? = some (.cells (newC Z E s) t (0, 0))
section
variable {B : Nat} {w0 w w' : World} {Z E : Array Value} {t : TypeId} {a s : Option Value}
theorem NewBlk.start (hb : Below B w0 w) (hB : B ≤ w.heap.size) : NewBlk B w0 Z E t none none w.drew := ⟨hb.trans ((drew_below w).mono hB), hB, fun h => absurd rfl h, fun v h => by cases h⟩
theorem NewBlk.on (h : NewBlk B w0 Z E t a s w) (hb : Below w.heap.size w w') : NewBlk B w0 Z E t a s w' :=
  ⟨h.b.trans (hb.mono h.hB), Nat.le_trans h.hB hb.size, h.ne, fun v e => by
    obtain ⟨b, h1, h2, h3⟩ := h.blk v e
    exact ⟨b, h1, h2, (hb.block _ (lt_of_block h3)).trans h3⟩⟩
theorem NewBlk.made (h : NewBlk B w0 Z E t none s w) : NewBlk B w0 Z E t (some (.pointer (some ⟨w.heap.size, 0, none⟩))) s (w.alloc (.cells Z t)) := by
  have hs : s = none := Classical.byContradiction fun q => h.ne q rfl
  subst hs
  have hb := alloc_below w (.cells Z t)
  exact ⟨h.b.trans (hb.mono h.hB), Nat.le_trans h.hB hb.size, fun h => absurd rfl h, fun v e => by cases e; exact ⟨_, rfl, h.hB, alloc_new w _⟩⟩
theorem NewBlk.at {b : Nat} (h : NewBlk B w0 Z E t (some (.pointer (some ⟨b, 0, none⟩))) s w) : B ≤ b ∧ w.heap[b]? = some (.cells (newC Z E s) t (0, 0)) := by
  obtain ⟨b', h1, h2, h3⟩ := h.blk _ rfl
  cases h1
  exact ⟨h2, h3⟩
theorem NewBlk.stored {b : Nat} (h : NewBlk B w0 Z E t (some (.pointer (some ⟨b, 0, none⟩))) none w) : NewBlk B w0 Z E t (some (.pointer (some ⟨b, 0, none⟩))) (some undef) (w.setRow b E) :=
  ⟨below_setRow h.b h.at.1 _, by simpa using h.hB, (fun _ h => by cases h), fun v e => by cases e; exact ⟨b, rfl, h.at.1, setRow_heap w _ _ _ _ _ h.at.2⟩⟩
end
end Ks
namespace Ks
open Go Go.RowKit
set_option linter.unusedVariables false
/-- a cell of a block is set, if it was -/
def setT (W : World) (b j : Nat) (v : Value) : Option Value → World
  | none => W
  | some _ => W.setCell ⟨b, j, none⟩ v
theorem setT_cell {W : World} {b j : Nat} {v : Value} {t : Option Value} {p : Addr} (h : p.block ≠ b) : (setT W b j v t).cell? p = W.cell? p := by
  cases t with
  | none => rfl
  | some u => exact World.cell?_of_block (Below.heap_setCell _ _ _ _ h)
/-- worlds where two cells of a block are set, one behind the other -/
def SetTwo (W : World) (b i j : Nat) (u v : Value) (s t : Option Value) (w : World) : Prop := w = setT (setT W.drew b i u s) b j v t ∧ (t ≠ none → s ≠ none)
section
variable {W w : World} {b i j : Nat} {u v : Value} {s t : Option Value}
theorem SetTwo.start : SetTwo W b i j u v none none W.drew := ⟨rfl, fun h => absurd rfl h⟩
theorem SetTwo.cell {p : Addr} {x : Value} (h : SetTwo W b i j u v s t w) (hp : p.block ≠ b) (hx : W.cell? p = some x) : w.cell? p = some x := by
  rw [h.1, setT_cell hp, setT_cell hp]; exact hx
theorem SetTwo.one (h : SetTwo W b i j u v none t w) : w = W.drew ∧ SetTwo W b i j u v (some undef) t (w.setCell ⟨b, i, none⟩ u) := by
  have ht : t = none := Classical.byContradiction fun q => h.2 q rfl
  subst ht
  have e : w = W.drew := h.1
  exact ⟨e, by rw [e]; rfl, fun _ h => by cases h⟩
theorem SetTwo.two (h : SetTwo W b i j u v s none w) (hs : s ≠ none) : w = W.drew.setCell ⟨b, i, none⟩ u ∧ SetTwo W b i j u v s (some undef) (w.setCell ⟨b, j, none⟩ v) := by
  cases s with
  | none => exact absurd rfl hs
  | some s => exact ⟨h.1, by rw [h.1]; rfl, fun _ => hs⟩
theorem SetTwo.both {x y : Value} (h : SetTwo W b i j u v (some x) (some y) w) : w = (W.drew.setCell ⟨b, i, none⟩ u).setCell ⟨b, j, none⟩ v := h.1
end
end Ks
/- What a model answers who reads; which epoch may be meant: of the program's model. -/
set_option maxRecDepth 100000
namespace Go.Proofs.Ytnkiokaeooopgaa
open Go.RowKit Ks Go.Maps
set_option linter.unusedVariables false
set_option linter.unusedSimpArgs false
set_option maxRecDepth 100000 in
set_option maxHeartbeats 4000000 in
theorem mclosed_any {n cc bn c mu mh mg : Nat} {rv vv : Value} {m : ModT} (ep : Int) (w : World) (h : ModAt w n cc bn c mu mh mg rv vv m) : Calls Try.prog 63 #[.pointer (some ⟨n, 0, none⟩), .int .i64 ep] w fun e w' => e = .returned (.int .i64 (closedE m ep)) ∧ w' = w := by
  refine calls_by fun R HR => ?_
  have HE := Lib.hid (bepoch_any w h.book)
  have HZ0 : Hid (closedE m ep = if ep < m.geo.first ∨ m.book.epoch < ep then 7 else if ep = m.book.epoch then 8 else 0) := Lib.hid rfl
  obtain ⟨⟨z0, z1, z2, z3, z4, z5, z6, z7⟩, -⟩ := blkR h.blk
  generalize closedE m ep = CE at *
  clear h
  by_cases h1 : ep < m.geo.first
  · have HZ := Lib.hid (show CE = 7 by rw [HZ0.out, if_pos (Or.inl h1)])
    go_enter Try.func63, Try.ntmps63
    go_wp2
    exact HR.out _ _ ⟨by rw [HZ.out] <;> rfl, rfl⟩
  · have h1d : decide (ep < m.geo.first) = false := decide_eq_false h1
    go_enter Try.func63, Try.ntmps63
    go_wp2_with fail
    refine HE.out.mono ?_
    rintro en y9 ⟨rfl, hw⟩
    rw [hw]
    clear hw y9
    by_cases h2 : m.book.epoch < ep
    · have HZ := Lib.hid (show CE = 7 by rw [HZ0.out, if_pos (Or.inr h2)])
      go_wp2
      exact HR.out _ _ ⟨by rw [HZ.out] <;> rfl, rfl⟩
    · have h2d : decide (m.book.epoch < ep) = false := decide_eq_false h2
      go_wp2_with fail
      refine HE.out.mono ?_
      rintro en y9 ⟨rfl, hw⟩
      rw [hw]
      clear hw y9
      by_cases h3 : ep = m.book.epoch
      · have h3d : (ep == m.book.epoch) = true := by simpa using h3
        have HZ := Lib.hid (show CE = 8 by rw [HZ0.out, if_neg (show ¬ (ep < m.geo.first ∨ m.book.epoch < ep) by omega), if_pos h3])
        go_wp2
        exact HR.out _ _ ⟨by rw [HZ.out] <;> rfl, rfl⟩
      · have h3d : (ep == m.book.epoch) = false := by simpa using h3
        have HZ := Lib.hid (show CE = 0 by rw [HZ0.out, if_neg (show ¬ (ep < m.geo.first ∨ m.book.epoch < ep) by omega), if_neg h3])
        go_wp2
        exact HR.out _ _ ⟨by rw [HZ.out] <;> rfl, rfl⟩
theorem eg_newest : ∀ args w, (callFunc 32 args).run Try.prog w = .ok (.enter 32 args) w := fun _ _ => rfl
def readE (m : ModT) (lba ep : Int) (v : Option VerD) : AnsT :=
  if placeE m lba ≠ 0 then errA (placeE m lba) else if ep < m.geo.first ∨ m.book.epoch < ep ∨ v.isSome = false then errA 7
  else if goneB m.book (v.getD zeroVer).2.1 then errA 13 else ⟨0, (v.getD zeroVer).2.2, (0, 0, 0, 0, 0, 0)⟩
theorem readE_eq (m : ModT) (lba ep : Int) : readE m lba ep (newestN m.vers lba m.geo.first ep) = readA m lba ep := by
  unfold readE readA
  cases newestN m.vers lba m.geo.first ep with
  | none =>
    by_cases h1 : placeE m lba ≠ 0
    · rw [if_pos h1, if_pos h1]
    · have h3 : ep < m.geo.first ∨ m.book.epoch < ep ∨ (none : Option VerD).isSome = false := Or.inr (Or.inr rfl)
      rw [if_neg h1, if_neg h1, if_pos h3]
      by_cases h2 : ep < m.geo.first ∨ m.book.epoch < ep
      · rw [if_pos h2]
      · rw [if_neg h2]
  | some v =>
    by_cases h1 : placeE m lba ≠ 0
    · rw [if_pos h1, if_pos h1]
    · rw [if_neg h1, if_neg h1]
      by_cases h2 : ep < m.geo.first ∨ m.book.epoch < ep
      · rw [if_pos h2, if_pos (h2.elim Or.inl (fun q => Or.inr (Or.inl q)))]
      · rw [if_neg h2, if_neg (fun q => q.elim (fun q => h2 (Or.inl q)) (fun q => q.elim (fun q => h2 (Or.inr q)) (fun q => by cases q)))]
        rfl
set_option maxRecDepth 100000 in
set_option maxHeartbeats 4000000 in
theorem mread_any {n cc bn c mu mh mg : Nat} {rv vv : Value} {m : ModT} (cl : CallT) (ka : Option Addr) (kn kc : Nat) (w : World) (h : ModAt w n cc bn c mu mh mg rv vv m) (hl : m.vers.length ≤ 1000000) (hv : ∀ v ∈ m.vers, -9223372036854775808 ≤ v.2.1 ∧ v.2.1 ≤ 9223372036854775807) :
    Calls Try.prog 21 #[.pointer (some ⟨n, 0, none⟩), callV cl ka kn kc] w fun e w' => e = .returned (.agg (ansC (readA m cl.lba cl.epoch))) ∧ Below w.heap.size w w' := by
  rw [← readE_eq]
  refine calls_by fun R HR => ?_
  have HD := Lib.hid h
  have HP := Lib.hid (fun w (h : ModAt w n cc bn c mu mh mg rv vv m) => mplace_any cl.lba w h)
  have HN := Lib.hid (fun w (h : ModAt w n cc bn c mu mh mg rv vv m) => mnewest_any cl.lba m.geo.first cl.epoch w h hl)
  have HE := Lib.hid (fun w (h : ModAt w n cc bn c mu mh mg rv vv m) => bepoch_any w h.book)
  have hgk : -9223372036854775808 ≤ ((newestN m.vers cl.lba m.geo.first cl.epoch).getD zeroVer).2.1 ∧ ((newestN m.vers cl.lba m.geo.first cl.epoch).getD zeroVer).2.1 ≤ 9223372036854775807 := by
    cases q : newestN m.vers cl.lba m.geo.first cl.epoch with
    | none => exact ⟨by decide, by decide⟩
    | some v => exact hv v (newest_mem q).1
  have HG := Lib.hid (fun w (h : ModAt w n cc bn c mu mh mg rv vv m) => bgone_any ((newestN m.vers cl.lba m.geo.first cl.epoch).getD zeroVer).2.1 w h.book hgk)
  have HZ0 := Lib.hid (show readE m cl.lba cl.epoch (newestN m.vers cl.lba m.geo.first cl.epoch) = readE m cl.lba cl.epoch (newestN m.vers cl.lba m.geo.first cl.epoch) from rfl)
  conv at HZ0 => enter [1, 2]; unfold readE
  generalize readE m cl.lba cl.epoch (newestN m.vers cl.lba m.geo.first cl.epoch) = RA at *
  generalize newestN m.vers cl.lba m.geo.first cl.epoch = V at *
  generalize hPE : placeE m cl.lba = PE at *
  obtain ⟨ki, lb, ce, ti, da, na⟩ := cl
  simp only at HP HN HZ0
  clear h hl hv hgk hPE
  have H1 := Lib.hid (And.intro (Below.refl w.heap.size w) (HD.out))
  obtain ⟨W1, hW1⟩ : ∃ W1, w.alloc (.cells #[.int .i64 ki, .int .i64 lb, .int .i64 ce, .int .i64 ti, .string da, .string na, .slice ka kn kc] 32) = W1 := ⟨_, rfl⟩
  have hbW1 : Below w.heap.size w W1 := by rw [← hW1]; exact alloc_below w _
  have kW1 : W1.heap[w.heap.size]? = some (.cells #[.int .i64 ki, .int .i64 lb, .int .i64 ce, .int .i64 ti, .string da, .string na, .slice ka kn kc] 32 (0, 0)) := by rw [← hW1]; exact alloc_new w _
  have H2 := Lib.hid (And.intro (H1.out.1.trans (hbW1.mono H1.out.1.size)) (And.intro (H1.out.2.below hbW1) (kW1)))
  clear hbW1 kW1
  have s1 := Lib.hid (show w.heap.size < W1.heap.size from lt_of_block H2.out.2.2)
  obtain ⟨W2, hW2⟩ : ∃ W2, W1.alloc (.cells #[.int .i64 0, .string ⟨#[]⟩, .int .i64 0, .int .i64 0, .int .i64 0, .int .i64 0, .int .i64 0, .int .i64 0] 37) = W2 := ⟨_, rfl⟩
  have hbW2 : Below W1.heap.size W1 W2 := by rw [← hW2]; exact alloc_below W1 _
  have kW2 : W2.heap[W1.heap.size]? = some (.cells #[.int .i64 0, .string ⟨#[]⟩, .int .i64 0, .int .i64 0, .int .i64 0, .int .i64 0, .int .i64 0, .int .i64 0] 37 (0, 0)) := by rw [← hW2]; exact alloc_new W1 _
  have H3 := Lib.hid (And.intro (H2.out.1.trans (hbW2.mono H2.out.1.size)) (And.intro (H2.out.2.1.below hbW2) (And.intro (blk_on hbW2 H2.out.2.2) (kW2))))
  clear hbW2 kW2
  obtain ⟨a0, a1, a2, a3, a4, a5, a6⟩ := blk7c H3.out.2.2.1
  go_enter Try.func21, Try.ntmps21
  go_wp2_with fail
  refine (HP.out _ H3.out.2.1).mono ?_
  rintro en y9 ⟨rfl, hw⟩
  rw [hw]
  clear hw y9
  clear hW1 hW2
  by_cases hp : PE = 0
  case neg =>
    have hp2 : (PE != 0) = true := by simpa using hp
    have HZ := Lib.hid (show RA = errA PE by rw [HZ0.out, if_pos hp])
    obtain ⟨WR, hWR⟩ : ∃ W, W2.setRow W1.heap.size #[.int .i64 PE, .string ⟨#[]⟩, .int .i64 0, .int .i64 0, .int .i64 0, .int .i64 0, .int .i64 0, .int .i64 0] = W := ⟨_, rfl⟩
    have KE := Lib.hid (show WR.heap[W1.heap.size]? = some (.cells #[.int .i64 PE, .string ⟨#[]⟩, .int .i64 0, .int .i64 0, .int .i64 0, .int .i64 0, .int .i64 0, .int .i64 0] 37 (0, 0)) by rw [← hWR]; exact setRow_heap W2 _ _ _ _ _ H3.out.2.2.2)
    have BE := Lib.hid (show Below w.heap.size w WR by rw [← hWR]; exact below_setRow H3.out.1 (Nat.le_of_lt s1.out) _)
    go_wp2_with (refine wpList_store_blk rfl 37 (.tmp 4) (.tmp 15) rfl W1.heap.size 0 8 rfl #[.int .i64 0, .string ⟨#[]⟩, .int .i64 0, .int .i64 0, .int .i64 0, .int .i64 0, .int .i64 0, .int .i64 0] #[.int .i64 PE, .string ⟨#[]⟩, .int .i64 0, .int .i64 0, .int .i64 0, .int .i64 0, .int .i64 0, .int .i64 0] #[.int .i64 PE, .string ⟨#[]⟩, .int .i64 0, .int .i64 0, .int .i64 0, .int .i64 0, .int .i64 0, .int .i64 0] rfl 37 H3.out.2.2.2 rfl (Nat.le_refl 8) (by kernel_rfl) (ans_one _ _ _ _ _ _ _ _) (splice_all _ _ rfl) ?_; rw [hWR])
    obtain ⟨⟨y0, y1, y2, y3, y4, y5, y6, y7⟩, -⟩ := blkR KE.out
    refine bodyPost_ret (v := .agg #[.int .i64 PE, .string ⟨#[]⟩, .int .i64 0, .int .i64 0, .int .i64 0, .int .i64 0, .int .i64 0, .int .i64 0]) (by simp [results, Try.results21, go_sem, y0, y1, y2, y3, y4, y5, y6, y7]) rfl ?_
    exact HR.out _ _ ⟨by rw [HZ.out] <;> rfl, BE.out⟩
  subst hp
  rw [if_neg (show ¬ ((0 : Int) ≠ 0) by decide)] at HZ0
  obtain ⟨⟨z0, z1, z2, z3, z4, z5, z6, z7⟩, -⟩ := blkR H3.out.2.1.blk
  go_upto_region 4 with fail
  obtain ⟨⟨vl, ve, vd⟩, hV⟩ : ∃ x, V.getD zeroVer = x := ⟨_, rfl⟩
  obtain ⟨S0, hS0⟩ : ∃ x, V.isSome = x := ⟨_, rfl⟩
  simp only [hV] at HZ0 HG HN
  simp only [hS0] at HZ0 HN
  clear hV hS0
  refine wp_region_mv (fun f => NewBlk W2.heap.size W2 (verC zeroVer) (verC (vl, ve, vd)) 66 (f 14) (f 15)) (by kernel_rfl) (NewBlk.start (Below.refl _ _) (Nat.le_refl _)) ?_
  obtain ⟨S, F, hF, hFC⟩ := moved_class (fun f => NewBlk W2.heap.size W2 (verC zeroVer) (verC (vl, ve, vd)) 66 (f 14) (f 15))
  have ka1 : ∀ s, (F s).cell? ⟨w.heap.size, 1, none⟩ = some (.int .i64 lb) := fun s => (cell_on (hFC s).choose_spec.b a1).1
  have ka2 : ∀ s, (F s).cell? ⟨w.heap.size, 2, none⟩ = some (.int .i64 ce) := fun s => (cell_on (hFC s).choose_spec.b a2).1
  have kz2 : ∀ s, (F s).cell? ⟨n, 2, none⟩ = some (.int .i64 m.geo.first) := fun s => (cell_on (hFC s).choose_spec.b z2).1
  have kz0 : ∀ s, (F s).cell? ⟨n, 0, none⟩ = some (.int .i64 m.geo.blocks) := fun s => (cell_on (hFC s).choose_spec.b z0).1
  show wpAnyM _ _ _ _ _ 17 (Array.replicate 17 false) _ _
  refine mv_read 0 hF (fun _ _ _ h => h) rfl (by kernel_rfl) (by kernel_rfl) (by kernel_rfl) (fun K hK => ?_)
  go_simp
  first | refine ⟨_, fun _ => rfl, hK _ _ ?_⟩ | refine hK _ _ ?_
  clear hK K
  refine mv_read 1 hF (fun _ _ _ h => h) rfl (by kernel_rfl) (by kernel_rfl) (by kernel_rfl) (fun K hK => ?_)
  go_simp
  first | refine ⟨_, fun _ => rfl, hK _ _ ?_⟩ | refine hK _ _ ?_
  clear hK K
  refine mv_read 2 hF (fun _ _ _ h => h) rfl (by kernel_rfl) (by kernel_rfl) (by kernel_rfl) (fun K hK => ?_)
  go_simp
  first | refine ⟨_, fun _ => rfl, hK _ _ ?_⟩ | refine hK _ _ ?_
  clear hK K
  refine mv_read 3 hF (fun _ _ _ h => h) rfl (by kernel_rfl) (by kernel_rfl) (by kernel_rfl) (fun K hK => ?_)
  go_simp
  first | refine ⟨_, fun _ => rfl, hK _ _ ?_⟩ | refine hK _ _ ?_
  clear hK K
  refine mv_read 4 hF (fun _ _ _ h => h) rfl (by kernel_rfl) (by kernel_rfl) (by kernel_rfl) (fun K hK => ?_)
  go_simp
  first | refine ⟨_, fun _ => rfl, hK _ _ ?_⟩ | refine hK _ _ ?_
  clear hK K
  refine mv_read 5 hF (fun _ _ _ h => h) rfl (by kernel_rfl) (by kernel_rfl) (by kernel_rfl) (fun K hK => ?_)
  go_simp
  first | refine ⟨_, fun _ => rfl, hK _ _ ?_⟩ | refine hK _ _ ?_
  clear hK K
  refine mv_read 6 hF (fun _ _ _ h => h) rfl (by kernel_rfl) (by kernel_rfl) (by kernel_rfl) (fun K hK => ?_)
  go_simp
  first | refine ⟨_, fun _ => rfl, hK _ _ ?_⟩ | refine hK _ _ ?_
  clear hK K
  refine mv_read 7 hF (fun _ _ _ h => h) rfl (by kernel_rfl) (by kernel_rfl) (by kernel_rfl) (fun K hK => ?_)
  go_simp
  first | refine ⟨_, fun _ => rfl, hK _ _ ?_⟩ | refine hK _ _ ?_
  clear hK K
  refine mv_read 8 hF (fun _ _ _ h => h) rfl (by kernel_rfl) (by kernel_rfl) (by kernel_rfl) (fun K hK => ?_)
  go_simp
  first | refine ⟨_, fun _ => rfl, hK _ _ ?_⟩ | refine hK _ _ ?_
  clear hK K
  refine mv_read 9 hF (fun _ _ _ h => h) rfl (by kernel_rfl) (by kernel_rfl) (by kernel_rfl) (fun K hK => ?_)
  go_simp
  first | refine ⟨_, fun _ => rfl, hK _ _ ?_⟩ | refine hK _ _ ?_
  clear hK K
  refine mv_call1 10 32 rfl (by kernel_rfl) (by kernel_rfl) (by kernel_rfl) rfl rfl eg_newest (args := #[.pointer (some ⟨n, 0, none⟩), .int .i64 lb, .int .i64 m.geo.first, .int .i64 ce]) rfl (u := .tuple #[.agg #[.int .i64 vl, .int .i64 ve, .string vd], .bool S0]) (fun g w9 _ _ h => ((HN.out w9 (H3.out.2.1.below h.b)).mono fun en w8 ⟨h1, h2⟩ => ⟨h1, h.on h2⟩)) ?_
  refine mv_read 11 hF (fun _ _ _ h => h) rfl (by kernel_rfl) (by kernel_rfl) (by kernel_rfl) (fun K hK => ?_)
  go_simp
  first | refine ⟨_, fun _ => rfl, hK _ _ ?_⟩ | refine hK _ _ ?_
  clear hK K
  refine mv_read 12 hF (fun _ _ _ h => h) rfl (by kernel_rfl) (by kernel_rfl) (by kernel_rfl) (fun K hK => ?_)
  go_simp
  first | refine ⟨_, fun _ => rfl, hK _ _ ?_⟩ | refine hK _ _ ?_
  clear hK K
  refine mv_read 13 hF (fun _ _ _ h => h) rfl (by kernel_rfl) (by kernel_rfl) (by kernel_rfl) (fun K hK => ?_)
  go_simp
  first | refine ⟨_, fun _ => rfl, hK _ _ ?_⟩ | refine hK _ _ ?_
  clear hK K
  refine mv_alone 14 rfl (by kernel_rfl) rfl (fun v => ∃ b, v = .pointer (some ⟨b, 0, none⟩)) (fun g w9 _ h0 h D hD => ?_) ?_
  · have h9 := h
    simp only [h0] at h9
    have h8 := h9.made
    clear h h9
    go_simp
    exact hD _ _ ⟨_, rfl⟩ h8
  rintro _ ⟨vb, rfl⟩
  refine mv_store_blk 15 rfl (by kernel_rfl) rfl 66 (.tmp 6) (.tmp 28) rfl vb 0 (verC (vl, ve, vd)) rfl rfl (by kernel_rfl) (ver_one _ _ _) (fun g w9 ha h0 h => ?_) ?_
  · have e1 : g 14 = some (.pointer (some ⟨vb, 0, none⟩)) := (agree_on 14 ha (by kernel_rfl)).trans rfl
    have h9 := h
    simp only [e1, h0] at h9
    refine ⟨verC zeroVer, 66, h9.at.2, Nat.le_refl 3, ?_⟩
    rw [splice_all (verC zeroVer) (verC (vl, ve, vd)) rfl]
    show NewBlk _ _ _ _ _ (g 14) (upd g 15 undef 15) _
    rw [upd_self, e1]
    exact h9.stored
  refine mv_read 16 hF (fun _ _ _ h => h) rfl (by kernel_rfl) (by kernel_rfl) (by kernel_rfl) (fun K hK => ?_)
  go_simp
  first | refine ⟨_, fun _ => rfl, hK _ _ ?_⟩ | refine hK _ _ ?_
  clear hK K
  refine mv_end (by kernel_rfl) ?_
  intro q1 hq
  have HQ1 := Lib.hid (show Below W2.heap.size W2 q1 ∧ q1.heap[vb]? = some (.cells (verC (vl, ve, vd)) 66 (0, 0)) from ⟨hq.b, (NewBlk.at (b := vb) hq).2⟩)
  clear hq hF hFC ka1 ka2 kz2 kz0 a0 a1 a2 a3 a4 a5 a6 z0 z1 z2 z3 z4 z5 z6 z7
  have hb := HQ1.out.1
  have H4 := Lib.hid (And.intro (H3.out.1.trans (hb.mono H3.out.1.size)) (And.intro (H3.out.2.1.below hb) (And.intro (blk_on hb H3.out.2.2.1) (And.intro (blk_on hb H3.out.2.2.2) (HQ1.out.2)))))
  clear hb HQ1
  have HEb := Lib.hid (fun w (h : ModAt w n cc bn c mu mh mg rv vv m) => (HE.out w h).mono (R' := fun e w' => e = .returned (.int .i64 m.book.epoch) ∧ Below w.heap.size w w') fun e w' ⟨h1, h2⟩ => ⟨h1, by rw [h2]; exact Below.refl _ _⟩)
  have HGb := Lib.hid (fun w (h : ModAt w n cc bn c mu mh mg rv vv m) => (HG.out w h).mono (R' := fun e w' => e = .returned (.bool (goneB m.book ve)) ∧ Below w.heap.size w w') fun e w' ⟨h1, h2⟩ => ⟨h1, by rw [h2]; exact Below.refl _ _⟩)
  go_upto_region 5 with fail
  by_cases h1 : ce < m.geo.first
  · have h1d : decide (ce < m.geo.first) = true := decide_eq_true h1
    have hbad : ce < m.geo.first ∨ m.book.epoch < ce ∨ S0 = false := Or.inl h1
    obtain ⟨a0, a1, a2, a3, a4, a5, a6⟩ := blk7c H4.out.2.2.1
    obtain ⟨⟨z0, z1, z2, z3, z4, z5, z6, z7⟩, -⟩ := blkR H4.out.2.1.blk
    obtain ⟨v0, v1, v2, -, -, -⟩ := blk3 H4.out.2.2.2.2
    clear a0 a1 a3 a4 a5 a6 z1 z3 z4 z6 z7 v0 v1 v2
    have ga2 := fun p => after_cell a2 p
    have gz2 := fun p => after_cell z2 p
    have gz5 := fun p => after_cell z5 p
    have gz0 := fun p => after_cell z0 p
    refine wp_region_after (by kernel_rfl) (by kernel_rfl) ?_
    repeat (go_big_quiet_step (fail))
    refine wpQuiet_nil ?_
    rintro q2 ⟨p9, rfl⟩
    have hb := after_below q1 p9
    have H5 := Lib.hid (And.intro (H4.out.1.trans (hb.mono H4.out.1.size)) (And.intro (H4.out.2.1.below hb) (And.intro (blk_on hb H4.out.2.2.1) (And.intro (blk_on hb H4.out.2.2.2.1) (blk_on hb H4.out.2.2.2.2)))))
    generalize After q1 p9 = q2 at *
    clear hb ga2 gz2 gz5 gz0 a2 z2 z5 z0
    have HZ := Lib.hid (show RA = errA 7 by rw [HZ0.out, if_pos hbad])
    obtain ⟨WR, hWR⟩ : ∃ W, q2.setRow W1.heap.size #[.int .i64 7, .string ⟨#[]⟩, .int .i64 0, .int .i64 0, .int .i64 0, .int .i64 0, .int .i64 0, .int .i64 0] = W := ⟨_, rfl⟩
    have KE := Lib.hid (show WR.heap[W1.heap.size]? = some (.cells #[.int .i64 7, .string ⟨#[]⟩, .int .i64 0, .int .i64 0, .int .i64 0, .int .i64 0, .int .i64 0, .int .i64 0] 37 (0, 0)) by rw [← hWR]; exact setRow_heap q2 _ _ _ _ _ H5.out.2.2.2.1)
    have BE := Lib.hid (show Below w.heap.size w WR by rw [← hWR]; exact below_setRow H5.out.1 (Nat.le_of_lt s1.out) _)
    go_wp2_with (refine wpList_store_blk rfl 37 (.tmp 4) (.tmp 53) rfl W1.heap.size 0 8 rfl #[.int .i64 0, .string ⟨#[]⟩, .int .i64 0, .int .i64 0, .int .i64 0, .int .i64 0, .int .i64 0, .int .i64 0] #[.int .i64 7, .string ⟨#[]⟩, .int .i64 0, .int .i64 0, .int .i64 0, .int .i64 0, .int .i64 0, .int .i64 0] #[.int .i64 7, .string ⟨#[]⟩, .int .i64 0, .int .i64 0, .int .i64 0, .int .i64 0, .int .i64 0, .int .i64 0] rfl 37 H5.out.2.2.2.1 rfl (Nat.le_refl 8) (by kernel_rfl) (ans_one _ _ _ _ _ _ _ _) (splice_all _ _ rfl) ?_; rw [hWR])
    obtain ⟨⟨y0, y1, y2, y3, y4, y5, y6, y7⟩, -⟩ := blkR KE.out
    refine bodyPost_ret (v := .agg #[.int .i64 7, .string ⟨#[]⟩, .int .i64 0, .int .i64 0, .int .i64 0, .int .i64 0, .int .i64 0, .int .i64 0]) (by simp [results, Try.results21, go_sem, y0, y1, y2, y3, y4, y5, y6, y7]) rfl ?_
    exact HR.out _ _ ⟨by rw [HZ.out] <;> rfl, BE.out⟩
  have h1d : decide (ce < m.geo.first) = false := decide_eq_false h1
  have cc0 := Lib.hid (fun p => calls_after (p := p) (HEb.out (After q1 p) (H4.out.2.1.below (after_below q1 p))))
  by_cases h2 : m.book.epoch < ce
  · have h2d : decide (m.book.epoch < ce) = true := decide_eq_true h2
    have hbad : ce < m.geo.first ∨ m.book.epoch < ce ∨ S0 = false := Or.inr (Or.inl h2)
    obtain ⟨a0, a1, a2, a3, a4, a5, a6⟩ := blk7c H4.out.2.2.1
    obtain ⟨⟨z0, z1, z2, z3, z4, z5, z6, z7⟩, -⟩ := blkR H4.out.2.1.blk
    obtain ⟨v0, v1, v2, -, -, -⟩ := blk3 H4.out.2.2.2.2
    clear a0 a1 a3 a4 a5 a6 z1 z3 z4 z6 z7 v0 v1 v2
    have ga2 := fun p => after_cell a2 p
    have gz2 := fun p => after_cell z2 p
    have gz5 := fun p => after_cell z5 p
    have gz0 := fun p => after_cell z0 p
    refine wp_region_after (by kernel_rfl) (by kernel_rfl) ?_
    repeat (go_big_quiet_step (fail))
    go_big_quiet_step (exact cc0.out _)
    repeat (go_big_quiet_step (fail))
    refine wpQuiet_nil ?_
    rintro q2 ⟨p9, rfl⟩
    have hb := after_below q1 p9
    have H5 := Lib.hid (And.intro (H4.out.1.trans (hb.mono H4.out.1.size)) (And.intro (H4.out.2.1.below hb) (And.intro (blk_on hb H4.out.2.2.1) (And.intro (blk_on hb H4.out.2.2.2.1) (blk_on hb H4.out.2.2.2.2)))))
    generalize After q1 p9 = q2 at *
    clear hb ga2 gz2 gz5 gz0 a2 z2 z5 z0
    have HZ := Lib.hid (show RA = errA 7 by rw [HZ0.out, if_pos hbad])
    obtain ⟨WR, hWR⟩ : ∃ W, q2.setRow W1.heap.size #[.int .i64 7, .string ⟨#[]⟩, .int .i64 0, .int .i64 0, .int .i64 0, .int .i64 0, .int .i64 0, .int .i64 0] = W := ⟨_, rfl⟩
    have KE := Lib.hid (show WR.heap[W1.heap.size]? = some (.cells #[.int .i64 7, .string ⟨#[]⟩, .int .i64 0, .int .i64 0, .int .i64 0, .int .i64 0, .int .i64 0, .int .i64 0] 37 (0, 0)) by rw [← hWR]; exact setRow_heap q2 _ _ _ _ _ H5.out.2.2.2.1)
    have BE := Lib.hid (show Below w.heap.size w WR by rw [← hWR]; exact below_setRow H5.out.1 (Nat.le_of_lt s1.out) _)
    go_wp2_with (refine wpList_store_blk rfl 37 (.tmp 4) (.tmp 53) rfl W1.heap.size 0 8 rfl #[.int .i64 0, .string ⟨#[]⟩, .int .i64 0, .int .i64 0, .int .i64 0, .int .i64 0, .int .i64 0, .int .i64 0] #[.int .i64 7, .string ⟨#[]⟩, .int .i64 0, .int .i64 0, .int .i64 0, .int .i64 0, .int .i64 0, .int .i64 0] #[.int .i64 7, .string ⟨#[]⟩, .int .i64 0, .int .i64 0, .int .i64 0, .int .i64 0, .int .i64 0, .int .i64 0] rfl 37 H5.out.2.2.2.1 rfl (Nat.le_refl 8) (by kernel_rfl) (ans_one _ _ _ _ _ _ _ _) (splice_all _ _ rfl) ?_; rw [hWR])
    obtain ⟨⟨y0, y1, y2, y3, y4, y5, y6, y7⟩, -⟩ := blkR KE.out
    refine bodyPost_ret (v := .agg #[.int .i64 7, .string ⟨#[]⟩, .int .i64 0, .int .i64 0, .int .i64 0, .int .i64 0, .int .i64 0, .int .i64 0]) (by simp [results, Try.results21, go_sem, y0, y1, y2, y3, y4, y5, y6, y7]) rfl ?_
    exact HR.out _ _ ⟨by rw [HZ.out] <;> rfl, BE.out⟩
  have h2d : decide (m.book.epoch < ce) = false := decide_eq_false h2
  cases S0 with
  | false =>
    have hbad : ce < m.geo.first ∨ m.book.epoch < ce ∨ false = false := Or.inr (Or.inr rfl)
    obtain ⟨a0, a1, a2, a3, a4, a5, a6⟩ := blk7c H4.out.2.2.1
    obtain ⟨⟨z0, z1, z2, z3, z4, z5, z6, z7⟩, -⟩ := blkR H4.out.2.1.blk
    obtain ⟨v0, v1, v2, -, -, -⟩ := blk3 H4.out.2.2.2.2
    clear a0 a1 a3 a4 a5 a6 z1 z3 z4 z6 z7 v0 v1 v2
    have ga2 := fun p => after_cell a2 p
    have gz2 := fun p => after_cell z2 p
    have gz5 := fun p => after_cell z5 p
    have gz0 := fun p => after_cell z0 p
    refine wp_region_after (by kernel_rfl) (by kernel_rfl) ?_
    repeat (go_big_quiet_step (fail))
    go_big_quiet_step (exact cc0.out _)
    repeat (go_big_quiet_step (fail))
    refine wpQuiet_nil ?_
    rintro q2 ⟨p9, rfl⟩
    have hb := after_below q1 p9
    have H5 := Lib.hid (And.intro (H4.out.1.trans (hb.mono H4.out.1.size)) (And.intro (H4.out.2.1.below hb) (And.intro (blk_on hb H4.out.2.2.1) (And.intro (blk_on hb H4.out.2.2.2.1) (blk_on hb H4.out.2.2.2.2)))))
    generalize After q1 p9 = q2 at *
    clear hb ga2 gz2 gz5 gz0 a2 z2 z5 z0
    have HZ := Lib.hid (show RA = errA 7 by rw [HZ0.out, if_pos hbad])
    obtain ⟨WR, hWR⟩ : ∃ W, q2.setRow W1.heap.size #[.int .i64 7, .string ⟨#[]⟩, .int .i64 0, .int .i64 0, .int .i64 0, .int .i64 0, .int .i64 0, .int .i64 0] = W := ⟨_, rfl⟩
    have KE := Lib.hid (show WR.heap[W1.heap.size]? = some (.cells #[.int .i64 7, .string ⟨#[]⟩, .int .i64 0, .int .i64 0, .int .i64 0, .int .i64 0, .int .i64 0, .int .i64 0] 37 (0, 0)) by rw [← hWR]; exact setRow_heap q2 _ _ _ _ _ H5.out.2.2.2.1)
    have BE := Lib.hid (show Below w.heap.size w WR by rw [← hWR]; exact below_setRow H5.out.1 (Nat.le_of_lt s1.out) _)
    go_wp2_with (refine wpList_store_blk rfl 37 (.tmp 4) (.tmp 53) rfl W1.heap.size 0 8 rfl #[.int .i64 0, .string ⟨#[]⟩, .int .i64 0, .int .i64 0, .int .i64 0, .int .i64 0, .int .i64 0, .int .i64 0] #[.int .i64 7, .string ⟨#[]⟩, .int .i64 0, .int .i64 0, .int .i64 0, .int .i64 0, .int .i64 0, .int .i64 0] #[.int .i64 7, .string ⟨#[]⟩, .int .i64 0, .int .i64 0, .int .i64 0, .int .i64 0, .int .i64 0, .int .i64 0] rfl 37 H5.out.2.2.2.1 rfl (Nat.le_refl 8) (by kernel_rfl) (ans_one _ _ _ _ _ _ _ _) (splice_all _ _ rfl) ?_; rw [hWR])
    obtain ⟨⟨y0, y1, y2, y3, y4, y5, y6, y7⟩, -⟩ := blkR KE.out
    refine bodyPost_ret (v := .agg #[.int .i64 7, .string ⟨#[]⟩, .int .i64 0, .int .i64 0, .int .i64 0, .int .i64 0, .int .i64 0, .int .i64 0]) (by simp [results, Try.results21, go_sem, y0, y1, y2, y3, y4, y5, y6, y7]) rfl ?_
    exact HR.out _ _ ⟨by rw [HZ.out] <;> rfl, BE.out⟩
  | true =>
    have hok : ¬ (ce < m.geo.first ∨ m.book.epoch < ce ∨ true = false) := fun q => q.elim h1 (fun q => q.elim h2 (fun q => by cases q))
    rw [if_neg hok] at HZ0
    obtain ⟨a0, a1, a2, a3, a4, a5, a6⟩ := blk7c H4.out.2.2.1
    obtain ⟨⟨z0, z1, z2, z3, z4, z5, z6, z7⟩, -⟩ := blkR H4.out.2.1.blk
    obtain ⟨v0, v1, v2, -, -, -⟩ := blk3 H4.out.2.2.2.2
    clear a0 a1 a3 a4 a5 a6 z1 z3 z4 z6 z7 v0 v1 v2
    have ga2 := fun p => after_cell a2 p
    have gz2 := fun p => after_cell z2 p
    have gz5 := fun p => after_cell z5 p
    have gz0 := fun p => after_cell z0 p
    refine wp_region_after (by kernel_rfl) (by kernel_rfl) ?_
    repeat (go_big_quiet_step (fail))
    go_big_quiet_step (exact cc0.out _)
    repeat (go_big_quiet_step (fail))
    refine wpQuiet_nil ?_
    rintro q2 ⟨p9, rfl⟩
    have hb := after_below q1 p9
    have H5 := Lib.hid (And.intro (H4.out.1.trans (hb.mono H4.out.1.size)) (And.intro (H4.out.2.1.below hb) (And.intro (blk_on hb H4.out.2.2.1) (And.intro (blk_on hb H4.out.2.2.2.1) (blk_on hb H4.out.2.2.2.2)))))
    generalize After q1 p9 = q2 at *
    clear hb ga2 gz2 gz5 gz0 a2 z2 z5 z0
    clear cc0
    go_upto_region 7 with fail
    have cc1 := Lib.hid (fun p => calls_after (p := p) (HGb.out (After q2 p) (H5.out.2.1.below (after_below q2 p))))
    obtain ⟨a0, a1, a2, a3, a4, a5, a6⟩ := blk7c H5.out.2.2.1
    obtain ⟨⟨z0, z1, z2, z3, z4, z5, z6, z7⟩, -⟩ := blkR H5.out.2.1.blk
    obtain ⟨v0, v1, v2, -, -, -⟩ := blk3 H5.out.2.2.2.2
    clear a0 a1 a2 a3 a4 a5 a6 z1 z2 z3 z4 z6 z7 v0
    have gz5 := fun p => after_cell z5 p
    have gz0 := fun p => after_cell z0 p
    have gv1 := fun p => after_cell v1 p
    have gv2 := fun p => after_cell v2 p
    refine wp_region_after (by kernel_rfl) (by kernel_rfl) ?_
    repeat (go_big_quiet_step (fail))
    go_big_quiet_step (exact cc1.out _)
    repeat (go_big_quiet_step (fail))
    refine wpQuiet_nil ?_
    rintro q3 ⟨p9, rfl⟩
    have hb := after_below q2 p9
    have H6 := Lib.hid (And.intro (H5.out.1.trans (hb.mono H5.out.1.size)) (And.intro (H5.out.2.1.below hb) (And.intro (blk_on hb H5.out.2.2.1) (And.intro (blk_on hb H5.out.2.2.2.1) (blk_on hb H5.out.2.2.2.2)))))
    generalize After q2 p9 = q3 at *
    clear hb gz5 gz0 gv1 gv2 z5 z0 v1 v2
    clear cc1
    cases hgo : goneB m.book ve with
    | true =>
      have HZ := Lib.hid (show RA = errA 13 by rw [HZ0.out, if_pos hgo])
      obtain ⟨WR, hWR⟩ : ∃ W, q3.setRow W1.heap.size #[.int .i64 13, .string ⟨#[]⟩, .int .i64 0, .int .i64 0, .int .i64 0, .int .i64 0, .int .i64 0, .int .i64 0] = W := ⟨_, rfl⟩
      have KE := Lib.hid (show WR.heap[W1.heap.size]? = some (.cells #[.int .i64 13, .string ⟨#[]⟩, .int .i64 0, .int .i64 0, .int .i64 0, .int .i64 0, .int .i64 0, .int .i64 0] 37 (0, 0)) by rw [← hWR]; exact setRow_heap q3 _ _ _ _ _ H6.out.2.2.2.1)
      have BE := Lib.hid (show Below w.heap.size w WR by rw [← hWR]; exact below_setRow H6.out.1 (Nat.le_of_lt s1.out) _)
      go_wp2_with (refine wpList_store_blk rfl 37 (.tmp 4) (.tmp 62) rfl W1.heap.size 0 8 rfl #[.int .i64 0, .string ⟨#[]⟩, .int .i64 0, .int .i64 0, .int .i64 0, .int .i64 0, .int .i64 0, .int .i64 0] #[.int .i64 13, .string ⟨#[]⟩, .int .i64 0, .int .i64 0, .int .i64 0, .int .i64 0, .int .i64 0, .int .i64 0] #[.int .i64 13, .string ⟨#[]⟩, .int .i64 0, .int .i64 0, .int .i64 0, .int .i64 0, .int .i64 0, .int .i64 0] rfl 37 H6.out.2.2.2.1 rfl (Nat.le_refl 8) (by kernel_rfl) (ans_one _ _ _ _ _ _ _ _) (splice_all _ _ rfl) ?_; rw [hWR])
      obtain ⟨⟨y0, y1, y2, y3, y4, y5, y6, y7⟩, -⟩ := blkR KE.out
      refine bodyPost_ret (v := .agg #[.int .i64 13, .string ⟨#[]⟩, .int .i64 0, .int .i64 0, .int .i64 0, .int .i64 0, .int .i64 0, .int .i64 0]) (by simp [results, Try.results21, go_sem, y0, y1, y2, y3, y4, y5, y6, y7]) rfl ?_
      exact HR.out _ _ ⟨by rw [HZ.out] <;> rfl, BE.out⟩
    | false =>
      have HZ := Lib.hid (show RA = ⟨0, vd, (0, 0, 0, 0, 0, 0)⟩ by rw [HZ0.out, if_neg (by rw [hgo]; decide)])
      obtain ⟨v0, v1, v2, -, -, -⟩ := blk3 H6.out.2.2.2.2
      obtain ⟨WR, hWR⟩ : ∃ W, q3.setRow W1.heap.size #[.int .i64 0, .string vd, .int .i64 0, .int .i64 0, .int .i64 0, .int .i64 0, .int .i64 0, .int .i64 0] = W := ⟨_, rfl⟩
      have KE := Lib.hid (show WR.heap[W1.heap.size]? = some (.cells #[.int .i64 0, .string vd, .int .i64 0, .int .i64 0, .int .i64 0, .int .i64 0, .int .i64 0, .int .i64 0] 37 (0, 0)) by rw [← hWR]; exact setRow_heap q3 _ _ _ _ _ H6.out.2.2.2.1)
      have BE := Lib.hid (show Below w.heap.size w WR by rw [← hWR]; exact below_setRow H6.out.1 (Nat.le_of_lt s1.out) _)
      go_wp2_with (refine wpList_store_blk rfl 37 (.tmp 4) (.tmp 65) rfl W1.heap.size 0 8 rfl #[.int .i64 0, .string ⟨#[]⟩, .int .i64 0, .int .i64 0, .int .i64 0, .int .i64 0, .int .i64 0, .int .i64 0] #[.int .i64 0, .string vd, .int .i64 0, .int .i64 0, .int .i64 0, .int .i64 0, .int .i64 0, .int .i64 0] #[.int .i64 0, .string vd, .int .i64 0, .int .i64 0, .int .i64 0, .int .i64 0, .int .i64 0, .int .i64 0] rfl 37 H6.out.2.2.2.1 rfl (Nat.le_refl 8) (by kernel_rfl) (ans_one _ _ _ _ _ _ _ _) (splice_all _ _ rfl) ?_; rw [hWR])
      obtain ⟨⟨y0, y1, y2, y3, y4, y5, y6, y7⟩, -⟩ := blkR KE.out
      refine bodyPost_ret (v := .agg #[.int .i64 0, .string vd, .int .i64 0, .int .i64 0, .int .i64 0, .int .i64 0, .int .i64 0, .int .i64 0]) (by simp [results, Try.results21, go_sem, y0, y1, y2, y3, y4, y5, y6, y7]) rfl ?_
      exact HR.out _ _ ⟨by rw [HZ.out] <;> rfl, BE.out⟩
end Go.Proofs.Ytnkiokaeooopgaa
