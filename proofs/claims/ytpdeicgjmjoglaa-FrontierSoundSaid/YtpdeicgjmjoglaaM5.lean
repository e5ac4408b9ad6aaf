/- Texts that the claim rests on, part 5: FrontAdd, RangeSeen, RangeMoved, MerkleLevels, MerkleRoot, FrontGrow, MerkleUpPlain. -/
import Derived.Deep.RegionLaw
import Derived.RangeFuncNested
import Derived.RangeFuncBound
import Derived.RangeFuncCalls
import Derived.RangeFuncLeaves
import Derived.OrdersIn
import Derived.Shelf.RegionOpen
import Derived.OwnWalkIn
import Derived.TacticsInMore
import Derived.LoopNIn
import Derived.LoopIn
import Derived.WalkMore
import Derived.Test.YtpdeicgjmjoglaaM4
/- A frontier: a leaf more. -/
namespace Ks
open Go Go.RowKit
set_option linter.unusedVariables false
/-- on the way: the first many of the leaves, one row up or more; what stands last -/
structure JoinAt (w wx : World) (TN : TypeId) (n c : Nat) (v : Value) (l : List ByteArray) (y : ByteArray) (target : List ByteArray) : Prop where
  blk : wx.heap[n]? = some (.cells #[.bool true, .int .i64 (c : Int), v] TN (0, 0))
  row : Rd strE wx v (peaksB l ++ [y])
  ne : v.ownBlock ≠ some n
  solo : Solo w wx n
  same : peaksB (l ++ [y]) = target
  wide : ∀ s ∈ l ++ [y], s.size = 32
  fresh : ∀ b, v.ownBlock = some b → w.heap.size ≤ b
theorem JoinAt.done {w wx : World} {TN : TypeId} {n c : Nat} {v : Value} {l : List ByteArray} {y : ByteArray} {L : List ByteArray} (h : JoinAt w wx TN n c v l y (peaksB L)) (he : l.length % 2 = 0) (hc : L.length = c) (hw : ∀ s ∈ L, s.size = 32) (hf : L.length ≤ 1048576) : FrontAt wx TN n v L :=
  ⟨by rw [hc]; exact h.blk, by rw [← h.same, peaks_odd l y he]; exact h.row, h.ne, hw, hf⟩
end Ks
namespace Go.Proofs.Ytpdeicgjmjoglaa
open Go.RowKit Ks
set_option linter.unusedVariables false
theorem wrap_same (k : Nat) (h : k ≤ 1048576) : wrap64 (k : Int) = (k : Int) := by rw [wrap64]; omega
theorem wrap_hf (k : Nat) (h : k ≤ 1048576) : wrap64 ((k : Int) / 2) = ((k / 2 : Nat) : Int) := by rw [wrap64]; omega
theorem wrap_next (k : Nat) (h : k ≤ 1048576) : IntKind.i64.wrap ((k : Int) + 1) = (k : Int) + 1 := by rw [IntKind.wrap_i64]; omega
theorem wrap_more (c : Int) (k : Nat) (h : c = (k : Int)) (h2 : k < 1048576) : IntKind.i64.wrap (c + 1) = c + 1 := by rw [IntKind.wrap_i64]; omega
theorem meas_half (m : Nat) (h : wrap64 ((m : Int) / 2) = ((m / 2 : Nat) : Int)) (h1 : 1 ≤ m) : (intOf (.int .i64 (wrap64 ((m : Int) / 2)))).toNat < (intOf (.int .i64 (m : Int))).toNat := by
  rw [h]
  show ((m / 2 : Nat) : Int).toNat < (m : Int).toNat
  rw [Int.toNat_natCast, Int.toNat_natCast]
  omega
theorem fwrap (k : Nat) (h : k < 2000000) : IntKind.i64.wrap ((k : Int) + 1) = ((k + 1 : Nat) : Int) := by rw [IntKind.wrap_i64]; omega
set_option maxRecDepth 100000 in
theorem fadd_bad (n : Nat) (v : Value) (l : List ByteArray) (s : ByteArray) (w : World) (h : FrontAt w 39 n v l) (hs : s.size ≠ 32 ∨ (s.size = 32 ∧ l.length = 1048576)) :
    Calls Try.prog 12 #[.pointer (some ⟨n, 0, none⟩), .string s] w fun e w' => e = .returned (.int .i64 2) ∧ w' = w := by
  refine calls_by fun R HR => ?_
  have HI := Lib.hid h
  have hi1 : s.size ≠ 32 → ¬ (s.size : Int) = 32 := fun h => by omega
  have hi2 : l.length = 1048576 → (1048576 : Int) ≤ (l.length : Int) := fun h => by omega
  have hi3 : s.size = 32 → (s.size : Int) = 32 := fun h => by omega
  clear h
  rcases hs with h1 | ⟨h1, h2⟩
  · replace h1 := hi1 h1
    clear hi1 hi2 hi3
    go_enter Try.func12, Try.ntmps12
    go_wp2_with fail
    refine wp_scope_straight ?_
    go_wp2_with fail
    refine (fthere_live n v l _ HI.out).mono ?_
    rintro e w1 ⟨rfl, rfl⟩
    obtain ⟨c0, c1, c2, f0, f1, f2⟩ := blk3 HI.out.blk
    go_wp2
    exact HR.out _ _ ⟨rfl, rfl⟩
  · replace h1 := hi3 h1
    replace h2 := hi2 h2
    clear hi1 hi2 hi3
    go_enter Try.func12, Try.ntmps12
    go_wp2_with fail
    refine wp_scope_straight ?_
    go_wp2_with fail
    refine (fthere_live n v l _ HI.out).mono ?_
    rintro e w1 ⟨rfl, rfl⟩
    obtain ⟨c0, c1, c2, f0, f1, f2⟩ := blk3 HI.out.blk
    go_wp2
    exact HR.out _ _ ⟨rfl, rfl⟩
set_option maxRecDepth 100000 in
set_option maxHeartbeats 4000000 in
theorem fadd_any (n : Nat) (v : Value) (l : List ByteArray) (s : ByteArray) (w : World) (h : FrontAt w 39 n v l) (hs : s.size = 32) (hl : l.length < 1048576) :
    Calls Try.prog 12 #[.pointer (some ⟨n, 0, none⟩), .string s] w fun e w' => e = .returned (.int .i64 0) ∧ ∃ v', FrontAt w' 39 n v' (l ++ [s]) ∧ Solo w w' n ∧ ∀ b, v'.ownBlock = some b → w.heap.size ≤ b ∧ b < w'.heap.size := by
  refine calls_by fun R HR => ?_
  have HI := Lib.hid h
  have HS := Lib.hid hs
  have hsi : (s.size : Int) = 32 := by omega
  obtain ⟨c, hc⟩ : ∃ c : Int, (l.length : Int) = c := ⟨_, rfl⟩
  have hli : ¬ (1048576 : Int) ≤ c := by omega
  have HC := Lib.hid hc
  have HLN := Lib.hid (show (peaksB l).length ≤ 1048576 ∧ l.length < 1048576 from ⟨by have := peaks_le l; omega, hl⟩)
  obtain ⟨va, vn, vc, hv⟩ : ∃ a n c, v = .slice a n c := ⟨_, _, _, h.row.shape.choose_spec.choose_spec.1⟩
  subst hv
  clear h hs hl hc
  go_enter Try.func12, Try.ntmps12
  go_wp2_with fail
  refine wp_scope_straight ?_
  go_wp2_with fail
  refine (fthere_live n _ l _ HI.out).mono ?_
  rintro e w1 ⟨rfl, rfl⟩
  have K := HI.out.blk
  rw [HC.out] at K
  obtain ⟨c0, c1, c2, f0, f1, f2⟩ := blk3 K
  clear K
  go_wp2_with fail
  refine (sclone_any _ (peaksB l) _ HI.out.row (by have := HLN.out.1; omega)).mono ?_
  rintro e w2 ⟨v1, rfl, hr, hb⟩
  clear c0 c1 c2 f0 f1 f2
  obtain ⟨W3, hW3⟩ : ∃ W3, w2.alloc (.cells #[.string s] 9) = W3 := ⟨_, rfl⟩
  have hb3 : Below w2.heap.size w2 W3 := by rw [← hW3]; exact alloc_below _ _
  have hr3 : Rd strE W3 (.slice (some ⟨w2.heap.size, 0, none⟩) 1 1) [s] := by rw [← hW3]; exact Rd.single (E := strE) s (alloc_new _ _) rfl
  have H3 := Lib.hid (And.intro (hb.trans (hb3.mono hb.size)) (And.intro (hr.below hb3) (And.intro hr3 (Nat.le_trans hb.size hb3.size))))
  clear hb hr hb3 hr3
  go_wp2_with (at_builtin; refine wpList_append_row _ rfl _ _ 22 rfl strT _ _ _ (peaksB l) [s] rfl rfl H3.out.2.1 H3.out.2.2.1 H3.out.2.2.2 (by have := HLN.out.1; simp; omega) (by decide) ?_)
  intro v3 w4 hG
  have hne1 : v1.ownBlock ≠ some n := fun e => by
    have := (H3.out.2.1.lt e).1
    have := HI.out.lt
    omega
  have k4 : w4.heap[n]? = some (.cells #[.bool true, .int .i64 c, .slice va vn vc] 39 (0, 0)) := by
    rw [← HC.out]
    exact hG.block ((H3.out.1.block n HI.out.lt).trans HI.out.blk) hne1
  have hne3 : v3.ownBlock ≠ some n := fun e => by
    rcases hG.2.2.1 with e2 | e2
    · exact hne1 (e2 ▸ e)
    · have := e2 n e
      have := H3.out.2.2.2
      have := HI.out.lt
      omega
  have hfr3 : ∀ b, v3.ownBlock = some b → w1.heap.size ≤ b := fun b e => by
    rcases hG.2.2.1 with e2 | e2
    · exact (H3.out.2.1.lt (e2 ▸ e)).1
    · have := e2 b e
      have := H3.out.2.2.2
      omega
  have hb4 := hG.below H3.out.1 H3.out.2.2.2 (fun b e => (H3.out.2.1.lt e).1)
  obtain ⟨c0, c1, c2, f0, f1, f2⟩ := blk3 k4
  have H4 := Lib.hid (And.intro k4 (And.intro hne3 (And.intro hb4 (And.intro hG.1.rd hfr3))))
  have hc2 : IntKind.i64.wrap (c + 1) = c + 1 := wrap_more c l.length HC.out.symm HLN.out.2
  obtain ⟨xa, xc, rfl, -⟩ := hG.1.shape
  generalize (peaksB l ++ [s]).length = xn at *
  clear k4 hne1 hne3 hb4 hG hW3 H3 hfr3
  go_wp2_with fail
  clear hc2
  have J : JoinAt w1 ((w4.setCell ⟨n, 2, none⟩ (.slice xa xn xc)).setCell ⟨n, 1, none⟩ (.int .i64 (c + 1))) 39 n (l.length + 1) (.slice xa xn xc) l s (peaksB (l ++ [s])) :=
    ⟨by rw [show ((l.length + 1 : Nat) : Int) = c + 1 by have := HC.out; omega]; exact set_at1 _ (set_at2 _ H4.out.1), (Solo.set _ n 1 _).rd ((Solo.set _ n 2 _).rd H4.out.2.2.2.1 H4.out.2.1) H4.out.2.1, H4.out.2.1,
      ((Solo.of_below H4.out.2.2.1).then (Solo.set _ n 2 _)).then (Solo.set _ n 1 _), rfl, (fun x hx => by
        rcases List.mem_append.1 hx with h | h
        · exact HI.out.wide x h
        · rw [List.mem_singleton.1 h]; exact HS.out), H4.out.2.2.2.2⟩
  generalize ((w4.setCell ⟨n, 2, none⟩ (.slice xa xn xc)).setCell ⟨n, 1, none⟩ (.int .i64 (c + 1))) = W at *
  obtain ⟨m0, hm0⟩ : ∃ m0, l.length + 1 = m0 := ⟨_, rfl⟩
  obtain ⟨tg, htg⟩ : ∃ tg, peaksB (l ++ [s]) = tg := ⟨_, rfl⟩
  rw [hm0, htg] at J
  have HM0 := Lib.hid (And.intro hm0 htg)
  have HJ := Lib.hid J
  clear c0 c1 c2 f0 f1 f2 H4 hm0 htg hsi hli
  obtain ⟨c0, c1, c2, f0, f1, f2⟩ := blk3 J.blk
  clear J
  refine wp_label ?_
  go_wp2_with fail
  clear c0 c1 c2 f0 f1 f2
  go_loopw [5, 6] (fun i k wx => ∃ (m : Nat) (l' : List ByteArray) (y : ByteArray) (a : Option Addr) (p q : Nat), i = .int .i64 m ∧ Hid (m = l'.length + 1 ∧ m ≤ 1048576 ∧ JoinAt w1 wx 39 n m0 (.slice a p q) l' y tg)) (fun i _ _ => (intOf i).toNat)
  case atStart => exact ⟨m0, l, s, xa, xn, xc, rfl, Lib.hid ⟨HM0.out.1.symm, by have := HM0.out.1; have := HLN.out.2; omega, HJ.out⟩⟩
  case round =>
    obtain ⟨m, l', y, a, p, q, rfl, hN⟩ := hrel
    by_cases hodd : m % 2 = 1
    · have ho1 : (m : Int) % 2 = 1 := by omega
      go_wp2
      refine HR.out _ _ ⟨rfl, _, JoinAt.done (L := l ++ [s]) (by rw [HM0.out.2]; exact hN.out.2.2) (by have := hN.out.1; omega) (by rw [List.length_append, List.length_singleton]; exact HM0.out.1) (fun x hx => ?_) (by rw [List.length_append, List.length_singleton]; have := HLN.out.2; omega), hN.out.2.2.solo, fun bq eq => ⟨hN.out.2.2.fresh bq eq, hN.out.2.2.row.lt' (by simp) eq⟩⟩
      rcases List.mem_append.1 hx with h | h
      · exact HI.out.wide x h
      · rw [List.mem_singleton.1 h]; exact HS.out
    · have ho1 : ¬ (m : Int) % 2 = 1 := by omega
      obtain ⟨l2, z, rfl, he2⟩ := odd_last l' (by have := hN.out.1; omega)
      have hrow := hN.out.2.2.row
      rw [peaks_odd l2 z he2] at hrow
      obtain ⟨k, hk⟩ : ∃ k, (peaksB l2).length = k := ⟨_, rfl⟩
      have hlen : (peaksB l2 ++ [z] ++ [y]).length = k + 2 := by simp [hk]
      obtain ⟨a', q', eq', hcap, -⟩ := hrow.shape
      rw [hlen] at eq' hcap
      cases eq'
      obtain ⟨b, o, rfl, hb0, cz⟩ := hrow.str k (by omega)
      obtain ⟨b', o', eb, hb1, cy⟩ := hrow.str (k + 1) (by omega)
      cases eb
      have ez : ∀ h, (peaksB l2 ++ [z] ++ [y])[k]'h = z := by
        intro h
        subst hk
        simp
      have ey : ∀ h, (peaksB l2 ++ [z] ++ [y])[k + 1]'h = y := by
        intro h
        subst hk
        simp
      rw [ez] at cz
      rw [ey] at cy
      have htk : (peaksB l2 ++ [z] ++ [y]).take k = peaksB l2 := by
        subst hk
        rw [List.append_assoc, List.take_left']
        rfl
      have hT := hrow.take (k := k) (by omega) k (Nat.le_refl _)
      rw [htk] at hT
      have hkm : k ≤ 1048576 := by
        have q1 := peaks_le l2
        have q2 := hN.out.1
        have q3 := hN.out.2.1
        rw [List.length_append, List.length_singleton] at q2
        omega
      have hk0 : (k : Int) ≤ (k : Int) + 2 := by omega
      have hk1 : ((k + 2 : Nat) : Int) ≤ (q : Int) := by omega
      have hk2 : (k : Int) ≤ (q : Int) := by omega
      have HT := Lib.hid hT
      have HK := Lib.hid (And.intro hk (And.intro he2 (And.intro hcap hkm)))
      have hbn : b ≠ n := fun e => hN.out.2.2.ne (by simp [Value.ownBlock, e])
      have HBN := Lib.hid hbn
      have HND := Lib.hid (fun W => (node_any z y W (by rw [hN.out.2.2.wide z (by simp)]; omega) (by rw [hN.out.2.2.wide y (by simp)]; omega)).mono (R' := fun e w' => ∃ v, e = .returned v ∧ (v = .string (nodeS z y) ∧ Below W.heap.size W w')) fun e w' h => ⟨_, h.1, rfl, h.2⟩)
      obtain ⟨c0, c1, c2, f0, f1, f2⟩ := blk3 hN.out.2.2.blk
      clear hT hrow hlen ez ey htk hb0 hb1 hcap hkm hk he2 hbn hodd
      go_wp2_with fail
      have hi1 : (k : Int) < (k : Int) + 2 := by omega
      have hi2 : (k : Int) + 1 < (k : Int) + 2 := by omega
      have hi3 : (0 : Int) ≤ (k : Int) + 1 := by omega
      have hwk : wrap64 (k : Int) = (k : Int) := wrap_same k HK.out.2.2.2
      have hwk1 : IntKind.i64.wrap ((k : Int) + 1) = (k : Int) + 1 := wrap_next k HK.out.2.2.2
      simp only [hwk]
      obtain ⟨x, hx⟩ : ∃ x, nodeS z y = x := ⟨_, rfl⟩
      rw [hx] at HND
      have HX := Lib.hid hx
      clear hx
      obtain ⟨Cl, hCl⟩ : ∃ Cl : (Nat → Option Value) → World → Prop, Cl = (fun (f : Nat → Option Value) (w : World) => FullStore strE wr 9 (peaksB l2 ++ [x]) [x] n 2 (f 4) (f 11) (f 18) (f 24) (f 25) (f 28) w ∧ (f 7 ≠ none → f 4 ≠ none) ∧ (f 13 ≠ none → f 11 ≠ none) ∧ (f 14 ≠ none → f 13 ≠ none) ∧ (f 21 ≠ none → f 18 ≠ none) ∧ (f 22 ≠ none → f 21 ≠ none) ∧ (f 23 ≠ none → f 14 ≠ none ∧ f 22 ≠ none) ∧ (f 24 ≠ none → f 23 ≠ none)) := ⟨_, rfl⟩
      have hst : Cl (fun _ => none) wr.drew := by rw [hCl]; exact ⟨FullStore.start (drew_below wr), (fun h => absurd rfl h), (fun h => absurd rfl h), (fun h => absurd rfl h), (fun h => absurd rfl h), (fun h => absurd rfl h), (fun h => absurd rfl h), (fun h => absurd rfl h)⟩
      refine wp_region_mv Cl (by kernel_rfl) hst ?_
      subst hCl
      clear hst
      obtain ⟨S, F, hF, hFC⟩ := moved_class (fun (f : Nat → Option Value) (w : World) => FullStore strE wr 9 (peaksB l2 ++ [x]) [x] n 2 (f 4) (f 11) (f 18) (f 24) (f 25) (f 28) w ∧ (f 7 ≠ none → f 4 ≠ none) ∧ (f 13 ≠ none → f 11 ≠ none) ∧ (f 14 ≠ none → f 13 ≠ none) ∧ (f 21 ≠ none → f 18 ≠ none) ∧ (f 22 ≠ none → f 21 ≠ none) ∧ (f 23 ≠ none → f 14 ≠ none ∧ f 22 ≠ none) ∧ (f 24 ≠ none → f 23 ≠ none))
      obtain ⟨S4, F4, hF4, hFC4⟩ := moved_classN (fun (f : Nat → Option Value) (w : World) => FullStore strE wr 9 (peaksB l2 ++ [x]) [x] n 2 (f 4) (f 11) (f 18) (f 24) (f 25) (f 28) w ∧ (f 7 ≠ none → f 4 ≠ none) ∧ (f 13 ≠ none → f 11 ≠ none) ∧ (f 14 ≠ none → f 13 ≠ none) ∧ (f 21 ≠ none → f 18 ≠ none) ∧ (f 22 ≠ none → f 21 ≠ none) ∧ (f 23 ≠ none → f 14 ≠ none ∧ f 22 ≠ none) ∧ (f 24 ≠ none → f 23 ≠ none)) 4
      obtain ⟨S11, F11, hF11, hFC11⟩ := moved_classN (fun (f : Nat → Option Value) (w : World) => FullStore strE wr 9 (peaksB l2 ++ [x]) [x] n 2 (f 4) (f 11) (f 18) (f 24) (f 25) (f 28) w ∧ (f 7 ≠ none → f 4 ≠ none) ∧ (f 13 ≠ none → f 11 ≠ none) ∧ (f 14 ≠ none → f 13 ≠ none) ∧ (f 21 ≠ none → f 18 ≠ none) ∧ (f 22 ≠ none → f 21 ≠ none) ∧ (f 23 ≠ none → f 14 ≠ none ∧ f 22 ≠ none) ∧ (f 24 ≠ none → f 23 ≠ none)) 11
      obtain ⟨S18, F18, hF18, hFC18⟩ := moved_classN (fun (f : Nat → Option Value) (w : World) => FullStore strE wr 9 (peaksB l2 ++ [x]) [x] n 2 (f 4) (f 11) (f 18) (f 24) (f 25) (f 28) w ∧ (f 7 ≠ none → f 4 ≠ none) ∧ (f 13 ≠ none → f 11 ≠ none) ∧ (f 14 ≠ none → f 13 ≠ none) ∧ (f 21 ≠ none → f 18 ≠ none) ∧ (f 22 ≠ none → f 21 ≠ none) ∧ (f 23 ≠ none → f 14 ≠ none ∧ f 22 ≠ none) ∧ (f 24 ≠ none → f 23 ≠ none)) 18
      have k4 : ∀ s, (F4 s).cell? ⟨n, 2, none⟩ = some (.slice (some ⟨b, o, none⟩) (k + 2) q) := fun s => by
          obtain ⟨f, hf0, hf⟩ := hFC4 s
          have h := hf.1
          simp only [hf0] at h
          obtain ⟨hz, -⟩ := h.un1
          rw [hz] at h
          exact (h.yet.cell (p := ⟨n, 2, none⟩) (lt_of_block hN.out.2.2.blk)).trans c2
      have k11 : ∀ s, (F11 s).cell? ⟨n, 2, none⟩ = some (.slice (some ⟨b, o, none⟩) (k + 2) q) := fun s => by
          obtain ⟨f, hf0, hf⟩ := hFC11 s
          have h := hf.1
          simp only [hf0] at h
          obtain ⟨hz, -⟩ := h.un2
          rw [hz] at h
          exact (h.yet.cell (p := ⟨n, 2, none⟩) (lt_of_block hN.out.2.2.blk)).trans c2
      have k18 : ∀ s, (F18 s).cell? ⟨n, 2, none⟩ = some (.slice (some ⟨b, o, none⟩) (k + 2) q) := fun s => by
          obtain ⟨f, hf0, hf⟩ := hFC18 s
          have h := hf.1
          simp only [hf0] at h
          obtain ⟨hz, -⟩ := h.un3
          rw [hz] at h
          exact (h.yet.cell (p := ⟨n, 2, none⟩) (lt_of_block hN.out.2.2.blk)).trans c2
      have kz : ∀ s, (F s).cell? ⟨b, o + k, none⟩ = some (.string z) := fun s => by
          obtain ⟨f, hf⟩ := hFC s
          exact hf.1.cell cz HBN.out
      have ky : ∀ s, (F s).cell? ⟨b, o + (k + 1), none⟩ = some (.string y) := fun s => by
          obtain ⟨f, hf⟩ := hFC s
          exact hf.1.cell cy HBN.out
      clear cz cy
      show wpAnyM _ _ _ _ _ 29 (Array.replicate 29 false) _ _
      refine mv_read 0 hF (fun _ _ _ h => h) rfl (by kernel_rfl) (by kernel_rfl) (by kernel_rfl) (fun K hK => ?_)
      go_simp
      first | refine ⟨_, fun _ => rfl, hK _ _ ?_⟩ | refine hK _ _ ?_
      clear hK K
      refine mv_read 1 hF (fun _ _ _ h => h) rfl (by kernel_rfl) (by kernel_rfl) (by kernel_rfl) (fun K hK => ?_)
      go_simp
      first | refine ⟨_, fun _ => rfl, hK _ _ ?_⟩ | refine hK _ _ ?_
      clear hK K
      refine mv_read 2 hF (fun _ _ _ h => h) rfl (by kernel_rfl) (by kernel_rfl) (by kernel_rfl) (fun K hK => ?_)
      go_simp
      first | refine ⟨_, fun _ => rfl, hK _ _ ?_⟩ | refine hK _ _ ?_
      clear hK K
      refine mv_read 3 hF (fun _ _ _ h => h) rfl (by kernel_rfl) (by kernel_rfl) (by kernel_rfl) (fun K hK => ?_)
      go_simp
      first | refine ⟨_, fun _ => rfl, hK _ _ ?_⟩ | refine hK _ _ ?_
      clear hK K
      refine mv_readN 4 hF4 (fun f w v _ h => ⟨h.1.told (fun _ => told_self _ _ _) id id, (fun _ => told_self _ _ _), h.2.2⟩) rfl (by kernel_rfl) (by kernel_rfl) (by kernel_rfl) (fun K hK => ?_)
      go_simp
      first | refine ⟨_, fun _ => rfl, hK _ _ ?_⟩ | refine hK _ _ ?_
      clear hK K
      refine mv_read 5 hF (fun _ _ _ h => h) rfl (by kernel_rfl) (by kernel_rfl) (by kernel_rfl) (fun K hK => ?_)
      go_simp
      first | refine ⟨_, fun _ => rfl, hK _ _ ?_⟩ | refine hK _ _ ?_
      clear hK K
      refine mv_read 6 hF (fun _ _ _ h => h) rfl (by kernel_rfl) (by kernel_rfl) (by kernel_rfl) (fun K hK => ?_)
      go_simp
      first | refine ⟨_, fun _ => rfl, hK _ _ ?_⟩ | refine hK _ _ ?_
      clear hK K
      refine mv_readA 7 hF (fun g w v ha _ h => by exact ⟨h.1, (fun _ => by have e9 := agree_on 4 ha (by kernel_rfl); exact told_by e9 rfl), h.2.2⟩) rfl (by kernel_rfl) (by kernel_rfl) (by kernel_rfl) (fun K hK => ?_)
      go_simp
      first | refine ⟨_, fun _ => rfl, hK _ _ ?_⟩ | refine hK _ _ ?_
      clear hK K
      refine mv_read 8 hF (fun _ _ _ h => h) rfl (by kernel_rfl) (by kernel_rfl) (by kernel_rfl) (fun K hK => ?_)
      go_simp
      first | refine ⟨_, fun _ => rfl, hK _ _ ?_⟩ | refine hK _ _ ?_
      clear hK K
      refine mv_read 9 hF (fun _ _ _ h => h) rfl (by kernel_rfl) (by kernel_rfl) (by kernel_rfl) (fun K hK => ?_)
      go_simp
      first | refine ⟨_, fun _ => rfl, hK _ _ ?_⟩ | refine hK _ _ ?_
      clear hK K
      refine mv_read 10 hF (fun _ _ _ h => h) rfl (by kernel_rfl) (by kernel_rfl) (by kernel_rfl) (fun K hK => ?_)
      go_simp
      first | refine ⟨_, fun _ => rfl, hK _ _ ?_⟩ | refine hK _ _ ?_
      clear hK K
      refine mv_readN 11 hF11 (fun f w v _ h => ⟨h.1.told id (fun _ => told_self _ _ _) id, h.2.1, (fun _ => told_self _ _ _), h.2.2.2⟩) rfl (by kernel_rfl) (by kernel_rfl) (by kernel_rfl) (fun K hK => ?_)
      go_simp
      first | refine ⟨_, fun _ => rfl, hK _ _ ?_⟩ | refine hK _ _ ?_
      clear hK K
      refine mv_read 12 hF (fun _ _ _ h => h) rfl (by kernel_rfl) (by kernel_rfl) (by kernel_rfl) (fun K hK => ?_)
      go_simp
      first | refine ⟨_, fun _ => rfl, hK _ _ ?_⟩ | refine hK _ _ ?_
      clear hK K
      refine mv_readA 13 hF (fun g w v ha _ h => by exact ⟨h.1, h.2.1, (fun _ => by have e9 := agree_on 11 ha (by kernel_rfl); exact told_by e9 rfl), (fun _ => told_self _ _ _), h.2.2.2.2⟩) rfl (by kernel_rfl) (by kernel_rfl) (by kernel_rfl) (fun K hK => ?_)
      go_simp
      first | refine ⟨_, fun _ => rfl, hK _ _ ?_⟩ | refine hK _ _ ?_
      clear hK K
      refine mv_readA 14 hF (fun g w v ha _ h => by exact ⟨h.1, h.2.1, h.2.2.1, (fun _ => by have e9 := agree_on 13 ha (by kernel_rfl); exact told_by e9 rfl), h.2.2.2.2.1, h.2.2.2.2.2.1, (fun h9 => ⟨told_self _ _ _, (h.2.2.2.2.2.2.1 h9).2⟩), h.2.2.2.2.2.2.2⟩) rfl (by kernel_rfl) (by kernel_rfl) (by kernel_rfl) (fun K hK => ?_)
      go_simp
      first | refine ⟨_, fun _ => rfl, hK _ _ ?_⟩ | refine hK _ _ ?_
      clear hK K
      refine mv_read 15 hF (fun _ _ _ h => h) rfl (by kernel_rfl) (by kernel_rfl) (by kernel_rfl) (fun K hK => ?_)
      go_simp
      first | refine ⟨_, fun _ => rfl, hK _ _ ?_⟩ | refine hK _ _ ?_
      clear hK K
      refine mv_read 16 hF (fun _ _ _ h => h) rfl (by kernel_rfl) (by kernel_rfl) (by kernel_rfl) (fun K hK => ?_)
      go_simp
      first | refine ⟨_, fun _ => rfl, hK _ _ ?_⟩ | refine hK _ _ ?_
      clear hK K
      refine mv_read 17 hF (fun _ _ _ h => h) rfl (by kernel_rfl) (by kernel_rfl) (by kernel_rfl) (fun K hK => ?_)
      go_simp
      first | refine ⟨_, fun _ => rfl, hK _ _ ?_⟩ | refine hK _ _ ?_
      clear hK K
      refine mv_readN 18 hF18 (fun f w v _ h => ⟨h.1.told id id (fun _ => told_self _ _ _), h.2.1, h.2.2.1, h.2.2.2.1, (fun _ => told_self _ _ _), h.2.2.2.2.2⟩) rfl (by kernel_rfl) (by kernel_rfl) (by kernel_rfl) (fun K hK => ?_)
      go_simp
      first | refine ⟨_, fun _ => rfl, hK _ _ ?_⟩ | refine hK _ _ ?_
      clear hK K
      refine mv_read 19 hF (fun _ _ _ h => h) rfl (by kernel_rfl) (by kernel_rfl) (by kernel_rfl) (fun K hK => ?_)
      go_simp
      first | refine ⟨_, fun _ => rfl, hK _ _ ?_⟩ | refine hK _ _ ?_
      clear hK K
      refine mv_read 20 hF (fun _ _ _ h => h) rfl (by kernel_rfl) (by kernel_rfl) (by kernel_rfl) (fun K hK => ?_)
      go_simp
      first | refine ⟨_, fun _ => rfl, hK _ _ ?_⟩ | refine hK _ _ ?_
      clear hK K
      refine mv_readA 21 hF (fun g w v ha _ h => by exact ⟨h.1, h.2.1, h.2.2.1, h.2.2.2.1, (fun _ => by have e9 := agree_on 18 ha (by kernel_rfl); exact told_by e9 rfl), (fun _ => told_self _ _ _), h.2.2.2.2.2.2⟩) rfl (by kernel_rfl) (by kernel_rfl) (by kernel_rfl) (fun K hK => ?_)
      go_simp
      first | refine ⟨_, fun _ => rfl, hK _ _ ?_⟩ | refine hK _ _ ?_
      clear hK K
      refine mv_readA 22 hF (fun g w v ha _ h => by exact ⟨h.1, h.2.1, h.2.2.1, h.2.2.2.1, h.2.2.2.2.1, (fun _ => by have e9 := agree_on 21 ha (by kernel_rfl); exact told_by e9 rfl), (fun h9 => ⟨(h.2.2.2.2.2.2.1 h9).1, told_self _ _ _⟩), h.2.2.2.2.2.2.2⟩) rfl (by kernel_rfl) (by kernel_rfl) (by kernel_rfl) (fun K hK => ?_)
      go_simp
      first | refine ⟨_, fun _ => rfl, hK _ _ ?_⟩ | refine hK _ _ ?_
      clear hK K
      clear hwk hwk1
      refine mv_call 23 30 rfl (by kernel_rfl) rfl rfl eg_node (args := #[.string z, .string y]) rfl (fun v => v = .string x) (fun g w9 ha h0 h => ?_) ?_
      · have h24 : g 24 = none := Classical.byContradiction fun h9 => h.2.2.2.2.2.2.2 h9 h0
        have h1 := h.1
        simp only [h24] at h1
        refine (HND.out w9).mono fun e w' ⟨v, q1, q2, q3⟩ => ⟨v, q1, q2, ?_, h.2.1, h.2.2.1, h.2.2.2.1, h.2.2.2.2.1, h.2.2.2.2.2.1, (fun _ => ⟨by have e9 := agree_on 14 ha (by kernel_rfl); exact told_by e9 rfl, by have e9 := agree_on 22 ha (by kernel_rfl); exact told_by e9 rfl⟩), (fun _ => told_self _ _ _)⟩
        show FullStore _ _ _ _ _ _ _ (g 4) (g 11) (g 18) (g 24) _ _ _
        rw [h24]
        exact h1.on q3
      rintro _ rfl
      refine mv_alone 24 rfl (by kernel_rfl) rfl (fun v => ∃ g, v = .slice (some ⟨g, 0, none⟩) 1 1) (fun g w9 ha h0 h D hD => ?_) ?_
      · have h1 := h.1
        simp only [h0] at h1
        have h8 := h1.made #[.string x] rfl (T' := 9)
        have hD2 := hD _ _ ⟨_, rfl⟩ ⟨h8, h.2.1, h.2.2.1, h.2.2.2.1, h.2.2.2.2.1, h.2.2.2.2.2.1, h.2.2.2.2.2.2.1, (fun _ => by have e9 := agree_on 23 ha (by kernel_rfl); exact told_by e9 rfl)⟩
        clear hD h h1 h8
        go_simp
        exact hD2
      rintro _ ⟨gs, rfl⟩
      refine mv_append_full 25 rfl (by kernel_rfl) rfl (.tmp 62) (.tmp 79) 22 rfl strT (some ⟨b, o, none⟩) k _ (peaksB l2) [x] rfl HK.out.1.symm rfl (by simp) (by simp; have := HK.out; omega) (by decide) (fun g w9 ha h0 h => ?_) (fun v' => ∃ a n c, v' = .slice a n c) (fun g w9 v' w' ha h0 h hr hb => ?_) ?_
      · have e1 : g 24 = some (.slice (some ⟨gs, 0, none⟩) 1 1) := (agree_on 24 ha (by kernel_rfl)).trans rfl
        have h1 := h.1
        simp only [h0] at h1
        have hz := h1.un5
        rw [hz] at h1
        exact ⟨HT.out.below h1.yet, h1.2.1 _ e1⟩
      · have h1 := h.1
        simp only [h0] at h1
        have t24 := told_by (agree_on 24 ha (by kernel_rfl)) (rfl : _ = some _)
        have t7 := told_by (agree_on 7 ha (by kernel_rfl)) (rfl : _ = some _)
        have t23 := h.2.2.2.2.2.2.2 t24
        have t14 := (h.2.2.2.2.2.2.1 t23).1
        have t22 := (h.2.2.2.2.2.2.1 t23).2
        obtain ⟨a8, c8, e8, -⟩ := hr.shape
        exact ⟨⟨_, _, _, e8⟩, h1.grew2 ⟨h.2.1 t7, h.2.2.1 (h.2.2.2.1 t14), h.2.2.2.2.1 (h.2.2.2.2.2.1 t22), t24⟩ hr hb, h.2⟩
      rintro _ ⟨a8, n8, c8, rfl⟩
      refine mv_read 26 hF (fun _ _ _ h => h) rfl (by kernel_rfl) (by kernel_rfl) (by kernel_rfl) (fun K hK => ?_)
      go_simp
      first | refine ⟨_, fun _ => rfl, hK _ _ ?_⟩ | refine hK _ _ ?_
      clear hK K
      refine mv_read 27 hF (fun _ _ _ h => h) rfl (by kernel_rfl) (by kernel_rfl) (by kernel_rfl) (fun K hK => ?_)
      go_simp
      first | refine ⟨_, fun _ => rfl, hK _ _ ?_⟩ | refine hK _ _ ?_
      clear hK K
      refine mv_alone 28 rfl (by kernel_rfl) rfl (fun _ => True) (fun g w9 ha h0 h D hD => ?_) ?_
      · have e1 : g 25 = some (.slice a8 n8 c8) := (agree_on 25 ha (by kernel_rfl)).trans rfl
        have h1 := h.1
        simp only [e1, h0] at h1
        have kk := (h1.yet.block n (lt_of_block hN.out.2.2.blk)).trans hN.out.2.2.blk
        obtain ⟨-, -, p2, -, -, q2⟩ := blk3 kk
        have hD2 := hD undef (w9.setCell ⟨n, 2, none⟩ (.slice a8 n8 c8)) trivial ⟨by show FullStore _ _ _ _ _ _ _ (g 4) (g 11) (g 18) (g 24) (g 25) _ _; rw [e1]; exact h1.stored, h.2⟩
        clear hD h h1 kk
        go_simp
        exact hD2
      rintro vs -
      refine mv_end (by kernel_rfl) ?_
      rintro w10 ⟨hw2, -⟩
      have HG : FullStore strE wr 9 (peaksB l2 ++ [x]) [x] n 2 (some (.slice (some ⟨b, o, none⟩) (k + 2) q)) (some (.slice (some ⟨b, o, none⟩) (k + 2) q)) (some (.slice (some ⟨b, o, none⟩) (k + 2) q)) (some (.slice (some ⟨gs, 0, none⟩) 1 1)) (some (.slice a8 n8 c8)) (some vs) w10 := hw2
      obtain ⟨w8, hb8, hR8, rfl⟩ := HG.done
      have k8 := (hb8.block n (lt_of_block hN.out.2.2.blk)).trans hN.out.2.2.blk
      have hne8 : (Value.slice a8 n8 c8).ownBlock ≠ some n := fun e => by
          have h1 := (hR8.lt e).1
          have h2 : n < wr.heap.size := lt_of_block hN.out.2.2.blk
          omega
      have J : JoinAt w1 (w8.setCell ⟨n, 2, none⟩ (.slice a8 n8 c8)) 39 n m0 (.slice a8 n8 c8) (aboveL l2) x tg :=
          ⟨set_at2 _ k8, (Solo.set w8 n 2 _).rd (by rw [← peaks_even l2 HK.out.2.1]; exact hR8.rd) hne8, hne8, (hN.out.2.2.solo.then (Solo.of_below hb8)).then (Solo.set w8 n 2 _),
            by rw [← HX.out, ← peaks_pair l2 z y HK.out.2.1]; exact hN.out.2.2.same, (fun t ht => by
              rcases List.mem_append.1 ht with h | h
              · exact above_wide l2 (fun s hs => hN.out.2.2.wide s (by simp [hs])) t h
              · rw [List.mem_singleton.1 h, ← HX.out]; exact node_size z y), fun bq eq => by have q1 := (hR8.lt eq).1; have q2 := hN.out.2.2.solo.size; omega⟩
      have HJ2 := Lib.hid J
      have hmh : wrap64 ((m : Int) / 2) = ((m / 2 : Nat) : Int) := wrap_hf m hN.out.2.1
      clear J hne8 k8 HG hw2 hF hFC hF4 hFC4 hF11 hFC11 hF18 hFC18 k4 k11 k18 kz ky hR8 hb8 c0 c1 c2 f0 f1 f2
      have HMH := Lib.hid hmh
      go_wp2_with fail
      clear hmh
      go_roundw
      case' rel => exact ⟨m / 2, aboveL l2, x, a8, n8, c8, by rw [HMH.out], Lib.hid ⟨by rw [above_length]; have h1 := hN.out.1; rw [List.length_append, List.length_singleton] at h1; have h2 := HK.out.2.1; omega, by have := hN.out.2.1; omega, HJ2.out⟩⟩
      case' measure => exact meas_half m HMH.out (by have := hN.out.1; omega)
end Go.Proofs.Ytpdeicgjmjoglaa
/- A range over a function that hands on what lies in memory (slices): the contract says of each what it reads as where it is handed. The loop's body leaves no way but its end. Plain. No program is in sight. -/
namespace Ks
open Go Go.RowKit
set_option linter.unusedVariables false

/-- What an iterator hands on: behind the last round (world A) x was made (world B), of which New tells; X is what it reads of x behind the round. -/
def SeenAll {α : Type} (F : Fence) (n : Nat) (P : Program) (g : Nat) (lb : Array Value) (encs : α → Array Value) (X : α → World → Prop) (New : List α → α → World → World → Prop) (x0 : α) (S : List α → Prop) (w : World) : Prop :=
  ∀ (l : Nat) (J : List α → World → Prop) (M : List α → α → World → Prop) (W : World), Below w.heap.size w W →
    (∀ pre A B, J pre A → Below A.heap.size A B → J pre B) → (∀ pre x A B, J pre A → Below A.heap.size A B → New pre x A B → M pre x B) →
    (∀ pre x W1, M pre x W1 → YieldAt F (n - 1) P l (encs x) W1 fun e W' => e = .returned (.bool true) ∧ J (pre ++ [x]) W' ∧ X x W') →
    (∀ A, Below W.heap.size W A → M [] x0 A) →
    CallsIn F n P g (#[.func (.yield l) #[] #[]] ++ lb) W fun e W' => (∃ v, e = .returned v) ∧ ∃ xs, S xs ∧ J xs W'

def seenPost {α : Type} (B : Nat) (I : List α → World → Prop) (X : α → World → Prop) (pre : List α) (x : α) (W : World) : Exit → Act → World → Prop
  | .normal, _, W' => KeepsFrom B W W' ∧ I (pre ++ [x]) W' ∧ X x W'
  | _, _, _ => False

theorem wpIn_range_seen {F : Fence} {n : Nat} {P : Program} {α : Type} {g : Operand} {ps : Array Tmp} {assign body : Code} {Q : Exit → Act → World → Prop} {a : Act} {w : World}
    (hro : F.round = none) (h1 : 1 ≤ n) {gf : Nat} {lb : Array Value} (hg : a.eval g = .func (.func gf) #[] lb) (hFg : F.fn gf) (eg : ∀ args w, (callFunc gf args).run P w = .ok (.enter gf args) w)
    {encs : α → Array Value} {X : α → World → Prop} {New : List α → α → World → World → Prop} {x0 : α} {S : List α → Prop} (hseq : SeenAll F (n - 1) P gf lb encs X New x0 S w) (hps : ∀ x, (encs x).size = ps.size)
    (I : List α → World → Prop) (M : List α → α → World → Prop) (hI : OwnFrom w.heap.size I) (hM : OwnFrom w.heap.size fun (s : List α × α) W => M s.1 s.2 W) (hX : OwnFrom w.heap.size X)
    (hIB : ∀ pre A B, I pre A → w.heap.size + 2 ≤ A.heap.size → Below A.heap.size A B → I pre B) (hIM : ∀ pre x A B, I pre A → w.heap.size + 2 ≤ A.heap.size → Below A.heap.size A B → New pre x A B → M pre x B)
    (h0 : ∀ A, Below w.heap.size w A → M [] x0 A) (a₁ : α → Act)
    (hassign : ∀ (l : Nat) (x : α) (W : World) (K : Act → World → Prop), K (a₁ x) W →
      assign.wpIn (F.inRound l) (n - 1 - 1) P (Exit.then K (fun _ _ _ => False)) { tmps := (ps.zip (encs x)).foldl (fun t (p, v) => t.setIfInBounds p v) a.tmps, defers := [] } W)
    (hbody : ∀ (l : Nat) (pre : List α) (x : α) (W : World), w.heap.size + 2 ≤ W.heap.size → M pre x W → body.wpIn (F.inRound l) (n - 1 - 1) P (seenPost w.heap.size I X pre x W) (a₁ x) W)
    (hdone : ∀ (D : Nat) (xs : List α) (W : World), w.heap.size ≤ D → S xs → I xs W → W.heap[D]? = some (.deferred (some [])) → Q .normal { a with defers := { target := .collected D, args := #[] } :: a.defers } W) :
    (Code.rangeFunc g ps assign body).wpIn F n P Q a w := by
  refine wpIn_rangeFunc fun fn hfn => ?_
  rw [hro]
  obtain ⟨mk, hmk⟩ : ∃ mk : LoopState → Loop, mk = fun st => { state := st, pending := none, fn, tmps := a.tmps, params := ps, assign, body, defers := w.heap.size } := ⟨_, rfl⟩
  obtain ⟨V, hV⟩ : ∃ V, (w.alloc (.deferred (some []))).alloc (.loop (mk .ready)) = V := ⟨_, rfl⟩
  have hs2 : V.heap.size = w.heap.size + 2 := by rw [← hV]; simp
  have hrec : V.heap[w.heap.size + 1]? = some (.loop (mk .ready)) := by
    rw [← hV]; have := World.alloc_heap_new (w.alloc (.deferred (some []))) (.loop (mk .ready)); rwa [World.size_alloc] at this
  have hdef : V.heap[w.heap.size]? = some (.deferred (some [])) := by
    rw [← hV]; exact (Below.heap_alloc _ _ _ (by simp)).trans (World.alloc_heap_new w _)
  have hwV : Below w.heap.size w V := by rw [← hV]; exact ((Below.refl _ w).alloc (Nat.le_refl _) _).alloc (by simp) _
  have lt : ∀ {A : World} {k : Nat} {o : Obj}, A.heap[k]? = some o → k < A.heap.size := fun h => (Array.getElem?_eq_some_iff.1 h).1
  refine ⟨w.heap.size + 1, [{ target := .collected w.heap.size, args := #[] }], V, { target := .fn (.func gf) lb, args := #[.func (.yield (w.heap.size + 1)) #[] #[]] }, V, gf,
    #[.func (.yield (w.heap.size + 1)) #[] #[]] ++ lb, V, by rw [← hV, hmk]; exact run_enterLoop_outer _ _ _ _ _, by simp only [resolve, hg]; simp [go_sem],
    fun f' hf' => by simp [Target.leads] at hf'; subst hf'; exact hFg, by simp [invoke, go_sem, eg], fun _ => h1, ?_⟩
  have key := hseq (w.heap.size + 1) (fun pre W => I pre W ∧ W.heap[w.heap.size + 1]? = some (.loop (mk .ready)) ∧ W.heap[w.heap.size]? = some (.deferred (some [])))
    (fun pre x W => M pre x W ∧ W.heap[w.heap.size + 1]? = some (.loop (mk .ready)) ∧ W.heap[w.heap.size]? = some (.deferred (some []))) V hwV
    (fun pre A B h hb => ⟨hIB pre A B h.1 (by have := lt h.2.1; omega) hb, (hb.block _ (lt h.2.1)).trans h.2.1, (hb.block _ (lt h.2.2)).trans h.2.2⟩)
    (fun pre x A B h hb hn => ⟨hIM pre x A B h.1 (by have := lt h.2.1; omega) hb hn, (hb.block _ (lt h.2.1)).trans h.2.1, (hb.block _ (lt h.2.2)).trans h.2.2⟩)
    (fun pre x W h => ?_) (fun A hb => ⟨h0 A (hwV.trans (hb.mono (by omega))), (hb.block _ (by omega)).trans hrec, (hb.block _ (by omega)).trans hdef⟩)
  · refine key.mono ?_
    rintro e W2 ⟨⟨v, rfl⟩, xs, hS, hi, hl, hk⟩
    exact ⟨none, _, by have := run_endLoop (P := P) hl (by rw [hmk]; simp); rw [hmk] at this; exact this, hdone _ xs _ (Nat.le_refl _) hS (hI.putObj _ hi (by omega) hl rfl) ((World.putObj_heap_other (by omega)).trans hk)⟩
  · obtain ⟨hm, hl, hk⟩ := h
    have hlt := lt hl
    have hy := run_yield (P := P) (args := encs x) hl (by rw [hmk]; exact hps x)
    rw [hmk] at hy
    refine ⟨fn, _, assign, body, hy, roundIn_of_wpIn hfn (hassign _ x W _ ⟨_, run_beginRound hl (by rw [hmk]), ?_⟩)⟩
    have hl2 : (W.putObj (w.heap.size + 1) (.loop { mk .ready with state := .busy })).heap[w.heap.size + 1]? = some (.loop { mk .ready with state := .busy }) := World.putObj_heap_same hlt
    have hk2 : (W.putObj (w.heap.size + 1) (.loop { mk .ready with state := .busy })).heap[w.heap.size]? = some (.deferred (some [])) := (World.putObj_heap_other (by omega)).trans hk
    refine wpIn_mono (hbody _ pre x _ (by simp; omega) (hM.putObj (s := (pre, x)) _ hm (by omega) hl rfl)) ?_
    rintro e a3 W3 hp
    cases e with
    | normal =>
      obtain ⟨hk3, hi3, hx3⟩ := hp
      have hl3 := hk3.same _ _ (by omega) hl2 rfl
      have hd3 := hk3.same _ _ (Nat.le_refl _) hk2 rfl
      have hr := run_endRound (P := P) none hl3
      have hlt3 := lt hl3
      refine ⟨_, _, hr, rfl, ⟨hI.putObj _ hi3 (by omega) hl3 rfl, ?_, (World.putObj_heap_other (by omega)).trans hd3⟩, hX.putObj _ hx3 (by omega) hl3 rfl⟩
      rw [World.putObj_heap_same hlt3, hmk]
      rfl
    | ret => exact hp.elim
    | exit id => exact hp.elim
    | goto t => exact hp.elim
    | panic ch => exact hp.elim
    | outgrown => exact hp.elim
end Ks
/- A region that draws its order in a round of a range over a function, walked once by its class of worlds. Plain. No program is in sight. -/
namespace Ks
open Go Go.RowKit
set_option linter.unusedVariables false
def noDeferB (ops : Array Oper) : Bool := ops.all fun o => match o.op with | .defer _ => false | _ => true
theorem noDefer_at {ops : Array Oper} (h : noDeferB ops = true) {i : Nat} {o : Oper} (ho : ops[i]? = some o) : ∀ c, o.op ≠ .defer c := by
  intro c e
  have hi := (Array.getElem?_eq_some_iff.1 ho)
  obtain ⟨hi, rfl⟩ := hi
  have := Array.all_eq_true.1 h i hi
  rw [e] at this
  cases this
section
variable {P : Program} {ops : Array Oper} {md : Region.Mode} {C : Told → World → Prop} {l n : Nat}
theorem wpOpIn_of_mOp {i : Nat} {f : Told} {a : Act} {K : Told → Act → Prop} {K' : Act → World → Prop} {Q' : Exit → Act → World → Prop} {w : World} (hnd : noDeferB ops = true) (hf : f i = none) (hC : C f w) (h : ∀ v a w', C (upd f i v) w' → K (upd f i v) a → K' a w') (hh : mOp P md ops C i K f a) : wpOpIn (Fence.wide.inRound l) n P ops Q' i K' a w := by
  unfold mOp at hh
  unfold wpOpIn
  split
  · rename_i ho; simp only [ho] at hh
  · rename_i o ho
    simp only [ho] at hh
    obtain ⟨V, h1, h2⟩ := hh
    rcases h1 with ⟨hw, h1⟩ | ⟨hw, hV, h1⟩
    · rw [if_pos hw]
      have h3 := h1 f w (fun _ _ _ => rfl) hf hC
      refine ⟨fun _ _ => trivial, ?_⟩
      rw [Oper.semAt_eq _ _ _ (noDefer_at hnd ho)]
      generalize (execOp a.eval o).run P w = r at *
      cases r with
      | ok n w' =>
        cases n <;> simp only [movesUpon] at h3 <;> simp only [Oper.uponIn]
        case value u => exact h _ _ _ h3.2 (h2 _ h3.1)
        case skip => exact h _ _ _ h3.2 (h2 _ h3.1)
        case enter g args =>
          refine ⟨(fun e => by cases e), ?_⟩
          exact CallsIn.inRound l (callsIn_wide.2 (h3.mono fun e w'' ⟨v, he, hv, hw''⟩ => by subst he; exact h _ _ _ hw'' (h2 _ hv)))
      | halt x w' => simp only [movesUpon] at h3
    · rw [if_neg (by simp [hw])]
      exact ⟨fun _ _ => trivial, h _ _ _ (h1 f w (fun _ _ _ => rfl) hf hC) (h2 _ hV)⟩
theorem wpAnyIn_of_moved {Q : Told → Act → Prop} {Q' : Exit → Act → World → Prop} (hnd : noDeferB ops = true) (hQ : ∀ f a w, C f w → Q f a → Q' .normal a w) : ∀ (fuel : Nat) (listed : Array Bool) (f : Told) (a : Act) (w : World), (∀ i, listed.getD i true = false → f i = none) → C f w →
    wpAnyM P md ops C Q fuel listed f a → wpAnyIn (Fence.wide.inRound l) n P md ops Q' fuel listed a w
  | 0, _, _, _, _, _, hw, h => ⟨h.1, hQ _ _ _ hw h.2⟩
  | fuel + 1, listed, f, _, _, hi, hw, h => ⟨fun h0 => absurd h0 h.1, fun i hr => by
      have h0 := (mem_ready.1 hr).1
      refine wpOpIn_of_mOp hnd (hi i h0) hw (fun v a' w' hw' => wpAnyIn_of_moved hnd hQ fuel _ _ a' w' (fun j hj => ?_) hw') (h.2 i hr)
      by_cases e : j = i
      · subst e
        have hlt : j < listed.size := by
          rcases Nat.lt_or_ge j listed.size with h' | h'
          · exact h'
          · simp [Array.getElem?_eq_none h'] at h0
        simp [hlt] at hj
      · rw [getD_set_ne true (Ne.symm e)] at hj
        rw [upd_ne _ _ e]; exact hi j hj⟩
theorem wpIn_region_mv {id : Nat} {Q : Exit → Act → World → Prop} {a : Act} {w : World} {L : List Oper} (C : Told → World → Prop) (hm : P.follows .mixedOrders = true) (hnd : noDeferB L.toArray = true) (hC : C (fun _ => none) w.drew)
    (h : wpAnyM P .any L.toArray C (fun f a' => ∀ w', C f w' → Q .normal a' w') L.length (Array.replicate L.length false) (fun _ => none) a) : (Code.region id L.toArray true).wpIn (Fence.wide.inRound l) n P Q a w :=
  wpIn_region_any hm (wpAnyIn_of_moved (C := C) (Q := fun f a => ∀ w', C f w' → Q .normal a w') hnd (fun f a w hw h => h w hw) _ _ (fun _ => none) _ _ (fun _ _ => rfl) hC (by simpa using h))
end
end Ks
/- Trees of hashes: the levels, handed on by a function. -/
namespace Ks
open Go Go.RowKit
set_option linter.unusedVariables false
def levelsL (l : List ByteArray) : List (List ByteArray) :=
  if h : 2 ≤ l.length then l :: levelsL (aboveL l) else [l]
termination_by l.length
decreasing_by rw [above_length]; omega
theorem levels_two (l : List ByteArray) (h : 2 ≤ l.length) : levelsL l = l :: levelsL (aboveL l) := by rw [levelsL, dif_pos h]
theorem levels_low (l : List ByteArray) (h : ¬ 2 ≤ l.length) : levelsL l = [l] := by rw [levelsL, dif_neg h]
abbrev Lev := Value × List ByteArray
def levX (x : Lev) (w : World) : Prop := Rd strE w x.1 x.2
def levNew (l : List ByteArray) (T : TypeId) (pre : List Lev) (x : Lev) (A B : World) : Prop := Row strE B A.heap.size T x.1 x.2 ∧ ∃ t, pre.map Prod.snd ++ x.2 :: t = levelsL l
theorem levels_head (l : List ByteArray) : ∃ t, levelsL l = l :: t := by
  by_cases h : 2 ≤ l.length
  · exact ⟨_, levels_two l h⟩
  · exact ⟨[], levels_low l h⟩
def lenV : Value → Nat
  | .slice _ n _ => n
  | _ => 0
theorem above_whole (l : List ByteArray) (h : wholeL l = true) : wholeL (aboveL l) = true := by
  have key : ∀ n (l : List ByteArray), l.length ≤ n → wholeL l = true → wholeL (aboveL l) = true := by
    intro n
    induction n with
    | zero => intro l hn _; (obtain rfl : l = [] := List.length_eq_zero_iff.1 (by omega)); rfl
    | succ n ih =>
      intro l hn h
      match l, hn, h with
      | [], _, _ => rfl
      | [a], _, h => exact h
      | a :: b :: l, hn, h =>
        simp only [List.length_cons] at hn
        simp only [wholeL, List.all_cons, Bool.and_eq_true, beq_iff_eq] at h
        have := ih l (by omega) h.2.2
        simp only [aboveL, wholeL, List.all_cons, nodeS_size, Bool.and_eq_true, beq_iff_eq, true_and]
        exact this
  exact key _ l (Nat.le_refl _) h
theorem wpIn_scope_wide {P : Program} {n : Nat} {c : Code} {Q : Exit → Act → World → Prop} {a : Act} {w : World} (h : c.wpIn Fence.wide n P (Exit.noGoto Q) a w) : (Code.scope c).wpIn Fence.wide n P Q a w := wpIn_wide.2 (wp_scope_straight (wpIn_wide.1 h))
theorem wpIn_label_wide {P : Program} {n l : Nat} {Q : Exit → Act → World → Prop} {a : Act} {w : World} (h : Q .normal a w) : (Code.label l).wpIn Fence.wide n P Q a w := wpIn_wide.2 (wp_label h)
end Ks
namespace Go.Proofs.Ytpdeicgjmjoglaa
open Go.RowKit Ks
set_option linter.unusedVariables false
attribute [local go_sem] Oper.semAt_some
theorem levels_any (a : Option Addr) (k c : Nat) (w : World) : Calls Try.prog 34 #[.slice a k c] w fun e w' => e = .returned (.func (.func 49) #[] #[.pointer (some ⟨w.heap.size, 0, none⟩)]) ∧ w' = w.alloc (.cells #[.slice a k c] 22) := by
  refine calls_by fun R HR => ?_
  go_enter Try.func34, Try.ntmps34
  go_wp2
  exact HR.out _ _ ⟨rfl, rfl⟩
set_option maxRecDepth 100000 in
set_option maxHeartbeats 2000000 in
theorem levels_seen (n Bn : Nat) (lv : Value) (l : List ByteArray) (w : World) (hBn : Bn < w.heap.size) (hc : w.cell? ⟨Bn, 0, none⟩ = some lv) (hr : Rd strE w lv l) (hw : wholeL l = true) (hl : l.length ≤ 100000000) :
    SeenAll Fence.wide n Try.prog 49 #[.pointer (some ⟨Bn, 0, none⟩)] (fun x : Lev => #[x.1]) levX (levNew l 9) (lv, l) (fun xs => xs.map Prod.snd = levelsL l) w := by
  intro lp J M W hW hJ hM hY h0
  have hcW : W.cell? ⟨Bn, 0, none⟩ = some lv := (hW.cell (p := ⟨Bn, 0, none⟩) hBn).trans hc
  have HJ := Lib.hid hJ
  have HMn := Lib.hid hM
  have HY := Lib.hid hY
  have H0 := Lib.hid (h0 W (Below.refl _ _))
  have HS := Lib.hid (And.intro hw (And.intro hl hr))
  clear hJ hM hY h0 hw hl
  obtain ⟨a0, cap0, rfl, -⟩ := hr.shape
  clear hr hc
  refine callsIn_of_wp Try.func49 rfl trivial ?_ rfl
  simp only [Try.ntmps49, List.size_toArray, List.length_cons, List.length_nil, Nat.reduceAdd, Nat.reduceSub, Array.replicate_succ, Array.replicate_zero, List.push_toArray, List.append_toArray, List.nil_append, List.cons_append]
  gi_wp2
  refine wpIn_scope_wide ?_
  gi_wp2
  refine wpIn_label_wide ?_
  gi_wp2
  gi_loopw [3] (fun v wr => ∃ (pre : List Lev) (L : List ByteArray) (a : Option Addr) (c : Nat), .slice a L.length c = v ∧ Hid (M pre (.slice a L.length c, L) wr ∧ wholeL L = true ∧ L.length ≤ 100000000 ∧ pre.map Prod.snd ++ levelsL L = levelsL l)) (fun v _ => lenV v)
  case atStart => exact ⟨[], l, a0, cap0, rfl, Lib.hid ⟨H0.out, HS.out.1, HS.out.2.1, rfl⟩⟩
  case round =>
    obtain ⟨pre, L, a, c, rfl, hN⟩ := hrel
    obtain ⟨fn, tmps, assign, body, hy, hR⟩ := HY.out pre (.slice a L.length c, L) wr hN.out.1
    dsimp only at hy
    have HR3 := Lib.hid hR
    clear hR
    by_cases h2 : 2 ≤ L.length
    · have h2i : ¬ (L.length : Int) < 2 := by omega
      have HL := Lib.hid h2
      clear h2
      gi_wp2
      refine ⟨(fun e => by cases e), HR3.out.mono ?_⟩
      rintro e W3 ⟨rfl, hJ3, hX3⟩
      have H3 := Lib.hid (And.intro hJ3 hX3)
      clear hJ3 hX3
      gi_wp2
      refine ⟨trivial, (fun e => by cases e), (callsIn_wide.2 (above_any _ L W3 H3.out.2 hN.out.2.1 hN.out.2.2.1)).mono ?_⟩
      rintro e w4 ⟨v', rfl, hrow, hb⟩
      obtain ⟨a', c', hv', -⟩ := hrow.shape
      have H4 := Lib.hid (And.intro hrow hb)
      clear hrow hb
      subst hv'
      gi_wp2
      go_roundw
      case rel =>
        have hnext : (pre ++ [((.slice a L.length c, L) : Lev)]).map Prod.snd ++ levelsL (aboveL L) = levelsL l := by rw [← hN.out.2.2.2, levels_two L HL.out]; simp
        obtain ⟨t, ht⟩ := levels_head (aboveL L)
        refine ⟨pre ++ [(.slice a L.length c, L)], aboveL L, a', c', rfl, Lib.hid ⟨HMn.out _ _ W3 _ H3.out.1 H4.out.2 ⟨H4.out.1, t, by rw [← hnext, ht]⟩, above_whole L hN.out.2.1, ?_, hnext⟩⟩
        rw [above_length]; have := hN.out.2.2.1; omega
      case measure =>
        show lenV _ < lenV _
        simp only [lenV]
        rw [above_length]; have := HL.out; omega
    · have h2i : (L.length : Int) < 2 := by omega
      have HL := Lib.hid h2
      clear h2
      gi_wp2
      refine ⟨(fun e => by cases e), HR3.out.mono ?_⟩
      rintro e W3 ⟨rfl, hJ3, hX3⟩
      have H3 := Lib.hid (And.intro hJ3 hX3)
      clear hJ3 hX3
      gi_wp2
      simp only [Exit.noGoto]
      gi_wp2
      go_end0
      exact ⟨⟨_, rfl⟩, pre ++ [(.slice a L.length c, L)], by rw [← hN.out.2.2.2, levels_low L HL.out]; simp, H3.out.1⟩
end Go.Proofs.Ytpdeicgjmjoglaa
/- Trees of hashes: the root of leaves. -/
namespace Ks
open Go Go.RowKit
set_option linter.unusedVariables false
def rootsOf : ByteArray → List (List ByteArray) → ByteArray
  | r, [] => r
  | r, l :: ls => rootsOf (if l.length = 1 then l.headD ⟨#[]⟩ else r) ls
theorem rootsOf_snoc (r : ByteArray) (ls : List (List ByteArray)) (l : List ByteArray) : rootsOf r (ls ++ [l]) = if l.length = 1 then l.headD ⟨#[]⟩ else rootsOf r ls := by
  induction ls generalizing r with
  | nil => rfl
  | cons x ls ih => exact ih _
theorem roots_levels : ∀ (n : Nat) (l : List ByteArray) (r : ByteArray), l.length ≤ n → rootsOf r (levelsL l) = if l.length = 0 then r else rootL l := by
  intro n
  induction n with
  | zero =>
    intro l r h
    obtain rfl : l = [] := List.length_eq_zero_iff.1 (by omega)
    rw [levels_low _ (by simp)]; rfl
  | succ n ih =>
    intro l r h
    by_cases h2 : 2 ≤ l.length
    · have ha := above_length l
      rw [levels_two l h2]
      show rootsOf (if l.length = 1 then l.headD ⟨#[]⟩ else r) (levelsL (aboveL l)) = _
      rw [if_neg (by omega), ih _ _ (by omega), if_neg (by omega), if_neg (by omega), root_above l (by omega)]
    · rw [levels_low l h2]
      match l, h2 with
      | [], _ => rfl
      | [a], _ => rw [root_one]; rfl
      | a :: b :: l, h2 => simp at h2
def rootV (l : List ByteArray) : ByteArray := if wholeL l then rootL l else ⟨#[]⟩
def wholeE (l : List ByteArray) : Int := if wholeL l then 0 else 2
theorem rd_own : Own (fun (x : Lev) W => Rd strE W x.1 x.2) := by
  intro s W W' row hs hg hr
  obtain ⟨a, cap, e, hc, hn, h⟩ := hs
  refine ⟨a, cap, e, hc, hn, fun i x hx => ?_⟩
  obtain ⟨b, o, h1, h2, h3⟩ := h i x hx
  exact ⟨b, o, h1, Nat.lt_of_lt_of_le h2 hg.size, fun j u hu => cell_kept (h3 j u hu) hg hr⟩
theorem Rd.put' {α : Type} {E : Enc α} {w : World} {v : Value} {l : List α} (h : Rd E w v l) {m o : Nat} (u : Value) (hm : l ≠ [] → v.ownBlock ≠ some m) : Rd E (w.setCell ⟨m, o, none⟩ u) v l := by
  cases l with
  | nil =>
    obtain ⟨a, cap, e, hc, hn, _⟩ := h
    exact ⟨a, cap, e, hc, hn, fun i x hx => by simp at hx⟩
  | cons x l => exact h.put u (hm (by simp))
theorem Rd.low {w : World} {v : Value} {l : List ByteArray} (h : Rd strE w v l) {b : Nat} (hb : w.heap.size ≤ b) : l ≠ [] → v.ownBlock ≠ some b := by
  intro hl e
  cases l with
  | nil => exact hl rfl
  | cons x l =>
    obtain ⟨a, cap, rfl, _⟩ := h.shape
    obtain ⟨b1, o1, rfl, h1, _⟩ := h.str 0 (by simp)
    simp [Value.ownBlock] at e
    omega
end Ks
namespace Go.Proofs.Ytpdeicgjmjoglaa
open Go.RowKit Ks
set_option linter.unusedVariables false
attribute [local go_sem] Oper.semAt_some
theorem root_no (lv : Value) (l : List ByteArray) (w : World) (hr : Rd strE w lv l) (hl : l.length ≤ 100000000) (hw : wholeL l = false) :
    Calls Try.prog 13 #[lv] w fun e w' => e = .returned (.tuple #[.string ⟨#[]⟩, .int .i64 2]) ∧ Below w.heap.size w w' := by
  have HW := whole_any lv l w hr (by omega)
  rw [hw] at HW
  obtain ⟨a, cap, rfl, -⟩ := hr.shape
  have HW := Lib.hid HW
  clear hr hl hw
  refine (callsIn_wide (n := 5)).1 ?_
  refine callsIn_of_wp_marks Try.func13 rfl trivial ?_ rfl
  simp only [Try.ntmps13, List.size_toArray, List.length_cons, List.length_nil, Nat.reduceAdd, Nat.reduceSub, Array.replicate_succ, Array.replicate_zero, List.push_toArray, List.append_toArray, List.nil_append, List.cons_append]
  gi_wp2
  refine ⟨trivial, (callsIn_wide.2 HW.out).mono ?_⟩
  rintro e w1 ⟨rfl, hb⟩
  have HB := Lib.hid hb
  clear hb
  gi_wp2
  exact ⟨_, results_tmp2 rfl _ _ _, rfl, HB.out⟩
set_option maxRecDepth 100000 in
set_option maxHeartbeats 2000000 in
theorem root_yes (lv : Value) (l : List ByteArray) (w : World) (hr : Rd strE w lv l) (hl : l.length ≤ 100000000) (hw : wholeL l = true) :
    Calls Try.prog 13 #[lv] w fun e w' => e = .returned (.tuple #[.string (rootL l), .int .i64 0]) ∧ Below w.heap.size w w' := by
  have HW := whole_any lv l w hr (by omega)
  rw [hw] at HW
  obtain ⟨a, cap, rfl, -⟩ := hr.shape
  have HW := Lib.hid HW
  have HS := Lib.hid (And.intro hr (And.intro hl hw))
  clear hr hl hw
  refine (callsIn_wide (n := 5)).1 ?_
  refine callsIn_of_wp_marks Try.func13 rfl trivial ?_ rfl
  simp only [Try.ntmps13, List.size_toArray, List.length_cons, List.length_nil, Nat.reduceAdd, Nat.reduceSub, Array.replicate_succ, Array.replicate_zero, List.push_toArray, List.append_toArray, List.nil_append, List.cons_append]
  gi_wp2
  refine ⟨trivial, (callsIn_wide.2 HW.out).mono ?_⟩
  rintro e w1 ⟨rfl, hb⟩
  have HB := Lib.hid hb
  clear hb
  gi_wp2
  refine ⟨trivial, (callsIn_wide.2 (sum0_any w1)).mono ?_⟩
  rintro e w2 ⟨rfl, hb⟩
  have HB2 := Lib.hid (HB.out.trans (hb.mono HB.out.size))
  clear hb
  gi_wp2
  refine ⟨trivial, (callsIn_wide.2 (levels_any a l.length cap _)).mono ?_⟩
  rintro e w4 ⟨rfl, rfl⟩
  have HLZ := Lib.hid (roots_levels l.length l (shaS []) (Nat.le_refl _))
  obtain ⟨Z, hZ⟩ : ∃ Z, shaS [] = Z := ⟨_, rfl⟩
  rw [hZ] at HLZ
  have HZ := Lib.hid (show Z = rootL [] by rw [← hZ, root_nil]; rfl)
  simp only [hZ] at *
  clear hZ
  have hs := blk1 (alloc_new w2 (.cells #[.string Z] 9))
  have hb0 := blk1 (alloc_new (w2.alloc (.cells #[.string Z] 9)) (.cells #[.slice a l.length cap] 22))
  rw [World.size_alloc] at hb0
  have hB0 : Below w.heap.size w ((w2.alloc (.cells #[.string Z] 9)).alloc (.cells #[.slice a l.length cap] 22)) := (HB2.out.alloc HB2.out.size _).alloc (by have := HB2.out.size; simp; omega) _
  have HK := Lib.hid (And.intro hs (And.intro hb0 hB0))
  gi_wp2
  rw [World.size_alloc]
  refine wpIn_range_seen (α := Lev) rfl (by omega) (gf := 49) (lb := #[.pointer (some ⟨w2.heap.size + 1, 0, none⟩)]) rfl trivial (enters_of Try.func49 (by kernel_rfl) rfl)
    (levels_seen _ (w2.heap.size + 1) _ l _ (by simp) hb0.1 (HS.out.1.below hB0) HS.out.2.2 HS.out.2.1) (fun _ => rfl)
    (fun pre W => (W.cell? ⟨w2.heap.size, 0, none⟩ = some (.string (rootsOf Z (pre.map Prod.snd))) ∧ W.frozen? ⟨w2.heap.size, 0, none⟩ = false) ∧ Below w.heap.size w W)
    (fun pre x W => (((W.cell? ⟨w2.heap.size, 0, none⟩ = some (.string (rootsOf Z (pre.map Prod.snd))) ∧ W.frozen? ⟨w2.heap.size, 0, none⟩ = false) ∧ Below w.heap.size w W) ∧ levX x W) ∧ (x.2 ≠ [] → x.1.ownBlock ≠ some w2.heap.size))
    (OwnFrom.and (Own.from (fun s A B row hs hg hr => ⟨cell_kept hs.1 hg hr, (frozen_kept hs.1 hg hr).trans hs.2⟩) _) (ownFrom_below (Nat.le_refl _) (by have := HB2.out.size; simp; omega)))
    (OwnFrom.and (OwnFrom.and (OwnFrom.and (Own.from (fun s A B row hs hg hr => ⟨cell_kept hs.1 hg hr, (frozen_kept hs.1 hg hr).trans hs.2⟩) _) (ownFrom_below (Nat.le_refl _) (by have := HB2.out.size; simp; omega))) (fun s A B row hs hg hr => rd_own s.2 A B row hs hg (fun r e => (hr r e).2))) (fun s A B row hs hg hr => hs))
    (Own.from rd_own _)
    ?hIB ?hIM ?h0
    (fun x => { tmps := #[.slice a l.length cap, undef, .string ⟨#[]⟩, .int .i64 0, .pointer (some ⟨w2.heap.size, 0, none⟩), x.1, .slice a l.length cap, .bool true, .bool false, .string Z, .slice a l.length cap, .func (.func 49) #[] #[.pointer (some ⟨w2.heap.size + 1, 0, none⟩)], x.1, undef, undef, undef, undef, undef, undef, undef], defers := [] }) ?assign ?body ?done
  case hIB =>
    intro pre A B hi hA hb
    simp only [World.size_alloc] at hA
    exact ⟨⟨(hb.cell (p := ⟨w2.heap.size, 0, none⟩) (by simp; omega)).trans hi.1.1, (hb.frozen (p := ⟨w2.heap.size, 0, none⟩) (by simp; omega)).trans hi.1.2⟩, hi.2.trans (hb.mono hi.2.size)⟩
  case hIM =>
    intro pre x A B hi hA hb hn
    simp only [World.size_alloc] at hA
    refine ⟨⟨⟨⟨(hb.cell (p := ⟨w2.heap.size, 0, none⟩) (by simp; omega)).trans hi.1.1, (hb.frozen (p := ⟨w2.heap.size, 0, none⟩) (by simp; omega)).trans hi.1.2⟩, hi.2.trans (hb.mono hi.2.size)⟩, hn.1.rd⟩, fun _ e => ?_⟩
    have := (hn.1.lt e).1
    omega
  case h0 =>
    intro A hb
    refine ⟨⟨⟨⟨(hb.cell (p := ⟨w2.heap.size, 0, none⟩) (by simp; omega)).trans (((alloc_below _ _).cell (p := ⟨w2.heap.size, 0, none⟩) (by simp)).trans HK.out.1.1), (hb.frozen (p := ⟨w2.heap.size, 0, none⟩) (by simp; omega)).trans (((alloc_below _ _).frozen (p := ⟨w2.heap.size, 0, none⟩) (by simp)).trans HK.out.1.2)⟩, HK.out.2.2.trans (hb.mono HK.out.2.2.size)⟩, HS.out.1.below (HK.out.2.2.trans (hb.mono HK.out.2.2.size))⟩, HS.out.1.low HB2.out.size⟩
  case assign =>
    intro lp x W K hK
    gi_wp2
    exact hK
  case body =>
    rintro lp pre ⟨v, L⟩ W hsz ⟨⟨⟨⟨hc, hf⟩, hb⟩, hx⟩, hne⟩
    change Rd strE W v L at hx
    obtain ⟨a', c', rfl, -⟩ := hx.shape
    have HX := Lib.hid (And.intro hx (And.intro hb hne))
    have HR := Lib.hid (rootsOf_snoc Z (pre.map Prod.snd) L)
    have HC := Lib.hid (And.intro hc hf)
    clear hb hne
    by_cases h1 : L.length = 1
    · have hlb : ((L.length : Int) == 1) = true := by rw [h1]; rfl
      obtain ⟨b, o, rfl, hb, c0⟩ := hx.str 0 (by omega)
      rw [Nat.add_zero] at c0
      have hli : (0 : Int) < (L.length : Int) := by omega
      have HL := Lib.hid (show L.headD ⟨#[]⟩ = L[0] by match L, h1 with | [y], _ => rfl)
      have HL1 := Lib.hid h1
      generalize L[0] = y at *
      clear hx hb h1
      gi_wp2
      refine ⟨(KeepsOthers.setCell _ _ _).from _, ⟨⟨?_, ?_⟩, ?_⟩, ?_⟩
      · rw [List.map_append, show [((.slice (some ⟨b, o, none⟩) L.length c', L) : Lev)].map Prod.snd = [L] from rfl, HR.out, if_pos HL1.out, HL.out]
        exact World.cell?_setCell_same' _ _ _ (by rw [HC.out.1]; rfl)
      · rw [World.frozen?_setCell]; exact HC.out.2
      · exact HX.out.2.1.setCell (p := ⟨w2.heap.size, 0, none⟩) HB2.out.size _
      · exact Rd.put' HX.out.1 _ HX.out.2.2
    · have hlb : ((L.length : Int) == 1) = false := by rw [beq_eq_false_iff_ne]; omega
      have HL1 := Lib.hid h1
      clear hx h1
      gi_wp2
      refine ⟨KeepsFrom.refl _ _, ⟨⟨?_, HC.out.2⟩, HX.out.2.1⟩, HX.out.1⟩
      rw [List.map_append, show [((.slice a' L.length c', L) : Lev)].map Prod.snd = [L] from rfl, HR.out, if_neg HL1.out]
      exact HC.out.1
  case done =>
    rintro D xs W hD hS ⟨⟨hc, hf⟩, hb⟩ hK
    rw [hS, HLZ.out] at hc
    have hroot : (if l.length = 0 then Z else rootL l) = rootL l := by
      split
      · rename_i h
        rw [HZ.out, List.length_eq_zero_iff.1 h]
      · rfl
    rw [hroot] at hc
    gi_wp2
    refine ⟨by simp, .inl ⟨_, _, rfl, run_takeDeferred hK, ?_⟩⟩
    exact ⟨_, results_tmp2 rfl _ _ _, rfl, hb.trans (belowK_b (w := w) (Nat.le_refl _) W D _ _ (by simp at hD; have := HB2.out.size; omega) hK rfl rfl)⟩
theorem root_any (lv : Value) (l : List ByteArray) (w : World) (hr : Rd strE w lv l) (hl : l.length ≤ 100000000) :
    Calls Try.prog 13 #[lv] w fun e w' => e = .returned (.tuple #[.string (rootV l), .int .i64 (wholeE l)]) ∧ Below w.heap.size w w' := by
  unfold rootV wholeE
  cases h : wholeL l
  · exact root_no lv l w hr hl h
  · exact root_yes lv l w hr hl h
end Go.Proofs.Ytpdeicgjmjoglaa
/- How leaves grow: the half, the root. -/
namespace Ks
open Go
set_option linter.unusedVariables false
/-- how the first leaves grow to all; first: no step went to the others yet -/
def growL (l : List ByteArray) (m : Nat) (first : Bool) : List ByteArray :=
  if m = l.length then (if first then [] else [rootL l])
  else if h : 2 ≤ l.length then
    if m ≤ halfN l.length then growL (l.take (halfN l.length)) m first ++ [rootL (l.drop (halfN l.length))]
    else growL (l.drop (halfN l.length)) (m - halfN l.length) false ++ [rootL (l.take (halfN l.length))]
  else []
termination_by l.length
decreasing_by
  all_goals
    have := half_lt l.length h
    simp only [List.length_take, List.length_drop]
    omega
theorem grow_all (l : List ByteArray) (first : Bool) : growL l l.length first = if first then [] else [rootL l] := by rw [growL, if_pos rfl]
theorem grow_left (l : List ByteArray) (m : Nat) (first : Bool) (h : m ≠ l.length) (h2 : 2 ≤ l.length) (hm : m ≤ halfN l.length) : growL l m first = growL (l.take (halfN l.length)) m first ++ [rootL (l.drop (halfN l.length))] := by rw [growL, if_neg h, dif_pos h2, if_pos hm]
theorem grow_right (l : List ByteArray) (m : Nat) (first : Bool) (h : m ≠ l.length) (h2 : 2 ≤ l.length) (hm : ¬ m ≤ halfN l.length) : growL l m first = growL (l.drop (halfN l.length)) (m - halfN l.length) false ++ [rootL (l.take (halfN l.length))] := by rw [growL, if_neg h, dif_pos h2, if_neg hm]
end Ks
namespace Go.Proofs.Ytpdeicgjmjoglaa
open Go.RowKit Ks
set_option linter.unusedVariables false
theorem froot_any (lv : Value) (l : List ByteArray) (w : World) (hr : Rd strE w lv l) (hl : l.length ≤ 100000000) :
    Calls Try.prog 38 #[lv] w fun e w' => e = .returned (.string (rootV l)) ∧ Below w.heap.size w w' := by
  refine calls_by fun R HR => ?_
  have HRt := Lib.hid (root_any lv l w hr hl)
  clear hr
  go_enter Try.func38, Try.ntmps38
  go_wp2_with fail
  refine HRt.out.mono ?_
  rintro e w1 ⟨rfl, hb⟩
  go_wp2
  exact HR.out _ _ ⟨rfl, hb⟩
theorem fhalf_any (n : Nat) (w : World) (h2 : 2 ≤ n) (hn : n ≤ 1000000000) : Calls Try.prog 39 #[.int .i64 (n : Nat)] w fun e w' => e = .returned (.int .i64 (halfN n : Nat)) ∧ w' = w := by
  refine calls_by fun R HR => ?_
  have hni : (n : Int) ≤ 1000000000 := by omega
  have H2 := Lib.hid h2
  clear h2 hn
  go_enter Try.func39, Try.ntmps39
  go_wp2
  go_loop [3] (fun i => ∃ k : Nat, i = .int .i64 k ∧ Hid (∃ j, k = 2 ^ j) ∧ Hid (k < n)) (fun i => n - (intOf i).toNat)
  case atStart => exact ⟨1, rfl, Lib.hid ⟨0, rfl⟩, Lib.hid (by have := H2.out; omega)⟩
  case round =>
    obtain ⟨k, rfl, hj, hkn⟩ := hrel
    have hki : (k : Int) < n := by have := hkn.out; omega
    have hmul : (2 : Int) * (k : Int) = ((2 * k : Nat) : Int) := by omega
    by_cases hlt : 2 * k < n
    · have hlti : (2 : Int) * (k : Int) < (n : Int) := by omega
      have HL := Lib.hid hlt
      clear hlt hmul
      go_wp2
      go_round
      case rel => exact ⟨2 * k, by go_num, Lib.hid (by obtain ⟨j, e⟩ := hj.out; exact ⟨j + 1, by rw [Nat.pow_succ]; omega⟩), Lib.hid HL.out⟩
      case measure =>
        have h1 := HL.out
        have h3 : 0 < k := by obtain ⟨j, e⟩ := hj.out; rw [e]; exact Nat.two_pow_pos j
        simp [intOf]; omega
    · have hlti : ¬ (2 : Int) * (k : Int) < (n : Int) := by omega
      have HH := Lib.hid (show halfN n = k by
        obtain ⟨j, e⟩ := hj.out
        rw [e]
        exact half_of n j (by have := hkn.out; omega) (by rw [Nat.pow_succ]; omega))
      clear hlt hmul
      go_wp2
      exact HR.out _ _ ⟨by rw [HH.out], rfl⟩
end Go.Proofs.Ytpdeicgjmjoglaa
/- Where a path leads a leaf: by levels and by halves; what two paths to one root tell. Plain. -/
namespace Ks
open Go
set_option linter.unusedVariables false
/-- on which side a level's own one stands (true: the left); none: none stands beside it -/
def dirN (n i : Nat) : Option Bool := if besideN i < n then some (decide (i % 2 = 0)) else none
def dirsM : Nat → Nat → Nat → List (Option Bool)
  | 0, _, _ => []
  | m + 1, n, i => dirN n i :: dirsM m ((n + 1) / 2) (i / 2)
def upN : Nat → Nat → Nat
  | 0, n => n
  | m + 1, n => upN m ((n + 1) / 2)
theorem upN_bounds (m n : Nat) : n ≤ 2 ^ m * upN m n ∧ 2 ^ m * upN m n < n + 2 ^ m := by
  induction m generalizing n with
  | zero => simp [upN]
  | succ m ih =>
    obtain ⟨h1, h2⟩ := ih ((n + 1) / 2)
    rw [upN, Nat.pow_succ, Nat.mul_comm (2 ^ m) 2, Nat.mul_assoc]
    omega
theorem dirsM_snoc (m n i : Nat) : dirsM (m + 1) n i = dirsM m n i ++ [dirN (upN m n) (i / 2 ^ m)] := by
  induction m generalizing n i with
  | zero => simp [dirsM, upN]
  | succ m ih =>
    rw [dirsM, ih, dirsM, upN, Nat.div_div_eq_div_mul, Nat.pow_succ, Nat.mul_comm (2 ^ m) 2]
    rfl
theorem dirs_left (j : Nat) : ∀ (t n i : Nat), t ≤ j → i < 2 ^ j → 2 ^ j ≤ n → dirsM t n i = dirsM t (2 ^ j) i := by
  induction j with
  | zero => intro t n i ht hi hn; (obtain rfl : t = 0 := by omega); rfl
  | succ j ih =>
    intro t n i ht hi hn
    match t, ht with
    | 0, _ => rfl
    | t + 1, ht =>
      have he : 2 ^ (j + 1) = 2 * 2 ^ j := by rw [Nat.pow_succ]; omega
      have hb : besideN i < 2 ^ (j + 1) := by unfold besideN; split <;> omega
      rw [dirsM, dirsM, ih t ((n + 1) / 2) (i / 2) (by omega) (by omega) (by omega), show (2 ^ (j + 1) + 1) / 2 = 2 ^ j by omega]
      congr 1
      unfold dirN
      rw [if_pos hb, if_pos (by omega)]
theorem dirs_right (j : Nat) : ∀ (t n i : Nat), t ≤ j → 2 ^ j ≤ i → 2 ^ j ≤ n → dirsM t n i = dirsM t (n - 2 ^ j) (i - 2 ^ j) := by
  induction j with
  | zero => intro t n i ht hi hn; (obtain rfl : t = 0 := by omega); rfl
  | succ j ih =>
    intro t n i ht hi hn
    match t, ht with
    | 0, _ => rfl
    | t + 1, ht =>
      have he : 2 ^ (j + 1) = 2 * 2 ^ j := by rw [Nat.pow_succ]; omega
      have hb : besideN i = 2 ^ (j + 1) + besideN (i - 2 ^ (j + 1)) := by
        unfold besideN
        by_cases e : i % 2 = 0
        · rw [if_pos e, if_pos (by omega)]; omega
        · rw [if_neg e, if_neg (by omega)]; omega
      have hm : (i % 2 = 0) = ((i - 2 ^ (j + 1)) % 2 = 0) := by rw [eq_iff_iff]; omega
      rw [dirsM, dirsM, ih t ((n + 1) / 2) (i / 2) (by omega) (by omega) (by omega), show (n + 1) / 2 - 2 ^ j = (n - 2 ^ (j + 1) + 1) / 2 by omega, show i / 2 - 2 ^ j = (i - 2 ^ (j + 1)) / 2 by omega]
      congr 1
      unfold dirN
      simp only [hm]
      by_cases h : besideN (i - 2 ^ (j + 1)) < n - 2 ^ (j + 1)
      · rw [if_pos (by omega), if_pos h]
      · rw [if_neg (by omega), if_neg h]
def sidesM (m n i : Nat) : List Bool := (dirsM m n i).filterMap id
/-- the same by halves, from below -/
def sidesH (n i : Nat) : List Bool :=
  if h : 2 ≤ n then (if i < halfN n then sidesH (halfN n) i ++ [true] else sidesH (n - halfN n) (i - halfN n) ++ [false]) else []
termination_by n
decreasing_by
  · have := half_lt n h; omega
  · have := half_lt n h; omega
theorem sides_two (n i : Nat) (h : 2 ≤ n) : sidesH n i = if i < halfN n then sidesH (halfN n) i ++ [true] else sidesH (n - halfN n) (i - halfN n) ++ [false] := by rw [sidesH, dif_pos h]
theorem sides_low (n i : Nat) (h : ¬ 2 ≤ n) : sidesH n i = [] := by rw [sidesH, dif_neg h]
theorem sidesM_one (m : Nat) : sidesM m 1 0 = [] := by
  induction m with
  | zero => rfl
  | succ m ih => exact ih
theorem sidesM_zero (m i : Nat) : sidesM m 0 i = [] := by
  induction m generalizing i with
  | zero => rfl
  | succ m ih => exact ih (i / 2)
theorem sidesM_snoc (m n i : Nat) : sidesM (m + 1) n i = sidesM m n i ++ [dirN (upN m n) (i / 2 ^ m)].filterMap id := by
  unfold sidesM
  rw [dirsM_snoc, List.filterMap_append]
theorem sidesM_eq : ∀ (n m i : Nat), i < n → n ≤ 2 ^ m → sidesM m n i = sidesH n i := by
  intro n
  induction n using Nat.strongRecOn with
  | ind n ih =>
    intro m i hi hm
    by_cases h1 : n = 1
    · subst h1
      obtain rfl : i = 0 := by omega
      rw [sidesM_one, sides_low _ _ (by omega)]
    · obtain ⟨j, e, g1, g2⟩ := half_spec n (by omega)
      have h3 : 0 < 2 ^ j := Nat.two_pow_pos j
      have hp : 2 ^ (j + 1) = 2 * 2 ^ j := by rw [Nat.pow_succ]; omega
      have hjm : j < m := (Nat.pow_lt_pow_iff_right (a := 2) (by decide)).1 (by omega)
      have hu : upN j n = 2 := by
        obtain ⟨a, b⟩ := upN_bounds j n
        have h4 : ¬ upN j n ≤ 1 := fun h => by
          have := Nat.mul_le_mul_left (2 ^ j) h
          omega
        have h5 : ¬ 3 ≤ upN j n := fun h => by
          have := Nat.mul_le_mul_left (2 ^ j) h
          omega
        omega
      have hj : sidesM (j + 1) n i = sidesH n i := by
        rw [sidesM_snoc, hu, sides_two n i (by omega), e]
        by_cases hik : i < 2 ^ j
        · rw [if_pos hik, Nat.div_eq_of_lt hik, ← ih (2 ^ j) (by omega) j i hik (Nat.le_refl _)]
          unfold sidesM
          rw [dirs_left j j n i (Nat.le_refl _) hik (by omega)]
          rfl
        · rw [if_neg hik, show i / 2 ^ j = 1 from Nat.div_eq_of_lt_le (by omega) (by omega), ← ih (n - 2 ^ j) (by omega) j (i - 2 ^ j) (by omega) (by omega)]
          unfold sidesM
          rw [dirs_right j j n i (Nat.le_refl _) (by omega) (by omega)]
          rfl
      have hmore : ∀ t, sidesM (j + 1 + t) n i = sidesM (j + 1) n i := by
        intro t
        induction t with
        | zero => rfl
        | succ t iht =>
          have hu1 : upN (j + 1 + t) n = 1 := by
            obtain ⟨a, b⟩ := upN_bounds (j + 1 + t) n
            have hle : 2 ^ (j + 1) ≤ 2 ^ (j + 1 + t) := Nat.pow_le_pow_right (by decide) (by omega)
            have h4 : ¬ upN (j + 1 + t) n ≤ 0 := fun h => by
              have := Nat.mul_le_mul_left (2 ^ (j + 1 + t)) h
              omega
            have h5 : ¬ 2 ≤ upN (j + 1 + t) n := fun h => by
              have := Nat.mul_le_mul_left (2 ^ (j + 1 + t)) h
              omega
            omega
          have hz : i / 2 ^ (j + 1 + t) = 0 := Nat.div_eq_of_lt (Nat.lt_of_lt_of_le (show i < 2 ^ (j + 1) by omega) (Nat.pow_le_pow_right (by decide) (by omega)))
          rw [← Nat.add_assoc, sidesM_snoc, iht, hu1, hz]
          show sidesM (j + 1) n i ++ [] = _
          rw [List.append_nil]
      rw [show m = j + 1 + (m - (j + 1)) by omega, hmore, hj]
theorem sidesM_le (m n i : Nat) : (sidesM m n i).length ≤ m := by
  have : ∀ m n i, (dirsM m n i).length = m := by
    intro m
    induction m with
    | zero => intros; rfl
    | succ m ih => intro n i; rw [dirsM, List.length_cons, ih]
  exact Nat.le_trans (List.length_filterMap_le _ _) (Nat.le_of_eq (this m n i))

/-- where a path leads, one hash for each side -/
def foldU : List Bool → ByteArray → List ByteArray → ByteArray
  | s :: ss, x, p :: ps => foldU ss (if s then nodeS x p else nodeS p x) ps
  | _, x, _ => x
theorem foldU_nil (x : ByteArray) (ps : List ByteArray) : foldU [] x ps = x := by cases ps <;> rfl
theorem foldU_snoc (ss : List Bool) (s : Bool) (x : ByteArray) (ps : List ByteArray) (p : ByteArray) (h : ss.length = ps.length) :
    foldU (ss ++ [s]) x (ps ++ [p]) = if s then nodeS (foldU ss x ps) p else nodeS p (foldU ss x ps) := by
  induction ss generalizing x ps with
  | nil =>
    obtain rfl : ps = [] := List.length_eq_zero_iff.1 h.symm
    rfl
  | cons t ss ih =>
    match ps, h with
    | q :: ps, h => exact ih _ ps (by simpa using h)
theorem foldU_size (ss : List Bool) (x : ByteArray) (ps : List ByteArray) (h : x.size = 32) : (foldU ss x ps).size = 32 := by
  induction ss generalizing x ps with
  | nil => rw [foldU_nil]; exact h
  | cons s ss ih =>
    match ps with
    | [] => exact h
    | p :: ps => exact ih _ ps (by split <;> exact nodeS_size _ _)
def upS (n i : Nat) (x : ByteArray) (ps : List ByteArray) : ByteArray := foldU (sidesH n i) x ps
theorem up_low (n i : Nat) (x : ByteArray) (ps : List ByteArray) (h : ¬ 2 ≤ n) : upS n i x ps = x := by rw [upS, sides_low n i h, foldU_nil]
theorem up_left (n i : Nat) (x : ByteArray) (ps : List ByteArray) (p : ByteArray) (h : 2 ≤ n) (hi : i < halfN n) (hl : (ps ++ [p]).length = (sidesH n i).length) :
    upS n i x (ps ++ [p]) = nodeS (upS (halfN n) i x ps) p ∧ ps.length = (sidesH (halfN n) i).length := by
  rw [sides_two n i h, if_pos hi] at hl
  simp only [List.length_append, List.length_singleton] at hl
  rw [upS, sides_two n i h, if_pos hi, foldU_snoc _ _ _ _ _ (by omega)]
  exact ⟨rfl, by omega⟩
theorem up_right (n i : Nat) (x : ByteArray) (ps : List ByteArray) (p : ByteArray) (h : 2 ≤ n) (hi : ¬ i < halfN n) (hl : (ps ++ [p]).length = (sidesH n i).length) :
    upS n i x (ps ++ [p]) = nodeS p (upS (n - halfN n) (i - halfN n) x ps) ∧ ps.length = (sidesH (n - halfN n) (i - halfN n)).length := by
  rw [sides_two n i h, if_neg hi] at hl
  simp only [List.length_append, List.length_singleton] at hl
  rw [upS, sides_two n i h, if_neg hi, foldU_snoc _ _ _ _ _ (by omega)]
  exact ⟨rfl, by omega⟩
/-- a leaf's own path leads it to the root -/
theorem path_leads : ∀ (n : Nat) (l : List ByteArray) (i : Nat) (x : ByteArray), l.length = n → l[i]? = some x → upS n i x (pathL l i) = rootL l ∧ (pathL l i).length = (sidesH n i).length := by
  intro n
  induction n using Nat.strongRecOn with
  | ind n ih =>
    intro l i x hn hx
    have hi : i < l.length := (List.getElem?_eq_some_iff.1 hx).1
    by_cases h : 2 ≤ n
    · have hh := half_lt n h
      have h2 : 2 ≤ l.length := by omega
      rw [path_two l i h2, root_two l h2, hn]
      have ht : (l.take (halfN n)).length = halfN n := by rw [List.length_take]; omega
      have hd : (l.drop (halfN n)).length = n - halfN n := by rw [List.length_drop]; omega
      by_cases hik : i < halfN n
      · rw [if_pos hik]
        obtain ⟨a, b⟩ := ih (halfN n) (by omega) (l.take (halfN n)) i x ht (by rw [List.getElem?_take, if_pos hik]; exact hx)
        have hl : (pathL (l.take (halfN n)) i ++ [rootL (l.drop (halfN n))]).length = (sidesH n i).length := by
          rw [sides_two n i h, if_pos hik]; simp [b]
        exact ⟨by rw [(up_left n i x _ _ h hik hl).1, a], hl⟩
      · rw [if_neg hik]
        obtain ⟨a, b⟩ := ih (n - halfN n) (by omega) (l.drop (halfN n)) (i - halfN n) x hd (by rw [List.getElem?_drop, show halfN n + (i - halfN n) = i by omega]; exact hx)
        have hl : (pathL (l.drop (halfN n)) (i - halfN n) ++ [rootL (l.take (halfN n))]).length = (sidesH n i).length := by
          rw [sides_two n i h, if_neg hik]; simp [b]
        exact ⟨by rw [(up_right n i x _ _ h hik hl).1, a], hl⟩
    · match l, hn, hx with
      | [], hn, hx => simp at hx
      | [a], hn, hx =>
        obtain rfl : i = 0 := by simp at hi; exact hi
        rw [up_low _ _ _ _ h, path_low _ _ (by simp), root_one, sides_low _ _ h]
        simp at hx
        exact ⟨hx.symm, rfl⟩
      | a :: b :: l, hn, hx => simp at hn; omega
theorem path_whole : ∀ (n : Nat) (l : List ByteArray) (i : Nat), l.length = n → wholeL l = true → i < n → wholeL (pathL l i) = true ∧ (rootL l).size = 32 := by
  intro n
  induction n using Nat.strongRecOn with
  | ind n ih =>
    intro l i hn hw hi
    have hw' : ∀ s ∈ l, s.size = 32 := by simpa [wholeL] using hw
    by_cases h : 2 ≤ n
    · have hh := half_lt n h
      have h2 : 2 ≤ l.length := by omega
      rw [path_two l i h2, root_two l h2, hn]
      have ht : (l.take (halfN n)).length = halfN n := by rw [List.length_take]; omega
      have hd : (l.drop (halfN n)).length = n - halfN n := by rw [List.length_drop]; omega
      have w1 : wholeL (l.take (halfN n)) = true := by simp only [wholeL, List.all_eq_true, beq_iff_eq]; exact fun s hs => hw' s (List.mem_of_mem_take hs)
      have w2 : wholeL (l.drop (halfN n)) = true := by simp only [wholeL, List.all_eq_true, beq_iff_eq]; exact fun s hs => hw' s (List.mem_of_mem_drop hs)
      refine ⟨?_, nodeS_size _ _⟩
      have r1 := (ih (halfN n) (by omega) _ 0 ht w1 (by omega)).2
      have r2 := (ih (n - halfN n) (by omega) _ 0 hd w2 (by omega)).2
      by_cases hik : i < halfN n
      · rw [if_pos hik]
        have := (ih (halfN n) (by omega) _ i ht w1 hik).1
        simp only [wholeL, List.all_append, List.all_cons, List.all_nil, Bool.and_true, Bool.and_eq_true, beq_iff_eq] at this ⊢
        exact ⟨this, r2⟩
      · rw [if_neg hik]
        have := (ih (n - halfN n) (by omega) _ (i - halfN n) hd w2 (by omega)).1
        simp only [wholeL, List.all_append, List.all_cons, List.all_nil, Bool.and_true, Bool.and_eq_true, beq_iff_eq] at this ⊢
        exact ⟨this, r1⟩
    · match l, hn with
      | [], hn => simp at hn; omega
      | [a], hn => rw [path_low _ _ (by simp), root_one]; exact ⟨rfl, hw' a (by simp)⟩
      | a :: b :: l, hn => simp at hn; omega

/-- one step up -/
structure StepG where
  i : Nat
  n : Nat
  a : ByteArray
  b : ByteArray
def pairS (s : Bool) (x p : ByteArray) : ByteArray × ByteArray := if s then (x, p) else (p, x)
/-- the steps up, where the path leads, and what is left of it; none: it is too short -/
def climbO : Nat → Nat → Nat → ByteArray → List ByteArray → Option (List StepG × ByteArray × List ByteArray)
  | 0, _, _, x, ps => some ([], x, ps)
  | m + 1, n, i, x, ps =>
    if n ≤ 1 then some ([], x, ps) else
    match dirN n i with
    | none => (climbO m ((n + 1) / 2) (i / 2) x ps).map fun r => (⟨i, n, ⟨#[]⟩, ⟨#[]⟩⟩ :: r.1, r.2)
    | some s =>
      match ps with
      | [] => none
      | p :: ps => (climbO m ((n + 1) / 2) (i / 2) (nodeS (pairS s x p).1 (pairS s x p).2) ps).map fun r => (⟨i, n, (pairS s x p).1, (pairS s x p).2⟩ :: r.1, r.2)
section
variable {m n i : Nat} {x p : ByteArray} {ps : List ByteArray} {s : Bool}
theorem climb_low (h : n ≤ 1) : climbO (m + 1) n i x ps = some ([], x, ps) := by rw [climbO, if_pos h]
theorem climb_none (h : ¬ n ≤ 1) (hd : dirN n i = none) : climbO (m + 1) n i x ps = (climbO m ((n + 1) / 2) (i / 2) x ps).map fun r => (⟨i, n, ⟨#[]⟩, ⟨#[]⟩⟩ :: r.1, r.2) := by rw [climbO, if_neg h, hd]
theorem climb_nil (h : ¬ n ≤ 1) (hd : dirN n i = some s) : climbO (m + 1) n i x [] = none := by rw [climbO, if_neg h, hd]
theorem climb_some (h : ¬ n ≤ 1) (hd : dirN n i = some s) : climbO (m + 1) n i x (p :: ps) = (climbO m ((n + 1) / 2) (i / 2) (nodeS (pairS s x p).1 (pairS s x p).2) ps).map fun r => (⟨i, n, (pairS s x p).1, (pairS s x p).2⟩ :: r.1, r.2) := by rw [climbO, if_neg h, hd]
end
theorem node_pair (s : Bool) (x p : ByteArray) : nodeS (pairS s x p).1 (pairS s x p).2 = if s then nodeS x p else nodeS p x := by cases s <;> rfl
theorem climb_spec (m : Nat) : ∀ (n i : Nat) (x : ByteArray) (ps : List ByteArray), i < n → 
    (ps.length < (sidesM m n i).length → climbO m n i x ps = none) ∧ ((sidesM m n i).length ≤ ps.length → ∃ st, climbO m n i x ps = some (st, foldU (sidesM m n i) x ps, ps.drop (sidesM m n i).length)) := by
  induction m with
  | zero => intro n i x ps hi; exact ⟨fun h => absurd h (by simp [sidesM, dirsM]), fun _ => ⟨[], by simp [climbO, sidesM, dirsM, foldU_nil]⟩⟩
  | succ m ih =>
    intro n i x ps hi
    by_cases h1 : n ≤ 1
    · obtain rfl : n = 1 := by omega
      obtain rfl : i = 0 := by omega
      rw [sidesM_one]
      exact ⟨fun h => absurd h (by simp), fun _ => ⟨[], by rw [climb_low (by omega), foldU_nil]; rfl⟩⟩
    · have hs : sidesM (m + 1) n i = (match dirN n i with | none => sidesM m ((n + 1) / 2) (i / 2) | some s => s :: sidesM m ((n + 1) / 2) (i / 2)) := by
        unfold sidesM
        rw [dirsM]
        cases dirN n i <;> rfl
      rw [hs]
      cases hd : dirN n i with
      | none =>
        obtain ⟨a, b⟩ := ih ((n + 1) / 2) (i / 2) x ps (by omega)
        rw [climb_none h1 hd]
        refine ⟨fun h => ?_, fun h => ?_⟩
        · rw [a h]; rfl
        · obtain ⟨st, e⟩ := b h
          exact ⟨⟨i, n, ⟨#[]⟩, ⟨#[]⟩⟩ :: st, by rw [e]; rfl⟩
      | some s =>
        match ps with
        | [] => exact ⟨fun _ => climb_nil h1 hd, fun h => absurd h (by simp)⟩
        | p :: ps =>
          obtain ⟨a, b⟩ := ih ((n + 1) / 2) (i / 2) (nodeS (pairS s x p).1 (pairS s x p).2) ps (by omega)
          rw [climb_some h1 hd]
          refine ⟨fun h => ?_, fun h => ?_⟩
          · rw [a (by simpa using h)]; rfl
          · obtain ⟨st, e⟩ := b (by simpa using h)
            exact ⟨⟨i, n, (pairS s x p).1, (pairS s x p).2⟩ :: st, by rw [e, node_pair]; rfl⟩

def clashes (s t : StepG) : Bool := decide (s.a ≠ ⟨#[]⟩ ∧ (s.a ≠ t.a ∨ s.b ≠ t.b) ∧ nodeS s.a s.b = nodeS t.a t.b)
/-- the first level at which two paths clash -/
def clashL : List StepG → List StepG → Option (StepG × StepG)
  | s :: l, t :: r => if clashes s t then some (s, t) else clashL l r
  | _, _ => none
def fits (s : StepG) : Prop := (s.a = ⟨#[]⟩ ∧ s.b = ⟨#[]⟩) ∨ (s.a.size = 32 ∧ s.b.size = 32)
theorem clash_there (m : Nat) : ∀ (n i : Nat) (x y : ByteArray) (ps qs : List ByteArray) (st su : List StepG) (r : ByteArray) (ps' qs' : List ByteArray), n ≤ 2 ^ m → x.size = 32 → y.size = 32 → wholeL ps = true → wholeL qs = true →
    climbO m n i x ps = some (st, r, ps') → climbO m n i y qs = some (su, r, qs') →
    st.length = su.length ∧ (x ≠ y → ∃ s t, clashL st su = some (s, t)) ∧ (∀ s t, clashL st su = some (s, t) → clashes s t = true ∧ s.a.size = 32 ∧ s.b.size = 32 ∧ (t.a.size = 32 ∧ t.b.size = 32 ∨ False)) := by
  induction m with
  | zero =>
    intro n i x y ps qs st su r ps' qs' hn hx hy hp hq h1 h2
    simp only [climbO, Option.some.injEq, Prod.mk.injEq] at h1 h2
    obtain ⟨rfl, rfl, rfl⟩ := h1
    obtain ⟨rfl, rfl, rfl⟩ := h2
    exact ⟨rfl, fun h => absurd rfl h, fun s t h => by simp [clashL] at h⟩
  | succ m ih =>
    intro n i x y ps qs st su r ps' qs' hn hx hy hp hq h1 h2
    by_cases hn1 : n ≤ 1
    · rw [climb_low hn1] at h1 h2
      simp only [Option.some.injEq, Prod.mk.injEq] at h1 h2
      obtain ⟨rfl, rfl, rfl⟩ := h1
      obtain ⟨rfl, rfl, rfl⟩ := h2
      exact ⟨rfl, fun h => absurd rfl h, fun s t h => by simp [clashL] at h⟩
    · have hn' : (n + 1) / 2 ≤ 2 ^ m := by rw [Nat.pow_succ] at hn; omega
      cases hd : dirN n i with
      | none =>
        rw [climb_none hn1 hd] at h1 h2
        simp only [Option.map_eq_some_iff, Prod.mk.injEq] at h1 h2
        obtain ⟨⟨st1, r1⟩, e1, rfl, h1⟩ := h1
        obtain ⟨⟨su1, r2⟩, e2, rfl, h2⟩ := h2
        simp only at h1 h2
        subst h1
        subst h2
        obtain ⟨a, b, c⟩ := ih _ _ _ _ _ _ _ _ _ _ _ hn' hx hy hp hq e1 e2
        have hno : clashes ⟨i, n, ⟨#[]⟩, ⟨#[]⟩⟩ ⟨i, n, ⟨#[]⟩, ⟨#[]⟩⟩ = false := by simp [clashes]
        refine ⟨by simp [a], fun h => ?_, fun s t h => ?_⟩
        · rw [clashL, hno]; exact b h
        · rw [clashL, hno] at h; exact c s t h
      | some d =>
        match ps, qs, hp, hq, h1, h2 with
        | [], _, _, _, h1, _ => rw [climb_nil hn1 hd] at h1; cases h1
        | _ :: _, [], _, _, _, h2 => rw [climb_nil hn1 hd] at h2; cases h2
        | p :: ps, q :: qs, hp, hq, h1, h2 =>
          rw [climb_some hn1 hd] at h1 h2
          simp only [Option.map_eq_some_iff, Prod.mk.injEq] at h1 h2
          obtain ⟨⟨st1, r1⟩, e1, rfl, g1⟩ := h1
          obtain ⟨⟨su1, r2⟩, e2, rfl, g2⟩ := h2
          simp only at g1 g2
          subst g1
          subst g2
          simp only [wholeL, List.all_cons, Bool.and_eq_true, beq_iff_eq] at hp hq
          obtain ⟨a, b, c⟩ := ih _ _ _ _ _ _ _ _ _ _ _ hn' (nodeS_size _ _) (nodeS_size _ _) hp.2 hq.2 e1 e2
          have sz : ∀ (d : Bool) (x p : ByteArray), x.size = 32 → p.size = 32 → (pairS d x p).1.size = 32 ∧ (pairS d x p).2.size = 32 := fun d x p h1 h2 => by cases d <;> simp [pairS, h1, h2]
          have s1 := sz d x p hx hp.1
          have s2 := sz d y q hy hq.1
          have h0 : (pairS d x p).1 ≠ ⟨#[]⟩ := fun e => by have := s1.1; rw [e] at this; exact absurd this (by decide)
          refine ⟨by simp [a], fun h => ?_, fun s t h => ?_⟩
          · rw [clashL]
            by_cases hc : clashes ⟨i, n, (pairS d x p).1, (pairS d x p).2⟩ ⟨i, n, (pairS d y q).1, (pairS d y q).2⟩ = true
            · rw [if_pos hc]; exact ⟨_, _, rfl⟩
            · rw [if_neg hc]
              refine b fun e => hc ?_
              simp only [clashes, decide_eq_true_eq]
              refine ⟨h0, ?_, e⟩
              cases d
              · exact .inr fun e => h e
              · exact .inl fun e => h e
          · rw [clashL] at h
            by_cases hc : clashes ⟨i, n, (pairS d x p).1, (pairS d x p).2⟩ ⟨i, n, (pairS d y q).1, (pairS d y q).2⟩ = true
            · rw [if_pos hc] at h
              simp only [Option.some.injEq, Prod.mk.injEq] at h
              obtain ⟨rfl, rfl⟩ := h
              exact ⟨hc, s1.1, s1.2, .inl s2⟩
            · rw [if_neg hc] at h; exact c s t h
theorem inside_inj {a b c d : ByteArray} (h : a.size = c.size) (e : insideS a b = insideS c d) : a = c ∧ b = d := by
  have e1 : insideL a b = insideL c d := by
    have := congrArg (fun s : ByteArray => s.data.toList) e
    simpa [insideS] using this
  simp only [insideL, List.cons.injEq, true_and] at e1
  obtain ⟨h1, h2⟩ := List.append_inj e1 (by rw [data_length, data_length, h])
  have mk : ∀ {x y : ByteArray}, x.data.toList = y.data.toList → x = y := fun {x y} h => by
    cases x; cases y; congr 1; exact Array.toList_inj.1 h
  exact ⟨mk h1, mk h2⟩
end Ks
