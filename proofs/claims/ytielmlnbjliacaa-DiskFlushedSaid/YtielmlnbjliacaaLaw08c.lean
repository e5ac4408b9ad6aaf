/- The law DiskFlushed: what its walk gives. -/
import Derived.Test.YtielmlnbjliacaaLaw08e
import Derived.Test.YtielmlnbjliacaaDiskLoad
import Derived.Test.YtielmlnbjliacaaQuietTail
namespace Go.Proofs.Ytielmlnbjliacaa
open Go.RowKit Ks
set_option linter.unusedVariables false
variable {n m : Nat} {vb vc ub uc : Value} {s t : DS}
theorem do_length (s : DS) (a : ActT) : (doD s a).blocks.length = s.blocks.length := by
  unfold doD
  split
  · unfold writeD; split; · rfl
    split
    · rw [stepD_blocks]
    · show (stepD s).blocks.length = _; rw [stepD_blocks]
  split
  · unfold flushD; split; · rfl
    split
    · rw [stepD_blocks]
    · show (s.cache.foldl putC s.blocks).length = _; rw [puts_length]
  split
  · unfold armD; split <;> rfl
  split
  · show ((keptC a.keep s.cache 0).foldl putC s.blocks).length = _; rw [puts_length]
  split
  · rfl
  split
  · unfold overD; split; · rfl
    show (s.blocks.set _ _).length = _; rw [List.length_set]
  · rfl
/-- an act of the law's row, done by both: full blocks stay so -/
theorem does_rowF {w0 w : World} (x : ActC) (hG : ActG w0 x) (h : Alike w0 w n vb vc m ub uc s) (hf : FullD s) (h9 : s.blocks.length = 9) :
    Calls Try.prog 12 (actArgs n m x) w fun e w' => e = .returned (.bool true) ∧ ∃ vb vc ub uc s', Alike w0 w' n vb vc m ub uc s' ∧ FullD s' ∧ s'.blocks.length = 9 := by
  obtain ⟨kd, ia, ib, tx, raw, ka, kn, kc⟩ := x
  obtain ⟨h1, h2, keep, hk, hkl⟩ := hG
  obtain ⟨g1, g2, g3⟩ := h
  unfold maxLen at hkl
  refine (does_any ⟨kd, ia, ib, tx, raw, keep⟩ ka kn kc w g1 (hk.below g2) (by show keep.length ≤ _; omega) h1 ?_).mono ?_
  · intro h0 b o e hF
    subst e
    obtain ⟨b', o', e, hb, _⟩ := RdI.cell hk 0 (List.length_pos_iff.2 h0)
    cases e
    have := g3 b (Or.inr hF)
    omega
  · rintro e w' ⟨r, rfl, hr, vb1, vc1, ub1, uc1, q1, q2⟩
    rw [hr rfl]
    exact ⟨rfl, vb1, vc1, ub1, uc1, _, ⟨q1, g2.trans (q2.below g3 g2.size), q2.low g3 g2.size⟩, full_do hf _ h1, by rw [do_length]; exact h9⟩
/-- a disk that was flushed, and what it kept since -/
abbrev wr9 (B : List ByteArray) (C : List PutT) : DS := ⟨B, C, false, 0⟩
theorem write9 (B : List ByteArray) (C : List PutT) (i : Int) (t : ByteArray) (hC : C.length < 4096) :
    (placeE (wr9 B C) i t = 0 ∧ writeE (wr9 B C) i t = 0 ∧ writeD (wr9 B C) i t = wr9 B (C ++ [(i, t)])) ∨ (placeE (wr9 B C) i t ≠ 0 ∧ writeE (wr9 B C) i t ≠ 0 ∧ writeD (wr9 B C) i t = wr9 B C) := by
  have hc : ¬ 4096 ≤ C.length := by omega
  have hs : stepD (wr9 B C) = wr9 B C := rfl
  by_cases h : placeE (wr9 B C) i t = 0
  · left
    refine ⟨h, ?_, ?_⟩
    · unfold writeE; rw [if_neg (show ¬ (wr9 B C).down = true from Bool.false_ne_true), if_neg (by simp [h]), if_neg hc, hs]; rfl
    · unfold writeD; rw [if_neg (by simp [h, hc]), hs]; rfl
  · right
    refine ⟨h, ?_, ?_⟩
    · unfold writeE; rw [if_neg (show ¬ (wr9 B C).down = true from Bool.false_ne_true), if_pos h]; exact h
    · unfold writeD; rw [if_pos (Or.inr (Or.inl h))]
/-- what is wanted, once so many numbers were held against the write's -/
def wantTo (W : List ByteArray) (p : PutT) (k : Nat) (keep : List Int) (j : Nat) : List ByteArray := if (k : Int) ∈ keep.take j then putC W p else W
theorem wantTo_zero (W : List ByteArray) (p : PutT) (k : Nat) (keep : List Int) : wantTo W p k keep 0 = W := by simp [wantTo]
theorem putC_twice (W : List ByteArray) (p : PutT) : putC (putC W p) p = putC W p := by simp [putC]
theorem wantTo_hit (W : List ByteArray) (p : PutT) (k : Nat) (keep : List Int) (j : Nat) (h : j < keep.length) (e : keep[j] = (k : Int)) : wantTo W p k keep (j + 1) = putC (wantTo W p k keep j) p := by
  unfold wantTo
  rw [if_pos (by rw [List.take_succ_eq_append_getElem h]; simp [e])]
  split
  · rw [putC_twice]
  · rfl
theorem wantTo_miss (W : List ByteArray) (p : PutT) (k : Nat) (keep : List Int) (j : Nat) (h : j < keep.length) (e : keep[j] ≠ (k : Int)) : wantTo W p k keep (j + 1) = wantTo W p k keep j := by
  unfold wantTo
  have : (k : Int) ∈ keep.take (j + 1) ↔ (k : Int) ∈ keep.take j := by
    rw [List.take_succ_eq_append_getElem h, List.mem_append]
    constructor
    · rintro (h1 | h1)
      · exact h1
      · simp at h1; exact absurd h1.symm e
    · exact Or.inl
  simp only [this]
theorem wantTo_all (B : List ByteArray) (C : List PutT) (p : PutT) (keep : List Int) : wantTo ((keptC keep C 0).foldl putC B) p C.length keep keep.length = (keptC keep (C ++ [p]) 0).foldl putC B := by
  unfold wantTo
  rw [List.take_length, keptC_snoc, List.foldl_append, Nat.zero_add]
  split <;> rfl
theorem wantTo_length (W : List ByteArray) (p : PutT) (k : Nat) (keep : List Int) (j : Nat) : (wantTo W p k keep j).length = W.length := by
  unfold wantTo; split
  · exact putC_length _ _
  · rfl
/-- what stands in the second loop -/
def Mid (w0 w : World) (n : Nat) (vb vc : Value) (B : List ByteArray) (C : List PutT) (g cap : Nat) (L : List ByteArray) : Prop :=
  One w0 w n vb vc (wr9 B C) ∧ Row strE w 0 9 (.slice (some ⟨g, 0, none⟩) 9 cap) L ∧ L.length = 9 ∧ w0.heap.size ≤ g ∧ ¬ DF n vb vc g
theorem Mid.on {w0 w w' : World} {B : List ByteArray} {C : List PutT} {g cap : Nat} {L : List ByteArray} (h : Mid w0 w n vb vc B C g cap L) (hb : Below w.heap.size w w') : Mid w0 w' n vb vc B C g cap L := ⟨h.1.on hb, h.2.1.below hb, h.2.2⟩
theorem Mid.write {w0 w w' : World} {B : List ByteArray} {C C' : List PutT} {g cap : Nat} {L : List ByteArray} {vb1 vc1 : Value} (h : Mid w0 w n vb vc B C g cap L) (hd : DkAt w' n vb1 vc1 (wr9 B C')) (hT : Turn w w' (DF n vb vc) (DF n vb1 vc1)) (hf : FullD (wr9 B C')) : Mid w0 w' n vb1 vc1 B C' g cap L := by
  have hg : g < w.heap.size := h.2.1.own_lt rfl
  refine ⟨h.1.turn hd hT hf, h.2.1.turn hT (fun b e h2 => h.2.2.2.2 (by cases e; exact h2)), h.2.2.1, h.2.2.2.1, fun h2 => ?_⟩
  exact hT.apart (G := fun k => k = g) (fun k hk => by subst hk; exact hg) (fun k hk e => h.2.2.2.2 (e ▸ hk)) g h2 rfl
theorem Mid.set {w0 w : World} {B : List ByteArray} {C : List PutT} {g cap : Nat} {L : List ByteArray} (h : Mid w0 w n vb vc B C g cap L) (i : Nat) (hi : i < 9) (t : ByteArray) : Mid w0 (w.setCell ⟨g, i, none⟩ (.string t)) n vb vc B C g cap (L.set i t) := by
  have hT := Turn.cell1 w g i (.string t)
  refine ⟨⟨h.1.1.keep (fun k hk => hT.block k (h.1.1.lt k hk) (fun e => h.2.2.2.2 (e ▸ hk))), h.1.2.1.trans (hT.below (fun k hk => by subst hk; exact h.2.2.2.1) h.1.2.1.size), h.1.2.2⟩, h.2.1.set1 rfl i (by rw [h.2.2.1]; exact hi) t _ rfl, by rw [List.length_set]; exact h.2.2.1, h.2.2.2⟩

theorem flush_boot {s : DS} (h : FullD s) : flushE (bootD s) = 0 ∧ flushD (bootD s) = wr9 s.blocks [] := by
  have e : stepD (bootD s) = bootD s := rfl
  constructor
  · unfold flushE; rw [e]; rfl
  · unfold flushD; rw [e]; rfl
theorem full9 {s : DS} (h : FullD s) : FullD (wr9 s.blocks []) := ⟨⟨h.ok.blocks, Nat.zero_le _, (fun p hp => by cases hp), Nat.zero_le _⟩, h.many, h.bl, fun p hp => by cases hp⟩
theorem full_wr {B : List ByteArray} {C : List PutT} (h : FullD (wr9 B C)) (i : Int) (t : ByteArray) (hp : placeE (wr9 B C) i t = 0) (hC : C.length < 4096) : FullD (wr9 B (C ++ [(i, t)])) := by
  obtain ⟨p1, p2, p3⟩ := place_in (show ¬ placeE (wr9 B C) i t ≠ 0 by simpa using hp)
  refine ⟨⟨h.ok.blocks, by show (C ++ [(i, t)]).length ≤ 4096; simp; omega, fun p hq => ?_, Nat.zero_le _⟩, h.many, h.bl, fun p hq => ?_⟩
  · rcases List.mem_append.1 hq with h1 | h1
    · exact h.ok.at_ p h1
    · simp at h1; subst h1; exact ⟨p1, p2⟩
  · rcases List.mem_append.1 hq with h1 | h1
    · exact h.ca p h1
    · simp at h1; subst h1; exact p3
theorem Rd.lt8 {α : Type} {E : Enc α} {w : World} {a : Option Addr} {n c : Nat} {l : List α} (h : Rd E w (.slice a n c) l) : n = l.length := by
  obtain ⟨_, _, e, _⟩ := h; cases e; rfl

set_option maxHeartbeats 8000000 in
set_option maxRecDepth 100000 in
theorem law_dflushed (lv : Value) (l : List ActC) (mv : Value) (more : List ActC) (kv : Value) (keep : List Int) (w : World) (hl : Rd acE w lv l) (hlen : l.length ≤ maxLen) (hG : ∀ x ∈ l, ActG w x) (hm : Rd acE w mv more) (hmlen : more.length ≤ maxLen) (hGm : ∀ x ∈ more, ActG w x) (hkv : RdI w kv keep) (hklen : keep.length ≤ maxLen) :
    Calls Try.prog 4 #[lv, mv, kv] w fun e w' => e = .returned (.bool true) ∧ Below w.heap.size w w' := by
  refine calls_by fun R HR => ?_
  unfold maxLen at hklen
  have HL := Lib.hid (And.intro hl hG)
  have HM := Lib.hid (And.intro hm hGm)
  have HK := Lib.hid (And.intro hkv hklen)
  have HF := Lib.hid (lfew_any lv l w hl hlen)
  have HF2 := Lib.hid (fun (W : World) (hb : Below w.heap.size w W) => lfew_any mv more W (hm.below hb) hmlen)
  obtain ⟨la, lc, hlv, _⟩ := hl.shape
  obtain ⟨ma, mc, hmv, _⟩ := hm.shape
  obtain ⟨ka, kc, hkv2, _⟩ := id hkv
  subst hlv hmv hkv2
  clear hl hlen hG hm hmlen hGm hkv hklen
  go_enter Try.func4, Try.ntmps4
  go_wp2_with fail
  refine HF.out.mono ?_
  rintro e w1 ⟨b, rfl, hfew, hb⟩
  have H1 := Lib.hid (And.intro hb hfew)
  clear hfew hb
  cases b
  · go_wp2_with fail
    refine (alive_any _).mono ?_
    rintro e w2 ⟨rfl, hb2⟩
    have H2 := Lib.hid (H1.out.1.trans (hb2.mono H1.out.1.size))
    clear hb2
    go_wp2
    exact HR.out _ _ ⟨rfl, H2.out⟩
  · go_wp2_with fail
    refine (HF2.out w1 H1.out.1).mono ?_
    rintro e w2 ⟨b, rfl, hfew, hb⟩
    have H2 := Lib.hid (And.intro (H1.out.1.trans (hb.mono H1.out.1.size)) hfew)
    clear hfew hb
    cases b
    · go_wp2_with fail
      refine (alive_any _).mono ?_
      rintro e w3 ⟨rfl, hb3⟩
      have H3 := Lib.hid (H2.out.1.trans (hb3.mono H2.out.1.size))
      clear hb3
      go_wp2
      exact HR.out _ _ ⟨rfl, H3.out⟩
    · by_cases h200 : (200 : Int) < keep.length
      · go_wp2_with fail
        refine (alive_any _).mono ?_
        rintro e w3 ⟨rfl, hb3⟩
        have H3 := Lib.hid (H2.out.1.trans (hb3.mono H2.out.1.size))
        clear hb3
        go_wp2
        exact HR.out _ _ ⟨rfl, H3.out⟩
      have hl60 := H1.out.2 (by first | rfl | trivial)
      have hm60 := H2.out.2 (by first | rfl | trivial)
      go_wp2_with fail
      refine (dnew_any 9 _ (by decide) (by decide)).mono ?_
      rintro e w3 ⟨n, vb, rfl, hd3, hb3, hf3⟩
      have H3 := Lib.hid (And.intro hd3 (And.intro hb3 hf3))
      clear hd3 hb3 hf3
      go_wp2_with fail
      refine (rnew_any 9 _ (by decide) (by decide)).mono ?_
      rintro e w4 ⟨m, ub, rfl, hd4, hb4, hf4⟩
      have hA : Alike w w4 n vb (.slice none 0 0) m ub (.slice none 0 0) (newD 9) := by
        refine ⟨⟨H3.out.1.below hb4, hd4, fun k h1 h2 => ?_⟩, H2.out.1.trans ((H3.out.2.1.trans (hb4.mono H3.out.2.1.size)).mono H2.out.1.size), fun k hk => ?_⟩
        · have := H3.out.1.lt k h1; have := hf4 k h2; omega
        · rcases hk with hk | hk
          · exact Nat.le_trans H2.out.1.size (H3.out.2.2 k hk)
          · exact Nat.le_trans H2.out.1.size (Nat.le_trans H3.out.2.1.size (hf4 k hk))
      have H4 := Lib.hid (And.intro hA (And.intro (full_new 9 (by decide) (by decide)) (show (newD 9).blocks.length = 9 from List.length_replicate)))
      clear hd4 hb4 hf4 hA
      go_wp2_with fail
      go_loopg [41] l.length (fun g i wr => ∃ (k : Nat) (vb vc ub uc : Value) (s : DS), k + g = l.length ∧ i = .int .i64 k ∧ Hid (Alike w wr n vb vc m ub uc s ∧ FullD s ∧ s.blocks.length = 9))
      case atStart => exact ⟨0, _, _, _, _, _, by omega, rfl, H4⟩
      case round =>
        obtain ⟨k, vb, vc, ub, uc, s, hk, rfl, hA⟩ := hrel
        by_cases hlt : k < l.length
        · obtain ⟨x, hx⟩ : ∃ x, l[k]? = some x := ⟨_, List.getElem?_eq_getElem hlt⟩
          obtain ⟨b, o, rfl, hb, c0, c1, c2, c3, c4, c5⟩ := (HL.out.1.below hA.out.1.2.1).actAt k x hx
          have hAW : ∀ ob, Alike w (wr.alloc ob) n vb vc m ub uc s := fun ob => ⟨hA.out.1.1.below (alloc_below wr ob), hA.out.1.2.1.trans ((alloc_below wr ob).mono hA.out.1.2.1.size), hA.out.1.2.2⟩
          have HA := Lib.hid hAW
          have HX := Lib.hid (HL.out.2 x (List.mem_of_getElem? hx))
          obtain ⟨kd, ia, ib, tx, raw, ka', kn', kc'⟩ := x
          simp only [hdrV] at c0 c1 c2 c3 c4 c5
          have hki : (k : Int) < (l.length : Int) := by omega
          clear hx hAW
          go_wp2_with fail
          refine (does_rowF (kd, ia, ib, tx, raw, ka', kn', kc') HX.out (HA.out _) hA.out.2.1 hA.out.2.2).mono ?_
          rintro e w5 ⟨rfl, vb5, vc5, ub5, uc5, s5, h5⟩
          have H5 := Lib.hid h5
          clear h5 c0 c1 c2 c3 c4 c5
          go_wp2_with fail
          go_roundg (gk - 1)
          case rel => exact ⟨k + 1, _, _, _, _, _, by omega, by go_num, H5⟩
          case measure => omega
        · obtain rfl : k = l.length := by omega
          clear hlt hk
          have hO : One w wr n vb vc s := ⟨hA.out.1.1.p, hA.out.1.2.1, fun k hk => hA.out.1.2.2 k (Or.inl hk), hA.out.2.1⟩
          have H6 := Lib.hid hO
          have HFB := Lib.hid (And.intro (flush_boot hA.out.2.1) (And.intro (full9 hA.out.2.1) hA.out.2.2))
          clear hO
          go_wp2_with fail
          refine (dboot_any _ H6.out.1).mono ?_
          rintro e w7 ⟨rfl, hd7, ht7⟩
          have H7 := Lib.hid (H6.out.turn hd7 ht7 (full_boot H6.out.2.2.2))
          clear hd7 ht7
          go_wp2_with fail
          refine (dflush_any _ H7.out.1).mono ?_
          rintro e w8 ⟨vc8, rfl, hd8, ht8⟩
          rw [HFB.out.1.1]
          rw [HFB.out.1.2] at hd8
          have H8 := Lib.hid (H7.out.turn hd8 ht8 HFB.out.2.1)
          clear hd8 ht8
          have HB9 := Lib.hid HFB.out.2.2
          generalize s.blocks = B at *
          clear H7 H6 hA H4 HFB
          go_wp2_with fail
          refine (dseize_any _ H8.out.1).mono ?_
          rintro e w9 ⟨xa, xd, rfl, hxa, hxd, hb9⟩
          obtain ⟨ga, gc, rfl, _⟩ := hxa.shape
          obtain ⟨ha, hc, exd, _⟩ := hxd.shape
          have exd' : xd = .slice ha 0 hc := exd
          subst exd'
          clear exd
          have hz9 : (wr9 B []).blocks.length = 9 := HB9.out
          rw [hz9] at hxa ⊢
          clear hxd
          have H9 := Lib.hid (And.intro (H8.out.on hb9) (show Rd strE w9 (.slice ga 9 gc) B from hxa))
          clear hxa hb9 hz9
          obtain ⟨W10, hW10⟩ : ∃ W10, w9.alloc (.cells #[.slice ga 9 gc, .slice ha 0 hc] 40) = W10 := ⟨_, rfl⟩
          have hb10 : Below w9.heap.size w9 W10 := by rw [← hW10]; exact alloc_below w9 _
          have k10 : W10.heap[w9.heap.size]? = some (.cells #[.slice ga 9 gc, .slice ha 0 hc] 40 (0, 0)) := by rw [← hW10]; exact alloc_new w9 _
          have H10 := Lib.hid (And.intro (H9.out.1.on hb10) (H9.out.2.below hb10))
          obtain ⟨x0, x1, -, -⟩ := blk2 k10
          have x0a := (cell_on (Below.refl _ W10) x0).2
          clear hb10 k10
          go_wp2_with (at_builtin; refine wpList_append_row _ rfl _ _ 37 rfl strT W10.heap.size _ _ [] B rfl rfl (Row.made W10 _ _ (Nat.le_refl _)) (H10.out.2.below (alloc_below _ _)) (by simp) (by have := HB9.out; simp; omega) (by decide) ?_)
          intro v' w11 hG
          have hb11 : Below W10.heap.size W10 w11 := hG.below (alloc_below W10 _) (by simp) (fun b hb => by simp [Value.ownBlock] at hb; omega)
          have hr11 : Row strE w11 W10.heap.size 9 v' B := hG.1
          obtain ⟨g, cap, hv', hcap, hge, hglt, hcm⟩ := hr11.pos (by rw [HB9.out]; decide)
          rw [HB9.out] at hv'
          subst hv'
          have hMid : Mid w w11 n vb vc8 B [] g cap B := ⟨H10.out.1.on hb11, hr11.down (Nat.zero_le _), HB9.out, Nat.le_trans H10.out.1.2.1.size hge, fun h => by have := H10.out.1.1.lt g h; omega⟩
          have H11 := Lib.hid hMid
          clear hG hb11 hr11 hMid x0 x1 x0a hW10 hcap hge hglt hcm
          go_wp2_with fail
          go_loopg [68, 14] more.length (fun gh i c wr => ∃ (k : Nat) (C : List PutT) (vb vc : Value), k + gh = more.length ∧ C.length ≤ k ∧ i = .int .i64 k ∧ c = .int .i64 (C.length : Nat) ∧ Hid (Mid w wr n vb vc B C g cap ((keptC keep C 0).foldl putC B)))
          case atStart => exact ⟨0, [], _, _, by omega, Nat.le_refl _, rfl, rfl, H11⟩
          case round =>
            obtain ⟨k, C, vb, vc, hk, hCk, rfl, rfl, hA⟩ := hrel
            by_cases hlt : k < more.length
            · obtain ⟨x, hx⟩ : ∃ x, more[k]? = some x := ⟨_, List.getElem?_eq_getElem hlt⟩
              obtain ⟨b, o, rfl, hb, c0, c1, c2, c3, c4, c5⟩ := (HM.out.1.below hA.out.1.2.1).actAt k x hx
              obtain ⟨kd, ia, ib, tx, raw, ka', kn', kc'⟩ := x
              simp only [hdrV] at c0 c1 c2 c3 c4 c5
              have hki : (k : Int) < (more.length : Int) := by omega
              clear hx
              obtain ⟨bx, hbx⟩ : ∃ bx, wr.heap.size = bx := ⟨_, rfl⟩
              obtain ⟨W, hW⟩ : ∃ W, wr.alloc (.cells #[.int .i64 kd, .int .i64 ia, .int .i64 ib, .string tx, .bool raw, .slice ka' kn' kc'] 33) = W := ⟨_, rfl⟩
              have hbW : Below wr.heap.size wr W := by rw [← hW]; exact alloc_below wr _
              have hkW : W.heap[bx]? = some (.cells #[.int .i64 kd, .int .i64 ia, .int .i64 ib, .string tx, .bool raw, .slice ka' kn' kc'] 33 (0, 0)) := by rw [← hW, ← hbx]; exact alloc_new wr _
              have H20 := Lib.hid (And.intro (hA.out.on hbW) (And.intro hkW (And.intro (show ¬ DF n vb vc bx from fun h => by have := hA.out.1.1.lt _ h; omega) (show g ≠ bx from fun h => by have := hA.out.2.1.own_lt (b := g) rfl; omega))))
              clear hbW hkW
              go_wp2_with fail
              clear c0 c1 c2 c3 c4 c5
              obtain ⟨c0, c1, c2, c3, c4, c5⟩ := blk6 H20.out.2.1
              have x0 := after_cell c0
              have x1 := after_cell c1
              have x2 := after_cell c2
              have x3 := after_cell c3
              have x4 := after_cell c4
              have x5 := after_cell c5
              have cT := fun q => calls_after (acttext_any ⟨kd, ia, ib, tx, raw, []⟩ (.slice ka' kn' kc') (After W q))
              obtain ⟨T, hT⟩ : ∃ T, actText ⟨kd, ia, ib, tx, raw, []⟩ = T := ⟨_, rfl⟩
              rw [hT] at cT
              have HT := Lib.hid (fun w => acttext_any ⟨kd, ia, ib, tx, raw, []⟩ (.slice ka' kn' kc') w)
              rw [hT] at HT
              clear hT hW
              refine wp_region_after_tail 5 (by kernel_rfl) (by kernel_rfl) ?_
              simp only [List.take_succ_cons, List.take_zero, List.drop_succ_cons, List.drop_zero]
              quiet_step (exact cT _)
              quiet_step (exact cT _)
              quiet_step (exact cT _)
              quiet_step (exact cT _)
              quiet_step (exact cT _)
              refine wpQuiet_nil ?_
              rintro w12 ⟨p, rfl⟩
              have hb12 := after_below W p
              have H12 := Lib.hid (And.intro (H20.out.1.on hb12) (blk_on hb12 H20.out.2.1))
              generalize After W p = w12 at *
              clear x0 x1 x2 x3 x4 x5 cT c0 c1 c2 c3 c4 c5 hb12
              go_wp2_with fail
              refine (dwrite_any ia T w12 H12.out.1.1.1).mono ?_
              rintro e w13 ⟨vc13, rfl, hd13, ht13⟩
              have hC4096 : C.length < 4096 := by omega
              have hbk13 := (ht13.block _ (lt_of_block H12.out.2) H20.out.2.2.1).trans H12.out.2
              rcases write9 B C ia T hC4096 with ⟨g1, g2, g3⟩ | ⟨g1, g2, g3⟩
              · rw [g3] at hd13
                rw [g2]
                have hpl := place_in (show ¬ placeE (wr9 B C) ia T ≠ 0 by simpa using g1)
                have hM13 := H12.out.1.write hd13 ht13 (full_wr H12.out.1.1.2.2.2 ia T g1 hC4096)
                obtain ⟨pi, rfl⟩ : ∃ pi : Nat, ia = (pi : Int) := Int.eq_ofNat_of_zero_le hpl.1
                have hpi : pi < 9 := by have := hpl.2.1; have h9 := HB9.out; have : (pi : Int) < (B.length : Int) := this; omega
                have H13 := Lib.hid (And.intro hM13 hbk13)
                have HC := Lib.hid hC4096
                clear hd13 ht13 hbk13 g1 g2 g3 hpl hM13 hC4096
                obtain ⟨go, hgo⟩ : ∃ go, gk = go := ⟨_, rfl⟩
                have hpii : (pi : Int) < 9 := by omega
                obtain ⟨L, hL⟩ : ∃ L, (keptC keep C 0).foldl putC B = L := ⟨_, rfl⟩
                have HWA := Lib.hid (wantTo_all B C ((pi : Int), T) keep)
                rw [hL] at H13 HWA
                clear hL
                go_wp2_with fail
                go_loopg [81] keep.length (fun gh i wr => ∃ (j : Nat), j + gh = keep.length ∧ i = .int .i64 j ∧ Hid (Mid w wr n vb vc13 B (C ++ [((pi : Int), T)]) g cap (wantTo L ((pi : Int), T) C.length keep j) ∧ wr.heap[bx]? = some (.cells #[.int .i64 kd, .int .i64 pi, .int .i64 ib, .string tx, .bool raw, .slice ka' kn' kc'] 33 (0, 0))))
                case atStart => exact ⟨0, by omega, rfl, Lib.hid ⟨by rw [wantTo_zero]; exact H13.out.1, H13.out.2⟩⟩
                case round =>
                  obtain ⟨j, hj, rfl, hN⟩ := hrel
                  by_cases hjl : j < keep.length
                  · obtain ⟨kb, ko, hka, hkb, kc0, -, -⟩ := (HK.out.1.below hN.out.1.1.2.1).nth j hjl
                    subst hka
                    have hji : (j : Int) < (keep.length : Int) := by omega
                    by_cases he : keep[j] = (C.length : Int)
                    · have HW := Lib.hid (wantTo_hit L ((pi : Int), T) C.length keep j hjl he)
                      have heq : (keep[j] == (C.length : Int)) = true := by rw [beq_iff_eq]; exact he
                      obtain ⟨kj, hkj⟩ : ∃ kj, keep[j] = kj := ⟨_, rfl⟩
                      rw [hkj] at heq kc0
                      clear he hkj
                      obtain ⟨c0, c1, c2, c3, c4, c5⟩ := blk6 hN.out.2
                      have x0 := after_cell c0
                      have x1 := after_cell c1
                      have x2 := after_cell c2
                      have x3 := after_cell c3
                      have x4 := after_cell c4
                      have x5 := after_cell c5
                      have cT := fun q => calls_after (HT.out (After wr q))
                      go_wp2_with fail
                      refine wp_region_after_tail 6 (by kernel_rfl) (by kernel_rfl) ?_
                      simp only [List.take_succ_cons, List.take_zero, List.drop_succ_cons, List.drop_zero]
                      quiet_step (exact cT _)
                      quiet_step (exact cT _)
                      quiet_step (exact cT _)
                      quiet_step (exact cT _)
                      quiet_step (exact cT _)
                      quiet_step (exact cT _)
                      refine wpQuiet_nil ?_
                      rintro w14 ⟨p, rfl⟩
                      have hb14 := after_below wr p
                      have H14 := Lib.hid (And.intro (hN.out.1.on hb14) (blk_on hb14 hN.out.2))
                      generalize After wr p = w14 at *
                      have hrow := H14.out.1.2.1
                      obtain ⟨g2, o2, e, _, cg⟩ := hrow.rd.str pi (by rw [H14.out.1.2.2.1]; exact hpi)
                      simp only [Option.some.injEq, Addr.mk.injEq, and_true] at e
                      obtain ⟨rfl, rfl⟩ := e
                      rw [Nat.zero_add] at cg
                      have fg := row_frozen hrow pi
                      obtain ⟨xx, cg'⟩ : ∃ xx, w14.cell? ⟨g, pi, none⟩ = some (.string xx) := ⟨_, cg⟩
                      clear x0 x1 x2 x3 x4 x5 cT c0 c1 c2 c3 c4 c5 hb14 cg hrow
                      go_wp2_with fail
                      have H15 := Lib.hid (And.intro (H14.out.1.set pi hpi T) ((Turn.cell1 w14 g pi (.string T)).block bx (lt_of_block H14.out.2) (fun e => H20.out.2.2.2 e.symm) |>.trans H14.out.2))
                      go_roundg (gk - 1)
                      case rel => exact ⟨j + 1, by omega, by go_num, Lib.hid ⟨by rw [HW.out]; exact H15.out.1, H15.out.2⟩⟩
                      case measure => omega
                    · have HW := Lib.hid (wantTo_miss L ((pi : Int), T) C.length keep j hjl he)
                      have heq : (keep[j] == (C.length : Int)) = false := by rw [beq_eq_false_iff_ne]; exact he
                      obtain ⟨kj, hkj⟩ : ∃ kj, keep[j] = kj := ⟨_, rfl⟩
                      rw [hkj] at heq kc0
                      clear he hkj
                      go_wp2_with fail
                      go_roundg (gk - 1)
                      case rel => exact ⟨j + 1, by omega, by go_num, Lib.hid ⟨by rw [HW.out]; exact hN.out.1, hN.out.2⟩⟩
                      case measure => omega
                  · obtain rfl : j = keep.length := by omega
                    have H16 := Lib.hid (show Mid w wr n vb vc13 B (C ++ [((pi : Int), T)]) g cap ((keptC keep (C ++ [((pi : Int), T)]) 0).foldl putC B) by have := hN.out.1; rw [HWA.out] at this; exact this)
                    clear hN hjl hj
                    go_wp2_with fail
                    go_roundg (go - 1)
                    case rel => exact ⟨k + 1, C ++ [((pi : Int), T)], _, _, by omega, by first | (simp; done) | (simp; omega), by go_num, by first | (simp; done) | (simp; go_num), H16⟩
                    case measure => omega
              · rw [g3] at hd13
                have hnb : (writeE (wr9 B C) ia T != 0) = true := by rw [bne_iff_ne]; exact g2
                have H13 := Lib.hid (H12.out.1.write hd13 ht13 H12.out.1.1.2.2.2)
                clear hd13 ht13 hbk13 g1 g2 g3 hC4096
                go_wp2_with fail
                go_roundg (gk - 1)
                case rel => exact ⟨k + 1, C, _, _, by omega, by omega, by go_num, rfl, H13⟩
                case measure => omega
            · obtain rfl : k = more.length := by omega
              clear hlt hk
              go_wp2_with fail
              refine (dcrash_any (.slice ka keep.length kc) keep _ hA.out.1.1 (HK.out.1.below hA.out.1.2.1) (by have := HK.out.2; omega)).mono ?_
              rintro e w14 ⟨vc14, rfl, hd14, ht14⟩
              have hg := hA.out.2.1.own_lt (b := g) rfl
              have hfull : FullD (crashD (wr9 B C) keep) := hA.out.1.2.2.2.puts _ (fun p hp => hA.out.1.2.2.2.ca p (keptC_mem _ _ _ p hp)) _ _ (Nat.zero_le _)
              have H14 := Lib.hid (And.intro (hA.out.1.turn hd14 ht14 hfull) (And.intro (hA.out.2.1.turn ht14 (fun b e h2 => hA.out.2.2.2.2 (by cases e; exact h2))) hA.out.2.2.1))
              clear hd14 ht14 hg hfull
              go_wp2_with fail
              refine (dseize_any _ H14.out.1.1).mono ?_
              rintro e w15 ⟨ya, yd, rfl, hya, hyd, hb15⟩
              obtain ⟨pa, pc, eya, _⟩ := hya.shape
              obtain ⟨qa, qc, eyd, _⟩ := hyd.shape
              have hcb : (crashD (wr9 B C) keep).blocks = (keptC keep C 0).foldl putC B := rfl
              have hcc : (crashD (wr9 B C) keep).cache = [] := rfl
              rw [hcb] at hya eya
              rw [hcc] at hyd eyd
              rw [H14.out.2.2] at eya
              subst eya eyd
              obtain ⟨W16, hW16⟩ : ∃ W16, w15.alloc (.cells #[.slice pa 9 pc, .slice qa 0 qc] 40) = W16 := ⟨_, rfl⟩
              have hb16 : Below w15.heap.size w15 W16 := by rw [← hW16]; exact alloc_below w15 _
              have k16 : W16.heap[w15.heap.size]? = some (.cells #[.slice pa 9 pc, .slice qa 0 qc] 40 (0, 0)) := by rw [← hW16]; exact alloc_new w15 _
              have hb156 := hb15.trans (hb16.mono hb15.size)
              have H16 := Lib.hid (And.intro (H14.out.1.on hb156) (And.intro (H14.out.2.1.below hb156) (And.intro (hya.below hb16) (hyd.below hb16))))
              have HLL := Lib.hid H14.out.2.2
              obtain ⟨x0, x1, -, -⟩ := blk2 k16
              clear hya hyd hb15 hb16 k16 hb156 hcb hcc
              obtain ⟨L, hL⟩ : ∃ L, (keptC keep C 0).foldl putC B = L := ⟨_, rfl⟩
              rw [hL] at H16 HLL
              go_wp2_with fail
              refine (rsame_any _ _ _ _ L L [] [] W16 H16.out.2.2.1 H16.out.2.2.2 H16.out.2.1.rd (Rd.nil _) (by rw [HLL.out]; decide) (by rw [HLL.out]; decide) (by decide) (by decide)).mono ?_
              rintro e w17 ⟨r, rfl, hr, hb17⟩
              obtain rfl := hr.2 ⟨rfl, rfl⟩
              have H17 := Lib.hid (H16.out.1.on hb17)
              clear hr hb17 x0 x1 hW16
              go_wp2_with fail
              refine (ddown_any _ H17.out.1).mono ?_
              rintro e w18 ⟨rfl, rfl⟩
              rw [show (crashD (wr9 B C) keep).down = true from rfl]
              go_wp2_with fail
              refine (alive_any _).mono ?_
              rintro e w19 ⟨rfl, hb19⟩
              have H19 := Lib.hid (H17.out.2.1.trans (hb19.mono H17.out.2.1.size))
              clear hb19
              go_wp2
              exact HR.out _ _ ⟨rfl, H19.out⟩
end Go.Proofs.Ytielmlnbjliacaa
