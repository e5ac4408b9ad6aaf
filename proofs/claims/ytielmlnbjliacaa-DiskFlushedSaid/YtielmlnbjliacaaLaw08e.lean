/- The law DiskSeized: what its walk gives. -/
import Derived.Test.YtielmlnbjliacaaLaw08b
import Derived.Test.YtielmlnbjliacaaDiskFull
namespace Go.Proofs.Ytielmlnbjliacaa
open Go.RowKit Ks
set_option linter.unusedVariables false
variable {n m : Nat} {vb vc ub uc : Value} {s t : DS}
/-- a disk behind a world, apart from what was there -/
def One (w0 w : World) (n : Nat) (vb vc : Value) (s : DS) : Prop := DkAt w n vb vc s ∧ Below w0.heap.size w0 w ∧ (∀ k, DF n vb vc k → w0.heap.size ≤ k) ∧ FullD s
theorem One.on {w0 w w' : World} (h : One w0 w n vb vc s) (hb : Below w.heap.size w w') : One w0 w' n vb vc s := ⟨h.1.below hb, h.2.1.trans (hb.mono h.2.1.size), h.2.2⟩
abbrev actArgs (n m : Nat) (x : ActC) : Array Value := #[.pointer (some ⟨n, 0, none⟩), .pointer (some ⟨m, 0, none⟩), .agg #[.int .i64 x.1, .int .i64 x.2.1, .int .i64 x.2.2.1, .string x.2.2.2.1, .bool x.2.2.2.2.1, .slice x.2.2.2.2.2.1 x.2.2.2.2.2.2.1 x.2.2.2.2.2.2.2]]
/-- an act, done by it and a new one of the reference -/
theorem does_new {w0 : World} (x : ActC) (hG : ActG w0 x) : ∃ a : ActT, a.n ≤ 9223372036854775807 ∧ ∀ (n : Nat) (vb vc : Value) (s : DS) (m : Nat) (ub : Value) (w : World), One w0 w n vb vc s → RkAt w m ub (.slice none 0 0) (newD 9) → (∀ k, DF m ub (.slice none 0 0) k → w0.heap.size ≤ k ∧ ¬ DF n vb vc k) →
    Calls Try.prog 12 (actArgs n m x) w fun e w' => ∃ r vb1 vc1, e = .returned (.bool r) ∧ One w0 w' n vb1 vc1 (doD s a) ∧ ∃ F', Turn w w' (FG n vb vc m ub (.slice none 0 0)) F' ∧ ∀ k, DF n vb1 vc1 k → F' k := by
  obtain ⟨kd, ia, ib, tx, raw, ka, kn, kc⟩ := x
  obtain ⟨h1, h2, keep, hk, hkl⟩ := hG
  unfold maxLen at hkl
  refine ⟨⟨kd, ia, ib, tx, raw, keep⟩, h1, fun n vb vc s m ub w hO hR hF => ?_⟩
  have hlow : ∀ k, FG n vb vc m ub (.slice none 0 0) k → w0.heap.size ≤ k := fun k hk => hk.elim (hO.2.2.1 k) fun h => (hF k h).1
  refine (does_any ⟨kd, ia, ib, tx, raw, keep⟩ ka kn kc w ⟨hO.1, hR, fun k h1 h2 => (hF k h2).2 h1⟩ (hk.below hO.2.1) (by show keep.length ≤ _; omega) h1 ?_).mono ?_
  · intro h0 b o e hF2
    subst e
    obtain ⟨b', o', e, hb, _⟩ := RdI.cell hk 0 (List.length_pos_iff.2 h0)
    cases e
    have := (hF b hF2).1
    omega
  · rintro e w' ⟨r, rfl, hr, vb1, vc1, ub1, uc1, q1, q2⟩
    exact ⟨r, vb1, vc1, rfl, ⟨q1.p, hO.2.1.trans (q2.below hlow hO.2.1.size), fun k hk => q2.low hlow hO.2.1.size k (Or.inl hk), full_do hO.2.2.2 _ h1⟩, _, q2, fun k hk => Or.inl hk⟩
/-- two disks, the first ones apart from the second ones -/
def TwoD (w0 w : World) (n : Nat) (vb vc : Value) (s : DS) (m : Nat) (ub uc : Value) (t : DS) : Prop := One w0 w n vb vc s ∧ One w0 w m ub uc t ∧ ∀ k, DF n vb vc k → ¬ DF m ub uc k
theorem TwoD.on {w0 w w' : World} (h : TwoD w0 w n vb vc s m ub uc t) (hb : Below w.heap.size w w') : TwoD w0 w' n vb vc s m ub uc t := ⟨h.1.on hb, h.2.1.on hb, h.2.2⟩
theorem TwoD.swap {w0 w : World} (h : TwoD w0 w n vb vc s m ub uc t) : TwoD w0 w m ub uc t n vb vc s := ⟨h.2.1, h.1, fun k h1 h2 => h.2.2 k h2 h1⟩
theorem TwoD.left {w0 w w' : World} {vb1 vc1 : Value} {s1 : DS} {F F' : Nat → Prop} (h : TwoD w0 w n vb vc s m ub uc t) (hO : One w0 w' n vb1 vc1 s1) (hT : Turn w w' F F') (hF' : ∀ k, DF n vb1 vc1 k → F' k) (hap : ∀ k, F k → ¬ DF m ub uc k) : TwoD w0 w' n vb1 vc1 s1 m ub uc t :=
  ⟨hO, ⟨h.2.1.1.keep (hT.other h.2.1.1.lt hap), hO.2.1, h.2.1.2.2.1, h.2.1.2.2.2⟩, fun k hk => hT.apart h.2.1.1.lt hap k (hF' k hk)⟩
theorem One.turn {w0 w w' : World} {vb1 vc1 : Value} {s1 : DS} (h : One w0 w n vb vc s) (hd : DkAt w' n vb1 vc1 s1) (hT : Turn w w' (DF n vb vc) (DF n vb1 vc1)) (hf : FullD s1) : One w0 w' n vb1 vc1 s1 :=
  ⟨hd, h.2.1.trans (hT.below h.2.2.1 h.2.1.size), hT.low h.2.2.1 h.2.1.size, hf⟩
theorem TwoD.turn {w0 w w' : World} {vb1 vc1 : Value} {s1 : DS} (h : TwoD w0 w n vb vc s m ub uc t) (hd : DkAt w' n vb1 vc1 s1) (hT : Turn w w' (DF n vb vc) (DF n vb1 vc1)) (hf : FullD s1) : TwoD w0 w' n vb1 vc1 s1 m ub uc t :=
  h.left (h.1.turn hd hT hf) hT (fun k hk => hk) h.2.2
theorem full_crash {s : DS} (h : FullD s) : FullD (crashD s []) := h.puts _ (fun p hp => h.ca p (keptC_mem _ _ _ p hp)) _ _ (Nat.zero_le _)
theorem full_boot {s : DS} (h : FullD s) : FullD (bootD s) := ⟨bootD_ok h.ok, h.many, h.bl, fun p hp => by cases hp⟩
theorem eg_rnew : ∀ args w, (callFunc 11 args).run Try.prog w = .ok (.enter 11 args) w := fun _ _ => rfl
theorem eg_does : ∀ args w, (callFunc 12 args).run Try.prog w = .ok (.enter 12 args) w := fun _ _ => rfl
/-- the class of worlds of the first loop's region -/
def Cls8 (w0 W : World) (bx : Nat) (bo : Obj) (n : Nat) (vb vc : Value) (s : DS) (f : Ks.Told) (w : World) : Prop :=
  w.heap[bx]? = some bo ∧ bx < w.heap.size ∧ (f 3 = none → One w0 w n vb vc s ∧ Below W.heap.size W w) ∧
  (∀ v, f 1 = some v → f 3 = none → ∃ m ub, v = .pointer (some ⟨m, 0, none⟩) ∧ RkAt w m ub (.slice none 0 0) (newD 9) ∧ ∀ k, DF m ub (.slice none 0 0) k → W.heap.size ≤ k) ∧
  (∀ v, f 3 = some v → ∃ vb vc s, One w0 w n vb vc s)

set_option maxHeartbeats 8000000 in
set_option maxRecDepth 100000 in
theorem law_dseized (lv : Value) (l : List ActC) (mv : Value) (more : List ActC) (at_ : Int) (w : World) (hl : Rd acE w lv l) (hlen : l.length ≤ maxLen) (hG : ∀ x ∈ l, ActG w x) (hm : Rd acE w mv more) (hmlen : more.length ≤ maxLen) (hGm : ∀ x ∈ more, ActG w x) :
    Calls Try.prog 7 #[lv, mv, .int .i64 at_] w fun e w' => e = .returned (.bool true) ∧ Below w.heap.size w w' := by
  refine calls_by fun R HR => ?_
  have HL := Lib.hid (And.intro hl hG)
  have HM := Lib.hid (And.intro hm hGm)
  have HF := Lib.hid (lfew_any lv l w hl hlen)
  have HF2 := Lib.hid (fun (W : World) (hb : Below w.heap.size w W) => lfew_any mv more W (hm.below hb) hmlen)
  obtain ⟨la, lc, hlv, _⟩ := hl.shape
  obtain ⟨ma, mc, hmv, _⟩ := hm.shape
  subst hlv hmv
  clear hl hlen hG hm hmlen hGm
  go_enter Try.func7, Try.ntmps7
  go_wp2_with fail
  refine HF.out.mono ?_
  rintro e w1 ⟨b, rfl, hfew, hb⟩
  have H1 := Lib.hid (And.intro hb hfew)
  clear hfew hb
  cases b
  · go_wp2_with fail
    refine (alive_any _).mono ?_
    rintro e w2 ⟨rfl, hb2⟩
    have H2 := Lib.hid (H1.out.1.trans (hb2.mono H1.out.1.size))
    clear hb2
    go_wp2
    exact HR.out _ _ ⟨rfl, H2.out⟩
  · go_wp2_with fail
    refine (HF2.out w1 H1.out.1).mono ?_
    rintro e w2 ⟨b, rfl, hfew, hb⟩
    have H2 := Lib.hid (And.intro (H1.out.1.trans (hb.mono H1.out.1.size)) hfew)
    clear hfew hb
    cases b
    · go_wp2_with fail
      refine (alive_any _).mono ?_
      rintro e w3 ⟨rfl, hb3⟩
      have H3 := Lib.hid (H2.out.1.trans (hb3.mono H2.out.1.size))
      clear hb3
      go_wp2
      exact HR.out _ _ ⟨rfl, H3.out⟩
    · have hl60 := H1.out.2 (by first | rfl | trivial)
      have hm60 := H2.out.2 (by first | rfl | trivial)
      go_wp2_with fail
      refine (dnew_any 9 _ (by decide) (by decide)).mono ?_
      rintro e w3 ⟨n, vb, rfl, hd3, hb3, hf3⟩
      have H3 := Lib.hid (show One w w3 n vb (.slice none 0 0) (newD 9) from ⟨hd3, H2.out.1.trans (hb3.mono H2.out.1.size), fun k hk => Nat.le_trans H2.out.1.size (hf3 k hk), full_new 9 (by decide) (by decide)⟩)
      clear hd3 hb3 hf3
      go_wp2_with fail
      go_loopg [38] l.length (fun g i wr => ∃ (k : Nat) (vb vc : Value) (s : DS), k + g = l.length ∧ i = .int .i64 k ∧ Hid (One w wr n vb vc s))
      case atStart => exact ⟨0, _, _, _, by omega, rfl, H3⟩
      case round =>
        obtain ⟨k, vb, vc, s, hk, rfl, hA⟩ := hrel
        by_cases hlt : k < l.length
        · obtain ⟨x, hx⟩ : ∃ x, l[k]? = some x := ⟨_, List.getElem?_eq_getElem hlt⟩
          obtain ⟨b, o, rfl, hb, c0, c1, c2, c3, c4, c5⟩ := (HL.out.1.below hA.out.2.1).actAt k x hx
          obtain ⟨a, han, hdoes⟩ := does_new x (HL.out.2 x (List.mem_of_getElem? hx))
          have HX := Lib.hid hdoes
          obtain ⟨kd, ia, ib, tx, raw, ka, kn, kc⟩ := x
          simp only [hdrV] at c0 c1 c2 c3 c4 c5
          have hki : (k : Int) < (l.length : Int) := by omega
          clear hx hdoes
          obtain ⟨W, hW⟩ : ∃ W, wr.alloc (.cells #[.int .i64 kd, .int .i64 ia, .int .i64 ib, .string tx, .bool raw, .slice ka kn kc] 33) = W := ⟨_, rfl⟩
          have hbW : Below wr.heap.size wr W := by rw [← hW]; exact alloc_below wr _
          have hkW : W.heap[wr.heap.size]? = some (.cells #[.int .i64 kd, .int .i64 ia, .int .i64 ib, .string tx, .bool raw, .slice ka kn kc] 33 (0, 0)) := by rw [← hW]; exact alloc_new wr _
          have H4 := Lib.hid (And.intro (hA.out.on hbW) (And.intro hkW (show ∀ k, DF n vb vc k → k < wr.heap.size from hA.out.1.lt)))
          have HW := Lib.hid hW
          clear hbW hkW hW
          go_wp2_with fail
          rw [HW.out]
          refine wp_region_mv (Cls8 w W wr.heap.size (.cells #[.int .i64 kd, .int .i64 ia, .int .i64 ib, .string tx, .bool raw, .slice ka kn kc] 33 (0, 0)) n vb vc s) (by kernel_rfl)
            ⟨H4.out.2.1, lt_of_block H4.out.2.1, fun _ => ⟨H4.out.1.on (drew_below W), drew_below W⟩, fun v hv => (by cases hv), fun v hv => (by cases hv)⟩ ?_
          obtain ⟨S, F, hF, hFC⟩ := moved_class (Cls8 w W wr.heap.size (.cells #[.int .i64 kd, .int .i64 ia, .int .i64 ib, .string tx, .bool raw, .slice ka kn kc] 33 (0, 0)) n vb vc s)
          have k0 := fun s => (blk6 (hFC s).choose_spec.1).1
          have k1 := fun s => (blk6 (hFC s).choose_spec.1).2.1
          have k2 := fun s => (blk6 (hFC s).choose_spec.1).2.2.1
          have k3 := fun s => (blk6 (hFC s).choose_spec.1).2.2.2.1
          have k4 := fun s => (blk6 (hFC s).choose_spec.1).2.2.2.2.1
          have k5 := fun s => (blk6 (hFC s).choose_spec.1).2.2.2.2.2
          clear c0 c1 c2 c3 c4 c5
          show wpAnyM _ _ _ _ _ 4 (Array.replicate 4 false) _ _
          refine mv_read 0 hF (fun _ _ _ h => h) rfl (by kernel_rfl) (by kernel_rfl) (by kernel_rfl) (fun K hK => ?_)
          go_simp
          first | refine ⟨_, fun _ => rfl, hK _ _ ?_⟩ | refine hK _ _ ?_
          clear hK K
          refine mv_read 2 hF (fun _ _ _ h => h) rfl (by kernel_rfl) (by kernel_rfl) (by kernel_rfl) (fun K hK => ?_)
          go_simp
          first | refine ⟨_, fun _ => rfl, hK _ _ ?_⟩ | refine hK _ _ ?_
          clear hK K
          refine mv_call 1 11 rfl (by kernel_rfl) rfl rfl eg_rnew (args := #[.int .i64 9]) rfl (fun v => ∃ m, v = .pointer (some ⟨m, 0, none⟩)) (fun g w1 hag h0 h => ?_) ?_
          · refine (rnew_any 9 w1 (by decide) (by decide)).mono ?_
            rintro e w' ⟨m, ub, rfl, hr, hb, hf⟩
            obtain ⟨q1, q2, q3, q4, q5⟩ := h
            refine ⟨_, rfl, ⟨m, rfl⟩, blk_on hb q1, Nat.lt_of_lt_of_le q2 hb.size, fun h3 => ⟨(q3 h3).1.on hb, (q3 h3).2.trans (hb.mono (q3 h3).2.size)⟩, fun v hv h3 => ?_, fun v hv => ?_⟩
            · cases hv
              exact ⟨m, ub, rfl, hr, fun k hk => Nat.le_trans (q3 h3).2.size (hf k hk)⟩
            · obtain ⟨a, b, c, h⟩ := q5 v hv
              exact ⟨a, b, c, h.on hb⟩
          rintro v ⟨m, rfl⟩
          refine mv_call 3 12 rfl (by kernel_rfl) rfl rfl eg_does (args := actArgs n m (kd, ia, ib, tx, raw, ka, kn, kc)) rfl (fun v => ∃ r, v = .bool r) (fun g w1 hag h0 h => ?_) ?_
          · have hg1 := agree_on 1 hag (by kernel_rfl)
            obtain ⟨q1, q2, q3, q4, q5⟩ := h
            obtain ⟨m', ub, e, hr, hf⟩ := q4 _ hg1 h0
            cases e
            obtain ⟨hO, hB⟩ := q3 h0
            have hWs := H4.out.1.2.1.size
            refine (HX.out n vb vc s m ub w1 hO hr fun k hk => ⟨Nat.le_trans hWs (hf k hk), fun h => ?_⟩).mono ?_
            · have := H4.out.2.2 k h
              have := hf k hk
              have := lt_of_block H4.out.2.1
              omega
            · rintro e w' ⟨r, vb1, vc1, rfl, hO', F', hT, hF'⟩
              have hnF : ¬ FG n vb vc m ub (.slice none 0 0) wr.heap.size := by
                rintro (h | h)
                · exact absurd (H4.out.2.2 _ h) (Nat.lt_irrefl _)
                · have := hf _ h
                  have := lt_of_block H4.out.2.1
                  omega
              exact ⟨_, rfl, ⟨r, rfl⟩, (hT.block _ q2 hnF).trans q1, Nat.lt_of_lt_of_le q2 hT.size, fun h => (by cases h), fun v _ h => (by cases h), fun v _ => ⟨vb1, vc1, _, hO'⟩⟩
          rintro v ⟨r, rfl⟩
          refine mv_end (by kernel_rfl) ?_
          intro w' hw'
          obtain ⟨vb5, vc5, s5, h5⟩ := hw'.2.2.2.2 _ rfl
          have H5 := Lib.hid h5
          clear hw' h5 hF hFC k0 k1 k2 k3 k4 k5
          go_wp2_with fail
          go_roundg (gk - 1)
          case rel => exact ⟨k + 1, _, _, _, by omega, by go_num, H5⟩
          case measure => omega
        · obtain rfl : k = l.length := by omega
          clear hlt hk
          go_wp2_with fail
          refine (dseize_any _ hA.out.1).mono ?_
          rintro e w5 ⟨xa, xd, rfl, hxa, hxd, hb5⟩
          obtain ⟨ga, gc, rfl, _⟩ := hxa.shape
          obtain ⟨ha, hc, rfl, _⟩ := hxd.shape
          obtain ⟨W6, hW6⟩ : ∃ W6, w5.alloc (.cells #[.slice ga s.blocks.length gc, .slice ha s.cache.length hc] 40) = W6 := ⟨_, rfl⟩
          have hb6 : Below w5.heap.size w5 W6 := by rw [← hW6]; exact alloc_below w5 _
          have k6 : W6.heap[w5.heap.size]? = some (.cells #[.slice ga s.blocks.length gc, .slice ha s.cache.length hc] 40 (0, 0)) := by rw [← hW6]; exact alloc_new w5 _
          have H6 := Lib.hid (And.intro ((hA.out.on hb5).on hb6) (And.intro k6 (And.intro (hxa.below hb6) (hxd.below hb6))))
          have HW6 := Lib.hid hW6
          clear hxa hxd hb5 hb6 k6 hW6
          go_wp2_with fail
          rw [HW6.out]
          refine (dseize_any _ H6.out.1.1).mono ?_
          rintro e w7 ⟨ya, yd, rfl, hya, hyd, hb7⟩
          obtain ⟨pa, pc, rfl, _⟩ := hya.shape
          obtain ⟨qa, qc, rfl, _⟩ := hyd.shape
          obtain ⟨W8, hW8⟩ : ∃ W8, w7.alloc (.cells #[.slice pa s.blocks.length pc, .slice qa s.cache.length qc] 40) = W8 := ⟨_, rfl⟩
          have hb8 : Below w7.heap.size w7 W8 := by rw [← hW8]; exact alloc_below w7 _
          have k8 : W8.heap[w7.heap.size]? = some (.cells #[.slice pa s.blocks.length pc, .slice qa s.cache.length qc] 40 (0, 0)) := by rw [← hW8]; exact alloc_new w7 _
          have hb78 := hb7.trans (hb8.mono hb7.size)
          have H8 := Lib.hid (And.intro (H6.out.1.on hb78) (And.intro (blk_on hb78 H6.out.2.1) (And.intro k8 (And.intro (H6.out.2.2.1.below hb78) (And.intro (H6.out.2.2.2.below hb78) (And.intro (hya.below hb8) (hyd.below hb8)))))))
          clear hya hyd hb7 hb8 k8 hb78
          obtain ⟨x0, x1, -, -⟩ := blk2 H8.out.2.1
          have hbm : s.blocks.length ≤ maxLen := by have := H8.out.1.1.ok.blocks; unfold maxLen; omega
          have hcm : s.cache.length ≤ maxLen := by have := H8.out.1.1.ok.cache; unfold maxLen; omega
          have HMX := Lib.hid (And.intro hbm hcm)
          clear hbm hcm
          go_wp2_with fail
          clear hW8
          refine (dload_any _ _ s.blocks s.cache W8 H8.out.2.2.2.1 H8.out.2.2.2.2.1 HMX.out.1 HMX.out.2).mono ?_
          rintro e w9 ⟨⟨-, hyes⟩, hb9⟩
          obtain ⟨n2, vb2, vc2, rfl, hD2, hF2⟩ := hyes H8.out.1.2.2.2.may
          have hT2 : TwoD w w9 n vb vc s n2 vb2 vc2 ⟨s.blocks, s.cache, false, 0⟩ :=
            ⟨H8.out.1.on hb9, ⟨hD2, H8.out.1.2.1.trans (hb9.mono H8.out.1.2.1.size), fun k hk => Nat.le_trans H8.out.1.2.1.size (hF2 k hk), ⟨hD2.ok, H8.out.1.2.2.2.many, H8.out.1.2.2.2.bl, H8.out.1.2.2.2.ca⟩⟩, fun k h1 h2 => by have := H8.out.1.1.lt k h1; have := hF2 k h2; omega⟩
          have H9 := Lib.hid (And.intro hT2 (And.intro (blk_on hb9 H8.out.2.1) (And.intro (blk_on hb9 H8.out.2.2.1) (And.intro (H8.out.2.2.2.1.below hb9) (And.intro (H8.out.2.2.2.2.1.below hb9) (And.intro (H8.out.2.2.2.2.2.1.below hb9) (H8.out.2.2.2.2.2.2.below hb9)))))))
          clear hyes hb9 hD2 hF2 hT2 x0 x1
          obtain ⟨x0, x1, -, -⟩ := blk2 H9.out.2.1
          obtain ⟨y0, y1, -, -⟩ := blk2 H9.out.2.2.1
          go_wp2_with fail
          refine (rsame_any _ _ _ _ s.blocks s.blocks s.cache s.cache w9 H9.out.2.2.2.1 H9.out.2.2.2.2.1 H9.out.2.2.2.2.2.1 H9.out.2.2.2.2.2.2 HMX.out.1 HMX.out.1 HMX.out.2 HMX.out.2).mono ?_
          rintro e w10 ⟨r, rfl, hr, hb10⟩
          obtain rfl := hr.2 ⟨rfl, rfl⟩
          have H10 := Lib.hid (H9.out.1.on hb10)
          clear hr hb10 x0 x1 y0 y1
          obtain ⟨p, hp⟩ : ∃ p, s.down = p := ⟨_, rfl⟩
          have HP := Lib.hid hp
          clear hp
          go_wp2_with fail
          refine (ddown_any _ H10.out.1.1).mono ?_
          rintro e w11 ⟨rfl, rfl⟩
          rw [HP.out]
          cases p
          · go_wp2_with fail
            refine (dread_any at_ _ H10.out.1.1).mono ?_
            rintro e w12 ⟨rfl, rfl⟩
            go_wp2_with fail
            refine (dread_any at_ _ H10.out.2.1.1).mono ?_
            rintro e w13 ⟨rfl, rfl⟩
            have hv : readD ⟨s.blocks, s.cache, false, 0⟩ at_ = readD s at_ := by unfold readD inD; rw [HP.out]
            rw [hv]
            clear hv
            generalize (readD s at_).1 = xx at *
            generalize (readD s at_).2 = yy at *
            go_wp2_with fail
            refine (dcrash_any (.slice none 0 0) [] _ H10.out.1.1 (RdI.nil _) (by decide)).mono ?_
            rintro e w14 ⟨vc4, rfl, hd4, ht4⟩
            have H14 := Lib.hid (H10.out.turn hd4 ht4 (full_crash H10.out.1.2.2.2))
            clear hd4 ht4
            go_wp2_with fail
            refine (dcrash_any (.slice none 0 0) [] _ H14.out.2.1.1 (RdI.nil _) (by decide)).mono ?_
            rintro e w15 ⟨vc5, rfl, hd5, ht5⟩
            have H15 := Lib.hid (H14.out.swap.turn hd5 ht5 (full_crash H14.out.2.1.2.2.2)).swap
            clear hd5 ht5
            go_wp2_with fail
            refine (dboot_any _ H15.out.1.1).mono ?_
            rintro e w16 ⟨rfl, hd6, ht6⟩
            have H16 := Lib.hid (H15.out.turn hd6 ht6 (full_boot H15.out.1.2.2.2))
            clear hd6 ht6
            go_wp2_with fail
            refine (dboot_any _ H16.out.2.1.1).mono ?_
            rintro e w17 ⟨rfl, hd7, ht7⟩
            have H17 := Lib.hid (show TwoD w w17 n vb (.slice none 0 0) (bootD (crashD s [])) n2 vb2 (.slice none 0 0) (bootD (crashD s [])) from (H16.out.swap.turn hd7 ht7 (full_boot H16.out.2.1.2.2.2)).swap)
            clear hd7 ht7
            go_wp2_with fail
            go_loopg [96] more.length (fun g i wr => ∃ (k : Nat) (vb vc : Value) (vb2 vc2 : Value) (s : DS), k + g = more.length ∧ i = .int .i64 k ∧ Hid (TwoD w wr n vb vc s n2 vb2 vc2 s))
            case atStart => exact ⟨0, _, _, _, _, _, by omega, rfl, H17⟩
            case round =>
              obtain ⟨k, vb, vc, vb2, vc2, s, hk, rfl, hA⟩ := hrel
              by_cases hlt : k < more.length
              · obtain ⟨x, hx⟩ : ∃ x, more[k]? = some x := ⟨_, List.getElem?_eq_getElem hlt⟩
                obtain ⟨b, o, rfl, hb, c0, c1, c2, c3, c4, c5⟩ := (HM.out.1.below hA.out.1.2.1).actAt k x hx
                obtain ⟨a, han, hdoes⟩ := does_new x (HM.out.2 x (List.mem_of_getElem? hx))
                have HX := Lib.hid hdoes
                obtain ⟨kd, ia, ib, tx, raw, ka, kn, kc⟩ := x
                simp only [hdrV] at c0 c1 c2 c3 c4 c5
                have hki : (k : Int) < (more.length : Int) := by omega
                clear hx hdoes
                obtain ⟨W, hW⟩ : ∃ W, wr.alloc (.cells #[.int .i64 kd, .int .i64 ia, .int .i64 ib, .string tx, .bool raw, .slice ka kn kc] 33) = W := ⟨_, rfl⟩
                have hbW : Below wr.heap.size wr W := by rw [← hW]; exact alloc_below wr _
                have hkW : W.heap[wr.heap.size]? = some (.cells #[.int .i64 kd, .int .i64 ia, .int .i64 ib, .string tx, .bool raw, .slice ka kn kc] 33 (0, 0)) := by rw [← hW]; exact alloc_new wr _
                have H20 := Lib.hid (And.intro (hA.out.on hbW) (And.intro hkW (And.intro hA.out.1.1.lt hA.out.2.1.1.lt)))
                have HW := Lib.hid hW
                clear hbW hkW hW
                go_wp2_with fail
                rw [HW.out]
                refine (rnew_any 9 W (by decide) (by decide)).mono ?_
                rintro e w21 ⟨m, ub, rfl, hr1, hb21, hf1⟩
                have H21 := Lib.hid (And.intro (H20.out.1.on hb21) (And.intro (blk_on hb21 H20.out.2.1) (And.intro hr1 (And.intro hf1 (Nat.le_trans H20.out.1.1.2.1.size hb21.size)))))
                clear hr1 hb21 hf1
                go_wp2_with fail
                refine (rnew_any 9 w21 (by decide) (by decide)).mono ?_
                rintro e w22 ⟨m2, ub2, rfl, hr2, hb22, hf2⟩
                have H22 := Lib.hid (And.intro (H21.out.1.on hb22) (And.intro (blk_on hb22 H21.out.2.1) (And.intro (H21.out.2.2.1.below hb22) (And.intro hr2 hf2))))
                have HLT := Lib.hid (And.intro H21.out.2.2.1.lt H21.out.2.2.2.1)
                clear hr2 hb22 hf2
                obtain ⟨d0, d1, d2, d3, d4, d5⟩ := blk6 H22.out.2.1
                clear c0 c1 c2 c3 c4 c5
                have hWl := lt_of_block H20.out.2.1
                have HWL := Lib.hid hWl
                clear hWl
                go_wp2_with fail
                refine (HX.out n vb vc s m ub w22 H22.out.1.1 H22.out.2.2.1 fun k hk => ⟨Nat.le_trans H20.out.1.1.2.1.size (HLT.out.2 k hk), fun h => by have := H20.out.2.2.1 k h; have := HLT.out.2 k hk; have := HWL.out; omega⟩).mono ?_
                rintro e w23 ⟨r1, vb1, vc1, rfl, hO1, F1, hT1, hF1⟩
                have hq : ∀ k, FG n vb vc m ub (.slice none 0 0) k → k < w21.heap.size := fun k hk => hk.elim (fun h => by have := H20.out.2.2.1 k h; have := HWL.out; have := H21.out.2.2.2.2; have := H21.out.1.1.1.lt k h; omega) (HLT.out.1 k)
                have hbx : ¬ FG n vb vc m ub (.slice none 0 0) wr.heap.size := by
                  rintro (h | h)
                  · exact absurd (H20.out.2.2.1 _ h) (Nat.lt_irrefl _)
                  · have := HLT.out.2 _ h; have := HWL.out; omega
                have hT2 := H22.out.1.left hO1 hT1 hF1 (fun k hk h2 => hk.elim (fun h => H22.out.1.2.2 k h h2) fun h => by have := H20.out.2.2.2 k h2; have := HLT.out.2 k h; have := HWL.out; omega)
                have H23 := Lib.hid (And.intro hT2 (And.intro ((hT1.block _ (lt_of_block H22.out.2.1) hbx).trans H22.out.2.1) (H22.out.2.2.2.1.keep (hT1.other H22.out.2.2.2.1.lt fun k hk h2 => by have := hq k hk; have := H22.out.2.2.2.2 k h2; omega))))
                have HAP := Lib.hid (fun k (h2 : DF n vb1 vc1 k) => hT1.apart H22.out.2.2.2.1.lt (fun k hk h2 => by have := hq k hk; have := H22.out.2.2.2.2 k h2; omega) k (hF1 k h2))
                clear hO1 hT1 hF1 hT2 hq hbx d0 d1 d2 d3 d4 d5
                obtain ⟨d0, d1, d2, d3, d4, d5⟩ := blk6 H23.out.2.1
                go_wp2_with fail
                refine (HX.out n2 vb2 vc2 s m2 ub2 w23 H23.out.1.2.1 H23.out.2.2 fun k hk => ⟨by have := H22.out.2.2.2.2 k hk; have := H21.out.1.1.2.1.size; omega, fun h => by have := H20.out.2.2.2 k h; have := H22.out.2.2.2.2 k hk; have := HWL.out; have := H21.out.1.2.1.1.lt k h; omega⟩).mono ?_
                rintro e w24 ⟨r2, vb3, vc3, rfl, hO2, F2, hT2, hF2⟩
                have hT3 := H23.out.1.swap.left hO2 hT2 hF2 (fun k hk h2 => hk.elim (fun h => H23.out.1.2.2 k h2 h) fun h => HAP.out k h2 h)
                have H24 := Lib.hid hT3.swap
                clear hO2 hT2 hF2 hT3 d0 d1 d2 d3 d4 d5
                go_wp2_with fail
                go_roundg (gk - 1)
                case rel => exact ⟨k + 1, _, _, _, _, _, by omega, by go_num, H24⟩
                case measure => omega
              · obtain rfl : k = more.length := by omega
                go_wp2_with fail
                refine (dseize_any _ hA.out.1.1).mono ?_
                rintro e w20 ⟨za, zd, rfl, hza, hzd, hb20⟩
                have H20 := Lib.hid (And.intro (hA.out.on hb20) (And.intro hza hzd))
                clear hza hzd hb20
                go_wp2_with fail
                refine (dseize_any _ H20.out.1.2.1.1).mono ?_
                rintro e w21 ⟨ta, td, rfl, hta, htd, hb21⟩
                have H21 := Lib.hid (And.intro (H20.out.1.on hb21) (And.intro (H20.out.2.1.below hb21) (And.intro (H20.out.2.2.below hb21) (And.intro hta htd))))
                clear hta htd hb21
                have hbm : s.blocks.length ≤ maxLen := by have := hA.out.1.1.ok.blocks; unfold maxLen; omega
                have hcm : s.cache.length ≤ maxLen := by have := hA.out.1.1.ok.cache; unfold maxLen; omega
                have HMY := Lib.hid (And.intro hbm hcm)
                clear hbm hcm
                go_wp2_with fail
                refine (rsame_any _ _ _ _ s.blocks s.blocks s.cache s.cache w21 H21.out.2.1 H21.out.2.2.1 H21.out.2.2.2.1 H21.out.2.2.2.2 HMY.out.1 HMY.out.1 HMY.out.2 HMY.out.2).mono ?_
                rintro e w22 ⟨r, rfl, hr, hb22⟩
                obtain rfl := hr.2 ⟨rfl, rfl⟩
                have H22 := Lib.hid (H21.out.1.on hb22)
                clear hr hb22
                obtain ⟨p2, hp2⟩ : ∃ p2, s.down = p2 := ⟨_, rfl⟩
                have HP2 := Lib.hid hp2
                clear hp2
                go_wp2_with fail
                refine (ddown_any _ H22.out.1.1).mono ?_
                rintro e w23 ⟨rfl, rfl⟩
                rw [HP2.out]
                go_wp2_with fail
                refine (ddown_any _ H22.out.2.1.1).mono ?_
                rintro e w24 ⟨rfl, rfl⟩
                rw [HP2.out]
                go_wp2_with fail
                refine (alive_any _).mono ?_
                rintro e w25 ⟨rfl, hb25⟩
                have H25 := Lib.hid (H22.out.1.2.1.trans (hb25.mono H22.out.1.2.1.size))
                clear hb25
                go_wp2
                exact HR.out _ _ ⟨rfl, H25.out⟩
          · go_wp2_with fail
            refine (dcrash_any (.slice none 0 0) [] _ H10.out.1.1 (RdI.nil _) (by decide)).mono ?_
            rintro e w14 ⟨vc4, rfl, hd4, ht4⟩
            have H14 := Lib.hid (H10.out.turn hd4 ht4 (full_crash H10.out.1.2.2.2))
            clear hd4 ht4
            go_wp2_with fail
            refine (dcrash_any (.slice none 0 0) [] _ H14.out.2.1.1 (RdI.nil _) (by decide)).mono ?_
            rintro e w15 ⟨vc5, rfl, hd5, ht5⟩
            have H15 := Lib.hid (H14.out.swap.turn hd5 ht5 (full_crash H14.out.2.1.2.2.2)).swap
            clear hd5 ht5
            go_wp2_with fail
            refine (dboot_any _ H15.out.1.1).mono ?_
            rintro e w16 ⟨rfl, hd6, ht6⟩
            have H16 := Lib.hid (H15.out.turn hd6 ht6 (full_boot H15.out.1.2.2.2))
            clear hd6 ht6
            go_wp2_with fail
            refine (dboot_any _ H16.out.2.1.1).mono ?_
            rintro e w17 ⟨rfl, hd7, ht7⟩
            have H17 := Lib.hid (show TwoD w w17 n vb (.slice none 0 0) (bootD (crashD s [])) n2 vb2 (.slice none 0 0) (bootD (crashD s [])) from (H16.out.swap.turn hd7 ht7 (full_boot H16.out.2.1.2.2.2)).swap)
            clear hd7 ht7
            go_wp2_with fail
            go_loopg [96] more.length (fun g i wr => ∃ (k : Nat) (vb vc : Value) (vb2 vc2 : Value) (s : DS), k + g = more.length ∧ i = .int .i64 k ∧ Hid (TwoD w wr n vb vc s n2 vb2 vc2 s))
            case atStart => exact ⟨0, _, _, _, _, _, by omega, rfl, H17⟩
            case round =>
              obtain ⟨k, vb, vc, vb2, vc2, s, hk, rfl, hA⟩ := hrel
              by_cases hlt : k < more.length
              · obtain ⟨x, hx⟩ : ∃ x, more[k]? = some x := ⟨_, List.getElem?_eq_getElem hlt⟩
                obtain ⟨b, o, rfl, hb, c0, c1, c2, c3, c4, c5⟩ := (HM.out.1.below hA.out.1.2.1).actAt k x hx
                obtain ⟨a, han, hdoes⟩ := does_new x (HM.out.2 x (List.mem_of_getElem? hx))
                have HX := Lib.hid hdoes
                obtain ⟨kd, ia, ib, tx, raw, ka, kn, kc⟩ := x
                simp only [hdrV] at c0 c1 c2 c3 c4 c5
                have hki : (k : Int) < (more.length : Int) := by omega
                clear hx hdoes
                obtain ⟨W, hW⟩ : ∃ W, wr.alloc (.cells #[.int .i64 kd, .int .i64 ia, .int .i64 ib, .string tx, .bool raw, .slice ka kn kc] 33) = W := ⟨_, rfl⟩
                have hbW : Below wr.heap.size wr W := by rw [← hW]; exact alloc_below wr _
                have hkW : W.heap[wr.heap.size]? = some (.cells #[.int .i64 kd, .int .i64 ia, .int .i64 ib, .string tx, .bool raw, .slice ka kn kc] 33 (0, 0)) := by rw [← hW]; exact alloc_new wr _
                have H20 := Lib.hid (And.intro (hA.out.on hbW) (And.intro hkW (And.intro hA.out.1.1.lt hA.out.2.1.1.lt)))
                have HW := Lib.hid hW
                clear hbW hkW hW
                go_wp2_with fail
                rw [HW.out]
                refine (rnew_any 9 W (by decide) (by decide)).mono ?_
                rintro e w21 ⟨m, ub, rfl, hr1, hb21, hf1⟩
                have H21 := Lib.hid (And.intro (H20.out.1.on hb21) (And.intro (blk_on hb21 H20.out.2.1) (And.intro hr1 (And.intro hf1 (Nat.le_trans H20.out.1.1.2.1.size hb21.size)))))
                clear hr1 hb21 hf1
                go_wp2_with fail
                refine (rnew_any 9 w21 (by decide) (by decide)).mono ?_
                rintro e w22 ⟨m2, ub2, rfl, hr2, hb22, hf2⟩
                have H22 := Lib.hid (And.intro (H21.out.1.on hb22) (And.intro (blk_on hb22 H21.out.2.1) (And.intro (H21.out.2.2.1.below hb22) (And.intro hr2 hf2))))
                have HLT := Lib.hid (And.intro H21.out.2.2.1.lt H21.out.2.2.2.1)
                clear hr2 hb22 hf2
                obtain ⟨d0, d1, d2, d3, d4, d5⟩ := blk6 H22.out.2.1
                clear c0 c1 c2 c3 c4 c5
                have hWl := lt_of_block H20.out.2.1
                have HWL := Lib.hid hWl
                clear hWl
                go_wp2_with fail
                refine (HX.out n vb vc s m ub w22 H22.out.1.1 H22.out.2.2.1 fun k hk => ⟨Nat.le_trans H20.out.1.1.2.1.size (HLT.out.2 k hk), fun h => by have := H20.out.2.2.1 k h; have := HLT.out.2 k hk; have := HWL.out; omega⟩).mono ?_
                rintro e w23 ⟨r1, vb1, vc1, rfl, hO1, F1, hT1, hF1⟩
                have hq : ∀ k, FG n vb vc m ub (.slice none 0 0) k → k < w21.heap.size := fun k hk => hk.elim (fun h => by have := H20.out.2.2.1 k h; have := HWL.out; have := H21.out.2.2.2.2; have := H21.out.1.1.1.lt k h; omega) (HLT.out.1 k)
                have hbx : ¬ FG n vb vc m ub (.slice none 0 0) wr.heap.size := by
                  rintro (h | h)
                  · exact absurd (H20.out.2.2.1 _ h) (Nat.lt_irrefl _)
                  · have := HLT.out.2 _ h; have := HWL.out; omega
                have hT2 := H22.out.1.left hO1 hT1 hF1 (fun k hk h2 => hk.elim (fun h => H22.out.1.2.2 k h h2) fun h => by have := H20.out.2.2.2 k h2; have := HLT.out.2 k h; have := HWL.out; omega)
                have H23 := Lib.hid (And.intro hT2 (And.intro ((hT1.block _ (lt_of_block H22.out.2.1) hbx).trans H22.out.2.1) (H22.out.2.2.2.1.keep (hT1.other H22.out.2.2.2.1.lt fun k hk h2 => by have := hq k hk; have := H22.out.2.2.2.2 k h2; omega))))
                have HAP := Lib.hid (fun k (h2 : DF n vb1 vc1 k) => hT1.apart H22.out.2.2.2.1.lt (fun k hk h2 => by have := hq k hk; have := H22.out.2.2.2.2 k h2; omega) k (hF1 k h2))
                clear hO1 hT1 hF1 hT2 hq hbx d0 d1 d2 d3 d4 d5
                obtain ⟨d0, d1, d2, d3, d4, d5⟩ := blk6 H23.out.2.1
                go_wp2_with fail
                refine (HX.out n2 vb2 vc2 s m2 ub2 w23 H23.out.1.2.1 H23.out.2.2 fun k hk => ⟨by have := H22.out.2.2.2.2 k hk; have := H21.out.1.1.2.1.size; omega, fun h => by have := H20.out.2.2.2 k h; have := H22.out.2.2.2.2 k hk; have := HWL.out; have := H21.out.1.2.1.1.lt k h; omega⟩).mono ?_
                rintro e w24 ⟨r2, vb3, vc3, rfl, hO2, F2, hT2, hF2⟩
                have hT3 := H23.out.1.swap.left hO2 hT2 hF2 (fun k hk h2 => hk.elim (fun h => H23.out.1.2.2 k h2 h) fun h => HAP.out k h2 h)
                have H24 := Lib.hid hT3.swap
                clear hO2 hT2 hF2 hT3 d0 d1 d2 d3 d4 d5
                go_wp2_with fail
                go_roundg (gk - 1)
                case rel => exact ⟨k + 1, _, _, _, _, _, by omega, by go_num, H24⟩
                case measure => omega
              · obtain rfl : k = more.length := by omega
                go_wp2_with fail
                refine (dseize_any _ hA.out.1.1).mono ?_
                rintro e w20 ⟨za, zd, rfl, hza, hzd, hb20⟩
                have H20 := Lib.hid (And.intro (hA.out.on hb20) (And.intro hza hzd))
                clear hza hzd hb20
                go_wp2_with fail
                refine (dseize_any _ H20.out.1.2.1.1).mono ?_
                rintro e w21 ⟨ta, td, rfl, hta, htd, hb21⟩
                have H21 := Lib.hid (And.intro (H20.out.1.on hb21) (And.intro (H20.out.2.1.below hb21) (And.intro (H20.out.2.2.below hb21) (And.intro hta htd))))
                clear hta htd hb21
                have hbm : s.blocks.length ≤ maxLen := by have := hA.out.1.1.ok.blocks; unfold maxLen; omega
                have hcm : s.cache.length ≤ maxLen := by have := hA.out.1.1.ok.cache; unfold maxLen; omega
                have HMY := Lib.hid (And.intro hbm hcm)
                clear hbm hcm
                go_wp2_with fail
                refine (rsame_any _ _ _ _ s.blocks s.blocks s.cache s.cache w21 H21.out.2.1 H21.out.2.2.1 H21.out.2.2.2.1 H21.out.2.2.2.2 HMY.out.1 HMY.out.1 HMY.out.2 HMY.out.2).mono ?_
                rintro e w22 ⟨r, rfl, hr, hb22⟩
                obtain rfl := hr.2 ⟨rfl, rfl⟩
                have H22 := Lib.hid (H21.out.1.on hb22)
                clear hr hb22
                obtain ⟨p2, hp2⟩ : ∃ p2, s.down = p2 := ⟨_, rfl⟩
                have HP2 := Lib.hid hp2
                clear hp2
                go_wp2_with fail
                refine (ddown_any _ H22.out.1.1).mono ?_
                rintro e w23 ⟨rfl, rfl⟩
                rw [HP2.out]
                go_wp2_with fail
                refine (ddown_any _ H22.out.2.1.1).mono ?_
                rintro e w24 ⟨rfl, rfl⟩
                rw [HP2.out]
                go_wp2_with fail
                refine (alive_any _).mono ?_
                rintro e w25 ⟨rfl, hb25⟩
                have H25 := Lib.hid (H22.out.1.2.1.trans (hb25.mono H22.out.1.2.1.size))
                clear hb25
                go_wp2
                exact HR.out _ _ ⟨rfl, H25.out⟩
end Go.Proofs.Ytielmlnbjliacaa
