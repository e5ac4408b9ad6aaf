/- The law JournalWhole: what its walk gives. -/
import Derived.Test.YteppfjgglelpbaaGreatHLaw25b
import Derived.Test.YteppfjgglelpbaaGreatM13
import Derived.Test.YteppfjgglelpbaaGreatM14
set_option maxRecDepth 100000
namespace Go.Proofs.YteppfjgglelpbaaGreat
open Go.RowKit Ks
set_option linter.unusedVariables false
set_option linter.unusedSimpArgs false
section
variable {B : Nat} {w0 w w' : World} {jn sn dn : Nat} {vb vc vc' : Value} {j j' : JrnT} {d d' : DS}
/-- a disk that may be opened again, opened: either way -/
theorem odopen_er {s : SupT} {k : ByteArray} {A : List ByteArray} (h : OnD B w0 w dn vb vc d) (hr : Rests d s k A) : Calls Tryz.prog 10 #[.pointer (some ⟨dn, 0, none⟩)] w fun e w' =>
    ∃ (pv v : Value) (kk : ByteArray) (er : Int) (vc' : Value) (d' : DS), e = .returned (.tuple #[pv, v, .string kk, .int .i64 er]) ∧ OnD B w0 w' dn vb vc' d' ∧ Turn w w' (DF dn vb vc) (DF dn vb vc') ∧ ((er = 14 ∧ Kept (fun b => Tells b s k A) d') ∨ (er = 0 ∧ Rests d' s k A)) := by
  refine (odopen_any (fun _ => False) h hr (fun q h => h.elim)).mono ?_
  rintro e w' (⟨rfl, -, vc', d', -, q2, q3, q4⟩ | ⟨jn, sn, v, vc', d', rfl, q1, -, q2, -, q3⟩)
  · exact ⟨_, _, _, _, vc', d', rfl, q3, q4, Or.inl ⟨rfl, q2⟩⟩
  · exact ⟨_, _, _, _, vc', d', rfl, q2.dsk, q3.mono (df_fl jn sn), Or.inr ⟨rfl, q1.rests⟩⟩
/-- a journal told over a disk that was opened once more -/
theorem jsuper_old {jn2 sn2 : Nat} (h : OnJ B w0 w jn sn dn vb vc j) (h2 : OnJ B w0 w' jn2 sn2 dn vb vc' j) (ht : Turn w w' (DF dn vb vc) (FL jn2 sn2 dn vb vc')) : JHd w' jn (.pointer (some ⟨sn, 0, none⟩)) dn vb vc' j.last j.broken j.d := by
  have hlt := lt_of_block h.jl.hd.blk
  refine ⟨(ht.block jn hlt h.jl.hd.ne).trans h.jl.hd.blk, h2.jl.hd.dsk, fun q => ?_⟩
  rcases ht.foot jn (Or.inr (Or.inr q)) with q | q
  · exact h.jl.hd.ne q
  · omega
/-- what is behind a script: two states are known, one of which the disk tells, whatever is kept -/
structure Behind (B : Nat) (w0 w : World) (dn : Nat) (vb vc : Value) (d : DS) (P Q : Nat) (va vn : Value) (A A2 : List ByteArray) (ep ck ep2 ck2 : Int) : Prop where
  od : OnD B w0 w dn vb vc d
  p : BlkO w (DF dn vb vc) P (.cells #[va, .int .i64 ep, .int .i64 ck] 62 (0, 0))
  q : BlkO w (DF dn vb vc) Q (.cells #[vn, .int .i64 ep2, .int .i64 ck2] 62 (0, 0))
  ra : RdO w (DF dn vb vc) va A
  rn : RdO w (DF dn vb vc) vn A2
  z : A.length ≤ 1100 ∧ A2.length ≤ 1100
section
variable {P Q : Nat} {va vn : Value} {A A2 : List ByteArray} {ep ck ep2 ck2 : Int}
theorem Behind.on (h : Behind B w0 w dn vb vc d P Q va vn A A2 ep ck ep2 ck2) (h1 : OnD B w0 w' dn vb vc' d') (ht : Turn w w' (DF dn vb vc) (DF dn vb vc')) : Behind B w0 w' dn vb vc' d' P Q va vn A A2 ep ck ep2 ck2 :=
  ⟨h1, h.p.turn ht, h.q.turn ht, h.ra.turn ht, h.rn.turn ht, h.z⟩
end
end
/-- worlds of the last region: what was seized in it -/
def SzC (W : World) (A : List ByteArray) (fz : Option Value) (y : World) : Prop := Below W.heap.size W y ∧ ∀ v, fz = some v → ∃ va vd, v = .agg #[va, vd] ∧ Rd strE y va A ∧ Rd pwE y vd []
theorem SzC.on {W y y' : World} {A : List ByteArray} {fz : Option Value} (h : SzC W A fz y) (hb : Below y.heap.size y y') : SzC W A fz y' := ⟨h.1.trans (hb.mono h.1.size), fun v hv => by
  obtain ⟨va, vd, q1, q2, q3⟩ := h.2 v hv
  exact ⟨va, vd, q1, q2.below hb, q3.below hb⟩⟩
theorem eg25_texts : ∀ args w, (callFunc 29 args).run Tryz.prog w = .ok (.enter 29 args) w := fun _ _ => rfl
theorem eg25_super : ∀ args w, (callFunc 14 args).run Tryz.prog w = .ok (.enter 14 args) w := fun _ _ => rfl
theorem eg25_seize : ∀ args w, (callFunc 23 args).run Tryz.prog w = .ok (.enter 23 args) w := fun _ _ => rfl
theorem eg25_same : ∀ args w, (callFunc 30 args).run Tryz.prog w = .ok (.enter 30 args) w := fun _ _ => rfl
theorem eg25_alive : ∀ args w, (callFunc 6 args).run Tryz.prog w = .ok (.enter 6 args) w := fun _ _ => rfl
/-- in the midst of a script -/
structure Amid (B : Nat) (w0 w : World) (jn sn dn : Nat) (vb vc : Value) (j : JrnT) (P Q : Nat) (va vl : Value) (A L : List ByteArray) (m : Nat) : Prop where
  oj : OnJ B w0 w jn sn dn vb vc j
  lv : Lives j lawK A L m
  p : BlkO w (FL jn sn dn vb vc) P (.cells #[va, .int .i64 j.last.epoch, .int .i64 j.last.clock] 62 (0, 0))
  q : BlkO w (FL jn sn dn vb vc) Q (.cells #[va, .int .i64 j.last.epoch, .int .i64 j.last.clock] 62 (0, 0))
  ra : RdO w (FG (FL jn sn dn vb vc) (fun k => k = P ∨ k = Q)) va A
  rl : RdO w (FG (FL jn sn dn vb vc) (fun k => k = P ∨ k = Q)) vl L
section
variable {B : Nat} {w0 w w' : World} {jn sn dn : Nat} {vb vc vc' : Value} {j : JrnT} {P Q : Nat} {va vl : Value} {A L : List ByteArray} {m : Nat}
theorem Amid.below (h : Amid B w0 w jn sn dn vb vc j P Q va vl A L m) (hb : Below w.heap.size w w') : Amid B w0 w' jn sn dn vb vc j P Q va vl A L m :=
  ⟨h.oj.below hb, h.lv, h.p.below hb, h.q.below hb, h.ra.below hb, h.rl.below hb⟩
theorem RdO.set {F : Nat → Prop} {v : Value} {l : List ByteArray} (h : RdO w F v l) {b : Nat} (hb : F b) (C : Array Value) : RdO (w.setRow b C) F v l := h.turn (Turn.row w b C hb)
theorem BlkO.set {F : Nat → Prop} {b b2 : Nat} {ob : Obj} (h : BlkO w F b ob) (hb : b ≠ b2) (C : Array Value) : BlkO (w.setRow b2 C) F b ob := ⟨(setRow_other _ _ _ _ hb).trans h.blk, h.off⟩
theorem BlkO.self {F : Nat → Prop} {b : Nat} {E : Array Value} {T : TypeId} (h : BlkO w F b (.cells E T (0, 0))) (C : Array Value) : BlkO (w.setRow b C) F b (.cells C T (0, 0)) := ⟨setRow_heap _ _ _ _ _ _ h.blk, h.off⟩
theorem sum_le {j : JrnT} {k : ByteArray} {A L : List ByteArray} {m : Nat} (h : Lives j k A L m) : A.length ≤ 1100 ∧ L.length ≤ 1100 := by have := sok h.tells.ok; have := h.le; omega
theorem told_le {ep ck : Int} {k : ByteArray} {A b : List ByteArray} (h : TellsIn ep ck k A b) : A.length ≤ 1100 := by obtain ⟨s, q, -, -⟩ := h; have := sok q.ok; have := q.tail; omega
end
set_option maxRecDepth 100000 in
set_option maxHeartbeats 16000000 in
theorem law_jwhole (lv : Value) (l : List StepT) (n again : Int) (kv : Value) (keep : List Int) (w : World) (hl : Rd stpE3 w lv l) (hlG : ∀ x ∈ l, StepG x) (hn : -9223372036854775808 ≤ n ∧ n ≤ 9223372036854775807) (ha : -9223372036854775808 ≤ again ∧ again ≤ 9223372036854775807) (hkv : RdI w kv keep) (hkl : keep.length ≤ maxLen) :
    Calls Tryz.prog 5 #[lv, .int .i64 n, .int .i64 again, kv] w fun e w' => e = .returned (.bool true) ∧ Below w.heap.size w w' := by
  unfold maxLen at hkl
  refine calls_by fun R HR => ?_
  have HK := Lib.hid (And.intro hkv hkl)
  have hk9 := hkv
  obtain ⟨ak, ck9, rfl, -⟩ := hk9
  have HLL := Lib.hid (And.intro hl hlG)
  obtain ⟨la, lc, rfl, -⟩ := hl.shape
  have HN := Lib.hid (And.intro hn ha)
  clear hkv hkl hn ha hl hlG
  go_enter Tryz.func5, Tryz.ntmps5
  go_wp2_with fail
  refine (short_any _ _ w HLL.out.1).mono ?_
  rintro en v0 ⟨bs, rfl, hbs, hb⟩
  have H0 := Lib.hid hb
  clear hb
  cases bs with
  | false =>
    clear hbs
    go_wp2_with fail
    refine (alive25_any _).mono ?_
    rintro en v5 ⟨rfl, hb⟩
    have B5 := Lib.hid (H0.out.trans (hb.mono H0.out.size))
    clear hb
    go_wp2
    exact HR.out _ _ ⟨rfl, B5.out⟩
  | true =>
    have HC0 := Lib.hid (hbs rfl)
    clear hbs
    by_cases c1 : 1 ≤ n
    case neg =>
      have f1 : n < 1 := by omega
      clear c1
      go_wp2_with fail
      refine (alive25_any _).mono ?_
      rintro en v5 ⟨rfl, hb⟩
      have B5 := Lib.hid (H0.out.trans (hb.mono H0.out.size))
      clear hb
      go_wp2
      exact HR.out _ _ ⟨rfl, B5.out⟩
    have f1 : ¬ n < 1 := by omega
    have HC1 := Lib.hid c1
    clear c1
    by_cases c2 : n ≤ 400
    case neg =>
      have f2 : 400 < n := by omega
      clear c2
      go_wp2_with fail
      refine (alive25_any _).mono ?_
      rintro en v5 ⟨rfl, hb⟩
      have B5 := Lib.hid (H0.out.trans (hb.mono H0.out.size))
      clear hb
      go_wp2
      exact HR.out _ _ ⟨rfl, B5.out⟩
    have f2 : ¬ 400 < n := by omega
    have HC2 := Lib.hid c2
    clear c2
    by_cases c3 : keep.length ≤ 200
    case neg =>
      have f3 : (200 : Int) < (keep.length : Int) := by omega
      clear c3
      go_wp2_with fail
      refine (alive25_any _).mono ?_
      rintro en v5 ⟨rfl, hb⟩
      have B5 := Lib.hid (H0.out.trans (hb.mono H0.out.size))
      clear hb
      go_wp2
      exact HR.out _ _ ⟨rfl, B5.out⟩
    have f3 : ¬ (200 : Int) < (keep.length : Int) := by omega
    have HC3 := Lib.hid c3
    clear c3
    by_cases c4 : 0 ≤ again
    case neg =>
      have f4 : again < 0 := by omega
      clear c4
      go_wp2_with fail
      refine (alive25_any _).mono ?_
      rintro en v5 ⟨rfl, hb⟩
      have B5 := Lib.hid (H0.out.trans (hb.mono H0.out.size))
      clear hb
      go_wp2
      exact HR.out _ _ ⟨rfl, B5.out⟩
    have f4 : ¬ again < 0 := by omega
    have HC4 := Lib.hid c4
    clear c4
    have HNw : Hid (∀ A : World, Below w.heap.size w A → Calls Tryz.prog 18 #[.int .i64 24] A fun e w' => ∃ dn vb, e = .returned (.tuple #[.pointer (some ⟨dn, 0, none⟩), .int .i64 0]) ∧ OnD w.heap.size w w' dn vb (.slice none 0 0) (newD 24) ∧ Below A.heap.size A w' ∧ ∀ k, DF dn vb (.slice none 0 0) k → A.heap.size ≤ k) :=
      Lib.hid fun A h => odnew_any 24 w A w.heap.size h h.size (by decide) (by decide)
    go_wp2_with fail
    refine (HNw.out _ H0.out).mono ?_
    rintro en v1 ⟨dn, vb, rfl, h1, -, -⟩
    have HF : Hid (Calls Tryz.prog 17 #[.pointer (some ⟨dn, 0, none⟩), geoV 24 1 0, .string lawK] v1 fun e w' => e = .returned (.int .i64 0) ∧ ∃ vc' d', OnD w.heap.size w w' dn vb vc' d' ∧ Turn v1 w' (DF dn vb (.slice none 0 0)) (DF dn vb vc') ∧ Ks.Clean d' (formS 24 1 0) lawK [] ∧ d'.left = 0) :=
      Lib.hid (odformat_any 24 1 lawK h1 (by decide) lawK_size)
    clear h1 HNw f1 f2 f3 f4
    go_wp2_with fail
    refine HF.out.mono ?_
    rintro en v2 ⟨rfl, vc, d, h2, -, hc, hl0⟩
    have HO : Hid (Calls Tryz.prog 10 #[.pointer (some ⟨dn, 0, none⟩)] v2 fun e w' => ∃ jn sn v vc', e = .returned (.tuple #[.pointer (some ⟨jn, 0, none⟩), v, .string lawK, .int .i64 0]) ∧ OnJ w.heap.size w w' jn sn dn vb vc' ⟨d, formS 24 1 0, 0, false⟩ ∧ RdO w' (FG (FL jn sn dn vb vc') (fun _ => False)) v [] ∧ Turn v2 w' (DF dn vb vc) (FL jn sn dn vb vc')) := Lib.hid (odopen_clean (fun _ => False) h2 hc (fun q h => h.elim))
    have HC := Lib.hid hc
    clear h2 hc HF hl0
    go_wp2_with fail
    refine HO.out.mono ?_
    rintro en v3 ⟨jn, sn, v, vc3, rfl, h3, -, -⟩
    have HAr : Hid (Calls Tryz.prog 19 #[.pointer (some ⟨dn, 0, none⟩), .int .i64 n] v3 fun e w' => e = .returned (.int .i64 0) ∧ OnJ w.heap.size w w' jn sn dn vb vc3 ⟨{ d with left := n.toNat }, formS 24 1 0, 0, false⟩) := Lib.hid ((ojarm_any n h3 HN.out.1.2).mono (by
        rintro e w' ⟨q1, q2, -⟩
        have q3 := arm_cases d n HC.out.rests.up (by have := HC1.out; omega)
        refine ⟨by rw [q1]; show Ending.returned (.int .i64 (armE d n)) = _; rw [q3.1], ?_⟩
        have q4 : OnJ w.heap.size w w' jn sn dn vb vc3 ⟨armD d n, formS 24 1 0, 0, false⟩ := q2
        rw [q3.2] at q4
        exact q4))
    clear h3 HO
    go_wp2_with fail
    refine HAr.out.mono ?_
    rintro en v4 ⟨rfl, h4⟩
    have H4 := Lib.hid h4
    clear h4 HAr
    have HL : Hid (Lives ⟨{ d with left := n.toNat }, formS 24 1 0, 0, false⟩ lawK [] [] 0) := Lib.hid ((clean_lives HC.out).left n.toNat)
    clear HC
    obtain ⟨W1, hW1⟩ : ∃ W, v4.alloc (.cells #[.slice none 0 0, .int .i64 0, .int .i64 0] 62) = W := ⟨_, rfl⟩
    obtain ⟨W2, hW2⟩ : ∃ W, W1.alloc (.cells #[.slice none 0 0, .int .i64 0, .int .i64 0] 62) = W := ⟨_, rfl⟩
    have HA : Hid (Amid w.heap.size w W2 jn sn dn vb vc3 ⟨{ d with left := n.toNat }, formS 24 1 0, 0, false⟩ v4.heap.size W1.heap.size (.slice none 0 0) (.slice none 0 0) [] [] 0) := Lib.hid (by
      have b1 : Below v4.heap.size v4 W1 := by rw [← hW1]; exact alloc_below _ _
      have b2 : Below W1.heap.size W1 W2 := by rw [← hW2]; exact alloc_below _ _
      have n1 := BlkO.new v4 (FL jn sn dn vb vc3) H4.out.lt #[.slice none 0 0, .int .i64 0, .int .i64 0] 62
      have o1 := H4.out.below b1
      have n2 := BlkO.new W1 (FL jn sn dn vb vc3) o1.lt #[.slice none 0 0, .int .i64 0, .int .i64 0] 62
      rw [hW1] at n1
      rw [hW2] at n2
      exact ⟨o1.below b2, HL.out, n1.below b2, n2, RdO.nil _ _, RdO.nil _ _⟩)
    have HPQ : Hid (v4.heap.size ≠ W1.heap.size ∧ w.heap.size ≤ v4.heap.size ∧ w.heap.size ≤ W1.heap.size) := Lib.hid ⟨by rw [← hW1]; simp, H4.out.hB, by rw [← hW1]; have := H4.out.hB; simp; omega⟩
    skip
    go_upto_block 0 with fail
    go_cut [17] (fun s17 wx => ∃ vc d va vn A A2 ep ck ep2 ck2, Hid (Behind w.heap.size w wx dn vb vc d v4.heap.size W1.heap.size va vn A A2 ep ck ep2 ck2 ∧ Kept (fun b => TellsIn ep ck lawK A b ∨ TellsIn ep2 ck2 lawK A2 b) d))
    case first =>
      clear hW1 hW2
      go_wp2_with fail
      go_loopw [17, 78] (fun s17 s78 wx => ∃ (k : Nat) (vc : Value) (j : JrnT) (va vl : Value) (A L : List ByteArray), k ≤ l.length ∧ s17 = vl ∧ s78 = .int .i64 (k : Int) ∧ Hid (Amid w.heap.size w wx jn sn dn vb vc j v4.heap.size W1.heap.size va vl A L k)) (fun _ i _ => l.length - (intOf i).toNat)
      case atStart => exact ⟨0, vc3, _, _, _, _, _, Nat.zero_le _, rfl, rfl, HA⟩
      case round =>
        obtain ⟨k, vc, j, va, vl, A, L, hk, rfl, rfl, hN⟩ := hrel
        have hHPQ := HPQ.out
        by_cases hlt : k < l.length
        case neg =>
          obtain rfl : k = l.length := by omega
          have hki : ¬ (l.length : Int) < (l.length : Int) := by omega
          have HX := Lib.hid hN.out
          clear hN
          go_wp2
          go_meet
          case rel => exact ⟨_, _, _, _, _, _, _, _, _, _, Lib.hid ⟨⟨HX.out.oj.dsk, HX.out.p.less (df_fl jn sn), HX.out.q.less (df_fl jn sn), HX.out.ra.less (fun k q => Or.inl (df_fl jn sn k q)), HX.out.ra.less (fun k q => Or.inl (df_fl jn sn k q)), ⟨(sum_le HX.out.lv).1, (sum_le HX.out.lv).1⟩⟩, (HX.out.lv.kept rfl rfl).mono fun b q => Or.inl q⟩⟩
        have hki : (k : Int) < (l.length : Int) := by omega
        have HLT := Lib.hid hlt
        obtain ⟨x, hx⟩ : ∃ x, l[k]? = some x := ⟨_, List.getElem?_eq_getElem hlt⟩
        have HG := Lib.hid (HLL.out.2 x (List.mem_of_getElem? hx))
        obtain ⟨b, o, ha, hb0, dd⟩ := (HLL.out.1.below hN.out.oj.b).at k x hx
        cases ha
        obtain ⟨kd, n', tx⟩ := x
        have d0 : wr.cell? ⟨b, o + k * 3, none⟩ = some (.int .i64 kd) := dd 0 _ rfl
        have d1 : wr.cell? ⟨b, o + k * 3 + 1, none⟩ = some (.int .i64 n') := dd 1 _ rfl
        have d2 : wr.cell? ⟨b, o + k * 3 + 2, none⟩ = some (.string tx) := dd 2 _ rfl
        clear dd hx hb0 hlt
        obtain ⟨aa, ca, rfl, -⟩ := hN.out.ra.rd.shape
        obtain ⟨al, cl, rfl, -⟩ := hN.out.rl.rd.shape
        obtain ⟨W9, hW9⟩ : ∃ W, wr.alloc (.cells #[.int .i64 kd, .int .i64 n', .string tx] 64) = W := ⟨_, rfl⟩
        have bW : Below wr.heap.size wr W9 := by rw [← hW9]; exact alloc_below _ _
        have kW : W9.heap[wr.heap.size]? = some (.cells #[.int .i64 kd, .int .i64 n', .string tx] 64 (0, 0)) := by rw [← hW9]; exact alloc_new _ _
        have H9 := Lib.hid (hN.out.below bW)
        clear bW hN
        have HPl := Lib.hid (play_any H9.out.oj H9.out.lv (by have := HC0.out; have := HLT.out; omega) (fun k => k = v4.heap.size ∨ k = W1.heap.size) (fun q h => by rcases h with rfl | rfl; (exact lt_of_block H9.out.p.blk); (exact lt_of_block H9.out.q.blk)) _ _ H9.out.ra H9.out.rl ⟨kd, n', tx⟩ HG.out)
        obtain ⟨p0, p1, p2, -, -, -⟩ := blk3 H9.out.p.blk
        obtain ⟨y0, y1, y2, -, -, -⟩ := blk3 kW
        clear kW
        go_wp2_with fail
        refine HPl.out.mono ?_
        rintro en u1 ⟨v2, vm, ep2, ck2, er, A2, L2, j2, vc2, rfl, hD, hj, h2, hm, ht, hz2⟩
        have HPP := H9.out.p.turn ht
        have HQQ := H9.out.q.turn ht
        have HRA := H9.out.ra.turn (turn_more (fun k => k = v4.heap.size ∨ k = W1.heap.size) ht)
        have HRL := H9.out.rl.turn (turn_more (fun k => k = v4.heap.size ∨ k = W1.heap.size) ht)
        have URL := Lib.hid HRL
        have U1 := Lib.hid (And.intro hj (And.intro HPP (And.intro HQQ (And.intro HRA (And.intro h2 hm)))))
        have HD := Lib.hid hD
        have HZ2 := Lib.hid hz2
        clear hz2 hj HPP HQQ HRA HRL h2 hm ht hD HPl hW9 p0 p1 p2 y0 y1 y2 d0 d1 d2
        obtain ⟨a2, c2, rfl, -⟩ := U1.out.2.2.2.2.1.rd.shape
        obtain ⟨W10, hW10⟩ : ∃ W, u1.alloc (.cells #[.slice a2 A2.length c2, .int .i64 ep2, .int .i64 ck2] 62) = W := ⟨_, rfl⟩
        have bW : Below u1.heap.size u1 W10 := by rw [← hW10]; exact alloc_below _ _
        have kW : W10.heap[u1.heap.size]? = some (.cells #[.slice a2 A2.length c2, .int .i64 ep2, .int .i64 ck2] 62 (0, 0)) := by rw [← hW10]; exact alloc_new _ _
        have hp9 := lt_of_block U1.out.2.1.blk
        have hq9 := lt_of_block U1.out.2.2.1.blk
        obtain ⟨W11, hW11⟩ : ∃ W, W10.setRow W1.heap.size #[.slice a2 A2.length c2, .int .i64 ep2, .int .i64 ck2] = W := ⟨_, rfl⟩
        have U2 : Hid (OnJ w.heap.size w W11 jn sn dn vb vc2 j2 ∧ BlkO W11 (FL jn sn dn vb vc2) v4.heap.size (.cells #[.slice aa A.length ca, .int .i64 j.last.epoch, .int .i64 j.last.clock] 62 (0, 0)) ∧ BlkO W11 (FL jn sn dn vb vc2) W1.heap.size (.cells #[.slice a2 A2.length c2, .int .i64 ep2, .int .i64 ck2] 62 (0, 0)) ∧ RdO W11 (FG (FL jn sn dn vb vc2) (fun k => k = v4.heap.size ∨ k = W1.heap.size)) (.slice aa A.length ca) A ∧ RdO W11 (FG (FL jn sn dn vb vc2) (fun k => k = v4.heap.size ∨ k = W1.heap.size)) (.slice a2 A2.length c2) A2 ∧ (er = 0 → RdO W11 (FG (FL jn sn dn vb vc2) (fun k => k = v4.heap.size ∨ k = W1.heap.size)) vm L2) ∧ W11.heap[u1.heap.size]? = some (.cells #[.slice a2 A2.length c2, .int .i64 ep2, .int .i64 ck2] 62 (0, 0))) := Lib.hid (by
          rw [← hW11]
          exact ⟨onj_row (U1.out.1.below bW) U1.out.2.2.1.off hHPQ.2.2 _, (U1.out.2.1.below bW).set hHPQ.1 _, (U1.out.2.2.1.below bW).self _, (U1.out.2.2.2.1.below bW).set (Or.inr (Or.inr rfl)) _, (U1.out.2.2.2.2.1.below bW).set (Or.inr (Or.inr rfl)) _, fun q => (U1.out.2.2.2.2.2 q |>.below bW).set (Or.inr (Or.inr rfl)) _, (setRow_other _ _ _ _ (by omega)).trans kW⟩)
        have URL2 : Hid (RdO W11 (FG (FL jn sn dn vb vc2) (fun k => k = v4.heap.size ∨ k = W1.heap.size)) (.slice al L.length cl) L) := Lib.hid (by rw [← hW11]; exact (URL.out.below bW).set (Or.inr (Or.inr rfl)) _)
        have HQ10 := Lib.hid (U1.out.2.2.1.below bW).blk
        have HT := Lib.hid (And.intro hp9 hq9)
        obtain ⟨x0, x1, x2, -, -, -⟩ := blk3 kW
        have EW10 := Lib.hid hW10
        clear hW10 bW kW hp9 hq9
        go_upto_region 16 with fail
        try rw [EW10.out]
        go_wp2_with (refine wpList_store_blk rfl 62 (.tmp 16) (.tmp 91) rfl W1.heap.size 0 3 rfl #[.slice aa A.length ca, .int .i64 j.last.epoch, .int .i64 j.last.clock] #[.slice a2 A2.length c2, .int .i64 ep2, .int .i64 ck2] #[.slice a2 A2.length c2, .int .i64 ep2, .int .i64 ck2] rfl 62 HQ10.out rfl (Nat.le_refl 3) (by kernel_rfl) (st_one _ _ _ _ _) (splice_all _ _ rfl) ?_; rw [hW11])
        have hw64 : wrap64 ((k : Int) + 1) = ((k + 1 : Nat) : Int) := by have := HC0.out; have := HLT.out; unfold wrap64; omega
        clear hW11 x0 x1 x2 EW10
        have HDo := Lib.hid (ojdown_any U2.out.1)
        rcases HD.out with ⟨g1, g2, g3⟩ | ⟨g1, g2⟩ | ⟨g1, g2, g3⟩
        · rw [g1] at HDo
          have HKp := Lib.hid g3
          clear g1 g2 g3
          go_wp2_with fail
          refine HDo.out.mono ?_
          rintro en y9 ⟨rfl, hw⟩
          rw [hw]
          clear hw y9
          go_wp2
          go_meet
          case rel => exact ⟨_, _, _, _, _, _, _, _, _, _, Lib.hid ⟨⟨U2.out.1.dsk, U2.out.2.1.less (df_fl jn sn), U2.out.2.2.1.less (df_fl jn sn), U2.out.2.2.2.1.less (fun k q => Or.inl (df_fl jn sn k q)), U2.out.2.2.2.2.1.less (fun k q => Or.inl (df_fl jn sn k q)), ⟨(sum_le H9.out.lv).1, HZ2.out⟩⟩, HKp.out⟩⟩
        · subst g2
          have heb : (er == 0) = false := by simpa using g1
          have hup := H9.out.lv.up
          rw [hup] at HDo
          clear g1 hup
          go_wp2_with fail
          refine HDo.out.mono ?_
          rintro en y9 ⟨rfl, hw⟩
          rw [hw]
          clear hw y9
          obtain ⟨x0, x1, x2, -, -, -⟩ := blk3 U2.out.2.1.blk
          obtain ⟨W12, hW12⟩ : ∃ W, W11.setRow W1.heap.size #[.slice aa A.length ca, .int .i64 j2.last.epoch, .int .i64 j2.last.clock] = W := ⟨_, rfl⟩
          go_wp2_with (refine wpList_store_blk rfl 62 (.tmp 16) (.tmp 98) rfl W1.heap.size 0 3 rfl #[.slice a2 A2.length c2, .int .i64 ep2, .int .i64 ck2] #[.slice aa A.length ca, .int .i64 j2.last.epoch, .int .i64 j2.last.clock] #[.slice aa A.length ca, .int .i64 j2.last.epoch, .int .i64 j2.last.clock] rfl 62 U2.out.2.2.1.blk rfl (Nat.le_refl 3) (by kernel_rfl) (st_one _ _ _ _ _) (splice_all _ _ rfl) ?_; rw [hW12])
          have HZ : Hid (Amid w.heap.size w W12 jn sn dn vb vc2 j2 v4.heap.size W1.heap.size (.slice aa A.length ca) (.slice al L.length cl) A L (k + 1)) := Lib.hid (by
            rw [← hW12]
            have lv := H9.out.lv
            exact ⟨onj_row U2.out.1 U2.out.2.2.1.off hHPQ.2.2 _, ⟨lv.br, lv.up, lv.tells, lv.cache, by have := lv.few; omega, lv.used, lv.le, lv.shown⟩, U2.out.2.1.set hHPQ.1 _, U2.out.2.2.1.self _, U2.out.2.2.2.1.set (Or.inr (Or.inr rfl)) _, URL2.out.set (Or.inr (Or.inr rfl)) _⟩)
          go_roundw
          case rel => exact ⟨k + 1, _, _, _, _, _, _, by have := HLT.out; omega, rfl, by first | rw [hw64] | go_num, HZ⟩
          case measure => have := HLT.out; first | (rw [hw64]; simp [intOf]; omega) | (simp [intOf]; omega)
        · subst g1
          have hup := g2.up
          rw [hup] at HDo
          have HLv := Lib.hid (And.intro g2 g3)
          clear g2 g3 hup
          go_wp2_with fail
          refine HDo.out.mono ?_
          rintro en y9 ⟨rfl, hw⟩
          rw [hw]
          clear hw y9
          obtain ⟨x0, x1, x2, -, -, -⟩ := blk3 U2.out.2.2.2.2.2.2
          obtain ⟨W12, hW12⟩ : ∃ W, W11.setRow v4.heap.size #[.slice a2 A2.length c2, .int .i64 ep2, .int .i64 ck2] = W := ⟨_, rfl⟩
          have U3 : Hid (OnJ w.heap.size w W12 jn sn dn vb vc2 j2 ∧ BlkO W12 (FL jn sn dn vb vc2) v4.heap.size (.cells #[.slice a2 A2.length c2, .int .i64 ep2, .int .i64 ck2] 62 (0, 0)) ∧ BlkO W12 (FL jn sn dn vb vc2) W1.heap.size (.cells #[.slice a2 A2.length c2, .int .i64 ep2, .int .i64 ck2] 62 (0, 0)) ∧ RdO W12 (FG (FL jn sn dn vb vc2) (fun k => k = v4.heap.size ∨ k = W1.heap.size)) (.slice a2 A2.length c2) A2 ∧ RdO W12 (FG (FL jn sn dn vb vc2) (fun k => k = v4.heap.size ∨ k = W1.heap.size)) vm L2) := Lib.hid (by
            rw [← hW12]
            exact ⟨onj_row U2.out.1 U2.out.2.1.off hHPQ.2.1 _, U2.out.2.1.self _, U2.out.2.2.1.set hHPQ.1.symm _, U2.out.2.2.2.2.1.set (Or.inr (Or.inl rfl)) _, (U2.out.2.2.2.2.2.1 (by trivial)).set (Or.inr (Or.inl rfl)) _⟩)
          obtain ⟨y0, y1, y2, -, -, -⟩ := blk3 U3.out.2.1.blk
          obtain ⟨W13, hW13⟩ : ∃ W, W12.setRow W1.heap.size #[.slice a2 A2.length c2, .int .i64 ep2, .int .i64 ck2] = W := ⟨_, rfl⟩
          go_wp2_with (first | (refine wpList_store_blk rfl 62 (.tmp 15) (.tmp 96) rfl v4.heap.size 0 3 rfl #[.slice aa A.length ca, .int .i64 j.last.epoch, .int .i64 j.last.clock] #[.slice a2 A2.length c2, .int .i64 ep2, .int .i64 ck2] #[.slice a2 A2.length c2, .int .i64 ep2, .int .i64 ck2] rfl 62 U2.out.2.1.blk rfl (Nat.le_refl 3) (by kernel_rfl) (st_one _ _ _ _ _) (splice_all _ _ rfl) ?_; rw [hW12]) | (refine wpList_store_blk rfl 62 (.tmp 16) (.tmp 98) rfl W1.heap.size 0 3 rfl #[.slice a2 A2.length c2, .int .i64 ep2, .int .i64 ck2] #[.slice a2 A2.length c2, .int .i64 ep2, .int .i64 ck2] #[.slice a2 A2.length c2, .int .i64 ep2, .int .i64 ck2] rfl 62 U3.out.2.2.1.blk rfl (Nat.le_refl 3) (by kernel_rfl) (st_one _ _ _ _ _) (splice_all _ _ rfl) ?_; rw [hW13]))
          clear x0 x1 x2 hW12
          have HZ : Hid (Amid w.heap.size w W13 jn sn dn vb vc2 j2 v4.heap.size W1.heap.size (.slice a2 A2.length c2) vm A2 L2 (k + 1)) := Lib.hid (by
            rw [← hW13]
            obtain ⟨e1, e2, -⟩ := HLv.out.2
            have q1 := U3.out.2.1.set hHPQ.1 #[.slice a2 A2.length c2, .int .i64 ep2, .int .i64 ck2]
            have q2 := U3.out.2.2.1.self #[.slice a2 A2.length c2, .int .i64 ep2, .int .i64 ck2]
            rw [← e1, ← e2] at q1 q2 ⊢
            exact ⟨onj_row U3.out.1 U3.out.2.2.1.off hHPQ.2.2 _, HLv.out.1, q1, q2, U3.out.2.2.2.1.set (Or.inr (Or.inr rfl)) _, U3.out.2.2.2.2.set (Or.inr (Or.inr rfl)) _⟩)
          go_roundw
          case rel => exact ⟨k + 1, _, _, _, _, _, _, by have := HLT.out; omega, rfl, by first | rw [hw64] | go_num, HZ⟩
          case measure => have := HLT.out; first | (rw [hw64]; simp [intOf]; omega) | (simp [intOf]; omega)
    case rest =>
      obtain ⟨vc, d, va, vn, A, A2, ep, ck, ep2, ck2, hN⟩ := hcut
      have H1 := Lib.hid hN.out
      have H1 := Lib.hid hN.out
      clear hN HA hW1 hW2
      have HCr := Lib.hid (odcrash_any (.slice ak keep.length ck9) keep H1.out.1.od (HK.out.1.below H1.out.1.od.b) (by have := HK.out.2; omega))
      go_wp2_with fail
      refine HCr.out.mono ?_
      rintro en y1 ⟨rfl, vd1, g1, g2⟩
      have K1 := Lib.hid (H1.out.1.on g1 g2)
      clear g1 g2 HCr
      have HBo := Lib.hid (odboot_any K1.out.od)
      go_wp2_with fail
      refine HBo.out.mono ?_
      rintro en z1 ⟨rfl, ve1, g1, g2⟩
      have L1 := Lib.hid (K1.out.on g1 g2)
      clear g1 g2 HBo K1
      obtain ⟨s, As, hr, hsel⟩ : ∃ s As, Rests (bootD (crashD d keep)) s lawK As ∧ ((As = A ∧ s.epoch = ep ∧ s.clock = ck) ∨ (As = A2 ∧ s.epoch = ep2 ∧ s.clock = ck2)) := by
        rcases kept_crash H1.out.2 keep with ⟨s, q1, q2, q3⟩ | ⟨s, q1, q2, q3⟩
        · exact ⟨s, _, ⟨rfl, rfl, q1⟩, Or.inl ⟨rfl, q2, q3⟩⟩
        · exact ⟨s, _, ⟨rfl, rfl, q1⟩, Or.inr ⟨rfl, q2, q3⟩⟩
      have HSel := Lib.hid hsel
      have HRe := Lib.hid hr
      clear hsel hr H1
      generalize bootD (crashD d keep) = d2 at *
      have HAr : Hid (Calls Tryz.prog 19 #[.pointer (some ⟨dn, 0, none⟩), .int .i64 again] _ fun e w' => e = .returned (.int .i64 0) ∧ Behind w.heap.size w w' dn vb _ { d2 with left := (again : Int).toNat } v4.heap.size W1.heap.size va vn A A2 ep ck ep2 ck2) := Lib.hid ((odarm_any again L1.out.od HN.out.2.2).mono (by
        rintro e w' ⟨q1, q2, q4⟩
        have q3 := arm_cases d2 again HRe.out.up HC4.out
        refine ⟨by rw [q1, q3.1], ?_⟩
        rw [q3.2] at q2
        exact L1.out.on q2 q4))
      go_wp2_with fail
      refine HAr.out.mono ?_
      rintro en y2 ⟨rfl, g1⟩
      have K2 := Lib.hid (And.intro g1 (HRe.out.left (again : Int).toNat))
      clear g1 HAr
      have HOp := Lib.hid (odopen_er K2.out.1.od K2.out.2)
      go_wp2_with fail
      refine HOp.out.mono ?_
      rintro en y3 ⟨pv, v3, kk, er, vc4, d4, rfl, g1, g2, g3⟩
      have K3 := Lib.hid (And.intro (K2.out.1.on g1 g2) g3)
      clear g1 g2 g3 HOp HRe L1
      go_upto_if 116 with fail
      go_cut [] (fun wx => ∃ vc5 d5, Hid (Behind w.heap.size w wx dn vb vc5 d5 v4.heap.size W1.heap.size va vn A A2 ep ck ep2 ck2 ∧ Rests d5 s lawK As))
      case first =>
        rcases K3.out.2 with ⟨rfl, hk⟩ | ⟨rfl, hk⟩
        · have HK9 := Lib.hid hk
          clear hk
          have HCr := Lib.hid (odcrash_any (.slice ak keep.length ck9) keep K3.out.1.od (HK.out.1.below K3.out.1.od.b) (by have := HK.out.2; omega))
          go_wp2_with fail
          refine HCr.out.mono ?_
          rintro en y4 ⟨rfl, vd4, g1, g2⟩
          have K4 := Lib.hid (K3.out.1.on g1 g2)
          clear g1 g2 HCr
          have HBo := Lib.hid (odboot_any K4.out.od)
          go_wp2_with fail
          refine HBo.out.mono ?_
          rintro en z4 ⟨rfl, ve4, g1, g2⟩
          have L4 := Lib.hid (K4.out.on g1 g2)
          clear g1 g2 HBo K4
          go_wp2
          go_meet
          case rel => exact ⟨_, _, Lib.hid ⟨L4.out, ⟨rfl, rfl, kept_crash HK9.out keep⟩⟩⟩
        · have HK9 := Lib.hid hk
          clear hk
          go_wp2
          go_meet
          case rel => exact ⟨_, _, Lib.hid ⟨K3.out.1, HK9.out⟩⟩
      case rest =>
        obtain ⟨vc5, d5, hN⟩ := hcut
        have H5 := Lib.hid hN.out
        clear hN K3 K2
        have HAr : Hid (Calls Tryz.prog 19 #[.pointer (some ⟨dn, 0, none⟩), .int .i64 0] _ fun e w' => e = .returned (.int .i64 0) ∧ Behind w.heap.size w w' dn vb _ { d5 with left := (0 : Int).toNat } v4.heap.size W1.heap.size va vn A A2 ep ck ep2 ck2) := Lib.hid ((odarm_any 0 H5.out.1.od (by decide)).mono (by
          rintro e w' ⟨q1, q2, q4⟩
          have q3 := arm_cases d5 0 H5.out.2.up (Int.le_refl 0)
          refine ⟨by rw [q1, q3.1], ?_⟩
          rw [q3.2] at q2
          exact H5.out.1.on q2 q4))
        go_wp2_with fail
        refine HAr.out.mono ?_
        rintro en y6 ⟨rfl, g1⟩
        have K6 := Lib.hid (And.intro g1 (H5.out.2.left (0 : Int).toNat))
        clear g1 HAr
        have HOp := Lib.hid (odopen_any (fun _ => False) K6.out.1.od K6.out.2 (fun q h => h.elim))
        go_wp2_with fail
        refine HOp.out.mono ?_
        rintro en y7 (⟨rfl, q1⟩ | ⟨jn2, sn2, v7, vc7, d7, rfl, g1, -, g2, g3, g4⟩)
        · exact absurd rfl q1.1
        have HCl := Lib.hid g1
        obtain ⟨a7, c7, rfl, -⟩ := g3.rd.shape
        obtain ⟨aa, ca, rfl, -⟩ := K6.out.1.ra.rd.shape
        obtain ⟨an, cn, rfl, -⟩ := K6.out.1.rn.rd.shape
        have H7 : Hid (OnJ w.heap.size w y7 jn2 sn2 dn vb vc7 ⟨d7, s, s.tail, false⟩ ∧ RdO y7 (FL jn2 sn2 dn vb vc7) (.slice a7 As.length c7) As ∧ BlkO y7 (FL jn2 sn2 dn vb vc7) v4.heap.size (.cells #[.slice aa A.length ca, .int .i64 ep, .int .i64 ck] 62 (0, 0)) ∧ BlkO y7 (FL jn2 sn2 dn vb vc7) W1.heap.size (.cells #[.slice an A2.length cn, .int .i64 ep2, .int .i64 ck2] 62 (0, 0)) ∧ Rd strE y7 (.slice aa A.length ca) A ∧ Rd strE y7 (.slice an A2.length cn) A2) := Lib.hid ⟨g2, g3.less (fun k q => Or.inl q), K6.out.1.p.turn g4, K6.out.1.q.turn g4, (K6.out.1.ra.turn g4).rd, (K6.out.1.rn.turn g4).rd⟩
        have HZs := Lib.hid K6.out.1.z
        have HTl : Hid (s.tail = (As.length : Int) ∧ As.length ≤ 1100) := Lib.hid ⟨HCl.out.rests.tells.tail, told_le (ep := s.epoch) (ck := s.clock) (b := d7.blocks) ⟨s, HCl.out.rests.tells, rfl, rfl⟩⟩
        clear g1 g2 g3 g4 HOp H5 K6
        go_upto_region 31 with fail
        go_cut [146] (fun sb wx => sb = .bool false ∧ Hid (Below y7.heap.size y7 wx))
        case first =>
          have HS1 := Lib.hid (fun A0 (h : Below y7.heap.size y7 A0) => same25_any (H7.out.1.below h) (.slice aa A.length ca) (.slice a7 As.length c7) A As ep ck (H7.out.2.2.2.2.1.below h) (H7.out.2.1.below h).rd (by have := HZs.out; unfold maxLen; omega) (by have := HTl.out; unfold maxLen; omega))
          have HS2 := Lib.hid (fun A0 (h : Below y7.heap.size y7 A0) => same25_any (H7.out.1.below h) (.slice an A2.length cn) (.slice a7 As.length c7) A2 As ep2 ck2 (H7.out.2.2.2.2.2.below h) (H7.out.2.1.below h).rd (by have := HZs.out; unfold maxLen; omega) (by have := HTl.out; unfold maxLen; omega))
          obtain ⟨x0, x1, x2, -, -, -⟩ := blk3 H7.out.2.2.1.blk
          go_wp2_with fail
          refine (HS1.out y7 (Below.refl _ _)).mono ?_
          rintro en u1 ⟨b1, rfl, hb1, hb⟩
          have B1 := Lib.hid hb
          have HB1 := Lib.hid hb1
          clear hb hb1 x0 x1 x2
          cases b1 with
          | true =>
            go_wp2
            go_meet
            case rel => exact ⟨rfl, B1⟩
          | false =>
            have hA2 : As = A2 ∧ s.epoch = ep2 ∧ s.clock = ck2 := by
              rcases HSel.out with ⟨q1, q2, q3⟩ | q
              · exact absurd (HB1.out q1.symm q2 q3 HTl.out.1) (by decide)
              · exact q
            have HA2 := Lib.hid hA2
            clear hA2
            obtain ⟨x0, x1, x2, -, -, -⟩ := blk3 (H7.out.2.2.2.1.below B1.out).blk
            go_wp2_with fail
            refine (HS2.out u1 B1.out).mono ?_
            rintro en u2 ⟨b2, rfl, hb2, hb⟩
            have B2 := Lib.hid (B1.out.trans (hb.mono B1.out.size))
            have hb3 := hb2 HA2.out.1.symm HA2.out.2.1 HA2.out.2.2 HTl.out.1
            subst hb3
            clear hb hb2 x0 x1 x2
            go_wp2
            go_meet
            case rel => exact ⟨rfl, B2⟩
        case rest =>
          obtain ⟨rfl, hN⟩ := hcut
          have B3 := Lib.hid hN.out
          clear hN
          have HSe := Lib.hid (dseize_rows wc (H7.out.1.below B3.out).jl.hd.dsk)
          go_wp2_with fail
          refine HSe.out.mono ?_
          rintro en x1 ⟨wa, wd, rfl, hva, hvd, hb⟩
          have hlo : ∀ q, DF dn vb vc7 q → q < wc.heap.size := (H7.out.1.below B3.out).dsk.lt
          have hca : d7.cache = [] := HCl.out.rests.cache
          rw [show (⟨d7, s, s.tail, false⟩ : JrnT).d.cache = [] from hca] at hvd
          obtain ⟨a8, c8, rfl, -⟩ := hva.rd.shape
          obtain ⟨a9, c9, rfl, -⟩ := hvd.rd.shape
          have b3 := B3.out.trans (hb.mono B3.out.size)
          obtain ⟨W20, hW20⟩ : ∃ W, x1.alloc (.cells #[.slice a8 d7.blocks.length c8, .slice a9 0 c9] 55) = W := ⟨_, rfl⟩
          have bW : Below x1.heap.size x1 W20 := by rw [← hW20]; exact alloc_below _ _
          have kW : W20.heap[x1.heap.size]? = some (.cells #[.slice a8 d7.blocks.length c8, .slice a9 0 c9] 55 (0, 0)) := by rw [← hW20]; exact alloc_new _ _
          have b4 := b3.trans (bW.mono b3.size)
          have H8 : Hid (OnJ w.heap.size w W20 jn2 sn2 dn vb vc7 ⟨d7, s, s.tail, false⟩ ∧ RdO W20 (DF dn vb vc7) (.slice a7 As.length c7) As ∧ BlkO W20 (DF dn vb vc7) x1.heap.size (.cells #[.slice a8 d7.blocks.length c8, .slice a9 0 c9] 55 (0, 0)) ∧ RdO W20 (DF dn vb vc7) (.slice a8 d7.blocks.length c8) d7.blocks ∧ Rd pwE W20 (.slice a9 0 c9) []) := Lib.hid ⟨H7.out.1.below b4, (H7.out.2.1.less (df_fl jn2 sn2)).below b4, ⟨kW, fun q => by have := (H7.out.1.below b3).dsk.lt _ q; omega⟩, (RdO.row hva hlo).below bW, hvd.rd.below bW⟩
          have EW := Lib.hid hW20
          clear hW20 bW kW b3 b4 hva hvd hb hca HSe H7 B3 hlo
          go_upto_region 34 with fail
          try rw [EW.out]
          have HOp := Lib.hid (odopen_clean (fun _ => False) H8.out.1.dsk HCl.out (fun q h => h.elim))
          go_wp2_with fail
          refine HOp.out.mono ?_
          rintro en y9 ⟨jn3, sn3, v9, vc9, rfl, g2, g3, g4⟩
          obtain ⟨a10, c10, rfl, -⟩ := g3.rd.shape
          have hrd9 : Rd pwE y9 (.slice a9 0 c9) [] := by obtain ⟨p1, p2, p3, p4, p5, -⟩ := H8.out.2.2.2.2; exact ⟨p1, p2, p3, p4, p5, fun i x hx => by simp at hx⟩
          have H9 : Hid (OnJ w.heap.size w y9 jn3 sn3 dn vb vc9 ⟨d7, s, s.tail, false⟩ ∧ JHd y9 jn2 (.pointer (some ⟨sn2, 0, none⟩)) dn vb vc9 s false d7 ∧ Rd strE y9 (.slice a7 As.length c7) As ∧ Rd strE y9 (.slice a10 As.length c10) As ∧ Rd strE y9 (.slice a8 d7.blocks.length c8) d7.blocks ∧ Rd pwE y9 (.slice a9 0 c9) [] ∧ y9.heap[x1.heap.size]? = some (.cells #[.slice a8 d7.blocks.length c8, .slice a9 0 c9] 55 (0, 0))) := Lib.hid ⟨g2, jsuper_old H8.out.1 g2 g4, (H8.out.2.1.turn g4).rd, g3.rd, (H8.out.2.2.2.1.turn g4).rd, hrd9, (H8.out.2.2.1.turn g4).blk⟩
          have HBl : Hid (d7.blocks.length ≤ 1024) := Lib.hid (rests_len HCl.out.rests).2
          have hca : d7.cache = [] := HCl.out.rests.cache
          have HCa := Lib.hid hca
          clear hca g2 g3 g4 HOp H8 hrd9 EW
          have HT := Lib.hid (fun A0 (h : Below y9.heap.size y9 A0) => (texts_any (.slice a7 As.length c7) (.slice a10 As.length c10) As As A0 (H9.out.2.2.1.below h) (H9.out.2.2.2.1.below h) (by have := HTl.out; unfold maxLen; omega) (by have := HTl.out; unfold maxLen; omega)).mono (R' := fun e w' => e = .returned (.bool true) ∧ Below A0.heap.size A0 w') fun e w' ⟨b, h1, h2, h3⟩ => ⟨by rw [h1, h2.2 rfl], h3⟩)
          have HS2 := Lib.hid (fun A0 (h : Below y9.heap.size y9 A0) => jsuper_any A0 (H9.out.2.1.below h))
          have HS3 := Lib.hid (fun A0 (h : Below y9.heap.size y9 A0) => ojsuper_any (H9.out.1.below h))
          have HSz := Lib.hid (fun A0 (h : Below y9.heap.size y9 A0) => dseize_any A0 (H9.out.1.below h).jl.hd.dsk)
          have HSm := Lib.hid (fun A0 (h : Below y9.heap.size y9 A0) va vd (q1 : Rd strE A0 va d7.blocks) (q2 : Rd pwE A0 vd []) => (rsame_any (.slice a8 d7.blocks.length c8) (.slice a9 0 c9) va vd d7.blocks d7.blocks [] [] A0 (H9.out.2.2.2.2.1.below h) (H9.out.2.2.2.2.2.1.below h) q1 q2 (by have := HBl.out; unfold maxLen; omega) (by have := HBl.out; unfold maxLen; omega) (by decide) (by decide)).mono (R' := fun e w' => e = .returned (.bool true) ∧ Below A0.heap.size A0 w') fun e w' ⟨b, h1, h2, h3⟩ => ⟨by rw [h1, h2.2 ⟨rfl, rfl⟩], h3⟩)
          obtain ⟨z0, z1, -, -⟩ := blk2 H9.out.2.2.2.2.2.2
          simp only at HS3
          obtain ⟨s1, s2, s3, s4, s5, s6, s7⟩ := s
          simp only at HS2 HS3
          go_upto_region 35 with fail
          refine wp_region_mv (fun ft => SzC y9 d7.blocks (ft 17)) (by kernel_rfl) ⟨drew_below y9, fun v h => by cases h⟩ ?_
          obtain ⟨S, F, hF, hFC⟩ := moved_class (fun ft => SzC y9 d7.blocks (ft 17))
          have kz0 : ∀ s, (F s).cell? ⟨x1.heap.size, 0, none⟩ = some (.slice a8 d7.blocks.length c8) := fun s => (cell_on (hFC s).choose_spec.1 z0).1
          have kz1 : ∀ s, (F s).cell? ⟨x1.heap.size, 1, none⟩ = some (.slice a9 0 c9) := fun s => (cell_on (hFC s).choose_spec.1 z1).1
          clear z0 z1
          show wpAnyM _ _ _ _ _ 30 (Array.replicate 30 false) _ _
          refine mv_read 0 hF (fun _ _ _ h => h) rfl (by kernel_rfl) (by kernel_rfl) (by kernel_rfl) (fun K hK => ?_)
          go_simp
          first | refine ⟨_, fun _ => rfl, hK _ _ ?_⟩ | refine hK _ _ ?_
          clear hK K
          refine mv_read 1 hF (fun _ _ _ h => h) rfl (by kernel_rfl) (by kernel_rfl) (by kernel_rfl) (fun K hK => ?_)
          go_simp
          first | refine ⟨_, fun _ => rfl, hK _ _ ?_⟩ | refine hK _ _ ?_
          clear hK K
          refine mv_read 2 hF (fun _ _ _ h => h) rfl (by kernel_rfl) (by kernel_rfl) (by kernel_rfl) (fun K hK => ?_)
          go_simp
          first | refine ⟨_, fun _ => rfl, hK _ _ ?_⟩ | refine hK _ _ ?_
          clear hK K
          refine mv_read 3 hF (fun _ _ _ h => h) rfl (by kernel_rfl) (by kernel_rfl) (by kernel_rfl) (fun K hK => ?_)
          go_simp
          first | refine ⟨_, fun _ => rfl, hK _ _ ?_⟩ | refine hK _ _ ?_
          clear hK K
          refine mv_read 4 hF (fun _ _ _ h => h) rfl (by kernel_rfl) (by kernel_rfl) (by kernel_rfl) (fun K hK => ?_)
          go_simp
          first | refine ⟨_, fun _ => rfl, hK _ _ ?_⟩ | refine hK _ _ ?_
          clear hK K
          refine mv_call1 5 29 rfl (by kernel_rfl) (by kernel_rfl) (by kernel_rfl) rfl rfl eg25_texts (args := #[.slice a7 As.length c7, .slice a10 As.length c10]) rfl (u := .bool true) (fun g w9 ha h0 h => (HT.out w9 h.1).mono fun e w8 ⟨q1, q2⟩ => ⟨q1, h.on q2⟩) ?_
          refine mv_read 6 hF (fun _ _ _ h => h) rfl (by kernel_rfl) (by kernel_rfl) (by kernel_rfl) (fun K hK => ?_)
          go_simp
          first | refine ⟨_, fun _ => rfl, hK _ _ ?_⟩ | refine hK _ _ ?_
          clear hK K
          refine mv_read 7 hF (fun _ _ _ h => h) rfl (by kernel_rfl) (by kernel_rfl) (by kernel_rfl) (fun K hK => ?_)
          go_simp
          first | refine ⟨_, fun _ => rfl, hK _ _ ?_⟩ | refine hK _ _ ?_
          clear hK K
          refine mv_read 8 hF (fun _ _ _ h => h) rfl (by kernel_rfl) (by kernel_rfl) (by kernel_rfl) (fun K hK => ?_)
          go_simp
          first | refine ⟨_, fun _ => rfl, hK _ _ ?_⟩ | refine hK _ _ ?_
          clear hK K
          refine mv_call1 9 14 rfl (by kernel_rfl) (by kernel_rfl) (by kernel_rfl) rfl rfl eg25_super (args := #[.pointer (some ⟨jn3, 0, none⟩)]) rfl (u := .agg #[.int .i64 s1, .int .i64 s2, .int .i64 s3, .int .i64 s4, .int .i64 s5, .int .i64 s6, .int .i64 s7]) (fun g w9 ha h0 h => (HS3.out w9 h.1).mono fun e w8 ⟨q1, q2⟩ => ⟨q1, h.on q2⟩) ?_
          refine mv_read 10 hF (fun _ _ _ h => h) rfl (by kernel_rfl) (by kernel_rfl) (by kernel_rfl) (fun K hK => ?_)
          go_simp
          first | refine ⟨_, fun _ => rfl, hK _ _ ?_⟩ | refine hK _ _ ?_
          clear hK K
          refine mv_call1 11 14 rfl (by kernel_rfl) (by kernel_rfl) (by kernel_rfl) rfl rfl eg25_super (args := #[.pointer (some ⟨jn2, 0, none⟩)]) rfl (u := .agg #[.int .i64 s1, .int .i64 s2, .int .i64 s3, .int .i64 s4, .int .i64 s5, .int .i64 s6, .int .i64 s7]) (fun g w9 ha h0 h => (HS2.out w9 h.1).mono fun e w8 ⟨q1, q2⟩ => ⟨q1, h.on q2⟩) ?_
          refine mv_read 12 hF (fun _ _ _ h => h) rfl (by kernel_rfl) (by kernel_rfl) (by kernel_rfl) (fun K hK => ?_)
          go_simp
          first | refine ⟨_, fun _ => rfl, hK _ _ ?_⟩ | refine hK _ _ ?_
          clear hK K
          refine mv_read 13 hF (fun _ _ _ h => h) rfl (by kernel_rfl) (by kernel_rfl) (by kernel_rfl) (fun K hK => ?_)
          go_simp
          first | refine ⟨_, fun _ => rfl, hK _ _ ?_⟩ | refine hK _ _ ?_
          clear hK K
          refine mv_read 14 hF (fun _ _ _ h => h) rfl (by kernel_rfl) (by kernel_rfl) (by kernel_rfl) (fun K hK => ?_)
          go_simp
          first | refine ⟨_, fun _ => rfl, hK _ _ ?_⟩ | refine hK _ _ ?_
          clear hK K
          refine mv_read 15 hF (fun _ _ _ h => h) rfl (by kernel_rfl) (by kernel_rfl) (by kernel_rfl) (fun K hK => ?_)
          go_simp
          first | refine ⟨_, fun _ => rfl, hK _ _ ?_⟩ | refine hK _ _ ?_
          clear hK K
          refine mv_read 16 hF (fun _ _ _ h => h) rfl (by kernel_rfl) (by kernel_rfl) (by kernel_rfl) (fun K hK => ?_)
          go_simp
          first | refine ⟨_, fun _ => rfl, hK _ _ ?_⟩ | refine hK _ _ ?_
          clear hK K
          refine mv_call 17 23 rfl (by kernel_rfl) rfl rfl eg25_seize (args := #[.pointer (some ⟨dn, 0, none⟩)]) rfl (fun v => ∃ va vd, v = .agg #[va, vd]) (fun g w9 ha h0 h => (HSz.out w9 h.1).mono fun e w8 ⟨va, vd, q1, q2, q3, q4⟩ => ⟨_, q1, ⟨va, vd, rfl⟩, (h.on q4).1, fun v hv => by cases hv; exact ⟨va, vd, rfl, q2, by have := HCa.out; rw [show (⟨d7, ⟨s1, s2, s3, s4, s5, s6, s7⟩, s2, false⟩ : JrnT).d.cache = [] from this] at q3; exact q3⟩⟩) ?_
          rintro v8 ⟨va8, vd8, rfl⟩
          refine mv_call1 18 30 rfl (by kernel_rfl) (by kernel_rfl) (by kernel_rfl) rfl rfl eg25_same (args := #[.agg #[.slice a8 d7.blocks.length c8, .slice a9 0 c9], .agg #[va8, vd8]]) rfl (u := .bool true) (fun g w9 ha h0 h => ?_) ?_
          · have e1 : g 17 = some (.agg #[va8, vd8]) := (agree_on 17 ha (by kernel_rfl)).trans rfl
            obtain ⟨va9, vd9, hx, hx1, hx2⟩ := h.2 _ e1
            cases hx
            exact (HSm.out w9 h.1 _ _ hx1 hx2).mono fun e w8 ⟨q1, q2⟩ => ⟨q1, h.on q2⟩
          refine mv_read 19 hF (fun _ _ _ h => h) rfl (by kernel_rfl) (by kernel_rfl) (by kernel_rfl) (fun K hK => ?_)
          go_simp
          first | refine ⟨_, fun _ => rfl, hK _ _ ?_⟩ | refine hK _ _ ?_
          clear hK K
          refine mv_read 20 hF (fun _ _ _ h => h) rfl (by kernel_rfl) (by kernel_rfl) (by kernel_rfl) (fun K hK => ?_)
          go_simp
          first | refine ⟨_, fun _ => rfl, hK _ _ ?_⟩ | refine hK _ _ ?_
          clear hK K
          refine mv_read 21 hF (fun _ _ _ h => h) rfl (by kernel_rfl) (by kernel_rfl) (by kernel_rfl) (fun K hK => ?_)
          go_simp
          first | refine ⟨_, fun _ => rfl, hK _ _ ?_⟩ | refine hK _ _ ?_
          clear hK K
          refine mv_read 22 hF (fun _ _ _ h => h) rfl (by kernel_rfl) (by kernel_rfl) (by kernel_rfl) (fun K hK => ?_)
          go_simp
          first | refine ⟨_, fun _ => rfl, hK _ _ ?_⟩ | refine hK _ _ ?_
          clear hK K
          refine mv_read 23 hF (fun _ _ _ h => h) rfl (by kernel_rfl) (by kernel_rfl) (by kernel_rfl) (fun K hK => ?_)
          go_simp
          first | refine ⟨_, fun _ => rfl, hK _ _ ?_⟩ | refine hK _ _ ?_
          clear hK K
          refine mv_read 24 hF (fun _ _ _ h => h) rfl (by kernel_rfl) (by kernel_rfl) (by kernel_rfl) (fun K hK => ?_)
          go_simp
          first | refine ⟨_, fun _ => rfl, hK _ _ ?_⟩ | refine hK _ _ ?_
          clear hK K
          refine mv_read 25 hF (fun _ _ _ h => h) rfl (by kernel_rfl) (by kernel_rfl) (by kernel_rfl) (fun K hK => ?_)
          go_simp
          first | refine ⟨_, fun _ => rfl, hK _ _ ?_⟩ | refine hK _ _ ?_
          clear hK K
          refine mv_read 26 hF (fun _ _ _ h => h) rfl (by kernel_rfl) (by kernel_rfl) (by kernel_rfl) (fun K hK => ?_)
          go_simp
          first | refine ⟨_, fun _ => rfl, hK _ _ ?_⟩ | refine hK _ _ ?_
          clear hK K
          refine mv_call1 27 6 rfl (by kernel_rfl) (by kernel_rfl) (by kernel_rfl) rfl rfl eg25_alive (args := #[]) rfl (u := .bool true) (fun g w9 ha h0 h => (alive25_any w9).mono fun e w8 ⟨q1, q2⟩ => ⟨q1, h.on q2⟩) ?_
          refine mv_read 28 hF (fun _ _ _ h => h) rfl (by kernel_rfl) (by kernel_rfl) (by kernel_rfl) (fun K hK => ?_)
          go_simp
          first | refine ⟨_, fun _ => rfl, hK _ _ ?_⟩ | refine hK _ _ ?_
          clear hK K
          refine mv_read 29 hF (fun _ _ _ h => h) rfl (by kernel_rfl) (by kernel_rfl) (by kernel_rfl) (fun K hK => ?_)
          go_simp
          first | refine ⟨_, fun _ => rfl, hK _ _ ?_⟩ | refine hK _ _ ?_
          clear hK K
          refine mv_end (by kernel_rfl) ?_
          intro y10 hy10
          have HZ := Lib.hid (H9.out.1.b.trans (hy10.1.mono H9.out.1.hB))
          clear hy10 hF hFC kz0 kz1
          go_wp2
          exact HR.out _ _ ⟨by first | rfl | simp, HZ.out⟩
end Go.Proofs.YteppfjgglelpbaaGreat
