/- Two models of one play, the program's and the document's; the law ModelPlays: what its walk gives. -/
import Derived.Test.YtnkiokaeooopgaaGreatM11
import Derived.Test.YtnkiokaeooopgaaGreatHLawSame
import Derived.Test.YtnkiokaeooopgaaGreatHLaw24b
import Derived.Test.YtnkiokaeooopgaaGreatM15
set_option maxRecDepth 100000
namespace Go.Proofs.YtnkiokaeooopgaaGreat
open Go.RowKit Ks
set_option linter.unusedVariables false
set_option linter.unusedSimpArgs false
theorem rmnew_no (g : GeoD) (w : World) (h : geoOk g.blocks g.lbas g.first = false) : Calls Tryz.prog 7 #[.agg #[.int .i64 g.blocks, .int .i64 g.lbas, .int .i64 g.first]] w fun e w' => e = .returned (.pointer none) ∧ Below w.heap.size w w' :=
  (rmnew_any g w).mono fun e w' q => q.elim (fun q => q.2) (fun q => by rw [h] at q; cases q.1)
theorem rmnew_yes (g : GeoD) (w : World) (h : geoOk g.blocks g.lbas g.first = true) : Calls Tryz.prog 7 #[.agg #[.int .i64 g.blocks, .int .i64 g.lbas, .int .i64 g.first]] w fun e w' => ∃ n, e = .returned (.pointer (some ⟨n, 0, none⟩)) ∧ RMd w' n (.slice none 0 0) (.slice none 0 0) (newM g) ∧ w.heap.size ≤ n ∧ Below w.heap.size w w' :=
  (rmnew_any g w).mono fun e w' q => q.elim (fun q => by rw [h] at q; cases q.1) (fun q => q.2)
theorem RMd.keep {w w' : World} {n : Nat} {rv vv : Value} {m : ModT} (h : RMd w n rv vv m) (hk : ∀ k, FR n rv vv k → w'.heap[k]? = w.heap[k]?) : RMd w' n rv vv m := ⟨(hk n (Or.inl rfl)).trans h.blk, h.recs.keep fun k e => hk k (Or.inr (Or.inl e)), h.vers.keep fun k e => hk k (Or.inr (Or.inr e)), h.ne, h.far⟩
/-- worlds where both models live, and some blocks besides -/
structure Both (B : Nat) (w0 : World) (n cc bn c mu mh mg n2 : Nat) (m1 m2 : ModT) (K : List (Nat × Obj)) (w : World) : Prop where
  b : Below B w0 w
  hB : B ≤ w.heap.size
  kb : ∀ q ∈ K, w.heap[q.1]? = some q.2
  m : ∃ rv vv rv2 vv2, ModAt w n cc bn c mu mh mg rv vv m1 ∧ RMd w n2 rv2 vv2 m2 ∧ (∀ k, FM n cc bn c mu mh mg rv vv k → B ≤ k ∧ ¬ FR n2 rv2 vv2 k) ∧ (∀ k, FR n2 rv2 vv2 k → B ≤ k) ∧ ∀ q ∈ K, ¬ FM n cc bn c mu mh mg rv vv q.1 ∧ ¬ FR n2 rv2 vv2 q.1
section
variable {B : Nat} {w0 w w' : World} {n cc bn c mu mh mg n2 : Nat} {m1 m2 m : ModT} {K : List (Nat × Obj)}
theorem Both.on (h : Both B w0 n cc bn c mu mh mg n2 m1 m2 K w) (hb : Below w.heap.size w w') : Both B w0 n cc bn c mu mh mg n2 m1 m2 K w' := by
  obtain ⟨rv, vv, rv2, vv2, h1, h2, h3, h4, h5⟩ := h.m
  exact ⟨h.b.trans (hb.mono h.hB), Nat.le_trans h.hB hb.size, fun q hq => blk_on hb (h.kb q hq), rv, vv, rv2, vv2, h1.below hb, h2.below hb, h3, h4, h5⟩
theorem Both.add (h : Both B w0 n cc bn c mu mh mg n2 m1 m2 K w) (C : Array Value) (T : TypeId) : Both B w0 n cc bn c mu mh mg n2 m1 m2 ((w.heap.size, .cells C T (0, 0)) :: K) (w.alloc (.cells C T)) := by
  have hb := alloc_below w (.cells C T)
  obtain ⟨rv, vv, rv2, vv2, h1, h2, h3, h4, h5⟩ := h.m
  refine ⟨h.b.trans (hb.mono h.hB), Nat.le_trans h.hB hb.size, fun q hq => ?_, rv, vv, rv2, vv2, h1.below hb, h2.below hb, h3, h4, fun q hq => ?_⟩
  · rcases List.mem_cons.1 hq with rfl | hq
    · exact alloc_new _ _
    · exact blk_on hb (h.kb q hq)
  · rcases List.mem_cons.1 hq with rfl | hq
    · exact ⟨fun q => Nat.lt_irrefl _ (h1.ltF _ q), fun q => Nat.lt_irrefl _ (h2.lt _ q)⟩
    · exact h5 q hq
theorem Both.drop (h : Both B w0 n cc bn c mu mh mg n2 m1 m2 K w) : Both B w0 n cc bn c mu mh mg n2 m1 m2 [] w := by
  obtain ⟨rv, vv, rv2, vv2, h1, h2, h3, h4, h5⟩ := h.m
  exact ⟨h.b, h.hB, fun q hq => (by cases hq), rv, vv, rv2, vv2, h1, h2, h3, h4, fun q hq => (by cases hq)⟩
theorem Both.doesM (h : Both B w0 n cc bn c mu mh mg n2 m1 m2 K w) (h7 : Seven n cc bn c mu mh mg) (hi : ModI m1) (cl : CallT) (ka : Option Addr) (kn kc : Nat) (hce : -9223372036854775808 ≤ cl.epoch ∧ cl.epoch ≤ 9223372036854775807) (hna : cl.name.size ≤ maxLen) :
    Calls Tryz.prog 8 #[.pointer (some ⟨n, 0, none⟩), callV cl ka kn kc] w fun e w' => e = .returned (.agg (ansC (doA m1 cl))) ∧ Both B w0 n cc bn c mu mh mg n2 (doM (zerosS 32) m1 cl) m2 K w' := by
  obtain ⟨rv, vv, rv2, vv2, h1, h2, h3, h4, h5⟩ := h.m
  refine (mdo_any cl ka kn kc w h1 h7 hi hce hna).mono ?_
  rintro e w' ⟨he, rv', vv', g1, g2⟩
  have hb : Below B w w' := g2.below (fun k q => (h3 k q).1) h.hB
  refine ⟨he, h.b.trans hb, Nat.le_trans h.hB g2.size, fun q hq => (g2.block q.1 (lt_of_block (h.kb q hq)) (h5 q hq).1).trans (h.kb q hq), rv', vv', rv2, vv2, g1, h2.keep fun k q => g2.block k (h2.lt k q) (fun q2 => (h3 k q2).2 q), fun k q => ?_, h4, fun q hq => ⟨fun q1 => ?_, (h5 q hq).2⟩⟩
  · rcases g2.foot k q with q1 | q1
    · exact h3 k q1
    · exact ⟨Nat.le_trans h.hB q1, fun q2 => by have := h2.lt k q2; omega⟩
  · rcases g2.foot _ q1 with q2 | q2
    · exact (h5 q hq).1 q2
    · have := lt_of_block (h.kb q hq); omega
theorem Both.doesR (h : Both B w0 n cc bn c mu mh mg n2 m1 m2 K w) (hi : ModI m2) (ht : Ks.Twin m2) (cl : CallT) (ka : Option Addr) (kn kc : Nat) :
    Calls Tryz.prog 9 #[.pointer (some ⟨n2, 0, none⟩), callV cl ka kn kc] w fun e w' => e = .returned (.agg (ansC (doA m2 cl))) ∧ Both B w0 n cc bn c mu mh mg n2 m1 (doM (zerosS 32) m2 cl) K w' := by
  obtain ⟨rv, vv, rv2, vv2, h1, h2, h3, h4, h5⟩ := h.m
  obtain ⟨ki, lb, ce, ti, da, na⟩ := cl
  refine Calls.mono (rdo_any ki lb ce ti da na ka kn kc w h2 hi ht) ?_
  rintro e w' ⟨he, rv', vv', g1, g2⟩
  have hb : Below B w w' := g2.below h4 h.hB
  refine ⟨he, h.b.trans hb, Nat.le_trans h.hB g2.size, fun q hq => (g2.block q.1 (lt_of_block (h.kb q hq)) (h5 q hq).2).trans (h.kb q hq), rv, vv, rv', vv', h1.sameF fun k q => g2.block k (h1.ltF k q) (h3 k q).2, g1, fun k q => ⟨(h3 k q).1, fun q1 => ?_⟩, fun k q => ?_, fun q hq => ⟨(h5 q hq).1, fun q1 => ?_⟩⟩
  · rcases g2.foot _ q1 with q2 | q2
    · exact (h3 k q).2 q2
    · have := h1.ltF k q; omega
  · rcases g2.foot k q with q1 | q1
    · exact h4 k q1
    · exact Nat.le_trans h.hB q1
  · rcases g2.foot _ q1 with q2 | q2
    · exact (h5 q hq).2 q2
    · have := lt_of_block (h.kb q hq); omega
theorem Both.same (h : Both B w0 n cc bn c mu mh mg n2 m m K w) (hi : ModI m) (ht : Ks.Twin m) (ep lb : Int) (hep : -9223372036854775808 ≤ ep ∧ ep ≤ 9223372036854775807) :
    Calls Tryz.prog 10 #[.pointer (some ⟨n, 0, none⟩), .pointer (some ⟨n2, 0, none⟩), .int .i64 ep, .int .i64 lb] w fun e w' => e = .returned (.bool true) ∧ Below w.heap.size w w' := by
  obtain ⟨rv, vv, rv2, vv2, h1, h2, h3, h4, h5⟩ := h.m
  exact same_any ep lb w h1 h2 hi ht hep
end
def pickM (f : Option Value) (a b : ModT) : ModT := match f with
  | none => a
  | some _ => b
/-- worlds of the region that plays one call on both -/
structure PlayC (B : Nat) (w0 : World) (n cc bn c mu mh mg n2 : Nat) (M M2 : ModT) (K : List (Nat × Obj)) (f1 f2 f3 f4 : Option Value) (w : World) : Prop where
  o : f2 ≠ none → f1 ≠ none
  o2 : f3 ≠ none → f2 ≠ none
  o3 : f4 ≠ none → f3 ≠ none
  b : Both B w0 n cc bn c mu mh mg n2 (pickM f1 M M2) (pickM f2 M M2) K w
theorem eg_rmdo : ∀ args w, (callFunc 9 args).run Tryz.prog w = .ok (.enter 9 args) w := fun _ _ => rfl
theorem eg_same24 : ∀ args w, (callFunc 10 args).run Tryz.prog w = .ok (.enter 10 args) w := fun _ _ => rfl
theorem playM_twin {g : GeoD} (h : geoOk g.blocks g.lbas g.first = true) (l : List CallK) : Ks.Twin (playM g l) := by
  have key : ∀ (l : List CallT) (m : ModT), ModI m → Ks.Twin m → Ks.Twin (l.foldl (doM (zerosS 32)) m) := by
    intro l
    induction l with
    | nil => exact fun m _ q => q
    | cons x l ih => exact fun m q1 q2 => ih _ (do_ok x q1 zeros32) (twin_do x q2 q1 zeros32)
  exact key _ _ (newM_ok h) (twin_new g)
set_option maxRecDepth 100000 in
set_option maxHeartbeats 16000000 in
theorem mplays_any (g : GeoD) (lv : Value) (l : List CallK) (ep lba : Int) (w : World) (hl : Rd callE w lv l) (hc : ∀ x ∈ l, CallG x) (hep : -9223372036854775808 ≤ ep ∧ ep ≤ 9223372036854775807) :
    Calls Tryz.prog 3 #[geoV3 g.blocks g.lbas g.first, lv, .int .i64 ep, .int .i64 lba] w fun e w' => e = .returned (.bool true) ∧ Below w.heap.size w w' := by
  refine calls_by fun R HR => ?_
  have HC := Lib.hid hc
  have HEP := Lib.hid hep
  have HP := Lib.hid (playM_take g l)
  have HPI := Lib.hid (fun h => playM_ok (g := g) h)
  have HPT := Lib.hid (fun h => playM_twin (g := g) h)
  have HTake := Lib.hid (show playM g (l.take l.length) = playM g l by rw [List.take_length])
  have HP0 := Lib.hid (show playM g (l.take 0) = newM g from rfl)
  have HL0 := Lib.hid hl
  obtain ⟨la, lc, hls, -⟩ := hl.shape
  subst hls
  clear hl hc hep
  obtain ⟨b, lb, f⟩ := g
  have H1 := Lib.hid (And.intro (Below.refl w.heap.size w) (HL0.out))
  obtain ⟨W1, hW1⟩ : ∃ W1, w.alloc (.cells #[.int .i64 b, .int .i64 lb, .int .i64 f] 23) = W1 := ⟨_, rfl⟩
  have hbW1 : Below w.heap.size w W1 := by rw [← hW1]; exact alloc_below w _
  have kW1 : W1.heap[w.heap.size]? = some (.cells #[.int .i64 b, .int .i64 lb, .int .i64 f] 23 (0, 0)) := by rw [← hW1]; exact alloc_new w _
  have H2 := Lib.hid (And.intro (H1.out.1.trans (hbW1.mono H1.out.1.size)) (And.intro (H1.out.2.below hbW1) (kW1)))
  clear hbW1 kW1
  obtain ⟨c0, c1, c2, -, -, -⟩ := blk3 H2.out.2.2
  go_enter Tryz.func3, Tryz.ntmps3
  go_wp2_with fail
  refine (few24_any _ _ _ H2.out.2.1).mono ?_
  rintro en u1 ⟨q9, rfl, hq, hb⟩
  have H3 := Lib.hid (And.intro (H2.out.1.trans (hb.mono H2.out.1.size)) (And.intro (H2.out.2.1.below hb) (blk_on hb H2.out.2.2)))
  clear hb
  clear hW1 c0 c1 c2
  obtain ⟨c0, c1, c2, -, -, -⟩ := blk3 H3.out.2.2
  cases q9 with
  | false =>
    go_wp2_with fail
    refine (alive24_any _).mono ?_
    rintro en y9 ⟨rfl, hb⟩
    have H99 := Lib.hid (H3.out.1.trans (hb.mono H3.out.1.size))
    clear hb
    go_wp2
    exact HR.out _ _ ⟨rfl, H99.out⟩
  | true =>
    have HQ := Lib.hid (hq rfl)
    have hq60 : (l.length : Int) ≤ 60 := by have := HQ.out; omega
    clear hq
    by_cases h64 : 64 < lb
    case pos =>
      have h64b : decide (64 < lb) = true := decide_eq_true h64
      by_cases h4k : lb ≤ 4096
      case pos =>
        have h4kb : decide (lb ≤ 4096) = true := decide_eq_true h4k
        go_wp2_with fail
        refine (alive24_any _).mono ?_
        rintro en y9 ⟨rfl, hb⟩
        have H99 := Lib.hid (H3.out.1.trans (hb.mono H3.out.1.size))
        clear hb
        go_wp2
        exact HR.out _ _ ⟨rfl, H99.out⟩
      have h4kb : decide (lb ≤ 4096) = false := decide_eq_false h4k
      have hgo : geoOk b lb f = false := by
        cases q : geoOk b lb f with
        | false => rfl
        | true => have := geo_ok.1 q; omega
      go_wp2_with fail
      refine (mnew_err b lb f _ (geo_no hgo).2.1).mono ?_
      rintro en u2 ⟨rfl, hb⟩
      have H4 := Lib.hid (And.intro (H3.out.1.trans (hb.mono H3.out.1.size)) (And.intro (H3.out.2.1.below hb) (blk_on hb H3.out.2.2)))
      clear hb
      clear c0 c1 c2
      obtain ⟨c0, c1, c2, -, -, -⟩ := blk3 H4.out.2.2
      go_wp2_with fail
      refine (rmnew_no ⟨b, lb, f⟩ _ hgo).mono ?_
      rintro en u3 ⟨rfl, hb⟩
      have H5 := Lib.hid (And.intro (H4.out.1.trans (hb.mono H4.out.1.size)) (And.intro (H4.out.2.1.below hb) (blk_on hb H4.out.2.2)))
      clear hb
      go_wp2_with fail
      refine (alive24_any _).mono ?_
      rintro en y9 ⟨rfl, hb⟩
      have H99 := Lib.hid (H5.out.1.trans (hb.mono H5.out.1.size))
      clear hb
      go_wp2
      exact HR.out _ _ ⟨rfl, H99.out⟩
    have h64b : decide (64 < lb) = false := decide_eq_false h64
    cases hgo : geoOk b lb f with
    | false =>
      go_wp2_with fail
      refine (mnew_err b lb f _ (geo_no hgo).2.1).mono ?_
      rintro en u2 ⟨rfl, hb⟩
      have H4 := Lib.hid (And.intro (H3.out.1.trans (hb.mono H3.out.1.size)) (And.intro (H3.out.2.1.below hb) (blk_on hb H3.out.2.2)))
      clear hb
      clear c0 c1 c2
      obtain ⟨c0, c1, c2, -, -, -⟩ := blk3 H4.out.2.2
      go_wp2_with fail
      refine (rmnew_no ⟨b, lb, f⟩ _ hgo).mono ?_
      rintro en u3 ⟨rfl, hb⟩
      have H5 := Lib.hid (And.intro (H4.out.1.trans (hb.mono H4.out.1.size)) (And.intro (H4.out.2.1.below hb) (blk_on hb H4.out.2.2)))
      clear hb
      go_wp2_with fail
      refine (alive24_any _).mono ?_
      rintro en y9 ⟨rfl, hb⟩
      have H99 := Lib.hid (H5.out.1.trans (hb.mono H5.out.1.size))
      clear hb
      go_wp2
      exact HR.out _ _ ⟨rfl, H99.out⟩
    | true =>
      have HGO := Lib.hid hgo
      go_wp2_with fail
      refine (mnew_any ⟨b, lb, f⟩ _ hgo).mono ?_
      rintro en x1 ⟨n, cc, bn, c, mu, mh, mg, rfl, hm, h7, hb, hlow⟩
      have HM := Lib.hid (And.intro hm hlow)
      have H7 := Lib.hid h7
      have HS0 := Lib.hid hb.size
      have H4 := Lib.hid (And.intro (H3.out.1.trans (hb.mono H3.out.1.size)) (And.intro (H3.out.2.1.below hb) (blk_on hb H3.out.2.2)))
      clear hm h7 hb hlow c0 c1 c2
      obtain ⟨c0, c1, c2, -, -, -⟩ := blk3 H4.out.2.2
      go_wp2_with fail
      refine (rmnew_yes ⟨b, lb, f⟩ _ hgo).mono ?_
      rintro en x2 ⟨n2, rfl, hm, hlow, hb⟩
      have hBo : Both w.heap.size w n cc bn c mu mh mg n2 (newM ⟨b, lb, f⟩) (newM ⟨b, lb, f⟩) [] x2 := by
        have hs := H4.out.1.size
        have hlw : ∀ k, FM n cc bn c mu mh mg (.slice none 0 0) (.slice none 0 0) k → w.heap.size ≤ k := fun k q => Nat.le_trans H3.out.1.size (HM.out.2 k q)
        have hfr : ∀ k, FR n2 (.slice none 0 0) (.slice none 0 0) k → x1.heap.size ≤ k := fun k q => by
          rcases q with q | q | q
          · subst q; exact hlow
          · cases q
          · cases q
        exact ⟨H4.out.1.trans (hb.mono H4.out.1.size), Nat.le_trans hs hb.size, fun q hq => (by cases hq), _, _, _, _, HM.out.1.below hb, hm, fun k q => ⟨hlw k q, fun q2 => by have := hfr k q2; have := HM.out.1.ltF k q; omega⟩, fun k q => Nat.le_trans hs (hfr k q), fun q hq => (by cases hq)⟩
      have HBo := Lib.hid hBo
      clear hBo hm hlow hb c0 c1 c2 hgo
      go_wp2_with fail
      go_loopw [54] (fun i wx => ∃ (k : Nat), k ≤ l.length ∧ i = .int .i64 k ∧ Hid (Both w.heap.size w n cc bn c mu mh mg n2 (playM ⟨b, lb, f⟩ (l.take k)) (playM ⟨b, lb, f⟩ (l.take k)) [] wx)) (fun i _ => l.length - (intOf i).toNat)
      case atStart => exact ⟨0, Nat.zero_le _, rfl, Lib.hid (by rw [HP0.out]; exact HBo.out)⟩
      case round =>
        obtain ⟨k, hk, rfl, hN⟩ := hrel
        by_cases hlt : k < l.length
        · have hki : (k : Int) < (l.length : Int) := by omega
          obtain ⟨x, hx⟩ : ∃ x, l[k]? = some x := ⟨_, List.getElem?_eq_getElem hlt⟩
          have HX := Lib.hid (HC.out x (List.mem_of_getElem? hx))
          have HS := Lib.hid (HP.out k x hx)
          have HI := Lib.hid (HPI.out HGO.out (l.take k))
          have HT := Lib.hid (HPT.out HGO.out (l.take k))
          have HI2 := Lib.hid (HPI.out HGO.out (l.take (k + 1)))
          have HT2 := Lib.hid (HPT.out HGO.out (l.take (k + 1)))
          rw [HS.out] at HI2 HT2
          generalize playM ⟨b, lb, f⟩ (l.take k) = M at *
          obtain ⟨lb2, lo, ha, hb0, dd⟩ := (HL0.out.below hN.out.b).at k x hx
          cases ha
          obtain ⟨⟨ki, ll, ce, ti, da, na⟩, ka, kn, kc⟩ := x
          have d0 : wr.cell? ⟨lb2, lo + k * 7, none⟩ = some (.int .i64 ki) := dd 0 _ rfl
          have d1 : wr.cell? ⟨lb2, lo + k * 7 + 1, none⟩ = some (.int .i64 ll) := dd 1 _ rfl
          have d2 : wr.cell? ⟨lb2, lo + k * 7 + 2, none⟩ = some (.int .i64 ce) := dd 2 _ rfl
          have d3 : wr.cell? ⟨lb2, lo + k * 7 + 3, none⟩ = some (.int .i64 ti) := dd 3 _ rfl
          have d4 : wr.cell? ⟨lb2, lo + k * 7 + 4, none⟩ = some (.string da) := dd 4 _ rfl
          have d5 : wr.cell? ⟨lb2, lo + k * 7 + 5, none⟩ = some (.string na) := dd 5 _ rfl
          have d6 : wr.cell? ⟨lb2, lo + k * 7 + 6, none⟩ = some (.slice ka kn kc) := dd 6 _ rfl
          clear dd hx hb0
          obtain ⟨M2, hM2⟩ : ∃ M2, doM (zerosS 32) M ⟨ki, ll, ce, ti, da, na⟩ = M2 := ⟨_, rfl⟩
          simp only at HS HI2 HT2 HX
          rw [hM2] at HS HI2 HT2
          obtain ⟨AA, hAA⟩ : ∃ A, doA M ⟨ki, ll, ce, ti, da, na⟩ = A := ⟨_, rfl⟩
          have KB := hN.out.add #[.int .i64 ki, .int .i64 ll, .int .i64 ce, .int .i64 ti, .string da, .string na, .slice ka kn kc] 35
          obtain ⟨WA, hWA⟩ : ∃ W, wr.alloc (.cells #[.int .i64 ki, .int .i64 ll, .int .i64 ce, .int .i64 ti, .string da, .string na, .slice ka kn kc] 35) = W := ⟨_, rfl⟩
          rw [hWA] at KB
          have HKB := Lib.hid KB
          clear KB
          obtain ⟨r, hr⟩ : ∃ r, wr.heap.size = r := ⟨_, rfl⟩
          rw [hr] at HKB
          have HDM := Lib.hid (fun (m2 : ModT) (A : World) (q : Both w.heap.size w n cc bn c mu mh mg n2 M m2 [(r, .cells #[.int .i64 ki, .int .i64 ll, .int .i64 ce, .int .i64 ti, .string da, .string na, .slice ka kn kc] 35 (0, 0))] A) => q.doesM H7.out HI.out ⟨ki, ll, ce, ti, da, na⟩ ka kn kc HX.out.2.2.1 HX.out.2.2.2.2.2)
          have HDR := Lib.hid (fun (m1 : ModT) (A : World) (q : Both w.heap.size w n cc bn c mu mh mg n2 m1 M [(r, .cells #[.int .i64 ki, .int .i64 ll, .int .i64 ce, .int .i64 ti, .string da, .string na, .slice ka kn kc] 35 (0, 0))] A) => q.doesR HI.out HT.out ⟨ki, ll, ce, ti, da, na⟩ ka kn kc)
          have HSm := Lib.hid (fun (A : World) (q : Both w.heap.size w n cc bn c mu mh mg n2 M2 M2 [(r, .cells #[.int .i64 ki, .int .i64 ll, .int .i64 ce, .int .i64 ti, .string da, .string na, .slice ka kn kc] 35 (0, 0))] A) => q.same HI2.out HT2.out ce ll HX.out.2.2.1)
          rw [hM2, hAA] at HDM HDR
          clear hM2 hAA
          obtain ⟨ae, ad, a1, a2, a3, a4, a5, a6⟩ := AA
          go_upto_region 12 with fail
          try rw [hWA]
          try rw [hr]
          clear hWA d0 d1 d2 d3 d4 d5 d6
          refine wp_region_mv (fun ft => PlayC w.heap.size w n cc bn c mu mh mg n2 M M2 [(r, .cells #[.int .i64 ki, .int .i64 ll, .int .i64 ce, .int .i64 ti, .string da, .string na, .slice ka kn kc] 35 (0, 0))] (ft 2) (ft 5) (ft 6) (ft 7)) (by kernel_rfl) ⟨fun q => absurd rfl q, fun q => absurd rfl q, fun q => absurd rfl q, HKB.out.on (drew_below WA)⟩ ?_
          obtain ⟨S, F, hF, hFC⟩ := moved_class (fun ft => PlayC w.heap.size w n cc bn c mu mh mg n2 M M2 [(r, .cells #[.int .i64 ki, .int .i64 ll, .int .i64 ce, .int .i64 ti, .string da, .string na, .slice ka kn kc] 35 (0, 0))] (ft 2) (ft 5) (ft 6) (ft 7))
          have kz := fun s => (hFC s).choose_spec.b.kb _ (List.mem_cons_self ..)
          simp only at kz
          have k0 := fun s => (blk7c (kz s)).1
          have k1 := fun s => (blk7c (kz s)).2.1
          have k2 := fun s => (blk7c (kz s)).2.2.1
          have k3 := fun s => (blk7c (kz s)).2.2.2.1
          have k4 := fun s => (blk7c (kz s)).2.2.2.2.1
          have k5 := fun s => (blk7c (kz s)).2.2.2.2.2.1
          have k6 := fun s => (blk7c (kz s)).2.2.2.2.2.2
          clear kz
          show wpAnyM _ _ _ _ _ 17 (Array.replicate 17 false) _ _
          refine mv_read 0 hF (fun _ _ _ h => h) rfl (by kernel_rfl) (by kernel_rfl) (by kernel_rfl) (fun K hK => ?_)
          go_simp
          first | refine ⟨_, fun _ => rfl, hK _ _ ?_⟩ | refine hK _ _ ?_
          clear hK K
          refine mv_read 1 hF (fun _ _ _ h => h) rfl (by kernel_rfl) (by kernel_rfl) (by kernel_rfl) (fun K hK => ?_)
          go_simp
          first | refine ⟨_, fun _ => rfl, hK _ _ ?_⟩ | refine hK _ _ ?_
          clear hK K
          refine mv_call1 2 8 rfl (by kernel_rfl) (by kernel_rfl) (by kernel_rfl) rfl rfl eg_do24 (args := #[.pointer (some ⟨n, 0, none⟩), .agg #[.int .i64 ki, .int .i64 ll, .int .i64 ce, .int .i64 ti, .string da, .string na, .slice ka kn kc]]) rfl (u := .agg (ansC ⟨ae, ad, (a1, a2, a3, a4, a5, a6)⟩)) (fun g w9 ha h0 h => ?_) ?_
          · simp only [h0] at h
            refine (HDM.out _ w9 h.b).mono ?_
            rintro e w8 ⟨q1, q2⟩
            refine ⟨q1, ?_⟩
            show PlayC w.heap.size w n cc bn c mu mh mg n2 M M2 _ (upd g 2 _ 2) (g 5) (g 6) (g 7) w8
            rw [upd_self]
            exact ⟨fun _ q => (by cases q), h.o2, h.o3, q2⟩
          refine mv_read 3 hF (fun _ _ _ h => h) rfl (by kernel_rfl) (by kernel_rfl) (by kernel_rfl) (fun K hK => ?_)
          go_simp
          first | refine ⟨_, fun _ => rfl, hK _ _ ?_⟩ | refine hK _ _ ?_
          clear hK K
          refine mv_read 4 hF (fun _ _ _ h => h) rfl (by kernel_rfl) (by kernel_rfl) (by kernel_rfl) (fun K hK => ?_)
          go_simp
          first | refine ⟨_, fun _ => rfl, hK _ _ ?_⟩ | refine hK _ _ ?_
          clear hK K
          refine mv_call1 5 9 rfl (by kernel_rfl) (by kernel_rfl) (by kernel_rfl) rfl rfl eg_rmdo (args := #[.pointer (some ⟨n2, 0, none⟩), .agg #[.int .i64 ki, .int .i64 ll, .int .i64 ce, .int .i64 ti, .string da, .string na, .slice ka kn kc]]) rfl (u := .agg (ansC ⟨ae, ad, (a1, a2, a3, a4, a5, a6)⟩)) (fun g w9 ha h0 h => ?_) ?_
          · simp only [h0] at h
            have e1 : g 2 = some (.agg (ansC ⟨ae, ad, (a1, a2, a3, a4, a5, a6)⟩)) := (agree_on 2 ha (by kernel_rfl)).trans rfl
            refine (HDR.out _ w9 h.b).mono ?_
            rintro e w8 ⟨q1, q2⟩
            refine ⟨q1, ?_⟩
            show PlayC w.heap.size w n cc bn c mu mh mg n2 M M2 _ (g 2) (upd g 5 _ 5) (g 6) (g 7) w8
            rw [upd_self]
            exact ⟨fun _ => (by rw [e1]; exact fun q => (by cases q)), fun _ q => (by cases q), h.o3, q2⟩
          refine mv_alone 6 rfl (by kernel_rfl) rfl (fun v => v = .bool false) (fun g w9 ha h0 h D hD => ?_) ?_
          · have e2 : g 5 = some (.agg (ansC ⟨ae, ad, (a1, a2, a3, a4, a5, a6)⟩)) := (agree_on 5 ha (by kernel_rfl)).trans rfl
            have h8 : PlayC w.heap.size w n cc bn c mu mh mg n2 M M2 [(r, .cells #[.int .i64 ki, .int .i64 ll, .int .i64 ce, .int .i64 ti, .string da, .string na, .slice ka kn kc] 35 (0, 0))] (g 2) (g 5) (some (.bool false)) (g 7) w9 := ⟨h.o, fun _ => (by rw [e2]; exact fun q => (by cases q)), fun _ q => (by cases q), h.b⟩
            clear h
            have hD2 := hD (.bool false) w9 rfl (by show PlayC w.heap.size w n cc bn c mu mh mg n2 M M2 _ (g 2) (g 5) (upd g 6 _ 6) (g 7) w9; rw [upd_self]; exact h8)
            clear hD
            go_simp
            exact hD2
          rintro _ rfl
          refine mv_alone 7 rfl (by kernel_rfl) rfl (fun v => v = .bool false) (fun g w9 ha h0 h D hD => ?_) ?_
          · have e2 : g 6 = some (.bool false) := (agree_on 6 ha (by kernel_rfl)).trans rfl
            have h8 : PlayC w.heap.size w n cc bn c mu mh mg n2 M M2 [(r, .cells #[.int .i64 ki, .int .i64 ll, .int .i64 ce, .int .i64 ti, .string da, .string na, .slice ka kn kc] 35 (0, 0))] (g 2) (g 5) (g 6) (some (.bool false)) w9 := ⟨h.o, h.o2, fun _ => (by rw [e2]; exact fun q => (by cases q)), h.b⟩
            clear h
            have hD2 := hD (.bool false) w9 rfl (by show PlayC w.heap.size w n cc bn c mu mh mg n2 M M2 _ (g 2) (g 5) (g 6) (upd g 7 _ 7) w9; rw [upd_self]; exact h8)
            clear hD
            go_simp
            exact hD2
          rintro _ rfl
          refine mv_read 8 hF (fun _ _ _ h => h) rfl (by kernel_rfl) (by kernel_rfl) (by kernel_rfl) (fun K hK => ?_)
          go_simp
          first | refine ⟨_, fun _ => rfl, hK _ _ ?_⟩ | refine hK _ _ ?_
          clear hK K
          refine mv_read 9 hF (fun _ _ _ h => h) rfl (by kernel_rfl) (by kernel_rfl) (by kernel_rfl) (fun K hK => ?_)
          go_simp
          first | refine ⟨_, fun _ => rfl, hK _ _ ?_⟩ | refine hK _ _ ?_
          clear hK K
          refine mv_read 10 hF (fun _ _ _ h => h) rfl (by kernel_rfl) (by kernel_rfl) (by kernel_rfl) (fun K hK => ?_)
          go_simp
          first | refine ⟨_, fun _ => rfl, hK _ _ ?_⟩ | refine hK _ _ ?_
          clear hK K
          refine mv_read 11 hF (fun _ _ _ h => h) rfl (by kernel_rfl) (by kernel_rfl) (by kernel_rfl) (fun K hK => ?_)
          go_simp
          first | refine ⟨_, fun _ => rfl, hK _ _ ?_⟩ | refine hK _ _ ?_
          clear hK K
          refine mv_read 12 hF (fun _ _ _ h => h) rfl (by kernel_rfl) (by kernel_rfl) (by kernel_rfl) (fun K hK => ?_)
          go_simp
          first | refine ⟨_, fun _ => rfl, hK _ _ ?_⟩ | refine hK _ _ ?_
          clear hK K
          refine mv_read 13 hF (fun _ _ _ h => h) rfl (by kernel_rfl) (by kernel_rfl) (by kernel_rfl) (fun K hK => ?_)
          go_simp
          first | refine ⟨_, fun _ => rfl, hK _ _ ?_⟩ | refine hK _ _ ?_
          clear hK K
          refine mv_call1 14 10 rfl (by kernel_rfl) (by kernel_rfl) (by kernel_rfl) rfl rfl eg_same24 (args := #[.pointer (some ⟨n, 0, none⟩), .pointer (some ⟨n2, 0, none⟩), .int .i64 ce, .int .i64 ll]) rfl (u := .bool true) (fun g w9 ha h0 h => ?_) ?_
          · have e7 : g 7 = some (.bool false) := (agree_on 7 ha (by kernel_rfl)).trans rfl
            have h5 := h.o2 (h.o3 (by rw [e7]; exact fun q => (by cases q)))
            obtain ⟨x5, hx5⟩ := Option.ne_none_iff_exists'.1 h5
            obtain ⟨x2, hx2⟩ := Option.ne_none_iff_exists'.1 (h.o h5)
            have h8 := h.b
            rw [hx2, hx5] at h8
            exact (HSm.out w9 h8).mono fun e w8 ⟨q1, q2⟩ => ⟨q1, ⟨h.o, h.o2, h.o3, h.b.on q2⟩⟩
          refine mv_read 15 hF (fun _ _ _ h => h) rfl (by kernel_rfl) (by kernel_rfl) (by kernel_rfl) (fun K hK => ?_)
          go_simp
          first | refine ⟨_, fun _ => rfl, hK _ _ ?_⟩ | refine hK _ _ ?_
          clear hK K
          refine mv_read 16 hF (fun _ _ _ h => h) rfl (by kernel_rfl) (by kernel_rfl) (by kernel_rfl) (fun K hK => ?_)
          go_simp
          first | refine ⟨_, fun _ => rfl, hK _ _ ?_⟩ | refine hK _ _ ?_
          clear hK K
          refine mv_end (by kernel_rfl) ?_
          intro y8 hy8
          have HE : Hid (Both w.heap.size w n cc bn c mu mh mg n2 M2 M2 [] y8) := Lib.hid (Both.drop hy8.b)
          clear hy8 hF hFC k0 k1 k2 k3 k4 k5 k6
          go_wp2_with fail
          go_roundw
          case rel => exact ⟨k + 1, by omega, by go_num, Lib.hid (by rw [HS.out]; exact HE.out)⟩
          case measure => first | (simp [intOf]; done) | (simp [intOf]; omega)
        · obtain rfl : k = l.length := by omega
          have hki : ¬ (l.length : Int) < (l.length : Int) := by omega
          rw [HTake.out] at hN
          go_wp2_with fail
          refine (hN.out.same (HPI.out HGO.out _) (HPT.out HGO.out _) ep lba HEP.out).mono ?_
          rintro en y1 ⟨rfl, hb⟩
          have H98 := Lib.hid (hN.out.on hb)
          clear hb
          go_wp2_with fail
          refine (alive24_any _).mono ?_
          rintro en y9 ⟨rfl, hb⟩
          have H99 := Lib.hid (H98.out.on hb).b
          clear hb
          go_wp2
          exact HR.out _ _ ⟨rfl, H99.out⟩
end Go.Proofs.YtnkiokaeooopgaaGreat
