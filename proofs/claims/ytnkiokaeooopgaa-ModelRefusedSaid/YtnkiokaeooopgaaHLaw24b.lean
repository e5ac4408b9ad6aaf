/- A model behind calls; the law ModelCloses: what its walk gives. -/
import Derived.Test.YtnkiokaeooopgaaM9
import Derived.Test.YtnkiokaeooopgaaM10
set_option maxRecDepth 100000
namespace Go.Proofs.Ytnkiokaeooopgaa
open Go.RowKit Ks Go.Maps
set_option linter.unusedVariables false
set_option linter.unusedSimpArgs false
/-- a model of the walk's own, that has m -/
structure Live (B : Nat) (w0 w : World) (n cc bn c mu mh mg : Nat) (m : ModT) : Prop where
  b : Below B w0 w
  hB : B ≤ w.heap.size
  m : ∃ rv vv, ModAt w n cc bn c mu mh mg rv vv m ∧ ∀ k, FM n cc bn c mu mh mg rv vv k → B ≤ k
theorem Live.on {B : Nat} {w0 w w' : World} {n cc bn c mu mh mg : Nat} {m : ModT} (h : Live B w0 w n cc bn c mu mh mg m) (hb : Below w.heap.size w w') : Live B w0 w' n cc bn c mu mh mg m := by
  obtain ⟨rv, vv, h1, h2⟩ := h.m
  exact ⟨h.b.trans (hb.mono h.hB), Nat.le_trans h.hB hb.size, rv, vv, h1.below hb, h2⟩
theorem Live.does {B : Nat} {w0 w : World} {n cc bn c mu mh mg : Nat} {m : ModT} (h : Live B w0 w n cc bn c mu mh mg m) (h7 : Seven n cc bn c mu mh mg) (hi : ModI m) (cl : CallT) (ka : Option Addr) (kn kc : Nat) (hce : -9223372036854775808 ≤ cl.epoch ∧ cl.epoch ≤ 9223372036854775807) (hna : cl.name.size ≤ maxLen) :
    Calls Try.prog 11 #[.pointer (some ⟨n, 0, none⟩), callV cl ka kn kc] w fun e w' => e = .returned (.agg (ansC (doA m cl))) ∧ Live B w0 w' n cc bn c mu mh mg (doM (zerosS 32) m cl) ∧ (∀ k, k < B → w'.heap[k]? = w.heap[k]?) ∧ w.heap.size ≤ w'.heap.size := by
  obtain ⟨rv, vv, h1, h2⟩ := h.m
  refine (mdo_any cl ka kn kc w h1 h7 hi hce hna).mono ?_
  rintro e w' ⟨he, rv', vv', h3, h4⟩
  have hb := h4.below h2 h.hB
  refine ⟨he, ⟨h.b.trans hb, Nat.le_trans h.hB h4.size, rv', vv', h3, fun k q => ?_⟩, fun k q => hb.block k q, h4.size⟩
  rcases h4.foot k q with q | q
  · exact h2 k q
  · exact Nat.le_trans h.hB q
theorem Live.epoch {B : Nat} {w0 w : World} {n cc bn c mu mh mg : Nat} {m : ModT} (h : Live B w0 w n cc bn c mu mh mg m) : Calls Try.prog 9 #[.pointer (some ⟨n, 0, none⟩)] w fun e w' => e = .returned (.int .i64 m.book.epoch) ∧ w' = w := by
  obtain ⟨rv, vv, h1, -⟩ := h.m
  refine calls_by fun R HR => ?_
  have HT := Lib.hid (mthere_yes w h1)
  have HE := Lib.hid (bepoch_any w h1.book)
  obtain ⟨⟨z0, z1, z2, z3, z4, z5, z6, z7⟩, -⟩ := blkR h1.blk
  clear h h1
  go_enter Try.func9, Try.ntmps9
  go_wp2_with fail
  refine HT.out.mono ?_
  rintro en y9 ⟨rfl, hw⟩
  rw [hw]
  clear hw y9
  go_wp2_with fail
  refine HE.out.mono ?_
  rintro en y9 ⟨rfl, hw⟩
  rw [hw]
  clear hw y9
  go_wp2
  exact HR.out _ _ ⟨rfl, rfl⟩
/-- what calls make of a new model -/
def playM (g : GeoD) (l : List CallK) : ModT := (l.map CallK.c).foldl (doM (zerosS 32)) (newM g)
theorem playM_take (g : GeoD) (l : List CallK) (k : Nat) (x : CallK) (h : l[k]? = some x) : playM g (l.take (k + 1)) = doM (zerosS 32) (playM g (l.take k)) x.c := by
  unfold playM
  rw [List.take_add_one, h, List.map_append, List.foldl_append]; rfl
theorem zeros32 : (zerosS 32).size = 32 := by rfl
theorem playM_ok {g : GeoD} (h : geoOk g.blocks g.lbas g.first = true) (l : List CallK) : ModI (playM g l) := dos_ok zeros32 _ (newM_ok h)
set_option maxRecDepth 100000 in
set_option maxHeartbeats 8000000 in
theorem begun_any (g : GeoD) (lv : Value) (l : List CallK) (w : World) (hl : Rd callE w lv l) (hc : ∀ x ∈ l, CallG x) :
    Calls Try.prog 7 #[geoV3 g.blocks g.lbas g.first, lv] w fun e w' => (e = .returned (.pointer none) ∧ Below w.heap.size w w') ∨
      ∃ n cc bn c mu mh mg, e = .returned (.pointer (some ⟨n, 0, none⟩)) ∧ Live w.heap.size w w' n cc bn c mu mh mg (playM g l) ∧ Seven n cc bn c mu mh mg ∧ geoOk g.blocks g.lbas g.first = true ∧ g.lbas ≤ 64 ∧ l.length ≤ 60 := by
  refine calls_by fun R HR => ?_
  have HC := Lib.hid hc
  have HP := Lib.hid (playM_take g l)
  have HPI := Lib.hid (fun h => playM_ok (g := g) h)
  have HTake := Lib.hid (show playM g (l.take l.length) = playM g l by rw [List.take_length])
  have HP0 := Lib.hid (show playM g (l.take 0) = newM g from rfl)
  have HL0 := Lib.hid hl
  obtain ⟨la, lc, hls, -⟩ := hl.shape
  subst hls
  clear hl hc
  obtain ⟨b, lb, f⟩ := g
  have H1 := Lib.hid (And.intro (Below.refl w.heap.size w) (HL0.out))
  obtain ⟨W1, hW1⟩ : ∃ W1, w.alloc (.cells #[.int .i64 b, .int .i64 lb, .int .i64 f] 23) = W1 := ⟨_, rfl⟩
  have hbW1 : Below w.heap.size w W1 := by rw [← hW1]; exact alloc_below w _
  have kW1 : W1.heap[w.heap.size]? = some (.cells #[.int .i64 b, .int .i64 lb, .int .i64 f] 23 (0, 0)) := by rw [← hW1]; exact alloc_new w _
  have H2 := Lib.hid (And.intro (H1.out.1.trans (hbW1.mono H1.out.1.size)) (And.intro (H1.out.2.below hbW1) (kW1)))
  clear hbW1 kW1
  obtain ⟨c0, c1, c2, -, -, -⟩ := blk3 H2.out.2.2
  go_enter Try.func7, Try.ntmps7
  cases hgo : geoOk b lb f with
  | false =>
    go_wp2_with fail
    refine (mnew_err b lb f _ (geo_no hgo).2.1).mono ?_
    rintro en v1 ⟨rfl, hb⟩
    have H3 := Lib.hid (And.intro (H2.out.1.trans (hb.mono H2.out.1.size)) (And.intro (H2.out.2.1.below hb) (blk_on hb H2.out.2.2)))
    clear hb
    clear hW1
    go_wp2_with fail
    refine (few24_any _ _ _ H3.out.2.1).mono ?_
    rintro en v2 ⟨q9, rfl, -, hb⟩
    have H4 := Lib.hid (And.intro (H3.out.1.trans (hb.mono H3.out.1.size)) (And.intro (H3.out.2.1.below hb) (blk_on hb H3.out.2.2)))
    clear hb
    cases q9 with
    | false =>
      go_wp2
      exact HR.out _ _ (Or.inl ⟨rfl, H4.out.1⟩)
    | true =>
      go_wp2
      exact HR.out _ _ (Or.inl ⟨rfl, H4.out.1⟩)
  | true =>
    have HGO := Lib.hid hgo
    go_wp2_with fail
    refine (mnew_any ⟨b, lb, f⟩ _ hgo).mono ?_
    rintro en v1 ⟨n, cc, bn, c, mu, mh, mg, rfl, hm, h7, hb, hlow⟩
    have HLV := Lib.hid (show Live w.heap.size w v1 n cc bn c mu mh mg (newM ⟨b, lb, f⟩) from ⟨H2.out.1.trans (hb.mono H2.out.1.size), Nat.le_trans H2.out.1.size hb.size, _, _, hm, fun k q => Nat.le_trans H2.out.1.size (hlow k q)⟩)
    have H7 := Lib.hid h7
    have H3 := Lib.hid (And.intro (H2.out.1.trans (hb.mono H2.out.1.size)) (And.intro (H2.out.2.1.below hb) (blk_on hb H2.out.2.2)))
    clear hm h7 hb hlow hW1 hgo
    go_wp2_with fail
    refine (few24_any _ _ _ H3.out.2.1).mono ?_
    rintro en v1 ⟨q9, rfl, hq, hb⟩
    replace HLV := Lib.hid (HLV.out.on hb)
    have H4 := Lib.hid (And.intro (H3.out.1.trans (hb.mono H3.out.1.size)) (And.intro (H3.out.2.1.below hb) (blk_on hb H3.out.2.2)))
    clear hb
    clear c0 c1 c2
    obtain ⟨c0, c1, c2, -, -, -⟩ := blk3 H4.out.2.2
    cases q9 with
    | false =>
      go_wp2
      exact HR.out _ _ (Or.inl ⟨rfl, H4.out.1⟩)
    | true =>
      have HQ := Lib.hid (hq rfl)
      have hq60 : (l.length : Int) ≤ 60 := by have := HQ.out; omega
      clear hq
      by_cases h64 : 64 < lb
      · go_wp2
        exact HR.out _ _ (Or.inl ⟨rfl, H4.out.1⟩)
      have h64b : decide (64 < lb) = false := decide_eq_false h64
      have HLB := Lib.hid h64
      go_wp2_with fail
      go_loopw [28] (fun i wx => ∃ (k : Nat), k ≤ l.length ∧ i = .int .i64 k ∧ Hid (Live w.heap.size w wx n cc bn c mu mh mg (playM ⟨b, lb, f⟩ (l.take k)))) (fun i _ => l.length - (intOf i).toNat)
      case atStart => exact ⟨0, Nat.zero_le _, rfl, Lib.hid (by rw [HP0.out]; exact HLV.out)⟩
      case round =>
        obtain ⟨k, hk, rfl, hN⟩ := hrel
        by_cases hlt : k < l.length
        · have hki : (k : Int) < (l.length : Int) := by omega
          obtain ⟨x, hx⟩ : ∃ x, l[k]? = some x := ⟨_, List.getElem?_eq_getElem hlt⟩
          have HX := Lib.hid (HC.out x (List.mem_of_getElem? hx))
          have HS := Lib.hid (HP.out k x hx)
          obtain ⟨lb2, lo, ha, hb0, dd⟩ := (HL0.out.below hN.out.b).at k x hx
          cases ha
          obtain ⟨⟨ki, ll, ce, ti, da, na⟩, ka, kn, kc⟩ := x
          have d0 : wr.cell? ⟨lb2, lo + k * 7, none⟩ = some (.int .i64 ki) := dd 0 _ rfl
          have d1 : wr.cell? ⟨lb2, lo + k * 7 + 1, none⟩ = some (.int .i64 ll) := dd 1 _ rfl
          have d2 : wr.cell? ⟨lb2, lo + k * 7 + 2, none⟩ = some (.int .i64 ce) := dd 2 _ rfl
          have d3 : wr.cell? ⟨lb2, lo + k * 7 + 3, none⟩ = some (.int .i64 ti) := dd 3 _ rfl
          have d4 : wr.cell? ⟨lb2, lo + k * 7 + 4, none⟩ = some (.string da) := dd 4 _ rfl
          have d5 : wr.cell? ⟨lb2, lo + k * 7 + 5, none⟩ = some (.string na) := dd 5 _ rfl
          have d6 : wr.cell? ⟨lb2, lo + k * 7 + 6, none⟩ = some (.slice ka kn kc) := dd 6 _ rfl
          clear dd hx hb0
          obtain ⟨WA, hWA⟩ : ∃ W, wr.alloc (.cells #[.int .i64 ki, .int .i64 ll, .int .i64 ce, .int .i64 ti, .string da, .string na, .slice ka kn kc] 32) = W := ⟨_, rfl⟩
          have bWA : Below wr.heap.size wr WA := by rw [← hWA]; exact alloc_below _ _
          have kWA : WA.heap[wr.heap.size]? = some (.cells #[.int .i64 ki, .int .i64 ll, .int .i64 ce, .int .i64 ti, .string da, .string na, .slice ka kn kc] 32 (0, 0)) := by rw [← hWA]; exact alloc_new _ _
          obtain ⟨y0, y1, y2, y3, y4, y5, y6⟩ := blk7c kWA
          have HLW := Lib.hid (hN.out.on bWA)
          clear bWA kWA
          go_wp2_with fail
          refine (HLW.out.does H7.out (HPI.out HGO.out _) ⟨ki, ll, ce, ti, da, na⟩ ka kn kc HX.out.2.2.1 HX.out.2.2.2.2.2).mono ?_
          rintro en w4 ⟨rfl, hw4, -⟩
          have H4 := Lib.hid hw4
          clear hw4 hWA y0 y1 y2 y3 y4 y5 y6 d0 d1 d2 d3 d4 d5 d6
          go_wp2_with fail
          go_roundw
          case rel => exact ⟨k + 1, by omega, by go_num, Lib.hid (by rw [HS.out]; exact H4.out)⟩
          case measure => first | (simp [intOf]; done) | (simp [intOf]; omega)
        · obtain rfl : k = l.length := by omega
          have hki : ¬ (l.length : Int) < (l.length : Int) := by omega
          rw [HTake.out] at hN
          go_wp2
          exact HR.out _ _ (Or.inr ⟨n, cc, bn, c, mu, mh, mg, rfl, hN.out, H7.out, HGO.out, by have := HLB.out; show lb ≤ 64; omega, HQ.out⟩)
set_option maxRecDepth 100000 in
set_option maxHeartbeats 8000000 in
theorem mcloses_any (g : GeoD) (lv : Value) (l : List CallK) (w : World) (hl : Rd callE w lv l) (hc : ∀ x ∈ l, CallG x) :
    Calls Try.prog 4 #[geoV3 g.blocks g.lbas g.first, lv] w fun e w' => e = .returned (.bool true) ∧ Below w.heap.size w w' := by
  refine calls_by fun R HR => ?_
  have HL0 := Lib.hid hl
  have HC := Lib.hid hc
  have HPI := Lib.hid (fun h => playM_ok (g := g) h l)
  clear hl hc
  generalize hPM : playM g l = M at *
  have HPM := Lib.hid hPM
  clear hPM
  obtain ⟨b, lb, f⟩ := g
  have H1 := Lib.hid (And.intro (Below.refl w.heap.size w) (HL0.out))
  obtain ⟨W1, hW1⟩ : ∃ W1, w.alloc (.cells #[.int .i64 b, .int .i64 lb, .int .i64 f] 23) = W1 := ⟨_, rfl⟩
  have hbW1 : Below w.heap.size w W1 := by rw [← hW1]; exact alloc_below w _
  have kW1 : W1.heap[w.heap.size]? = some (.cells #[.int .i64 b, .int .i64 lb, .int .i64 f] 23 (0, 0)) := by rw [← hW1]; exact alloc_new w _
  have H2 := Lib.hid (And.intro (H1.out.1.trans (hbW1.mono H1.out.1.size)) (And.intro (H1.out.2.below hbW1) (kW1)))
  clear hbW1 kW1
  obtain ⟨c0, c1, c2, -, -, -⟩ := blk3 H2.out.2.2
  go_enter Try.func4, Try.ntmps4
  go_wp2_with fail
  refine (begun_any ⟨b, lb, f⟩ lv l _ H2.out.2.1 HC.out).mono ?_
  rintro en v1 (⟨rfl, hb⟩ | ⟨n, cc, bn, c, mu, mh, mg, rfl, hv, h7, hgo, -, -⟩)
  · skip
    clear hW1 c0 c1 c2
    have H3 := Lib.hid (And.intro (H2.out.1.trans (hb.mono H2.out.1.size)) (And.intro (H2.out.2.1.below hb) (blk_on hb H2.out.2.2)))
    clear hb
    go_wp2_with fail
    refine (alive24_any _).mono ?_
    rintro en v1 ⟨rfl, hb⟩
    have H4 := Lib.hid (And.intro (H3.out.1.trans (hb.mono H3.out.1.size)) (And.intro (H3.out.2.1.below hb) (blk_on hb H3.out.2.2)))
    clear hb
    go_wp2
    exact HR.out _ _ ⟨rfl, H4.out.1⟩
  · skip
    rw [HPM.out] at hv
    have HV := Lib.hid (show Live w.heap.size w v1 n cc bn c mu mh mg M from ⟨H2.out.1.trans (hv.b.mono H2.out.1.size), Nat.le_trans H2.out.1.size hv.hB, by obtain ⟨rv, vv, h1, h2⟩ := hv.m; exact ⟨rv, vv, h1, fun k q => Nat.le_trans H2.out.1.size (h2 k q)⟩⟩)
    have H7 := Lib.hid h7
    have HI := Lib.hid (HPI.out hgo)
    clear hv h7 hgo hW1 c0 c1 c2
    have HCT := Lib.hid (close_tells HI.out zeros32)
    have HD10 : Hid (∀ w1, Live w.heap.size w w1 n cc bn c mu mh mg M → Calls Try.prog 11 #[.pointer (some ⟨n, 0, none⟩), .agg #[.int .i64 10, .int .i64 0, .int .i64 0, .int .i64 0, .string ⟨#[]⟩, .string ⟨#[]⟩, .slice none 0 0]] w1 fun e w' => e = .returned (.agg #[.int .i64 0, .string ⟨#[]⟩, .int .i64 M.book.epoch, .int .i64 M.now, .int .i64 (roomM M), .int .i64 M.recs.length, .int .i64 (placesN M M.geo.first), .int .i64 M.book.holds.length]) ∧ Live w.heap.size w w' n cc bn c mu mh mg (M)) :=
      Lib.hid fun w1 h => (h.does H7.out HI.out ⟨10, 0, 0, 0, ⟨#[]⟩, ⟨#[]⟩⟩ none 0 0 (by decide) (by decide)).mono fun e w' q => ⟨q.1, q.2.1⟩
    have HD5 : Hid (∀ w1, Live w.heap.size w w1 n cc bn c mu mh mg M → Calls Try.prog 11 #[.pointer (some ⟨n, 0, none⟩), .agg #[.int .i64 5, .int .i64 0, .int .i64 0, .int .i64 0, .string ⟨#[]⟩, .string ⟨#[]⟩, .slice none 0 0]] w1 fun e w' => e = .returned (.agg #[.int .i64 (closeE M), .string ⟨#[]⟩, .int .i64 0, .int .i64 0, .int .i64 0, .int .i64 0, .int .i64 0, .int .i64 0]) ∧ Live w.heap.size w w' n cc bn c mu mh mg (closeM M (zerosS 32))) :=
      Lib.hid fun w1 h => (h.does H7.out HI.out ⟨5, 0, 0, 0, ⟨#[]⟩, ⟨#[]⟩⟩ none 0 0 (by decide) (by decide)).mono fun e w' q => ⟨q.1, q.2.1⟩
    have HEP := Lib.hid HI.out.epoch
    generalize placesN M M.geo.first = PN at *
    generalize roomM M = RM at *
    have hf1 : ∀ w, (Instr.field 37 (.agg #[.int .i64 0, .string ⟨#[]⟩, .int .i64 M.book.epoch, .int .i64 M.now, .int .i64 RM, .int .i64 M.recs.length, .int .i64 PN, .int .i64 M.book.holds.length]) 2).run Try.prog w = .ok (.agg #[.int .i64 M.book.epoch, .int .i64 M.now, .int .i64 RM, .int .i64 M.recs.length, .int .i64 PN, .int .i64 M.book.holds.length]) w := fun _ => by kernel_rfl
    have hf2 : ∀ w, (Instr.field 35 (.agg #[.int .i64 M.book.epoch, .int .i64 M.now, .int .i64 RM, .int .i64 M.recs.length, .int .i64 PN, .int .i64 M.book.holds.length]) 2).run Try.prog w = .ok (.int .i64 RM) w := fun _ => by kernel_rfl
    go_wp2_with fail
    refine (HV.out.epoch).mono ?_
    rintro en y9 ⟨rfl, hw⟩
    rw [hw]
    clear hw y9
    go_wp2_with fail
    refine (HD10.out _ HV.out).mono ?_
    rintro en v2 ⟨rfl, hv2⟩
    have HV2 := Lib.hid hv2
    clear hv2
    rcases HCT.out with ⟨hc1, hc2⟩ | ⟨hc1, hc2, hc3⟩
    all_goals rw [hc1] at HD5
    · skip
      have HC2 := Lib.hid hc2
      clear hc1 hc2
      generalize closeM M (zerosS 32) = M3 at *
      have hf3 : ∀ w, (Instr.field 37 (.agg #[.int .i64 0, .string ⟨#[]⟩, .int .i64 0, .int .i64 0, .int .i64 0, .int .i64 0, .int .i64 0, .int .i64 0]) 0).run Try.prog w = .ok (.int .i64 0) w := fun _ => by kernel_rfl
      go_wp2_with fail
      refine (HD5.out _ HV2.out).mono ?_
      rintro en v3 ⟨rfl, hv3⟩
      have HV3 := Lib.hid hv3
      clear hv3
      have hwr : wrap64 (M.book.epoch + 1) = M.book.epoch + 1 := by have := HEP.out; have := HI.out.data; unfold wrap64; omega
      go_wp2_with fail
      refine HV3.out.epoch.mono ?_
      rintro en y9 ⟨rfl, hw⟩
      rw [hw, HC2.out]
      clear hw y9
      go_wp2_with fail
      refine (alive24_any _).mono ?_
      rintro en v4 ⟨rfl, hb⟩
      have H9 := Lib.hid (HV3.out.on hb).b
      clear hb
      go_wp2
      exact HR.out _ _ ⟨rfl, H9.out⟩
    · skip
      rw [hc2] at HD5
      clear hc1 hc2
      have hf3 : ∀ w, (Instr.field 37 (.agg #[.int .i64 6, .string ⟨#[]⟩, .int .i64 0, .int .i64 0, .int .i64 0, .int .i64 0, .int .i64 0, .int .i64 0]) 0).run Try.prog w = .ok (.int .i64 6) w := fun _ => by kernel_rfl
      by_cases hr0 : RM = 0
      · subst hr0
        clear hc3
        go_wp2_with fail
        refine (HD5.out _ HV2.out).mono ?_
        rintro en v3 ⟨rfl, hv3⟩
        have HV3 := Lib.hid hv3
        clear hv3
        go_wp2_with fail
        refine HV3.out.epoch.mono ?_
        rintro en y9 ⟨rfl, hw⟩
        rw [hw]
        clear hw y9
        go_wp2_with fail
        refine (alive24_any _).mono ?_
        rintro en v4 ⟨rfl, hb⟩
        have H9 := Lib.hid (HV3.out.on hb).b
        clear hb
        go_wp2
        exact HR.out _ _ ⟨rfl, H9.out⟩
      have hr0b : (RM == 0) = false := by simpa using hr0
      have HEQ := Lib.hid (hc3.resolve_left hr0)
      clear hc3
      go_wp2_with fail
      refine (HD5.out _ HV2.out).mono ?_
      rintro en v3 ⟨rfl, hv3⟩
      have HV3 := Lib.hid hv3
      clear hv3
      have hepb : (M.book.epoch == 4294967295) = true := by simpa using HEQ.out
      go_wp2_with fail
      refine (alive24_any _).mono ?_
      rintro en v4 ⟨rfl, hb⟩
      have H9 := Lib.hid (HV3.out.on hb).b
      clear hb
      go_wp2
      exact HR.out _ _ ⟨rfl, H9.out⟩
end Go.Proofs.Ytnkiokaeooopgaa
