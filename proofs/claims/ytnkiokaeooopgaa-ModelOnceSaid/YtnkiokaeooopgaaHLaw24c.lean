/- The law ModelOnce: what its walk gives. -/
import Derived.Test.YtnkiokaeooopgaaHLaw24b
set_option maxRecDepth 100000
namespace Go.Proofs.Ytnkiokaeooopgaa
open Go.RowKit Ks Go.Maps
set_option linter.unusedVariables false
set_option linter.unusedSimpArgs false
/-- what more calls make of a model -/
def goesM (m : ModT) (l : List CallK) : ModT := (l.map CallK.c).foldl (doM (zerosS 32)) m
theorem goesM_take (m : ModT) (l : List CallK) (k : Nat) (x : CallK) (h : l[k]? = some x) : goesM m (l.take (k + 1)) = doM (zerosS 32) (goesM m (l.take k)) x.c := by
  unfold goesM
  rw [List.take_add_one, h, List.map_append, List.foldl_append]; rfl
theorem goesM_ok {m : ModT} (h : ModI m) (l : List CallK) : ModI (goesM m l) := dos_ok zeros32 _ h
theorem blk8a {w : World} {b : Nat} {c0 c1 c2 c3 c4 c5 c6 c7 : Value} {T : TypeId} (h : w.heap[b]? = some (.cells #[c0, c1, c2, c3, c4, c5, c6, c7] T (0, 0))) : w.cell? ⟨b, 0, none⟩ = some c0 ∧ w.cell? ⟨b, 1, none⟩ = some c1 ∧ w.cell? ⟨b, 2, none⟩ = some c2 ∧ w.cell? ⟨b, 3, none⟩ = some c3 ∧ w.cell? ⟨b, 4, none⟩ = some c4 ∧ w.cell? ⟨b, 5, none⟩ = some c5 ∧ w.cell? ⟨b, 6, none⟩ = some c6 ∧ w.cell? ⟨b, 7, none⟩ = some c7 := (blkR h).1
/-- a model of the walk's own, that has m, and blocks of the walk's own beside it -/
structure LiveK (B : Nat) (w0 w : World) (n cc bn c mu mh mg : Nat) (m : ModT) (K : List (Nat × Obj)) : Prop where
  b : Below B w0 w
  hB : B ≤ w.heap.size
  m : ∃ rv vv, ModAt w n cc bn c mu mh mg rv vv m ∧ ∀ k, FM n cc bn c mu mh mg rv vv k → B ≤ k ∧ ∀ p ∈ K, k ≠ p.1
  k : ∀ p ∈ K, w.heap[p.1]? = some p.2
section
variable {B : Nat} {w0 w w' : World} {n cc bn c mu mh mg : Nat} {m : ModT} {K : List (Nat × Obj)}
theorem Live.plain (h : Live B w0 w n cc bn c mu mh mg m) : LiveK B w0 w n cc bn c mu mh mg m [] := by
  obtain ⟨rv, vv, h1, h2⟩ := h.m
  exact ⟨h.b, h.hB, ⟨rv, vv, h1, fun k q => ⟨h2 k q, fun p hp => by cases hp⟩⟩, fun p hp => by cases hp⟩
theorem LiveK.live (h : LiveK B w0 w n cc bn c mu mh mg m K) : Live B w0 w n cc bn c mu mh mg m := by
  obtain ⟨rv, vv, h1, h2⟩ := h.m
  exact ⟨h.b, h.hB, ⟨rv, vv, h1, fun k q => (h2 k q).1⟩⟩
theorem LiveK.on (h : LiveK B w0 w n cc bn c mu mh mg m K) (hb : Below w.heap.size w w') : LiveK B w0 w' n cc bn c mu mh mg m K := by
  obtain ⟨rv, vv, h1, h2⟩ := h.m
  exact ⟨h.b.trans (hb.mono h.hB), Nat.le_trans h.hB hb.size, ⟨rv, vv, h1.below hb, h2⟩, fun p hp => (hb.block _ (lt_of_block (h.k p hp))).trans (h.k p hp)⟩
theorem LiveK.add (h : LiveK B w0 w n cc bn c mu mh mg m K) (C : Array Value) (T : TypeId) : LiveK B w0 (w.alloc (.cells C T)) n cc bn c mu mh mg m ((w.heap.size, .cells C T (0, 0)) :: K) := by
  obtain ⟨rv, vv, h1, h2⟩ := h.m
  have hb := alloc_below w (.cells C T)
  refine ⟨h.b.trans (hb.mono h.hB), Nat.le_trans h.hB hb.size, ⟨rv, vv, h1.below hb, fun k q => ⟨(h2 k q).1, fun p hp => ?_⟩⟩, fun p hp => ?_⟩
  · rcases List.mem_cons.1 hp with rfl | hp
    · have := h1.ltF k q
      show k ≠ w.heap.size
      omega
    · exact (h2 k q).2 p hp
  · rcases List.mem_cons.1 hp with rfl | hp
    · exact alloc_new _ _
    · exact (hb.block _ (lt_of_block (h.k p hp))).trans (h.k p hp)
theorem LiveK.does (h : LiveK B w0 w n cc bn c mu mh mg m K) (h7 : Seven n cc bn c mu mh mg) (hi : ModI m) (cl : CallT) (ka : Option Addr) (kn kc : Nat) (hce : -9223372036854775808 ≤ cl.epoch ∧ cl.epoch ≤ 9223372036854775807) (hna : cl.name.size ≤ maxLen) :
    Calls Try.prog 11 #[.pointer (some ⟨n, 0, none⟩), callV cl ka kn kc] w fun e w' => e = .returned (.agg (ansC (doA m cl))) ∧ LiveK B w0 w' n cc bn c mu mh mg (doM (zerosS 32) m cl) K := by
  obtain ⟨rv, vv, h1, h2⟩ := h.m
  refine (mdo_any cl ka kn kc w h1 h7 hi hce hna).mono ?_
  rintro e w' ⟨he, rv', vv', h3, h4⟩
  have hb := h4.below (fun k q => (h2 k q).1) h.hB
  refine ⟨he, ⟨h.b.trans hb, Nat.le_trans h.hB h4.size, ⟨rv', vv', h3, fun k q => ?_⟩, fun p hp => (h4.block _ (lt_of_block (h.k p hp)) (fun q => (h2 _ q).2 p hp rfl)).trans (h.k p hp)⟩⟩
  rcases h4.foot k q with q | q
  · exact h2 k q
  · exact ⟨Nat.le_trans h.hB q, fun p hp => by have := lt_of_block (h.k p hp); omega⟩
end
set_option maxRecDepth 100000 in
set_option maxHeartbeats 16000000 in
theorem monce_any (g : GeoD) (lv : Value) (l : List CallK) (mv : Value) (more : List CallK) (lba ep : Int) (w : World) (hl : Rd callE w lv l) (hc : ∀ x ∈ l, CallG x) (hl2 : Rd callE w mv more) (hc2 : ∀ x ∈ more, CallG x) (hep : I64 ep) :
    Calls Try.prog 3 #[geoV3 g.blocks g.lbas g.first, lv, mv, .int .i64 lba, .int .i64 ep] w fun e w' => e = .returned (.bool true) ∧ Below w.heap.size w w' := by
  refine calls_by fun R HR => ?_
  have HL0 := Lib.hid hl
  have HC := Lib.hid hc
  have HL2 := Lib.hid hl2
  have HC2 := Lib.hid hc2
  have HPI := Lib.hid (fun h => playM_ok (g := g) h l)
  have HEP := Lib.hid hep
  obtain ⟨la, lc, hls, -⟩ := hl2.shape
  subst hls
  clear hl hc hl2 hc2 hep
  generalize hPM : playM g l = M at *
  have HPM := Lib.hid hPM
  clear hPM
  obtain ⟨b, lb, f⟩ := g
  have H1 := Lib.hid (And.intro (Below.refl w.heap.size w) (And.intro (HL0.out) (HL2.out)))
  obtain ⟨W1, hW1⟩ : ∃ W1, w.alloc (.cells #[.int .i64 b, .int .i64 lb, .int .i64 f] 23) = W1 := ⟨_, rfl⟩
  have hbW1 : Below w.heap.size w W1 := by rw [← hW1]; exact alloc_below w _
  have kW1 : W1.heap[w.heap.size]? = some (.cells #[.int .i64 b, .int .i64 lb, .int .i64 f] 23 (0, 0)) := by rw [← hW1]; exact alloc_new w _
  have H2 := Lib.hid (And.intro (H1.out.1.trans (hbW1.mono H1.out.1.size)) (And.intro (H1.out.2.1.below hbW1) (And.intro (H1.out.2.2.below hbW1) (kW1))))
  clear hbW1 kW1
  obtain ⟨c0, c1, c2, -, -, -⟩ := blk3 H2.out.2.2.2
  go_enter Try.func3, Try.ntmps3
  go_wp2_with fail
  refine (begun_any ⟨b, lb, f⟩ lv l _ H2.out.2.1 HC.out).mono ?_
  rintro en v1 (⟨rfl, hb⟩ | ⟨n, cc, bn, c, mu, mh, mg, rfl, hv, h7, hgo, -, -⟩)
  · skip
    clear hW1 c0 c1 c2
    have H3 := Lib.hid (And.intro (H2.out.1.trans (hb.mono H2.out.1.size)) (And.intro (H2.out.2.1.below hb) (And.intro (H2.out.2.2.1.below hb) (blk_on hb H2.out.2.2.2))))
    clear hb
    go_wp2_with fail
    refine (alive24_any _).mono ?_
    rintro en v9 ⟨rfl, hb⟩
    have H99 := Lib.hid (H3.out.1.trans (hb.mono H3.out.1.size))
    clear hb
    go_wp2
    exact HR.out _ _ ⟨rfl, H99.out⟩
  · skip
    rw [HPM.out] at hv
    have HV := Lib.hid (show Live w.heap.size w v1 n cc bn c mu mh mg M from ⟨H2.out.1.trans (hv.b.mono H2.out.1.size), Nat.le_trans H2.out.1.size hv.hB, by obtain ⟨rv, vv, h1, h2⟩ := hv.m; exact ⟨rv, vv, h1, fun k q => Nat.le_trans H2.out.1.size (h2 k q)⟩⟩)
    have H7 := Lib.hid h7
    have HI := Lib.hid (HPI.out hgo)
    clear hv h7 hgo hW1 c0 c1 c2
    go_wp2_with fail
    refine (few24_any _ _ _ (HL2.out.below HV.out.b)).mono ?_
    rintro en v2 ⟨q9, rfl, hq, hb⟩
    replace HV := Lib.hid (HV.out.on hb)
    clear hb
    cases q9 with
    | false =>
      clear hq
      go_wp2_with fail
      refine (alive24_any _).mono ?_
      rintro en v9 ⟨rfl, hb⟩
      have H99 := Lib.hid ((HV.out.on hb).b)
      clear hb
      go_wp2
      exact HR.out _ _ ⟨rfl, H99.out⟩
    | true =>
      have HQ := Lib.hid (hq rfl)
      have hq60 : (more.length : Int) ≤ 60 := by have := HQ.out; omega
      clear hq
      go_wp2_with fail
      refine HV.out.epoch.mono ?_
      rintro en y9 ⟨rfl, hw⟩
      rw [hw]
      clear hw y9
      by_cases he : M.book.epoch ≤ ep
      · have hed : decide (M.book.epoch ≤ ep) = true := decide_eq_true he
        go_wp2_with fail
        refine (alive24_any _).mono ?_
        rintro en v9 ⟨rfl, hb⟩
        have H99 := Lib.hid ((HV.out.on hb).b)
        clear hb
        go_wp2
        exact HR.out _ _ ⟨rfl, H99.out⟩
      have hed : decide (M.book.epoch ≤ ep) = false := decide_eq_false he
      have HE := Lib.hid (show ep < M.book.epoch by omega)
      have HD3 : Hid (∀ w1 K, LiveK w.heap.size w w1 n cc bn c mu mh mg (M) K → Calls Try.prog 11 #[.pointer (some ⟨n, 0, none⟩), .agg #[.int .i64 3, .int .i64 lba, .int .i64 ep, .int .i64 0, .string ⟨#[]⟩, .string ⟨#[]⟩, .slice none 0 0]] w1 fun e w' => e = .returned (.agg (ansC (readA M lba ep))) ∧ LiveK w.heap.size w w' n cc bn c mu mh mg (M) K) :=
        Lib.hid fun w1 K h => (h.does H7.out HI.out ⟨3, lba, ep, 0, ⟨#[]⟩, ⟨#[]⟩⟩ none 0 0 HEP.out (Nat.zero_le _)).mono fun e w' q => q
      have HLG := Lib.hid (show Later M (goesM M more) from later_dos _ _ M)
      have HIG := Lib.hid (goesM_ok HI.out more)
      have HD4 : Hid (∀ w1 K, LiveK w.heap.size w w1 n cc bn c mu mh mg (goesM M more) K → Calls Try.prog 11 #[.pointer (some ⟨n, 0, none⟩), .agg #[.int .i64 3, .int .i64 lba, .int .i64 ep, .int .i64 0, .string ⟨#[]⟩, .string ⟨#[]⟩, .slice none 0 0]] w1 fun e w' => e = .returned (.agg (ansC (readA (goesM M more) lba ep))) ∧ LiveK w.heap.size w w' n cc bn c mu mh mg (goesM M more) K) :=
        Lib.hid fun w1 K h => (h.does H7.out HIG.out ⟨3, lba, ep, 0, ⟨#[]⟩, ⟨#[]⟩⟩ none 0 0 HEP.out (Nat.zero_le _)).mono fun e w' q => q
      have HLA := Lib.hid (read_later HLG.out lba ep HE.out)
      have HIL := Lib.hid (fun k => goesM_ok HI.out (more.take k))
      have HGT := Lib.hid (goesM_take M more)
      have HG0 := Lib.hid (show goesM M (more.take 0) = M from rfl)
      have HGA := Lib.hid (show goesM M (more.take more.length) = goesM M more by rw [List.take_length])
      have HER := Lib.hid (show -9223372036854775808 ≤ (goesM M more).book.epoch ∧ (goesM M more).book.epoch ≤ 9223372036854775807 by have := HIG.out.epoch; have := HIG.out.data; omega)
      have HD6 : Hid (∀ w1 K, LiveK w.heap.size w w1 n cc bn c mu mh mg (goesM M more) K → Calls Try.prog 11 #[.pointer (some ⟨n, 0, none⟩), .agg #[.int .i64 3, .int .i64 lba, .int .i64 (goesM M more).book.epoch, .int .i64 0, .string ⟨#[]⟩, .string ⟨#[]⟩, .slice none 0 0]] w1 fun e w' => e = .returned (.agg (ansC (readA (goesM M more) lba (goesM M more).book.epoch))) ∧ LiveK w.heap.size w w' n cc bn c mu mh mg (goesM M more) K) :=
        Lib.hid fun w1 K h => (h.does H7.out HIG.out ⟨3, lba, (goesM M more).book.epoch, 0, ⟨#[]⟩, ⟨#[]⟩⟩ none 0 0 HER.out (Nat.zero_le _)).mono fun e w' q => q
      have HD5 : Hid (∀ w1 K, LiveK w.heap.size w w1 n cc bn c mu mh mg (goesM M more) K → Calls Try.prog 11 #[.pointer (some ⟨n, 0, none⟩), .agg #[.int .i64 2, .int .i64 lba, .int .i64 0, .int .i64 0, .string ⟨#[]⟩, .string ⟨#[]⟩, .slice none 0 0]] w1 fun e w' => e = .returned (.agg (ansC (readA (goesM M more) lba (goesM M more).book.epoch))) ∧ LiveK w.heap.size w w' n cc bn c mu mh mg (goesM M more) K) :=
        Lib.hid fun w1 K h => (h.does H7.out HIG.out ⟨2, lba, 0, 0, ⟨#[]⟩, ⟨#[]⟩⟩ none 0 0 ⟨show (-9223372036854775808 : Int) ≤ 0 by decide, show (0 : Int) ≤ 9223372036854775807 by decide⟩ (Nat.zero_le _)).mono fun e w' q => q
      generalize readA M lba ep = A at *
      obtain ⟨ae, ad, p1, p2, p3, p4, p5, p6⟩ := A
      obtain ⟨WA, hWA⟩ : ∃ W, v2.alloc (.cells #[.int .i64 3, .int .i64 lba, .int .i64 ep, .int .i64 0, .string ⟨#[]⟩, .string ⟨#[]⟩, .slice none 0 0] 32) = W := ⟨_, rfl⟩
      have HA := Lib.hid (show LiveK w.heap.size w WA n cc bn c mu mh mg M [(v2.heap.size, .cells #[.int .i64 3, .int .i64 lba, .int .i64 ep, .int .i64 0, .string ⟨#[]⟩, .string ⟨#[]⟩, .slice none 0 0] 32 (0, 0))] by rw [← hWA]; exact HV.out.plain.add _ _)
      skip
      have EWA := Lib.hid hWA
      clear hWA
      go_upto_region 5 with fail
      try rw [EWA.out]
      have HKA := Lib.hid (fun (w1 : World) (M1 : ModT) K (h : LiveK w.heap.size w w1 n cc bn c mu mh mg M1 K) (hm : (v2.heap.size, .cells #[.int .i64 3, .int .i64 lba, .int .i64 ep, .int .i64 0, .string ⟨#[]⟩, .string ⟨#[]⟩, .slice none 0 0] 32 (0, 0)) ∈ K) => blk7c (h.k _ hm))
      obtain ⟨a0, a1, a2, a3, a4, a5, a6⟩ := HKA.out _ _ _ HA.out (by simp)
      go_wp2_with fail
      refine (HD3.out _ _ HA.out).mono ?_
      rintro en v3 ⟨rfl, hv3⟩
      have HV3 := Lib.hid hv3
      clear hv3 a0 a1 a2 a3 a4 a5 a6
      obtain ⟨WB, hWB⟩ : ∃ W, v3.alloc (.cells #[.int .i64 ae, .string ad, .int .i64 p1, .int .i64 p2, .int .i64 p3, .int .i64 p4, .int .i64 p5, .int .i64 p6] 37) = W := ⟨_, rfl⟩
      have HB := Lib.hid (show LiveK w.heap.size w WB n cc bn c mu mh mg M [(v3.heap.size, .cells #[.int .i64 ae, .string ad, .int .i64 p1, .int .i64 p2, .int .i64 p3, .int .i64 p4, .int .i64 p5, .int .i64 p6] 37 (0, 0)), (v2.heap.size, .cells #[.int .i64 3, .int .i64 lba, .int .i64 ep, .int .i64 0, .string ⟨#[]⟩, .string ⟨#[]⟩, .slice none 0 0] 32 (0, 0))] by rw [← hWB]; exact HV3.out.add _ _)
      have EWB := Lib.hid hWB
      clear hWB
      go_wp2_with fail
      try rw [EWB.out]
      go_loopw [42] (fun i wx => ∃ (k : Nat), k ≤ more.length ∧ i = .int .i64 k ∧ Hid (LiveK w.heap.size w wx n cc bn c mu mh mg (goesM M (more.take k)) [(v3.heap.size, .cells #[.int .i64 ae, .string ad, .int .i64 p1, .int .i64 p2, .int .i64 p3, .int .i64 p4, .int .i64 p5, .int .i64 p6] 37 (0, 0)), (v2.heap.size, .cells #[.int .i64 3, .int .i64 lba, .int .i64 ep, .int .i64 0, .string ⟨#[]⟩, .string ⟨#[]⟩, .slice none 0 0] 32 (0, 0))])) (fun i _ => more.length - (intOf i).toNat)
      case atStart => exact ⟨0, Nat.zero_le _, rfl, Lib.hid (by rw [HG0.out]; exact HB.out)⟩
      case round =>
        obtain ⟨k, hk, rfl, hN⟩ := hrel
        by_cases hlt : k < more.length
        · have hki : (k : Int) < (more.length : Int) := by omega
          obtain ⟨x, hx⟩ : ∃ x, more[k]? = some x := ⟨_, List.getElem?_eq_getElem hlt⟩
          have HX := Lib.hid (HC2.out x (List.mem_of_getElem? hx))
          have HS := Lib.hid (HGT.out k x hx)
          obtain ⟨lb2, lo, ha, hb0, dd⟩ := (HL2.out.below hN.out.b).at k x hx
          cases ha
          obtain ⟨⟨ki, ll, ce, ti, da, na⟩, ka, kn, kc⟩ := x
          have d0 : wr.cell? ⟨lb2, lo + k * 7, none⟩ = some (.int .i64 ki) := dd 0 _ rfl
          have d1 : wr.cell? ⟨lb2, lo + k * 7 + 1, none⟩ = some (.int .i64 ll) := dd 1 _ rfl
          have d2 : wr.cell? ⟨lb2, lo + k * 7 + 2, none⟩ = some (.int .i64 ce) := dd 2 _ rfl
          have d3 : wr.cell? ⟨lb2, lo + k * 7 + 3, none⟩ = some (.int .i64 ti) := dd 3 _ rfl
          have d4 : wr.cell? ⟨lb2, lo + k * 7 + 4, none⟩ = some (.string da) := dd 4 _ rfl
          have d5 : wr.cell? ⟨lb2, lo + k * 7 + 5, none⟩ = some (.string na) := dd 5 _ rfl
          have d6 : wr.cell? ⟨lb2, lo + k * 7 + 6, none⟩ = some (.slice ka kn kc) := dd 6 _ rfl
          clear dd hx hb0
          obtain ⟨W9, hW9⟩ : ∃ W, wr.alloc (.cells #[.int .i64 ki, .int .i64 ll, .int .i64 ce, .int .i64 ti, .string da, .string na, .slice ka kn kc] 32) = W := ⟨_, rfl⟩
          have bWA : Below wr.heap.size wr W9 := by rw [← hW9]; exact alloc_below _ _
          have kWA : W9.heap[wr.heap.size]? = some (.cells #[.int .i64 ki, .int .i64 ll, .int .i64 ce, .int .i64 ti, .string da, .string na, .slice ka kn kc] 32 (0, 0)) := by rw [← hW9]; exact alloc_new _ _
          obtain ⟨y0, y1, y2, y3, y4, y5, y6⟩ := blk7c kWA
          have HLW := Lib.hid (hN.out.on bWA)
          clear bWA kWA
          go_wp2_with fail
          refine (HLW.out.does H7.out (HIL.out k) ⟨ki, ll, ce, ti, da, na⟩ ka kn kc HX.out.2.2.1 HX.out.2.2.2.2.2).mono ?_
          rintro en w4 ⟨rfl, hw4⟩
          have H4 := Lib.hid hw4
          clear hw4 hW9 y0 y1 y2 y3 y4 y5 y6 d0 d1 d2 d3 d4 d5 d6
          go_wp2_with fail
          go_roundw
          case rel => exact ⟨k + 1, by omega, by go_num, Lib.hid (by rw [HS.out]; exact H4.out)⟩
          case measure => first | (simp [intOf]; done) | (simp [intOf]; omega)
        · obtain rfl : k = more.length := by omega
          have hki : ¬ (more.length : Int) < (more.length : Int) := by omega
          rw [HGA.out] at hN
          obtain ⟨a0, a1, a2, a3, a4, a5, a6⟩ := HKA.out _ _ _ hN.out (by simp)
          go_wp2_with fail
          refine (HD4.out _ _ hN.out).mono ?_
          rintro en v4 ⟨rfl, hv4⟩
          have HV4 := Lib.hid hv4
          clear hv4 a0 a1 a2 a3 a4 a5 a6
          have HLA2 := Lib.hid HLA.out
          clear HLA
          generalize readA (goesM M more) lba ep = Bb at *
          obtain ⟨be, bd, q1, q2, q3, q4, q5, q6⟩ := Bb
          obtain ⟨WC, hWC⟩ : ∃ W, v4.alloc (.cells #[.int .i64 be, .string bd, .int .i64 q1, .int .i64 q2, .int .i64 q3, .int .i64 q4, .int .i64 q5, .int .i64 q6] 37) = W := ⟨_, rfl⟩
          have HCC := Lib.hid (show LiveK w.heap.size w WC n cc bn c mu mh mg (goesM M more) [(v4.heap.size, .cells #[.int .i64 be, .string bd, .int .i64 q1, .int .i64 q2, .int .i64 q3, .int .i64 q4, .int .i64 q5, .int .i64 q6] 37 (0, 0)), (v3.heap.size, .cells #[.int .i64 ae, .string ad, .int .i64 p1, .int .i64 p2, .int .i64 p3, .int .i64 p4, .int .i64 p5, .int .i64 p6] 37 (0, 0)), (v2.heap.size, .cells #[.int .i64 3, .int .i64 lba, .int .i64 ep, .int .i64 0, .string ⟨#[]⟩, .string ⟨#[]⟩, .slice none 0 0] 32 (0, 0))] by rw [← hWC]; exact HV4.out.add _ _)
          have EWC := Lib.hid hWC
          clear hWC
          go_upto_region 12 with fail
          try rw [EWC.out]
          obtain ⟨b0, b1, b2, b3, b4, b5, b6, b7⟩ := blk8a (HCC.out.k (v3.heap.size, .cells #[.int .i64 ae, .string ad, .int .i64 p1, .int .i64 p2, .int .i64 p3, .int .i64 p4, .int .i64 p5, .int .i64 p6] 37 (0, 0)) (by simp))
          obtain ⟨e0, e1, e2, e3, e4, e5, e6, e7⟩ := blk8a (HCC.out.k (v4.heap.size, .cells #[.int .i64 be, .string bd, .int .i64 q1, .int .i64 q2, .int .i64 q3, .int .i64 q4, .int .i64 q5, .int .i64 q6] 37 (0, 0)) (by simp))
          have HER2 : Hid (∀ K w1, LiveK w.heap.size w w1 n cc bn c mu mh mg (goesM M more) K → Calls Try.prog 9 #[.pointer (some ⟨n, 0, none⟩)] w1 fun e w' => e = .returned (.int .i64 (goesM M more).book.epoch) ∧ w' = w1) := Lib.hid fun K w1 h => h.live.epoch
          have HLV := Lib.hid HCC.out.live
          clear HV4 hN HCC HKA HIL HGT HG0 HGA HLG HIG HER HD3 HD4
          generalize goesM M more = M9 at *
          generalize readA M9 lba M9.book.epoch = Z at *
          obtain ⟨ze, zd, z1, z2, z3, z4, z5, z6⟩ := Z
          generalize M9.book.epoch = ep9 at *
          rcases HLA2.out with h9 | ⟨h9, h8⟩
          · cases h9
            go_wp2_with fail
            refine (HD5.out _ _ HLV.out.plain).mono ?_
            rintro en v5 ⟨rfl, hv5⟩
            have HV5 := Lib.hid hv5
            clear hv5 b0 b1 b2 b3 b4 b5 b6 b7 e0 e1 e2 e3 e4 e5 e6 e7
            go_wp2_with fail
            refine (HER2.out _ _ HV5.out).mono ?_
            rintro en y9 ⟨rfl, hw⟩
            rw [hw]
            clear hw y9
            go_wp2_with fail
            refine (HD6.out _ _ HV5.out).mono ?_
            rintro en v6 ⟨rfl, hv6⟩
            have HV6 := Lib.hid hv6
            clear hv6
            go_wp2_with fail
            refine (alive24_any _).mono ?_
            rintro en v7 ⟨rfl, hb⟩
            have H99 := Lib.hid (HV6.out.on hb).b
            clear hb
            go_wp2
            exact HR.out _ _ ⟨rfl, H99.out⟩
          · replace h9 : ae = 0 := h9
            replace h8 : be = 13 := h8
            subst h9
            subst h8
            go_wp2_with fail
            refine (HD5.out _ _ HLV.out.plain).mono ?_
            rintro en v5 ⟨rfl, hv5⟩
            have HV5 := Lib.hid hv5
            clear hv5 b0 b1 b2 b3 b4 b5 b6 b7 e0 e1 e2 e3 e4 e5 e6 e7
            go_wp2_with fail
            refine (HER2.out _ _ HV5.out).mono ?_
            rintro en y9 ⟨rfl, hw⟩
            rw [hw]
            clear hw y9
            go_wp2_with fail
            refine (HD6.out _ _ HV5.out).mono ?_
            rintro en v6 ⟨rfl, hv6⟩
            have HV6 := Lib.hid hv6
            clear hv6
            go_wp2_with fail
            refine (alive24_any _).mono ?_
            rintro en v7 ⟨rfl, hb⟩
            have H99 := Lib.hid (HV6.out.on hb).b
            clear hb
            go_wp2
            exact HR.out _ _ ⟨rfl, H99.out⟩
end Go.Proofs.Ytnkiokaeooopgaa
