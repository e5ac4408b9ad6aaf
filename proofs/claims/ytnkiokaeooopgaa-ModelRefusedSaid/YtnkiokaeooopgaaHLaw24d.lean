/- The law ModelRefused: what its walk gives. -/
import Derived.Test.YtnkiokaeooopgaaHLaw24b
import Derived.Test.YtnkiokaeooopgaaM11
set_option maxRecDepth 100000
namespace Ks
open Go Go.RowKit
theorem refused_stays (z : ByteArray) (m : ModT) (c : CallT) (h : (doA m c).err ≠ 0) : doM z m c = m := by
  unfold doA at h
  unfold doM
  split
  · rename_i k; rw [if_pos k] at h; exact if_neg h
  · rename_i k
    rw [if_neg k] at h
    split
    · rename_i k5
      rw [if_neg (by omega), if_neg (by omega), if_neg (by omega), if_pos k5] at h
      exact if_neg h
    · rename_i k5
      split
      · rename_i k6
        rw [if_neg (by omega), if_neg (by omega), if_neg (by omega), if_neg k5, if_pos k6] at h
        exact if_neg h
      · rename_i k6
        split
        · rename_i k11
          rw [if_neg (by omega), if_neg (by omega), if_neg (by omega), if_neg k5, if_neg k6, if_neg (by omega), if_pos k11] at h
          exact if_neg h
        · rfl
theorem asks_stays (z : ByteArray) (m : ModT) (c : CallT) (h : c.kind = 2 ∨ c.kind = 3 ∨ c.kind = 4 ∨ c.kind = 10) : doM z m c = m := by
  unfold doM
  rw [if_neg (by omega), if_neg (by omega), if_neg (by omega), if_neg (by omega)]
end Ks
namespace Go.Proofs.Ytnkiokaeooopgaa
open Go.RowKit Ks Go.Maps
set_option linter.unusedVariables false
set_option linter.unusedSimpArgs false
theorem blk8b {w : World} {b : Nat} {c0 c1 c2 c3 c4 c5 c6 c7 : Value} {T : TypeId} (h : w.heap[b]? = some (.cells #[c0, c1, c2, c3, c4, c5, c6, c7] T (0, 0))) : w.cell? ⟨b, 0, none⟩ = some c0 ∧ w.cell? ⟨b, 1, none⟩ = some c1 ∧ w.cell? ⟨b, 2, none⟩ = some c2 ∧ w.cell? ⟨b, 3, none⟩ = some c3 ∧ w.cell? ⟨b, 4, none⟩ = some c4 ∧ w.cell? ⟨b, 5, none⟩ = some c5 ∧ w.cell? ⟨b, 6, none⟩ = some c6 ∧ w.cell? ⟨b, 7, none⟩ = some c7 := (blkR h).1
/-- two models of the walk's own, apart, and blocks of its own beside them -/
structure Duo (B : Nat) (w0 w : World) (n cc bn c mu mh mg n2 cc2 bn2 c2 mu2 mh2 mg2 : Nat) (m m2 : ModT) (K : List (Nat × Obj)) : Prop where
  b : Below B w0 w
  hB : B ≤ w.heap.size
  m : ∃ rv vv rv2 vv2, ModAt w n cc bn c mu mh mg rv vv m ∧ ModAt w n2 cc2 bn2 c2 mu2 mh2 mg2 rv2 vv2 m2 ∧ (∀ k, FM n cc bn c mu mh mg rv vv k → B ≤ k ∧ ¬ FM n2 cc2 bn2 c2 mu2 mh2 mg2 rv2 vv2 k ∧ ∀ p ∈ K, k ≠ p.1) ∧ (∀ k, FM n2 cc2 bn2 c2 mu2 mh2 mg2 rv2 vv2 k → B ≤ k ∧ ∀ p ∈ K, k ≠ p.1)
  k : ∀ p ∈ K, w.heap[p.1]? = some p.2
section
variable {B : Nat} {w0 w w' : World} {n cc bn c mu mh mg n2 cc2 bn2 c2 mu2 mh2 mg2 : Nat} {m m2 : ModT} {K : List (Nat × Obj)}
theorem Duo.start (h : Live B w0 w n cc bn c mu mh mg m) {rv2 vv2 : Value} (h2 : ModAt w' n2 cc2 bn2 c2 mu2 mh2 mg2 rv2 vv2 m2) (hf : ∀ k, FM n2 cc2 bn2 c2 mu2 mh2 mg2 rv2 vv2 k → w.heap.size ≤ k) (hb : Below w.heap.size w w') : Duo B w0 w' n cc bn c mu mh mg n2 cc2 bn2 c2 mu2 mh2 mg2 m m2 [] := by
  obtain ⟨rv, vv, h1, h3⟩ := h.m
  exact ⟨h.b.trans (hb.mono h.hB), Nat.le_trans h.hB hb.size, ⟨rv, vv, rv2, vv2, h1.below hb, h2, fun k q => ⟨h3 k q, fun q2 => by have := h1.ltF k q; have := hf k q2; omega, fun p hp => by cases hp⟩, fun k q => ⟨Nat.le_trans h.hB (hf k q), fun p hp => by cases hp⟩⟩, fun p hp => by cases hp⟩
theorem Duo.swap (h : Duo B w0 w n cc bn c mu mh mg n2 cc2 bn2 c2 mu2 mh2 mg2 m m2 K) : Duo B w0 w n2 cc2 bn2 c2 mu2 mh2 mg2 n cc bn c mu mh mg m2 m K := by
  obtain ⟨rv, vv, rv2, vv2, h1, h2, h3, h4⟩ := h.m
  exact ⟨h.b, h.hB, ⟨rv2, vv2, rv, vv, h2, h1, fun k q => ⟨(h4 k q).1, fun q2 => (h3 k q2).2.1 q, (h4 k q).2⟩, fun k q => ⟨(h3 k q).1, (h3 k q).2.2⟩⟩, h.k⟩
theorem Duo.on (h : Duo B w0 w n cc bn c mu mh mg n2 cc2 bn2 c2 mu2 mh2 mg2 m m2 K) (hb : Below w.heap.size w w') : Duo B w0 w' n cc bn c mu mh mg n2 cc2 bn2 c2 mu2 mh2 mg2 m m2 K := by
  obtain ⟨rv, vv, rv2, vv2, h1, h2, h3, h4⟩ := h.m
  exact ⟨h.b.trans (hb.mono h.hB), Nat.le_trans h.hB hb.size, ⟨rv, vv, rv2, vv2, h1.below hb, h2.below hb, h3, h4⟩, fun p hp => (hb.block _ (lt_of_block (h.k p hp))).trans (h.k p hp)⟩
theorem Duo.add (h : Duo B w0 w n cc bn c mu mh mg n2 cc2 bn2 c2 mu2 mh2 mg2 m m2 K) (C : Array Value) (T : TypeId) : Duo B w0 (w.alloc (.cells C T)) n cc bn c mu mh mg n2 cc2 bn2 c2 mu2 mh2 mg2 m m2 ((w.heap.size, .cells C T (0, 0)) :: K) := by
  have hb := alloc_below w (.cells C T)
  have h9 := h.on hb
  obtain ⟨rv, vv, rv2, vv2, h1, h2, h3, h4⟩ := h.m
  refine ⟨h9.b, h9.hB, ⟨rv, vv, rv2, vv2, h1.below hb, h2.below hb, fun k q => ⟨(h3 k q).1, (h3 k q).2.1, fun p hp => ?_⟩, fun k q => ⟨(h4 k q).1, fun p hp => ?_⟩⟩, fun p hp => ?_⟩
  · rcases List.mem_cons.1 hp with rfl | hp
    · have := h1.ltF k q
      show k ≠ w.heap.size
      omega
    · exact (h3 k q).2.2 p hp
  · rcases List.mem_cons.1 hp with rfl | hp
    · have := h2.ltF k q
      show k ≠ w.heap.size
      omega
    · exact (h4 k q).2 p hp
  · rcases List.mem_cons.1 hp with rfl | hp
    · exact alloc_new _ _
    · exact h9.k p hp
theorem Duo.does (h : Duo B w0 w n cc bn c mu mh mg n2 cc2 bn2 c2 mu2 mh2 mg2 m m2 K) (h7 : Seven n cc bn c mu mh mg) (hi : ModI m) (cl : CallT) (ka : Option Addr) (kn kc : Nat) (hce : -9223372036854775808 ≤ cl.epoch ∧ cl.epoch ≤ 9223372036854775807) (hna : cl.name.size ≤ maxLen) :
    Calls Try.prog 11 #[.pointer (some ⟨n, 0, none⟩), callV cl ka kn kc] w fun e w' => e = .returned (.agg (ansC (doA m cl))) ∧ Duo B w0 w' n cc bn c mu mh mg n2 cc2 bn2 c2 mu2 mh2 mg2 (doM (zerosS 32) m cl) m2 K := by
  obtain ⟨rv, vv, rv2, vv2, h1, h2, h3, h4⟩ := h.m
  refine (mdo_any cl ka kn kc w h1 h7 hi hce hna).mono ?_
  rintro e w' ⟨he, rv', vv', h5, h6⟩
  have hb := h6.below (fun k q => (h3 k q).1) h.hB
  refine ⟨he, ⟨h.b.trans hb, Nat.le_trans h.hB h6.size, ⟨rv', vv', rv2, vv2, h5, h2.sameF fun k q => h6.block k (h2.ltF k q) (fun q2 => (h3 k q2).2.1 q), fun k q => ?_, h4⟩, fun p hp => (h6.block _ (lt_of_block (h.k p hp)) (fun q => (h3 _ q).2.2 p hp rfl)).trans (h.k p hp)⟩⟩
  rcases h6.foot k q with q | q
  · exact h3 k q
  · exact ⟨Nat.le_trans h.hB q, fun q2 => by have := h2.ltF k q2; omega, fun p hp => by have := lt_of_block (h.k p hp); omega⟩
theorem Duo.same (h : Duo B w0 w n cc bn c mu mh mg n2 cc2 bn2 c2 mu2 mh2 mg2 m m K) (hi : ModI m) : Calls Try.prog 13 #[.pointer (some ⟨n, 0, none⟩), .pointer (some ⟨n2, 0, none⟩)] w fun e w' => e = .returned (.bool true) ∧ Below w.heap.size w w' := by
  obtain ⟨rv, vv, rv2, vv2, h1, h2, -⟩ := h.m
  have := hi.used
  have := hi.data
  exact msame_any w h1 h2 (by have := hi.rlen; omega) (by have := hi.vlen; omega)
end
set_option maxRecDepth 100000 in
set_option maxHeartbeats 16000000 in
theorem mrefused_any (g : GeoD) (lv : Value) (l : List CallK) (x : CallT) (ka : Option Addr) (kn kc : Nat) (w : World) (hl : Rd callE w lv l) (hc : ∀ x ∈ l, CallG x) (hx : CallG ⟨x, ka, kn, kc⟩) :
    Calls Try.prog 5 #[geoV3 g.blocks g.lbas g.first, lv, callV x ka kn kc] w fun e w' => e = .returned (.bool true) ∧ Below w.heap.size w w' := by
  refine calls_by fun R HR => ?_
  have HL0 := Lib.hid hl
  have HC := Lib.hid hc
  have HX := Lib.hid hx
  have HPI := Lib.hid (fun h => playM_ok (g := g) h l)
  clear hl hc hx
  generalize hPM : playM g l = M at *
  have HPM := Lib.hid hPM
  clear hPM
  have HRS := Lib.hid (refused_stays (zerosS 32) M x)
  have HAS := Lib.hid (asks_stays (zerosS 32) M x)
  obtain ⟨AA, hAA⟩ : ∃ A, doA M x = A := ⟨_, rfl⟩
  obtain ⟨MM, hMM⟩ : ∃ A, doM (zerosS 32) M x = A := ⟨_, rfl⟩
  have HAA := Lib.hid hAA
  have HMM := Lib.hid hMM
  simp only [hAA, hMM] at HRS HAS
  clear hAA hMM
  obtain ⟨ae, ad, p1, p2, p3, p4, p5, p6⟩ := AA
  obtain ⟨b, lb, f⟩ := g
  obtain ⟨ki, ll, ce, ti, da, na⟩ := x
  simp only at HRS HAS
  have H1 := Lib.hid (And.intro (Below.refl w.heap.size w) (HL0.out))
  obtain ⟨W1, hW1⟩ : ∃ W1, w.alloc (.cells #[.int .i64 b, .int .i64 lb, .int .i64 f] 23) = W1 := ⟨_, rfl⟩
  have hbW1 : Below w.heap.size w W1 := by rw [← hW1]; exact alloc_below w _
  have kW1 : W1.heap[w.heap.size]? = some (.cells #[.int .i64 b, .int .i64 lb, .int .i64 f] 23 (0, 0)) := by rw [← hW1]; exact alloc_new w _
  have H2 := Lib.hid (And.intro (H1.out.1.trans (hbW1.mono H1.out.1.size)) (And.intro (H1.out.2.below hbW1) (kW1)))
  clear hbW1 kW1
  obtain ⟨W2, hW2⟩ : ∃ W2, W1.alloc (.cells #[.int .i64 ki, .int .i64 ll, .int .i64 ce, .int .i64 ti, .string da, .string na, .slice ka kn kc] 32) = W2 := ⟨_, rfl⟩
  have hbW2 : Below W1.heap.size W1 W2 := by rw [← hW2]; exact alloc_below W1 _
  have kW2 : W2.heap[W1.heap.size]? = some (.cells #[.int .i64 ki, .int .i64 ll, .int .i64 ce, .int .i64 ti, .string da, .string na, .slice ka kn kc] 32 (0, 0)) := by rw [← hW2]; exact alloc_new W1 _
  have H3 := Lib.hid (And.intro (H2.out.1.trans (hbW2.mono H2.out.1.size)) (And.intro (H2.out.2.1.below hbW2) (And.intro (blk_on hbW2 H2.out.2.2) (kW2))))
  clear hbW2 kW2
  obtain ⟨c0, c1, c2, -, -, -⟩ := blk3 H3.out.2.2.1
  go_enter Try.func5, Try.ntmps5
  go_wp2_with fail
  refine (begun_any ⟨b, lb, f⟩ lv l _ H3.out.2.1 HC.out).mono ?_
  rintro en v1 (⟨rfl, hb⟩ | ⟨n, cc, bn, c, mu, mh, mg, rfl, hv, h7, hgo, -, -⟩)
  · skip
    clear hW1 hW2 c0 c1 c2
    have H4 := Lib.hid (And.intro (H3.out.1.trans (hb.mono H3.out.1.size)) (And.intro (H3.out.2.1.below hb) (And.intro (blk_on hb H3.out.2.2.1) (blk_on hb H3.out.2.2.2))))
    clear hb
    go_wp2_with fail
    refine (alive24_any _).mono ?_
    rintro en v9 ⟨rfl, hb⟩
    have H99 := Lib.hid (H4.out.1.trans (hb.mono H4.out.1.size))
    clear hb
    go_wp2
    exact HR.out _ _ ⟨rfl, H99.out⟩
  · skip
    rw [HPM.out] at hv
    have HV := Lib.hid hv
    have H7 := Lib.hid h7
    have HI := Lib.hid (HPI.out hgo)
    clear hv h7 hgo hW1 hW2 c0 c1 c2
    have HBW := Lib.hid (show ∀ w9, Below W2.heap.size W2 w9 → Below w.heap.size w w9 from fun w9 h => H3.out.1.trans (h.mono H3.out.1.size))
    have HCB := Lib.hid (show ∀ w9, Below W2.heap.size W2 w9 → w9.heap[W1.heap.size]? = some (.cells #[.int .i64 ki, .int .i64 ll, .int .i64 ce, .int .i64 ti, .string da, .string na, .slice ka kn kc] 32 (0, 0)) from fun w9 h => (h.block _ (lt_of_block H3.out.2.2.2)).trans H3.out.2.2.2)
    obtain ⟨x0, x1, x2, x3, x4, x5, x6⟩ := blk7c (HCB.out _ HV.out.b)
    obtain ⟨WS, hWS⟩ : ∃ W9, v1.alloc (.cells #[.int .i64 ki, .int .i64 ll, .int .i64 ce, .int .i64 ti, .string da, .string na, .slice ka kn kc] 32) = W9 := ⟨_, rfl⟩
    have bWS : Below v1.heap.size v1 WS := by rw [← hWS]; exact alloc_below _ _
    have rWS : Rd callE WS (.slice (some ⟨v1.heap.size, 0, none⟩) 1 1) [⟨⟨ki, ll, ce, ti, da, na⟩, ka, kn, kc⟩] := by rw [← hWS]; exact Rd.single (E := callE) ⟨⟨ki, ll, ce, ti, da, na⟩, ka, kn, kc⟩ (alloc_new _ _) rfl
    have HVS := Lib.hid (HV.out.on bWS)
    have HRS9 := Lib.hid rWS
    clear bWS rWS
    go_wp2_with fail
    refine (few24_any _ _ _ HRS9.out).mono ?_
    rintro en v2 ⟨q9, rfl, hq, hb⟩
    have HV2 := Lib.hid (HVS.out.on hb)
    clear hb hq hWS x0 x1 x2 x3 x4 x5 x6
    cases q9 with
    | false =>
      go_wp2_with fail
      refine (alive24_any _).mono ?_
      rintro en v9 ⟨rfl, hb⟩
      have H99 := Lib.hid (HBW.out _ (HV2.out.on hb).b)
      clear hb
      go_wp2
      exact HR.out _ _ ⟨rfl, H99.out⟩
    | true =>
      obtain ⟨rv9, vv9, hm9, -⟩ := HV2.out.m
      have HCo := Lib.hid (mcopy_any v2 hm9 HI.out)
      clear hm9
      go_wp2_with fail
      refine HCo.out.mono ?_
      rintro en v3 ⟨n2, cc2, bn2, c2, mu2, mh2, mg2, rv2, vv2, rfl, h2, h72, hf2, hb⟩
      have HD := Lib.hid (Duo.start HV2.out h2 hf2 hb)
      have H72 := Lib.hid h72
      clear h2 h72 hf2 hb HCo
      go_wp2_with fail
      refine (HD.out.same HI.out).mono ?_
      rintro en w4 ⟨rfl, hb⟩
      have HD4 := Lib.hid (HD.out.on hb)
      clear hb
      have HDo : Hid (∀ w1 K, Duo W2.heap.size W2 w1 n cc bn c mu mh mg n2 cc2 bn2 c2 mu2 mh2 mg2 M M K → Calls Try.prog 11 #[.pointer (some ⟨n, 0, none⟩), .agg #[.int .i64 ki, .int .i64 ll, .int .i64 ce, .int .i64 ti, .string da, .string na, .slice ka kn kc]] w1 fun e w' => e = .returned (.agg #[.int .i64 ae, .string ad, .int .i64 p1, .int .i64 p2, .int .i64 p3, .int .i64 p4, .int .i64 p5, .int .i64 p6]) ∧ Duo W2.heap.size W2 w' n cc bn c mu mh mg n2 cc2 bn2 c2 mu2 mh2 mg2 MM M K) := Lib.hid fun w1 K h => (h.does H7.out HI.out ⟨ki, ll, ce, ti, da, na⟩ ka kn kc HX.out.2.2.1 HX.out.2.2.2.2.2).mono fun e w' q => by rw [HAA.out, HMM.out] at q; exact q
      have HDo2 : Hid (∀ w1 K, Duo W2.heap.size W2 w1 n cc bn c mu mh mg n2 cc2 bn2 c2 mu2 mh2 mg2 MM M K → Calls Try.prog 11 #[.pointer (some ⟨n2, 0, none⟩), .agg #[.int .i64 ki, .int .i64 ll, .int .i64 ce, .int .i64 ti, .string da, .string na, .slice ka kn kc]] w1 fun e w' => e = .returned (.agg #[.int .i64 ae, .string ad, .int .i64 p1, .int .i64 p2, .int .i64 p3, .int .i64 p4, .int .i64 p5, .int .i64 p6]) ∧ Duo W2.heap.size W2 w' n cc bn c mu mh mg n2 cc2 bn2 c2 mu2 mh2 mg2 MM MM K) := Lib.hid fun w1 K h => (h.swap.does H72.out HI.out ⟨ki, ll, ce, ti, da, na⟩ ka kn kc HX.out.2.2.1 HX.out.2.2.2.2.2).mono fun e w' q => by rw [HAA.out, HMM.out] at q; exact ⟨q.1, q.2.swap⟩
      have HI2 : Hid (ModI MM) := Lib.hid (by rw [← HMM.out]; exact do_ok _ HI.out zeros32)
      obtain ⟨x0, x1, x2, x3, x4, x5, x6⟩ := blk7c (HCB.out _ HD4.out.b)
      go_wp2_with fail
      refine (HDo.out _ _ HD4.out).mono ?_
      rintro en w5 ⟨rfl, hd⟩
      have HD5 := Lib.hid hd
      clear hd x0 x1 x2 x3 x4 x5 x6
      obtain ⟨WB, hWB⟩ : ∃ W9, w5.alloc (.cells #[.int .i64 ae, .string ad, .int .i64 p1, .int .i64 p2, .int .i64 p3, .int .i64 p4, .int .i64 p5, .int .i64 p6] 37) = W9 := ⟨_, rfl⟩
      have HD6 := Lib.hid (show Duo W2.heap.size W2 WB n cc bn c mu mh mg n2 cc2 bn2 c2 mu2 mh2 mg2 MM M [(w5.heap.size, .cells #[.int .i64 ae, .string ad, .int .i64 p1, .int .i64 p2, .int .i64 p3, .int .i64 p4, .int .i64 p5, .int .i64 p6] 37 (0, 0))] by rw [← hWB]; exact HD5.out.add _ _)
      have EWB := Lib.hid hWB
      clear hWB
      go_upto_region 8 with fail
      try rw [EWB.out]
      have HBB := Lib.hid (fun (w9 : World) m1 m2 K (h : Duo W2.heap.size W2 w9 n cc bn c mu mh mg n2 cc2 bn2 c2 mu2 mh2 mg2 m1 m2 K) (hm : (w5.heap.size, .cells #[.int .i64 ae, .string ad, .int .i64 p1, .int .i64 p2, .int .i64 p3, .int .i64 p4, .int .i64 p5, .int .i64 p6] 37 (0, 0)) ∈ K) => blk8b (h.k _ hm))
      obtain ⟨x0, x1, x2, x3, x4, x5, x6⟩ := blk7c (HCB.out _ HD6.out.b)
      obtain ⟨b0, b1, b2, b3, b4, b5, b6, b7⟩ := HBB.out _ _ _ _ HD6.out (by simp)
      by_cases has : ki = 2 ∨ ki = 3 ∨ ki = 4 ∨ ki = 10
      · have HEq := Lib.hid (HAS.out has)
        have HD7 : Hid (Duo W2.heap.size W2 WB n cc bn c mu mh mg n2 cc2 bn2 c2 mu2 mh2 mg2 M M [(w5.heap.size, .cells #[.int .i64 ae, .string ad, .int .i64 p1, .int .i64 p2, .int .i64 p3, .int .i64 p4, .int .i64 p5, .int .i64 p6] 37 (0, 0))]) := Lib.hid (by have h := HD6.out; rw [HEq.out] at h; exact h)
        rcases has with rfl | rfl | rfl | rfl
        all_goals
          have hcase : ae = 0 ∨ ae ≠ 0 := by omega
          rcases hcase with hae | hae
          · subst hae
            go_wp2_with fail
            refine (HD7.out.same HI.out).mono ?_
            rintro en w7 ⟨rfl, hb⟩
            have HD77 := Lib.hid (HD6.out.on hb)
            clear hb x0 x1 x2 x3 x4 x5 x6 b0 b1 b2 b3 b4 b5 b6 b7
            obtain ⟨x0, x1, x2, x3, x4, x5, x6⟩ := blk7c (HCB.out _ HD77.out.b)
            go_wp2_with fail
            refine (HDo2.out _ _ HD77.out).mono ?_
            rintro en w8 ⟨rfl, hd⟩
            have HD8 := Lib.hid hd
            clear hd x0 x1 x2 x3 x4 x5 x6
            obtain ⟨WC, hWC⟩ : ∃ W9, w8.alloc (.cells #[.int .i64 0, .string ad, .int .i64 p1, .int .i64 p2, .int .i64 p3, .int .i64 p4, .int .i64 p5, .int .i64 p6] 37) = W9 := ⟨_, rfl⟩
            have HD9 := Lib.hid (show Duo W2.heap.size W2 WC n cc bn c mu mh mg n2 cc2 bn2 c2 mu2 mh2 mg2 MM MM [(w8.heap.size, .cells #[.int .i64 0, .string ad, .int .i64 p1, .int .i64 p2, .int .i64 p3, .int .i64 p4, .int .i64 p5, .int .i64 p6] 37 (0, 0)), (w5.heap.size, .cells #[.int .i64 0, .string ad, .int .i64 p1, .int .i64 p2, .int .i64 p3, .int .i64 p4, .int .i64 p5, .int .i64 p6] 37 (0, 0))] by rw [← hWC]; exact HD8.out.add _ _)
            have EWC := Lib.hid hWC
            clear hWC
            go_upto_region 12 with fail
            try rw [EWC.out]
            obtain ⟨b0, b1, b2, b3, b4, b5, b6, b7⟩ := HBB.out _ _ _ _ HD9.out (by simp)
            obtain ⟨e0, e1, e2, e3, e4, e5, e6, e7⟩ := blk8b (HD9.out.k (w8.heap.size, .cells #[.int .i64 0, .string ad, .int .i64 p1, .int .i64 p2, .int .i64 p3, .int .i64 p4, .int .i64 p5, .int .i64 p6] 37 (0, 0)) (by simp))
            go_wp2_with fail
            refine (HD9.out.same HI2.out).mono ?_
            rintro en wa ⟨rfl, hb⟩
            have HDa := Lib.hid (HD9.out.on hb)
            clear hb b0 b1 b2 b3 b4 b5 b6 b7 e0 e1 e2 e3 e4 e5 e6 e7
            go_wp2_with fail
            refine (HDa.out.swap.same HI2.out).mono ?_
            rintro en wb ⟨rfl, hb⟩
            have HDb := Lib.hid (HDa.out.on hb)
            clear hb
            go_wp2_with fail
            refine (alive24_any _).mono ?_
            rintro en v9 ⟨rfl, hb⟩
            have H99 := Lib.hid (HBW.out _ (HDb.out.on hb).b)
            clear hb
            go_wp2
            exact HR.out _ _ ⟨rfl, H99.out⟩
          · have haeb : (ae != 0) = true := by simpa using hae
            go_wp2_with fail
            refine (HD7.out.same HI.out).mono ?_
            rintro en w7 ⟨rfl, hb⟩
            have HD77 := Lib.hid (HD6.out.on hb)
            clear hb x0 x1 x2 x3 x4 x5 x6 b0 b1 b2 b3 b4 b5 b6 b7
            obtain ⟨x0, x1, x2, x3, x4, x5, x6⟩ := blk7c (HCB.out _ HD77.out.b)
            go_wp2_with fail
            refine (HDo2.out _ _ HD77.out).mono ?_
            rintro en w8 ⟨rfl, hd⟩
            have HD8 := Lib.hid hd
            clear hd x0 x1 x2 x3 x4 x5 x6
            obtain ⟨WC, hWC⟩ : ∃ W9, w8.alloc (.cells #[.int .i64 ae, .string ad, .int .i64 p1, .int .i64 p2, .int .i64 p3, .int .i64 p4, .int .i64 p5, .int .i64 p6] 37) = W9 := ⟨_, rfl⟩
            have HD9 := Lib.hid (show Duo W2.heap.size W2 WC n cc bn c mu mh mg n2 cc2 bn2 c2 mu2 mh2 mg2 MM MM [(w8.heap.size, .cells #[.int .i64 ae, .string ad, .int .i64 p1, .int .i64 p2, .int .i64 p3, .int .i64 p4, .int .i64 p5, .int .i64 p6] 37 (0, 0)), (w5.heap.size, .cells #[.int .i64 ae, .string ad, .int .i64 p1, .int .i64 p2, .int .i64 p3, .int .i64 p4, .int .i64 p5, .int .i64 p6] 37 (0, 0))] by rw [← hWC]; exact HD8.out.add _ _)
            have EWC := Lib.hid hWC
            clear hWC
            go_upto_region 12 with fail
            try rw [EWC.out]
            obtain ⟨b0, b1, b2, b3, b4, b5, b6, b7⟩ := HBB.out _ _ _ _ HD9.out (by simp)
            obtain ⟨e0, e1, e2, e3, e4, e5, e6, e7⟩ := blk8b (HD9.out.k (w8.heap.size, .cells #[.int .i64 ae, .string ad, .int .i64 p1, .int .i64 p2, .int .i64 p3, .int .i64 p4, .int .i64 p5, .int .i64 p6] 37 (0, 0)) (by simp))
            go_wp2_with fail
            refine (HD9.out.same HI2.out).mono ?_
            rintro en wa ⟨rfl, hb⟩
            have HDa := Lib.hid (HD9.out.on hb)
            clear hb b0 b1 b2 b3 b4 b5 b6 b7 e0 e1 e2 e3 e4 e5 e6 e7
            go_wp2_with fail
            refine (HDa.out.swap.same HI2.out).mono ?_
            rintro en wb ⟨rfl, hb⟩
            have HDb := Lib.hid (HDa.out.on hb)
            clear hb
            go_wp2_with fail
            refine (alive24_any _).mono ?_
            rintro en v9 ⟨rfl, hb⟩
            have H99 := Lib.hid (HBW.out _ (HDb.out.on hb).b)
            clear hb
            go_wp2
            exact HR.out _ _ ⟨rfl, H99.out⟩
      · have k2 : ¬ ki = 2 := fun q => has (Or.inl q)
        have k3 : ¬ ki = 3 := fun q => has (Or.inr (Or.inl q))
        have k4 : ¬ ki = 4 := fun q => has (Or.inr (Or.inr (Or.inl q)))
        have k10 : ¬ ki = 10 := fun q => has (Or.inr (Or.inr (Or.inr q)))
        have k2b : (ki == 2) = false := by simpa using k2
        have k3b : (ki == 3) = false := by simpa using k3
        have k4b : (ki == 4) = false := by simpa using k4
        have k10b : (ki == 10) = false := by simpa using k10
        clear has
        by_cases hae : ae = 0
        · subst hae
          go_upto_region 11 with fail
          clear x0 x1 x2 x3 x4 x5 x6 b0 b1 b2 b3 b4 b5 b6 b7
          obtain ⟨x0, x1, x2, x3, x4, x5, x6⟩ := blk7c (HCB.out _ HD6.out.b)
          go_wp2_with fail
          refine (HDo2.out _ _ HD6.out).mono ?_
          rintro en w8 ⟨rfl, hd⟩
          have HD8 := Lib.hid hd
          clear hd x0 x1 x2 x3 x4 x5 x6
          obtain ⟨WC, hWC⟩ : ∃ W9, w8.alloc (.cells #[.int .i64 0, .string ad, .int .i64 p1, .int .i64 p2, .int .i64 p3, .int .i64 p4, .int .i64 p5, .int .i64 p6] 37) = W9 := ⟨_, rfl⟩
          have HD9 := Lib.hid (show Duo W2.heap.size W2 WC n cc bn c mu mh mg n2 cc2 bn2 c2 mu2 mh2 mg2 MM MM [(w8.heap.size, .cells #[.int .i64 0, .string ad, .int .i64 p1, .int .i64 p2, .int .i64 p3, .int .i64 p4, .int .i64 p5, .int .i64 p6] 37 (0, 0)), (w5.heap.size, .cells #[.int .i64 0, .string ad, .int .i64 p1, .int .i64 p2, .int .i64 p3, .int .i64 p4, .int .i64 p5, .int .i64 p6] 37 (0, 0))] by rw [← hWC]; exact HD8.out.add _ _)
          have EWC := Lib.hid hWC
          clear hWC
          go_upto_region 12 with fail
          try rw [EWC.out]
          obtain ⟨b0, b1, b2, b3, b4, b5, b6, b7⟩ := HBB.out _ _ _ _ HD9.out (by simp)
          obtain ⟨e0, e1, e2, e3, e4, e5, e6, e7⟩ := blk8b (HD9.out.k (w8.heap.size, .cells #[.int .i64 0, .string ad, .int .i64 p1, .int .i64 p2, .int .i64 p3, .int .i64 p4, .int .i64 p5, .int .i64 p6] 37 (0, 0)) (by simp))
          go_wp2_with fail
          refine (HD9.out.same HI2.out).mono ?_
          rintro en wa ⟨rfl, hb⟩
          have HDa := Lib.hid (HD9.out.on hb)
          clear hb b0 b1 b2 b3 b4 b5 b6 b7 e0 e1 e2 e3 e4 e5 e6 e7
          go_wp2_with fail
          refine (HDa.out.swap.same HI2.out).mono ?_
          rintro en wb ⟨rfl, hb⟩
          have HDb := Lib.hid (HDa.out.on hb)
          clear hb
          go_wp2_with fail
          refine (alive24_any _).mono ?_
          rintro en v9 ⟨rfl, hb⟩
          have H99 := Lib.hid (HBW.out _ (HDb.out.on hb).b)
          clear hb
          go_wp2
          exact HR.out _ _ ⟨rfl, H99.out⟩
        · have haeb : (ae != 0) = true := by simpa using hae
          have HEq := Lib.hid (HRS.out hae)
          have HD7 : Hid (Duo W2.heap.size W2 WB n cc bn c mu mh mg n2 cc2 bn2 c2 mu2 mh2 mg2 M M [(w5.heap.size, .cells #[.int .i64 ae, .string ad, .int .i64 p1, .int .i64 p2, .int .i64 p3, .int .i64 p4, .int .i64 p5, .int .i64 p6] 37 (0, 0))]) := Lib.hid (by have h := HD6.out; rw [HEq.out] at h; exact h)
          go_wp2_with fail
          refine (HD7.out.same HI.out).mono ?_
          rintro en w7 ⟨rfl, hb⟩
          have HD77 := Lib.hid (HD6.out.on hb)
          clear hb x0 x1 x2 x3 x4 x5 x6 b0 b1 b2 b3 b4 b5 b6 b7
          obtain ⟨x0, x1, x2, x3, x4, x5, x6⟩ := blk7c (HCB.out _ HD77.out.b)
          go_wp2_with fail
          refine (HDo2.out _ _ HD77.out).mono ?_
          rintro en w8 ⟨rfl, hd⟩
          have HD8 := Lib.hid hd
          clear hd x0 x1 x2 x3 x4 x5 x6
          obtain ⟨WC, hWC⟩ : ∃ W9, w8.alloc (.cells #[.int .i64 ae, .string ad, .int .i64 p1, .int .i64 p2, .int .i64 p3, .int .i64 p4, .int .i64 p5, .int .i64 p6] 37) = W9 := ⟨_, rfl⟩
          have HD9 := Lib.hid (show Duo W2.heap.size W2 WC n cc bn c mu mh mg n2 cc2 bn2 c2 mu2 mh2 mg2 MM MM [(w8.heap.size, .cells #[.int .i64 ae, .string ad, .int .i64 p1, .int .i64 p2, .int .i64 p3, .int .i64 p4, .int .i64 p5, .int .i64 p6] 37 (0, 0)), (w5.heap.size, .cells #[.int .i64 ae, .string ad, .int .i64 p1, .int .i64 p2, .int .i64 p3, .int .i64 p4, .int .i64 p5, .int .i64 p6] 37 (0, 0))] by rw [← hWC]; exact HD8.out.add _ _)
          have EWC := Lib.hid hWC
          clear hWC
          go_upto_region 12 with fail
          try rw [EWC.out]
          obtain ⟨b0, b1, b2, b3, b4, b5, b6, b7⟩ := HBB.out _ _ _ _ HD9.out (by simp)
          obtain ⟨e0, e1, e2, e3, e4, e5, e6, e7⟩ := blk8b (HD9.out.k (w8.heap.size, .cells #[.int .i64 ae, .string ad, .int .i64 p1, .int .i64 p2, .int .i64 p3, .int .i64 p4, .int .i64 p5, .int .i64 p6] 37 (0, 0)) (by simp))
          go_wp2_with fail
          refine (HD9.out.same HI2.out).mono ?_
          rintro en wa ⟨rfl, hb⟩
          have HDa := Lib.hid (HD9.out.on hb)
          clear hb b0 b1 b2 b3 b4 b5 b6 b7 e0 e1 e2 e3 e4 e5 e6 e7
          go_wp2_with fail
          refine (HDa.out.swap.same HI2.out).mono ?_
          rintro en wb ⟨rfl, hb⟩
          have HDb := Lib.hid (HDa.out.on hb)
          clear hb
          go_wp2_with fail
          refine (alive24_any _).mono ?_
          rintro en v9 ⟨rfl, hb⟩
          have H99 := Lib.hid (HBW.out _ (HDb.out.on hb).b)
          clear hb
          go_wp2
          exact HR.out _ _ ⟨rfl, H99.out⟩
end Go.Proofs.Ytnkiokaeooopgaa
