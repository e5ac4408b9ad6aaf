/- Texts that the claim rests on, part 11: ProofClash, ProofSame, ProofRef. -/
import Derived.BigQuiet
import Derived.Test.YtelmcoedmkhkjaaM10
/- Two unlike texts with one sum, where a proof tells what is not so: proof.Clash. -/
namespace Ks
open Go Go.RowKit Go.Proofs.Ytelmcoedmkhkjaa
theorem prove_lens (l : List LeafT) (lba : Int) : (proveP l lba).up.length ≤ l.length ∧ (proveP l lba).left.length ≤ l.length := by
  have h := fun i => path_len (hashL l).length (hashL l) i rfl
  rw [hashL_length] at h
  refine ⟨?_, ?_⟩
  · show (if _ then _ else _ : List ByteArray).length ≤ _
    split
    · exact h _
    · exact Nat.zero_le _
  · show (if _ then _ else _ : List ByteArray).length ≤ _
    split
    · exact h _
    · exact Nat.zero_le _
end Ks
namespace Go.Proofs.Ytelmcoedmkhkjaa
open Go.RowKit Ks
set_option linter.unusedVariables false
theorem text_lie' {a b : ByteArray} {c d : Bool} (h : ¬ (a = b ∧ c = d)) : (a.toList == b.toList) = false ∨ (a = b ∧ (c == d) = false) := by
  by_cases h1 : a = b
  · exact .inr ⟨h1, by simpa using fun h2 => h ⟨h1, h2⟩⟩
  · exact .inl (text_ne h1)
def liesP (l : List LeafT) (lba : Int) (p : PrfD) : Prop :=
  ¬ ((tellsP (rootL (hashL l)) l.length lba p).1 = (wantP l lba).1 ∧ (tellsP (rootL (hashL l)) l.length lba p).2.1 = (wantP l lba).2)
theorem text_lie {l : List LeafT} {lba : Int} {p : PrfD} (h : liesP l lba p) : ((tellsP (rootL (hashL l)) l.length lba p).1.toList == (wantP l lba).1.toList) = false ∨ ((tellsP (rootL (hashL l)) l.length lba p).1 = (wantP l lba).1 ∧ ((tellsP (rootL (hashL l)) l.length lba p).2.1 == (wantP l lba).2) = false) := text_lie' h
theorem proot_yes {l : List LeafT} (hr : rightB l = true) (lv : Value) (w : World) (hl : Rd leafE w lv l) (hlen : l.length ≤ 1000000) :
    Calls Try.prog 10 #[lv] w fun e w' => e = .returned (.tuple #[.string (rootL (hashL l)), .int .i64 0]) ∧ Below w.heap.size w w' := by
  have h := proot_any lv l w hl hlen
  rw [prootV, prootE, if_pos hr, if_pos hr] at h
  exact h
theorem tells_own {l : List LeafT} {lba : Int} (hr : rightB l = true) (hlen : l.length ≤ 4096) (h0 : 0 ≤ lba) (h1 : lba < 4096) (u v : Value) (w : World) (hu : Rd strE w u (proveP l lba).up) (hv : Rd strE w v (proveP l lba).left) :
    Calls Try.prog 20 #[.string (rootL (hashL l)), .int .i64 l.length, .int .i64 lba, prfV (proveP l lba) u v] w fun e w' => e = .returned (.tuple #[.string (wantP l lba).1, .bool (wantP l lba).2, .int .i64 0]) ∧ Below w.heap.size w w' := by
  have hl := prove_lens l lba
  have h := tells_any (rootL (hashL l)) l.length lba (proveP l lba) u v w hu hv (by omega) (by omega)
  rw [prove_told hr hlen h0 h1] at h
  exact h
set_option maxRecDepth 100000 in
set_option maxHeartbeats 4000000 in
theorem pclash_wrong (lv : Value) (l : List LeafT) (lba : Int) (p : PrfD) (u v : Value) (w : World) (hl : Rd leafE w lv l) (hlen : l.length ≤ 4096) (hu : Rd strE w u p.up) (hv : Rd strE w v p.left) (hun : p.up.length ≤ 100000000) (hvn : p.left.length ≤ 100000000) (hr : ¬ rightB l = true) :
    Calls Try.prog 21 #[lv, .int .i64 lba, prfV p u v] w fun e w' => clashN e ∧ Below w.heap.size w w' := by
  refine calls_by fun R HR => ?_
  have HD := Lib.hid (And.intro hl (And.intro hu hv))
  have HRt := Lib.hid (fun w h => proot_any lv l w h (by omega))
  simp only [prootV, prootE, if_neg hr] at HRt
  obtain ⟨fd, at9, ⟨hn, hs⟩, ⟨an, as9⟩, up, left⟩ := p
  obtain ⟨ua, uc, rfl, -⟩ := hu.shape
  obtain ⟨la, lc, rfl, -⟩ := hv.shape
  dsimp only [prfV, prfC]
  obtain ⟨a, cap, rfl, -⟩ := hl.shape
  clear hl hu hv hun hvn hr
  have H1 := Lib.hid (And.intro (Below.refl w.heap.size w) (And.intro (HD.out.1) (And.intro (HD.out.2.1) (HD.out.2.2))))
  obtain ⟨W1, hW1⟩ : ∃ W1, w.alloc (.cells #[.bool fd, .int .i64 at9, .int .i64 hn, .string hs, .int .i64 an, .string as9, .slice ua up.length uc, .slice la left.length lc] 29) = W1 := ⟨_, rfl⟩
  have hbW1 : Below w.heap.size w W1 := by rw [← hW1]; exact alloc_below w _
  have kW1 : W1.heap[w.heap.size]? = some (.cells #[.bool fd, .int .i64 at9, .int .i64 hn, .string hs, .int .i64 an, .string as9, .slice ua up.length uc, .slice la left.length lc] 29 (0, 0)) := by rw [← hW1]; exact alloc_new w _
  have H2 := Lib.hid (And.intro (H1.out.1.trans (hbW1.mono H1.out.1.size)) (And.intro (H1.out.2.1.below hbW1) (And.intro (H1.out.2.2.1.below hbW1) (And.intro (H1.out.2.2.2.below hbW1) (kW1)))))
  clear hbW1 kW1
  go_enter Try.func21, Try.ntmps21
  go_wp2_with fail
  refine (HRt.out _ H2.out.2.1).mono ?_
  rintro en v1 ⟨rfl, hb⟩
  clear hW1
  have H3 := Lib.hid (And.intro (H2.out.1.trans (hb.mono H2.out.1.size)) (And.intro (H2.out.2.1.below hb) (And.intro (H2.out.2.2.1.below hb) (And.intro (H2.out.2.2.2.1.below hb) (blk_on hb H2.out.2.2.2.2)))))
  clear hb
  go_wp2
  go_ret3
  exact HR.out _ _ ⟨rfl, H3.out.1⟩
set_option maxRecDepth 100000 in
set_option maxHeartbeats 4000000 in
theorem pclash_off (lv : Value) (l : List LeafT) (lba : Int) (p : PrfD) (u v : Value) (w : World) (hl : Rd leafE w lv l) (hlen : l.length ≤ 4096) (hu : Rd strE w u p.up) (hv : Rd strE w v p.left) (hun : p.up.length ≤ 100000000) (hvn : p.left.length ≤ 100000000) (hr : rightB l = true) (he : (tellsP (rootL (hashL l)) l.length lba p).2.2 ≠ 0) :
    Calls Try.prog 21 #[lv, .int .i64 lba, prfV p u v] w fun e w' => clashN e ∧ Below w.heap.size w w' := by
  refine calls_by fun R HR => ?_
  have HD := Lib.hid (And.intro hl (And.intro hu hv))
  have HRt := Lib.hid (fun w h => proot_yes hr lv w h (by omega))
  have HTe := Lib.hid (fun w h h' => tells_any (rootL (hashL l)) l.length lba p u v w h h' hun hvn)
  generalize rootL (hashL l) = RT at *
  generalize tellsP RT l.length lba p = TT at *
  obtain ⟨T1, T2, T3⟩ := TT
  simp only at he
  have he2 : (T3 == 0) = false := by simpa using he
  obtain ⟨fd, at9, ⟨hn, hs⟩, ⟨an, as9⟩, up, left⟩ := p
  obtain ⟨ua, uc, rfl, -⟩ := hu.shape
  obtain ⟨la, lc, rfl, -⟩ := hv.shape
  dsimp only [prfV, prfC]
  obtain ⟨a, cap, rfl, -⟩ := hl.shape
  clear hl hu hv hun hvn hr
  have H1 := Lib.hid (And.intro (Below.refl w.heap.size w) (And.intro (HD.out.1) (And.intro (HD.out.2.1) (HD.out.2.2))))
  obtain ⟨W1, hW1⟩ : ∃ W1, w.alloc (.cells #[.bool fd, .int .i64 at9, .int .i64 hn, .string hs, .int .i64 an, .string as9, .slice ua up.length uc, .slice la left.length lc] 29) = W1 := ⟨_, rfl⟩
  have hbW1 : Below w.heap.size w W1 := by rw [← hW1]; exact alloc_below w _
  have kW1 : W1.heap[w.heap.size]? = some (.cells #[.bool fd, .int .i64 at9, .int .i64 hn, .string hs, .int .i64 an, .string as9, .slice ua up.length uc, .slice la left.length lc] 29 (0, 0)) := by rw [← hW1]; exact alloc_new w _
  have H2 := Lib.hid (And.intro (H1.out.1.trans (hbW1.mono H1.out.1.size)) (And.intro (H1.out.2.1.below hbW1) (And.intro (H1.out.2.2.1.below hbW1) (And.intro (H1.out.2.2.2.below hbW1) (kW1)))))
  clear hbW1 kW1
  go_enter Try.func21, Try.ntmps21
  go_wp2_with fail
  refine (HRt.out _ H2.out.2.1).mono ?_
  rintro en v1 ⟨rfl, hb⟩
  clear hW1
  have H3 := Lib.hid (And.intro (H2.out.1.trans (hb.mono H2.out.1.size)) (And.intro (H2.out.2.1.below hb) (And.intro (H2.out.2.2.1.below hb) (And.intro (H2.out.2.2.2.1.below hb) (blk_on hb H2.out.2.2.2.2)))))
  clear hb
  obtain ⟨z0, z1, z2, z3, z4, z5, z6, z7⟩ := blk8 H3.out.2.2.2.2
  go_wp2_with fail
  refine (HTe.out _ H3.out.2.2.1 H3.out.2.2.2.1).mono ?_
  rintro en v2 ⟨rfl, hb⟩
  clear z0 z1 z2 z3 z4 z5 z6 z7
  have H4 := Lib.hid (And.intro (H3.out.1.trans (hb.mono H3.out.1.size)) (And.intro (H3.out.2.1.below hb) (And.intro (H3.out.2.2.1.below hb) (And.intro (H3.out.2.2.2.1.below hb) (blk_on hb H3.out.2.2.2.2)))))
  clear hb
  go_wp2
  go_ret3
  exact HR.out _ _ ⟨rfl, H4.out.1⟩
set_option maxRecDepth 100000 in
set_option maxHeartbeats 4000000 in
theorem pclash_so (lv : Value) (l : List LeafT) (lba : Int) (p : PrfD) (u v : Value) (w : World) (hl : Rd leafE w lv l) (hlen : l.length ≤ 4096) (hu : Rd strE w u p.up) (hv : Rd strE w v p.left) (hun : p.up.length ≤ 100000000) (hvn : p.left.length ≤ 100000000) (hr : rightB l = true) (he : (tellsP (rootL (hashL l)) l.length lba p).2.2 = 0) (hlie : ¬ liesP l lba p) :
    Calls Try.prog 21 #[lv, .int .i64 lba, prfV p u v] w fun e w' => clashN e ∧ Below w.heap.size w w' := by
  refine calls_by fun R HR => ?_
  have HD := Lib.hid (And.intro hl (And.intro hu hv))
  obtain ⟨hb1, ha0, ha1, -⟩ := tells_ok he
  have h0 : 0 ≤ lba := by unfold badAsk at hb1; omega
  have h1 : lba < 4096 := by unfold badAsk at hb1; omega
  have HPr := Lib.hid (fun w h => prove_yes lv l lba w h (by omega) hr ⟨h0, h1⟩)
  have HTo := Lib.hid (fun u v w h h' => tells_own hr hlen h0 h1 u v w h h')
  have HRt := Lib.hid (fun w h => proot_yes hr lv w h (by omega))
  have HTe := Lib.hid (fun w h h' => tells_any (rootL (hashL l)) l.length lba p u v w h h' hun hvn)
  have hso9 : (tellsP (rootL (hashL l)) l.length lba p).1 = (wantP l lba).1 ∧ (tellsP (rootL (hashL l)) l.length lba p).2.1 = (wantP l lba).2 := Classical.not_not.1 hlie
  simp only [he, hso9.1, hso9.2] at HTe
  generalize rootL (hashL l) = RT at *
  generalize wantP l lba = WT at *
  obtain ⟨WN, WB⟩ := WT
  generalize proveP l lba = PP at *
  obtain ⟨fo, ao, ⟨ho, hso⟩, ⟨xo, xso⟩, uo, lo⟩ := PP
  obtain ⟨fd, at9, ⟨hn, hs⟩, ⟨an, as9⟩, up, left⟩ := p
  obtain ⟨ua, uc, rfl, -⟩ := hu.shape
  obtain ⟨la, lc, rfl, -⟩ := hv.shape
  dsimp only [prfV, prfC]
  obtain ⟨a, cap, rfl, -⟩ := hl.shape
  clear hl hu hv hun hvn hr he hlie hso9 hb1 ha0 ha1 h0 h1
  have H1 := Lib.hid (And.intro (Below.refl w.heap.size w) (And.intro (HD.out.1) (And.intro (HD.out.2.1) (HD.out.2.2))))
  obtain ⟨W1, hW1⟩ : ∃ W1, w.alloc (.cells #[.bool fd, .int .i64 at9, .int .i64 hn, .string hs, .int .i64 an, .string as9, .slice ua up.length uc, .slice la left.length lc] 29) = W1 := ⟨_, rfl⟩
  have hbW1 : Below w.heap.size w W1 := by rw [← hW1]; exact alloc_below w _
  have kW1 : W1.heap[w.heap.size]? = some (.cells #[.bool fd, .int .i64 at9, .int .i64 hn, .string hs, .int .i64 an, .string as9, .slice ua up.length uc, .slice la left.length lc] 29 (0, 0)) := by rw [← hW1]; exact alloc_new w _
  have H2 := Lib.hid (And.intro (H1.out.1.trans (hbW1.mono H1.out.1.size)) (And.intro (H1.out.2.1.below hbW1) (And.intro (H1.out.2.2.1.below hbW1) (And.intro (H1.out.2.2.2.below hbW1) (kW1)))))
  clear hbW1 kW1
  go_enter Try.func21, Try.ntmps21
  go_wp2_with fail
  refine (HRt.out _ H2.out.2.1).mono ?_
  rintro en v1 ⟨rfl, hb⟩
  clear hW1
  have H3 := Lib.hid (And.intro (H2.out.1.trans (hb.mono H2.out.1.size)) (And.intro (H2.out.2.1.below hb) (And.intro (H2.out.2.2.1.below hb) (And.intro (H2.out.2.2.2.1.below hb) (blk_on hb H2.out.2.2.2.2)))))
  clear hb
  obtain ⟨z0, z1, z2, z3, z4, z5, z6, z7⟩ := blk8 H3.out.2.2.2.2
  go_wp2_with fail
  refine (HTe.out _ H3.out.2.2.1 H3.out.2.2.2.1).mono ?_
  rintro en v2 ⟨rfl, hb⟩
  clear z0 z1 z2 z3 z4 z5 z6 z7
  have H4 := Lib.hid (And.intro (H3.out.1.trans (hb.mono H3.out.1.size)) (And.intro (H3.out.2.1.below hb) (And.intro (H3.out.2.2.1.below hb) (And.intro (H3.out.2.2.2.1.below hb) (blk_on hb H3.out.2.2.2.2)))))
  clear hb
  go_wp2_with fail
  refine (HPr.out _ H4.out.2.1).mono ?_
  rintro en v3 ⟨ov, oz, rfl, hou, hol, hb⟩
  obtain ⟨oa, oc, rfl, -⟩ := hou.shape
  obtain ⟨za, zc, rfl, -⟩ := hol.shape
  have H5 := Lib.hid (And.intro (H4.out.1.trans (hb.mono H4.out.1.size)) (And.intro (H4.out.2.1.below hb) (And.intro (H4.out.2.2.1.below hb) (And.intro (H4.out.2.2.2.1.below hb) (And.intro (blk_on hb H4.out.2.2.2.2) (And.intro (hou) (hol)))))))
  clear hb
  clear hou hol
  obtain ⟨WO, hWO⟩ : ∃ WO, v3.alloc (.cells #[.bool fo, .int .i64 ao, .int .i64 ho, .string hso, .int .i64 xo, .string xso, .slice oa uo.length oc, .slice za lo.length zc] 29) = WO := ⟨_, rfl⟩
  have hbWO : Below v3.heap.size v3 WO := by rw [← hWO]; exact alloc_below v3 _
  have kWO : WO.heap[v3.heap.size]? = some (.cells #[.bool fo, .int .i64 ao, .int .i64 ho, .string hso, .int .i64 xo, .string xso, .slice oa uo.length oc, .slice za lo.length zc] 29 (0, 0)) := by rw [← hWO]; exact alloc_new v3 _
  have EWO := Lib.hid hWO
  have H6 := Lib.hid (And.intro (H5.out.1.trans (hbWO.mono H5.out.1.size)) (And.intro (H5.out.2.1.below hbWO) (And.intro (H5.out.2.2.1.below hbWO) (And.intro (H5.out.2.2.2.1.below hbWO) (And.intro (blk_on hbWO H5.out.2.2.2.2.1) (And.intro (H5.out.2.2.2.2.2.1.below hbWO) (And.intro (H5.out.2.2.2.2.2.2.below hbWO) (kWO))))))))
  clear hbWO kWO hWO
  go_upto_region 8 with fail
  try rw [EWO.out]
  clear EWO
  obtain ⟨o0, o1, o2, o3, o4, o5, o6, o7⟩ := blk8 H6.out.2.2.2.2.2.2.2
  go_wp2_with fail
  refine (HTo.out _ _ _ H6.out.2.2.2.2.2.1 H6.out.2.2.2.2.2.2.1).mono ?_
  rintro en v4 ⟨rfl, hb⟩
  clear o0 o1 o2 o3 o4 o5 o6 o7
  have H7 := Lib.hid (And.intro (H6.out.1.trans (hb.mono H6.out.1.size)) (And.intro (H6.out.2.1.below hb) (And.intro (H6.out.2.2.1.below hb) (And.intro (H6.out.2.2.2.1.below hb) (blk_on hb H6.out.2.2.2.2.1)))))
  clear hb
  go_wp2
  go_ret3
  exact HR.out _ _ ⟨rfl, H7.out.1⟩
set_option maxRecDepth 100000 in
set_option maxHeartbeats 4000000 in
theorem pclash_here (lv : Value) (l : List LeafT) (lba : Int) (p : PrfD) (u v : Value) (w : World) (hl : Rd leafE w lv l) (hlen : l.length ≤ 4096) (hu : Rd strE w u p.up) (hv : Rd strE w v p.left) (hun : p.up.length ≤ 100000000) (hvn : p.left.length ≤ 100000000) (hr : rightB l = true) (he : (tellsP (rootL (hashL l)) l.length lba p).2.2 = 0) (hlie : liesP l lba p) (hone : otherP l p.at_ p.here p.up) :
    Calls Try.prog 21 #[lv, .int .i64 lba, prfV p u v] w fun e w' => clashY e ∧ Below w.heap.size w w' := by
  refine calls_by fun R HR => ?_
  have HD := Lib.hid (And.intro hl (And.intro hu hv))
  obtain ⟨hb1, ha0, ha1, -⟩ := tells_ok he
  have h0 : 0 ≤ lba := by unfold badAsk at hb1; omega
  have h1 : lba < 4096 := by unfold badAsk at hb1; omega
  have HPr := Lib.hid (fun w h => prove_yes lv l lba w h (by omega) hr ⟨h0, h1⟩)
  have HTo := Lib.hid (fun u v w h h' => tells_own hr hlen h0 h1 u v w h h')
  have HRt := Lib.hid (fun w h => proot_yes hr lv w h (by omega))
  have HTe := Lib.hid (fun w h h' => tells_any (rootL (hashL l)) l.length lba p u v w h h' hun hvn)
  have HU1 := Lib.hid (fun w h h' => (unlike_any lv l p.at_ p.here u p.up w h h' (by omega) hun hr).mono fun e w' q => And.intro (q.1 hone) q.2.2)
  simp only [he] at HTe
  have hw1 : wrap64 (p.at_ - 1) = p.at_ - 1 := by unfold wrap64; omega
  have hneq := text_lie hlie
  generalize rootL (hashL l) = RT at *
  generalize wantP l lba = WT at *
  obtain ⟨WN, WB⟩ := WT
  generalize tellsP RT l.length lba p = TT at *
  obtain ⟨T1, T2, T3⟩ := TT
  simp only at hneq
  generalize proveP l lba = PP at *
  obtain ⟨fo, ao, ⟨ho, hso⟩, ⟨xo, xso⟩, uo, lo⟩ := PP
  obtain ⟨fd, at9, ⟨hn, hs⟩, ⟨an, as9⟩, up, left⟩ := p
  obtain ⟨ua, uc, rfl, -⟩ := hu.shape
  obtain ⟨la, lc, rfl, -⟩ := hv.shape
  dsimp only [prfV, prfC]
  obtain ⟨a, cap, rfl, -⟩ := hl.shape
  simp only at hw1
  clear hl hu hv hun hvn hr he hlie hb1 ha0 ha1 h0 h1 hone
  rcases hneq with hq | ⟨rfl, hq⟩
  · skip
    have H1 := Lib.hid (And.intro (Below.refl w.heap.size w) (And.intro (HD.out.1) (And.intro (HD.out.2.1) (HD.out.2.2))))
    obtain ⟨W1, hW1⟩ : ∃ W1, w.alloc (.cells #[.bool fd, .int .i64 at9, .int .i64 hn, .string hs, .int .i64 an, .string as9, .slice ua up.length uc, .slice la left.length lc] 29) = W1 := ⟨_, rfl⟩
    have hbW1 : Below w.heap.size w W1 := by rw [← hW1]; exact alloc_below w _
    have kW1 : W1.heap[w.heap.size]? = some (.cells #[.bool fd, .int .i64 at9, .int .i64 hn, .string hs, .int .i64 an, .string as9, .slice ua up.length uc, .slice la left.length lc] 29 (0, 0)) := by rw [← hW1]; exact alloc_new w _
    have H2 := Lib.hid (And.intro (H1.out.1.trans (hbW1.mono H1.out.1.size)) (And.intro (H1.out.2.1.below hbW1) (And.intro (H1.out.2.2.1.below hbW1) (And.intro (H1.out.2.2.2.below hbW1) (kW1)))))
    clear hbW1 kW1
    go_enter Try.func21, Try.ntmps21
    go_wp2_with fail
    refine (HRt.out _ H2.out.2.1).mono ?_
    rintro en v1 ⟨rfl, hb⟩
    clear hW1
    have H3 := Lib.hid (And.intro (H2.out.1.trans (hb.mono H2.out.1.size)) (And.intro (H2.out.2.1.below hb) (And.intro (H2.out.2.2.1.below hb) (And.intro (H2.out.2.2.2.1.below hb) (blk_on hb H2.out.2.2.2.2)))))
    clear hb
    obtain ⟨z0, z1, z2, z3, z4, z5, z6, z7⟩ := blk8 H3.out.2.2.2.2
    go_wp2_with fail
    refine (HTe.out _ H3.out.2.2.1 H3.out.2.2.2.1).mono ?_
    rintro en v2 ⟨rfl, hb⟩
    clear z0 z1 z2 z3 z4 z5 z6 z7
    have H4 := Lib.hid (And.intro (H3.out.1.trans (hb.mono H3.out.1.size)) (And.intro (H3.out.2.1.below hb) (And.intro (H3.out.2.2.1.below hb) (And.intro (H3.out.2.2.2.1.below hb) (blk_on hb H3.out.2.2.2.2)))))
    clear hb
    go_wp2_with fail
    refine (HPr.out _ H4.out.2.1).mono ?_
    rintro en v3 ⟨ov, oz, rfl, hou, hol, hb⟩
    obtain ⟨oa, oc, rfl, -⟩ := hou.shape
    obtain ⟨za, zc, rfl, -⟩ := hol.shape
    have H5 := Lib.hid (And.intro (H4.out.1.trans (hb.mono H4.out.1.size)) (And.intro (H4.out.2.1.below hb) (And.intro (H4.out.2.2.1.below hb) (And.intro (H4.out.2.2.2.1.below hb) (And.intro (blk_on hb H4.out.2.2.2.2) (And.intro (hou) (hol)))))))
    clear hb
    clear hou hol
    obtain ⟨WO, hWO⟩ : ∃ WO, v3.alloc (.cells #[.bool fo, .int .i64 ao, .int .i64 ho, .string hso, .int .i64 xo, .string xso, .slice oa uo.length oc, .slice za lo.length zc] 29) = WO := ⟨_, rfl⟩
    have hbWO : Below v3.heap.size v3 WO := by rw [← hWO]; exact alloc_below v3 _
    have kWO : WO.heap[v3.heap.size]? = some (.cells #[.bool fo, .int .i64 ao, .int .i64 ho, .string hso, .int .i64 xo, .string xso, .slice oa uo.length oc, .slice za lo.length zc] 29 (0, 0)) := by rw [← hWO]; exact alloc_new v3 _
    have EWO := Lib.hid hWO
    have H6 := Lib.hid (And.intro (H5.out.1.trans (hbWO.mono H5.out.1.size)) (And.intro (H5.out.2.1.below hbWO) (And.intro (H5.out.2.2.1.below hbWO) (And.intro (H5.out.2.2.2.1.below hbWO) (And.intro (blk_on hbWO H5.out.2.2.2.2.1) (And.intro (H5.out.2.2.2.2.2.1.below hbWO) (And.intro (H5.out.2.2.2.2.2.2.below hbWO) (kWO))))))))
    clear hbWO kWO hWO
    go_upto_region 8 with fail
    try rw [EWO.out]
    clear EWO
    obtain ⟨o0, o1, o2, o3, o4, o5, o6, o7⟩ := blk8 H6.out.2.2.2.2.2.2.2
    go_wp2_with fail
    refine (HTo.out _ _ _ H6.out.2.2.2.2.2.1 H6.out.2.2.2.2.2.2.1).mono ?_
    rintro en v4 ⟨rfl, hb⟩
    clear o0 o1 o2 o3 o4 o5 o6 o7
    have H7 := Lib.hid (And.intro (H6.out.1.trans (hb.mono H6.out.1.size)) (And.intro (H6.out.2.1.below hb) (And.intro (H6.out.2.2.1.below hb) (And.intro (H6.out.2.2.2.1.below hb) (blk_on hb H6.out.2.2.2.2.1)))))
    clear hb
    obtain ⟨z0, z1, z2, z3, z4, z5, z6, z7⟩ := blk8 H7.out.2.2.2.2
    go_wp2_with fail
    refine (HU1.out _ H7.out.2.1 H7.out.2.2.1).mono ?_
    rintro en v5 ⟨⟨c1, c2, rfl, hun⟩, hb⟩
    clear z0 z1 z2 z3 z4 z5 z6 z7
    have H8 := Lib.hid (And.intro (H7.out.1.trans (hb.mono H7.out.1.size)) (And.intro (H7.out.2.1.below hb) (And.intro (H7.out.2.2.1.below hb) (And.intro (H7.out.2.2.2.1.below hb) (blk_on hb H7.out.2.2.2.2)))))
    clear hb
    go_wp2
    go_ret3
    exact HR.out _ _ ⟨⟨_, _, rfl, hun⟩, H8.out.1⟩
  · skip
    have H1 := Lib.hid (And.intro (Below.refl w.heap.size w) (And.intro (HD.out.1) (And.intro (HD.out.2.1) (HD.out.2.2))))
    obtain ⟨W1, hW1⟩ : ∃ W1, w.alloc (.cells #[.bool fd, .int .i64 at9, .int .i64 hn, .string hs, .int .i64 an, .string as9, .slice ua up.length uc, .slice la left.length lc] 29) = W1 := ⟨_, rfl⟩
    have hbW1 : Below w.heap.size w W1 := by rw [← hW1]; exact alloc_below w _
    have kW1 : W1.heap[w.heap.size]? = some (.cells #[.bool fd, .int .i64 at9, .int .i64 hn, .string hs, .int .i64 an, .string as9, .slice ua up.length uc, .slice la left.length lc] 29 (0, 0)) := by rw [← hW1]; exact alloc_new w _
    have H2 := Lib.hid (And.intro (H1.out.1.trans (hbW1.mono H1.out.1.size)) (And.intro (H1.out.2.1.below hbW1) (And.intro (H1.out.2.2.1.below hbW1) (And.intro (H1.out.2.2.2.below hbW1) (kW1)))))
    clear hbW1 kW1
    go_enter Try.func21, Try.ntmps21
    go_wp2_with fail
    refine (HRt.out _ H2.out.2.1).mono ?_
    rintro en v1 ⟨rfl, hb⟩
    clear hW1
    have H3 := Lib.hid (And.intro (H2.out.1.trans (hb.mono H2.out.1.size)) (And.intro (H2.out.2.1.below hb) (And.intro (H2.out.2.2.1.below hb) (And.intro (H2.out.2.2.2.1.below hb) (blk_on hb H2.out.2.2.2.2)))))
    clear hb
    obtain ⟨z0, z1, z2, z3, z4, z5, z6, z7⟩ := blk8 H3.out.2.2.2.2
    go_wp2_with fail
    refine (HTe.out _ H3.out.2.2.1 H3.out.2.2.2.1).mono ?_
    rintro en v2 ⟨rfl, hb⟩
    clear z0 z1 z2 z3 z4 z5 z6 z7
    have H4 := Lib.hid (And.intro (H3.out.1.trans (hb.mono H3.out.1.size)) (And.intro (H3.out.2.1.below hb) (And.intro (H3.out.2.2.1.below hb) (And.intro (H3.out.2.2.2.1.below hb) (blk_on hb H3.out.2.2.2.2)))))
    clear hb
    go_wp2_with fail
    refine (HPr.out _ H4.out.2.1).mono ?_
    rintro en v3 ⟨ov, oz, rfl, hou, hol, hb⟩
    obtain ⟨oa, oc, rfl, -⟩ := hou.shape
    obtain ⟨za, zc, rfl, -⟩ := hol.shape
    have H5 := Lib.hid (And.intro (H4.out.1.trans (hb.mono H4.out.1.size)) (And.intro (H4.out.2.1.below hb) (And.intro (H4.out.2.2.1.below hb) (And.intro (H4.out.2.2.2.1.below hb) (And.intro (blk_on hb H4.out.2.2.2.2) (And.intro (hou) (hol)))))))
    clear hb
    clear hou hol
    obtain ⟨WO, hWO⟩ : ∃ WO, v3.alloc (.cells #[.bool fo, .int .i64 ao, .int .i64 ho, .string hso, .int .i64 xo, .string xso, .slice oa uo.length oc, .slice za lo.length zc] 29) = WO := ⟨_, rfl⟩
    have hbWO : Below v3.heap.size v3 WO := by rw [← hWO]; exact alloc_below v3 _
    have kWO : WO.heap[v3.heap.size]? = some (.cells #[.bool fo, .int .i64 ao, .int .i64 ho, .string hso, .int .i64 xo, .string xso, .slice oa uo.length oc, .slice za lo.length zc] 29 (0, 0)) := by rw [← hWO]; exact alloc_new v3 _
    have EWO := Lib.hid hWO
    have H6 := Lib.hid (And.intro (H5.out.1.trans (hbWO.mono H5.out.1.size)) (And.intro (H5.out.2.1.below hbWO) (And.intro (H5.out.2.2.1.below hbWO) (And.intro (H5.out.2.2.2.1.below hbWO) (And.intro (blk_on hbWO H5.out.2.2.2.2.1) (And.intro (H5.out.2.2.2.2.2.1.below hbWO) (And.intro (H5.out.2.2.2.2.2.2.below hbWO) (kWO))))))))
    clear hbWO kWO hWO
    go_upto_region 8 with fail
    try rw [EWO.out]
    clear EWO
    obtain ⟨o0, o1, o2, o3, o4, o5, o6, o7⟩ := blk8 H6.out.2.2.2.2.2.2.2
    go_wp2_with fail
    refine (HTo.out _ _ _ H6.out.2.2.2.2.2.1 H6.out.2.2.2.2.2.2.1).mono ?_
    rintro en v4 ⟨rfl, hb⟩
    clear o0 o1 o2 o3 o4 o5 o6 o7
    have H7 := Lib.hid (And.intro (H6.out.1.trans (hb.mono H6.out.1.size)) (And.intro (H6.out.2.1.below hb) (And.intro (H6.out.2.2.1.below hb) (And.intro (H6.out.2.2.2.1.below hb) (blk_on hb H6.out.2.2.2.2.1)))))
    clear hb
    obtain ⟨z0, z1, z2, z3, z4, z5, z6, z7⟩ := blk8 H7.out.2.2.2.2
    go_wp2_with fail
    refine (HU1.out _ H7.out.2.1 H7.out.2.2.1).mono ?_
    rintro en v5 ⟨⟨c1, c2, rfl, hun⟩, hb⟩
    clear z0 z1 z2 z3 z4 z5 z6 z7
    have H8 := Lib.hid (And.intro (H7.out.1.trans (hb.mono H7.out.1.size)) (And.intro (H7.out.2.1.below hb) (And.intro (H7.out.2.2.1.below hb) (And.intro (H7.out.2.2.2.1.below hb) (blk_on hb H7.out.2.2.2.2)))))
    clear hb
    go_wp2
    go_ret3
    exact HR.out _ _ ⟨⟨_, _, rfl, hun⟩, H8.out.1⟩
set_option maxRecDepth 100000 in
set_option maxHeartbeats 4000000 in
theorem pclash_ahead (lv : Value) (l : List LeafT) (lba : Int) (p : PrfD) (u v : Value) (w : World) (hl : Rd leafE w lv l) (hlen : l.length ≤ 4096) (hu : Rd strE w u p.up) (hv : Rd strE w v p.left) (hun : p.up.length ≤ 100000000) (hvn : p.left.length ≤ 100000000) (hr : rightB l = true) (he : (tellsP (rootL (hashL l)) l.length lba p).2.2 = 0) (hlie : liesP l lba p) (hone : ¬ otherP l p.at_ p.here p.up) (htwo : otherP l (p.at_ - 1) p.ahead p.left) :
    Calls Try.prog 21 #[lv, .int .i64 lba, prfV p u v] w fun e w' => clashY e ∧ Below w.heap.size w w' := by
  refine calls_by fun R HR => ?_
  have HD := Lib.hid (And.intro hl (And.intro hu hv))
  obtain ⟨hb1, ha0, ha1, -⟩ := tells_ok he
  have h0 : 0 ≤ lba := by unfold badAsk at hb1; omega
  have h1 : lba < 4096 := by unfold badAsk at hb1; omega
  have HPr := Lib.hid (fun w h => prove_yes lv l lba w h (by omega) hr ⟨h0, h1⟩)
  have HTo := Lib.hid (fun u v w h h' => tells_own hr hlen h0 h1 u v w h h')
  have HRt := Lib.hid (fun w h => proot_yes hr lv w h (by omega))
  have HTe := Lib.hid (fun w h h' => tells_any (rootL (hashL l)) l.length lba p u v w h h' hun hvn)
  have HU1 := Lib.hid (fun w h h' => (unlike_any lv l p.at_ p.here u p.up w h h' (by omega) hun hr).mono fun e w' q => And.intro (q.2.1 hone) q.2.2)
  have HU2 := Lib.hid (fun w h h' => (unlike_any lv l (p.at_ - 1) p.ahead v p.left w h h' (by omega) hvn hr).mono fun e w' q => And.intro (q.1 htwo) q.2.2)
  simp only [he] at HTe
  have hw1 : wrap64 (p.at_ - 1) = p.at_ - 1 := by unfold wrap64; omega
  have hneq := text_lie hlie
  generalize rootL (hashL l) = RT at *
  generalize wantP l lba = WT at *
  obtain ⟨WN, WB⟩ := WT
  generalize tellsP RT l.length lba p = TT at *
  obtain ⟨T1, T2, T3⟩ := TT
  simp only at hneq
  generalize proveP l lba = PP at *
  obtain ⟨fo, ao, ⟨ho, hso⟩, ⟨xo, xso⟩, uo, lo⟩ := PP
  obtain ⟨fd, at9, ⟨hn, hs⟩, ⟨an, as9⟩, up, left⟩ := p
  obtain ⟨ua, uc, rfl, -⟩ := hu.shape
  obtain ⟨la, lc, rfl, -⟩ := hv.shape
  dsimp only [prfV, prfC]
  obtain ⟨a, cap, rfl, -⟩ := hl.shape
  simp only at hw1
  clear hl hu hv hun hvn hr he hlie hb1 ha0 ha1 h0 h1 hone htwo
  rcases hneq with hq | ⟨rfl, hq⟩
  · skip
    have H1 := Lib.hid (And.intro (Below.refl w.heap.size w) (And.intro (HD.out.1) (And.intro (HD.out.2.1) (HD.out.2.2))))
    obtain ⟨W1, hW1⟩ : ∃ W1, w.alloc (.cells #[.bool fd, .int .i64 at9, .int .i64 hn, .string hs, .int .i64 an, .string as9, .slice ua up.length uc, .slice la left.length lc] 29) = W1 := ⟨_, rfl⟩
    have hbW1 : Below w.heap.size w W1 := by rw [← hW1]; exact alloc_below w _
    have kW1 : W1.heap[w.heap.size]? = some (.cells #[.bool fd, .int .i64 at9, .int .i64 hn, .string hs, .int .i64 an, .string as9, .slice ua up.length uc, .slice la left.length lc] 29 (0, 0)) := by rw [← hW1]; exact alloc_new w _
    have H2 := Lib.hid (And.intro (H1.out.1.trans (hbW1.mono H1.out.1.size)) (And.intro (H1.out.2.1.below hbW1) (And.intro (H1.out.2.2.1.below hbW1) (And.intro (H1.out.2.2.2.below hbW1) (kW1)))))
    clear hbW1 kW1
    go_enter Try.func21, Try.ntmps21
    go_wp2_with fail
    refine (HRt.out _ H2.out.2.1).mono ?_
    rintro en v1 ⟨rfl, hb⟩
    clear hW1
    have H3 := Lib.hid (And.intro (H2.out.1.trans (hb.mono H2.out.1.size)) (And.intro (H2.out.2.1.below hb) (And.intro (H2.out.2.2.1.below hb) (And.intro (H2.out.2.2.2.1.below hb) (blk_on hb H2.out.2.2.2.2)))))
    clear hb
    obtain ⟨z0, z1, z2, z3, z4, z5, z6, z7⟩ := blk8 H3.out.2.2.2.2
    go_wp2_with fail
    refine (HTe.out _ H3.out.2.2.1 H3.out.2.2.2.1).mono ?_
    rintro en v2 ⟨rfl, hb⟩
    clear z0 z1 z2 z3 z4 z5 z6 z7
    have H4 := Lib.hid (And.intro (H3.out.1.trans (hb.mono H3.out.1.size)) (And.intro (H3.out.2.1.below hb) (And.intro (H3.out.2.2.1.below hb) (And.intro (H3.out.2.2.2.1.below hb) (blk_on hb H3.out.2.2.2.2)))))
    clear hb
    go_wp2_with fail
    refine (HPr.out _ H4.out.2.1).mono ?_
    rintro en v3 ⟨ov, oz, rfl, hou, hol, hb⟩
    obtain ⟨oa, oc, rfl, -⟩ := hou.shape
    obtain ⟨za, zc, rfl, -⟩ := hol.shape
    have H5 := Lib.hid (And.intro (H4.out.1.trans (hb.mono H4.out.1.size)) (And.intro (H4.out.2.1.below hb) (And.intro (H4.out.2.2.1.below hb) (And.intro (H4.out.2.2.2.1.below hb) (And.intro (blk_on hb H4.out.2.2.2.2) (And.intro (hou) (hol)))))))
    clear hb
    clear hou hol
    obtain ⟨WO, hWO⟩ : ∃ WO, v3.alloc (.cells #[.bool fo, .int .i64 ao, .int .i64 ho, .string hso, .int .i64 xo, .string xso, .slice oa uo.length oc, .slice za lo.length zc] 29) = WO := ⟨_, rfl⟩
    have hbWO : Below v3.heap.size v3 WO := by rw [← hWO]; exact alloc_below v3 _
    have kWO : WO.heap[v3.heap.size]? = some (.cells #[.bool fo, .int .i64 ao, .int .i64 ho, .string hso, .int .i64 xo, .string xso, .slice oa uo.length oc, .slice za lo.length zc] 29 (0, 0)) := by rw [← hWO]; exact alloc_new v3 _
    have EWO := Lib.hid hWO
    have H6 := Lib.hid (And.intro (H5.out.1.trans (hbWO.mono H5.out.1.size)) (And.intro (H5.out.2.1.below hbWO) (And.intro (H5.out.2.2.1.below hbWO) (And.intro (H5.out.2.2.2.1.below hbWO) (And.intro (blk_on hbWO H5.out.2.2.2.2.1) (And.intro (H5.out.2.2.2.2.2.1.below hbWO) (And.intro (H5.out.2.2.2.2.2.2.below hbWO) (kWO))))))))
    clear hbWO kWO hWO
    go_upto_region 8 with fail
    try rw [EWO.out]
    clear EWO
    obtain ⟨o0, o1, o2, o3, o4, o5, o6, o7⟩ := blk8 H6.out.2.2.2.2.2.2.2
    go_wp2_with fail
    refine (HTo.out _ _ _ H6.out.2.2.2.2.2.1 H6.out.2.2.2.2.2.2.1).mono ?_
    rintro en v4 ⟨rfl, hb⟩
    clear o0 o1 o2 o3 o4 o5 o6 o7
    have H7 := Lib.hid (And.intro (H6.out.1.trans (hb.mono H6.out.1.size)) (And.intro (H6.out.2.1.below hb) (And.intro (H6.out.2.2.1.below hb) (And.intro (H6.out.2.2.2.1.below hb) (blk_on hb H6.out.2.2.2.2.1)))))
    clear hb
    obtain ⟨z0, z1, z2, z3, z4, z5, z6, z7⟩ := blk8 H7.out.2.2.2.2
    go_wp2_with fail
    refine (HU1.out _ H7.out.2.1 H7.out.2.2.1).mono ?_
    rintro en v5 ⟨rfl, hb⟩
    clear z0 z1 z2 z3 z4 z5 z6 z7
    have H8 := Lib.hid (And.intro (H7.out.1.trans (hb.mono H7.out.1.size)) (And.intro (H7.out.2.1.below hb) (And.intro (H7.out.2.2.1.below hb) (And.intro (H7.out.2.2.2.1.below hb) (blk_on hb H7.out.2.2.2.2)))))
    clear hb
    obtain ⟨z0, z1, z2, z3, z4, z5, z6, z7⟩ := blk8 H8.out.2.2.2.2
    go_wp2_with fail
    refine (HU2.out _ H8.out.2.1 H8.out.2.2.2.1).mono ?_
    rintro en v6 ⟨⟨c1, c2, rfl, hun⟩, hb⟩
    clear z0 z1 z2 z3 z4 z5 z6 z7
    have H9 := Lib.hid (And.intro (H8.out.1.trans (hb.mono H8.out.1.size)) (And.intro (H8.out.2.1.below hb) (And.intro (H8.out.2.2.1.below hb) (And.intro (H8.out.2.2.2.1.below hb) (blk_on hb H8.out.2.2.2.2)))))
    clear hb
    go_wp2
    go_ret3
    exact HR.out _ _ ⟨⟨_, _, rfl, hun⟩, H9.out.1⟩
  · skip
    have H1 := Lib.hid (And.intro (Below.refl w.heap.size w) (And.intro (HD.out.1) (And.intro (HD.out.2.1) (HD.out.2.2))))
    obtain ⟨W1, hW1⟩ : ∃ W1, w.alloc (.cells #[.bool fd, .int .i64 at9, .int .i64 hn, .string hs, .int .i64 an, .string as9, .slice ua up.length uc, .slice la left.length lc] 29) = W1 := ⟨_, rfl⟩
    have hbW1 : Below w.heap.size w W1 := by rw [← hW1]; exact alloc_below w _
    have kW1 : W1.heap[w.heap.size]? = some (.cells #[.bool fd, .int .i64 at9, .int .i64 hn, .string hs, .int .i64 an, .string as9, .slice ua up.length uc, .slice la left.length lc] 29 (0, 0)) := by rw [← hW1]; exact alloc_new w _
    have H2 := Lib.hid (And.intro (H1.out.1.trans (hbW1.mono H1.out.1.size)) (And.intro (H1.out.2.1.below hbW1) (And.intro (H1.out.2.2.1.below hbW1) (And.intro (H1.out.2.2.2.below hbW1) (kW1)))))
    clear hbW1 kW1
    go_enter Try.func21, Try.ntmps21
    go_wp2_with fail
    refine (HRt.out _ H2.out.2.1).mono ?_
    rintro en v1 ⟨rfl, hb⟩
    clear hW1
    have H3 := Lib.hid (And.intro (H2.out.1.trans (hb.mono H2.out.1.size)) (And.intro (H2.out.2.1.below hb) (And.intro (H2.out.2.2.1.below hb) (And.intro (H2.out.2.2.2.1.below hb) (blk_on hb H2.out.2.2.2.2)))))
    clear hb
    obtain ⟨z0, z1, z2, z3, z4, z5, z6, z7⟩ := blk8 H3.out.2.2.2.2
    go_wp2_with fail
    refine (HTe.out _ H3.out.2.2.1 H3.out.2.2.2.1).mono ?_
    rintro en v2 ⟨rfl, hb⟩
    clear z0 z1 z2 z3 z4 z5 z6 z7
    have H4 := Lib.hid (And.intro (H3.out.1.trans (hb.mono H3.out.1.size)) (And.intro (H3.out.2.1.below hb) (And.intro (H3.out.2.2.1.below hb) (And.intro (H3.out.2.2.2.1.below hb) (blk_on hb H3.out.2.2.2.2)))))
    clear hb
    go_wp2_with fail
    refine (HPr.out _ H4.out.2.1).mono ?_
    rintro en v3 ⟨ov, oz, rfl, hou, hol, hb⟩
    obtain ⟨oa, oc, rfl, -⟩ := hou.shape
    obtain ⟨za, zc, rfl, -⟩ := hol.shape
    have H5 := Lib.hid (And.intro (H4.out.1.trans (hb.mono H4.out.1.size)) (And.intro (H4.out.2.1.below hb) (And.intro (H4.out.2.2.1.below hb) (And.intro (H4.out.2.2.2.1.below hb) (And.intro (blk_on hb H4.out.2.2.2.2) (And.intro (hou) (hol)))))))
    clear hb
    clear hou hol
    obtain ⟨WO, hWO⟩ : ∃ WO, v3.alloc (.cells #[.bool fo, .int .i64 ao, .int .i64 ho, .string hso, .int .i64 xo, .string xso, .slice oa uo.length oc, .slice za lo.length zc] 29) = WO := ⟨_, rfl⟩
    have hbWO : Below v3.heap.size v3 WO := by rw [← hWO]; exact alloc_below v3 _
    have kWO : WO.heap[v3.heap.size]? = some (.cells #[.bool fo, .int .i64 ao, .int .i64 ho, .string hso, .int .i64 xo, .string xso, .slice oa uo.length oc, .slice za lo.length zc] 29 (0, 0)) := by rw [← hWO]; exact alloc_new v3 _
    have EWO := Lib.hid hWO
    have H6 := Lib.hid (And.intro (H5.out.1.trans (hbWO.mono H5.out.1.size)) (And.intro (H5.out.2.1.below hbWO) (And.intro (H5.out.2.2.1.below hbWO) (And.intro (H5.out.2.2.2.1.below hbWO) (And.intro (blk_on hbWO H5.out.2.2.2.2.1) (And.intro (H5.out.2.2.2.2.2.1.below hbWO) (And.intro (H5.out.2.2.2.2.2.2.below hbWO) (kWO))))))))
    clear hbWO kWO hWO
    go_upto_region 8 with fail
    try rw [EWO.out]
    clear EWO
    obtain ⟨o0, o1, o2, o3, o4, o5, o6, o7⟩ := blk8 H6.out.2.2.2.2.2.2.2
    go_wp2_with fail
    refine (HTo.out _ _ _ H6.out.2.2.2.2.2.1 H6.out.2.2.2.2.2.2.1).mono ?_
    rintro en v4 ⟨rfl, hb⟩
    clear o0 o1 o2 o3 o4 o5 o6 o7
    have H7 := Lib.hid (And.intro (H6.out.1.trans (hb.mono H6.out.1.size)) (And.intro (H6.out.2.1.below hb) (And.intro (H6.out.2.2.1.below hb) (And.intro (H6.out.2.2.2.1.below hb) (blk_on hb H6.out.2.2.2.2.1)))))
    clear hb
    obtain ⟨z0, z1, z2, z3, z4, z5, z6, z7⟩ := blk8 H7.out.2.2.2.2
    go_wp2_with fail
    refine (HU1.out _ H7.out.2.1 H7.out.2.2.1).mono ?_
    rintro en v5 ⟨rfl, hb⟩
    clear z0 z1 z2 z3 z4 z5 z6 z7
    have H8 := Lib.hid (And.intro (H7.out.1.trans (hb.mono H7.out.1.size)) (And.intro (H7.out.2.1.below hb) (And.intro (H7.out.2.2.1.below hb) (And.intro (H7.out.2.2.2.1.below hb) (blk_on hb H7.out.2.2.2.2)))))
    clear hb
    obtain ⟨z0, z1, z2, z3, z4, z5, z6, z7⟩ := blk8 H8.out.2.2.2.2
    go_wp2_with fail
    refine (HU2.out _ H8.out.2.1 H8.out.2.2.2.1).mono ?_
    rintro en v6 ⟨⟨c1, c2, rfl, hun⟩, hb⟩
    clear z0 z1 z2 z3 z4 z5 z6 z7
    have H9 := Lib.hid (And.intro (H8.out.1.trans (hb.mono H8.out.1.size)) (And.intro (H8.out.2.1.below hb) (And.intro (H8.out.2.2.1.below hb) (And.intro (H8.out.2.2.2.1.below hb) (blk_on hb H8.out.2.2.2.2)))))
    clear hb
    go_wp2
    go_ret3
    exact HR.out _ _ ⟨⟨_, _, rfl, hun⟩, H9.out.1⟩
def clashP (l : List LeafT) (lba : Int) (p : PrfD) : Prop := rightB l = true ∧ (tellsP (rootL (hashL l)) l.length lba p).2.2 = 0 ∧ liesP l lba p
theorem pclash_any (lv : Value) (l : List LeafT) (lba : Int) (p : PrfD) (u v : Value) (w : World) (hl : Rd leafE w lv l) (hlen : l.length ≤ 4096) (hu : Rd strE w u p.up) (hv : Rd strE w v p.left) (hun : p.up.length ≤ 100000000) (hvn : p.left.length ≤ 100000000) :
    Calls Try.prog 21 #[lv, .int .i64 lba, prfV p u v] w fun e w' => (clashP l lba p → clashY e) ∧ (¬ clashP l lba p → clashN e) ∧ Below w.heap.size w w' := by
  by_cases hr : rightB l = true
  · by_cases he : (tellsP (rootL (hashL l)) l.length lba p).2.2 = 0
    · by_cases hlie : liesP l lba p
      · have hc : clashP l lba p := ⟨hr, he, hlie⟩
        by_cases hone : otherP l p.at_ p.here p.up
        · exact (pclash_here lv l lba p u v w hl hlen hu hv hun hvn hr he hlie hone).mono fun e w' h => ⟨fun _ => h.1, fun q => absurd hc q, h.2⟩
        · exact (pclash_ahead lv l lba p u v w hl hlen hu hv hun hvn hr he hlie hone ((told_other hr he hlie).resolve_left hone)).mono fun e w' h => ⟨fun _ => h.1, fun q => absurd hc q, h.2⟩
      · exact (pclash_so lv l lba p u v w hl hlen hu hv hun hvn hr he hlie).mono fun e w' h => ⟨fun q => absurd q.2.2 hlie, fun _ => h.1, h.2⟩
    · exact (pclash_off lv l lba p u v w hl hlen hu hv hun hvn hr he).mono fun e w' h => ⟨fun q => absurd q.2.1 he, fun _ => h.1, h.2⟩
  · exact (pclash_wrong lv l lba p u v w hl hlen hu hv hun hvn hr).mono fun e w' h => ⟨fun q => absurd q.1 hr, fun _ => h.1, h.2⟩
end Go.Proofs.Ytelmcoedmkhkjaa
/- Equal proofs are the same, for the reference. -/
namespace Go.Proofs.Ytelmcoedmkhkjaa
open Go.RowKit Ks
set_option linter.unusedVariables false
set_option maxRecDepth 100000 in
set_option maxHeartbeats 4000000 in
theorem rsame_any (p : PrfD) (u v u2 v2 : Value) (w : World) (hu : Rd strE w u p.up) (hv : Rd strE w v p.left) (hu2 : Rd strE w u2 p.up) (hv2 : Rd strE w v2 p.left) (hun : p.up.length ≤ maxLen) (hvn : p.left.length ≤ maxLen) :
    Calls Try.prog 16 #[prfV p u v, prfV p u2 v2] w fun e w' => e = .returned (.bool true) ∧ Below w.heap.size w w' := by
  refine calls_by fun R HR => ?_
  have HD := Lib.hid (And.intro hu (And.intro hv (And.intro hu2 hv2)))
  obtain ⟨fd, at9, ⟨hn, hs⟩, ⟨an, as9⟩, up, left⟩ := p
  have HT := Lib.hid (fun (x y : Value) w h h' => (texts_any x y up up w h h' hun hun).mono fun e w' q => (show e = .returned (.bool true) ∧ Below w.heap.size w w' from ⟨by obtain ⟨b, q1, q2, q3⟩ := q; rw [q1, q2.2 rfl], by obtain ⟨b, q1, q2, q3⟩ := q; exact q3⟩))
  have HT2 := Lib.hid (fun (x y : Value) w h h' => (texts_any x y left left w h h' hvn hvn).mono fun e w' q => (show e = .returned (.bool true) ∧ Below w.heap.size w w' from ⟨by obtain ⟨b, q1, q2, q3⟩ := q; rw [q1, q2.2 rfl], by obtain ⟨b, q1, q2, q3⟩ := q; exact q3⟩))
  obtain ⟨ua, uc, rfl, -⟩ := hu.shape
  obtain ⟨la, lc, rfl, -⟩ := hv.shape
  obtain ⟨ub, ud, rfl, -⟩ := hu2.shape
  obtain ⟨lb, ld, rfl, -⟩ := hv2.shape
  dsimp only [prfV, prfC]
  clear hu hv hu2 hv2 hun hvn
  have H1 := Lib.hid (And.intro (Below.refl w.heap.size w) (And.intro (HD.out.1) (And.intro (HD.out.2.1) (And.intro (HD.out.2.2.1) (HD.out.2.2.2)))))
  obtain ⟨W1, hW1⟩ : ∃ W1, w.alloc (.cells #[.bool fd, .int .i64 at9, .int .i64 hn, .string hs, .int .i64 an, .string as9, .slice ua up.length uc, .slice la left.length lc] 29) = W1 := ⟨_, rfl⟩
  have hbW1 : Below w.heap.size w W1 := by rw [← hW1]; exact alloc_below w _
  have kW1 : W1.heap[w.heap.size]? = some (.cells #[.bool fd, .int .i64 at9, .int .i64 hn, .string hs, .int .i64 an, .string as9, .slice ua up.length uc, .slice la left.length lc] 29 (0, 0)) := by rw [← hW1]; exact alloc_new w _
  have H2 := Lib.hid (And.intro (H1.out.1.trans (hbW1.mono H1.out.1.size)) (And.intro (H1.out.2.1.below hbW1) (And.intro (H1.out.2.2.1.below hbW1) (And.intro (H1.out.2.2.2.1.below hbW1) (And.intro (H1.out.2.2.2.2.below hbW1) (kW1))))))
  clear hbW1 kW1
  obtain ⟨W2, hW2⟩ : ∃ W2, W1.alloc (.cells #[.bool fd, .int .i64 at9, .int .i64 hn, .string hs, .int .i64 an, .string as9, .slice ub up.length ud, .slice lb left.length ld] 29) = W2 := ⟨_, rfl⟩
  have hbW2 : Below W1.heap.size W1 W2 := by rw [← hW2]; exact alloc_below W1 _
  have kW2 : W2.heap[W1.heap.size]? = some (.cells #[.bool fd, .int .i64 at9, .int .i64 hn, .string hs, .int .i64 an, .string as9, .slice ub up.length ud, .slice lb left.length ld] 29 (0, 0)) := by rw [← hW2]; exact alloc_new W1 _
  have H3 := Lib.hid (And.intro (H2.out.1.trans (hbW2.mono H2.out.1.size)) (And.intro (H2.out.2.1.below hbW2) (And.intro (H2.out.2.2.1.below hbW2) (And.intro (H2.out.2.2.2.1.below hbW2) (And.intro (H2.out.2.2.2.2.1.below hbW2) (And.intro (blk_on hbW2 H2.out.2.2.2.2.2) (kW2)))))))
  clear hbW2 kW2
  obtain ⟨y0, y1, y2, y3, y4, y5, y6, y7⟩ := blk8 H3.out.2.2.2.2.2.1
  obtain ⟨z0, z1, z2, z3, z4, z5, z6, z7⟩ := blk8 H3.out.2.2.2.2.2.2
  go_enter Try.func16, Try.ntmps16
  go_wp2_with fail
  refine (HT.out _ _ _ H3.out.2.1 H3.out.2.2.2.1).mono ?_
  rintro en v1 ⟨rfl, hb⟩
  clear y0 z0 y1 z1 y2 z2 y3 z3 y4 z4 y5 z5 y6 z6 y7 z7 hW1 hW2
  have H4 := Lib.hid (And.intro (H3.out.1.trans (hb.mono H3.out.1.size)) (And.intro (H3.out.2.1.below hb) (And.intro (H3.out.2.2.1.below hb) (And.intro (H3.out.2.2.2.1.below hb) (And.intro (H3.out.2.2.2.2.1.below hb) (And.intro (blk_on hb H3.out.2.2.2.2.2.1) (blk_on hb H3.out.2.2.2.2.2.2)))))))
  clear hb
  obtain ⟨y0, y1, y2, y3, y4, y5, y6, y7⟩ := blk8 H4.out.2.2.2.2.2.1
  obtain ⟨z0, z1, z2, z3, z4, z5, z6, z7⟩ := blk8 H4.out.2.2.2.2.2.2
  go_wp2_with fail
  refine (HT2.out _ _ _ H4.out.2.2.1 H4.out.2.2.2.2.1).mono ?_
  rintro en v2 ⟨rfl, hb⟩
  clear y0 z0 y1 z1 y2 z2 y3 z3 y4 z4 y5 z5 y6 z6 y7 z7
  have H5 := Lib.hid (And.intro (H4.out.1.trans (hb.mono H4.out.1.size)) (And.intro (H4.out.2.1.below hb) (And.intro (H4.out.2.2.1.below hb) (And.intro (H4.out.2.2.2.1.below hb) (And.intro (H4.out.2.2.2.2.1.below hb) (And.intro (blk_on hb H4.out.2.2.2.2.2.1) (blk_on hb H4.out.2.2.2.2.2.2)))))))
  clear hb
  go_wp2
  exact HR.out _ _ ⟨rfl, H5.out.1⟩
end Go.Proofs.Ytelmcoedmkhkjaa
/- Leaves and their hashes, the hash of data: the reference's answers. -/
namespace Ks
open Go
theorem data_ok (a b : Int) : dataE a b = 0 ↔ putOk a 4 = true ∧ putOk b 4 = true := by
  rw [dataE, packE]
  have h : packOk [4, 4] [a, b] = true ↔ putOk a 4 = true ∧ putOk b 4 = true := by
    rw [packOk, decide_eq_true_iff]
    constructor
    · rintro ⟨_, h⟩
      exact ⟨h 0 (by simp), h 1 (by simp)⟩
    · rintro ⟨h1, h2⟩
      refine ⟨rfl, fun i hi => ?_⟩
      match i, hi with
      | 0, _ => exact h1
      | 1, _ => exact h2
  by_cases hp : packOk [4, 4] [a, b] = true
  · rw [if_pos hp]; exact ⟨fun _ => h.1 hp, fun _ => rfl⟩
  · rw [if_neg hp]; exact ⟨fun e => absurd e (by decide), fun q => absurd (h.2 q) hp⟩
theorem data_cat {a b : Int} (h1 : putOk a 4 = true) (h2 : putOk b 4 = true) : packS [4, 4] [a, b] = putS a 4 ++ putS b 4 := by
  have hp : packOk [4, 4] [a, b] = true := by
    rw [packOk, decide_eq_true_iff]
    refine ⟨rfl, fun i hi => ?_⟩
    match i, hi with
    | 0, _ => exact h1
    | 1, _ => exact h2
  rw [packS, if_pos hp, putS, putS, if_pos h1, if_pos h2]
  show (⟨((([] : List UInt8) ++ putL 4 a.toNat) ++ putL 4 b.toNat).toArray⟩ : ByteArray) = ⟨(putL 4 a.toNat).toArray⟩ ++ ⟨(putL 4 b.toNat).toArray⟩
  rw [List.nil_append]
  all_goals (apply ByteArray.ext; simp [ByteArray.data_append])
theorem put_small (n : Int) : (putS n 4).size ≤ 8 := by
  rw [putS]
  split
  · show (putL 4 n.toNat).toArray.size ≤ 8
    simp
  · decide
theorem data_sum {a b : Int} (s : ByteArray) (h1 : putOk a 4 = true) (h2 : putOk b 4 = true) : shaS (putS a 4 ++ putS b 4 ++ s).data.toList = dataS a b s := by
  rw [dataS, if_pos ((data_ok a b).2 ⟨h1, h2⟩), data_cat h1 h2]
  show sha1 _ = sha1 _
  congr 1
  all_goals simp [ByteArray.data_append]
end Ks
namespace Ks
open Go
/-- the place ahead of a leaf -/
def wasL (l : List LeafT) (k : Nat) : Int := if k = 0 then -1 else ((l[k - 1]?).getD noLeaf).1
end Ks
namespace Go.Proofs.Ytelmcoedmkhkjaa
open Go.RowKit Ks
set_option linter.unusedVariables false
set_option linter.unusedSimpArgs false
set_option maxRecDepth 100000 in
set_option maxHeartbeats 4000000 in
theorem rdata_any (epoch slot : Int) (s : ByteArray) (w : World) (h1 : epoch ≤ 9223372036854775807) (h2 : slot ≤ 9223372036854775807) (hs : s.size ≤ 1000000000 - 100) :
    Calls Try.prog 9 #[.int .i64 epoch, .int .i64 slot, .string s] w fun e w' => e = .returned (.tuple #[.string (dataS epoch slot s), .bool (decide (dataE epoch slot = 0))]) ∧ Below w.heap.size w w' := by
  refine calls_by fun R HR => ?_
  have HA := Lib.hid (fun w => rput_any epoch 4 w h1)
  have HB := Lib.hid (fun w => rput_any slot 4 w h2)
  have z1 := put_small epoch
  have z2 := put_small slot
  have HS := Lib.hid (fun w => rsumS_any (putS epoch 4 ++ putS slot 4 ++ s) w (by rw [ByteArray.size_append, ByteArray.size_append]; omega))
  have c1 : ¬ 9223372036854775807 < (putS epoch 4).size + (putS slot 4).size := by omega
  have c2 : ¬ 9223372036854775807 < (putS epoch 4).size + (putS slot 4).size + s.size := by omega
  have hok := data_ok epoch slot
  have hsum := @data_sum epoch slot s
  by_cases p1 : putOk epoch 4 = true
  · by_cases p2 : putOk slot 4 = true
    · rw [hsum p1 p2] at HS
      have HD := Lib.hid (show decide (dataE epoch slot = 0) = true from decide_eq_true (hok.2 ⟨p1, p2⟩))
      simp only [putE, p1, p2, if_true] at HA HB
      clear hsum hok p1 p2 z1 z2 h1 h2 hs
      generalize putS epoch 4 = A at *
      generalize putS slot 4 = B at *
      generalize dataS epoch slot s = Z at *
      have H1 := Lib.hid (Below.refl w.heap.size w)
      go_enter Try.func9, Try.ntmps9
      go_wp2_with fail
      refine (HA.out _).mono ?_
      rintro en v1 ⟨rfl, hb⟩
      have H2 := Lib.hid (H1.out.trans (hb.mono H1.out.size))
      clear hb
      go_wp2_with fail
      refine (HB.out _).mono ?_
      rintro en v2 ⟨rfl, hb⟩
      have H3 := Lib.hid (H2.out.trans (hb.mono H2.out.size))
      clear hb
      go_wp2_with fail
      refine (HS.out _).mono ?_
      rintro en v3 ⟨rfl, hb⟩
      have H4 := Lib.hid (H3.out.trans (hb.mono H3.out.size))
      clear hb
      go_wp2
      exact HR.out _ _ ⟨by rw [HD.out]; try rfl, H4.out⟩
    · have hno : ¬ (putOk epoch 4 = true ∧ putOk slot 4 = true) := fun q => p2 q.2
      simp only [putE, p1, p2, if_true, if_false, Bool.false_eq_true] at HA HB
      have HD := Lib.hid (show dataS epoch slot s = ⟨#[]⟩ ∧ decide (dataE epoch slot = 0) = false from ⟨by rw [dataS, if_neg (fun e => hno (hok.1 e))], decide_eq_false fun e => hno (hok.1 e)⟩)
      have H1 := Lib.hid (Below.refl w.heap.size w)
      clear hsum hok hno z1 z2 c1 c2 h1 h2 hs HS
      go_enter Try.func9, Try.ntmps9
      go_wp2_with fail
      refine (HA.out _).mono ?_
      rintro en v1 ⟨rfl, hb⟩
      have H2 := Lib.hid (H1.out.trans (hb.mono H1.out.size))
      clear hb
      go_wp2_with fail
      refine (HB.out _).mono ?_
      rintro en v2 ⟨rfl, hb⟩
      have H3 := Lib.hid (H2.out.trans (hb.mono H2.out.size))
      clear hb
      go_wp2
      exact HR.out _ _ ⟨by rw [HD.out.1, HD.out.2]; try rfl, H3.out⟩
  · have hno : ¬ (putOk epoch 4 = true ∧ putOk slot 4 = true) := fun q => p1 q.1
    by_cases p2 : putOk slot 4 = true
    · simp only [putE, p1, p2, if_true, if_false, Bool.false_eq_true] at HA HB
      have HD := Lib.hid (show dataS epoch slot s = ⟨#[]⟩ ∧ decide (dataE epoch slot = 0) = false from ⟨by rw [dataS, if_neg (fun e => hno (hok.1 e))], decide_eq_false fun e => hno (hok.1 e)⟩)
      have H1 := Lib.hid (Below.refl w.heap.size w)
      clear hsum hok hno z1 z2 c1 c2 h1 h2 hs HS
      go_enter Try.func9, Try.ntmps9
      go_wp2_with fail
      refine (HA.out _).mono ?_
      rintro en v1 ⟨rfl, hb⟩
      have H2 := Lib.hid (H1.out.trans (hb.mono H1.out.size))
      clear hb
      go_wp2_with fail
      refine (HB.out _).mono ?_
      rintro en v2 ⟨rfl, hb⟩
      have H3 := Lib.hid (H2.out.trans (hb.mono H2.out.size))
      clear hb
      go_wp2
      exact HR.out _ _ ⟨by rw [HD.out.1, HD.out.2]; try rfl, H3.out⟩
    · simp only [putE, p1, p2, if_true, if_false, Bool.false_eq_true] at HA HB
      have HD := Lib.hid (show dataS epoch slot s = ⟨#[]⟩ ∧ decide (dataE epoch slot = 0) = false from ⟨by rw [dataS, if_neg (fun e => hno (hok.1 e))], decide_eq_false fun e => hno (hok.1 e)⟩)
      have H1 := Lib.hid (Below.refl w.heap.size w)
      clear hsum hok hno z1 z2 c1 c2 h1 h2 hs HS
      go_enter Try.func9, Try.ntmps9
      go_wp2_with fail
      refine (HA.out _).mono ?_
      rintro en v1 ⟨rfl, hb⟩
      have H2 := Lib.hid (H1.out.trans (hb.mono H1.out.size))
      clear hb
      go_wp2_with fail
      refine (HB.out _).mono ?_
      rintro en v2 ⟨rfl, hb⟩
      have H3 := Lib.hid (H2.out.trans (hb.mono H2.out.size))
      clear hb
      go_wp2
      exact HR.out _ _ ⟨by rw [HD.out.1, HD.out.2]; try rfl, H3.out⟩
set_option maxRecDepth 100000 in
set_option maxHeartbeats 4000000 in
theorem rsaid_any (x : LeafT) (w : World) : Calls Try.prog 13 #[leafV x] w fun e w' => e = .returned (.string (saidS x)) ∧ Below w.heap.size w w' := by
  obtain ⟨n, s⟩ := x
  refine calls_by fun R HR => ?_
  by_cases h1 : n < 0
  · have HZ := Lib.hid (said_no (x := (n, s)) fun h => by have := h.1; simp at this; omega)
    have H1 := Lib.hid (Below.refl w.heap.size w)
    obtain ⟨W1, hW1⟩ : ∃ W1, w.alloc (.cells #[.int .i64 n, .string s] 25) = W1 := ⟨_, rfl⟩
    have hbW1 : Below w.heap.size w W1 := by rw [← hW1]; exact alloc_below w _
    have kW1 : W1.heap[w.heap.size]? = some (.cells #[.int .i64 n, .string s] 25 (0, 0)) := by rw [← hW1]; exact alloc_new w _
    have H2 := Lib.hid (And.intro (H1.out.trans (hbW1.mono H1.out.size)) (kW1))
    clear hbW1 kW1
    obtain ⟨z0, z1, fzx0, fzx1⟩ := blk2 H2.out.2
    go_enter Try.func13, Try.ntmps13
    go_wp2
    exact HR.out _ _ ⟨by rw [HZ.out]; try rfl, H2.out.1⟩
  · by_cases h2 : 4095 < n
    · have HZ := Lib.hid (said_no (x := (n, s)) fun h => by have := h.2.1; simp at this; omega)
      have H1 := Lib.hid (Below.refl w.heap.size w)
      obtain ⟨W1, hW1⟩ : ∃ W1, w.alloc (.cells #[.int .i64 n, .string s] 25) = W1 := ⟨_, rfl⟩
      have hbW1 : Below w.heap.size w W1 := by rw [← hW1]; exact alloc_below w _
      have kW1 : W1.heap[w.heap.size]? = some (.cells #[.int .i64 n, .string s] 25 (0, 0)) := by rw [← hW1]; exact alloc_new w _
      have H2 := Lib.hid (And.intro (H1.out.trans (hbW1.mono H1.out.size)) (kW1))
      clear hbW1 kW1
      obtain ⟨z0, z1, fzx0, fzx1⟩ := blk2 H2.out.2
      go_enter Try.func13, Try.ntmps13
      go_wp2
      exact HR.out _ _ ⟨by rw [HZ.out]; try rfl, H2.out.1⟩
    · by_cases h3 : s.size = 32
      · have hm : mayLeaf (n, s) := ⟨by show 0 ≤ n; omega, by show n < 4096; omega, h3⟩
        have HZ := Lib.hid (said_may hm)
        have h4 : ((s.size : Int) != 32) = false := by rw [h3]; rfl
        have HU := Lib.hid (fun w => rput_any n 4 w (by omega))
        have hz := put_small n
        simp only [putE, put4_ok hm.1 hm.2.1, if_true] at HU
        obtain ⟨A, hA⟩ : ∃ A, putS n 4 = A := ⟨_, rfl⟩
        rw [show (putS (n, s).1 4 ++ (n, s).2) = A ++ s by rw [← hA]] at HZ
        rw [hA] at HU hz
        have h5 : ¬ 9223372036854775807 < A.size + s.size := by omega
        clear hm hz hA h3
        have H1 := Lib.hid (Below.refl w.heap.size w)
        obtain ⟨W1, hW1⟩ : ∃ W1, w.alloc (.cells #[.int .i64 n, .string s] 25) = W1 := ⟨_, rfl⟩
        have hbW1 : Below w.heap.size w W1 := by rw [← hW1]; exact alloc_below w _
        have kW1 : W1.heap[w.heap.size]? = some (.cells #[.int .i64 n, .string s] 25 (0, 0)) := by rw [← hW1]; exact alloc_new w _
        have H2 := Lib.hid (And.intro (H1.out.trans (hbW1.mono H1.out.size)) (kW1))
        clear hbW1 kW1
        obtain ⟨z0, z1, fzx0, fzx1⟩ := blk2 H2.out.2
        go_enter Try.func13, Try.ntmps13
        go_wp2_with fail
        refine (HU.out _).mono ?_
        rintro en v1 ⟨rfl, hb⟩
        have H3 := Lib.hid (And.intro (H2.out.1.trans (hb.mono H2.out.1.size)) (blk_on hb H2.out.2))
        clear hb
        clear hW1
        obtain ⟨z0, z1, fzx0, fzx1⟩ := blk2 H3.out.2
        go_wp2
        exact HR.out _ _ ⟨by rw [HZ.out]; try rfl, H3.out.1⟩
      · have HZ := Lib.hid (said_no (x := (n, s)) fun h => h3 h.2.2)
        have h4 : ((s.size : Int) != 32) = true := by rw [bne_iff_ne]; omega
        clear h3
        have H1 := Lib.hid (Below.refl w.heap.size w)
        obtain ⟨W1, hW1⟩ : ∃ W1, w.alloc (.cells #[.int .i64 n, .string s] 25) = W1 := ⟨_, rfl⟩
        have hbW1 : Below w.heap.size w W1 := by rw [← hW1]; exact alloc_below w _
        have kW1 : W1.heap[w.heap.size]? = some (.cells #[.int .i64 n, .string s] 25 (0, 0)) := by rw [← hW1]; exact alloc_new w _
        have H2 := Lib.hid (And.intro (H1.out.trans (hbW1.mono H1.out.size)) (kW1))
        clear hbW1 kW1
        obtain ⟨z0, z1, fzx0, fzx1⟩ := blk2 H2.out.2
        go_enter Try.func13, Try.ntmps13
        go_wp2
        exact HR.out _ _ ⟨by rw [HZ.out]; try rfl, H2.out.1⟩
theorem rhash_any (x : LeafT) (w : World) : Calls Try.prog 26 #[.string (ByteArray.mk #[0] ++ saidS x)] w fun e w' => e = .returned (.string (hashS x)) ∧ Below w.heap.size w w' := by
  have hz := said_le x
  have h := rsumS_any (ByteArray.mk #[0] ++ saidS x) w (by rw [ByteArray.size_append]; show 1 + (saidS x).size ≤ _; omega)
  rw [show (ByteArray.mk #[0] ++ saidS x).data.toList = 0 :: (saidS x).data.toList by simp] at h
  exact h
set_option maxRecDepth 100000 in
set_option maxHeartbeats 4000000 in
theorem rhashes_any (lv : Value) (l : List LeafT) (w : World) (hl : Rd leafE w lv l) (hlen : l.length ≤ 1000000) :
    Calls Try.prog 18 #[lv] w fun e w' => ∃ v, e = .returned v ∧ Row strE w' w.heap.size 9 v (hashL l) ∧ Below w.heap.size w w' := by
  refine calls_by fun R HR => ?_
  have HL := Lib.hid hl
  obtain ⟨a, cap, rfl, hcap, -⟩ := hl.shape
  have hli : (l.length : Int) ≤ 1000000 := by omega
  clear hl hcap
  go_enter Try.func18, Try.ntmps18
  go_wp2_with fail
  go_loopw [3, 4] (fun v i wx => ∃ (k : Nat), k ≤ l.length ∧ i = .int .i64 k ∧ Hid (Row strE wx w.heap.size 9 v (hashL (l.take k)) ∧ Below w.heap.size w wx)) (fun _ i _ => l.length - (intOf i).toNat)
  case atStart => exact ⟨0, Nat.zero_le _, rfl, Lib.hid ⟨Row.nil _ _ _, Below.refl _ _⟩⟩
  case round =>
    obtain ⟨k, hk, rfl, hN⟩ := hrel
    by_cases hlt : k < l.length
    · have hki : (k : Int) < (l.length : Int) := by omega
      obtain ⟨x, hx⟩ : ∃ x, l[k]? = some x := ⟨_, List.getElem?_eq_getElem hlt⟩
      obtain ⟨b, o, ha, hb0, dd⟩ := (HL.out.below hN.out.2).at k x hx
      subst ha
      have HX := Lib.hid (hash_take l k x hx)
      have HK := Lib.hid (show (hashL (l.take k)).length ≤ 1000000 by rw [hashL_length, List.length_take]; omega)
      have HS := Lib.hid (fun w => rsaid_any x w)
      have HH := Lib.hid (fun w => rhash_any x w)
      have hz := said_le x
      generalize hashS x = sx at *
      generalize saidS x = sy at *
      have h5 : ¬ 9223372036854775807 < 1 + sy.size := by omega
      clear hz
      obtain ⟨n, s⟩ := x
      have d0 : wr.cell? ⟨b, o + k * 2, none⟩ = some (.int .i64 n) := dd 0 _ rfl
      have d1 : wr.cell? ⟨b, o + k * 2 + 1, none⟩ = some (.string s) := dd 1 _ rfl
      clear dd hx hb0
      go_wp2_with fail
      refine (HS.out _).mono ?_
      rintro e w3 ⟨rfl, hb⟩
      have H3 := Lib.hid (And.intro (hN.out.2.trans (hb.mono hN.out.2.size)) (hN.out.1.below hb))
      clear hb d0 d1
      go_wp2_with fail
      refine (HH.out _).mono ?_
      rintro e w4 ⟨rfl, hb⟩
      obtain ⟨W4, hW4⟩ : ∃ W4, w4.alloc (.cells #[.string sx] 9) = W4 := ⟨_, rfl⟩
      have hb4 : Below w4.heap.size w4 W4 := by rw [← hW4]; exact alloc_below _ _
      have hr4 : Rd strE W4 (.slice (some ⟨w4.heap.size, 0, none⟩) 1 1) [sx] := by rw [← hW4]; exact Rd.single (E := strE) sx (alloc_new _ _) rfl
      have H4 := Lib.hid (And.intro ((H3.out.1.trans (hb.mono H3.out.1.size)).trans (hb4.mono (Nat.le_trans H3.out.1.size hb.size))) (And.intro hr4 ((H3.out.2.below hb).below hb4)))
      clear hb hb4 hr4
      go_wp2_with (at_builtin; refine wpList_append_row _ rfl _ _ 26 rfl strT w.heap.size _ _ (hashL (l.take k)) [sx] rfl rfl H4.out.2.2 H4.out.2.1 H4.out.1.size (by have := HK.out; simp; omega) (by decide) ?_)
      intro r5 w5 hG
      have HG := Lib.hid (And.intro hG.1 (hG.below H4.out.1 H4.out.1.size (fun b e => (H4.out.2.2.lt e).1)))
      clear hG hW4
      go_wp2_with fail
      go_roundw
      case rel => exact ⟨k + 1, by omega, by go_num, Lib.hid ⟨by rw [HX.out]; exact HG.out.1, HG.out.2⟩⟩
      case measure => simp [intOf]; omega
    · obtain rfl : k = l.length := by omega
      have hki : ¬ (l.length : Int) < (l.length : Int) := by omega
      have HN := Lib.hid (show Row strE wr w.heap.size 9 u3 (hashL l) by have := hN.out.1; rwa [List.take_length] at this)
      go_wp2
      exact HR.out _ _ ⟨_, rfl, HN.out, hN.out.2⟩
set_option maxRecDepth 100000 in
set_option maxHeartbeats 4000000 in
theorem rright_any (lv : Value) (l : List LeafT) (w : World) (hl : Rd leafE w lv l) (hlen : l.length ≤ 1000000) :
    Calls Try.prog 14 #[lv] w fun e w' => e = .returned (.bool (rightB l)) ∧ Below w.heap.size w w' := by
  refine calls_by fun R HR => ?_
  have HL := Lib.hid hl
  obtain ⟨a, cap, rfl, hcap, -⟩ := hl.shape
  have hli : (l.length : Int) ≤ 1000000 := by omega
  clear hl hcap
  go_enter Try.func14, Try.ntmps14
  go_wp2_with fail
  go_loopw [3] (fun i wx => ∃ (k : Nat), k ≤ l.length ∧ i = .int .i64 k ∧ Hid (rightFrom (wasL l k) (l.drop k) = rightB l ∧ Below w.heap.size w wx)) (fun i _ => l.length - (intOf i).toNat)
  case atStart => exact ⟨0, Nat.zero_le _, rfl, Lib.hid ⟨rfl, Below.refl _ _⟩⟩
  case round =>
    obtain ⟨k, hk, rfl, hN⟩ := hrel
    by_cases hlt : k < l.length
    · have hki : (k : Int) < (l.length : Int) := by omega
      obtain ⟨x, hx⟩ : ∃ x, l[k]? = some x := ⟨_, List.getElem?_eq_getElem hlt⟩
      obtain ⟨b, o, ha, hb0, dd⟩ := (HL.out.below hN.out.2).at k x hx
      subst ha
      have hdr : l.drop k = x :: l.drop (k + 1) := by
        rw [List.drop_eq_getElem_cons hlt]
        congr 1
        exact (List.getElem?_eq_some_iff.1 hx).2
      have HX := Lib.hid (show rightB l = (decide (wasL l k < x.1 ∧ mayLeaf x) && rightFrom x.1 (l.drop (k + 1))) by rw [← hN.out.1, hdr, rightFrom])
      have HW := Lib.hid (show wasL l (k + 1) = x.1 by rw [wasL, if_neg (by omega), Nat.add_sub_cancel, hx]; rfl)
      have HS := Lib.hid (fun w => rsaid_any x w)
      have hmx := @said_ne x
      generalize saidS x = sx at *
      obtain ⟨n, s⟩ := x
      have d0 : wr.cell? ⟨b, o + k * 2, none⟩ = some (.int .i64 n) := dd 0 _ rfl
      have d1 : wr.cell? ⟨b, o + k * 2 + 1, none⟩ = some (.string s) := dd 1 _ rfl
      have r0 := fun p => after_cell d0 p
      have r1 := fun p => after_cell d1 p
      have cS := Lib.hid (fun p => calls_after (p := p) (HS.out (After wr p)))
      clear dd hdr hb0
      by_cases hm : mayLeaf (n, s)
      · have hsx := not_blank (hmx.2 hm)
        clear hmx
        by_cases h0 : k = 0
        · have HZ := Lib.hid (show rightB l = rightFrom n (l.drop (k + 1)) by rw [HX.out, decide_eq_true ⟨by show wasL l k < n; have : 0 ≤ n := hm.1; rw [wasL, if_pos h0]; omega, hm⟩]; rfl)
          have hk0 : decide ((0 : Int) < (k : Int)) = false := by simp; omega
          have hk1 : decide (0 < k) = false := by simp; omega
          clear hm h0
          go_wp2_with fail
          refine wp_region_after (by kernel_rfl) (by kernel_rfl) ?_
          repeat (go_big_quiet_step (fail))
          go_big_quiet_step (exact cS.out _)
          repeat (go_big_quiet_step (fail))
          refine wpQuiet_nil ?_
          rintro w5 ⟨q, rfl⟩
          have hb5 := after_below wr q
          have H5 := Lib.hid (hN.out.2.trans (hb5.mono hN.out.2.size))
          generalize After wr q = w5 at *
          clear hb5 cS r0 r1 d0 d1
          go_wp2_with fail
          go_roundw
          case rel => exact ⟨k + 1, by omega, by go_num, Lib.hid ⟨by rw [HZ.out, HW.out], H5.out⟩⟩
          case measure => simp [intOf]; omega
        · obtain ⟨j, rfl⟩ : ∃ j, k = j + 1 := ⟨k - 1, by omega⟩
          obtain ⟨y, hy⟩ : ∃ y, l[j]? = some y := ⟨_, List.getElem?_eq_getElem (by omega)⟩
          obtain ⟨b2, o2, ha2, hb2, dd2⟩ := (HL.out.below hN.out.2).at j y hy
          cases ha2
          obtain ⟨m, r⟩ := y
          have e0 : wr.cell? ⟨b, o + j * 2, none⟩ = some (.int .i64 m) := dd2 0 _ rfl
          have s0 := fun p => after_cell e0 p
          have hj1 : (0 : Int) < ((j + 1 : Nat) : Int) := by omega
          have hj1' : (0 : Int) < (j : Int) + 1 := by omega
          have hj2 : wrap64 (((j + 1 : Nat) : Int) - 1) = (j : Int) := by unfold wrap64; omega
          have hj2' : wrap64 ((j : Int) + 1 - 1) = (j : Int) := by unfold wrap64; omega
          have hj3 : (j : Int) < (l.length : Int) := by omega
          have hwas : wasL l (j + 1) = m := by rw [wasL, if_neg (by omega), Nat.add_sub_cancel, hy]; rfl
          clear dd2 hb2 hy
          by_cases hle : n ≤ m
          · have HZ := Lib.hid (show rightB l = false by rw [HX.out, decide_eq_false (fun h => by have h1 : wasL l (j + 1) < n := h.1; rw [hwas] at h1; omega)]; rfl)
            clear hm hwas
            go_wp2_with fail
            refine wp_region_after (by kernel_rfl) (by kernel_rfl) ?_
            repeat (go_big_quiet_step (fail))
            go_big_quiet_step (exact cS.out _)
            repeat (go_big_quiet_step (fail))
            refine wpQuiet_nil ?_
            rintro w5 ⟨q, rfl⟩
            have hb5 := after_below wr q
            have H5 := Lib.hid (hN.out.2.trans (hb5.mono hN.out.2.size))
            generalize After wr q = w5 at *
            clear hb5 cS r0 r1 d0 d1
            go_wp2
            exact HR.out _ _ ⟨by rw [HZ.out]; try rfl, H5.out⟩
          · have HZ := Lib.hid (show rightB l = rightFrom n (l.drop (j + 1 + 1)) by rw [HX.out, decide_eq_true ⟨by show wasL l (j + 1) < n; rw [hwas]; omega, hm⟩]; rfl)
            clear hm hwas
            go_wp2_with fail
            refine wp_region_after (by kernel_rfl) (by kernel_rfl) ?_
            repeat (go_big_quiet_step (fail))
            go_big_quiet_step (exact cS.out _)
            repeat (go_big_quiet_step (fail))
            refine wpQuiet_nil ?_
            rintro w5 ⟨q, rfl⟩
            have hb5 := after_below wr q
            have H5 := Lib.hid (hN.out.2.trans (hb5.mono hN.out.2.size))
            generalize After wr q = w5 at *
            clear hb5 cS r0 r1 d0 d1
            go_wp2_with fail
            go_roundw
            case rel => exact ⟨(j + 1) + 1, by omega, by go_num, Lib.hid ⟨by rw [HZ.out, HW.out], H5.out⟩⟩
            case measure => simp [intOf]; omega
      · have hsx : sx = ⟨#[]⟩ := Classical.byContradiction fun h => hm (hmx.1 h)
        have HZ := Lib.hid (show rightB l = false by rw [HX.out, decide_eq_false (fun h => hm h.2)]; rfl)
        subst hsx
        clear hmx hm
        go_wp2_with fail
        refine wp_region_after (by kernel_rfl) (by kernel_rfl) ?_
        repeat (go_big_quiet_step (fail))
        go_big_quiet_step (exact cS.out _)
        repeat (go_big_quiet_step (fail))
        refine wpQuiet_nil ?_
        rintro w5 ⟨q, rfl⟩
        have hb5 := after_below wr q
        have H5 := Lib.hid (hN.out.2.trans (hb5.mono hN.out.2.size))
        generalize After wr q = w5 at *
        clear hb5 cS r0 r1 d0 d1
        go_wp2
        exact HR.out _ _ ⟨by rw [HZ.out]; try rfl, H5.out⟩
    · obtain rfl : k = l.length := by omega
      have HZ := Lib.hid (show rightB l = true by rw [← hN.out.1, List.drop_length]; rfl)
      have hki : ¬ (l.length : Int) < (l.length : Int) := by omega
      go_wp2
      exact HR.out _ _ ⟨by rw [HZ.out], hN.out.2⟩
end Go.Proofs.Ytelmcoedmkhkjaa
