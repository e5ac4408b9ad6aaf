/- The law ProofSound: what its walk gives. -/
import Derived.Test.YtelmcoedmkhkjaaHLaw16b
namespace Go.Proofs.Ytelmcoedmkhkjaa
open Go.RowKit Ks
set_option linter.unusedVariables false
set_option maxRecDepth 100000 in
set_option maxHeartbeats 4000000 in
theorem psound_no (lv : Value) (l : List LeafT) (lba : Int) (p : PrfD) (u v : Value) (w : World) (hl : Rd leafE w lv l) (hu : Rd strE w u p.up) (hv : Rd strE w v p.left) (hun : p.up.length ≤ 100000000) (hvn : p.left.length ≤ 100000000) (hc : ¬ clashP l lba p) :
    Calls Try.prog 5 #[lv, .int .i64 lba, prfV p u v] w fun e w' => e = .returned (.bool true) ∧ Below w.heap.size w w' := by
  refine calls_by fun R HR => ?_
  have HD := Lib.hid (And.intro hl (And.intro hu hv))
  have HF := Lib.hid (fun w h h' h'' => pfew_any lv l p u v w h h' h'')
  have HCl := Lib.hid (fun w h hlen h' h'' => (pclash_any lv l lba p u v w h hlen h' h'' hun hvn).mono fun e w' q => And.intro (q.2.1 hc) q.2.2)
  have HRt := Lib.hid (fun w h hn => proot_any lv l w h hn)
  obtain ⟨RT, hRT⟩ : ∃ RT, prootV l = RT := ⟨_, rfl⟩
  rw [hRT] at HRt
  have HTe := Lib.hid (fun w h h' => tells_any RT l.length lba p u v w h h' hun hvn)
  obtain ⟨WN, hWN⟩ : ∃ WN, (wantP l lba).1 = WN := ⟨_, rfl⟩
  obtain ⟨WB, hWB⟩ : ∃ WB, (wantP l lba).2 = WB := ⟨_, rfl⟩
  have HW := Lib.hid (show wantP l lba = (WN, WB) by rw [← hWN, ← hWB])
  have hcase : prootE l = 2 ∨ (prootE l = 0 ∧ ((tellsP RT l.length lba p).2.2 != 0) = true) ∨ (prootE l = 0 ∧ (tellsP RT l.length lba p).2.2 = 0 ∧ (tellsP RT l.length lba p).1 = WN ∧ (tellsP RT l.length lba p).2.1 = WB) := by
    by_cases hr : rightB l = true
    · right
      have hz : prootE l = 0 := by rw [prootE, if_pos hr]
      have hv9 : RT = rootL (hashL l) := by rw [← hRT, prootV, if_pos hr]
      by_cases he : (tellsP RT l.length lba p).2.2 = 0
      · right
        refine ⟨hz, he, ?_⟩
        rw [← hWN, ← hWB]
        rw [hv9] at he ⊢
        exact Classical.byContradiction fun hno => hc ⟨hr, he, hno⟩
      · left
        exact ⟨hz, by rw [bne_iff_ne]; exact he⟩
    · left
      rw [prootE, if_neg hr]
  generalize tellsP RT l.length lba p = TT at *
  generalize prootE l = RE at *
  obtain ⟨T1, T2, T3⟩ := TT
  simp only at hcase HTe
  obtain ⟨fd, at9, ⟨hn, hs⟩, ⟨an, as9⟩, up, left⟩ := p
  obtain ⟨ua, uc, rfl, -⟩ := hu.shape
  obtain ⟨la, lc, rfl, -⟩ := hv.shape
  dsimp only [prfV, prfC]
  obtain ⟨a, cap, rfl, -⟩ := hl.shape
  clear hl hu hv hun hvn hc hRT hWN hWB
  have H1 := Lib.hid (And.intro (Below.refl w.heap.size w) (And.intro (HD.out.1) (And.intro (HD.out.2.1) (HD.out.2.2))))
  obtain ⟨W1, hW1⟩ : ∃ W1, w.alloc (.cells #[.bool fd, .int .i64 at9, .int .i64 hn, .string hs, .int .i64 an, .string as9, .slice ua up.length uc, .slice la left.length lc] 29) = W1 := ⟨_, rfl⟩
  have hbW1 : Below w.heap.size w W1 := by rw [← hW1]; exact alloc_below w _
  have kW1 : W1.heap[w.heap.size]? = some (.cells #[.bool fd, .int .i64 at9, .int .i64 hn, .string hs, .int .i64 an, .string as9, .slice ua up.length uc, .slice la left.length lc] 29 (0, 0)) := by rw [← hW1]; exact alloc_new w _
  have H2 := Lib.hid (And.intro (H1.out.1.trans (hbW1.mono H1.out.1.size)) (And.intro (H1.out.2.1.below hbW1) (And.intro (H1.out.2.2.1.below hbW1) (And.intro (H1.out.2.2.2.below hbW1) (kW1)))))
  clear hbW1 kW1
  obtain ⟨z0, z1, z2, z3, z4, z5, z6, z7⟩ := blk8 H2.out.2.2.2.2
  go_enter Try.func5, Try.ntmps5
  go_wp2_with fail
  refine (HF.out _ H2.out.2.1 H2.out.2.2.1 H2.out.2.2.2.1).mono ?_
  rintro en v1 ⟨q9, rfl, hq9, hb⟩
  have H3 := Lib.hid (And.intro (H2.out.1.trans (hb.mono H2.out.1.size)) (And.intro (H2.out.2.1.below hb) (And.intro (H2.out.2.2.1.below hb) (And.intro (H2.out.2.2.2.1.below hb) (blk_on hb H2.out.2.2.2.2)))))
  clear hb
  cases q9 with
  | false =>
    go_wp2_with fail
    refine (alive_any _).mono ?_
    rintro en v2 ⟨rfl, hb⟩
    have H4 := Lib.hid (And.intro (H3.out.1.trans (hb.mono H3.out.1.size)) (And.intro (H3.out.2.1.below hb) (And.intro (H3.out.2.2.1.below hb) (And.intro (H3.out.2.2.2.1.below hb) (blk_on hb H3.out.2.2.2.2)))))
    clear hb
    go_wp2
    exact HR.out _ _ ⟨rfl, H4.out.1⟩
  | true =>
    have hq := hq9 rfl
    have hn := hq.1
    have hn6 : l.length ≤ 1000000 := by omega
    have hn4 : l.length ≤ 4096 := by omega
    clear hq9
    obtain ⟨z0, z1, z2, z3, z4, z5, z6, z7⟩ := blk8 H3.out.2.2.2.2
    go_wp2_with fail
    refine (HCl.out _ H3.out.2.1 hn4 H3.out.2.2.1 H3.out.2.2.2.1).mono ?_
    rintro en v2 ⟨rfl, hb⟩
    clear z0 z1 z2 z3 z4 z5 z6 z7
    have H4 := Lib.hid (And.intro (H3.out.1.trans (hb.mono H3.out.1.size)) (And.intro (H3.out.2.1.below hb) (And.intro (H3.out.2.2.1.below hb) (And.intro (H3.out.2.2.2.1.below hb) (blk_on hb H3.out.2.2.2.2)))))
    clear hb
    go_wp2_with fail
    refine (HRt.out _ H4.out.2.1 hn6).mono ?_
    rintro en v3 ⟨rfl, hb⟩
    have H5 := Lib.hid (And.intro (H4.out.1.trans (hb.mono H4.out.1.size)) (And.intro (H4.out.2.1.below hb) (And.intro (H4.out.2.2.1.below hb) (And.intro (H4.out.2.2.2.1.below hb) (blk_on hb H4.out.2.2.2.2)))))
    clear hb
    obtain ⟨z0, z1, z2, z3, z4, z5, z6, z7⟩ := blk8 H5.out.2.2.2.2
    go_wp2_with fail
    refine (HTe.out _ H5.out.2.2.1 H5.out.2.2.2.1).mono ?_
    rintro en v4 ⟨rfl, hb⟩
    clear z0 z1 z2 z3 z4 z5 z6 z7
    have H6 := Lib.hid (And.intro (H5.out.1.trans (hb.mono H5.out.1.size)) (And.intro (H5.out.2.1.below hb) (And.intro (H5.out.2.2.1.below hb) (And.intro (H5.out.2.2.2.1.below hb) (blk_on hb H5.out.2.2.2.2)))))
    clear hb
    go_wp2_with fail
    go_loopw [15, 16, 49] (fun x y i wx => ∃ (k : Nat) (s : ByteArray) (b : Bool), k ≤ l.length ∧ x = .string s ∧ y = .bool b ∧ i = .int .i64 k ∧ Hid (wantP (l.take k) lba = (s, b) ∧ Below w.heap.size w wx)) (fun _ _ i _ => l.length - (intOf i).toNat)
    case atStart => exact ⟨0, ⟨#[]⟩, false, Nat.zero_le _, rfl, rfl, rfl, Lib.hid ⟨rfl, H6.out.1⟩⟩
    case round =>
      obtain ⟨k, s9, b9, hk, rfl, rfl, rfl, hN⟩ := hrel
      by_cases hlt : k < l.length
      · have hki : (k : Int) < (l.length : Int) := by omega
        obtain ⟨x, hx⟩ : ∃ x, l[k]? = some x := ⟨_, List.getElem?_eq_getElem hlt⟩
        obtain ⟨b, o, ha, hb0, dd⟩ := (HD.out.1.below hN.out.2).at k x hx
        cases ha
        have HX := Lib.hid (want_take l k x lba hx)
        obtain ⟨n, s⟩ := x
        have d0 : wr.cell? ⟨b, o + k * 2, none⟩ = some (.int .i64 n) := dd 0 _ rfl
        have d1 : wr.cell? ⟨b, o + k * 2 + 1, none⟩ = some (.string s) := dd 1 _ rfl
        obtain ⟨WL, hWL⟩ : ∃ WL, wr.alloc (.cells #[.int .i64 n, .string s] 25) = WL := ⟨_, rfl⟩
        have bL : Below wr.heap.size wr WL := by rw [← hWL]; exact alloc_below wr _
        have nL : WL.heap[wr.heap.size]? = some (.cells #[.int .i64 n, .string s] 25 (0, 0)) := by rw [← hWL]; exact alloc_new wr _
        obtain ⟨e0, e1, fe0, fe1⟩ := blk2 nL
        have HL := Lib.hid (hN.out.2.trans (bL.mono hN.out.2.size))
        clear bL nL dd hx hb0
        by_cases he : n = lba
        · subst he
          go_wp2_with fail
          go_roundw
          case rel => exact ⟨k + 1, s, true, by omega, rfl, rfl, by go_num, Lib.hid ⟨by rw [HX.out, if_pos rfl], HL.out⟩⟩
          case measure => simp [intOf]; omega
        · have he2 : (n == lba) = false := by simpa using he
          go_wp2_with fail
          go_roundw
          case rel => exact ⟨k + 1, s9, b9, by omega, rfl, rfl, by go_num, Lib.hid ⟨by rw [HX.out, if_neg he, hN.out.1], HL.out⟩⟩
          case measure => simp [intOf]; omega
      · obtain rfl : k = l.length := by omega
        have hki : ¬ (l.length : Int) < (l.length : Int) := by omega
        have hsb : (s9, b9) = (WN, WB) := by rw [← hN.out.1, List.take_length]; exact HW.out
        obtain ⟨rfl, rfl⟩ := Prod.mk.inj hsb
        clear hsb
        have HE := Lib.hid hN.out.2
        rcases hcase with rfl | ⟨rfl, h3⟩ | ⟨rfl, rfl, rfl, rfl⟩
        all_goals
          go_wp2_with fail
          refine (alive_any _).mono ?_
          rintro en v5 ⟨rfl, hb⟩
          have H12 := Lib.hid (HE.out.trans (hb.mono HE.out.size))
          clear hb
          go_wp2
          exact HR.out _ _ ⟨rfl, H12.out⟩
set_option maxRecDepth 100000 in
set_option maxHeartbeats 4000000 in
theorem psound_yes (lv : Value) (l : List LeafT) (lba : Int) (p : PrfD) (u v : Value) (w : World) (hl : Rd leafE w lv l) (hu : Rd strE w u p.up) (hv : Rd strE w v p.left) (hun : p.up.length ≤ 100000000) (hvn : p.left.length ≤ 100000000) (hc : clashP l lba p) :
    Calls Try.prog 5 #[lv, .int .i64 lba, prfV p u v] w fun e w' => e = .returned (.bool true) ∧ Below w.heap.size w w' := by
  refine calls_by fun R HR => ?_
  have HD := Lib.hid (And.intro hl (And.intro hu hv))
  have HF := Lib.hid (fun w h h' h'' => pfew_any lv l p u v w h h' h'')
  have HCl := Lib.hid (fun w h hlen h' h'' => (pclash_any lv l lba p u v w h hlen h' h'' hun hvn).mono fun e w' q => And.intro (q.1 hc) q.2.2)
  have HRt := Lib.hid (fun w h hn => proot_yes hc.1 lv w h hn)
  have hcase := text_lie hc.2.2
  have h3 := hc.2.1
  obtain ⟨RT, hRT⟩ : ∃ RT, rootL (hashL l) = RT := ⟨_, rfl⟩
  rw [hRT] at HRt hcase h3
  have HTe := Lib.hid (fun w h h' => tells_any RT l.length lba p u v w h h' hun hvn)
  obtain ⟨WN, hWN⟩ : ∃ WN, (wantP l lba).1 = WN := ⟨_, rfl⟩
  obtain ⟨WB, hWB⟩ : ∃ WB, (wantP l lba).2 = WB := ⟨_, rfl⟩
  have HW := Lib.hid (show wantP l lba = (WN, WB) by rw [← hWN, ← hWB])
  rw [hWN, hWB] at hcase
  generalize tellsP RT l.length lba p = TT at *
  obtain ⟨T1, T2, T3⟩ := TT
  simp only at hcase HTe h3
  subst h3
  obtain ⟨fd, at9, ⟨hn, hs⟩, ⟨an, as9⟩, up, left⟩ := p
  obtain ⟨ua, uc, rfl, -⟩ := hu.shape
  obtain ⟨la, lc, rfl, -⟩ := hv.shape
  dsimp only [prfV, prfC]
  obtain ⟨a, cap, rfl, -⟩ := hl.shape
  clear hl hu hv hun hvn hc hRT hWN hWB
  have H1 := Lib.hid (And.intro (Below.refl w.heap.size w) (And.intro (HD.out.1) (And.intro (HD.out.2.1) (HD.out.2.2))))
  obtain ⟨W1, hW1⟩ : ∃ W1, w.alloc (.cells #[.bool fd, .int .i64 at9, .int .i64 hn, .string hs, .int .i64 an, .string as9, .slice ua up.length uc, .slice la left.length lc] 29) = W1 := ⟨_, rfl⟩
  have hbW1 : Below w.heap.size w W1 := by rw [← hW1]; exact alloc_below w _
  have kW1 : W1.heap[w.heap.size]? = some (.cells #[.bool fd, .int .i64 at9, .int .i64 hn, .string hs, .int .i64 an, .string as9, .slice ua up.length uc, .slice la left.length lc] 29 (0, 0)) := by rw [← hW1]; exact alloc_new w _
  have H2 := Lib.hid (And.intro (H1.out.1.trans (hbW1.mono H1.out.1.size)) (And.intro (H1.out.2.1.below hbW1) (And.intro (H1.out.2.2.1.below hbW1) (And.intro (H1.out.2.2.2.below hbW1) (kW1)))))
  clear hbW1 kW1
  obtain ⟨z0, z1, z2, z3, z4, z5, z6, z7⟩ := blk8 H2.out.2.2.2.2
  go_enter Try.func5, Try.ntmps5
  go_wp2_with fail
  refine (HF.out _ H2.out.2.1 H2.out.2.2.1 H2.out.2.2.2.1).mono ?_
  rintro en v1 ⟨q9, rfl, hq9, hb⟩
  have H3 := Lib.hid (And.intro (H2.out.1.trans (hb.mono H2.out.1.size)) (And.intro (H2.out.2.1.below hb) (And.intro (H2.out.2.2.1.below hb) (And.intro (H2.out.2.2.2.1.below hb) (blk_on hb H2.out.2.2.2.2)))))
  clear hb
  cases q9 with
  | false =>
    go_wp2_with fail
    refine (alive_any _).mono ?_
    rintro en v2 ⟨rfl, hb⟩
    have H4 := Lib.hid (And.intro (H3.out.1.trans (hb.mono H3.out.1.size)) (And.intro (H3.out.2.1.below hb) (And.intro (H3.out.2.2.1.below hb) (And.intro (H3.out.2.2.2.1.below hb) (blk_on hb H3.out.2.2.2.2)))))
    clear hb
    go_wp2
    exact HR.out _ _ ⟨rfl, H4.out.1⟩
  | true =>
    have hq := hq9 rfl
    have hn := hq.1
    have hn6 : l.length ≤ 1000000 := by omega
    have hn4 : l.length ≤ 4096 := by omega
    clear hq9
    obtain ⟨z0, z1, z2, z3, z4, z5, z6, z7⟩ := blk8 H3.out.2.2.2.2
    go_wp2_with fail
    refine (HCl.out _ H3.out.2.1 hn4 H3.out.2.2.1 H3.out.2.2.2.1).mono ?_
    rintro en v2 ⟨⟨c1, c2, rfl, hun9⟩, hb⟩
    clear z0 z1 z2 z3 z4 z5 z6 z7
    have H4 := Lib.hid (And.intro (H3.out.1.trans (hb.mono H3.out.1.size)) (And.intro (H3.out.2.1.below hb) (And.intro (H3.out.2.2.1.below hb) (And.intro (H3.out.2.2.2.1.below hb) (blk_on hb H3.out.2.2.2.2)))))
    clear hb
    go_wp2_with fail
    refine (HRt.out _ H4.out.2.1 hn6).mono ?_
    rintro en v3 ⟨rfl, hb⟩
    have H5 := Lib.hid (And.intro (H4.out.1.trans (hb.mono H4.out.1.size)) (And.intro (H4.out.2.1.below hb) (And.intro (H4.out.2.2.1.below hb) (And.intro (H4.out.2.2.2.1.below hb) (blk_on hb H4.out.2.2.2.2)))))
    clear hb
    obtain ⟨z0, z1, z2, z3, z4, z5, z6, z7⟩ := blk8 H5.out.2.2.2.2
    go_wp2_with fail
    refine (HTe.out _ H5.out.2.2.1 H5.out.2.2.2.1).mono ?_
    rintro en v4 ⟨rfl, hb⟩
    clear z0 z1 z2 z3 z4 z5 z6 z7
    have H6 := Lib.hid (And.intro (H5.out.1.trans (hb.mono H5.out.1.size)) (And.intro (H5.out.2.1.below hb) (And.intro (H5.out.2.2.1.below hb) (And.intro (H5.out.2.2.2.1.below hb) (blk_on hb H5.out.2.2.2.2)))))
    clear hb
    go_wp2_with fail
    go_loopw [15, 16, 49] (fun x y i wx => ∃ (k : Nat) (s : ByteArray) (b : Bool), k ≤ l.length ∧ x = .string s ∧ y = .bool b ∧ i = .int .i64 k ∧ Hid (wantP (l.take k) lba = (s, b) ∧ Below w.heap.size w wx)) (fun _ _ i _ => l.length - (intOf i).toNat)
    case atStart => exact ⟨0, ⟨#[]⟩, false, Nat.zero_le _, rfl, rfl, rfl, Lib.hid ⟨rfl, H6.out.1⟩⟩
    case round =>
      obtain ⟨k, s9, b9, hk, rfl, rfl, rfl, hN⟩ := hrel
      by_cases hlt : k < l.length
      · have hki : (k : Int) < (l.length : Int) := by omega
        obtain ⟨x, hx⟩ : ∃ x, l[k]? = some x := ⟨_, List.getElem?_eq_getElem hlt⟩
        obtain ⟨b, o, ha, hb0, dd⟩ := (HD.out.1.below hN.out.2).at k x hx
        cases ha
        have HX := Lib.hid (want_take l k x lba hx)
        obtain ⟨n, s⟩ := x
        have d0 : wr.cell? ⟨b, o + k * 2, none⟩ = some (.int .i64 n) := dd 0 _ rfl
        have d1 : wr.cell? ⟨b, o + k * 2 + 1, none⟩ = some (.string s) := dd 1 _ rfl
        obtain ⟨WL, hWL⟩ : ∃ WL, wr.alloc (.cells #[.int .i64 n, .string s] 25) = WL := ⟨_, rfl⟩
        have bL : Below wr.heap.size wr WL := by rw [← hWL]; exact alloc_below wr _
        have nL : WL.heap[wr.heap.size]? = some (.cells #[.int .i64 n, .string s] 25 (0, 0)) := by rw [← hWL]; exact alloc_new wr _
        obtain ⟨e0, e1, fe0, fe1⟩ := blk2 nL
        have HL := Lib.hid (hN.out.2.trans (bL.mono hN.out.2.size))
        clear bL nL dd hx hb0
        by_cases he : n = lba
        · subst he
          go_wp2_with fail
          go_roundw
          case rel => exact ⟨k + 1, s, true, by omega, rfl, rfl, by go_num, Lib.hid ⟨by rw [HX.out, if_pos rfl], HL.out⟩⟩
          case measure => simp [intOf]; omega
        · have he2 : (n == lba) = false := by simpa using he
          go_wp2_with fail
          go_roundw
          case rel => exact ⟨k + 1, s9, b9, by omega, rfl, rfl, by go_num, Lib.hid ⟨by rw [HX.out, if_neg he, hN.out.1], HL.out⟩⟩
          case measure => simp [intOf]; omega
      · obtain rfl : k = l.length := by omega
        have hki : ¬ (l.length : Int) < (l.length : Int) := by omega
        have hsb : (s9, b9) = (WN, WB) := by rw [← hN.out.1, List.take_length]; exact HW.out
        obtain ⟨rfl, rfl⟩ := Prod.mk.inj hsb
        clear hsb
        have HE := Lib.hid hN.out.2
        have hne := text_ne hun9.1
        have HS1 := Lib.hid (fun T w => sum1_any c1 T w (by have := hun9.2.2.1; omega))
        have HS2 := Lib.hid (fun T w => sum1_any c2 T w (by have := hun9.2.2.2; omega))
        rw [← hun9.2.1] at HS2
        generalize shaS c1.data.toList = Q at *
        clear hun9
        rcases hcase with h3 | ⟨rfl, h3⟩
        all_goals
          go_wp2_with fail
          refine (HS1.out _ _).mono ?_
          rintro en v5 ⟨rfl, hb⟩
          have H12 := Lib.hid (HE.out.trans (hb.mono HE.out.size))
          clear hb
          go_wp2_with fail
          refine (HS2.out _ _).mono ?_
          rintro en v6 ⟨rfl, hb⟩
          have H13 := Lib.hid (H12.out.trans (hb.mono H12.out.size))
          clear hb
          go_wp2_with fail
          refine (alive_any _).mono ?_
          rintro en v7 ⟨rfl, hb⟩
          have H14 := Lib.hid (H13.out.trans (hb.mono H13.out.size))
          clear hb
          go_wp2
          exact HR.out _ _ ⟨rfl, H14.out⟩
set_option maxRecDepth 100000 in
set_option maxHeartbeats 4000000 in
theorem psound_few (lv : Value) (l : List LeafT) (lba : Int) (p : PrfD) (u v : Value) (w : World) (hl : Rd leafE w lv l) (hu : Rd strE w u p.up) (hv : Rd strE w v p.left) (hf : ¬ (p.up.length ≤ 30 ∧ p.left.length ≤ 30)) :
    Calls Try.prog 5 #[lv, .int .i64 lba, prfV p u v] w fun e w' => e = .returned (.bool true) ∧ Below w.heap.size w w' := by
  refine calls_by fun R HR => ?_
  have HD := Lib.hid (And.intro hl (And.intro hu hv))
  have HF := Lib.hid (fun w h h' h'' => (pfew_any lv l p u v w h h' h'').mono fun e w' q => (show e = .returned (.bool false) ∧ Below w.heap.size w w' by
    obtain ⟨b, he, hq, hb⟩ := q
    refine ⟨?_, hb⟩
    cases b with
    | false => exact he
    | true => exact absurd ⟨(hq rfl).2.1, (hq rfl).2.2⟩ hf))
  obtain ⟨fd, at9, ⟨hn, hs⟩, ⟨an, as9⟩, up, left⟩ := p
  obtain ⟨ua, uc, rfl, -⟩ := hu.shape
  obtain ⟨la, lc, rfl, -⟩ := hv.shape
  dsimp only [prfV, prfC]
  obtain ⟨a, cap, rfl, -⟩ := hl.shape
  clear hl hu hv hf
  have H1 := Lib.hid (And.intro (Below.refl w.heap.size w) (And.intro (HD.out.1) (And.intro (HD.out.2.1) (HD.out.2.2))))
  obtain ⟨W1, hW1⟩ : ∃ W1, w.alloc (.cells #[.bool fd, .int .i64 at9, .int .i64 hn, .string hs, .int .i64 an, .string as9, .slice ua up.length uc, .slice la left.length lc] 29) = W1 := ⟨_, rfl⟩
  have hbW1 : Below w.heap.size w W1 := by rw [← hW1]; exact alloc_below w _
  have kW1 : W1.heap[w.heap.size]? = some (.cells #[.bool fd, .int .i64 at9, .int .i64 hn, .string hs, .int .i64 an, .string as9, .slice ua up.length uc, .slice la left.length lc] 29 (0, 0)) := by rw [← hW1]; exact alloc_new w _
  have H2 := Lib.hid (And.intro (H1.out.1.trans (hbW1.mono H1.out.1.size)) (And.intro (H1.out.2.1.below hbW1) (And.intro (H1.out.2.2.1.below hbW1) (And.intro (H1.out.2.2.2.below hbW1) (kW1)))))
  clear hbW1 kW1
  obtain ⟨z0, z1, z2, z3, z4, z5, z6, z7⟩ := blk8 H2.out.2.2.2.2
  go_enter Try.func5, Try.ntmps5
  go_wp2_with fail
  refine (HF.out _ H2.out.2.1 H2.out.2.2.1 H2.out.2.2.2.1).mono ?_
  rintro en v1 ⟨rfl, hb⟩
  clear hW1 z0 z1 z2 z3 z4 z5 z6 z7
  have H3 := Lib.hid (And.intro (H2.out.1.trans (hb.mono H2.out.1.size)) (And.intro (H2.out.2.1.below hb) (And.intro (H2.out.2.2.1.below hb) (And.intro (H2.out.2.2.2.1.below hb) (blk_on hb H2.out.2.2.2.2)))))
  clear hb
  go_wp2_with fail
  refine (alive_any _).mono ?_
  rintro en v2 ⟨rfl, hb⟩
  have H4 := Lib.hid (And.intro (H3.out.1.trans (hb.mono H3.out.1.size)) (And.intro (H3.out.2.1.below hb) (And.intro (H3.out.2.2.1.below hb) (And.intro (H3.out.2.2.2.1.below hb) (blk_on hb H3.out.2.2.2.2)))))
  clear hb
  go_wp2
  exact HR.out _ _ ⟨rfl, H4.out.1⟩
theorem psound_any (lv : Value) (l : List LeafT) (lba : Int) (p : PrfD) (u v : Value) (w : World) (hl : Rd leafE w lv l) (hu : Rd strE w u p.up) (hv : Rd strE w v p.left):
    Calls Try.prog 5 #[lv, .int .i64 lba, prfV p u v] w fun e w' => e = .returned (.bool true) ∧ Below w.heap.size w w' := by
  by_cases hf : p.up.length ≤ 30 ∧ p.left.length ≤ 30
  · have h1 : p.up.length ≤ 100000000 := by have := hf.1; omega
    have h2 : p.left.length ≤ 100000000 := by have := hf.2; omega
    by_cases hc : clashP l lba p
    · exact psound_yes lv l lba p u v w hl hu hv h1 h2 hc
    · exact psound_no lv l lba p u v w hl hu hv h1 h2 hc
  · exact psound_few lv l lba p u v w hl hu hv hf
end Go.Proofs.Ytelmcoedmkhkjaa
