/- The law ProofRight: what its walk gives. -/
import Derived.Test.YtelmcoedmkhkjaaM8
import Derived.Test.YtelmcoedmkhkjaaM11
namespace Ks
open Go
theorem want_take (l : List LeafT) (k : Nat) (x : LeafT) (lba : Int) (h : l[k]? = some x) : wantP (l.take (k + 1)) lba = if x.1 = lba then (x.2, true) else wantP (l.take k) lba := by
  rw [List.take_add_one, h]
  exact want_snoc _ x lba
end Ks
namespace Go.Proofs.Ytelmcoedmkhkjaa
open Go.RowKit Ks
set_option linter.unusedVariables false
theorem proot_two (l : List LeafT) : prootE l = 2 ∨ prootE l = 0 := by
  unfold prootE
  split <;> simp
theorem prove_none (lv : Value) (l : List LeafT) (lba : Int) (w : World) (hl : Rd leafE w lv l) (hlen : l.length ≤ 1000000) (h : ¬ (rightB l = true ∧ 0 ≤ lba ∧ lba < 4096)) :
    Calls Try.prog 11 #[lv, .int .i64 lba] w fun e w' => e = .returned (.tuple #[.agg #[.bool false, .int .i64 0, .int .i64 0, .string ⟨#[]⟩, .int .i64 0, .string ⟨#[]⟩, .slice none 0 0, .slice none 0 0], .int .i64 2]) ∧ Below w.heap.size w w' := prove_no lv l lba w hl hlen h
set_option maxRecDepth 100000 in
set_option maxHeartbeats 4000000 in
theorem pright_no (lv : Value) (l : List LeafT) (lba : Int) (w : World) (hl : Rd leafE w lv l) (hno : ¬ (rightB l = true ∧ 0 ≤ lba ∧ lba < 4096)) :
    Calls Try.prog 4 #[lv, .int .i64 lba] w fun e w' => e = .returned (.bool true) ∧ Below w.heap.size w w' := by
  refine calls_by fun R HR => ?_
  have HD := Lib.hid (And.intro hl trivial)
  have HF := Lib.hid (fun w h => pfew_any lv l noPrf (.slice none 0 0) (.slice none 0 0) w h (Rd.nil w) (Rd.nil w))
  have HRt := Lib.hid (fun w h hn => proot_any lv l w h hn)
  have HP := Lib.hid (fun w h hn => prove_none lv l lba w h hn hno)
  have hE := proot_two l
  generalize prootV l = RV at *
  generalize prootE l = RE at *
  obtain ⟨a, cap, rfl, -⟩ := hl.shape
  clear hl hno
  rcases hE with rfl | rfl
  all_goals
    have H1 := Lib.hid (And.intro (Below.refl w.heap.size w) (HD.out.1))
    go_enter Try.func4, Try.ntmps4
    go_wp2_with fail
    refine (HF.out _ H1.out.2).mono ?_
    rintro en v1 ⟨q9, rfl, hq9, hb⟩
    have H2 := Lib.hid (And.intro (H1.out.1.trans (hb.mono H1.out.1.size)) (H1.out.2.below hb))
    clear hb
    cases q9 with
    | false =>
      go_wp2_with fail
      refine (alive_any _).mono ?_
      rintro en v2 ⟨rfl, hb⟩
      have H3 := Lib.hid (And.intro (H2.out.1.trans (hb.mono H2.out.1.size)) (H2.out.2.below hb))
      clear hb
      go_wp2
      exact HR.out _ _ ⟨rfl, H3.out.1⟩
    | true =>
      have hq := hq9 rfl
      have hn := hq.1
      have hn6 : l.length ≤ 1000000 := by omega
      have hn4 : l.length ≤ 4096 := by omega
      clear hq9
      go_wp2_with fail
      refine (HRt.out _ H2.out.2 hn6).mono ?_
      rintro en v2 ⟨rfl, hb⟩
      have H3 := Lib.hid (And.intro (H2.out.1.trans (hb.mono H2.out.1.size)) (H2.out.2.below hb))
      clear hb
      go_wp2_with fail
      refine (HP.out _ H3.out.2 hn6).mono ?_
      rintro en v3 ⟨rfl, hb⟩
      have H4 := Lib.hid (And.intro (H3.out.1.trans (hb.mono H3.out.1.size)) (H3.out.2.below hb))
      clear hb
      obtain ⟨WO, hWO⟩ : ∃ WO, v3.alloc (.cells #[.bool false, .int .i64 0, .int .i64 0, .string ⟨#[]⟩, .int .i64 0, .string ⟨#[]⟩, .slice none 0 0, .slice none 0 0] 29) = WO := ⟨_, rfl⟩
      have hbWO : Below v3.heap.size v3 WO := by rw [← hWO]; exact alloc_below v3 _
      have kWO : WO.heap[v3.heap.size]? = some (.cells #[.bool false, .int .i64 0, .int .i64 0, .string ⟨#[]⟩, .int .i64 0, .string ⟨#[]⟩, .slice none 0 0, .slice none 0 0] 29 (0, 0)) := by rw [← hWO]; exact alloc_new v3 _
      have EWO := Lib.hid hWO
      have H5 := Lib.hid (And.intro (H4.out.1.trans (hbWO.mono H4.out.1.size)) (And.intro (H4.out.2.below hbWO) (kWO)))
      clear hbWO kWO hWO
      go_upto_region 5 with fail
      try rw [EWO.out]
      clear EWO
      go_wp2_with fail
      refine (alive_any _).mono ?_
      rintro en v4 ⟨rfl, hb⟩
      have H6 := Lib.hid (And.intro (H5.out.1.trans (hb.mono H5.out.1.size)) (And.intro (H5.out.2.1.below hb) (blk_on hb H5.out.2.2)))
      clear hb
      go_wp2
      exact HR.out _ _ ⟨rfl, H6.out.1⟩
set_option maxRecDepth 100000 in
set_option maxHeartbeats 4000000 in
theorem pright_yes (lv : Value) (l : List LeafT) (lba : Int) (w : World) (hl : Rd leafE w lv l) (hr : rightB l = true) (h0 : 0 ≤ lba) (h1 : lba < 4096) :
    Calls Try.prog 4 #[lv, .int .i64 lba] w fun e w' => e = .returned (.bool true) ∧ Below w.heap.size w w' := by
  refine calls_by fun R HR => ?_
  have HD := Lib.hid (And.intro hl trivial)
  have HF := Lib.hid (fun w h => pfew_any lv l noPrf (.slice none 0 0) (.slice none 0 0) w h (Rd.nil w) (Rd.nil w))
  have HRt := Lib.hid (fun w h hn => proot_yes hr lv w h hn)
  have HP := Lib.hid (fun w h hn => prove_yes lv l lba w h hn hr ⟨h0, h1⟩)
  have HTo := Lib.hid (fun hlen u v w h h' => tells_own (l := l) (lba := lba) hr hlen h0 h1 u v w h h')
  obtain ⟨WN, hWN⟩ : ∃ WN, (wantP l lba).1 = WN := ⟨_, rfl⟩
  obtain ⟨WB, hWB⟩ : ∃ WB, (wantP l lba).2 = WB := ⟨_, rfl⟩
  have HW := Lib.hid (show wantP l lba = (WN, WB) by rw [← hWN, ← hWB])
  rw [hWN, hWB] at HTo
  generalize rootL (hashL l) = RT at *
  generalize proveP l lba = PP at *
  obtain ⟨fo, ao, ⟨ho, hso⟩, ⟨xo, xso⟩, uo, lo⟩ := PP
  obtain ⟨a, cap, rfl, -⟩ := hl.shape
  clear hl hr h0 h1 hWN hWB
  have H1 := Lib.hid (And.intro (Below.refl w.heap.size w) (HD.out.1))
  go_enter Try.func4, Try.ntmps4
  go_wp2_with fail
  refine (HF.out _ H1.out.2).mono ?_
  rintro en v1 ⟨q9, rfl, hq9, hb⟩
  have H2 := Lib.hid (And.intro (H1.out.1.trans (hb.mono H1.out.1.size)) (H1.out.2.below hb))
  clear hb
  cases q9 with
  | false =>
    go_wp2_with fail
    refine (alive_any _).mono ?_
    rintro en v2 ⟨rfl, hb⟩
    have H3 := Lib.hid (And.intro (H2.out.1.trans (hb.mono H2.out.1.size)) (H2.out.2.below hb))
    clear hb
    go_wp2
    exact HR.out _ _ ⟨rfl, H3.out.1⟩
  | true =>
    have hq := hq9 rfl
    have hn := hq.1
    have hn6 : l.length ≤ 1000000 := by omega
    have hn4 : l.length ≤ 4096 := by omega
    clear hq9
    go_wp2_with fail
    refine (HRt.out _ H2.out.2 hn6).mono ?_
    rintro en v2 ⟨rfl, hb⟩
    have H3 := Lib.hid (And.intro (H2.out.1.trans (hb.mono H2.out.1.size)) (H2.out.2.below hb))
    clear hb
    go_wp2_with fail
    refine (HP.out _ H3.out.2 hn6).mono ?_
    rintro en v3 ⟨ov, oz, rfl, hou, hol, hb⟩
    obtain ⟨oa, oc, rfl, -⟩ := hou.shape
    obtain ⟨za, zc, rfl, -⟩ := hol.shape
    have H4 := Lib.hid (And.intro (H3.out.1.trans (hb.mono H3.out.1.size)) (And.intro (H3.out.2.below hb) (And.intro (hou) (hol))))
    clear hb
    clear hou hol
    obtain ⟨WO, hWO⟩ : ∃ WO, v3.alloc (.cells #[.bool fo, .int .i64 ao, .int .i64 ho, .string hso, .int .i64 xo, .string xso, .slice oa uo.length oc, .slice za lo.length zc] 29) = WO := ⟨_, rfl⟩
    have hbWO : Below v3.heap.size v3 WO := by rw [← hWO]; exact alloc_below v3 _
    have kWO : WO.heap[v3.heap.size]? = some (.cells #[.bool fo, .int .i64 ao, .int .i64 ho, .string hso, .int .i64 xo, .string xso, .slice oa uo.length oc, .slice za lo.length zc] 29 (0, 0)) := by rw [← hWO]; exact alloc_new v3 _
    have EWO := Lib.hid hWO
    have H5 := Lib.hid (And.intro (H4.out.1.trans (hbWO.mono H4.out.1.size)) (And.intro (H4.out.2.1.below hbWO) (And.intro (H4.out.2.2.1.below hbWO) (And.intro (H4.out.2.2.2.below hbWO) (kWO)))))
    clear hbWO kWO hWO
    go_upto_region 5 with fail
    try rw [EWO.out]
    clear EWO
    obtain ⟨o0, o1, o2, o3, o4, o5, o6, o7⟩ := blk8 H5.out.2.2.2.2
    go_wp2_with fail
    refine (HTo.out hn4 _ _ _ H5.out.2.2.1 H5.out.2.2.2.1).mono ?_
    rintro en v4 ⟨rfl, hb⟩
    clear o0 o1 o2 o3 o4 o5 o6 o7
    have H6 := Lib.hid (And.intro (H5.out.1.trans (hb.mono H5.out.1.size)) (H5.out.2.1.below hb))
    clear hb
    go_wp2_with fail
    go_loopw [12, 13, 51] (fun x y i wx => ∃ (k : Nat) (s : ByteArray) (b : Bool), k ≤ l.length ∧ x = .string s ∧ y = .bool b ∧ i = .int .i64 k ∧ Hid (wantP (l.take k) lba = (s, b) ∧ Below w.heap.size w wx)) (fun _ _ i _ => l.length - (intOf i).toNat)
    case atStart => exact ⟨0, ⟨#[]⟩, false, Nat.zero_le _, rfl, rfl, rfl, Lib.hid ⟨rfl, H6.out.1⟩⟩
    case round =>
      obtain ⟨k, s9, b9, hk, rfl, rfl, rfl, hN⟩ := hrel
      by_cases hlt : k < l.length
      · have hki : (k : Int) < (l.length : Int) := by omega
        obtain ⟨x, hx⟩ : ∃ x, l[k]? = some x := ⟨_, List.getElem?_eq_getElem hlt⟩
        obtain ⟨b, o, ha, hb0, dd⟩ := (HD.out.1.below hN.out.2).at k x hx
        cases ha
        have HX := Lib.hid (want_take l k x lba hx)
        obtain ⟨n, s⟩ := x
        have d0 : wr.cell? ⟨b, o + k * 2, none⟩ = some (.int .i64 n) := dd 0 _ rfl
        have d1 : wr.cell? ⟨b, o + k * 2 + 1, none⟩ = some (.string s) := dd 1 _ rfl
        obtain ⟨WL, hWL⟩ : ∃ WL, wr.alloc (.cells #[.int .i64 n, .string s] 25) = WL := ⟨_, rfl⟩
        have bL : Below wr.heap.size wr WL := by rw [← hWL]; exact alloc_below wr _
        have nL : WL.heap[wr.heap.size]? = some (.cells #[.int .i64 n, .string s] 25 (0, 0)) := by rw [← hWL]; exact alloc_new wr _
        obtain ⟨e0, e1, fe0, fe1⟩ := blk2 nL
        have HL := Lib.hid (hN.out.2.trans (bL.mono hN.out.2.size))
        clear bL nL dd hx hb0
        by_cases he : n = lba
        · subst he
          go_wp2_with fail
          go_roundw
          case rel => exact ⟨k + 1, s, true, by omega, rfl, rfl, by go_num, Lib.hid ⟨by rw [HX.out, if_pos rfl], HL.out⟩⟩
          case measure => simp [intOf]; omega
        · have he2 : (n == lba) = false := by simpa using he
          go_wp2_with fail
          go_roundw
          case rel => exact ⟨k + 1, s9, b9, by omega, rfl, rfl, by go_num, Lib.hid ⟨by rw [HX.out, if_neg he, hN.out.1], HL.out⟩⟩
          case measure => simp [intOf]; omega
      · obtain rfl : k = l.length := by omega
        have hki : ¬ (l.length : Int) < (l.length : Int) := by omega
        have hsb : (s9, b9) = (WN, WB) := by rw [← hN.out.1, List.take_length]; exact HW.out
        obtain ⟨rfl, rfl⟩ := Prod.mk.inj hsb
        clear hsb
        have HE := Lib.hid hN.out.2
        go_wp2_with fail
        refine (alive_any _).mono ?_
        rintro en v5 ⟨rfl, hb⟩
        have H12 := Lib.hid (HE.out.trans (hb.mono HE.out.size))
        clear hb
        go_wp2
        exact HR.out _ _ ⟨rfl, H12.out⟩
theorem pright_any (lv : Value) (l : List LeafT) (lba : Int) (w : World) (hl : Rd leafE w lv l) :
    Calls Try.prog 4 #[lv, .int .i64 lba] w fun e w' => e = .returned (.bool true) ∧ Below w.heap.size w w' := by
  by_cases h : rightB l = true ∧ 0 ≤ lba ∧ lba < 4096
  · exact pright_yes lv l lba w hl h.1 h.2.1 h.2.2
  · exact pright_no lv l lba w hl h
end Go.Proofs.Ytelmcoedmkhkjaa
