/- The law SegmentLast: what its walk gives. -/
import Derived.Test.YtdbabkkmdlkjaaaM10
set_option maxRecDepth 100000
namespace Ks
open Go Go.RowKit
theorem Row.solo {α : Type} {E : Enc α} {w w' : World} {B k : Nat} {T : TypeId} {v : Value} {l : List α} (h : Row E w B T v l) (hs : Solo w w' k) (hk : k < B) : Row E w' B T v l :=
  h.keep fun b e => hs.block b (h.lt e).2 (by have := (h.lt e).1; omega)
theorem metA_take (l : List ActT) (j : Nat) (y : ActT) (x : Int) (h : l[j]? = some y) : metA (l.take (j + 1)) x = (metA (l.take j) x || (y.1 == x)) := by
  rw [List.take_add_one, h]
  simp [metA]
end Ks
namespace Go.Proofs.Ytdbabkkmdlkjaaa
open Go.RowKit Ks
set_option linter.unusedVariables false
set_option linter.unusedSimpArgs false
/-- two segments and a row of acts -/
structure LastAt (w wx : World) (n mb n2 mb2 B : Nat) (e : Int) (m1 m2 : SegM) (v : Value) (last : List ActT) : Prop where
  b : Below w.heap.size w wx
  s : SegAt segKV wx 56 n mb e m1
  t : SegAt segKV wx 56 n2 mb2 e m2
  r : Row actE17 wx B 34 v last
  hB : B ≤ wx.heap.size
def OrdB (w : World) (n mb n2 mb2 B : Nat) : Prop := w.heap.size ≤ n ∧ w.heap.size ≤ mb ∧ n < n2 ∧ n < mb2 ∧ mb < n2 ∧ mb < mb2 ∧ n2 < B ∧ mb2 < B
section
variable {w wx wy : World} {n mb n2 mb2 B : Nat} {e : Int} {m1 m2 m : SegM} {v v' : Value} {last last' : List ActT}
theorem LastAt.below (h : LastAt w wx n mb n2 mb2 B e m1 m2 v last) (hb : Below wx.heap.size wx wy) : LastAt w wy n mb n2 mb2 B e m1 m2 v last :=
  ⟨h.b.trans (hb.mono h.b.size), h.s.below hb, h.t.below hb, h.r.below hb, Nat.le_trans h.hB hb.size⟩
theorem LastAt.put2 (h : LastAt w wx n mb n2 mb2 B e m1 m2 v last) (ho : OrdB w n mb n2 mb2 B) (ht : SegAt segKV wy 56 n2 mb2 e m) (hs : Solo wx wy mb2) : LastAt w wy n mb n2 mb2 B e m1 m v last := by
  obtain ⟨h1, h2, h3, h4, h5, h6, h7, h8⟩ := ho
  exact ⟨h.b.trans (hs.below (by omega) h.b.size), h.s.solo hs (by omega) (by omega), ht, h.r.solo hs h8, Nat.le_trans h.hB hs.size⟩
theorem LastAt.put1 (h : LastAt w wx n mb n2 mb2 B e m1 m2 v last) (ho : OrdB w n mb n2 mb2 B) (ht : SegAt segKV wy 56 n mb e m) (hs : Solo wx wy mb) : LastAt w wy n mb n2 mb2 B e m m2 v last := by
  obtain ⟨h1, h2, h3, h4, h5, h6, h7, h8⟩ := ho
  exact ⟨h.b.trans (hs.below (by omega) h.b.size), ht, h.t.solo hs (by omega) (by omega), h.r.solo hs (by omega), Nat.le_trans h.hB hs.size⟩
theorem LastAt.app (h : LastAt w wx n mb n2 mb2 B e m1 m2 v last) (ho : OrdB w n mb n2 mb2 B) (hG : Grew actE17 wx wy B 34 v v' last') : LastAt w wy n mb n2 mb2 B e m1 m2 v' last' := by
  obtain ⟨h1, h2, h3, h4, h5, h6, h7, h8⟩ := ho
  have hk : ∀ k, k < B → wy.heap[k]? = wx.heap[k]? := fun k hk => hG.2.1.block k (Nat.lt_of_lt_of_le hk h.hB) fun e => by have := (h.r.lt e.symm).1; omega
  have hseg : ∀ {a b : Nat} {m : SegM}, a < B → b < B → SegAt segKV wx 56 a b e m → SegAt segKV wy 56 a b e m := fun ha hb q => ⟨(hk _ ha).trans q.blk, q.map.keep (hk _ hb), q.ne⟩
  exact ⟨h.b.trans (hG.below (Below.refl _ _) h.b.size fun b e => by have := (h.r.lt e).1; omega), hseg (by omega) (by omega) h.s, hseg (by omega) (by omega) h.t, hG.1, Nat.le_trans h.hB hG.2.1.size⟩
end
set_option maxRecDepth 100000 in
set_option maxHeartbeats 4000000 in
theorem slast_bad (e lba : Int) (lv : Value) (l : List ActT) (w : World) (hl : Rd actE17 w lv l) (he : e < 0 ∨ (¬ e < 0 ∧ 4294967295 < e)) :
    Calls Try.prog 5 #[.int .i64 e, lv, .int .i64 lba] w fun r w' => r = .returned (.bool true) ∧ Below w.heap.size w w' := by
  refine calls_by fun R HR => ?_
  have HN := Lib.hid (snew_err e w he)
  have HF := Lib.hid (few17_any lv l w hl)
  obtain ⟨a, cap, rfl, -⟩ := hl.shape
  clear hl he
  go_enter Try.func5, Try.ntmps5
  go_wp2_with fail
  refine HN.out.mono ?_
  rintro en v1 ⟨rfl, hw⟩
  rw [hw]
  clear hw
  go_wp2_with fail
  refine HF.out.mono ?_
  rintro en v1 ⟨q9, rfl, hq9, hw⟩
  rw [hw]
  clear hw hq9
  cases q9
  all_goals
    go_wp2_with fail
    refine (alive17_any _).mono ?_
    rintro en v2 ⟨rfl, hb⟩
    have H1 := Lib.hid hb
    clear hb
    go_wp2
    exact HR.out _ _ ⟨rfl, H1.out⟩
set_option maxRecDepth 100000 in
set_option maxHeartbeats 4000000 in
theorem slast_out (e lba : Int) (lv : Value) (l : List ActT) (w : World) (hl : Rd actE17 w lv l) (h0 : ¬ e < 0) (h1 : ¬ 4294967295 < e) (ho : lba < 0 ∨ (¬ lba < 0 ∧ 4095 < lba)) :
    Calls Try.prog 5 #[.int .i64 e, lv, .int .i64 lba] w fun r w' => r = .returned (.bool true) ∧ Below w.heap.size w w' := by
  refine calls_by fun R HR => ?_
  have HN := Lib.hid (snew_any e w h0 h1)
  have HF := Lib.hid (fun w h => few17_any lv l w h)
  have HL := Lib.hid hl
  obtain ⟨a, cap, rfl, -⟩ := hl.shape
  clear hl h0 h1
  rcases ho with ho | ⟨ho, ho2⟩
  all_goals
    go_enter Try.func5, Try.ntmps5
    go_wp2_with fail
    refine HN.out.mono ?_
    rintro en v1 ⟨n, mb, rfl, hs, hb, hn, hm⟩
    have H0 := Lib.hid hb
    clear hs hb hn hm
    go_wp2_with fail
    refine (HF.out _ (HL.out.below H0.out)).mono ?_
    rintro en v9 ⟨q9, rfl, hq9, hw⟩
    rw [hw]
    clear hw hq9
    cases q9
    all_goals
      go_wp2_with fail
      refine (alive17_any _).mono ?_
      rintro en v2 ⟨rfl, hb⟩
      have H1 := Lib.hid (H0.out.trans (hb.mono H0.out.size))
      clear hb
      go_wp2
      exact HR.out _ _ ⟨rfl, H1.out⟩
theorem infoAct17 : (Try.prog.info? 34).map (fun i => (i.zero, i.size, i.bytes)) = some (some (.agg #[.int .i64 0, .int .i64 0, .string ⟨#[]⟩]), 3, 32) := by kernel_rfl
theorem actT17 : ElemT Try.prog 22 34 actE17.k 32 := elemT_of Try.underlying22 infoAct17 rfl
set_option maxRecDepth 100000 in
set_option maxHeartbeats 4000000 in
theorem slast_main (e lba : Int) (lv : Value) (l : List ActT) (w : World) (hl : Rd actE17 w lv l) (hfit : ∀ x ∈ l, fitAct x) (h0 : ¬ e < 0) (h1 : ¬ 4294967295 < e) (h2 : ¬ lba < 0) (h3 : ¬ 4095 < lba) :
    Calls Try.prog 5 #[.int .i64 e, lv, .int .i64 lba] w fun r w' => r = .returned (.bool true) ∧ Below w.heap.size w w' := by
  refine calls_by fun R HR => ?_
  have HN := Lib.hid (fun w => snew_any e w h0 h1)
  have HF := Lib.hid (fun w h => few17_any lv l w h)
  have HL := Lib.hid (And.intro hl hfit)
  have HPu := Lib.hid (fun n mb m a w h hf => sput_any n mb e m a w h (by omega) hf)
  have HDa := Lib.hid (fun slot s w hf hs => pdata_any e slot s w (by omega) hf hs)
  have HPr := Lib.hid (fun n mb m l w h hR hlen => sprove_any n mb e m l lba w h hR hlen (by omega))
  have HTe := Lib.hid (fun hlen u v w h h' => tells_own (l := playL e l) (lba := lba) (play_R e l).right hlen (by omega) (by omega) u v w h h')
  rw [want_play] at HTe
  have HPL := Lib.hid (playL_len e l)
  obtain ⟨a, cap, rfl, -⟩ := hl.shape
  clear hl hfit h0 h1
  go_enter Try.func5, Try.ntmps5
  go_wp2_with fail
  refine (HN.out _).mono ?_
  rintro en v1 ⟨n, mb, rfl, hs, hb, hn, hm⟩
  have H0 := Lib.hid (And.intro hb (And.intro hs (And.intro hn hm)))
  clear hs hb hn hm
  go_wp2_with fail
  refine (HF.out _ (HL.out.1.below H0.out.1)).mono ?_
  rintro en v9 ⟨q9, rfl, hq9, hw⟩
  rw [hw]
  clear hw
  cases q9 with
  | false =>
    go_wp2_with fail
    refine (alive17_any _).mono ?_
    rintro en v2 ⟨rfl, hb⟩
    have H1 := Lib.hid (H0.out.1.trans (hb.mono H0.out.1.size))
    clear hb
    go_wp2
    exact HR.out _ _ ⟨rfl, H1.out⟩
  | true =>
    have hn := hq9 rfl
    clear hq9
    have hwr0 : wrap64 ((l.length : Int) - 1) = (l.length : Int) - 1 := by unfold wrap64; omega
    go_wp2_with fail
    refine (HN.out _).mono ?_
    rintro en v2 ⟨n2, mb2, rfl, hs, hb, hn2, hm2⟩
    have HO := Lib.hid (show OrdB w n mb n2 mb2 v2.heap.size from ⟨H0.out.2.2.1, H0.out.2.2.2, by have := H0.out.2.1.lt; omega, by have := H0.out.2.1.lt; omega, by have := H0.out.2.1.mlt; omega, by have := H0.out.2.1.mlt; omega, hs.lt, hs.mlt⟩)
    have H1 := Lib.hid (show LastAt w v2 n mb n2 mb2 v2.heap.size e [] [] (.slice none 0 0) [] from ⟨H0.out.1.trans (hb.mono H0.out.1.size), H0.out.2.1.below hb, hs, Row.nil _ _ _, Nat.le_refl _⟩)
    clear hs hb hn2 hm2
    obtain ⟨B, hB⟩ : ∃ B, v2.heap.size = B := ⟨_, rfl⟩
    rw [hB] at HO H1
    clear hB
    go_wp2_with fail
    go_loopw [11, 12] (fun v i wx => ∃ (k : Nat) (j : Int), k ≤ l.length ∧ j = (k : Int) - 1 ∧ i = .int .i64 j ∧ Hid (LastAt w wx n mb n2 mb2 B e [] (lastS e (l.drop k)).2 v (lastS e (l.drop k)).1)) (fun _ i _ => (intOf i + 1).toNat)
    case atStart => exact ⟨l.length, _, Nat.le_refl _, rfl, by first | rfl | go_num, Lib.hid (by rw [List.drop_length]; exact H1.out)⟩
    case round =>
      obtain ⟨k, j, hk, hj, rfl, hN⟩ := hrel
      obtain ⟨wo, rfl⟩ : ∃ wo : World, wo = wr := ⟨_, rfl⟩
      by_cases hlt : 0 ≤ j
      · obtain ⟨i, rfl⟩ : ∃ i : Nat, j = i := ⟨j.toNat, by omega⟩
        obtain rfl : k = i + 1 := by omega
        clear hj hlt
        have hki : (i : Int) < (l.length : Int) := by omega
        have hwr : wrap64 ((i : Int) - 1) = (i : Int) - 1 := by unfold wrap64; omega
        obtain ⟨x, hx⟩ : ∃ x, l[i]? = some x := ⟨_, List.getElem?_eq_getElem (by omega)⟩
        have HX := Lib.hid (lastS_drop e l i x hx)
        have HFx := Lib.hid (HL.out.2 x (List.mem_of_getElem? hx))
        obtain ⟨b, o, ha, hb0, dd⟩ := (HL.out.1.below hN.out.b).at i x hx
        cases ha
        obtain ⟨xl, xs, xt⟩ := x
        have d0 : wo.cell? ⟨b, o + i * 3, none⟩ = some (.int .i64 xl) := dd 0 _ rfl
        have d1 : wo.cell? ⟨b, o + i * 3 + 1, none⟩ = some (.int .i64 xs) := dd 1 _ rfl
        have d2 : wo.cell? ⟨b, o + i * 3 + 2, none⟩ = some (.string xt) := dd 2 _ rfl
        clear dd hx hb0
        have hlast := (last_look e (l.drop (i + 1))).2.2.1
        rw [List.length_drop] at hlast
        generalize lastS e (l.drop (i + 1)) = LS at *
        obtain ⟨last, m2⟩ := LS
        simp only at hN hlast
        have hlasti : (last.length : Int) ≤ 40 := by omega
        obtain ⟨ra, rc, rfl, -⟩ := hN.out.r.shape
        obtain ⟨WA, hWA⟩ : ∃ W, wo.alloc (.cells #[.int .i64 xl, .int .i64 xs, .string xt] 34) = W := ⟨_, rfl⟩
        have bWA : Below wo.heap.size wo WA := by rw [← hWA]; exact alloc_below wo _
        have kWA : WA.heap[wo.heap.size]? = some (.cells #[.int .i64 xl, .int .i64 xs, .string xt] 34 (0, 0)) := by rw [← hWA]; exact alloc_new wo _
        have H2 := Lib.hid (And.intro (hN.out.below bWA) kWA)
        clear bWA kWA
        go_wp2_with fail
        clear hWA
        go_loopw [14, 65] (fun mt ii wx => ∃ (j : Nat), j ≤ last.length ∧ mt = .bool (metA (last.take j) xl) ∧ ii = .int .i64 j ∧ Hid (Below WA.heap.size WA wx)) (fun _ ii _ => last.length - (intOf ii).toNat)
        case atStart => exact ⟨0, Nat.zero_le _, rfl, rfl, Lib.hid (Below.refl _ _)⟩
        case round =>
          obtain ⟨j, hj9, rfl, rfl, hM⟩ := hrel
          by_cases hlt2 : j < last.length
          · have hji : (j : Int) < (last.length : Int) := by omega
            obtain ⟨y, hy⟩ : ∃ y, last[j]? = some y := ⟨_, List.getElem?_eq_getElem hlt2⟩
            have HY := Lib.hid (metA_take last j y xl hy)
            obtain ⟨b5, o5, ha5, hb5, dd5⟩ := (H2.out.1.r.rd.below hM.out).at j y hy
            cases ha5
            obtain ⟨yl, ys, yt⟩ := y
            have e0 : wr.cell? ⟨b5, o5 + j * 3, none⟩ = some (.int .i64 yl) := dd5 0 _ rfl
            have e1 : wr.cell? ⟨b5, o5 + j * 3 + 1, none⟩ = some (.int .i64 ys) := dd5 1 _ rfl
            have e2 : wr.cell? ⟨b5, o5 + j * 3 + 2, none⟩ = some (.string yt) := dd5 2 _ rfl
            clear dd5 hy hb5
            obtain ⟨WB, hWB⟩ : ∃ W, wr.alloc (.cells #[.int .i64 yl, .int .i64 ys, .string yt] 34) = W := ⟨_, rfl⟩
            have bWB : Below wr.heap.size wr WB := by rw [← hWB]; exact alloc_below wr _
            have kWB : WB.heap[wr.heap.size]? = some (.cells #[.int .i64 yl, .int .i64 ys, .string yt] 34 (0, 0)) := by rw [← hWB]; exact alloc_new wr _
            obtain ⟨y0, y1, y2, fy0, fy1, fy2⟩ := blk3 kWB
            obtain ⟨z0, z1, z2, fz0, fz1, fz2⟩ := blk3 (blk_on bWB (blk_on hM.out H2.out.2))
            have HB5 := Lib.hid (hM.out.trans (bWB.mono hM.out.size))
            clear bWB kWB
            by_cases q1 : metA (last.take j) xl = true
            · have HQ := Lib.hid (show metA (last.take (j + 1)) xl = true by rw [HY.out, q1]; rfl)
              rw [q1]
              clear q1
              go_wp2_with fail
              go_roundw
              case rel => exact ⟨j + 1, by omega, by rw [HQ.out], by go_num, HB5⟩
              case measure => first | (simp [intOf]; done) | (simp [intOf]; omega)
            · have q2 : metA (last.take j) xl = false := by simpa using q1
              rw [q2]
              by_cases q3 : yl = xl
              · subst q3
                have HQ := Lib.hid (show metA (last.take (j + 1)) yl = true by rw [HY.out]; simp)
                clear q1 q2
                go_wp2_with fail
                go_roundw
                case rel => exact ⟨j + 1, by omega, by rw [HQ.out], by go_num, HB5⟩
                case measure => first | (simp [intOf]; done) | (simp [intOf]; omega)
              · have q4 : (yl == xl) = false := by simpa using q3
                have HQ := Lib.hid (show metA (last.take (j + 1)) xl = false by rw [HY.out, q2]; exact q4)
                clear q1 q2
                go_wp2_with fail
                go_roundw
                case rel => exact ⟨j + 1, by omega, by rw [HQ.out], by go_num, HB5⟩
                case measure => first | (simp [intOf]; done) | (simp [intOf]; omega)
          · obtain rfl : j = last.length := by omega
            have hji : ¬ (last.length : Int) < (last.length : Int) := by omega
            have H3 := Lib.hid (And.intro (H2.out.1.below hM.out) (blk_on hM.out H2.out.2))
            obtain ⟨z0, z1, z2, fz0, fz1, fz2⟩ := blk3 H3.out.2
            rw [List.take_length]
            cases hmt : metA last xl with
            | true =>
              have HQ := Lib.hid (show lastS e (l.drop i) = (last, m2) by rw [HX.out, lastStep, if_neg (by simp [hmt])])
              go_wp2_with fail
              go_roundw
              case rel => exact ⟨i, (i : Int) - 1, by omega, rfl, by first | rfl | go_num, Lib.hid (by rw [HQ.out]; exact H3.out.1)⟩
              case measure => first | (simp [intOf]; done) | (simp [intOf]; omega)
            | false =>
              have HPx := Lib.hid (HPu.out n2 mb2 m2 (xl, xs, xt) _ H3.out.1.t HFx.out.2.1)
              cases hok : okAct e (xl, xs, xt) with
              | false =>
                have HQ := Lib.hid (show lastS e (l.drop i) = (last, m2) by rw [HX.out, lastStep, if_neg (by simp [hok])])
                simp only [segE, segPut, hok, if_false, Bool.false_eq_true] at HPx
                go_wp2_with fail
                refine HPx.out.mono ?_
                rintro en v5 ⟨rfl, hs5, ho5⟩
                have H5 := Lib.hid (H3.out.1.put2 HO.out hs5 ho5)
                clear hs5 ho5 z0 z1 z2 fz0 fz1 fz2
                go_wp2_with fail
                go_roundw
                case rel => exact ⟨i, (i : Int) - 1, by omega, rfl, by first | rfl | go_num, Lib.hid (by rw [HQ.out]; exact H5.out)⟩
                case measure => first | (simp [intOf]; done) | (simp [intOf]; omega)
              | true =>
                have HQ := Lib.hid (show lastS e (l.drop i) = (last ++ [(xl, xs, xt)], putM m2 xl (dataS e xs xt)) by rw [HX.out, lastStep, if_pos ⟨hmt, hok⟩, segPut, if_pos hok])
                have HK5 := Lib.hid (show last.length ≤ 1000000 by have h := (last_look e (l.drop i)).2.2.1; rw [HQ.out] at h; simp at h; omega)
                simp only [segE, segPut, hok, if_true] at HPx
                go_wp2_with fail
                refine HPx.out.mono ?_
                rintro en v5 ⟨rfl, hs5, ho5⟩
                have hne : wo.heap.size ≠ mb2 := by have := hN.out.hB; have := HO.out.2.2.2.2.2.2.2; omega
                have H5 := Lib.hid (And.intro (H3.out.1.put2 HO.out hs5 ho5) ((ho5.block _ (lt_of_block H3.out.2) hne).trans H3.out.2))
                clear hs5 ho5 z0 z1 z2 fz0 fz1 fz2 hne
                obtain ⟨z0, z1, z2, fz0, fz1, fz2⟩ := blk3 H5.out.2
                obtain ⟨W6, hW6⟩ : ∃ W, v5.alloc (.cells #[.int .i64 xl, .int .i64 xs, .string xt] 34) = W := ⟨_, rfl⟩
                have b6 : Below v5.heap.size v5 W6 := by rw [← hW6]; exact alloc_below _ _
                have r6 : Rd actE17 W6 (.slice (some ⟨v5.heap.size, 0, none⟩) 1 1) [(xl, xs, xt)] := by rw [← hW6]; exact Rd.single (E := actE17) (xl, xs, xt) (alloc_new _ _) rfl
                have H6 := Lib.hid (And.intro (H5.out.1.below b6) r6)
                clear b6 r6
                go_wp2_with (at_builtin; refine wpList_append_row _ rfl _ _ 22 rfl actT17 B _ _ last [(xl, xs, xt)] rfl rfl H6.out.1.r H6.out.2 H6.out.1.hB (by have := HK5.out; simp; omega) (by decide) ?_)
                intro r7 w7 hG
                have HG := Lib.hid (H6.out.1.app HO.out hG)
                clear hG hW6 z0 z1 z2 fz0 fz1 fz2
                go_wp2_with fail
                go_roundw
                case rel => exact ⟨i, (i : Int) - 1, by omega, rfl, by first | rfl | go_num, Lib.hid (by rw [HQ.out]; exact HG.out)⟩
                case measure => first | (simp [intOf]; done) | (simp [intOf]; omega)
      · obtain rfl : k = 0 := by omega
        obtain rfl : j = -1 := by omega
        clear hj hlt hwr0
        rw [List.drop_zero] at hN
        have HLs := Lib.hid (last_same e l)
        generalize lastS e l = LS at *
        obtain ⟨last, m2⟩ := LS
        simp only at hN HLs
        go_wp2_with fail
        go_loopw [17, 18, 97] (fun x y i wx => ∃ (k : Nat) (s : ByteArray) (b : Bool), k ≤ l.length ∧ x = .string s ∧ y = .bool b ∧ i = .int .i64 k ∧ Hid (wantA e (l.take k) lba = (s, b) ∧ LastAt w wx n mb n2 mb2 B e (playM e (l.take k)) m2 u11 last)) (fun _ _ i _ => l.length - (intOf i).toNat)
        case atStart => exact ⟨0, ⟨#[]⟩, false, Nat.zero_le _, rfl, rfl, rfl, Lib.hid ⟨rfl, hN.out⟩⟩
        case round =>
          obtain ⟨k, s9, b9, hk9, rfl, rfl, rfl, hM⟩ := hrel
          by_cases hlt2 : k < l.length
          · have hki : (k : Int) < (l.length : Int) := by omega
            obtain ⟨x, hx⟩ : ∃ x, l[k]? = some x := ⟨_, List.getElem?_eq_getElem hlt2⟩
            have HW := Lib.hid (wantA_take e l lba k x hx)
            have HPM := Lib.hid (playM_take e l k x hx)
            have HFx := Lib.hid (HL.out.2 x (List.mem_of_getElem? hx))
            obtain ⟨b, o, ha, hb0, dd⟩ := (HL.out.1.below hM.out.2.b).at k x hx
            cases ha
            obtain ⟨xl, xs, xt⟩ := x
            have d0 : wr.cell? ⟨b, o + k * 3, none⟩ = some (.int .i64 xl) := dd 0 _ rfl
            have d1 : wr.cell? ⟨b, o + k * 3 + 1, none⟩ = some (.int .i64 xs) := dd 1 _ rfl
            have d2 : wr.cell? ⟨b, o + k * 3 + 2, none⟩ = some (.string xt) := dd 2 _ rfl
            clear dd hx hb0
            obtain ⟨WA, hWA⟩ : ∃ W, wr.alloc (.cells #[.int .i64 xl, .int .i64 xs, .string xt] 34) = W := ⟨_, rfl⟩
            have bWA : Below wr.heap.size wr WA := by rw [← hWA]; exact alloc_below wr _
            have kWA : WA.heap[wr.heap.size]? = some (.cells #[.int .i64 xl, .int .i64 xs, .string xt] 34 (0, 0)) := by rw [← hWA]; exact alloc_new wr _
            have H2 := Lib.hid (And.intro (hM.out.2.below bWA) kWA)
            clear bWA kWA
            have hne : wr.heap.size ≠ mb := by have := hM.out.2.hB; have := HO.out.2.2.2.2.2.1; have := HO.out.2.2.2.2.2.2.2; omega
            obtain ⟨z0, z1, z2, fz0, fz1, fz2⟩ := blk3 H2.out.2
            have HPx := Lib.hid (HPu.out n mb (playM e (l.take k)) (xl, xs, xt) _ H2.out.1.s HFx.out.2.1)
            have HW2 := Lib.hid (show wantA e (l.take (k + 1)) lba = wantStep e lba (s9, b9) (xl, xs, xt) by rw [HW.out, hM.out.1])
            cases hok : okAct e (xl, xs, xt) with
            | false =>
              have HQ := Lib.hid (show wantA e (l.take (k + 1)) lba = (s9, b9) by rw [HW2.out, wantStep, if_neg (by simp [hok])])
              have HQ2 := Lib.hid (show playM e (l.take (k + 1)) = playM e (l.take k) by rw [HPM.out, segPut, hok]; rfl)
              simp only [segE, segPut, hok, if_false, Bool.false_eq_true] at HPx
              go_wp2_with fail
              refine HPx.out.mono ?_
              rintro en v5 ⟨rfl, hs5, ho5⟩
              have H5 := Lib.hid (H2.out.1.put1 HO.out hs5 ho5)
              clear hs5 ho5 z0 z1 z2 fz0 fz1 fz2 hne hWA
              go_wp2_with fail
              go_roundw
              case rel => exact ⟨k + 1, s9, b9, by omega, rfl, rfl, by go_num, Lib.hid ⟨HQ.out, by rw [HQ2.out]; exact H5.out⟩⟩
              case measure => first | (simp [intOf]; done) | (simp [intOf]; omega)
            | true =>
              have HQ2 := Lib.hid (show playM e (l.take (k + 1)) = putM (playM e (l.take k)) xl (dataS e xs xt) by rw [HPM.out, segPut, if_pos hok])
              have hd := (okAct_spec.1 hok).2.2
              simp only [segE, segPut, hok, if_true] at HPx
              go_wp2_with fail
              refine HPx.out.mono ?_
              rintro en v5 ⟨rfl, hs5, ho5⟩
              have H5 := Lib.hid (And.intro (H2.out.1.put1 HO.out hs5 ho5) ((ho5.block _ (lt_of_block H2.out.2) hne).trans H2.out.2))
              clear hs5 ho5 z0 z1 z2 fz0 fz1 fz2 hne hWA
              obtain ⟨z0, z1, z2, fz0, fz1, fz2⟩ := blk3 H5.out.2
              by_cases hxl : xl = lba
              · have HQ := Lib.hid (show wantA e (l.take (k + 1)) lba = (dataS e xs xt, true) by rw [HW2.out, wantStep, if_pos ⟨hok, hxl⟩])
                have HD := Lib.hid (HDa.out xs xt v5 HFx.out.2.1 (by have h9 : xt.size ≤ 4000 := hd.1; omega))
                rw [hd.2] at HD
                generalize dataS e xs xt = DS at *
                subst hxl
                clear hd hok
                go_wp2_with fail
                refine HD.out.mono ?_
                rintro en v6 ⟨rfl, hb⟩
                have H6 := Lib.hid (H5.out.1.below hb)
                clear hb z0 z1 z2 fz0 fz1 fz2
                go_wp2_with fail
                go_roundw
                case rel => exact ⟨k + 1, DS, true, by omega, rfl, rfl, by go_num, Lib.hid ⟨HQ.out, by rw [HQ2.out]; exact H6.out⟩⟩
                case measure => first | (simp [intOf]; done) | (simp [intOf]; omega)
              · have HQ := Lib.hid (show wantA e (l.take (k + 1)) lba = (s9, b9) by rw [HW2.out, wantStep, if_neg (fun q => hxl q.2)])
                have hxl2 : (xl == lba) = false := by simpa using hxl
                clear hd hok
                go_wp2_with fail
                go_roundw
                case rel => exact ⟨k + 1, s9, b9, by omega, rfl, rfl, by go_num, Lib.hid ⟨HQ.out, by rw [HQ2.out]; exact H5.out.1⟩⟩
                case measure => first | (simp [intOf]; done) | (simp [intOf]; omega)
          · obtain rfl : k = l.length := by omega
            have hki : ¬ (l.length : Int) < (l.length : Int) := by omega
            rw [List.take_length] at hM
            have HRp := Lib.hid (play_R e l)
            rw [hM.out.1] at HTe
            have hLn : (playL e l).length ≤ 40 := Nat.le_trans HPL.out hn
            have HM := Lib.hid hM.out.2
            clear hM
            generalize playL e l = PL at *
            generalize playM e l = PM at *
            have HTe2 := Lib.hid (fun u v w h h' => HTe.out (by omega) u v w h h')
            have HPr2 := Lib.hid (fun w h => HPr.out n mb PM PL w h HRp.out (by omega))
            have HRa := Lib.hid (fun w h => sroot_any n mb e PM PL w h HRp.out (by omega))
            have HRb := Lib.hid (fun w h => sroot_any n2 mb2 e m2 PL w h HLs.out (by omega))
            have HCo := Lib.hid (fun w h => scount_any (n := n) (mb := mb) (e := e) (m := PM) w h)
            rw [HRp.out.len] at HCo
            have HLa := Lib.hid (fun w h => sleaves_any n mb e PM w h)
            have HLb := Lib.hid (fun w h => sleaves_any n2 mb2 e m2 w h)
            rw [HRp.out.leaves] at HLa
            rw [HLs.out.leaves] at HLb
            have HSm := Lib.hid (fun u v w h h' => rsame17_any u v PL w h h' (by omega))
            generalize rootL (hashL PL) = RT at *
            generalize proveP PL lba = PP at *
            obtain ⟨fo, ao, ⟨ho9, hso⟩, ⟨xo, xso⟩, uo, lo⟩ := PP
            go_wp2_with fail
            refine (HPr2.out _ HM.out.s).mono ?_
            rintro en v3 ⟨pu, pv, rfl, hu, hv, hb⟩
            obtain ⟨ua, uc, rfl, -⟩ := hu.shape
            obtain ⟨va, vc, rfl, -⟩ := hv.shape
            have H7 := Lib.hid (And.intro (HM.out.below hb) (And.intro hu hv))
            clear hu hv hb
            obtain ⟨WP, hWP⟩ : ∃ W, v3.alloc (.cells #[.bool fo, .int .i64 ao, .int .i64 ho9, .string hso, .int .i64 xo, .string xso, .slice ua uo.length uc, .slice va lo.length vc] 48) = W := ⟨_, rfl⟩
            have bP : Below v3.heap.size v3 WP := by rw [← hWP]; exact alloc_below _ _
            have kP : WP.heap[v3.heap.size]? = some (.cells #[.bool fo, .int .i64 ao, .int .i64 ho9, .string hso, .int .i64 xo, .string xso, .slice ua uo.length uc, .slice va lo.length vc] 48 (0, 0)) := by rw [← hWP]; exact alloc_new _ _
            have EP := Lib.hid hWP
            have H8 := Lib.hid (And.intro (H7.out.1.below bP) (And.intro (H7.out.2.1.below bP) (And.intro (H7.out.2.2.below bP) kP)))
            clear bP kP hWP
            go_upto_region 27 with fail
            try rw [EP.out]
            clear EP
            obtain ⟨p0, p1, p2, p3, p4, p5, p6, p7⟩ := blk8 H8.out.2.2.2
            have g0 := fun p => after_cell p0 p
            have g1 := fun p => after_cell p1 p
            have g2 := fun p => after_cell p2 p
            have g3 := fun p => after_cell p3 p
            have g4 := fun p => after_cell p4 p
            have g5 := fun p => after_cell p5 p
            have g6 := fun p => after_cell p6 p
            have g7 := fun p => after_cell p7 p
            have cR := Lib.hid (fun p => calls_after (p := p) (HRa.out (After WP p) (H8.out.1.s.below (after_below WP p))))
            have cC := Lib.hid (fun p => calls_after_same (p := p) ((HCo.out (After WP p) (H8.out.1.s.below (after_below WP p))).mono fun _ _ h => ⟨h.1, h.2.symm⟩))
            have cT := Lib.hid (fun p => calls_after (p := p) (HTe2.out _ _ (After WP p) (H8.out.2.1.below (after_below WP p)) (H8.out.2.2.1.below (after_below WP p))))
            refine wp_region_after (by kernel_rfl) (by kernel_rfl) ?_
            repeat (go_big_quiet_step (fail))
            go_big_quiet_step (with_reducible exact cR.out _)
            repeat (go_big_quiet_step (fail))
            go_big_quiet_step (with_reducible exact cC.out _)
            repeat (go_big_quiet_step (fail))
            go_big_quiet_step (exact cT.out _)
            repeat (go_big_quiet_step (fail))
            refine wpQuiet_nil ?_
            rintro v4 ⟨q, rfl⟩
            have hb4 := after_below WP q
            have H9 := Lib.hid (H8.out.1.below hb4)
            generalize After WP q = v4 at *
            clear hb4 cR cC cT g0 g1 g2 g3 g4 g5 g6 g7 p0 p1 p2 p3 p4 p5 p6 p7
            go_wp2_with fail
            refine (HRa.out _ H9.out.s).mono ?_
            rintro en v6 ⟨rfl, hb⟩
            have H10 := Lib.hid (H9.out.below hb)
            clear hb
            go_wp2_with fail
            refine (HRb.out _ H10.out.t).mono ?_
            rintro en v7 ⟨rfl, hb⟩
            have H11 := Lib.hid (H10.out.below hb)
            clear hb
            go_wp2_with fail
            refine (HLa.out _ H11.out.s).mono ?_
            rintro en v8 ⟨la, rfl, hra, hb⟩
            have H12 := Lib.hid (And.intro (H11.out.below hb) hra.rd)
            clear hb hra
            go_wp2_with fail
            refine (HLb.out _ H12.out.1.t).mono ?_
            rintro en v10 ⟨lb, rfl, hrb, hb⟩
            have H13 := Lib.hid (And.intro (H12.out.1.below hb) (And.intro (H12.out.2.below hb) hrb.rd))
            clear hb hrb
            go_wp2_with fail
            refine (HSm.out _ _ _ H13.out.2.1 H13.out.2.2).mono ?_
            rintro en v11 ⟨rfl, hb⟩
            have H14 := Lib.hid (H13.out.1.below hb)
            clear hb
            go_wp2_with fail
            refine (alive17_any _).mono ?_
            rintro en v12 ⟨rfl, hb⟩
            have H15 := Lib.hid (H14.out.below hb)
            clear hb
            go_wp2
            exact HR.out _ _ ⟨rfl, H15.out.b⟩
theorem slast_any (e lba : Int) (lv : Value) (l : List ActT) (w : World) (hl : Rd actE17 w lv l) (hfit : ∀ x ∈ l, fitAct x) :
    Calls Try.prog 5 #[.int .i64 e, lv, .int .i64 lba] w fun r w' => r = .returned (.bool true) ∧ Below w.heap.size w w' := by
  by_cases h0 : e < 0
  · exact slast_bad e lba lv l w hl (Or.inl h0)
  by_cases h1 : 4294967295 < e
  · exact slast_bad e lba lv l w hl (Or.inr ⟨h0, h1⟩)
  by_cases h2 : lba < 0
  · exact slast_out e lba lv l w hl h0 h1 (Or.inl h2)
  by_cases h3 : 4095 < lba
  · exact slast_out e lba lv l w hl h0 h1 (Or.inr ⟨h2, h3⟩)
  exact slast_main e lba lv l w hl hfit h0 h1 h2 h3
end Go.Proofs.Ytdbabkkmdlkjaaa
