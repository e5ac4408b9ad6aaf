/- The law ProofProves: what its walk gives. -/
import Derived.Test.YtelmcoedmkhkjaaHLaw16b
import Derived.Test.YtelmcoedmkhkjaaM8
import Derived.Test.YtelmcoedmkhkjaaM11
import Derived.Test.YtelmcoedmkhkjaaM12
import Derived.Test.YtelmcoedmkhkjaaM4
import Derived.BigQuiet
namespace Ks
open Go Go.RowKit
theorem prfV_inj {p : PrfD} {u v u2 v2 : Value} (h : prfV p u v = prfV p u2 v2) : u = u2 ∧ v = v2 := by
  simpa [prfV, prfC] using h
theorem path_le : ∀ (n : Nat) (l : List ByteArray) (i : Nat), l.length = n → (pathL l i).length ≤ n := by
  intro n
  induction n using Nat.strongRecOn with
  | ind n ih =>
    intro l i hl
    by_cases h : 2 ≤ l.length
    · have h1 := half_lt l.length h
      have h2 := h1.1
      rw [path_two l i h]
      split
      · have := ih (halfN l.length) (by omega) (l.take (halfN l.length)) i (by rw [List.length_take]; omega)
        rw [List.length_append, List.length_singleton]; omega
      · have := ih (l.length - halfN l.length) (by omega) (l.drop (halfN l.length)) (i - halfN l.length) (by rw [List.length_drop])
        rw [List.length_append, List.length_singleton]; omega
    · rw [path_low l i h]; simp
theorem prove_len (l : List LeafT) (lba : Int) (h : l.length ≤ 1000000) : (proveP l lba).up.length ≤ maxLen ∧ (proveP l lba).left.length ≤ maxLen := by
  have hm : 1000000 ≤ maxLen := by decide
  have hp := fun i => path_le _ (hashL l) i rfl
  rw [hashL_length] at hp
  constructor
  · show (if _ then _ else _ : List ByteArray).length ≤ _
    split
    · have := hp (aheadN lba l); omega
    · simp
  · show (if _ then _ else _ : List ByteArray).length ≤ _
    split
    · have := hp (aheadN lba l - 1); omega
    · simp
/-- a class of worlds behind one, where a proof may have been made -/
def PrfTold (w0 : World) (P : PrfD) (r : Option Value) (w : World) : Prop :=
  Below w0.heap.size w0 w ∧ ∀ u v, r = some (prfV P u v) → Rd strE w u P.up ∧ Rd strE w v P.left
section
variable {w0 w w' : World} {P : PrfD} {r : Option Value}
theorem PrfTold.start (hb : Below w0.heap.size w0 w) : PrfTold w0 P none w := ⟨hb, fun u v h => by cases h⟩
theorem PrfTold.on (h : PrfTold w0 P r w) (hb : Below w.heap.size w w') : PrfTold w0 P r w' := ⟨h.1.trans (hb.mono h.1.size), fun u v e => ⟨(h.2 u v e).1.below hb, (h.2 u v e).2.below hb⟩⟩
theorem PrfTold.made (h : PrfTold w0 P r w) (hb : Below w.heap.size w w') {u v : Value} (hu : Rd strE w' u P.up) (hv : Rd strE w' v P.left) : PrfTold w0 P (some (prfV P u v)) w' :=
  ⟨h.1.trans (hb.mono h.1.size), fun u2 v2 e => by
    obtain ⟨rfl, rfl⟩ := prfV_inj (Option.some.inj e)
    exact ⟨hu, hv⟩⟩
end
end Ks
namespace Go.Proofs.Ytelmcoedmkhkjaa
open Go.RowKit Ks
set_option linter.unusedVariables false
theorem eg_alive16 : ∀ args w, (callFunc 7 args).run Try.prog w = .ok (.enter 7 args) w := fun _ _ => rfl
theorem eg_rprove : ∀ args w, (callFunc 19 args).run Try.prog w = .ok (.enter 19 args) w := fun _ _ => rfl
theorem eg_rsame : ∀ args w, (callFunc 16 args).run Try.prog w = .ok (.enter 16 args) w := fun _ _ => rfl
theorem same_none (w : World) : Calls Try.prog 16 #[prfV noPrf (.slice none 0 0) (.slice none 0 0), prfV noPrf (.slice none 0 0) (.slice none 0 0)] w fun e w' => e = .returned (.bool true) ∧ Below w.heap.size w w' :=
  rsame_any noPrf _ _ _ _ w (Rd.nil w) (Rd.nil w) (Rd.nil w) (Rd.nil w) (by decide) (by decide)
theorem pack_two (ws l : List Int) : packE ws l = 0 ∨ packE ws l = 2 := by unfold packE; split <;> simp
set_option maxRecDepth 100000 in
set_option maxHeartbeats 4000000 in
theorem pproves_long (lv : Value) (l : List LeafT) (lba epoch slot : Int) (s : ByteArray) (w : World) (hl : Rd leafE w lv l) (hs : 1000 < s.size) :
    Calls Try.prog 3 #[lv, .int .i64 lba, .int .i64 epoch, .int .i64 slot, .string s] w fun e w' => e = .returned (.bool true) ∧ Below w.heap.size w w' := by
  refine calls_by fun R HR => ?_
  have HF := Lib.hid (fun w h => pfew_any lv l noPrf (.slice none 0 0) (.slice none 0 0) w h (Rd.nil w) (Rd.nil w))
  have HD := Lib.hid (And.intro hl trivial)
  have hs1 : (1000 : Int) < (s.size : Int) := by omega
  obtain ⟨a, cap, rfl, -⟩ := hl.shape
  clear hl hs
  have H1 := Lib.hid (And.intro (Below.refl w.heap.size w) (HD.out.1))
  go_enter Try.func3, Try.ntmps3
  go_wp2_with fail
  refine (HF.out _ H1.out.2).mono ?_
  rintro en v1 ⟨q9, rfl, hq9, hb⟩
  have H2 := Lib.hid (And.intro (H1.out.1.trans (hb.mono H1.out.1.size)) (H1.out.2.below hb))
  clear hb
  clear hq9
  cases q9 with
  | false =>
    go_wp2_with fail
    refine (alive_any _).mono ?_
    rintro en v2 ⟨rfl, hb⟩
    have H3 := Lib.hid (And.intro (H2.out.1.trans (hb.mono H2.out.1.size)) (H2.out.2.below hb))
    clear hb
    go_wp2
    exact HR.out _ _ ⟨rfl, H3.out.1⟩
  | true =>
    go_wp2_with fail
    refine (alive_any _).mono ?_
    rintro en v2 ⟨rfl, hb⟩
    have H3 := Lib.hid (And.intro (H2.out.1.trans (hb.mono H2.out.1.size)) (H2.out.2.below hb))
    clear hb
    go_wp2
    exact HR.out _ _ ⟨rfl, H3.out.1⟩
set_option maxRecDepth 100000 in
set_option maxHeartbeats 4000000 in
theorem pproves_no (lv : Value) (l : List LeafT) (lba epoch slot : Int) (s : ByteArray) (w : World) (hl : Rd leafE w lv l) (h1 : -9223372036854775808 ≤ epoch ∧ epoch ≤ 9223372036854775807) (h2 : -9223372036854775808 ≤ slot ∧ slot ≤ 9223372036854775807) (hs : s.size ≤ 1000) (hr : rightB l = false) :
    Calls Try.prog 3 #[lv, .int .i64 lba, .int .i64 epoch, .int .i64 slot, .string s] w fun e w' => e = .returned (.bool true) ∧ Below w.heap.size w w' := by
  refine calls_by fun R HR => ?_
  have HF := Lib.hid (fun w h => pfew_any lv l noPrf (.slice none 0 0) (.slice none 0 0) w h (Rd.nil w) (Rd.nil w))
  have HD := Lib.hid (And.intro hl trivial)
  have HDa := Lib.hid (fun w => pdata_any epoch slot s w h1 h2 (by omega))
  have HDb := Lib.hid (fun w => rdata_any epoch slot s w h1.2 h2.2 (by omega))
  have hs1 : ¬ (1000 : Int) < (s.size : Int) := by omega
  have HP := Lib.hid (fun w h hn => prove_none lv l lba w h hn (by simp [hr]))
  have HRt := Lib.hid (fun w h hn => proot_any lv l w h hn)
  have HRi := Lib.hid (fun w h hn => rright_any lv l w h hn)
  have HCk := Lib.hid (fun w h hn => right_any lv l w h hn)
  simp only [hr, if_false, Bool.false_eq_true, prootV, prootE] at HRi HCk HRt
  have hE : (dataE epoch slot = 0 ∧ decide (dataE epoch slot = 0) = true) ∨ (dataE epoch slot = 2 ∧ decide (dataE epoch slot = 0) = false) := by
    have h := pack_two [4, 4] [epoch, slot]
    rw [dataE]
    rcases h with h | h <;> rw [h] <;> simp
  generalize decide (dataE epoch slot = 0) = DB at *
  generalize dataE epoch slot = DE at *
  generalize dataS epoch slot s = DS at *
  obtain ⟨a, cap, rfl, -⟩ := hl.shape
  clear hr hl hs h1 h2
  rcases hE with ⟨rfl, rfl⟩ | ⟨rfl, rfl⟩
  all_goals
    have H1 := Lib.hid (And.intro (Below.refl w.heap.size w) (HD.out.1))
    go_enter Try.func3, Try.ntmps3
    go_wp2_with fail
    refine (HF.out _ H1.out.2).mono ?_
    rintro en v1 ⟨q9, rfl, hq9, hb⟩
    have H2 := Lib.hid (And.intro (H1.out.1.trans (hb.mono H1.out.1.size)) (H1.out.2.below hb))
    clear hb
    cases q9 with
    | false =>
      go_wp2_with fail
      refine (alive_any _).mono ?_
      rintro en v2 ⟨rfl, hb⟩
      have H3 := Lib.hid (And.intro (H2.out.1.trans (hb.mono H2.out.1.size)) (H2.out.2.below hb))
      clear hb
      go_wp2
      exact HR.out _ _ ⟨rfl, H3.out.1⟩
    | true =>
      have hn := (hq9 rfl).1
      have hn6 : l.length ≤ 1000000 := by omega
      clear hq9
      go_wp2_with fail
      refine (HDa.out _).mono ?_
      rintro en v2 ⟨rfl, hb⟩
      have H3 := Lib.hid (And.intro (H2.out.1.trans (hb.mono H2.out.1.size)) (H2.out.2.below hb))
      clear hb
      go_wp2_with fail
      refine (HDb.out _).mono ?_
      rintro en v3 ⟨rfl, hb⟩
      have H4 := Lib.hid (And.intro (H3.out.1.trans (hb.mono H3.out.1.size)) (H3.out.2.below hb))
      clear hb
      go_wp2_with fail
      refine (HRt.out _ H4.out.2 hn6).mono ?_
      rintro en v4 ⟨rfl, hb⟩
      have H5 := Lib.hid (And.intro (H4.out.1.trans (hb.mono H4.out.1.size)) (H4.out.2.below hb))
      clear hb
      go_wp2_with fail
      refine (HP.out _ H5.out.2 hn6).mono ?_
      rintro en v5 ⟨rfl, hb⟩
      have H6 := Lib.hid (And.intro (H5.out.1.trans (hb.mono H5.out.1.size)) (H5.out.2.below hb))
      clear hb
      obtain ⟨WO, hWO⟩ : ∃ WO, v5.alloc (.cells #[.bool false, .int .i64 0, .int .i64 0, .string ⟨#[]⟩, .int .i64 0, .string ⟨#[]⟩, .slice none 0 0, .slice none 0 0] 29) = WO := ⟨_, rfl⟩
      have hbWO : Below v5.heap.size v5 WO := by rw [← hWO]; exact alloc_below v5 _
      have kWO : WO.heap[v5.heap.size]? = some (.cells #[.bool false, .int .i64 0, .int .i64 0, .string ⟨#[]⟩, .int .i64 0, .string ⟨#[]⟩, .slice none 0 0, .slice none 0 0] 29 (0, 0)) := by rw [← hWO]; exact alloc_new v5 _
      have EWO := Lib.hid hWO
      have H7 := Lib.hid (And.intro (H6.out.1.trans (hbWO.mono H6.out.1.size)) (And.intro (H6.out.2.below hbWO) (kWO)))
      clear hbWO kWO hWO
      go_upto_region 7 with fail
      try rw [EWO.out]
      clear EWO
      go_wp2_with fail
      go_loopw [75] (fun i wx => ∃ (k : Nat), k ≤ l.length ∧ i = .int .i64 k ∧ Hid (Below WO.heap.size WO wx)) (fun i _ => l.length - (intOf i).toNat)
      case atStart => exact ⟨0, Nat.zero_le _, rfl, Lib.hid (Below.refl _ _)⟩
      case round =>
        obtain ⟨k, hk, rfl, hN⟩ := hrel
        by_cases hlt : k < l.length
        · have hki : (k : Int) < (l.length : Int) := by omega
          obtain ⟨x, hx⟩ : ∃ x, l[k]? = some x := ⟨_, List.getElem?_eq_getElem hlt⟩
          obtain ⟨b, o, ha, hb0, dd⟩ := (H7.out.2.1.below hN.out).at k x hx
          cases ha
          obtain ⟨n, s9⟩ := x
          have d0 : wr.cell? ⟨b, o + k * 2, none⟩ = some (.int .i64 n) := dd 0 _ rfl
          have d1 : wr.cell? ⟨b, o + k * 2 + 1, none⟩ = some (.string s9) := dd 1 _ rfl
          obtain ⟨WL, hWL⟩ : ∃ WL, wr.alloc (.cells #[.int .i64 n, .string s9] 25) = WL := ⟨_, rfl⟩
          have bL : Below wr.heap.size wr WL := by rw [← hWL]; exact alloc_below wr _
          have nL : WL.heap[wr.heap.size]? = some (.cells #[.int .i64 n, .string s9] 25 (0, 0)) := by rw [← hWL]; exact alloc_new wr _
          obtain ⟨e0, e1, fe0, fe1⟩ := blk2 nL
          have HL := Lib.hid (hN.out.trans (bL.mono hN.out.size))
          have HSa := Lib.hid (fun w => said_any (n, s9) w)
          have HSb := Lib.hid (fun w => rsaid_any (n, s9) w)
          generalize saidS (n, s9) = Y at *
          have r0 := fun p => after_cell e0 p
          have r1 := fun p => after_cell e1 p
          have cA := Lib.hid (fun p => calls_after (p := p) (HSa.out (After WL p)))
          have cB := Lib.hid (fun p => calls_after (p := p) (HSb.out (After WL p)))
          clear bL nL dd hx hb0
          go_wp2_with fail
          refine wp_region_after (by kernel_rfl) (by kernel_rfl) ?_
          repeat (go_big_quiet_step (fail))
          go_big_quiet_step (exact cA.out _)
          repeat (go_big_quiet_step (fail))
          go_big_quiet_step (exact cB.out _)
          repeat (go_big_quiet_step (fail))
          refine wpQuiet_nil ?_
          rintro w5 ⟨q, rfl⟩
          have hb5 := after_below WL q
          have H59 := Lib.hid (HL.out.trans (hb5.mono HL.out.size))
          generalize After WL q = w5 at *
          clear hb5 cA cB HSa HSb r0 r1 d0 d1 e0 e1
          go_wp2_with fail
          go_roundw
          case rel => exact ⟨k + 1, by omega, by go_num, H59⟩
          case measure => simp [intOf]; omega
        · obtain rfl : k = l.length := by omega
          have hki : ¬ (l.length : Int) < (l.length : Int) := by omega
          have hE := hN.out
          have H8 := Lib.hid (And.intro (H7.out.1.trans (hE.mono H7.out.1.size)) (And.intro (H7.out.2.1.below hE) (blk_on hE H7.out.2.2)))
          clear hE
          go_wp2_with fail
          refine (HRi.out _ H8.out.2.1 hn6).mono ?_
          rintro en v6 ⟨rfl, hb⟩
          have H9 := Lib.hid (And.intro (H8.out.1.trans (hb.mono H8.out.1.size)) (And.intro (H8.out.2.1.below hb) (blk_on hb H8.out.2.2)))
          clear hb
          go_wp2_with fail
          refine (HCk.out _ H9.out.2.1 hn6).mono ?_
          rintro en v7 ⟨rfl, hb⟩
          have H10 := Lib.hid (And.intro (H9.out.1.trans (hb.mono H9.out.1.size)) (And.intro (H9.out.2.1.below hb) (blk_on hb H9.out.2.2)))
          clear hb
          obtain ⟨o0, o1, o2, o3, o4, o5, o6, o7⟩ := blk8 H10.out.2.2
          go_wp2_with fail
          refine (same_none _).mono ?_
          rintro en v8 ⟨rfl, hb⟩
          have H11 := Lib.hid (And.intro (H10.out.1.trans (hb.mono H10.out.1.size)) (And.intro (H10.out.2.1.below hb) (blk_on hb H10.out.2.2)))
          clear hb
          clear o0 o1 o2 o3 o4 o5 o6 o7
          go_wp2_with fail
          refine (alive_any _).mono ?_
          rintro en v9 ⟨rfl, hb⟩
          have H12 := Lib.hid (And.intro (H11.out.1.trans (hb.mono H11.out.1.size)) (And.intro (H11.out.2.1.below hb) (blk_on hb H11.out.2.2)))
          clear hb
          go_wp2
          exact HR.out _ _ ⟨rfl, H12.out.1⟩
set_option maxRecDepth 100000 in
set_option maxHeartbeats 4000000 in
theorem pproves_out (lv : Value) (l : List LeafT) (lba epoch slot : Int) (s : ByteArray) (w : World) (hl : Rd leafE w lv l) (h1 : -9223372036854775808 ≤ epoch ∧ epoch ≤ 9223372036854775807) (h2 : -9223372036854775808 ≤ slot ∧ slot ≤ 9223372036854775807) (hs : s.size ≤ 1000) (hr : rightB l = true) (ho : lba < 0 ∨ (¬ lba < 0 ∧ 4095 < lba)) :
    Calls Try.prog 3 #[lv, .int .i64 lba, .int .i64 epoch, .int .i64 slot, .string s] w fun e w' => e = .returned (.bool true) ∧ Below w.heap.size w w' := by
  refine calls_by fun R HR => ?_
  have HF := Lib.hid (fun w h => pfew_any lv l noPrf (.slice none 0 0) (.slice none 0 0) w h (Rd.nil w) (Rd.nil w))
  have HD := Lib.hid (And.intro hl trivial)
  have HDa := Lib.hid (fun w => pdata_any epoch slot s w h1 h2 (by omega))
  have HDb := Lib.hid (fun w => rdata_any epoch slot s w h1.2 h2.2 (by omega))
  have hs1 : ¬ (1000 : Int) < (s.size : Int) := by omega
  have HP := Lib.hid (fun w h hn => prove_none lv l lba w h hn (by omega))
  have HRt := Lib.hid (fun w h hn => proot_yes hr lv w h hn)
  have HRi := Lib.hid (fun w h hn => rright_any lv l w h hn)
  have HCk := Lib.hid (fun w h hn => right_any lv l w h hn)
  simp only [hr, if_true] at HRi HCk
  have HHs := Lib.hid (fun w h hn => rhashes_any lv l w h hn)
  have HRR := Lib.hid (fun (v : Value) w (h : Rd strE w v (hashL l)) (hn : l.length ≤ 1000000) => rroot_any _ (hashL l) v w rfl (by rw [hashL_length]; omega) h (hashL_whole l))
  generalize rootL (hashL l) = RT at *
  have hE : (dataE epoch slot = 0 ∧ decide (dataE epoch slot = 0) = true) ∨ (dataE epoch slot = 2 ∧ decide (dataE epoch slot = 0) = false) := by
    have h := pack_two [4, 4] [epoch, slot]
    rw [dataE]
    rcases h with h | h <;> rw [h] <;> simp
  generalize decide (dataE epoch slot = 0) = DB at *
  generalize dataE epoch slot = DE at *
  generalize dataS epoch slot s = DS at *
  obtain ⟨a, cap, rfl, -⟩ := hl.shape
  clear hr hl hs h1 h2
  rcases hE with ⟨rfl, rfl⟩ | ⟨rfl, rfl⟩
  all_goals
    rcases ho with ho1 | ⟨ho1, ho2⟩
    all_goals
      have H1 := Lib.hid (And.intro (Below.refl w.heap.size w) (HD.out.1))
      go_enter Try.func3, Try.ntmps3
      go_wp2_with fail
      refine (HF.out _ H1.out.2).mono ?_
      rintro en v1 ⟨q9, rfl, hq9, hb⟩
      have H2 := Lib.hid (And.intro (H1.out.1.trans (hb.mono H1.out.1.size)) (H1.out.2.below hb))
      clear hb
      cases q9 with
      | false =>
        go_wp2_with fail
        refine (alive_any _).mono ?_
        rintro en v2 ⟨rfl, hb⟩
        have H3 := Lib.hid (And.intro (H2.out.1.trans (hb.mono H2.out.1.size)) (H2.out.2.below hb))
        clear hb
        go_wp2
        exact HR.out _ _ ⟨rfl, H3.out.1⟩
      | true =>
        have hn := (hq9 rfl).1
        have hn6 : l.length ≤ 1000000 := by omega
        clear hq9
        go_wp2_with fail
        refine (HDa.out _).mono ?_
        rintro en v2 ⟨rfl, hb⟩
        have H3 := Lib.hid (And.intro (H2.out.1.trans (hb.mono H2.out.1.size)) (H2.out.2.below hb))
        clear hb
        go_wp2_with fail
        refine (HDb.out _).mono ?_
        rintro en v3 ⟨rfl, hb⟩
        have H4 := Lib.hid (And.intro (H3.out.1.trans (hb.mono H3.out.1.size)) (H3.out.2.below hb))
        clear hb
        go_wp2_with fail
        refine (HRt.out _ H4.out.2 hn6).mono ?_
        rintro en v4 ⟨rfl, hb⟩
        have H5 := Lib.hid (And.intro (H4.out.1.trans (hb.mono H4.out.1.size)) (H4.out.2.below hb))
        clear hb
        go_wp2_with fail
        refine (HP.out _ H5.out.2 hn6).mono ?_
        rintro en v5 ⟨rfl, hb⟩
        have H6 := Lib.hid (And.intro (H5.out.1.trans (hb.mono H5.out.1.size)) (H5.out.2.below hb))
        clear hb
        obtain ⟨WO, hWO⟩ : ∃ WO, v5.alloc (.cells #[.bool false, .int .i64 0, .int .i64 0, .string ⟨#[]⟩, .int .i64 0, .string ⟨#[]⟩, .slice none 0 0, .slice none 0 0] 29) = WO := ⟨_, rfl⟩
        have hbWO : Below v5.heap.size v5 WO := by rw [← hWO]; exact alloc_below v5 _
        have kWO : WO.heap[v5.heap.size]? = some (.cells #[.bool false, .int .i64 0, .int .i64 0, .string ⟨#[]⟩, .int .i64 0, .string ⟨#[]⟩, .slice none 0 0, .slice none 0 0] 29 (0, 0)) := by rw [← hWO]; exact alloc_new v5 _
        have EWO := Lib.hid hWO
        have H7 := Lib.hid (And.intro (H6.out.1.trans (hbWO.mono H6.out.1.size)) (And.intro (H6.out.2.below hbWO) (kWO)))
        clear hbWO kWO hWO
        go_upto_region 7 with fail
        try rw [EWO.out]
        clear EWO
        go_wp2_with fail
        go_loopw [75] (fun i wx => ∃ (k : Nat), k ≤ l.length ∧ i = .int .i64 k ∧ Hid (Below WO.heap.size WO wx)) (fun i _ => l.length - (intOf i).toNat)
        case atStart => exact ⟨0, Nat.zero_le _, rfl, Lib.hid (Below.refl _ _)⟩
        case round =>
          obtain ⟨k, hk, rfl, hN⟩ := hrel
          by_cases hlt : k < l.length
          · have hki : (k : Int) < (l.length : Int) := by omega
            obtain ⟨x, hx⟩ : ∃ x, l[k]? = some x := ⟨_, List.getElem?_eq_getElem hlt⟩
            obtain ⟨b, o, ha, hb0, dd⟩ := (H7.out.2.1.below hN.out).at k x hx
            cases ha
            obtain ⟨n, s9⟩ := x
            have d0 : wr.cell? ⟨b, o + k * 2, none⟩ = some (.int .i64 n) := dd 0 _ rfl
            have d1 : wr.cell? ⟨b, o + k * 2 + 1, none⟩ = some (.string s9) := dd 1 _ rfl
            obtain ⟨WL, hWL⟩ : ∃ WL, wr.alloc (.cells #[.int .i64 n, .string s9] 25) = WL := ⟨_, rfl⟩
            have bL : Below wr.heap.size wr WL := by rw [← hWL]; exact alloc_below wr _
            have nL : WL.heap[wr.heap.size]? = some (.cells #[.int .i64 n, .string s9] 25 (0, 0)) := by rw [← hWL]; exact alloc_new wr _
            obtain ⟨e0, e1, fe0, fe1⟩ := blk2 nL
            have HL := Lib.hid (hN.out.trans (bL.mono hN.out.size))
            have HSa := Lib.hid (fun w => said_any (n, s9) w)
            have HSb := Lib.hid (fun w => rsaid_any (n, s9) w)
            generalize saidS (n, s9) = Y at *
            have r0 := fun p => after_cell e0 p
            have r1 := fun p => after_cell e1 p
            have cA := Lib.hid (fun p => calls_after (p := p) (HSa.out (After WL p)))
            have cB := Lib.hid (fun p => calls_after (p := p) (HSb.out (After WL p)))
            clear bL nL dd hx hb0
            go_wp2_with fail
            refine wp_region_after (by kernel_rfl) (by kernel_rfl) ?_
            repeat (go_big_quiet_step (fail))
            go_big_quiet_step (exact cA.out _)
            repeat (go_big_quiet_step (fail))
            go_big_quiet_step (exact cB.out _)
            repeat (go_big_quiet_step (fail))
            refine wpQuiet_nil ?_
            rintro w5 ⟨q, rfl⟩
            have hb5 := after_below WL q
            have H59 := Lib.hid (HL.out.trans (hb5.mono HL.out.size))
            generalize After WL q = w5 at *
            clear hb5 cA cB HSa HSb r0 r1 d0 d1 e0 e1
            go_wp2_with fail
            go_roundw
            case rel => exact ⟨k + 1, by omega, by go_num, H59⟩
            case measure => simp [intOf]; omega
          · obtain rfl : k = l.length := by omega
            have hki : ¬ (l.length : Int) < (l.length : Int) := by omega
            have hE := hN.out
            have H8 := Lib.hid (And.intro (H7.out.1.trans (hE.mono H7.out.1.size)) (And.intro (H7.out.2.1.below hE) (blk_on hE H7.out.2.2)))
            clear hE
            go_wp2_with fail
            refine (HRi.out _ H8.out.2.1 hn6).mono ?_
            rintro en v6 ⟨rfl, hb⟩
            have H9 := Lib.hid (And.intro (H8.out.1.trans (hb.mono H8.out.1.size)) (And.intro (H8.out.2.1.below hb) (blk_on hb H8.out.2.2)))
            clear hb
            go_wp2_with fail
            refine (HCk.out _ H9.out.2.1 hn6).mono ?_
            rintro en v7 ⟨rfl, hb⟩
            have H10 := Lib.hid (And.intro (H9.out.1.trans (hb.mono H9.out.1.size)) (And.intro (H9.out.2.1.below hb) (blk_on hb H9.out.2.2)))
            clear hb
            go_wp2_with fail
            refine (HHs.out _ H10.out.2.1 hn6).mono ?_
            rintro en v8 ⟨hv, rfl, hrow, hb⟩
            obtain ⟨ha9, hc9, rfl, -⟩ := hrow.shape
            have H11 := Lib.hid (And.intro (H10.out.1.trans (hb.mono H10.out.1.size)) (And.intro (H10.out.2.1.below hb) (And.intro (blk_on hb H10.out.2.2) (hrow.rd))))
            clear hb
            clear hrow
            go_wp2_with fail
            refine (HRR.out _ _ H11.out.2.2.2 hn6).mono ?_
            rintro en v9 ⟨rfl, hb⟩
            have H12 := Lib.hid (And.intro (H11.out.1.trans (hb.mono H11.out.1.size)) (And.intro (H11.out.2.1.below hb) (blk_on hb H11.out.2.2.1)))
            clear hb
            obtain ⟨o0, o1, o2, o3, o4, o5, o6, o7⟩ := blk8 H12.out.2.2
            go_wp2_with fail
            refine (same_none _).mono ?_
            rintro en v10 ⟨rfl, hb⟩
            have H13 := Lib.hid (And.intro (H12.out.1.trans (hb.mono H12.out.1.size)) (And.intro (H12.out.2.1.below hb) (blk_on hb H12.out.2.2)))
            clear hb
            clear o0 o1 o2 o3 o4 o5 o6 o7
            go_wp2_with fail
            refine (alive_any _).mono ?_
            rintro en v11 ⟨rfl, hb⟩
            have H14 := Lib.hid (And.intro (H13.out.1.trans (hb.mono H13.out.1.size)) (And.intro (H13.out.2.1.below hb) (blk_on hb H13.out.2.2)))
            clear hb
            go_wp2
            exact HR.out _ _ ⟨rfl, H14.out.1⟩
set_option maxRecDepth 100000 in
set_option maxHeartbeats 4000000 in
theorem pproves_yes (lv : Value) (l : List LeafT) (lba epoch slot : Int) (s : ByteArray) (w : World) (hl : Rd leafE w lv l) (h1 : -9223372036854775808 ≤ epoch ∧ epoch ≤ 9223372036854775807) (h2 : -9223372036854775808 ≤ slot ∧ slot ≤ 9223372036854775807) (hs : s.size ≤ 1000) (hr : rightB l = true) (ho1 : ¬ lba < 0) (ho2 : ¬ 4095 < lba) :
    Calls Try.prog 3 #[lv, .int .i64 lba, .int .i64 epoch, .int .i64 slot, .string s] w fun e w' => e = .returned (.bool true) ∧ Below w.heap.size w w' := by
  refine calls_by fun R HR => ?_
  have HF := Lib.hid (fun w h => pfew_any lv l noPrf (.slice none 0 0) (.slice none 0 0) w h (Rd.nil w) (Rd.nil w))
  have HD := Lib.hid (And.intro hl trivial)
  have HDa := Lib.hid (fun w => pdata_any epoch slot s w h1 h2 (by omega))
  have HDb := Lib.hid (fun w => rdata_any epoch slot s w h1.2 h2.2 (by omega))
  have hs1 : ¬ (1000 : Int) < (s.size : Int) := by omega
  have HP := Lib.hid (fun w h hn => prove_yes lv l lba w h hn hr (by omega))
  have HPr := Lib.hid (fun w h hn => rprove_yes lv l lba w h hn)
  have HSm := Lib.hid (fun (x y : Value) u v w => rsame_any (proveP l lba) u v x y w)
  have HRt := Lib.hid (fun w h hn => proot_yes hr lv w h hn)
  have HRi := Lib.hid (fun w h hn => rright_any lv l w h hn)
  have HCk := Lib.hid (fun w h hn => right_any lv l w h hn)
  simp only [hr, if_true] at HRi HCk
  have HHs := Lib.hid (fun w h hn => rhashes_any lv l w h hn)
  have HRR := Lib.hid (fun (v : Value) w (h : Rd strE w v (hashL l)) (hn : l.length ≤ 1000000) => rroot_any _ (hashL l) v w rfl (by rw [hashL_length]; omega) h (hashL_whole l))
  generalize rootL (hashL l) = RT at *
  have HPl := Lib.hid (fun (h : l.length ≤ 1000000) => prove_len l lba h)
  generalize proveP l lba = PP at *
  obtain ⟨fo, ao, ⟨ho, hso⟩, ⟨xo, xso⟩, uo, lo⟩ := PP
  have hE : (dataE epoch slot = 0 ∧ decide (dataE epoch slot = 0) = true) ∨ (dataE epoch slot = 2 ∧ decide (dataE epoch slot = 0) = false) := by
    have h := pack_two [4, 4] [epoch, slot]
    rw [dataE]
    rcases h with h | h <;> rw [h] <;> simp
  generalize decide (dataE epoch slot = 0) = DB at *
  generalize dataE epoch slot = DE at *
  generalize dataS epoch slot s = DS at *
  obtain ⟨a, cap, rfl, -⟩ := hl.shape
  clear hr hl hs h1 h2
  rcases hE with ⟨rfl, rfl⟩ | ⟨rfl, rfl⟩
  all_goals
    have H1 := Lib.hid (And.intro (Below.refl w.heap.size w) (HD.out.1))
    go_enter Try.func3, Try.ntmps3
    go_wp2_with fail
    refine (HF.out _ H1.out.2).mono ?_
    rintro en v1 ⟨q9, rfl, hq9, hb⟩
    have H2 := Lib.hid (And.intro (H1.out.1.trans (hb.mono H1.out.1.size)) (H1.out.2.below hb))
    clear hb
    cases q9 with
    | false =>
      go_wp2_with fail
      refine (alive_any _).mono ?_
      rintro en v2 ⟨rfl, hb⟩
      have H3 := Lib.hid (And.intro (H2.out.1.trans (hb.mono H2.out.1.size)) (H2.out.2.below hb))
      clear hb
      go_wp2
      exact HR.out _ _ ⟨rfl, H3.out.1⟩
    | true =>
      have hn := (hq9 rfl).1
      have hn6 : l.length ≤ 1000000 := by omega
      clear hq9
      go_wp2_with fail
      refine (HDa.out _).mono ?_
      rintro en v2 ⟨rfl, hb⟩
      have H3 := Lib.hid (And.intro (H2.out.1.trans (hb.mono H2.out.1.size)) (H2.out.2.below hb))
      clear hb
      go_wp2_with fail
      refine (HDb.out _).mono ?_
      rintro en v3 ⟨rfl, hb⟩
      have H4 := Lib.hid (And.intro (H3.out.1.trans (hb.mono H3.out.1.size)) (H3.out.2.below hb))
      clear hb
      go_wp2_with fail
      refine (HRt.out _ H4.out.2 hn6).mono ?_
      rintro en v4 ⟨rfl, hb⟩
      have H5 := Lib.hid (And.intro (H4.out.1.trans (hb.mono H4.out.1.size)) (H4.out.2.below hb))
      clear hb
      go_wp2_with fail
      refine (HP.out _ H5.out.2 hn6).mono ?_
      rintro en v5 ⟨ov, oz, rfl, hou, hol, hb⟩
      obtain ⟨oa, oc, rfl, -⟩ := hou.shape
      obtain ⟨za, zc, rfl, -⟩ := hol.shape
      have H6 := Lib.hid (And.intro (H5.out.1.trans (hb.mono H5.out.1.size)) (And.intro (H5.out.2.below hb) (And.intro (hou) (hol))))
      clear hb
      clear hou hol
      obtain ⟨WO, hWO⟩ : ∃ WO, v5.alloc (.cells #[.bool fo, .int .i64 ao, .int .i64 ho, .string hso, .int .i64 xo, .string xso, .slice oa uo.length oc, .slice za lo.length zc] 29) = WO := ⟨_, rfl⟩
      have hbWO : Below v5.heap.size v5 WO := by rw [← hWO]; exact alloc_below v5 _
      have kWO : WO.heap[v5.heap.size]? = some (.cells #[.bool fo, .int .i64 ao, .int .i64 ho, .string hso, .int .i64 xo, .string xso, .slice oa uo.length oc, .slice za lo.length zc] 29 (0, 0)) := by rw [← hWO]; exact alloc_new v5 _
      have EWO := Lib.hid hWO
      have H7 := Lib.hid (And.intro (H6.out.1.trans (hbWO.mono H6.out.1.size)) (And.intro (H6.out.2.1.below hbWO) (And.intro (H6.out.2.2.1.below hbWO) (And.intro (H6.out.2.2.2.below hbWO) (kWO)))))
      clear hbWO kWO hWO
      go_upto_region 7 with fail
      try rw [EWO.out]
      clear EWO
      go_wp2_with fail
      go_loopw [75] (fun i wx => ∃ (k : Nat), k ≤ l.length ∧ i = .int .i64 k ∧ Hid (Below WO.heap.size WO wx)) (fun i _ => l.length - (intOf i).toNat)
      case atStart => exact ⟨0, Nat.zero_le _, rfl, Lib.hid (Below.refl _ _)⟩
      case round =>
        obtain ⟨k, hk, rfl, hN⟩ := hrel
        by_cases hlt : k < l.length
        · have hki : (k : Int) < (l.length : Int) := by omega
          obtain ⟨x, hx⟩ : ∃ x, l[k]? = some x := ⟨_, List.getElem?_eq_getElem hlt⟩
          obtain ⟨b, o, ha, hb0, dd⟩ := (H7.out.2.1.below hN.out).at k x hx
          cases ha
          obtain ⟨n, s9⟩ := x
          have d0 : wr.cell? ⟨b, o + k * 2, none⟩ = some (.int .i64 n) := dd 0 _ rfl
          have d1 : wr.cell? ⟨b, o + k * 2 + 1, none⟩ = some (.string s9) := dd 1 _ rfl
          obtain ⟨WL, hWL⟩ : ∃ WL, wr.alloc (.cells #[.int .i64 n, .string s9] 25) = WL := ⟨_, rfl⟩
          have bL : Below wr.heap.size wr WL := by rw [← hWL]; exact alloc_below wr _
          have nL : WL.heap[wr.heap.size]? = some (.cells #[.int .i64 n, .string s9] 25 (0, 0)) := by rw [← hWL]; exact alloc_new wr _
          obtain ⟨e0, e1, fe0, fe1⟩ := blk2 nL
          have HL := Lib.hid (hN.out.trans (bL.mono hN.out.size))
          have HSa := Lib.hid (fun w => said_any (n, s9) w)
          have HSb := Lib.hid (fun w => rsaid_any (n, s9) w)
          generalize saidS (n, s9) = Y at *
          have r0 := fun p => after_cell e0 p
          have r1 := fun p => after_cell e1 p
          have cA := Lib.hid (fun p => calls_after (p := p) (HSa.out (After WL p)))
          have cB := Lib.hid (fun p => calls_after (p := p) (HSb.out (After WL p)))
          clear bL nL dd hx hb0
          go_wp2_with fail
          refine wp_region_after (by kernel_rfl) (by kernel_rfl) ?_
          repeat (go_big_quiet_step (fail))
          go_big_quiet_step (exact cA.out _)
          repeat (go_big_quiet_step (fail))
          go_big_quiet_step (exact cB.out _)
          repeat (go_big_quiet_step (fail))
          refine wpQuiet_nil ?_
          rintro w5 ⟨q, rfl⟩
          have hb5 := after_below WL q
          have H59 := Lib.hid (HL.out.trans (hb5.mono HL.out.size))
          generalize After WL q = w5 at *
          clear hb5 cA cB HSa HSb r0 r1 d0 d1 e0 e1
          go_wp2_with fail
          go_roundw
          case rel => exact ⟨k + 1, by omega, by go_num, H59⟩
          case measure => simp [intOf]; omega
        · obtain rfl : k = l.length := by omega
          have hki : ¬ (l.length : Int) < (l.length : Int) := by omega
          have hE := hN.out
          have H8 := Lib.hid (And.intro (H7.out.1.trans (hE.mono H7.out.1.size)) (And.intro (H7.out.2.1.below hE) (And.intro (H7.out.2.2.1.below hE) (And.intro (H7.out.2.2.2.1.below hE) (blk_on hE H7.out.2.2.2.2)))))
          clear hE
          go_wp2_with fail
          refine (HRi.out _ H8.out.2.1 hn6).mono ?_
          rintro en v6 ⟨rfl, hb⟩
          have H9 := Lib.hid (And.intro (H8.out.1.trans (hb.mono H8.out.1.size)) (And.intro (H8.out.2.1.below hb) (And.intro (H8.out.2.2.1.below hb) (And.intro (H8.out.2.2.2.1.below hb) (blk_on hb H8.out.2.2.2.2)))))
          clear hb
          go_wp2_with fail
          refine (HCk.out _ H9.out.2.1 hn6).mono ?_
          rintro en v7 ⟨rfl, hb⟩
          have H10 := Lib.hid (And.intro (H9.out.1.trans (hb.mono H9.out.1.size)) (And.intro (H9.out.2.1.below hb) (And.intro (H9.out.2.2.1.below hb) (And.intro (H9.out.2.2.2.1.below hb) (blk_on hb H9.out.2.2.2.2)))))
          clear hb
          go_wp2_with fail
          refine (HHs.out _ H10.out.2.1 hn6).mono ?_
          rintro en v8 ⟨hv, rfl, hrow, hb⟩
          obtain ⟨ha9, hc9, rfl, -⟩ := hrow.shape
          have H11 := Lib.hid (And.intro (H10.out.1.trans (hb.mono H10.out.1.size)) (And.intro (H10.out.2.1.below hb) (And.intro (H10.out.2.2.1.below hb) (And.intro (H10.out.2.2.2.1.below hb) (And.intro (blk_on hb H10.out.2.2.2.2) (hrow.rd))))))
          clear hb
          clear hrow
          go_wp2_with fail
          refine (HRR.out _ _ H11.out.2.2.2.2.2 hn6).mono ?_
          rintro en v9 ⟨rfl, hb⟩
          have H12 := Lib.hid (And.intro (H11.out.1.trans (hb.mono H11.out.1.size)) (And.intro (H11.out.2.1.below hb) (And.intro (H11.out.2.2.1.below hb) (And.intro (H11.out.2.2.2.1.below hb) (blk_on hb H11.out.2.2.2.2.1)))))
          clear hb
          obtain ⟨o0, o1, o2, o3, o4, o5, o6, o7⟩ := blk8 H12.out.2.2.2.2
          go_upto_region 21 with fail
          have HB := Lib.hid H12.out.1
          refine wp_region_mv (fun f => PrfTold v9 ⟨fo, ao, (ho, hso), (xo, xso), uo, lo⟩ (f 3)) (by kernel_rfl) (PrfTold.start (drew_below v9)) ?_
          obtain ⟨S, F, hF, hFC⟩ := moved_class (fun f => PrfTold v9 ⟨fo, ao, (ho, hso), (xo, xso), uo, lo⟩ (f 3))
          have k0 : ∀ s, (F s).cell? ⟨_, 0, none⟩ = some (.bool fo) := fun s => by
            obtain ⟨f, hf⟩ := hFC s
            exact (cell_on hf.1 o0).1
          have k1 : ∀ s, (F s).cell? ⟨_, 1, none⟩ = some (.int .i64 ao) := fun s => by
            obtain ⟨f, hf⟩ := hFC s
            exact (cell_on hf.1 o1).1
          have k2 : ∀ s, (F s).cell? ⟨_, 2, none⟩ = some (.int .i64 ho) := fun s => by
            obtain ⟨f, hf⟩ := hFC s
            exact (cell_on hf.1 o2).1
          have k3 : ∀ s, (F s).cell? ⟨_, 3, none⟩ = some (.string hso) := fun s => by
            obtain ⟨f, hf⟩ := hFC s
            exact (cell_on hf.1 o3).1
          have k4 : ∀ s, (F s).cell? ⟨_, 4, none⟩ = some (.int .i64 xo) := fun s => by
            obtain ⟨f, hf⟩ := hFC s
            exact (cell_on hf.1 o4).1
          have k5 : ∀ s, (F s).cell? ⟨_, 5, none⟩ = some (.string xso) := fun s => by
            obtain ⟨f, hf⟩ := hFC s
            exact (cell_on hf.1 o5).1
          have k6 : ∀ s, (F s).cell? ⟨_, 6, none⟩ = some (.slice oa uo.length oc) := fun s => by
            obtain ⟨f, hf⟩ := hFC s
            exact (cell_on hf.1 o6).1
          have k7 : ∀ s, (F s).cell? ⟨_, 7, none⟩ = some (.slice za lo.length zc) := fun s => by
            obtain ⟨f, hf⟩ := hFC s
            exact (cell_on hf.1 o7).1
          show wpAnyM _ _ _ _ _ 13 (Array.replicate 13 false) _ _
          refine mv_read 0 hF (fun _ _ _ h => h) rfl (by kernel_rfl) (by kernel_rfl) (by kernel_rfl) (fun K hK => ?_)
          go_simp
          first | refine ⟨_, fun _ => rfl, hK _ _ ?_⟩ | refine hK _ _ ?_
          clear hK K
          refine mv_read 1 hF (fun _ _ _ h => h) rfl (by kernel_rfl) (by kernel_rfl) (by kernel_rfl) (fun K hK => ?_)
          go_simp
          first | refine ⟨_, fun _ => rfl, hK _ _ ?_⟩ | refine hK _ _ ?_
          clear hK K
          refine mv_read 2 hF (fun _ _ _ h => h) rfl (by kernel_rfl) (by kernel_rfl) (by kernel_rfl) (fun K hK => ?_)
          go_simp
          first | refine ⟨_, fun _ => rfl, hK _ _ ?_⟩ | refine hK _ _ ?_
          clear hK K
          refine mv_call 3 19 rfl (by kernel_rfl) rfl rfl eg_rprove (args := #[.slice a l.length cap, .int .i64 lba]) rfl (fun v => ∃ u2 v2, v = prfV ⟨fo, ao, (ho, hso), (xo, xso), uo, lo⟩ u2 v2) (fun g w9 ha h0 h => ?_) ?_
          · simp only [h0] at h
            refine (HPr.out w9 (H12.out.2.1.below h.1) hn6).mono ?_
            rintro en w8 ⟨u2, v2, q1, q2, q3, q4⟩
            exact ⟨_, q1, ⟨_, _, rfl⟩, h.made q4 q2 q3⟩
          rintro _ ⟨u2, v2, rfl⟩
          refine mv_call1 4 16 rfl (by kernel_rfl) (by kernel_rfl) (by kernel_rfl) rfl rfl eg_rsame (args := #[prfV ⟨fo, ao, (ho, hso), (xo, xso), uo, lo⟩ (.slice oa uo.length oc) (.slice za lo.length zc), prfV ⟨fo, ao, (ho, hso), (xo, xso), uo, lo⟩ u2 v2]) rfl (u := .bool true) (fun g w9 ha h0 h => ?_) ?_
          · have e1 : g 3 = some (prfV ⟨fo, ao, (ho, hso), (xo, xso), uo, lo⟩ u2 v2) := (agree_on 3 ha (by kernel_rfl)).trans rfl
            obtain ⟨q2, q3⟩ := h.2 _ _ e1
            exact (HSm.out _ _ _ _ w9 (H12.out.2.2.1.below h.1) (H12.out.2.2.2.1.below h.1) q2 q3 (HPl.out hn6).1 (HPl.out hn6).2).mono fun e w' ⟨h1, h2⟩ => ⟨h1, h.on h2⟩
          refine mv_read 5 hF (fun _ _ _ h => h) rfl (by kernel_rfl) (by kernel_rfl) (by kernel_rfl) (fun K hK => ?_)
          go_simp
          first | refine ⟨_, fun _ => rfl, hK _ _ ?_⟩ | refine hK _ _ ?_
          clear hK K
          refine mv_read 6 hF (fun _ _ _ h => h) rfl (by kernel_rfl) (by kernel_rfl) (by kernel_rfl) (fun K hK => ?_)
          go_simp
          first | refine ⟨_, fun _ => rfl, hK _ _ ?_⟩ | refine hK _ _ ?_
          clear hK K
          refine mv_read 7 hF (fun _ _ _ h => h) rfl (by kernel_rfl) (by kernel_rfl) (by kernel_rfl) (fun K hK => ?_)
          go_simp
          first | refine ⟨_, fun _ => rfl, hK _ _ ?_⟩ | refine hK _ _ ?_
          clear hK K
          refine mv_read 8 hF (fun _ _ _ h => h) rfl (by kernel_rfl) (by kernel_rfl) (by kernel_rfl) (fun K hK => ?_)
          go_simp
          first | refine ⟨_, fun _ => rfl, hK _ _ ?_⟩ | refine hK _ _ ?_
          clear hK K
          refine mv_read 9 hF (fun _ _ _ h => h) rfl (by kernel_rfl) (by kernel_rfl) (by kernel_rfl) (fun K hK => ?_)
          go_simp
          first | refine ⟨_, fun _ => rfl, hK _ _ ?_⟩ | refine hK _ _ ?_
          clear hK K
          refine mv_call1 10 7 rfl (by kernel_rfl) (by kernel_rfl) (by kernel_rfl) rfl rfl eg_alive16 (args := #[]) rfl (u := .bool true) (fun g w _ _ h => (alive_any _).mono fun e w' ⟨h1, h2⟩ => ⟨h1, h.on h2⟩) ?_
          refine mv_read 11 hF (fun _ _ _ h => h) rfl (by kernel_rfl) (by kernel_rfl) (by kernel_rfl) (fun K hK => ?_)
          go_simp
          first | refine ⟨_, fun _ => rfl, hK _ _ ?_⟩ | refine hK _ _ ?_
          clear hK K
          refine mv_read 12 hF (fun _ _ _ h => h) rfl (by kernel_rfl) (by kernel_rfl) (by kernel_rfl) (fun K hK => ?_)
          go_simp
          first | refine ⟨_, fun _ => rfl, hK _ _ ?_⟩ | refine hK _ _ ?_
          clear hK K
          refine mv_end (by kernel_rfl) ?_
          intro w9 hw9
          have hb9 := hw9.1
          clear hw9 hF hFC k0 k1 k2 k3 k4 k5 k6 k7
          go_wp2
          exact HR.out _ _ ⟨rfl, HB.out.trans (hb9.mono HB.out.size)⟩
theorem pproves_any (lv : Value) (l : List LeafT) (lba epoch slot : Int) (s : ByteArray) (w : World) (hl : Rd leafE w lv l) (h1 : -9223372036854775808 ≤ epoch ∧ epoch ≤ 9223372036854775807) (h2 : -9223372036854775808 ≤ slot ∧ slot ≤ 9223372036854775807) :
    Calls Try.prog 3 #[lv, .int .i64 lba, .int .i64 epoch, .int .i64 slot, .string s] w fun e w' => e = .returned (.bool true) ∧ Below w.heap.size w w' := by
  by_cases hs : 1000 < s.size
  · exact pproves_long lv l lba epoch slot s w hl hs
  · have hs2 : s.size ≤ 1000 := by omega
    cases hr : rightB l
    · exact pproves_no lv l lba epoch slot s w hl h1 h2 hs2 hr
    · by_cases h3 : lba < 0
      · exact pproves_out lv l lba epoch slot s w hl h1 h2 hs2 hr (Or.inl h3)
      · by_cases h4 : 4095 < lba
        · exact pproves_out lv l lba epoch slot s w hl h1 h2 hs2 hr (Or.inr ⟨h3, h4⟩)
        · exact pproves_yes lv l lba epoch slot s w hl h1 h2 hs2 hr h3 h4
end Go.Proofs.Ytelmcoedmkhkjaa
