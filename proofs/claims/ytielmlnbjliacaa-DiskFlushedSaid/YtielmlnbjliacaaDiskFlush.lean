/- The program's disk: flush and crash. -/
import Derived.Test.YtielmlnbjliacaaDiskDo
import Derived.Test.YtielmlnbjliacaaMapBool
namespace Ks
open Go Go.RowKit
set_option linter.unusedVariables false
theorem RdI.nth {w : World} {a : Option Addr} {n cap : Nat} {l : List Int} (h : RdI w (.slice a n cap) l) (i : Nat) (hi : i < l.length) : ∃ b off, a = some ⟨b, off, none⟩ ∧ b < w.heap.size ∧ w.cell? ⟨b, off + i, none⟩ = some (.int .i64 l[i]) ∧ -9223372036854775808 ≤ l[i] ∧ l[i] ≤ 9223372036854775807 := by
  obtain ⟨b, o, h1, h2, h3⟩ := h.cell i hi
  exact ⟨b, o, h1, h2, h3, h.range i hi⟩
end Ks
namespace Go.Proofs.Ytielmlnbjliacaa
open Go.RowKit Ks
set_option linter.unusedVariables false
variable {n : Nat} {vb vc : Value} {s : DS}

theorem flush1_any (k : Int) (w : World) : Calls Try.prog 43 #[.int .i64 k] w fun e w' => e = .returned (.bool true) ∧ Below w.heap.size w w' := by
  go_enter Try.func43, Try.ntmps43
  go_wp2
  go_ret
  exact ⟨rfl, Below.refl _ _⟩

set_option maxHeartbeats 1000000 in
theorem dflush_any (w : World) (h : DkAt w n vb vc s) : Calls Try.prog 14 #[.pointer (some ⟨n, 0, none⟩)] w fun e w' => ∃ vc', e = .returned (.int .i64 (flushE s)) ∧ DkAt w' n vb vc' (flushD s) ∧ Turn w w' (DF n vb vc) (DF n vb vc') := by
  refine calls_by fun R HR => ?_
  have HM := Lib.hid (dmay_any w h)
  have HH := Lib.hid h
  cases hd : s.down
  · have HM2 := Lib.hid (show mayN s = 0 by rw [mayN, hd]; rfl)
    have HS := Lib.hid (dstep_any w h hd)
    cases hs : (stepD s).down
    · have HV := Lib.hid (show flushE s = 0 ∧ flushD s = { stepD s with blocks := s.cache.foldl putC s.blocks, cache := [] } by simp [flushE, flushD, hd, hs])
      rw [hs] at HS
      clear h hd hs
      go_enter Try.func14, Try.ntmps14
      go_wp2_with fail
      refine HM.out.mono ?_
      rintro e w1 ⟨rfl, rfl⟩
      rw [HM2.out]
      go_wp2_with fail
      refine HS.out.mono ?_
      rintro e w2 ⟨rfl, hd2, ht2⟩
      have HD := Lib.hid (And.intro hd2 ht2)
      clear hd2 ht2
      go_wp2_with fail
      refine (ddo_any 43 #[] (fun _ _ => rfl) (fun _ => true) _ HD.out.1 (fun k wx _ _ => flush1_any k wx)).mono ?_
      rintro e w3 ⟨rfl, hd3, ht3⟩
      have HD3 := Lib.hid (And.intro hd3 ht3)
      clear hd3 ht3
      go_wp2
      refine HR.out _ _ ⟨.slice none 0 0, by rw [HV.out.1]; rfl, ?_, HD.out.2.trans HD3.out.2⟩
      have := HD3.out.1
      rw [putF_all, stepD_cache, stepD_blocks] at this
      rw [HV.out.2]; exact this
    · have HV := Lib.hid (show flushE s = 14 ∧ flushD s = stepD s by simp [flushE, flushD, hd, hs])
      rw [hs] at HS
      clear h hd hs
      go_enter Try.func14, Try.ntmps14
      go_wp2_with fail
      refine HM.out.mono ?_
      rintro e w1 ⟨rfl, rfl⟩
      rw [HM2.out]
      go_wp2_with fail
      refine HS.out.mono ?_
      rintro e w2 ⟨rfl, hd2, ht2⟩
      have HD := Lib.hid (And.intro hd2 ht2)
      clear hd2 ht2
      go_wp2
      exact HR.out _ _ ⟨vc, by rw [HV.out.1]; rfl, by rw [HV.out.2]; exact HD.out.1, HD.out.2⟩
  · have HM2 := Lib.hid (show mayN s = 14 by rw [mayN, hd]; rfl)
    have HV := Lib.hid (show flushE s = 14 ∧ flushD s = s by simp [flushE, flushD, hd])
    clear h hd
    go_enter Try.func14, Try.ntmps14
    go_wp2_with fail
    refine HM.out.mono ?_
    rintro e w1 ⟨rfl, rfl⟩
    rw [HM2.out]
    go_wp2
    exact HR.out _ _ ⟨vc, by rw [HV.out.1]; rfl, by rw [HV.out.2]; exact HH.out, Turn.refl _ _⟩

theorem zeroBool (w : World) : (zeroValue 4).run Try.prog w = .ok (.bool false) w := by kernel_rfl
theorem intKey : Go.Maps.Keyed Try.prog 3 := Go.Maps.int_keyed Try.underlying3
theorem crash1_any (k : Int) (keep : List Int) (m b c : Nat) (w : World) (hk : -9223372036854775808 ≤ k ∧ k ≤ 9223372036854775807) (hm : w.cell? ⟨m, 0, none⟩ = some (.map (some b))) (hb : w.ownsMap Try.prog 3 (plainElem Try.prog 4) b c (keepM keep)) :
    Calls Try.prog 47 #[.int .i64 k, .pointer (some ⟨m, 0, none⟩)] w fun e w' => e = .returned (.bool (decide (k ∈ keep))) ∧ Below w.heap.size w w' := by
  refine calls_by fun R HR => ?_
  have HB := Lib.hid hb
  have hwf : (Lit.int .i64 k).wf = true := by simp [Lit.wf, IntKind.min, IntKind.max, IntKind.signed, IntKind.bits]; omega
  have HKL := Lib.hid (Go.Maps.keyOf_int_mk (P := Try.prog) Try.underlying3 hwf)
  clear hb hwf
  go_enter Try.func47, Try.ntmps47
  go_wp2_with (at_lookup; refine wpList_lookup_own_bool _ rfl _ _ 76 rfl 3 4 intKey Try.underlying76 Try.underlying4 (zeroBool _) b c _ rfl HB.out _ _ rfl HKL.out _ (keepM_at keep k) ?_)
  exact HR.out _ _ ⟨rfl, Below.refl _ _⟩

set_option maxHeartbeats 2000000 in
theorem dcrash_any (kv : Value) (keep : List Int) (w : World) (h : DkAt w n vb vc s) (hkv : RdI w kv keep) (hkl : keep.length ≤ 9223372036854775807) : Calls Try.prog 18 #[.pointer (some ⟨n, 0, none⟩), kv] w fun e w' => ∃ vc', e = .returned (.int .i64 0) ∧ DkAt w' n vb vc' (crashD s keep) ∧ Turn w w' (DF n vb vc) (DF n vb vc') := by
  refine calls_by fun R HR => ?_
  obtain ⟨a, cap, hv, _⟩ := id hkv
  subst hv
  have HT := Lib.hid (dthere_yes n w h.cells.2.2.1)
  have HH := Lib.hid (And.intro h hkv)
  have hmm := @run_makeMap Try.prog
  rename_i hcapP
  clear h hkv hcapP
  go_enter Try.func18, Try.ntmps18
  go_wp2_with fail
  refine HT.out.mono ?_
  rintro e w1 ⟨rfl, rfl⟩
  go_wp2_with fail
  have hb0 : Below w1.heap.size w1 ((w1.alloc (.map #[] 0)).alloc (.cells #[.map (some w1.heap.size)] 76)) := (alloc_below w1 _).alloc (by simp) _
  have hm0 : ((w1.alloc (.map #[] 0)).alloc (.cells #[.map (some w1.heap.size)] 76)).ownsMap Try.prog 3 (plainElem Try.prog 4) w1.heap.size 0 (keepM []) := (World.ownsMap_made w1 Try.prog 3 _).alloc _
  have hc0 : ((w1.alloc (.map #[] 0)).alloc (.cells #[.map (some w1.heap.size)] 76)).heap[w1.heap.size + 1]? = some (.cells #[.map (some w1.heap.size)] 76 (0, 0)) := alloc_new2 _ _ _
  have HF := Lib.hid (And.intro hb0 (And.intro hm0 hc0))
  clear hb0 hm0 hc0 hmm
  generalize (w1.alloc (.map #[] 0)).alloc (.cells #[.map (some w1.heap.size)] 76) = W at *
  go_loopw [14] (fun i wx => ∃ k : Nat, k ≤ keep.length ∧ i = .int .i64 k ∧ Hid (Below w1.heap.size w1 wx ∧ wx.ownsMap Try.prog 3 (plainElem Try.prog 4) w1.heap.size k (keepM (keep.take k)) ∧ wx.heap[w1.heap.size + 1]? = some (.cells #[.map (some w1.heap.size)] 76 (0, 0)))) (fun i _ => keep.length - (intOf i).toNat)
  case atStart => exact ⟨0, by omega, rfl, HF⟩
  case round =>
    clear HF
    obtain ⟨k, hk, rfl, hN⟩ := hrel
    by_cases hlt : k < keep.length
    · have hrd : RdI wr (.slice a keep.length cap) keep := HH.out.2.below hN.out.1
      obtain ⟨b1, o1, rfl, hb1, d0, x1, x2⟩ := hrd.nth k hlt
      have HS := Lib.hid (show keepM (keep.take (k + 1)) = (keepM (keep.take k)).put (.int .i64 keep[k]) (.lit (.bool true)) by rw [List.take_succ_eq_append_getElem hlt, keepM_snoc])
      obtain ⟨x, hx⟩ : ∃ x, keep[k] = x := ⟨_, rfl⟩
      rw [hx] at d0 x1 x2 HS
      have hwf : (Lit.int .i64 x).wf = true := by simp [Lit.wf, IntKind.min, IntKind.max, IntKind.signed, IntKind.bits]; omega
      have HKL := Lib.hid (Go.Maps.keyOf_int_mk (P := Try.prog) Try.underlying3 hwf)
      have d1 : wr.cell? ⟨w1.heap.size + 1, 0, none⟩ = some (.map (some w1.heap.size)) := by rw [cell_of_row wr _ 0 _ _ _ hN.out.2.2]; rfl
      clear hrd hx hwf x1 x2
      go_wp2_with (at_mapUpdate; refine wpList_mapUpdate_own _ rfl _ _ _ 76 rfl 3 4 intKey Try.underlying76 _ w1.heap.size k _ rfl hN.out.2.1 (by unfold maxLen; omega) _ _ _ rfl rfl HKL.out _ [] (plainElem_bool Try.underlying4 true) ?_)
      intro w3 hown hgr
      have HM := Lib.hid (And.intro (hN.out.1.grown hgr hN.out.1.size (fun b e => by cases e; exact Nat.le_refl _)) (And.intro (show w3.ownsMap Try.prog 3 (plainElem Try.prog 4) w1.heap.size (k + 1) (keepM (keep.take (k + 1))) by rw [HS.out]; exact hown) ((hgr.block _ (lt_of_block hN.out.2.2) (by simp)).trans hN.out.2.2)))
      clear hown hgr hN d0 d1
      go_wp2_with fail
      go_roundw
      case rel => exact ⟨k + 1, by omega, by go_num, HM⟩
      case measure => simp [intOf]; omega
    · obtain rfl : k = keep.length := by omega
      have HK := Lib.hid (show keepM (keep.take keep.length) = keepM keep by rw [List.take_length])
      have HD := Lib.hid (HH.out.1.below hN.out.1)
      clear hlt hk
      go_wp2_with fail
      refine (ddo_any 47 #[.pointer (some ⟨w1.heap.size + 1, 0, none⟩)] (fun _ _ => rfl) (fun k => decide ((k : Int) ∈ keep)) _ HD.out (fun k wx hk hT => ?_)).mono ?_
      · have hlim := HD.out.ok.cache
        have hl1 := HH.out.1.lt
        have hblk := (hT.block (w1.heap.size + 1) (lt_of_block hN.out.2.2) (fun e => by have := hl1 _ e; omega)).trans hN.out.2.2
        refine crash1_any k keep (w1.heap.size + 1) w1.heap.size keep.length wx (by omega) (by rw [cell_of_row wx _ 0 _ _ _ hblk]; rfl) ?_
        have hmp := hN.out.2.1
        rw [HK.out] at hmp
        have hlm := hmp.lt
        obtain ⟨es, clock, q1, q2, q3, q4⟩ := hmp
        exact ⟨es, clock, (hT.block _ hlm (fun e => by have := hl1 _ e; omega)).trans q1, q2, q3, q4⟩
      rintro e w3 ⟨rfl, hd3, ht3⟩
      have HD3 := Lib.hid (And.intro hd3 ht3)
      clear hd3 ht3
      have c3 := HD3.out.1.cells.2.2.2.1
      have c4 := HD3.out.1.cells.2.2.2.2
      have f3 := HD3.out.1.froz 3
      have f4 := HD3.out.1.froz 4
      go_wp2
      obtain ⟨q1, q2⟩ := HD3.out.1.head ((Turn.cell1 w3 n 3 (.bool true)).trans (Turn.cell1 _ n 4 (.int .i64 0))) (crashD s keep) (set_blk (set_blk HD3.out.1.blk 3 (.bool true)) 4 (.int .i64 0)) (by rw [putF_kept]; rfl) rfl (crashD_ok HH.out.1.ok keep)
      exact HR.out _ _ ⟨_, rfl, q1, ((Turn.of_below _ hN.out.1).trans HD3.out.2).trans q2⟩
end Go.Proofs.Ytielmlnbjliacaa
