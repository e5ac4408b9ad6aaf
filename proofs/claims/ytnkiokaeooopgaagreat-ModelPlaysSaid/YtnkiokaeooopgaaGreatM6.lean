/- Texts that the claim rests on, part 6: RRight, RMay, AppAt, BookActs, BookHeld. -/
import Derived.Deep.DeepCutAuto
import Derived.BigQuiet
import Derived.Test.YtnkiokaeooopgaaGreatShelf
import Derived.Sort.OwnSorted
import Derived.Test.YtnkiokaeooopgaaGreatM5
/- The document's records: which name, and which record, may be. -/
set_option maxRecDepth 100000
namespace Ks
open Go Go.RowKit
set_option linter.unusedVariables false
set_option linter.unusedSimpArgs false
theorem chk_k (k ep tm ct tg un : Int) (rt nm : ByteArray) (hk : k = 1 ∨ k = 2 ∨ k = 3 ∨ k = 4 ∨ k = 5) (b : Bool) (h : (restB ⟨k, ep, tm, ct, tg, un, rt, nm⟩ = true ∧ restX ⟨k, ep, tm, ct, tg, un, rt, nm⟩ = noRec ∧ (0 ≤ ep ∧ ep ≤ 4294967295) ∧ (0 ≤ tm ∧ tm ≤ 1099511627776)) ↔ b = true) : chkB ⟨k, ep, tm, ct, tg, un, rt, nm⟩ = b := by
  have e : chkB ⟨k, ep, tm, ct, tg, un, rt, nm⟩ = true ↔ (restB ⟨k, ep, tm, ct, tg, un, rt, nm⟩ = true ∧ restX ⟨k, ep, tm, ct, tg, un, rt, nm⟩ = noRec ∧ (0 ≤ ep ∧ ep ≤ 4294967295) ∧ (0 ≤ tm ∧ tm ≤ 1099511627776)) := by
    unfold chkB withB
    simp only [Bool.and_eq_true, decide_eq_true_eq, and_assoc]
  cases hb : chkB ⟨k, ep, tm, ct, tg, un, rt, nm⟩ with
  | true => exact (h.1 (e.1 hb)).symm
  | false =>
    cases b with
    | false => rfl
    | true => rw [e.2 (h.2 rfl)] at hb; cases hb
theorem wr_low (ep tg : Int) (h : 0 ≤ ep ∧ ep ≤ 4294967295) : (0 ≤ tg ∧ tg ≤ wrap64 (ep - 1)) ↔ (0 ≤ tg ∧ tg < ep) := by unfold wrap64; omega
theorem chk_1 (ep tm ct tg un : Int) (rt nm : ByteArray) : chkB ⟨1, ep, tm, ct, tg, un, rt, nm⟩ = decide ((0 ≤ ep ∧ ep ≤ 4294967295) ∧ (0 ≤ tm ∧ tm ≤ 1099511627776) ∧ 0 ≤ ct ∧ ct ≤ 4096 ∧ rt.size = 32 ∧ tg = 0 ∧ un = 0 ∧ nm = ⟨#[]⟩) := by
  refine chk_k 1 ep tm ct tg un rt nm (by omega) _ ?_
  rw [decide_eq_true_eq]
  simp only [restB, restX, noRec, withB, if_true, Bool.and_eq_true, decide_eq_true_eq, RecT.mk.injEq, true_and]
  constructor
  · rintro ⟨⟨⟨a1, a2⟩, a3⟩, ⟨a4, a5, a6⟩, a7, a8⟩; exact ⟨a7, a8, a1, a2, a3, a4, a5, a6⟩
  · rintro ⟨a7, a8, a1, a2, a3, a4, a5, a6⟩; exact ⟨⟨⟨a1, a2⟩, a3⟩, ⟨a4, a5, a6⟩, a7, a8⟩
theorem chk_25 (k ep tm ct tg un : Int) (rt nm : ByteArray) (hk : k = 2 ∨ k = 5) : chkB ⟨k, ep, tm, ct, tg, un, rt, nm⟩ = decide ((0 ≤ ep ∧ ep ≤ 4294967295) ∧ (0 ≤ tm ∧ tm ≤ 1099511627776) ∧ (0 ≤ tg ∧ tg < ep) ∧ (0 ≤ un ∧ un ≤ 1099511627776) ∧ ct = 0 ∧ rt = ⟨#[]⟩ ∧ nm = ⟨#[]⟩) := by
  refine chk_k k ep tm ct tg un rt nm (by omega) _ ?_
  rw [decide_eq_true_eq]
  have h1 : ¬ k = 1 := by omega
  simp only [restB, restX, noRec, withB, h1, hk, if_true, if_false, Bool.and_eq_true, decide_eq_true_eq, RecT.mk.injEq, true_and]
  constructor
  · rintro ⟨⟨a1, a2⟩, ⟨a4, a5, a6⟩, a7, a8⟩; exact ⟨a7, a8, (wr_low ep tg a7).1 a2, a1, a4, a5, a6⟩
  · rintro ⟨a7, a8, a2, a1, a4, a5, a6⟩; exact ⟨⟨a1, (wr_low ep tg a7).2 a2⟩, ⟨a4, a5, a6⟩, a7, a8⟩
theorem chk_3 (ep tm ct tg un : Int) (rt nm : ByteArray) : chkB ⟨3, ep, tm, ct, tg, un, rt, nm⟩ = decide ((0 ≤ ep ∧ ep ≤ 4294967295) ∧ (0 ≤ tm ∧ tm ≤ 1099511627776) ∧ (0 ≤ tg ∧ tg < ep) ∧ nameB nm = true ∧ un = 0 ∧ ct = 0 ∧ rt = ⟨#[]⟩) := by
  refine chk_k 3 ep tm ct tg un rt nm (by omega) _ ?_
  rw [decide_eq_true_eq]
  simp only [restB, restX, noRec, withB, if_true, if_false, show ¬ (3 : Int) = 1 by decide, show ¬ ((3 : Int) = 2 ∨ (3 : Int) = 5) by decide, Bool.and_eq_true, decide_eq_true_eq, RecT.mk.injEq, true_and, and_true]
  constructor
  · rintro ⟨⟨a2, a1⟩, ⟨a4, a5, a6⟩, a7, a8⟩; exact ⟨a7, a8, (wr_low ep tg a7).1 a2, a1, a5, a4, a6⟩
  · rintro ⟨a7, a8, a2, a1, a5, a4, a6⟩; exact ⟨⟨(wr_low ep tg a7).2 a2, a1⟩, ⟨a4, a5, a6⟩, a7, a8⟩
theorem chk_4 (ep tm ct tg un : Int) (rt nm : ByteArray) : chkB ⟨4, ep, tm, ct, tg, un, rt, nm⟩ = decide ((0 ≤ ep ∧ ep ≤ 4294967295) ∧ (0 ≤ tm ∧ tm ≤ 1099511627776) ∧ nameB nm = true ∧ tg = 0 ∧ un = 0 ∧ ct = 0 ∧ rt = ⟨#[]⟩) := by
  refine chk_k 4 ep tm ct tg un rt nm (by omega) _ ?_
  rw [decide_eq_true_eq]
  simp only [restB, restX, noRec, withB, if_true, if_false, show ¬ (4 : Int) = 1 by decide, show ¬ ((4 : Int) = 2 ∨ (4 : Int) = 5) by decide, show ¬ (4 : Int) = 3 by decide, decide_eq_true_eq, RecT.mk.injEq, true_and, and_true]
  constructor
  · rintro ⟨a1, ⟨a4, a5, a6, a9⟩, a7, a8⟩; exact ⟨a7, a8, a1, a5, a6, a4, a9⟩
  · rintro ⟨a7, a8, a1, a5, a6, a4, a9⟩; exact ⟨a1, ⟨a4, a5, a6, a9⟩, a7, a8⟩
theorem chk_0 (k ep tm ct tg un : Int) (rt nm : ByteArray) (h1 : k ≠ 1) (h2 : k ≠ 2) (h3 : k ≠ 3) (h4 : k ≠ 4) (h5 : k ≠ 5) : chkB ⟨k, ep, tm, ct, tg, un, rt, nm⟩ = false := by
  unfold chkB restB
  simp [h1, h2, h3, h4, h5]
theorem chk_base (k ep tm ct tg un : Int) (rt nm : ByteArray) (h : ¬ ((0 ≤ ep ∧ ep ≤ 4294967295) ∧ (0 ≤ tm ∧ tm ≤ 1099511627776))) : chkB ⟨k, ep, tm, ct, tg, un, rt, nm⟩ = false := by
  cases hb : chkB ⟨k, ep, tm, ct, tg, un, rt, nm⟩ with
  | false => rfl
  | true => exact absurd ⟨chk_epoch hb, chk_time hb⟩ h
theorem emp_no {s : ByteArray} (h : s ≠ ⟨#[]⟩) : s.toList.isEmpty = false := by
  rw [ByteArray.toList_eq]
  obtain ⟨⟨l⟩⟩ := s
  cases l with
  | nil => exact absurd rfl h
  | cons a l => rfl
end Ks
namespace Go.Proofs.YtnkiokaeooopgaaGreat
open Go.RowKit Ks
set_option linter.unusedVariables false
set_option linter.unusedSimpArgs false
set_option maxRecDepth 100000 in
set_option maxHeartbeats 4000000 in
theorem rname_any (s : ByteArray) (w : World) : Calls Tryz.prog 58 #[.string s] w fun e w' => e = .returned (.bool (nameB s)) ∧ w' = w := by
  refine calls_by fun R HR => ?_
  by_cases h1 : (s.size : Int) < 1
  · have HZ := Lib.hid (show nameB s = false by
      have h0 : s = ⟨#[]⟩ := by obtain ⟨⟨l⟩⟩ := s; cases l with
        | nil => rfl
        | cons a l => exfalso; have : (1 : Nat) ≤ (a :: l).length := by simp
                      have h2 : ((⟨(a :: l).toArray⟩ : ByteArray).size : Int) < 1 := h1
                      have h3 : (⟨(a :: l).toArray⟩ : ByteArray).size = (a :: l).length := rfl
                      omega
      rw [h0]; rfl)
    have h1d : decide ((s.size : Int) < 1) = true := decide_eq_true h1
    go_enter Tryz.func58, Tryz.ntmps58
    go_wp2
    exact HR.out _ _ ⟨by rw [HZ.out]; try rfl, rfl⟩
  have h1d : decide ((s.size : Int) < 1) = false := decide_eq_false h1
  by_cases h2 : (16 : Int) < (s.size : Int)
  · have HZ := Lib.hid (show nameB s = false by rw [nameB, decide_eq_false (show ¬ s.size ≤ 16 by omega)]; simp)
    have h2d : decide ((16 : Int) < (s.size : Int)) = true := decide_eq_true h2
    go_enter Tryz.func58, Tryz.ntmps58
    go_wp2
    exact HR.out _ _ ⟨by rw [HZ.out]; try rfl, rfl⟩
  have h2d : decide ((16 : Int) < (s.size : Int)) = false := decide_eq_false h2
  have HNB := Lib.hid (show s.data.toList.all okB = true → nameB s = true from fun q => by rw [nameB, q, decide_eq_true (show s.size ≤ 16 by omega), decide_eq_true (show s ≠ ⟨#[]⟩ from fun e => h1 (by rw [e]; decide))]; rfl)
  have HSZ := Lib.hid (show s.size ≤ 16 by omega)
  go_enter Tryz.func58, Tryz.ntmps58
  go_wp2_with fail
  go_loopw [3] (fun i wx => ∃ (k : Nat), k ≤ s.size ∧ i = .int .i64 k ∧ wx = w ∧ Hid ((s.data.toList.take k).all okB = true)) (fun i _ => s.size - (intOf i).toNat)
  case atStart => exact ⟨0, Nat.zero_le _, rfl, rfl, Lib.hid rfl⟩
  case round =>
    obtain ⟨k, hk, rfl, hwr, hN⟩ := hrel
    subst hwr
    by_cases hlt : k < s.size
    case neg =>
      obtain rfl : k = s.size := by omega
      have HZ := Lib.hid (HNB.out (by have h := hN.out; rwa [List.take_of_length_le (by rw [data_length]; exact Nat.le_refl _)] at h))
      have hki : ¬ (s.size : Int) < (s.size : Int) := by omega
      go_wp2
      exact HR.out _ _ ⟨by rw [HZ.out]; try rfl, rfl⟩
    have hki : (k : Int) < (s.size : Int) := by omega
    have HA := Lib.hid (all_take k hlt okB)
    have HS := Lib.hid (fun h => all_stop k hlt okB h)
    have HK : Hid (∀ b : UInt8, okB b = decide ((97 ≤ b.toNat ∧ b.toNat ≤ 122) ∨ (48 ≤ b.toNat ∧ b.toNat ≤ 57))) := Lib.hid fun _ => rfl
    have hw64 : wrap64 ((k : Int) + 1) = ((k + 1 : Nat) : Int) := by have := HSZ.out; unfold wrap64; omega
    have hcase : ((97 : Int) ≤ ((s[k]).toNat : Int) ∨ ¬ (97 : Int) ≤ ((s[k]).toNat : Int)) ∧ (((s[k]).toNat : Int) ≤ 122 ∨ ¬ ((s[k]).toNat : Int) ≤ 122) ∧ ((48 : Int) ≤ ((s[k]).toNat : Int) ∨ ¬ (48 : Int) ≤ ((s[k]).toNat : Int)) ∧ (((s[k]).toNat : Int) ≤ 57 ∨ ¬ ((s[k]).toNat : Int) ≤ 57) := ⟨by omega, by omega, by omega, by omega⟩
    obtain ⟨k1 | k1, k2 | k2, k3 | k3, k4 | k4⟩ := hcase
    all_goals
      by_cases hok : okB s[k] = true
      all_goals first
        | (exfalso; rw [HK.out, decide_eq_true_eq] at hok; omega)
        | (have HQ := Lib.hid (show (s.data.toList.take (k + 1)).all okB = true by rw [HA.out, hN.out, hok]; rfl)
           clear hok
           go_wp2
           go_roundw
           case rel => exact ⟨k + 1, by omega, by first | rw [hw64] | go_num, by trivial, HQ⟩
           case measure => first | (rw [hw64]; simp [intOf]; omega) | (simp [intOf]; omega))
        | (have HZ := Lib.hid (show nameB s = false by rw [nameB, HS.out (by simpa using hok)]; rfl)
           clear hok
           go_wp2
           exact HR.out _ _ ⟨by rw [HZ.out]; try rfl, rfl⟩)
set_option maxRecDepth 100000 in
set_option maxHeartbeats 8000000 in
theorem rright_any (kd ep tm ct tg un : Int) (rt nm : ByteArray) (w : World) : Calls Tryz.prog 80 #[.agg #[.int .i64 kd, .int .i64 ep, .int .i64 tm, .int .i64 ct, .int .i64 tg, .int .i64 un, .string rt, .string nm]] w fun e w' => e = .returned (.bool (chkB ⟨kd, ep, tm, ct, tg, un, rt, nm⟩)) ∧ Below w.heap.size w w' := by
  refine calls_by fun R HR => ?_
  have H1 := Lib.hid (Below.refl w.heap.size w)
  obtain ⟨W1, hW1⟩ : ∃ W1, w.alloc (.cells #[.int .i64 kd, .int .i64 ep, .int .i64 tm, .int .i64 ct, .int .i64 tg, .int .i64 un, .string rt, .string nm] 72) = W1 := ⟨_, rfl⟩
  have hbW1 : Below w.heap.size w W1 := by rw [← hW1]; exact alloc_below w _
  have kW1 : W1.heap[w.heap.size]? = some (.cells #[.int .i64 kd, .int .i64 ep, .int .i64 tm, .int .i64 ct, .int .i64 tg, .int .i64 un, .string rt, .string nm] 72 (0, 0)) := by rw [← hW1]; exact alloc_new w _
  have H2 := Lib.hid (And.intro (H1.out.trans (hbW1.mono H1.out.size)) (kW1))
  clear hbW1 kW1
  obtain ⟨⟨x0, x1, x2, x3, x4, x5, x6, x7⟩, -⟩ := blkR H2.out.2
  have HBW := Lib.hid H2.out.1
  clear H1 H2
  by_cases c1 : ep < 0
  case pos =>
    have dc1 : decide ((ep : Int) < 0) = true := decide_eq_true c1
    have HZ := Lib.hid (chk_base kd ep tm ct tg un rt nm (by omega))
    go_enter Tryz.func80, Tryz.ntmps80
    go_wp2
    exact HR.out _ _ ⟨by rw [HZ.out] <;> first | rfl | simp_all, HBW.out⟩
  have dc1 : decide ((ep : Int) < 0) = false := decide_eq_false c1
  by_cases c2 : 4294967295 < ep
  case pos =>
    have dc2 : decide ((4294967295 : Int) < ep) = true := decide_eq_true c2
    have HZ := Lib.hid (chk_base kd ep tm ct tg un rt nm (by omega))
    go_enter Tryz.func80, Tryz.ntmps80
    go_wp2
    exact HR.out _ _ ⟨by rw [HZ.out] <;> first | rfl | simp_all, HBW.out⟩
  have dc2 : decide ((4294967295 : Int) < ep) = false := decide_eq_false c2
  by_cases c3 : tm < 0
  case pos =>
    have dc3 : decide ((tm : Int) < 0) = true := decide_eq_true c3
    have HZ := Lib.hid (chk_base kd ep tm ct tg un rt nm (by omega))
    go_enter Tryz.func80, Tryz.ntmps80
    go_wp2
    exact HR.out _ _ ⟨by rw [HZ.out] <;> first | rfl | simp_all, HBW.out⟩
  have dc3 : decide ((tm : Int) < 0) = false := decide_eq_false c3
  by_cases c4 : 1099511627776 < tm
  case pos =>
    have dc4 : decide ((1099511627776 : Int) < tm) = true := decide_eq_true c4
    have HZ := Lib.hid (chk_base kd ep tm ct tg un rt nm (by omega))
    go_enter Tryz.func80, Tryz.ntmps80
    go_wp2
    exact HR.out _ _ ⟨by rw [HZ.out] <;> first | rfl | simp_all, HBW.out⟩
  have dc4 : decide ((1099511627776 : Int) < tm) = false := decide_eq_false c4
  have hbase : (0 ≤ ep ∧ ep ≤ 4294967295) ∧ (0 ≤ tm ∧ tm ≤ 1099511627776) := by omega
  have HBase := Lib.hid hbase
  clear hbase
  go_enter Tryz.func80, Tryz.ntmps80
  go_upto_region 3 with fail
  go_cut [3] (fun s wx => s = .bool (decide (0 ≤ tg ∧ tg < ep)) ∧ wx = W1)
  case first =>
    by_cases c31 : 0 ≤ tg
    · have e1 : (decide (0 ≤ tg ∧ tg < ep)) = decide (tg < ep) := by simp [c31]
      have d31 : decide ((0 : Int) ≤ tg) = true := decide_eq_true c31
      have E1 := Lib.hid e1
      clear e1
      go_wp2
      go_meet
      case rel => exact ⟨by rw [E1.out], rfl⟩
    · have e1 : (decide (0 ≤ tg ∧ tg < ep)) = false := decide_eq_false (fun q => c31 q.1)
      have d31 : decide ((0 : Int) ≤ tg) = false := decide_eq_false c31
      have E1 := Lib.hid e1
      clear e1
      go_wp2
      go_meet
      case rel => exact ⟨by rw [E1.out], rfl⟩
  case rest =>
    obtain ⟨rfl, hw9⟩ := hcut
    subst hw9
    obtain ⟨b3, hb3⟩ : ∃ b3, decide (0 ≤ tg ∧ tg < ep) = b3 := ⟨_, rfl⟩
    have HB3 := Lib.hid hb3
    rw [hb3]
    clear hb3
    go_upto_region 4 with fail
    go_cut [4] (fun s wx => s = .bool (decide (0 ≤ un ∧ un ≤ 1099511627776)) ∧ wx = wc)
    case first =>
      by_cases c31 : 0 ≤ un
      · have e1 : (decide (0 ≤ un ∧ un ≤ 1099511627776)) = decide (un ≤ 1099511627776) := by simp [c31]
        have d31 : decide ((0 : Int) ≤ un) = true := decide_eq_true c31
        have E1 := Lib.hid e1
        clear e1
        go_wp2
        go_meet
        case rel => exact ⟨by rw [E1.out], rfl⟩
      · have e1 : (decide (0 ≤ un ∧ un ≤ 1099511627776)) = false := decide_eq_false (fun q => c31 q.1)
        have d31 : decide ((0 : Int) ≤ un) = false := decide_eq_false c31
        have E1 := Lib.hid e1
        clear e1
        go_wp2
        go_meet
        case rel => exact ⟨by rw [E1.out], rfl⟩
    case rest =>
      obtain ⟨rfl, hw9⟩ := hcut
      subst hw9
      obtain ⟨b4, hb4⟩ : ∃ b4, decide (0 ≤ un ∧ un ≤ 1099511627776) = b4 := ⟨_, rfl⟩
      have HB4 := Lib.hid hb4
      rw [hb4]
      clear hb4
      by_cases k1 : kd = 1
      case pos =>
        subst k1
        by_cases c5 : 0 ≤ ct
        case neg =>
          have dc5 : decide ((0 : Int) ≤ ct) = false := decide_eq_false c5
          have Hc5 := Lib.hid c5
          clear c5
          have HZ := Lib.hid (show chkB ⟨1, ep, tm, ct, tg, un, rt, nm⟩ = false by rw [chk_1]; exact decide_eq_false (fun q => Hc5.out q.2.2.1))
          go_wp2
          exact HR.out _ _ ⟨by rw [HZ.out] <;> first | rfl | simp_all, HBW.out⟩
        have dc5 : decide ((0 : Int) ≤ ct) = true := decide_eq_true c5
        have Hc5 := Lib.hid c5
        clear c5
        by_cases c6 : ct ≤ 4096
        case neg =>
          have dc6 : decide ((ct : Int) ≤ 4096) = false := decide_eq_false c6
          have Hc6 := Lib.hid c6
          clear c6
          have HZ := Lib.hid (show chkB ⟨1, ep, tm, ct, tg, un, rt, nm⟩ = false by rw [chk_1]; exact decide_eq_false (fun q => Hc6.out q.2.2.2.1))
          go_wp2
          exact HR.out _ _ ⟨by rw [HZ.out] <;> first | rfl | simp_all, HBW.out⟩
        have dc6 : decide ((ct : Int) ≤ 4096) = true := decide_eq_true c6
        have Hc6 := Lib.hid c6
        clear c6
        by_cases c7 : rt.size = 32
        case neg =>
          have dc7 : ((rt.size : Int) == 32) = false := by simp only [beq_eq_false_iff_ne, ne_eq]; omega
          have Hc7 := Lib.hid c7
          clear c7
          have HZ := Lib.hid (show chkB ⟨1, ep, tm, ct, tg, un, rt, nm⟩ = false by rw [chk_1]; exact decide_eq_false (fun q => Hc7.out q.2.2.2.2.1))
          go_wp2
          exact HR.out _ _ ⟨by rw [HZ.out] <;> first | rfl | simp_all, HBW.out⟩
        have dc7 : ((rt.size : Int) == 32) = true := by rw [c7]; rfl
        have Hc7 := Lib.hid c7
        clear c7
        by_cases c8 : tg = 0
        case neg =>
          have dc8 : (tg == 0) = false := by simpa using c8
          have Hc8 := Lib.hid c8
          clear c8
          have HZ := Lib.hid (show chkB ⟨1, ep, tm, ct, tg, un, rt, nm⟩ = false by rw [chk_1]; exact decide_eq_false (fun q => Hc8.out q.2.2.2.2.2.1))
          go_wp2
          exact HR.out _ _ ⟨by rw [HZ.out] <;> first | rfl | simp_all, HBW.out⟩
        have dc8 : (tg == 0) = true := by simpa using c8
        have Hc8 := Lib.hid c8
        clear c8
        by_cases c9 : un = 0
        case neg =>
          have dc9 : (un == 0) = false := by simpa using c9
          have Hc9 := Lib.hid c9
          clear c9
          have HZ := Lib.hid (show chkB ⟨1, ep, tm, ct, tg, un, rt, nm⟩ = false by rw [chk_1]; exact decide_eq_false (fun q => Hc9.out q.2.2.2.2.2.2.1))
          go_wp2
          exact HR.out _ _ ⟨by rw [HZ.out] <;> first | rfl | simp_all, HBW.out⟩
        have dc9 : (un == 0) = true := by simpa using c9
        have Hc9 := Lib.hid c9
        clear c9
        by_cases c10 : nm = ⟨#[]⟩
        case neg =>
          have dc10 : nm.toList.isEmpty = false := emp_no c10
          have Hc10 := Lib.hid c10
          clear c10
          have HZ := Lib.hid (show chkB ⟨1, ep, tm, ct, tg, un, rt, nm⟩ = false by rw [chk_1]; exact decide_eq_false (fun q => Hc10.out q.2.2.2.2.2.2.2))
          go_wp2
          exact HR.out _ _ ⟨by rw [HZ.out] <;> first | rfl | simp_all, HBW.out⟩
        have dc10 : nm.toList.isEmpty = true := by rw [c10, ByteArray.toList_eq]; rfl
        have Hc10 := Lib.hid c10
        clear c10
        have HZ := Lib.hid (show chkB ⟨1, ep, tm, ct, tg, un, rt, nm⟩ = true by rw [chk_1]; exact decide_eq_true ⟨HBase.out.1, HBase.out.2, Hc5.out, Hc6.out, Hc7.out, Hc8.out, Hc9.out, Hc10.out⟩)
        go_wp2
        exact HR.out _ _ ⟨by rw [HZ.out] <;> first | rfl | simp_all, HBW.out⟩
      have k1b : (kd == 1) = false := by simpa using k1
      by_cases k2 : kd = 2
      case pos =>
        subst k2
        clear k1
        cases b3 with
        | false =>
          have HZ := Lib.hid (show chkB ⟨2, ep, tm, ct, tg, un, rt, nm⟩ = false by rw [chk_25 _ _ _ _ _ _ _ _ (by omega)]; exact decide_eq_false (fun q => by have h := HB3.out; rw [decide_eq_true q.2.2.1] at h; cases h))
          go_wp2
          exact HR.out _ _ ⟨by rw [HZ.out] <;> first | rfl | simp_all, HBW.out⟩
        | true =>
          cases b4 with
          | false =>
            have HZ := Lib.hid (show chkB ⟨2, ep, tm, ct, tg, un, rt, nm⟩ = false by rw [chk_25 _ _ _ _ _ _ _ _ (by omega)]; exact decide_eq_false (fun q => by have h := HB4.out; rw [decide_eq_true q.2.2.2.1] at h; cases h))
            go_wp2
            exact HR.out _ _ ⟨by rw [HZ.out] <;> first | rfl | simp_all, HBW.out⟩
          | true =>
            by_cases c11 : ct = 0
            case neg =>
              have dc11 : (ct == 0) = false := by simpa using c11
              have Hc11 := Lib.hid c11
              clear c11
              have HZ := Lib.hid (show chkB ⟨2, ep, tm, ct, tg, un, rt, nm⟩ = false by rw [chk_25 _ _ _ _ _ _ _ _ (by omega)]; exact decide_eq_false (fun q => Hc11.out q.2.2.2.2.1))
              go_wp2
              exact HR.out _ _ ⟨by rw [HZ.out] <;> first | rfl | simp_all, HBW.out⟩
            have dc11 : (ct == 0) = true := by simpa using c11
            have Hc11 := Lib.hid c11
            clear c11
            by_cases c12 : rt = ⟨#[]⟩
            case neg =>
              have dc12 : rt.toList.isEmpty = false := emp_no c12
              have Hc12 := Lib.hid c12
              clear c12
              have HZ := Lib.hid (show chkB ⟨2, ep, tm, ct, tg, un, rt, nm⟩ = false by rw [chk_25 _ _ _ _ _ _ _ _ (by omega)]; exact decide_eq_false (fun q => Hc12.out q.2.2.2.2.2.1))
              go_wp2
              exact HR.out _ _ ⟨by rw [HZ.out] <;> first | rfl | simp_all, HBW.out⟩
            have dc12 : rt.toList.isEmpty = true := by rw [c12, ByteArray.toList_eq]; rfl
            have Hc12 := Lib.hid c12
            clear c12
            by_cases c13 : nm = ⟨#[]⟩
            case neg =>
              have dc13 : nm.toList.isEmpty = false := emp_no c13
              have Hc13 := Lib.hid c13
              clear c13
              have HZ := Lib.hid (show chkB ⟨2, ep, tm, ct, tg, un, rt, nm⟩ = false by rw [chk_25 _ _ _ _ _ _ _ _ (by omega)]; exact decide_eq_false (fun q => Hc13.out q.2.2.2.2.2.2))
              go_wp2
              exact HR.out _ _ ⟨by rw [HZ.out] <;> first | rfl | simp_all, HBW.out⟩
            have dc13 : nm.toList.isEmpty = true := by rw [c13, ByteArray.toList_eq]; rfl
            have Hc13 := Lib.hid c13
            clear c13
            have HZ := Lib.hid (show chkB ⟨2, ep, tm, ct, tg, un, rt, nm⟩ = true by rw [chk_25 _ _ _ _ _ _ _ _ (by omega)]; exact decide_eq_true ⟨HBase.out.1, HBase.out.2, of_decide_eq_true HB3.out, of_decide_eq_true HB4.out, Hc11.out, Hc12.out, Hc13.out⟩)
            go_wp2
            exact HR.out _ _ ⟨by rw [HZ.out] <;> first | rfl | simp_all, HBW.out⟩
      have k2b : (kd == 2) = false := by simpa using k2
      by_cases k5 : kd = 5
      case pos =>
        subst k5
        clear k1 k2
        cases b3 with
        | false =>
          have HZ := Lib.hid (show chkB ⟨5, ep, tm, ct, tg, un, rt, nm⟩ = false by rw [chk_25 _ _ _ _ _ _ _ _ (by omega)]; exact decide_eq_false (fun q => by have h := HB3.out; rw [decide_eq_true q.2.2.1] at h; cases h))
          go_wp2
          exact HR.out _ _ ⟨by rw [HZ.out] <;> first | rfl | simp_all, HBW.out⟩
        | true =>
          cases b4 with
          | false =>
            have HZ := Lib.hid (show chkB ⟨5, ep, tm, ct, tg, un, rt, nm⟩ = false by rw [chk_25 _ _ _ _ _ _ _ _ (by omega)]; exact decide_eq_false (fun q => by have h := HB4.out; rw [decide_eq_true q.2.2.2.1] at h; cases h))
            go_wp2
            exact HR.out _ _ ⟨by rw [HZ.out] <;> first | rfl | simp_all, HBW.out⟩
          | true =>
            by_cases c14 : ct = 0
            case neg =>
              have dc14 : (ct == 0) = false := by simpa using c14
              have Hc14 := Lib.hid c14
              clear c14
              have HZ := Lib.hid (show chkB ⟨5, ep, tm, ct, tg, un, rt, nm⟩ = false by rw [chk_25 _ _ _ _ _ _ _ _ (by omega)]; exact decide_eq_false (fun q => Hc14.out q.2.2.2.2.1))
              go_wp2
              exact HR.out _ _ ⟨by rw [HZ.out] <;> first | rfl | simp_all, HBW.out⟩
            have dc14 : (ct == 0) = true := by simpa using c14
            have Hc14 := Lib.hid c14
            clear c14
            by_cases c15 : rt = ⟨#[]⟩
            case neg =>
              have dc15 : rt.toList.isEmpty = false := emp_no c15
              have Hc15 := Lib.hid c15
              clear c15
              have HZ := Lib.hid (show chkB ⟨5, ep, tm, ct, tg, un, rt, nm⟩ = false by rw [chk_25 _ _ _ _ _ _ _ _ (by omega)]; exact decide_eq_false (fun q => Hc15.out q.2.2.2.2.2.1))
              go_wp2
              exact HR.out _ _ ⟨by rw [HZ.out] <;> first | rfl | simp_all, HBW.out⟩
            have dc15 : rt.toList.isEmpty = true := by rw [c15, ByteArray.toList_eq]; rfl
            have Hc15 := Lib.hid c15
            clear c15
            by_cases c16 : nm = ⟨#[]⟩
            case neg =>
              have dc16 : nm.toList.isEmpty = false := emp_no c16
              have Hc16 := Lib.hid c16
              clear c16
              have HZ := Lib.hid (show chkB ⟨5, ep, tm, ct, tg, un, rt, nm⟩ = false by rw [chk_25 _ _ _ _ _ _ _ _ (by omega)]; exact decide_eq_false (fun q => Hc16.out q.2.2.2.2.2.2))
              go_wp2
              exact HR.out _ _ ⟨by rw [HZ.out] <;> first | rfl | simp_all, HBW.out⟩
            have dc16 : nm.toList.isEmpty = true := by rw [c16, ByteArray.toList_eq]; rfl
            have Hc16 := Lib.hid c16
            clear c16
            have HZ := Lib.hid (show chkB ⟨5, ep, tm, ct, tg, un, rt, nm⟩ = true by rw [chk_25 _ _ _ _ _ _ _ _ (by omega)]; exact decide_eq_true ⟨HBase.out.1, HBase.out.2, of_decide_eq_true HB3.out, of_decide_eq_true HB4.out, Hc14.out, Hc15.out, Hc16.out⟩)
            go_wp2
            exact HR.out _ _ ⟨by rw [HZ.out] <;> first | rfl | simp_all, HBW.out⟩
      have k5b : (kd == 5) = false := by simpa using k5
      by_cases k3 : kd = 3
      case pos =>
        subst k3
        clear k1 k2 k5
        cases b3 with
        | false =>
          have HZ := Lib.hid (show chkB ⟨3, ep, tm, ct, tg, un, rt, nm⟩ = false by rw [chk_3]; exact decide_eq_false (fun q => by have h := HB3.out; rw [decide_eq_true q.2.2.1] at h; cases h))
          go_wp2
          exact HR.out _ _ ⟨by rw [HZ.out] <;> first | rfl | simp_all, HBW.out⟩
        | true =>
          have HNa := Lib.hid (fun A => rname_any nm A)
          cases hnb : nameB nm with
          | false =>
            rw [hnb] at HNa
            have HNB := Lib.hid hnb
            clear hnb
            have HZ := Lib.hid (show chkB ⟨3, ep, tm, ct, tg, un, rt, nm⟩ = false by rw [chk_3]; exact decide_eq_false (fun q => by have h := q.2.2.2.1; rw [HNB.out] at h; cases h))
            go_wp2_with fail
            refine (HNa.out _).mono ?_
            rintro en y9 ⟨rfl, hw⟩
            rw [hw]
            clear hw y9
            go_wp2
            exact HR.out _ _ ⟨by rw [HZ.out] <;> first | rfl | simp_all, HBW.out⟩
          | true =>
            rw [hnb] at HNa
            have HNB := Lib.hid hnb
            clear hnb
            go_wp2_with fail
            refine (HNa.out _).mono ?_
            rintro en y9 ⟨rfl, hw⟩
            rw [hw]
            clear hw y9
            by_cases c17 : un = 0
            case neg =>
              have dc17 : (un == 0) = false := by simpa using c17
              have Hc17 := Lib.hid c17
              clear c17
              have HZ := Lib.hid (show chkB ⟨3, ep, tm, ct, tg, un, rt, nm⟩ = false by rw [chk_3]; exact decide_eq_false (fun q => Hc17.out q.2.2.2.2.1))
              go_wp2
              exact HR.out _ _ ⟨by rw [HZ.out] <;> first | rfl | simp_all, HBW.out⟩
            have dc17 : (un == 0) = true := by simpa using c17
            have Hc17 := Lib.hid c17
            clear c17
            by_cases c18 : ct = 0
            case neg =>
              have dc18 : (ct == 0) = false := by simpa using c18
              have Hc18 := Lib.hid c18
              clear c18
              have HZ := Lib.hid (show chkB ⟨3, ep, tm, ct, tg, un, rt, nm⟩ = false by rw [chk_3]; exact decide_eq_false (fun q => Hc18.out q.2.2.2.2.2.1))
              go_wp2
              exact HR.out _ _ ⟨by rw [HZ.out] <;> first | rfl | simp_all, HBW.out⟩
            have dc18 : (ct == 0) = true := by simpa using c18
            have Hc18 := Lib.hid c18
            clear c18
            by_cases c19 : rt = ⟨#[]⟩
            case neg =>
              have dc19 : rt.toList.isEmpty = false := emp_no c19
              have Hc19 := Lib.hid c19
              clear c19
              have HZ := Lib.hid (show chkB ⟨3, ep, tm, ct, tg, un, rt, nm⟩ = false by rw [chk_3]; exact decide_eq_false (fun q => Hc19.out q.2.2.2.2.2.2))
              go_wp2
              exact HR.out _ _ ⟨by rw [HZ.out] <;> first | rfl | simp_all, HBW.out⟩
            have dc19 : rt.toList.isEmpty = true := by rw [c19, ByteArray.toList_eq]; rfl
            have Hc19 := Lib.hid c19
            clear c19
            have HZ := Lib.hid (show chkB ⟨3, ep, tm, ct, tg, un, rt, nm⟩ = true by rw [chk_3]; exact decide_eq_true ⟨HBase.out.1, HBase.out.2, of_decide_eq_true HB3.out, HNB.out, Hc17.out, Hc18.out, Hc19.out⟩)
            go_wp2
            exact HR.out _ _ ⟨by rw [HZ.out] <;> first | rfl | simp_all, HBW.out⟩
      have k3b : (kd == 3) = false := by simpa using k3
      by_cases k4 : kd = 4
      case pos =>
        subst k4
        clear k1 k2 k5 k3
        have HNa := Lib.hid (fun A => rname_any nm A)
        cases hnb : nameB nm with
        | false =>
          rw [hnb] at HNa
          have HNB := Lib.hid hnb
          clear hnb
          have HZ := Lib.hid (show chkB ⟨4, ep, tm, ct, tg, un, rt, nm⟩ = false by rw [chk_4]; exact decide_eq_false (fun q => by have h := q.2.2.1; rw [HNB.out] at h; cases h))
          go_wp2_with fail
          refine (HNa.out _).mono ?_
          rintro en y9 ⟨rfl, hw⟩
          rw [hw]
          clear hw y9
          go_wp2
          exact HR.out _ _ ⟨by rw [HZ.out] <;> first | rfl | simp_all, HBW.out⟩
        | true =>
          rw [hnb] at HNa
          have HNB := Lib.hid hnb
          clear hnb
          go_wp2_with fail
          refine (HNa.out _).mono ?_
          rintro en y9 ⟨rfl, hw⟩
          rw [hw]
          clear hw y9
          by_cases c20 : tg = 0
          case neg =>
            have dc20 : (tg == 0) = false := by simpa using c20
            have Hc20 := Lib.hid c20
            clear c20
            have HZ := Lib.hid (show chkB ⟨4, ep, tm, ct, tg, un, rt, nm⟩ = false by rw [chk_4]; exact decide_eq_false (fun q => Hc20.out q.2.2.2.1))
            go_wp2
            exact HR.out _ _ ⟨by rw [HZ.out] <;> first | rfl | simp_all, HBW.out⟩
          have dc20 : (tg == 0) = true := by simpa using c20
          have Hc20 := Lib.hid c20
          clear c20
          by_cases c21 : un = 0
          case neg =>
            have dc21 : (un == 0) = false := by simpa using c21
            have Hc21 := Lib.hid c21
            clear c21
            have HZ := Lib.hid (show chkB ⟨4, ep, tm, ct, tg, un, rt, nm⟩ = false by rw [chk_4]; exact decide_eq_false (fun q => Hc21.out q.2.2.2.2.1))
            go_wp2
            exact HR.out _ _ ⟨by rw [HZ.out] <;> first | rfl | simp_all, HBW.out⟩
          have dc21 : (un == 0) = true := by simpa using c21
          have Hc21 := Lib.hid c21
          clear c21
          by_cases c22 : ct = 0
          case neg =>
            have dc22 : (ct == 0) = false := by simpa using c22
            have Hc22 := Lib.hid c22
            clear c22
            have HZ := Lib.hid (show chkB ⟨4, ep, tm, ct, tg, un, rt, nm⟩ = false by rw [chk_4]; exact decide_eq_false (fun q => Hc22.out q.2.2.2.2.2.1))
            go_wp2
            exact HR.out _ _ ⟨by rw [HZ.out] <;> first | rfl | simp_all, HBW.out⟩
          have dc22 : (ct == 0) = true := by simpa using c22
          have Hc22 := Lib.hid c22
          clear c22
          by_cases c23 : rt = ⟨#[]⟩
          case neg =>
            have dc23 : rt.toList.isEmpty = false := emp_no c23
            have Hc23 := Lib.hid c23
            clear c23
            have HZ := Lib.hid (show chkB ⟨4, ep, tm, ct, tg, un, rt, nm⟩ = false by rw [chk_4]; exact decide_eq_false (fun q => Hc23.out q.2.2.2.2.2.2))
            go_wp2
            exact HR.out _ _ ⟨by rw [HZ.out] <;> first | rfl | simp_all, HBW.out⟩
          have dc23 : rt.toList.isEmpty = true := by rw [c23, ByteArray.toList_eq]; rfl
          have Hc23 := Lib.hid c23
          clear c23
          have HZ := Lib.hid (show chkB ⟨4, ep, tm, ct, tg, un, rt, nm⟩ = true by rw [chk_4]; exact decide_eq_true ⟨HBase.out.1, HBase.out.2, HNB.out, Hc20.out, Hc21.out, Hc22.out, Hc23.out⟩)
          go_wp2
          exact HR.out _ _ ⟨by rw [HZ.out] <;> first | rfl | simp_all, HBW.out⟩
      have k4b : (kd == 4) = false := by simpa using k4
      have HZ := Lib.hid (chk_0 kd ep tm ct tg un rt nm k1 k2 k3 k4 k5)
      clear k1 k2 k3 k4 k5
      go_wp2
      exact HR.out _ _ ⟨by rw [HZ.out] <;> first | rfl | simp_all, HBW.out⟩
end Go.Proofs.YtnkiokaeooopgaaGreat
/- The document's book: who is held, which record may be. -/
set_option maxRecDepth 100000
namespace Go.Proofs.YtnkiokaeooopgaaGreat
open Go.RowKit Ks
set_option linter.unusedVariables false
set_option linter.unusedSimpArgs false
theorem filter_take {α : Type} (p : α → Bool) (l : List α) (k : Nat) (x : α) (h : l[k]? = some x) : (l.take (k + 1)).filter p = (l.take k).filter p ++ if p x then [x] else [] := by
  rw [List.take_add_one, h, List.filter_append]
  simp only [Option.toList_some, List.filter_cons, List.filter_nil]
theorem names_some (f : Int) (l : List RecT) (hg : GoodR l) : NamesR l ((bookR f l).holds.map Prod.fst) := ⟨keys_nodup (holds_once f l), fun s => by rw [key_mem, (hold_iff f l hg s).1]⟩
set_option maxRecDepth 100000 in
set_option maxHeartbeats 4000000 in
theorem bkheld_any {b o : Nat} {f : Int} {v : Value} {l : List RecT} (t : Int) (w : World) (h : BkR w b o f v l) (hl : l.length ≤ 100000) : Calls Tryz.prog 83 #[.pointer (some ⟨b, o, none⟩), .int .i64 t] w fun e w' => ∃ vn N, e = .returned vn ∧ NamesR l N ∧ Rd strE w' vn (N.filter fun s => decide (holdR l s = t)) ∧ N.length ≤ l.length ∧ Below w.heap.size w w' := by
  refine calls_by fun R HR => ?_
  have HB := Lib.hid h
  have HN := Lib.hid hl
  have HHo := Lib.hid (fun (A : World) (q : Below w.heap.size w A) s => bkhold_any s A (h.below q) hl)
  have HNa := Lib.hid (bknames_any w h hl)
  clear h hl
  go_enter Tryz.func83, Tryz.ntmps83
  go_wp2_with fail
  refine HNa.out.mono ?_
  rintro en u1 ⟨vn, N, rfl, hrd, hnm, hNl, hb⟩
  obtain ⟨an, cn, rfl, -⟩ := hrd.shape
  have H1 := Lib.hid (And.intro hb (And.intro hrd hnm))
  have HNl := Lib.hid (show N.length ≤ 100000 by have := HN.out; omega)
  have HNl2 := Lib.hid hNl
  clear hb hrd hnm hNl HNa
  go_wp2_with fail
  go_loopw [6, 7] (fun vo i wx => ∃ (k : Nat) (M : List ByteArray) (vq : Value), k ≤ N.length ∧ vq = vo ∧ i = .int .i64 (k : Int) ∧ Hid (Row strE wx u1.heap.size 9 vo M ∧ Below u1.heap.size u1 wx ∧ M = (N.take k).filter fun s => decide (holdR l s = t))) (fun _ i _ => N.length - (intOf i).toNat)
  case atStart => exact ⟨0, [], _, Nat.zero_le _, rfl, rfl, Lib.hid ⟨Row.nil _ _ _, Below.refl _ _, rfl⟩⟩
  case round =>
    obtain ⟨k, M, vq, hk, rfl, rfl, hN⟩ := hrel
    by_cases hlt : k < N.length
    case neg =>
      obtain rfl : k = N.length := by omega
      have hki : ¬ (N.length : Int) < (N.length : Int) := by omega
      have HZ := Lib.hid (show M = N.filter fun s => decide (holdR l s = t) by have h := hN.out.2.2; rwa [List.take_length] at h)
      go_wp2
      exact HR.out _ _ ⟨_, N, rfl, H1.out.2.2, by rw [← HZ.out]; exact hN.out.1.rd, HNl2.out, H1.out.1.trans (hN.out.2.1.mono H1.out.1.size)⟩
    have hki : (k : Int) < (N.length : Int) := by omega
    have hw64 : wrap64 ((k : Int) + 1) = ((k + 1 : Nat) : Int) := by have := HNl.out; unfold wrap64; omega
    obtain ⟨bb, oo, ha, hb0, d0⟩ := (H1.out.2.1.below hN.out.2.1).str k hlt
    cases ha
    have HX := Lib.hid (show N[k]? = some N[k] from List.getElem?_eq_getElem hlt)
    have HLT := Lib.hid hlt
    generalize N[k] = y at *
    obtain ⟨am, cm, hvr, -⟩ := hN.out.1.rd.shape
    subst hvr
    have HML := Lib.hid (show M.length ≤ N.length by rw [hN.out.2.2]; exact Nat.le_trans (List.length_filter_le _ _) (by rw [List.length_take]; omega))
    have HFT := Lib.hid (filter_take (fun s => decide (holdR l s = t)) N k y HX.out)
    go_wp2_with fail
    refine (HHo.out wr (H1.out.1.trans (hN.out.2.1.mono H1.out.1.size)) y).mono ?_
    rintro en u2 ⟨rfl, hb⟩
    have H2 := Lib.hid (show Row strE u2 u1.heap.size 9 (.slice am M.length cm) M ∧ Below u1.heap.size u1 u2 from ⟨hN.out.1.below hb, hN.out.2.1.trans (hb.mono hN.out.2.1.size)⟩)
    have e0 := (cell_on hb d0).1
    have HM := Lib.hid hN.out.2.2
    clear hb hN d0 hb0 hlt
    by_cases ht : holdR l y = t
    · have HQ := Lib.hid (show M ++ [y] = (N.take (k + 1)).filter fun s => decide (holdR l s = t) by rw [HFT.out, if_pos (decide_eq_true ht), ← HM.out])
      have htb : (holdR l y == t) = true := by simpa using ht
      clear ht HFT
      generalize holdR l y = HV at *
      have hA := alloc_below u2 (.cells #[.string y] 9)
      have hR := H2.out.1.below hA
      have hS : u1.heap.size ≤ (u2.alloc (.cells #[.string y] 9)).heap.size := Nat.le_trans H2.out.2.size hA.size
      have HAP := Lib.hid (And.intro hA (And.intro hR hS))
      clear hA hR hS
      go_wp2_with (at_builtin; refine wpList_append_row _ rfl _ _ 102 rfl strTR u1.heap.size _ _ M [y] rfl rfl HAP.out.2.1 (Rd.single (E := strE) y (alloc_new _ _) rfl) HAP.out.2.2 (by have := HML.out; have := HNl.out; simp; omega) (by decide) ?_)
      rintro v6 w6 hg
      have H6 := Lib.hid (show Row strE w6 u1.heap.size 9 v6 (M ++ [y]) ∧ Below u1.heap.size u1 w6 from ⟨hg.1, hg.below (H2.out.2.trans (HAP.out.1.mono H2.out.2.size)) HAP.out.2.2 (fun b hb => (HAP.out.2.1.lt hb).1)⟩)
      clear hg HAP
      go_wp2
      go_roundw
      case rel => exact ⟨k + 1, M ++ [y], _, by have := HLT.out; omega, rfl, by first | rw [hw64] | go_num, Lib.hid ⟨H6.out.1, H6.out.2, HQ.out⟩⟩
      case measure => have := HLT.out; first | (rw [hw64]; simp [intOf]; omega) | (simp [intOf]; omega)
    · have HQ := Lib.hid (show M = (N.take (k + 1)).filter fun s => decide (holdR l s = t) by rw [HFT.out, if_neg (by simpa using ht), List.append_nil, ← HM.out])
      have htb : (holdR l y == t) = false := by simpa using ht
      clear ht HFT
      generalize holdR l y = HV at *
      go_wp2
      go_roundw
      case rel => exact ⟨k + 1, M, _, by have := HLT.out; omega, rfl, by first | rw [hw64] | go_num, Lib.hid ⟨H2.out.1, H2.out.2, HQ.out⟩⟩
      case measure => have := HLT.out; first | (rw [hw64]; simp [intOf]; omega) | (simp [intOf]; omega)
set_option maxRecDepth 100000 in
set_option maxHeartbeats 8000000 in
theorem bkmay_any {b o : Nat} {f : Int} {v : Value} {l : List RecT} (r : RecT) (w : World) (h : BkR w b o f v l) (hl : l.length ≤ 100000) (hf : 0 ≤ f ∧ f ≤ 4294967295) (hg : GoodR l) : Calls Tryz.prog 56 #[.pointer (some ⟨b, o, none⟩), recV r] w fun e w' => e = .returned (.int .i64 (mayE (bookR f l) r)) ∧ Below w.heap.size w w' := by
  refine calls_by fun R HR => ?_
  obtain ⟨kd, ep, tm, ct, tg, un, rt, nm⟩ := r
  have HB := Lib.hid h
  have HVN : Hid (∀ N, NamesR l N → mayE (bookR f l) ⟨kd, ep, tm, ct, tg, un, rt, nm⟩ = mayR f l N.length (N.filter fun s => decide (holdR l s = tg)).isEmpty ⟨kd, ep, tm, ct, tg, un, rt, nm⟩) := Lib.hid fun N hN => (may_eq f l hg N hN ⟨kd, ep, tm, ct, tg, un, rt, nm⟩).symm
  have HN0 := Lib.hid (names_some f l hg)
  have HEp := Lib.hid (fun A (q : BkR A b o f v l) => bkepoch_any A q hl hf)
  have HNw := Lib.hid (fun A (q : BkR A b o f v l) => bknow_any A q hl)
  have HHo := Lib.hid (fun A (q : BkR A b o f v l) => bkhold_any nm A q hl)
  have HGo := Lib.hid (fun A (q : BkR A b o f v l) => bkgone_any tg A q hl)
  have HUn := Lib.hid (fun A (q : BkR A b o f v l) => bkuntil_any tg A q hl)
  have HNa := Lib.hid (fun A (q : BkR A b o f v l) => bknames_any A q hl)
  have HHe := Lib.hid (fun A (q : BkR A b o f v l) => bkheld_any tg A q hl)
  have HRi := Lib.hid (fun A => rright_any kd ep tm ct tg un rt nm A)
  have HLn := Lib.hid hl
  clear h hl hf hg
  generalize hV : mayE (bookR f l) ⟨kd, ep, tm, ct, tg, un, rt, nm⟩ = V at *
  clear hV
  have H1 := Lib.hid (And.intro (Below.refl w.heap.size w) (HB.out))
  obtain ⟨W1, hW1⟩ : ∃ W1, w.alloc (.cells #[.int .i64 kd, .int .i64 ep, .int .i64 tm, .int .i64 ct, .int .i64 tg, .int .i64 un, .string rt, .string nm] 72) = W1 := ⟨_, rfl⟩
  have hbW1 : Below w.heap.size w W1 := by rw [← hW1]; exact alloc_below w _
  have kW1 : W1.heap[w.heap.size]? = some (.cells #[.int .i64 kd, .int .i64 ep, .int .i64 tm, .int .i64 ct, .int .i64 tg, .int .i64 un, .string rt, .string nm] 72 (0, 0)) := by rw [← hW1]; exact alloc_new w _
  have H2 := Lib.hid (And.intro (H1.out.1.trans (hbW1.mono H1.out.1.size)) (And.intro (H1.out.2.below hbW1) (kW1)))
  clear hbW1 kW1
  obtain ⟨⟨x0, x1, x2, x3, x4, x5, x6, x7⟩, -⟩ := blkR H2.out.2.2
  go_enter Tryz.func56, Tryz.ntmps56
  cases hc : chkB ⟨kd, ep, tm, ct, tg, un, rt, nm⟩ with
  | false =>
    rw [hc] at HRi
    have HC := Lib.hid hc
    clear hc
    go_wp2_with fail
    refine (HRi.out _).mono ?_
    rintro en v1 ⟨rfl, hb⟩
    have H3 := Lib.hid (And.intro (H2.out.1.trans (hb.mono H2.out.1.size)) (And.intro (H2.out.2.1.below hb) (blk_on hb H2.out.2.2)))
    clear hb
    clear hW1
    clear x0 x1 x2 x3 x4 x5 x6 x7
    have HZ := Lib.hid (show V = 2 by rw [HVN.out _ HN0.out]; unfold mayR; rw [if_pos (HC.out)])
    have H99 := Lib.hid H3.out.1
    go_wp2
    exact HR.out _ _ ⟨by rw [HZ.out] <;> rfl, H99.out⟩
  | true =>
    rw [hc] at HRi
    have HC := Lib.hid (show ¬ chkB ⟨kd, ep, tm, ct, tg, un, rt, nm⟩ = false by rw [hc]; decide)
    have hkk := (chk_kinds hc).1
    have HK := Lib.hid (show kd = 1 ∨ kd = 2 ∨ kd = 3 ∨ kd = 4 ∨ kd = 5 from hkk)
    clear hc hkk
    go_wp2_with fail
    refine (HRi.out _).mono ?_
    rintro en v1 ⟨rfl, hb⟩
    have H3 := Lib.hid (And.intro (H2.out.1.trans (hb.mono H2.out.1.size)) (And.intro (H2.out.2.1.below hb) (blk_on hb H2.out.2.2)))
    clear hb
    clear hW1 HRi
    clear x0 x1 x2 x3 x4 x5 x6 x7
    obtain ⟨⟨x0, x1, x2, x3, x4, x5, x6, x7⟩, -⟩ := blkR H3.out.2.2
    go_upto_region 3 with fail
    have cE := Lib.hid (fun p => calls_after (p := p) (HEp.out (After v1 p) (H3.out.2.1.below (after_below v1 p))))
    have cN := Lib.hid (fun p => calls_after (p := p) (HNw.out (After v1 p) (H3.out.2.1.below (after_below v1 p))))
    obtain ⟨E, hE⟩ : ∃ E, epochR f l = E := ⟨_, rfl⟩
    obtain ⟨NW, hNW⟩ : ∃ E, nowR l = E := ⟨_, rfl⟩
    rw [hE] at cE
    rw [hNW] at cN
    have HE := Lib.hid hE
    have HNW := Lib.hid hNW
    clear hE hNW HEp HNw
    by_cases c1 : ep = E
    case neg =>
      have d1 : (ep != E) = true := by simpa using c1
      have HC1 := Lib.hid c1
      clear c1
      have gx1 := fun p => after_cell x1 p
      have gx2 := fun p => after_cell x2 p
      have gx4 := fun p => after_cell x4 p
      refine wp_region_after (by kernel_rfl) (by kernel_rfl) ?_
      repeat (go_big_quiet_step (fail))
      go_big_quiet_step (exact cE.out _)
      repeat (go_big_quiet_step (fail))
      refine wpQuiet_nil ?_
      rintro q1 ⟨p9, rfl⟩
      have hb := after_below v1 p9
      have H4 := Lib.hid (And.intro (H3.out.1.trans (hb.mono H3.out.1.size)) (And.intro (H3.out.2.1.below hb) (blk_on hb H3.out.2.2)))
      generalize After v1 p9 = q1 at *
      clear hb gx1 gx2 gx4
      clear x0 x1 x2 x3 x4 x5 x6 x7
      have HZ := Lib.hid (show V = 16 by rw [HVN.out _ HN0.out]; unfold mayR; rw [if_neg (HC.out), if_pos (Or.inl (by rw [HE.out]; exact HC1.out))])
      have H99 := Lib.hid H4.out.1
      go_wp2
      exact HR.out _ _ ⟨by rw [HZ.out] <;> rfl, H99.out⟩
    have d1 : (ep != E) = false := by rw [c1]; simp
    have HC1 := Lib.hid c1
    clear c1
    by_cases c2 : tm < NW
    case pos =>
      have d2 : decide (tm < NW) = true := decide_eq_true c2
      have HC2 := Lib.hid c2
      clear c2
      have gx1 := fun p => after_cell x1 p
      have gx2 := fun p => after_cell x2 p
      have gx4 := fun p => after_cell x4 p
      refine wp_region_after (by kernel_rfl) (by kernel_rfl) ?_
      repeat (go_big_quiet_step (fail))
      go_big_quiet_step (exact cE.out _)
      repeat (go_big_quiet_step (fail))
      go_big_quiet_step (exact cN.out _)
      repeat (go_big_quiet_step (fail))
      refine wpQuiet_nil ?_
      rintro q1 ⟨p9, rfl⟩
      have hb := after_below v1 p9
      have H4 := Lib.hid (And.intro (H3.out.1.trans (hb.mono H3.out.1.size)) (And.intro (H3.out.2.1.below hb) (blk_on hb H3.out.2.2)))
      generalize After v1 p9 = q1 at *
      clear hb gx1 gx2 gx4
      clear x0 x1 x2 x3 x4 x5 x6 x7
      have HZ := Lib.hid (show V = 16 by rw [HVN.out _ HN0.out]; unfold mayR; rw [if_neg (HC.out), if_pos (Or.inr (by rw [HNW.out]; exact HC2.out))])
      have H99 := Lib.hid H4.out.1
      go_wp2
      exact HR.out _ _ ⟨by rw [HZ.out] <;> rfl, H99.out⟩
    have d2 : decide (tm < NW) = false := decide_eq_false c2
    have HC2 := Lib.hid c2
    clear c2
    have gx1 := fun p => after_cell x1 p
    have gx2 := fun p => after_cell x2 p
    have gx4 := fun p => after_cell x4 p
    refine wp_region_after (by kernel_rfl) (by kernel_rfl) ?_
    repeat (go_big_quiet_step (fail))
    go_big_quiet_step (exact cE.out _)
    repeat (go_big_quiet_step (fail))
    go_big_quiet_step (exact cN.out _)
    repeat (go_big_quiet_step (fail))
    refine wpQuiet_nil ?_
    rintro q1 ⟨p9, rfl⟩
    have hb := after_below v1 p9
    have H4 := Lib.hid (And.intro (H3.out.1.trans (hb.mono H3.out.1.size)) (And.intro (H3.out.2.1.below hb) (blk_on hb H3.out.2.2)))
    generalize After v1 p9 = q1 at *
    clear hb gx1 gx2 gx4
    clear x0 x1 x2 x3 x4 x5 x6 x7
    clear cE cN d1 d2
    have H16 := Lib.hid (show ¬ (ep ≠ epochR f l ∨ tm < nowR l) by rw [HE.out, HNW.out]; rintro (q | q); exact q HC1.out; have := HC2.out; omega)
    obtain ⟨⟨x0, x1, x2, x3, x4, x5, x6, x7⟩, -⟩ := blkR H4.out.2.2
    by_cases k1 : kd = 1
    case pos =>
      have kb : (kd == 1) = true := by simpa using k1
      have HK1 := Lib.hid k1
      clear k1
      have HZ := Lib.hid (show V = 0 by rw [HVN.out _ HN0.out]; unfold mayR; rw [if_neg (HC.out), if_neg (H16.out), if_pos (HK1.out)])
      have H99 := Lib.hid H4.out.1
      go_wp2
      exact HR.out _ _ ⟨by rw [HZ.out] <;> rfl, H99.out⟩
    have kb1 : (kd == 1) = false := by simpa using k1
    have HK1 := Lib.hid k1
    clear k1
    by_cases k4 : kd = 4
    case pos =>
      have kb : (kd == 4) = true := by simpa using k4
      have HK4 := Lib.hid k4
      clear k4
      go_wp2_with fail
      refine (HHo.out _ H4.out.2.1).mono ?_
      rintro en v2 ⟨rfl, hb⟩
      have H5 := Lib.hid (And.intro (H4.out.1.trans (hb.mono H4.out.1.size)) (And.intro (H4.out.2.1.below hb) (blk_on hb H4.out.2.2)))
      clear hb
      have HH : Hid (mayR f l ((bookR f l).holds.map Prod.fst).length (((bookR f l).holds.map Prod.fst).filter fun s => decide (holdR l s = tg)).isEmpty ⟨kd, ep, tm, ct, tg, un, rt, nm⟩ = if holdR l nm < 0 then 7 else 0) := Lib.hid (by unfold mayR; rw [if_neg HC.out, if_neg H16.out, if_neg HK1.out, if_pos HK4.out])
      skip
      by_cases hh : holdR l nm < 0
      · have HZ := Lib.hid (show V = 7 by rw [HVN.out _ HN0.out, HH.out, if_pos hh])
        have H99 := Lib.hid H5.out.1
        generalize holdR l nm = HV at hh ⊢
        have hd : decide (HV < 0) = true := decide_eq_true hh
        go_wp2
        exact HR.out _ _ ⟨by rw [HZ.out] <;> rfl, H99.out⟩
      · have HZ := Lib.hid (show V = 0 by rw [HVN.out _ HN0.out, HH.out, if_neg hh])
        have H99 := Lib.hid H5.out.1
        generalize holdR l nm = HV at hh ⊢
        have hd : decide (HV < 0) = false := decide_eq_false hh
        go_wp2
        exact HR.out _ _ ⟨by rw [HZ.out] <;> rfl, H99.out⟩
    have kb4 : (kd == 4) = false := by simpa using k4
    have HK4 := Lib.hid k4
    clear k4
    have c0 := H4.out.2.1.c0
    have gc0 := fun p => after_cell c0 p
    go_upto_region 11 with fail
    by_cases ct1 : tg < f
    case pos =>
      have dt : decide (tg < f) = true := decide_eq_true ct1
      have HT := Lib.hid ct1
      clear ct1
      have gx1 := fun p => after_cell x1 p
      have gx2 := fun p => after_cell x2 p
      have gx4 := fun p => after_cell x4 p
      refine wp_region_after (by kernel_rfl) (by kernel_rfl) ?_
      repeat (go_big_quiet_step (fail))
      refine wpQuiet_nil ?_
      rintro q1 ⟨p9, rfl⟩
      have hb := after_below q1 p9
      have H5 := Lib.hid (And.intro (H4.out.1.trans (hb.mono H4.out.1.size)) (And.intro (H4.out.2.1.below hb) (blk_on hb H4.out.2.2)))
      generalize After q1 p9 = q1 at *
      clear hb gx1 gx2 gx4
      clear x0 x1 x2 x3 x4 x5 x6 x7
      clear gc0 c0
      have HZ := Lib.hid (show V = 7 by rw [HVN.out _ HN0.out]; unfold mayR; rw [if_neg (HC.out), if_neg (H16.out), if_neg (HK1.out), if_neg (HK4.out), if_pos (HT.out)])
      have H99 := Lib.hid H5.out.1
      go_wp2
      exact HR.out _ _ ⟨by rw [HZ.out] <;> rfl, H99.out⟩
    have dt : decide (tg < f) = false := decide_eq_false ct1
    have HT := Lib.hid ct1
    clear ct1
    have gx1 := fun p => after_cell x1 p
    have gx2 := fun p => after_cell x2 p
    have gx4 := fun p => after_cell x4 p
    refine wp_region_after (by kernel_rfl) (by kernel_rfl) ?_
    repeat (go_big_quiet_step (fail))
    refine wpQuiet_nil ?_
    rintro q1 ⟨p9, rfl⟩
    have hb := after_below q1 p9
    have H5 := Lib.hid (And.intro (H4.out.1.trans (hb.mono H4.out.1.size)) (And.intro (H4.out.2.1.below hb) (blk_on hb H4.out.2.2)))
    generalize After q1 p9 = q1 at *
    clear hb gx1 gx2 gx4
    clear x0 x1 x2 x3 x4 x5 x6 x7
    clear gc0 c0
    obtain ⟨⟨x0, x1, x2, x3, x4, x5, x6, x7⟩, -⟩ := blkR H5.out.2.2
    go_wp2_with fail
    refine (HGo.out _ H5.out.2.1).mono ?_
    rintro en v2 ⟨rfl, hb⟩
    have H6 := Lib.hid (And.intro (H5.out.1.trans (hb.mono H5.out.1.size)) (And.intro (H5.out.2.1.below hb) (blk_on hb H5.out.2.2)))
    clear hb
    obtain ⟨G, hG⟩ : ∃ G, goneR l tg = G := ⟨_, rfl⟩
    rw [hG]
    have HG := Lib.hid hG
    clear hG HGo
    clear x0 x1 x2 x3 x4 x5 x6 x7
    obtain ⟨⟨x0, x1, x2, x3, x4, x5, x6, x7⟩, -⟩ := blkR H6.out.2.2
    cases G with
    | true =>
      have HZ := Lib.hid (show V = 13 by rw [HVN.out _ HN0.out]; unfold mayR; rw [if_neg (HC.out), if_neg (H16.out), if_neg (HK1.out), if_neg (HK4.out), if_neg (show ¬ tg < f by have := HT.out; omega), if_pos (HG.out)])
      have H99 := Lib.hid H6.out.1
      go_wp2
      exact HR.out _ _ ⟨by rw [HZ.out] <;> rfl, H99.out⟩
    | false =>
      have HG2 := Lib.hid (show ¬ goneR l tg = true by rw [HG.out]; decide)
      go_wp2_with fail
      refine (HUn.out _ H6.out.2.1).mono ?_
      rintro en v3 ⟨rfl, hb⟩
      have H7 := Lib.hid (And.intro (H6.out.1.trans (hb.mono H6.out.1.size)) (And.intro (H6.out.2.1.below hb) (blk_on hb H6.out.2.2)))
      clear hb
      obtain ⟨U, hU⟩ : ∃ U, untilR l tg = U := ⟨_, rfl⟩
      rw [hU]
      have HU := Lib.hid hU
      clear hU HUn
      clear x0 x1 x2 x3 x4 x5 x6 x7
      obtain ⟨⟨x0, x1, x2, x3, x4, x5, x6, x7⟩, -⟩ := blkR H7.out.2.2
      by_cases k2 : kd = 2
      case pos =>
        have kb2 : (kd == 2) = true := by simpa using k2
        have kb3 : (kd == 3) = false := by rw [k2]; rfl
        have kb5 : (kd == 5) = false := by rw [k2]; rfl
        have HK2 := Lib.hid k2
        clear k2
        by_cases cu : un < U
        case pos =>
          have du : decide (un < U) = true := decide_eq_true cu
          have HCU := Lib.hid cu
          clear cu
          have HZ := Lib.hid (show V = 12 by rw [HVN.out _ HN0.out]; unfold mayR; rw [if_neg (HC.out), if_neg (H16.out), if_neg (HK1.out), if_neg (HK4.out), if_neg (show ¬ tg < f by have := HT.out; omega), if_neg (HG2.out), if_pos (⟨HK2.out, by rw [HU.out]; exact HCU.out⟩)])
          have H99 := Lib.hid H7.out.1
          go_wp2
          exact HR.out _ _ ⟨by rw [HZ.out] <;> rfl, H99.out⟩
        have du : decide (un < U) = false := decide_eq_false cu
        have HCU := Lib.hid cu
        clear cu
        have HZ := Lib.hid (show V = 0 by rw [HVN.out _ HN0.out]; unfold mayR; rw [if_neg (HC.out), if_neg (H16.out), if_neg (HK1.out), if_neg (HK4.out), if_neg (show ¬ tg < f by have := HT.out; omega), if_neg (HG2.out), if_neg (fun q => by have h1 : un < untilR l tg := q.2; rw [HU.out] at h1; have := HCU.out; omega), if_neg (fun q => by have h1 : kd = 3 := q.1; have := HK2.out; omega), if_neg (fun q => by have h1 : kd = 3 := q.1; have := HK2.out; omega), if_neg (fun q => by have h1 : kd = 5 := q.1; have := HK2.out; omega), if_neg (fun q => by have h1 : kd = 5 := q.1; have := HK2.out; omega), if_neg (fun q => by have h1 : kd = 5 := q.1; have := HK2.out; omega)])
        have H99 := Lib.hid H7.out.1
        go_wp2
        exact HR.out _ _ ⟨by rw [HZ.out] <;> rfl, H99.out⟩
      have kb2 : (kd == 2) = false := by simpa using k2
      have HK2 := Lib.hid k2
      clear k2
      by_cases k3 : kd = 3
      case pos =>
        have kb3 : (kd == 3) = true := by simpa using k3
        have kb5 : (kd == 5) = false := by rw [k3]; rfl
        have HK3 := Lib.hid k3
        clear k3
        go_wp2_with fail
        refine (HHo.out _ H7.out.2.1).mono ?_
        rintro en v4 ⟨rfl, hb⟩
        have H8 := Lib.hid (And.intro (H7.out.1.trans (hb.mono H7.out.1.size)) (And.intro (H7.out.2.1.below hb) (blk_on hb H7.out.2.2)))
        clear hb
        obtain ⟨HV, hHV⟩ : ∃ HV, holdR l nm = HV := ⟨_, rfl⟩
        rw [hHV]
        have HHV := Lib.hid hHV
        clear hHV
        clear x0 x1 x2 x3 x4 x5 x6 x7
        obtain ⟨⟨x0, x1, x2, x3, x4, x5, x6, x7⟩, -⟩ := blkR H8.out.2.2
        by_cases hh : 0 ≤ HV
        case pos =>
          have dh : decide ((0 : Int) ≤ HV) = true := decide_eq_true hh
          have HHH := Lib.hid hh
          clear hh
          have HZ := Lib.hid (show V = 19 by rw [HVN.out _ HN0.out]; unfold mayR; rw [if_neg (HC.out), if_neg (H16.out), if_neg (HK1.out), if_neg (HK4.out), if_neg (show ¬ tg < f by have := HT.out; omega), if_neg (HG2.out), if_neg (fun q => HK2.out q.1), if_pos (⟨HK3.out, by rw [HHV.out]; exact HHH.out⟩)])
          have H99 := Lib.hid H8.out.1
          go_wp2
          exact HR.out _ _ ⟨by rw [HZ.out] <;> rfl, H99.out⟩
        have dh : decide ((0 : Int) ≤ HV) = false := decide_eq_false hh
        have HHH := Lib.hid hh
        clear hh
        go_wp2_with fail
        refine (HNa.out _ H8.out.2.1).mono ?_
        rintro en v5 ⟨vn, N, rfl, hrd, hnm, hNl, hb⟩
        obtain ⟨an, cn, rfl, -⟩ := hrd.shape
        have HNM := Lib.hid hnm
        clear hrd hnm
        have H9 := Lib.hid (And.intro (H8.out.1.trans (hb.mono H8.out.1.size)) (And.intro (H8.out.2.1.below hb) (blk_on hb H8.out.2.2)))
        clear hb
        clear x0 x1 x2 x3 x4 x5 x6 x7
        obtain ⟨⟨x0, x1, x2, x3, x4, x5, x6, x7⟩, -⟩ := blkR H9.out.2.2
        by_cases h64 : (64 : Int) ≤ (N.length : Int)
        case pos =>
          have d64 : decide ((64 : Int) ≤ (N.length : Int)) = true := decide_eq_true h64
          have d64' : decide (64 ≤ N.length) = true := decide_eq_true (by omega)
          have H64 := Lib.hid h64
          have h64n : 64 ≤ N.length := by omega
          have HZ := Lib.hid (show V = 5 by rw [HVN.out _ HNM.out]; unfold mayR; rw [if_neg (HC.out), if_neg (H16.out), if_neg (HK1.out), if_neg (HK4.out), if_neg (show ¬ tg < f by have := HT.out; omega), if_neg (HG2.out), if_neg (fun q => HK2.out q.1), if_neg (fun q => by have h1 : 0 ≤ holdR l nm := q.2; rw [HHV.out] at h1; have := HHH.out; omega), if_pos (⟨HK3.out, H64.out⟩)])
          have H99 := Lib.hid H9.out.1
          go_wp2
          exact HR.out _ _ ⟨by rw [HZ.out] <;> rfl, H99.out⟩
        have d64 : decide ((64 : Int) ≤ (N.length : Int)) = false := decide_eq_false h64
        have d64' : decide (64 ≤ N.length) = false := decide_eq_false (by omega)
        have H64 := Lib.hid h64
        have h64n : ¬ 64 ≤ N.length := by omega
        have HZ := Lib.hid (show V = 0 by rw [HVN.out _ HNM.out]; unfold mayR; rw [if_neg (HC.out), if_neg (H16.out), if_neg (HK1.out), if_neg (HK4.out), if_neg (show ¬ tg < f by have := HT.out; omega), if_neg (HG2.out), if_neg (fun q => HK2.out q.1), if_neg (fun q => by have h1 : 0 ≤ holdR l nm := q.2; rw [HHV.out] at h1; have := HHH.out; omega), if_neg (fun q => by have h1 : 64 ≤ (N.length : Int) := q.2; have := H64.out; omega), if_neg (fun q => by have h1 : kd = 5 := q.1; have := HK3.out; omega), if_neg (fun q => by have h1 : kd = 5 := q.1; have := HK3.out; omega), if_neg (fun q => by have h1 : kd = 5 := q.1; have := HK3.out; omega)])
        have H99 := Lib.hid H9.out.1
        go_wp2
        exact HR.out _ _ ⟨by rw [HZ.out] <;> rfl, H99.out⟩
      have kb3 : (kd == 3) = false := by simpa using k3
      have HK3 := Lib.hid k3
      clear k3
      have HK5 := Lib.hid (show kd = 5 by have := HK.out; have := HK1.out; have := HK2.out; have := HK3.out; have := HK4.out; omega)
      have kb5 : (kd == 5) = true := by rw [HK5.out]; rfl
      by_cases c9 : tm < U
      case pos =>
        have d9 : decide (tm < U) = true := decide_eq_true c9
        have H9 := Lib.hid c9
        clear c9
        have HZ := Lib.hid (show V = 9 by rw [HVN.out _ HN0.out]; unfold mayR; rw [if_neg (HC.out), if_neg (H16.out), if_neg (HK1.out), if_neg (HK4.out), if_neg (show ¬ tg < f by have := HT.out; omega), if_neg (HG2.out), if_neg (fun q => HK2.out q.1), if_neg (fun q => HK3.out q.1), if_neg (fun q => HK3.out q.1), if_pos (⟨HK5.out, by rw [HU.out]; exact H9.out⟩)])
        have H99 := Lib.hid H7.out.1
        go_wp2
        exact HR.out _ _ ⟨by rw [HZ.out] <;> rfl, H99.out⟩
      have d9 : decide (tm < U) = false := decide_eq_false c9
      have H9 := Lib.hid c9
      clear c9
      go_wp2_with fail
      refine (HHe.out _ H7.out.2.1).mono ?_
      rintro en v4 ⟨vn, N, rfl, hnm, hrd, hNl, hb⟩
      have HNM := Lib.hid hnm
      obtain ⟨Z, hZ⟩ : ∃ Z, (N.filter fun s => decide (holdR l s = tg)) = Z := ⟨_, rfl⟩
      rw [hZ] at hrd
      have HZZ := Lib.hid hZ
      obtain ⟨an, cn, rfl, -⟩ := hrd.shape
      clear hrd hnm hZ
      have H8 := Lib.hid (And.intro (H7.out.1.trans (hb.mono H7.out.1.size)) (And.intro (H7.out.2.1.below hb) (blk_on hb H7.out.2.2)))
      clear hb
      clear x0 x1 x2 x3 x4 x5 x6 x7
      obtain ⟨⟨x0, x1, x2, x3, x4, x5, x6, x7⟩, -⟩ := blkR H8.out.2.2
      by_cases h10 : Z = []
      case neg =>
        have h10i : (0 : Int) < (Z.length : Int) := by have := List.length_pos_iff.2 h10; omega
        have h10n : 0 < Z.length := List.length_pos_iff.2 h10
        have d10 : decide ((0 : Int) < (Z.length : Int)) = true := decide_eq_true h10i
        have d10' : decide (0 < Z.length) = true := decide_eq_true h10n
        have H10 := Lib.hid (show Z.isEmpty = false by cases Z with | nil => exact absurd rfl h10 | cons a b => rfl)
        clear h10
        have HZ := Lib.hid (show V = 10 by rw [HVN.out _ HNM.out]; unfold mayR; rw [if_neg (HC.out), if_neg (H16.out), if_neg (HK1.out), if_neg (HK4.out), if_neg (show ¬ tg < f by have := HT.out; omega), if_neg (HG2.out), if_neg (fun q => HK2.out q.1), if_neg (fun q => HK3.out q.1), if_neg (fun q => HK3.out q.1), if_neg (fun q => by have h1 : tm < untilR l tg := q.2; rw [HU.out] at h1; have := H9.out; omega), if_pos (⟨HK5.out, by rw [HZZ.out]; exact H10.out⟩)])
        have H99 := Lib.hid H8.out.1
        go_wp2
        exact HR.out _ _ ⟨by rw [HZ.out] <;> rfl, H99.out⟩
      have H10 := Lib.hid (show ¬ Z.isEmpty = false by rw [h10]; decide)
      subst h10
      by_cases cl : un = U
      case neg =>
        have dl : (un != U) = true := by simpa using cl
        have HCL := Lib.hid cl
        clear cl
        have HZ := Lib.hid (show V = 2 by rw [HVN.out _ HNM.out]; unfold mayR; rw [if_neg (HC.out), if_neg (H16.out), if_neg (HK1.out), if_neg (HK4.out), if_neg (show ¬ tg < f by have := HT.out; omega), if_neg (HG2.out), if_neg (fun q => HK2.out q.1), if_neg (fun q => HK3.out q.1), if_neg (fun q => HK3.out q.1), if_neg (fun q => by have h1 : tm < untilR l tg := q.2; rw [HU.out] at h1; have := H9.out; omega), if_neg (fun q => H10.out (by rw [← HZZ.out]; exact q.2)), if_pos (⟨HK5.out, by rw [HU.out]; exact HCL.out⟩)])
        have H99 := Lib.hid H8.out.1
        go_wp2
        exact HR.out _ _ ⟨by rw [HZ.out] <;> rfl, H99.out⟩
      have dl : (un != U) = false := by rw [cl]; simp
      have HCL := Lib.hid cl
      clear cl
      have HZ := Lib.hid (show V = 0 by rw [HVN.out _ HNM.out]; unfold mayR; rw [if_neg (HC.out), if_neg (H16.out), if_neg (HK1.out), if_neg (HK4.out), if_neg (show ¬ tg < f by have := HT.out; omega), if_neg (HG2.out), if_neg (fun q => HK2.out q.1), if_neg (fun q => HK3.out q.1), if_neg (fun q => HK3.out q.1), if_neg (fun q => by have h1 : tm < untilR l tg := q.2; rw [HU.out] at h1; have := H9.out; omega), if_neg (fun q => H10.out (by rw [← HZZ.out]; exact q.2)), if_neg (fun q => q.2 (by rw [HU.out]; exact HCL.out))])
      have H99 := Lib.hid H8.out.1
      go_wp2
      exact HR.out _ _ ⟨by rw [HZ.out] <;> rfl, H99.out⟩
end Go.Proofs.YtnkiokaeooopgaaGreat
/- An own row that lies in a cell of a block: what append makes of it, and its store, in a drawn region. Plain. No program is in sight. -/
namespace Ks
open Go Go.RowKit
set_option linter.unusedVariables false
theorem cell_off {w : World} {bo off : Nat} {ad : Addr} {x u : Value} (hb : ad.block = bo) (ho : ad.off ≠ off) (h : w.cell? ad = some x) : (w.setCell ⟨bo, off, none⟩ u).cell? ad = some x := by
  rw [show (w.setCell ⟨bo, off, none⟩ u).cell? ad = w.cell? ad by
    apply World.cell?_setCell_other
    intro e
    exact ho (by rw [← e])]
  exact h
/-- the same, where the row lies in a box: a: what was read of it, z: that it was stored -/
def AppAt {α : Type} (E : Enc α) (B : Nat) (w0 : World) (T : TypeId) (v : Value) (L l : List α) (bo off : Nat) (a s u z : Option Value) (w : World) : Prop :=
  match z with
  | none => Appends E B w0 T v L l s u w ∧ (u ≠ none → a ≠ none ∧ s ≠ none)
  | some _ => (a ≠ none ∧ s ≠ none) ∧ ∃ u' w1, u = some u' ∧ Appends E B w0 T v L l s (some u') w1 ∧ w = w1.setCell ⟨bo, off, none⟩ u'
section
variable {α : Type} {E : Enc α} {B bo off : Nat} {w0 w w' : World} {T : TypeId} {v : Value} {L l : List α} {a s u z : Option Value}
theorem AppAt.start (h : Row E w0 B T v L) (hb : Below w0.heap.size w0 w) : AppAt E B w0 T v L l bo off none none none none w := ⟨Appends.start h hb, fun h => absurd rfl h⟩
theorem AppAt.read (x : Value) (h : AppAt E B w0 T v L l bo off a s u z w) : AppAt E B w0 T v L l bo off (some x) s u z w := by
  cases z with
  | none => exact ⟨h.1, fun hu => ⟨(fun e => by cases e), (h.2 hu).2⟩⟩
  | some z => exact ⟨⟨(fun e => by cases e), h.1.2⟩, h.2⟩
/-- what was there stands, but for the row and its box -/
theorem AppAt.cell {ad : Addr} {x : Value} (h : AppAt E B w0 T v L l bo off a s u z w) (hc : w0.cell? ad = some x) (hne : v.ownBlock ≠ some ad.block) (hbo : ad.block ≠ bo ∨ ad.off ≠ off) : w.cell? ad = some x := by
  cases z with
  | none => exact h.1.cell hc hne
  | some z =>
    obtain ⟨_, u', w1, _, h1, rfl⟩ := h
    have h2 := h1.cell hc hne
    rcases hbo with hbo | hbo
    · have hfar : (w1.setCell ⟨bo, off, none⟩ u').cell? ad = w1.cell? ad := World.cell?_of_block (Below.heap_setCell _ _ _ _ hbo)
      rw [hfar]
      exact h2
    · by_cases hb : ad.block = bo
      · exact cell_off hb hbo h2
      · have hfar : (w1.setCell ⟨bo, off, none⟩ u').cell? ad = w1.cell? ad := World.cell?_of_block (Below.heap_setCell _ _ _ _ hb)
        rw [hfar]
        exact h2
theorem AppAt.block {b : Nat} {o : Obj} (h : AppAt E B w0 T v L l bo off a s u z w) (hc : w0.heap[b]? = some o) (hne : v.ownBlock ≠ some b) (hbo : b ≠ bo) : w.heap[b]? = some o := by
  cases z with
  | none => exact h.1.block hc hne
  | some z =>
    obtain ⟨_, u', w1, _, h1, rfl⟩ := h
    rw [set_ne _ hbo]
    exact h1.block hc hne
/-- the box, ahead of its reading -/
theorem AppAt.box {x : Value} (h : AppAt E B w0 T v L l bo off none s u z w) (hc : w0.cell? ⟨bo, off, none⟩ = some x) (hne : v.ownBlock ≠ some bo) : w.cell? ⟨bo, off, none⟩ = some x := by
  cases z with
  | none => exact h.1.cell hc hne
  | some z => exact absurd rfl h.1.1
theorem AppAt.unread (h : AppAt E B w0 T v L l bo off a s u none w) : Appends E B w0 T v L l s u w := h.1
theorem AppAt.early (h : AppAt E B w0 T v L l bo off a none u z w) : u = none ∧ z = none := by
  cases z with
  | none =>
    cases u with
    | none => exact ⟨rfl, rfl⟩
    | some u => exact absurd rfl (h.2 (fun e => by cases e)).2
  | some z => exact absurd rfl h.1.2
theorem AppAt.mid (h : AppAt E B w0 T v L l bo off a s none z w) : z = none := by
  cases z with
  | none => rfl
  | some z => obtain ⟨_, u', w1, e, _⟩ := h; cases e
theorem AppAt.made (h : AppAt E B w0 T v L l bo off a none u z w) (cs : Array Value) (e : cs.toList = E.cs l) (fr : Nat × Nat := (0, 0)) : AppAt E B w0 T v L l bo off a (some (.slice (some ⟨w.heap.size, 0, none⟩) l.length l.length)) u z (w.alloc (.cells cs T fr)) := by
  obtain ⟨rfl, rfl⟩ := h.early
  exact ⟨h.1.made cs e fr, fun h => absurd rfl h⟩
theorem AppAt.rows {lv : Value} (h : AppAt E B w0 T v L l bo off a (some lv) none z w) (hB : B ≤ w0.heap.size) : Row E w B T v L ∧ Rd E w lv l ∧ B ≤ w.heap.size := by
  obtain rfl := h.mid
  exact h.1.rows hB
theorem AppAt.grew {v' : Value} {x y : Value} (h : AppAt E B w0 T v L l bo off (some x) (some y) none z w) (hG : Grew E w w' B T v v' (L ++ l)) : AppAt E B w0 T v L l bo off (some x) (some y) (some v') z w' := by
  obtain rfl := h.mid
  exact ⟨h.1.grew hG, fun _ => ⟨(fun e => by cases e), (fun e => by cases e)⟩⟩
theorem AppAt.stored {v' y : Value} (h : AppAt E B w0 T v L l bo off a s (some v') none w) : AppAt E B w0 T v L l bo off a s (some v') (some y) (w.setCell ⟨bo, off, none⟩ v') :=
  ⟨h.2 (fun e => by cases e), v', w, rfl, h.1, rfl⟩
theorem AppAt.done {u' y : Value} (h : AppAt E B w0 T v L l bo off a s (some u') (some y) w) : ∃ w1, w0.grownBy w1 v.ownBlock ∧ Row E w1 B T u' (L ++ l) ∧ w = w1.setCell ⟨bo, off, none⟩ u' := by
  obtain ⟨_, u2, w1, e, h1, rfl⟩ := h
  cases e
  exact ⟨w1, h1.1, h1.2.2, rfl⟩
theorem AppAt.done2 {u' y : Value} (h : AppAt E B w0 T v L l bo off a s (some u') (some y) w) : ∃ w1, w0.grownBy w1 v.ownBlock ∧ (u'.ownBlock = v.ownBlock ∨ ∀ b, u'.ownBlock = some b → w0.heap.size ≤ b) ∧ Row E w1 B T u' (L ++ l) ∧ w = w1.setCell ⟨bo, off, none⟩ u' := by
  obtain ⟨_, u2, w1, e, h1, rfl⟩ := h
  cases e
  exact ⟨w1, h1.1, h1.2.1, h1.2.2, rfl⟩
end
end Ks
/- The program's book: there, until, gone, holds, held, new. -/
set_option maxRecDepth 100000
namespace Go.Proofs.YtnkiokaeooopgaaGreat
open Go.RowKit Ks Go.Maps
set_option linter.unusedVariables false
set_option linter.unusedSimpArgs false
theorem till_v (b : BookT) (t : Int) : lookV iiKV.val (.int .i64 0) false (Ks.look b.till t) = .int .i64 (tillN b t) := by unfold tillN; cases Ks.look b.till t <;> rfl
theorem gone_v (b : BookT) (t : Int) : lookV ibKV.val (.bool false) false (Ks.look b.gone t) = .bool (goneB b t) := by unfold goneB; cases Ks.look b.gone t <;> rfl
theorem bthere_yes {n c mu mh mg : Nat} {b : BookT} (w : World) (h : BookAt w n c mu mh mg b) : Calls Tryz.prog 42 #[.pointer (some ⟨n, 0, none⟩)] w fun e w' => e = .returned (.bool true) ∧ w' = w := by
  refine calls_by fun R HR => ?_
  obtain ⟨⟨z0, z1, z2, z3, z4, z5⟩, fz⟩ := blk6 h.blk
  clear h fz
  go_enter Tryz.func42, Tryz.ntmps42
  go_wp2
  exact HR.out _ _ ⟨rfl, rfl⟩
theorem bthere_no {v : Value} (w : World) (h : BookNo w v) : Calls Tryz.prog 42 #[v] w fun e w' => e = .returned (.bool false) ∧ w' = w := by
  refine calls_by fun R HR => ?_
  rcases h with rfl | ⟨n, rfl, h⟩
  · go_enter Tryz.func42, Tryz.ntmps42
    go_wp2
    exact HR.out _ _ ⟨rfl, rfl⟩
  · obtain ⟨⟨z0, z1, z2, z3, z4, z5⟩, fz⟩ := blk6 h
    clear h fz
    go_enter Tryz.func42, Tryz.ntmps42
    go_wp2
    exact HR.out _ _ ⟨rfl, rfl⟩
theorem bepoch_no {v : Value}  (w : World) (h : BookNo w v) : Calls Tryz.prog 17 #[v] w fun e w' => e = .returned (.int .i64 0) ∧ w' = w := by
  refine calls_by fun R HR => ?_
  have HT := Lib.hid (bthere_no w h)
  clear h
  go_enter Tryz.func17, Tryz.ntmps17
  go_wp2_with fail
  refine HT.out.mono ?_
  rintro en v1 ⟨rfl, hw⟩
  rw [hw]
  clear hw
  go_wp2
  exact HR.out _ _ ⟨rfl, rfl⟩
theorem bnow_no {v : Value}  (w : World) (h : BookNo w v) : Calls Tryz.prog 75 #[v] w fun e w' => e = .returned (.int .i64 0) ∧ w' = w := by
  refine calls_by fun R HR => ?_
  have HT := Lib.hid (bthere_no w h)
  clear h
  go_enter Tryz.func75, Tryz.ntmps75
  go_wp2_with fail
  refine HT.out.mono ?_
  rintro en v1 ⟨rfl, hw⟩
  rw [hw]
  clear hw
  go_wp2
  exact HR.out _ _ ⟨rfl, rfl⟩
theorem buntil_no {v : Value} (t : Int) (w : World) (h : BookNo w v) : Calls Tryz.prog 73 #[v, .int .i64 t] w fun e w' => e = .returned (.int .i64 0) ∧ w' = w := by
  refine calls_by fun R HR => ?_
  have HT := Lib.hid (bthere_no w h)
  clear h
  go_enter Tryz.func73, Tryz.ntmps73
  go_wp2_with fail
  refine HT.out.mono ?_
  rintro en v1 ⟨rfl, hw⟩
  rw [hw]
  clear hw
  go_wp2
  exact HR.out _ _ ⟨rfl, rfl⟩
theorem bgone_no {v : Value} (t : Int) (w : World) (h : BookNo w v) : Calls Tryz.prog 44 #[v, .int .i64 t] w fun e w' => e = .returned (.bool false) ∧ w' = w := by
  refine calls_by fun R HR => ?_
  have HT := Lib.hid (bthere_no w h)
  clear h
  go_enter Tryz.func44, Tryz.ntmps44
  go_wp2_with fail
  refine HT.out.mono ?_
  rintro en v1 ⟨rfl, hw⟩
  rw [hw]
  clear hw
  go_wp2
  exact HR.out _ _ ⟨rfl, rfl⟩
theorem bholds_no {v : Value}  (w : World) (h : BookNo w v) : Calls Tryz.prog 47 #[v] w fun e w' => e = .returned (.int .i64 0) ∧ w' = w := by
  refine calls_by fun R HR => ?_
  have HT := Lib.hid (bthere_no w h)
  clear h
  go_enter Tryz.func47, Tryz.ntmps47
  go_wp2_with fail
  refine HT.out.mono ?_
  rintro en v1 ⟨rfl, hw⟩
  rw [hw]
  clear hw
  go_wp2
  exact HR.out _ _ ⟨rfl, rfl⟩
theorem bheld_no {v : Value} (t : Int) (w : World) (h : BookNo w v) : Calls Tryz.prog 93 #[v, .int .i64 t] w fun e w' => e = .returned (.slice none 0 0) ∧ w' = w := by
  refine calls_by fun R HR => ?_
  have HT := Lib.hid (bthere_no w h)
  clear h
  go_enter Tryz.func93, Tryz.ntmps93
  go_wp2_with fail
  refine HT.out.mono ?_
  rintro en v1 ⟨rfl, hw⟩
  rw [hw]
  clear hw
  go_wp2
  exact HR.out _ _ ⟨rfl, rfl⟩
theorem bnow_any {n c mu mh mg : Nat} {b : BookT} (w : World) (h : BookAt w n c mu mh mg b) : Calls Tryz.prog 75 #[.pointer (some ⟨n, 0, none⟩)] w fun e w' => e = .returned (.int .i64 b.now) ∧ w' = w := by
  refine calls_by fun R HR => ?_
  have HT := Lib.hid (bthere_yes w h)
  have HB := Lib.hid h
  obtain ⟨⟨z0, z1, z2, z3, z4, z5⟩, fz⟩ := blk6 h.blk
  clear h fz
  have HN := Lib.hid (cnow_any c b.now w HB.out.clk)
  go_enter Tryz.func75, Tryz.ntmps75
  go_wp2_with fail
  refine HT.out.mono ?_
  rintro en v1 ⟨rfl, hw⟩
  rw [hw]
  clear hw
  go_wp2_with fail
  refine HN.out.mono ?_
  rintro en v1 ⟨rfl, hw⟩
  rw [hw]
  clear hw
  go_wp2
  exact HR.out _ _ ⟨rfl, rfl⟩
theorem buntil_any {n c mu mh mg : Nat} {b : BookT} (t : Int) (w : World) (h : BookAt w n c mu mh mg b) (ht : -9223372036854775808 ≤ t ∧ t ≤ 9223372036854775807) : Calls Tryz.prog 73 #[.pointer (some ⟨n, 0, none⟩), .int .i64 t] w fun e w' => e = .returned (.int .i64 (tillN b t)) ∧ w' = w := by
  refine calls_by fun R HR => ?_
  have HT := Lib.hid (bthere_yes w h)
  have HB := Lib.hid h
  obtain ⟨⟨z0, z1, z2, z3, z4, z5⟩, fz⟩ := blk6 h.blk
  clear h fz
  have q5 := iiKV_ok ht
  clear ht
  go_enter Tryz.func73, Tryz.ntmps73
  go_wp2_with fail
  refine HT.out.mono ?_
  rintro en v1 ⟨rfl, hw⟩
  rw [hw]
  clear hw
  go_wp2_with (at_lookup; refine wpList_look _ rfl _ _ 83 false rfl 3 intKey Tryz.underlying83 (zeroI _) HB.out.till rfl t rfl q5 _ (till_v b t) ?_)
  exact HR.out _ _ ⟨rfl, rfl⟩
theorem bgone_any {n c mu mh mg : Nat} {b : BookT} (t : Int) (w : World) (h : BookAt w n c mu mh mg b) (ht : -9223372036854775808 ≤ t ∧ t ≤ 9223372036854775807) : Calls Tryz.prog 44 #[.pointer (some ⟨n, 0, none⟩), .int .i64 t] w fun e w' => e = .returned (.bool (goneB b t)) ∧ w' = w := by
  refine calls_by fun R HR => ?_
  have HT := Lib.hid (bthere_yes w h)
  have HB := Lib.hid h
  obtain ⟨⟨z0, z1, z2, z3, z4, z5⟩, fz⟩ := blk6 h.blk
  clear h fz
  have q5 := ibKV_ok ht
  have hl := HB.out.gone.look intKey Tryz.underlying85 (zeroB w) q5 false
  rw [gone_v] at hl
  change (Instr.lookup 85 (.map (some mg)) (.int .i64 t) false).run Tryz.prog w = _ at hl
  clear ht
  go_enter Tryz.func44, Tryz.ntmps44
  go_wp2_with fail
  refine HT.out.mono ?_
  rintro en v1 ⟨rfl, hw⟩
  rw [hw]
  clear hw
  go_wp2
  exact HR.out _ _ ⟨rfl, rfl⟩
end Go.Proofs.YtnkiokaeooopgaaGreat
/- The names of an epoch's holds: of the program; only how many there are is told. -/
set_option maxRecDepth 100000
namespace Ks
open Go Go.RowKit
set_option linter.unusedVariables false
theorem len_filter_take {α : Type} (p : α → Bool) {l : List α} {j : Nat} {x : α} (h : l[j]? = some x) : (l.filter p).length = ((l.eraseIdx j).filter p).length + (if p x then 1 else 0) := by
  induction l generalizing j with
  | nil => simp at h
  | cons y l ih =>
    cases j with
    | zero =>
      simp at h
      subst h
      rw [List.eraseIdx_cons_zero, List.filter_cons]
      split <;> simp
    | succ j =>
      have h2 : l[j]? = some x := by simpa using h
      rw [List.eraseIdx_cons_succ, List.filter_cons, List.filter_cons]
      have := ih h2
      by_cases hp : p y = true
      · simp only [hp, if_true, List.length_cons]; omega
      · simp only [hp, if_false, Bool.false_eq_true]; omega
end Ks
namespace Go.Proofs.YtnkiokaeooopgaaGreat
open Go.RowKit Ks Go.Maps Go.Sort
set_option linter.unusedVariables false
set_option linter.unusedSimpArgs false
theorem strTB : ElemT Tryz.prog 102 9 strE.k 16 := elemT_of Tryz.underlying102 (by kernel_rfl : (Tryz.prog.info? 9).map (fun i => (i.zero, i.size, i.bytes)) = some (some (.string ⟨#[]⟩), 1, 16)) rfl
theorem strcs (A : List ByteArray) : strE.cs A = A.map (encStr ∘ fun s => s.data.toList) := by
  induction A with
  | nil => rfl
  | cons s A ih =>
    have : strE.cs (s :: A) = .string s :: strE.cs A := rfl
    rw [this, List.map_cons, ih]
    rfl
theorem sort_below (w : World) (B : Nat) (v : Value) (A : List ByteArray) (h : Row strE w B 9 v A) (hB : B ≤ w.heap.size) (hl : A.length ≤ 1000000) :
    Calls Tryz.prog 97 #[v] w fun e w' => e = .returned (.tuple #[]) ∧ Below B w w' := by
  rcases h.2 with ⟨rfl, h0⟩ | ⟨g, cap, cur, rfl, hBg, hgb, hn, hc, hsz, ht⟩
  · exact (Tryz.slices_Sort_string_none none 0 w).mono fun e w' ⟨h1, h2⟩ => ⟨h1, by rw [h2]; exact Below.refl _ _⟩
  · have hss : cur.toList.take (A.map fun s => s.data.toList).length = (A.map fun s => s.data.toList).map encStr := by
      rw [List.length_map, List.map_map]
      have h9 : cur.toList.take (A.length * 1) = strE.cs A := ht
      rw [Nat.mul_one] at h9
      rw [h9]
      exact strcs A
    have hH := holds_of_block hgb hss
    have hc := Tryz.slices_Sort_string g 0 cap (A.map fun s => s.data.toList) w hH (Array.getElem?_eq_some_iff.1 hgb).1 (by rw [List.length_map]; omega)
    rw [List.length_map] at hc
    refine hc.mono ?_
    rintro e w' ⟨he, n, os, rfl⟩
    have hg := grownBy_sorted (w := w) (g := g) (n := n) (os := os) ((A.map fun s => s.data.toList).mergeSort fun x y => decide (x ≤ y)).toArray
    exact ⟨he, hg.os, hg.tape, hg.output, hg.size, fun k hk => hg.block k (Nat.lt_of_lt_of_le hk hB) (fun e => by cases e; omega)⟩
set_option maxHeartbeats 4000000 in
theorem bheld_any {n c mu mh mg : Nat} {b : BookT} (t : Int) (w : World) (h : BookAt w n c mu mh mg b) (hn : b.holds.length ≤ 1000000) :
    Calls Tryz.prog 93 #[.pointer (some ⟨n, 0, none⟩), .int .i64 t] w fun e w' => ∃ a cap, e = .returned (.slice a (heldN b t) cap) ∧ Below w.heap.size w w' := by
  refine calls_by fun R HR => ?_
  have HT := Lib.hid (bthere_yes w h)
  have HB := Lib.hid h
  obtain ⟨⟨z0, z1, z2, z3, z4, z5⟩, fz⟩ := blk6 h.blk
  have HN : Hid (heldN b t = (b.holds.filter fun p => p.2 == t).length) := Lib.hid rfl
  have HL := Lib.hid hn
  generalize heldN b t = hd at *
  clear h fz hn
  go_enter Tryz.func93, Tryz.ntmps93
  go_wp2_with fail
  refine HT.out.mono ?_
  rintro en v1 ⟨rfl, hw⟩
  rw [hw]
  clear hw
  go_wp2_with (at_range; refine wpList_range_list _ rfl _ 84 rfl 3 Tryz.underlying84 rfl HB.out.holds ?_)
  intro w2 hr hb hz
  have H1 := Lib.hid (And.intro hr (And.intro hb hz))
  clear hr hb hz
  generalize hr9 : w.heap.size = r9 at *
  have HR9 := Lib.hid hr9
  clear hr9
  go_wp2_with fail
  go_loopw [5] (fun out wx => ∃ (left : List (ByteArray × Int)) (A : List ByteArray), Hid (RangeAt siKV wx mh r9 b.holds left ∧ Row strE wx w2.heap.size 9 out A ∧ Below r9 w wx ∧ w2.heap.size ≤ wx.heap.size) ∧ Hid (A.length + (left.filter fun p => p.2 == t).length = hd ∧ A.length ≤ 1000000 ∧ A.length + left.length ≤ 1000000)) (fun _ wx => wx.rangeLeft mh r9)
  case atStart => exact ⟨b.holds, [], Lib.hid ⟨H1.out.1, Row.nil _ _ _, H1.out.2.1, Nat.le_refl _⟩, Lib.hid ⟨by rw [HN.out]; simp, by simp, by have := HL.out; simp; omega⟩⟩
  case round =>
    obtain ⟨left, A, hN, hA⟩ := hrel
    have HM := Lib.hid hN.out.1.left_eq
    go_wp2_with (at_next; refine wpList_next_list _ rfl _ rfl rfl hN.out.1 ?_ ?_)
    · intro hl
      subst hl
      obtain ⟨a, cap, rfl, -⟩ := hN.out.2.1.shape
      have HQ := Lib.hid (show hd = A.length by have := hA.out.1; simp at this; omega)
      have hlA := hA.out.2.1
      clear z0 z1 z2 z3 z4 z5
      go_wp2_with fail
      refine (sort_below _ _ _ A hN.out.2.1 hN.out.2.2.2 hlA).mono ?_
      rintro en v5 ⟨rfl, hb5⟩
      have H5 := Lib.hid (hN.out.2.2.1.trans (hb5.mono (by have := H1.out.2.2; omega)))
      clear hb5 hlA
      go_wp2
      exact HR.out _ _ ⟨a, cap, by rw [HQ.out]; try rfl, H5.out⟩
    · intro j x v w3 hj hr3 ht3 hz3 hen
      have hlt : j < left.length := (List.getElem?_eq_some_iff.1 hj).1
      have HF := Lib.hid (len_filter_take (fun p : ByteArray × Int => p.2 == t) hj)
      have HE := Lib.hid (List.length_eraseIdx_of_lt hlt)
      have H3 := Lib.hid (show RangeAt siKV w3 mh r9 b.holds (left.eraseIdx j) ∧ Row strE w3 w2.heap.size 9 u5 A ∧ RowKit.Below r9 w w3 ∧ w2.heap.size ≤ w3.heap.size from
        ⟨hr3, hN.out.2.1.keep fun k e => ht3.block k (hN.out.2.1.lt e).2 (by have := (hN.out.2.1.lt e).1; have := H1.out.2.2; omega), hN.out.2.2.1.trans (ht3.below (fun k hk => by omega) (by have := hN.out.2.2.2; have := H1.out.2.2; omega)), by have := hN.out.2.2.2; omega⟩)
      have HM3 := Lib.hid hr3.left_eq
      have hen2 : (Instr.entry (.pointer (some ⟨r9, 0, none⟩))).run Tryz.prog w3 = .ok (.tuple #[.string x, .int .i64 v]) w3 := hen
      clear hr3 ht3 hz3 hen hj
      by_cases hv : v = t
      · subst hv
        obtain ⟨W4, hW4⟩ : ∃ W4, w3.alloc (.cells #[.string x] 9) = W4 := ⟨_, rfl⟩
        have hb4 : RowKit.Below w3.heap.size w3 W4 := by rw [← hW4]; exact alloc_below _ _
        have hr4 : Rd strE W4 (.slice (some ⟨w3.heap.size, 0, none⟩) 1 1) [x] := by rw [← hW4]; exact Rd.single (E := strE) x (alloc_new _ _) rfl
        have H4 := Lib.hid (And.intro (H3.out.1.below hb4) (And.intro (H3.out.2.1.below hb4) (And.intro (H3.out.2.2.1.trans (hb4.mono (by have := H3.out.2.2.2; have := H1.out.2.2; omega))) (And.intro (Nat.le_trans H3.out.2.2.2 hb4.size) hr4))))
        clear hb4 hr4
        go_wp2_with (at_builtin; refine wpList_append_row _ rfl _ _ 102 rfl strTB w2.heap.size _ _ A [x] rfl rfl H4.out.2.1 H4.out.2.2.2.2 H4.out.2.2.2.1 (by have := hA.out.2.1; simp; omega) (by decide) ?_)
        intro r5 w5 hG
        have hne9 : ∀ k, k < w2.heap.size → w5.heap[k]? = W4.heap[k]? := fun k hk => hG.2.1.block k (Nat.lt_of_lt_of_le hk H4.out.2.2.2.1) fun e => by have := (H4.out.2.1.lt e.symm).1; omega
        have hmh := HB.out.holds.lt
        have hr5 := H4.out.1.keep (hne9 mh (by have := H1.out.2.2; have := HR9.out; omega)) (hne9 r9 (by have := H1.out.2.2; omega))
        have H5 := Lib.hid (And.intro hr5 (And.intro hG.1 (And.intro (hG.below H4.out.2.2.1 (by have := H4.out.2.2.2.1; have := H1.out.2.2; omega) (fun b e => by have := (H4.out.2.1.lt e).1; have := H1.out.2.2; omega)) (Nat.le_trans H4.out.2.2.2.1 hG.2.1.size))))
        have HM5 := Lib.hid hr5.left_eq
        clear hG hW4 hne9 hmh hr5
        go_wp2_with fail
        go_roundw
        case rel => exact ⟨left.eraseIdx j, A ++ [x], H5, Lib.hid ⟨by have := HF.out; have := hA.out.1; simp at *; omega, by have := hA.out.2.2; have := HE.out; simp; omega, by have := hA.out.2.2; have := HE.out; simp; omega⟩⟩
        case measure => rw [HM5.out, HM.out, HE.out]; omega
      · have hv2 : (v == t) = false := by simpa using hv
        go_wp2_with fail
        go_roundw
        case rel => exact ⟨left.eraseIdx j, A, H3, Lib.hid ⟨by have := HF.out; have := hA.out.1; simp [hv2] at *; omega, hA.out.2.1, by have := hA.out.2.2; have := HE.out; omega⟩⟩
        case measure => rw [HM3.out, HM.out, HE.out]; omega
end Go.Proofs.YtnkiokaeooopgaaGreat
