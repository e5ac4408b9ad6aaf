/- The reference's roots: walks. -/
import Derived.Test.YtdinijgjkakeiaaShaRoot
import Derived.Test.YtdinijgjkakeiaaShaRText
import Derived.Test.YtdinijgjkakeiaaQuietTail
import Derived.Deep.LoopGhost
namespace Ks
open Go Go.RowKit
set_option linter.unusedVariables false
theorem tdivI (a b : Nat) : ((a : Nat) : Int).tdiv (b : Int) = ((a / b : Nat) : Int) := by rw [Int.tdiv_eq_ediv_of_nonneg (by omega)]; exact (Int.natCast_ediv _ _).symm
theorem wrapM (a b : Nat) (h : a * b < 9223372036854775808) : wrap64 ((a : Int) * (b : Int)) = ((a * b : Nat) : Int) := by
  rw [← Int.natCast_mul, wrap64]; omega
theorem timesGo_snoc {n : Nat} {L done : List Nat} {k c : Nat} (h : timesN L n = done ++ timesGo n (L.drop k) c) (hk : k < L.length) :
    timesN L n = (done ++ [(c + L[k] * n) % 65536]) ++ timesGo n (L.drop (k + 1)) ((c + L[k] * n) / 65536) := by
  rw [h, List.drop_eq_getElem_cons hk, timesGo]
  simp
theorem tail_snoc {done : List Nat} {f c : Nat} {T : List Nat} (h : T = done ++ tailN (f + 1) c) (hc : c ≠ 0) : T = (done ++ [c % 65536]) ++ tailN f (c / 65536) := by
  rw [h, tailN, if_neg hc]; simp
theorem powL_dig (r p : Nat) : ∀ k, p < 65536 → digN (powL r p k)
  | 0, h => by intro x hx; rw [powL, List.mem_singleton] at hx; omega
  | k + 1, h => timesN_dig _ _
theorem powL_len' (r p : Nat) : ∀ k, (powL r p k).length ≤ 1 + 4 * k
  | 0 => by simp [powL]
  | k + 1 => by rw [powL]; have := timesN_len (powL r p k) r; have := powL_len' r p k; omega
theorem powL_len (r p k : Nat) (h : k ≤ 200) : (powL r p k).length ≤ 1000 := by have := powL_len' r p k; omega
end Ks
namespace Go.Proofs.Ytdinijgjkakeiaa
open Go.RowKit Ks
set_option linter.unusedVariables false

theorem infoInt : (Try.prog.info? 3).map (fun i => (i.zero, i.size, i.bytes)) = some (some (.int .i64 0), 1, 8) := by kernel_rfl
theorem natT : ElemT Try.prog 88 3 natE.k 8 := elemT_of Try.underlying88 infoInt rfl

theorem pow_lt (k : Nat) (h : k ≤ 40) : 2 ^ k ≤ 1099511627776 := by
  have := Nat.pow_le_pow_right (show 0 < 2 by decide) h
  rwa [show (2 : Nat) ^ 40 = 1099511627776 from by decide] at this
set_option maxHeartbeats 400000 in
theorem pow_any (n : Nat) (w : World) (h : n ≤ 40) : Calls Try.prog 48 #[.int .i64 n] w fun e w' => e = .returned (.int .i64 (2 ^ n : Nat)) ∧ w' = w := by
  refine calls_by fun R HR => ?_
  go_enter Try.func48, Try.ntmps48
  go_wp2
  go_loop [3, 4] (fun x i => ∃ (k v : Nat), k ≤ n ∧ i = .int .i64 k ∧ x = .int .i64 v ∧ Hid (v = 2 ^ k)) (fun _ i => n - (intOf i).toNat)
  case atStart => exact ⟨0, 1, by omega, rfl, rfl, Lib.hid rfl⟩
  case round =>
    obtain ⟨k, v, hk, rfl, rfl, hv⟩ := hrel
    have hv1 : v ≤ 1099511627776 := by rw [hv.out]; exact pow_lt k (by omega)
    by_cases hlt : k < n
    · go_wp2
      go_round
      case rel => exact ⟨k + 1, 2 * v, by omega, by go_num, by go_num, Lib.hid (by rw [hv.out, Nat.pow_succ]; omega)⟩
      case measure => simp [intOf]; omega
    · obtain rfl : k = n := by omega
      go_wp2
      exact HR.out _ _ ⟨by rw [← hv.out], rfl⟩

set_option maxHeartbeats 400000 in
theorem digit_any (l : List Nat) (v : Value) (i : Nat) (w : World) (hv : Rd natE w v l) (hi : i ≤ 100000) : Calls Try.prog 60 #[v, .int .i64 i] w fun e w' => e = .returned (.int .i64 (digitN l i : Nat)) ∧ w' = w := by
  refine calls_by fun R HR => ?_
  obtain ⟨a, cap, rfl, _, _⟩ := hv.shape
  by_cases h : i < l.length
  · obtain ⟨b, o, rfl, _, hc⟩ := hv.nat i h
    have hd := Lib.hid (show digitN l i = l[i] by simp [digitN, h])
    generalize l[i] = x at *
    have hh : (i : Int) < (l.length : Int) := by omega
    have HV := Lib.hid hv
    clear hv
    go_enter Try.func60, Try.ntmps60
    go_wp2
    refine HR.out _ _ ⟨?_, rfl⟩
    rw [hd.out]; rfl
  · have hd := Lib.hid (show digitN l i = 0 by simp [digitN, List.getElem?_eq_none (Nat.le_of_not_lt h)])
    have hh : ¬ (i : Int) < (l.length : Int) := by omega
    have HV := Lib.hid hv
    clear hv
    go_enter Try.func60, Try.ntmps60
    go_wp2
    refine HR.out _ _ ⟨?_, rfl⟩
    rw [hd.out]; rfl

set_option maxHeartbeats 1000000 in
theorem times_any (l : List Nat) (v : Value) (n : Nat) (w : World) (hv : Rd natE w v l) (hd : digN l) (hn : n ≤ 137438953472) (hl : l.length ≤ 1000) :
    Calls Try.prog 59 #[v, .int .i64 n] w fun e w' => ∃ v', e = .returned v' ∧ Rd natE w' v' (timesN l n) ∧ Below w.heap.size w w' := by
  refine calls_by fun R HR => ?_
  obtain ⟨a, cap, rfl, _, _⟩ := hv.shape
  have HV := Lib.hid hv
  have HD := Lib.hid hd
  clear hv hd
  go_enter Try.func59, Try.ntmps59
  go_wp2_with fail
  go_loopg [7, 5, 6] (l.length + 5) (fun g i o c wx => ∃ (k cn f : Nat) (done : List Nat), i = .int .i64 k ∧ c = .int .i64 cn ∧ cn ≤ 137438953472 ∧ k ≤ 1004 ∧ done.length = k ∧ Hid (k + g = l.length + 5) ∧ Hid (k ≤ l.length → timesN l n = done ++ timesGo n (l.drop k) cn) ∧ Hid (l.length ≤ k → k + f = l.length + 4 ∧ timesN l n = done ++ tailN f cn ∧ cn < 65536 ^ f) ∧ Hid (Row natE wx w.heap.size 3 o done ∧ Below w.heap.size w wx))
  case atStart =>
    refine ⟨0, 0, 4, [], rfl, rfl, by omega, by omega, rfl, Lib.hid (by omega), Lib.hid fun _ => rfl, Lib.hid fun h => ?_, Lib.hid ⟨Row.nil _ _ _, Below.refl _ _⟩⟩
    have : l = [] := List.length_eq_zero_iff.1 (by omega)
    subst this
    exact ⟨by simp, rfl, by decide⟩
  case round =>
    obtain ⟨k, cn, f, done, rfl, rfl, hcn, hk, hdl, hg, hA, hB, hN⟩ := hrel
    by_cases hlt : k < l.length
    · have hrd : Rd natE wr (.slice a l.length cap) l := HV.out.below hN.out.2
      obtain ⟨b, o1, rfl, hb1, hc1⟩ := hrd.nat k hlt
      have hxl : l[k] < 65536 := HD.out _ (List.getElem_mem hlt)
      have HT := Lib.hid (timesGo_snoc (hA.out (by omega)) hlt)
      obtain ⟨x, hx⟩ : ∃ x, l[k] = x := ⟨_, rfl⟩
      rw [hx] at hc1 hxl HT
      obtain ⟨m, hm⟩ : ∃ m, x * n = m := ⟨_, rfl⟩
      have hml : m ≤ 9007061815787520 := by
        have : x * n ≤ 65535 * 137438953472 := Nat.mul_le_mul (by omega) hn
        omega
      have HM := Lib.hid hm
      rw [hm] at HT
      have HL := Lib.hid hdl
      have hlt3 : (k : Int) < (l.length : Int) := by omega
      clear hx hrd hb1 hm hdl
      go_upto_region 9 with fail
      have hw : wrap64 ((cn : Int) + wrap64 ((x : Int) * (n : Int))) = ((cn + m : Nat) : Int) := by
        rw [wrapM x n (by rw [HM.out]; omega), HM.out, wrap64I _ _ (by omega)]
      rw [hw]
      obtain ⟨y, hy⟩ : ∃ y, cn + m = y := ⟨_, rfl⟩
      rw [hy] at HT ⊢
      have hyl : y ≤ 9007199254740992 := by omega
      clear hw hy hc1
      go_wp2_with (at_builtin; refine wpList_append_row _ rfl _ _ 88 rfl natT w.heap.size _ _ done [y % 65536] rfl rfl (hN.out.1.below (alloc_below _ _)) (Rd.single (E := natE) (y % 65536) (alloc_new _ _) rfl) (by have := hN.out.2.size; simp; omega) (by have := HL.out; simp; omega) (by decide) ?_)
      intro v1 w1 hgr
      have HW := Lib.hid (And.intro hgr.1 (hgr.below ((hN.out.2.trans ((alloc_below wr _).mono hN.out.2.size))) (by have := hN.out.2.size; simp; omega) (fun b hb => (hN.out.1.lt hb).1)))
      clear hgr hN
      go_wp2
      go_roundg (gk - 1)
      case rel =>
        refine ⟨k + 1, y / 65536, 4, done ++ [y % 65536], by go_num, by go_num, by omega, by omega, by have := HL.out; simp; omega, Lib.hid (by have := hg.out; omega), Lib.hid fun _ => HT.out, Lib.hid fun h => ?_, HW⟩
        have e := HT.out
        have hk1 : k + 1 = l.length := by omega
        rw [List.drop_eq_nil_of_le (by omega), timesGo] at e
        refine ⟨by omega, e, ?_⟩
        have h4 : (65536 : Nat) ^ 4 = 18446744073709551616 := by decide
        omega
      case measure => have := hg.out; omega
    · have hlt2 : ¬ (k : Int) < (l.length : Int) := by omega
      by_cases hc : cn = 0
      · obtain rfl := hc
        have HF := Lib.hid (show timesN l n = done by
          obtain ⟨h1, h2, h3⟩ := hB.out (by omega)
          rw [h2]
          cases f <;> simp [tailN])
        clear hA hB hg hdl
        go_wp2
        exact HR.out _ _ ⟨_, rfl, by rw [HF.out]; exact hN.out.1.rd, hN.out.2⟩
      · have hcp : 0 < (cn : Int) := by omega
        have HL := Lib.hid hdl
        obtain ⟨h1, h2, h3⟩ := hB.out (by omega)
        have hf : 0 < f := by
          rcases Nat.eq_zero_or_pos f with rfl | h
          · simp at h3; omega
          · exact h
        obtain ⟨f, rfl⟩ : ∃ f', f = f' + 1 := ⟨f - 1, by omega⟩
        have HT := Lib.hid (tail_snoc h2 hc)
        have HC := Lib.hid (show cn / 65536 < 65536 ^ f by rw [Nat.div_lt_iff_lt_mul (by decide), ← Nat.pow_succ]; exact h3)
        have HK := Lib.hid h1
        clear hdl h1 h2 h3 hA hB hc
        go_wp2_with (at_builtin; refine wpList_append_row _ rfl _ _ 88 rfl natT w.heap.size _ _ done [cn % 65536] rfl rfl (hN.out.1.below (alloc_below _ _)) (Rd.single (E := natE) (cn % 65536) (alloc_new _ _) rfl) (by have := hN.out.2.size; simp; omega) (by have := HL.out; simp; omega) (by decide) ?_)
        intro v1 w1 hgr
        have HW := Lib.hid (And.intro hgr.1 (hgr.below ((hN.out.2.trans ((alloc_below wr _).mono hN.out.2.size))) (by have := hN.out.2.size; simp; omega) (fun b hb => (hN.out.1.lt hb).1)))
        clear hgr hN
        go_wp2
        go_roundg (gk - 1)
        case rel =>
          refine ⟨k + 1, cn / 65536, f, done ++ [cn % 65536], by go_num, by go_num, by omega, by have := HK.out; omega, by have := HL.out; simp; omega, Lib.hid (by have := hg.out; have := HK.out; omega), Lib.hid fun h => by omega, Lib.hid fun h => ⟨by have := HK.out; omega, HT.out, HC.out⟩, HW⟩
        case measure => have := hg.out; have := HK.out; omega

set_option maxHeartbeats 1000000 in
theorem above_any (r p k : Nat) (w : World) (hr : r ≤ 137438953472) (hp : p < 65536) (hk : k ≤ 3) :
    Calls Try.prog 49 #[.int .i64 r, .int .i64 p, .int .i64 k] w fun e w' => e = .returned (.bool (aboveN r p k)) ∧ Below w.heap.size w w' := by
  refine calls_by fun R HR => ?_
  go_enter Try.func49, Try.ntmps49
  go_wp2_with fail
  have HA : Hid (Rd natE ((w.alloc (.cells #[.int .i64 1] 3)).alloc (.cells #[.int .i64 (p : Nat)] 3)) (.slice (some ⟨w.heap.size, 0, none⟩) 1 1) (powL r 1 0) ∧ Rd natE ((w.alloc (.cells #[.int .i64 1] 3)).alloc (.cells #[.int .i64 (p : Nat)] 3)) (.slice (some ⟨w.heap.size + 1, 0, none⟩) 1 1) (powL 4294967296 p 0) ∧ Below w.heap.size w ((w.alloc (.cells #[.int .i64 1] 3)).alloc (.cells #[.int .i64 (p : Nat)] 3))) := Lib.hid
    ⟨Rd.single (E := natE) 1 (blk_keep (alloc_new _ _) _) rfl, Rd.single (E := natE) p (alloc_new2 _ _ _) rfl, (alloc_below _ _).alloc (by simp) _⟩
  generalize (w.alloc (.cells #[.int .i64 1] 3)).alloc (.cells #[.int .i64 (p : Nat)] 3) = W at *
  go_loopw [9, 7, 8] (fun i a b wx => ∃ j : Nat, j ≤ k ∧ i = .int .i64 j ∧ Hid (Rd natE wx a (powL r 1 j) ∧ Rd natE wx b (powL 4294967296 p j) ∧ Below w.heap.size w wx)) (fun i _ _ _ => k - (intOf i).toNat)
  case atStart => exact ⟨0, by omega, rfl, HA⟩
  case round =>
    obtain ⟨j, hj, rfl, hN⟩ := hrel
    by_cases hlt : j < k
    · have hlt2 : (j : Int) < (k : Int) := by omega
      have hD : Hid (digN (powL r 1 j) ∧ digN (powL 4294967296 p j) ∧ (powL r 1 j).length ≤ 1000 ∧ (powL 4294967296 p j).length ≤ 1000) := Lib.hid ⟨powL_dig _ _ _ (by decide), powL_dig _ _ _ hp, powL_len _ _ _ (by omega), powL_len _ _ _ (by omega)⟩
      go_wp2_with fail
      refine (times_any _ _ r _ hN.out.1 hD.out.1 hr hD.out.2.2.1).mono ?_
      rintro e w1 ⟨v1, rfl, hv1, hb1⟩
      have HM := Lib.hid (And.intro hv1 (And.intro (hN.out.2.1.below hb1) (hN.out.2.2.trans (hb1.mono hN.out.2.2.size))))
      clear hv1 hb1 hN
      go_wp2_with fail
      refine (times_any _ _ 4294967296 _ HM.out.2.1 hD.out.2.1 (by decide) hD.out.2.2.2).mono ?_
      rintro e w2 ⟨v2, rfl, hv2, hb2⟩
      have HM2 := Lib.hid (And.intro (HM.out.1.below hb2) (And.intro hv2 (HM.out.2.2.trans (hb2.mono HM.out.2.2.size))))
      clear hv2 hb2 HM
      go_wp2_with fail
      go_roundw
      case rel => exact ⟨j + 1, by omega, by go_num, HM2⟩
      case measure => simp [intOf]; omega
    · obtain rfl : j = k := by omega
      obtain ⟨a1, c1, rfl, _, _⟩ := hN.out.1.shape
      obtain ⟨a2, c2, rfl, _, _⟩ := hN.out.2.1.shape
      have hD : Hid ((powL r 1 j).length ≤ 1000 ∧ (powL 4294967296 p j).length ≤ 1000) := Lib.hid ⟨powL_len _ _ _ (by omega), powL_len _ _ _ (by omega)⟩
      have hval : Hid (aboveN r p j = cmpN (powL r 1 j) (powL 4294967296 p j) (max (powL r 1 j).length (powL 4294967296 p j).length)) := Lib.hid rfl
      generalize powL r 1 j = A at *
      generalize powL 4294967296 p j = B at *
      have hA := hD.out.1
      have hB := hD.out.2
      clear hD hlt HA
      have hcase : (A.length < B.length ∧ max A.length B.length = B.length) ∨ (¬ A.length < B.length ∧ max A.length B.length = A.length) := by omega
      rcases hcase with ⟨hab, hmx⟩ | ⟨hab, hmx⟩
      all_goals
        rw [hmx] at hval
        clear hmx
        go_wp2_with fail
        go_loopg [10] 1001 (fun g i wx => ∃ (m : Nat) (x : Int), i = .int .i64 x ∧ Hid (m ≤ g) ∧ x = (m : Int) - 1 ∧ m ≤ 1000 ∧ Hid (aboveN r p j = cmpN A B m) ∧ Hid (Rd natE wx (.slice a1 A.length c1) A ∧ Rd natE wx (.slice a2 B.length c2) B ∧ Below w.heap.size w wx))
        case atStart => exact ⟨_, _, rfl, Lib.hid (by omega), rfl, by omega, hval, hN⟩
        case round =>
          clear hval hN
          obtain ⟨m, x, rfl, hg, hx, hm, hval, hN⟩ := hrel
          cases m with
          | zero =>
            obtain rfl : x = -1 := by omega
            have hv := Lib.hid (show aboveN r p j = false by rw [hval.out]; rfl)
            clear hval hx
            go_wp2_with fail
            refine HR.out _ _ ⟨?_, hN.out.2.2⟩
            rw [hv.out]; rfl
          | succ m =>
            obtain rfl : x = (m : Int) := by omega
            clear hx
            go_wp2_with fail
            refine (digit_any A _ m _ hN.out.1 (by omega)).mono ?_
            rintro e w1 ⟨rfl, rfl⟩
            go_wp2_with fail
            refine (digit_any B _ m _ hN.out.2.1 (by omega)).mono ?_
            rintro e w1 ⟨rfl, rfl⟩
            have hv := hval.out
            rw [cmpN] at hv
            generalize digitN A m = da at *
            generalize digitN B m = db at *
            by_cases hd : da = db
            · subst hd
              have HV := Lib.hid (show aboveN r p j = cmpN A B m by rw [hv]; simp)
              clear hv hval
              go_wp2_with fail
              go_roundg (gk - 1)
              case rel => exact ⟨m, _, rfl, Lib.hid (by have := hg.out; omega), rfl, by omega, HV, hN⟩
              case measure => have := hg.out; omega
            · have HV := Lib.hid (show aboveN r p j = decide (db < da) by rw [hv, if_pos hd])
              have hne : ((da : Int) != (db : Int)) = true := by rw [bne_iff_ne]; omega
              clear hv hval hd
              go_wp2_with fail
              refine HR.out _ _ ⟨?_, hN.out.2.2⟩
              rw [HV.out]; rfl

theorem behindTo_succ (p k b r : Nat) : behindTo p k (b + 1) r = behindTo p k b (if aboveN (r + 2 ^ b) p k then r else r + 2 ^ b) := rfl
set_option maxHeartbeats 1000000 in
theorem behind_any (p k : Nat) (w : World) (hp : p < 65536) (hk : k ≤ 3) :
    Calls Try.prog 34 #[.int .i64 p, .int .i64 k] w fun e w' => e = .returned (.int .i64 (behindN p k : Nat)) ∧ Below w.heap.size w w' := by
  refine calls_by fun R HR => ?_
  go_enter Try.func34, Try.ntmps34
  go_wp2_with fail
  go_loopg [6, 5] 37 (fun g i v wx => ∃ (b r : Nat) (x : Int), i = .int .i64 x ∧ v = .int .i64 r ∧ x = (b : Int) - 1 ∧ b ≤ 36 ∧ Hid (b ≤ g ∧ r % 2 ^ b = 0 ∧ r < 68719476736) ∧ Hid (behindN p k = behindTo p k b r % 4294967296) ∧ Hid (Below w.heap.size w wx))
  case atStart => exact ⟨36, 0, 35, rfl, rfl, by omega, by omega, Lib.hid ⟨by omega, by decide, by decide⟩, Lib.hid rfl, Lib.hid (Below.refl _ _)⟩
  case round =>
    obtain ⟨b, r, x, rfl, rfl, hx, hb, hg, hv, hN⟩ := hrel
    cases b with
    | zero =>
      obtain rfl : x = -1 := by omega
      have HV := Lib.hid (show behindN p k = r % 4294967296 by rw [hv.out]; rfl)
      clear hv hx
      go_wp2_with fail
      refine HR.out _ _ ⟨?_, hN.out⟩
      rw [HV.out]; rfl
    | succ b =>
      obtain rfl : x = (b : Int) := by omega
      have hpb : r + 2 ^ b < 68719476736 ∧ r % 2 ^ b = 0 ∧ (r + 2 ^ b) % 2 ^ b = 0 := by
        obtain ⟨_, h1, h2⟩ := hg.out
        have e36 : (68719476736 : Nat) = 2 ^ 36 := by decide
        have e1 : 2 ^ (b + 1) = 2 ^ b * 2 := Nat.pow_succ 2 b
        have hpos : 0 < 2 ^ b := Nat.pow_pos (by decide)
        have hd1 : 2 ^ (b + 1) ∣ r := Nat.dvd_of_mod_eq_zero h1
        have hd2 : 2 ^ (b + 1) ∣ 2 ^ 36 := Nat.pow_dvd_pow 2 (by omega)
        have hle : r + 2 ^ (b + 1) ≤ 2 ^ 36 := by
          obtain ⟨q1, rfl⟩ := hd1
          obtain ⟨q2, hq2⟩ := hd2
          rw [e36, hq2] at h2
          have : q1 < q2 := Nat.lt_of_mul_lt_mul_left h2
          rw [hq2, ← Nat.mul_succ]
          exact Nat.mul_le_mul_left _ this
        have hd3 : 2 ^ b ∣ r := Nat.dvd_trans (Nat.pow_dvd_pow 2 (by omega)) hd1
        refine ⟨by rw [e36]; omega, Nat.mod_eq_zero_of_dvd hd3, ?_⟩
        rw [Nat.add_mod_right]; exact Nat.mod_eq_zero_of_dvd hd3
      have HPB := Lib.hid hpb
      have HS := Lib.hid (hv.out.trans (by rw [behindTo_succ]))
      have hz := hpb.1
      clear hpb hv hx
      go_wp2_with fail
      refine (pow_any b _ (by omega)).mono ?_
      rintro e w1 ⟨rfl, rfl⟩
      obtain ⟨q, hq⟩ : ∃ q, 2 ^ b = q := ⟨_, rfl⟩
      rw [hq] at HPB HS hz ⊢
      have HQ := Lib.hid hq
      clear hq
      go_wp2_with fail
      rw [show (r : Int) + (q : Int) = ((r + q : Nat) : Int) by omega]
      refine (above_any (r + q) p k _ (by omega) hp hk).mono ?_
      rintro e w1 ⟨rfl, hb1⟩
      have HM := Lib.hid (hN.out.trans (hb1.mono hN.out.size))
      clear hb1 hN
      cases hab : aboveN (r + q) p k
      · have HS2 := Lib.hid (show behindN p k = behindTo p k b (r + q) % 4294967296 by rw [HS.out, hab]; rfl)
        clear hab HS
        go_wp2_with fail
        go_roundg (gk - 1)
        case rel => exact ⟨b, r + q, _, rfl, by go_num, rfl, by omega, Lib.hid ⟨by have := hg.out.1; omega, by rw [HQ.out]; exact HPB.out.2.2, HPB.out.1⟩, HS2, HM⟩
        case measure => have := hg.out; omega
      · have HS2 := Lib.hid (show behindN p k = behindTo p k b r % 4294967296 by rw [HS.out, hab]; rfl)
        clear hab HS
        go_wp2_with fail
        go_roundg (gk - 1)
        case rel => exact ⟨b, r, _, rfl, rfl, rfl, by omega, Lib.hid ⟨by have := hg.out.1; omega, by rw [HQ.out]; exact HPB.out.2.1, by omega⟩, HS2, HM⟩
        case measure => have := hg.out; omega

/-- no number so far divides it -/
def noDiv (p d : Nat) : Prop := ∀ e, 2 ≤ e → e < d → ¬ (e * e ≤ p ∧ p % e = 0)
theorem isN_yes (p d : Nat) (h : noDiv p d) (hd : p < d * d) (hp : p < 400) : isN p = true := by
  unfold isN
  rw [List.all_eq_true]
  intro e he
  rw [List.mem_range] at he
  simp only [Bool.not_eq_true', Bool.and_eq_false_iff, decide_eq_false_iff_not]
  by_cases hde : e + 2 < d
  · have := h (e + 2) (by omega) hde
    by_cases h1 : (e + 2) * (e + 2) ≤ p
    · right; intro h2; exact this ⟨h1, h2⟩
    · left; exact h1
  · left
    have : d * d ≤ (e + 2) * (e + 2) := Nat.mul_le_mul (by omega) (by omega)
    omega
theorem isN_no (p d : Nat) (hd : 2 ≤ d) (h1 : d * d ≤ p) (h2 : p % d = 0) (hp : p < 400) : isN p = false := by
  have hd2 : d ≤ 20 := by
    rcases Nat.lt_or_ge 20 d with h | h
    · have := Nat.mul_le_mul h h; omega
    · exact h
  unfold isN
  rw [List.all_eq_false]
  refine ⟨d - 2, by rw [List.mem_range]; omega, ?_⟩
  have e : d - 2 + 2 = d := by omega
  simp [e, h1, h2]
set_option maxHeartbeats 1000000 in
theorem is_any (p : Nat) (w : World) (hp : p < 400) : Calls Try.prog 50 #[.int .i64 p] w fun e w' => e = .returned (.bool (isN p)) ∧ w' = w := by
  refine calls_by fun R HR => ?_
  go_enter Try.func50, Try.ntmps50
  go_wp2_with fail
  go_loop [3] (fun i => ∃ d : Nat, 2 ≤ d ∧ d ≤ 21 ∧ i = .int .i64 d ∧ Hid (noDiv p d)) (fun i => 22 - (intOf i).toNat)
  case atStart => exact ⟨2, by omega, by omega, rfl, Lib.hid fun e h1 h2 => by omega⟩
  case round =>
    obtain ⟨d, h2, h21, rfl, hN⟩ := hrel
    have hsq : wrap64 ((d : Int) * (d : Int)) = ((d * d : Nat) : Int) := wrapM d d (by have := Nat.mul_le_mul h21 h21; omega)
    obtain ⟨q, hq⟩ : ∃ q, d * d = q := ⟨_, rfl⟩
    rw [hq] at hsq
    by_cases hle : q ≤ p
    · by_cases hm : p % d = 0
      · have hv := Lib.hid (isN_no p d h2 (by rw [hq]; exact hle) hm hp)
        have hmd : (((p : Int) % (d : Int)) == 0) = true := by
          rw [beq_iff_eq]; exact_mod_cast hm
        clear hm hq
        go_wp2
        refine HR.out _ _ ⟨?_, rfl⟩
        rw [hv.out]
      · have hmd : (((p : Int) % (d : Int)) == 0) = false := by
          rw [beq_eq_false_iff_ne]; intro h; exact hm (by exact_mod_cast h)
        have hd20 : d ≤ 20 := by
          rcases Nat.lt_or_ge 20 d with h | h
          · have := Nat.mul_le_mul h h; omega
          · exact h
        have hN2 : Hid (noDiv p (d + 1)) := Lib.hid fun e h1 h3 => by
          by_cases he : e = d
          · subst he; exact fun h => hm h.2
          · exact hN.out e h1 (by omega)
        clear hm hq
        go_wp2
        go_round
        case rel => exact ⟨d + 1, by omega, by omega, by go_num, hN2⟩
        case measure => simp [intOf]; omega
    · have hv := Lib.hid (isN_yes p d hN.out (by rw [hq]; omega) hp)
      clear hq
      go_wp2
      refine HR.out _ _ ⟨?_, rfl⟩
      rw [hv.out]

theorem primes_at (k : Nat) (h : k < 64) : aheadN (k + 1) = primesN.getD k 0 := by simp [aheadN]
set_option maxHeartbeats 1000000 in
theorem prime_any (n : Nat) (w : World) (hn : n < 64) : Calls Try.prog 35 #[.int .i64 n] w fun e w' => e = .returned (.int .i64 (primesN.getD n 0 : Nat)) ∧ w' = w := by
  refine calls_by fun R HR => ?_
  go_enter Try.func35, Try.ntmps35
  go_wp2_with fail
  go_loopw [4, 3] (fun i x wx => ∃ (k p : Nat), k ≤ n + 1 ∧ i = .int .i64 k ∧ x = .int .i64 p ∧ Hid (p = aheadN k) ∧ wx = w) (fun i _ _ => n + 1 - (intOf i).toNat)
  case atStart => exact ⟨0, 1, by omega, rfl, rfl, Lib.hid rfl, rfl⟩
  case round =>
    obtain ⟨k, p, hk, rfl, rfl, hp, rfl⟩ := hrel
    by_cases hlt : k ≤ n
    · obtain ⟨h1, h2, h3, h4⟩ := primes_right k (by omega)
      rw [← hp.out] at h1 h4
      have HX := Lib.hid (primes_at k (by omega))
      obtain ⟨P, hP⟩ : ∃ P, primesN.getD k 0 = P := ⟨_, rfl⟩
      rw [hP] at h1 h2 h3 h4 HX
      have H2 := Lib.hid h2
      have H4 := Lib.hid h4
      clear h2 h4 hP
      go_wp2_with fail
      go_loopw [3] (fun x wx => ∃ (q : Nat), x = .int .i64 q ∧ p < q ∧ q ≤ P ∧ wx = wr) (fun x _ => P - (intOf x).toNat)
      case atStart => exact ⟨p + 1, by go_num, by omega, by omega, rfl⟩
      case round =>
        obtain ⟨q, rfl, hq1, hq2, rfl⟩ := hrel
        by_cases hq : q = P
        · subst hq
          go_wp2_with fail
          refine (is_any q _ (by omega)).mono ?_
          rintro e w1 ⟨rfl, rfl⟩
          rw [H2.out]
          go_wp2_with fail
          exact ⟨⟨k + 1, q, by omega, by go_num, rfl, Lib.hid HX.out.symm, trivial⟩, by simp [intOf]; omega⟩
        · have hno := Lib.hid (H4.out q (by omega) hq1 (by omega))
          have hqP : q < P := by omega
          clear hq
          go_wp2_with fail
          refine (is_any q _ (by omega)).mono ?_
          rintro e w1 ⟨rfl, rfl⟩
          rw [hno.out]
          go_wp2_with fail
          go_roundw
          case rel => exact ⟨q + 1, by go_num, by omega, by omega, trivial⟩
          case measure => simp [intOf]; omega
    · obtain rfl : k = n + 1 := by omega
      have HX := Lib.hid (primes_at n (by omega))
      go_wp2
      refine HR.out _ _ ⟨?_, rfl⟩
      rw [← HX.out, ← hp.out]; rfl

set_option maxHeartbeats 1000000 in
theorem round_any (n : Nat) (w : World) (hn : n < 64) : Calls Try.prog 33 #[.int .i64 n] w fun e w' => e = .returned (.int .i64 (kays.getD n 0 : Nat)) ∧ Below w.heap.size w w' := by
  refine calls_by fun R HR => ?_
  have HP := Lib.hid (primes_right n hn)
  have HC := Lib.hid (cubes_right n hn)
  go_enter Try.func33, Try.ntmps33
  go_wp2_with fail
  refine (prime_any n _ hn).mono ?_
  rintro e w1 ⟨rfl, rfl⟩
  generalize primesN.getD n 0 = P at *
  go_wp2_with fail
  refine (behind_any P 3 _ (by have := HP.out.2.2.1; omega) (by decide)).mono ?_
  rintro e w1 ⟨rfl, hb⟩
  rw [HC.out]
  go_wp2
  exact HR.out _ _ ⟨rfl, hb⟩

set_option maxHeartbeats 1000000 in
theorem right_any (w : World) : Calls Try.prog 14 #[] w fun e w' => e = .returned (.bool true) ∧ Below w.heap.size w w' := by
  refine calls_by fun R HR => ?_
  go_enter Try.func14, Try.ntmps14
  go_wp2_with fail
  refine (rounds_any _).mono ?_
  rintro e w1 ⟨rfl, hb⟩
  have HB := Lib.hid hb
  clear hb
  obtain ⟨CK, hCK⟩ : ∃ CK, i64s kays = CK := ⟨_, rfl⟩
  rw [hCK]
  have HCK : Hid (i64s kays = CK ∧ CK.size = 64) := Lib.hid ⟨hCK, by rw [← hCK]; rfl⟩
  clear hCK
  go_wp2_with (refine wpList_storeN rfl 53 (.tmp 1) (.tmp 3) rfl 53 _ CK 64 rfl rfl (by kernel_rfl) HCK.out.2 rfl (by rw [← HCK.out.1]; exact i64s_one _) ?_)
  have HF := Lib.hid (And.intro (show NumsI (w1.alloc (.cells CK 53)) w1.heap.size 53 kays by rw [← HCK.out.1]; exact NumsI.new _ _ _) (And.intro (HB.out.trans ((alloc_below w1 (.cells CK 53)).mono HB.out.size)) HB.out.size))
  generalize w1.alloc (.cells CK 53) = W at *
  generalize w1.heap.size = b at *
  go_loopw [2] (fun i wx => ∃ k : Nat, k ≤ 64 ∧ i = .int .i64 k ∧ Hid (NumsI wx b 53 kays ∧ Below w.heap.size w wx ∧ w.heap.size ≤ b)) (fun i _ => 64 - (intOf i).toNat)
  case atStart => exact ⟨0, by omega, rfl, HF⟩
  case round =>
    obtain ⟨k, hk, rfl, hN⟩ := hrel
    by_cases hlt : k < 64
    · have ck := hN.out.1.cell k hlt
      obtain ⟨x, hx⟩ : ∃ x, kays.getD k 0 = x := ⟨_, rfl⟩
      rw [hx] at ck
      have cp := fun p => after_cell ck p
      have TC := Lib.hid fun p => calls_after (p := p) (round_any k (After wr p) hlt)
      rw [hx] at TC
      have hne : ((x : Int) != (x : Int)) = false := by simp
      clear ck hx
      go_wp2_with fail
      refine wp_region_after (by kernel_rfl) (by kernel_rfl) ?_
      repeat (quiet_step (fail))
      quiet_step (exact TC.out _)
      repeat (quiet_step (fail))
      refine wpQuiet_nil ?_
      rintro v1 ⟨p, rfl⟩
      have hb1 := after_below wr p
      have HM := Lib.hid (And.intro (hN.out.1.keep hb1) (And.intro (hN.out.2.1.trans (hb1.mono hN.out.2.1.size)) hN.out.2.2))
      clear hb1 hN cp TC
      generalize After wr p = v1 at *
      go_wp2_with fail
      go_roundw
      case rel => exact ⟨k + 1, by omega, by go_num, HM⟩
      case measure => simp [intOf]; omega
    · obtain rfl : k = 64 := by omega
      go_wp2
      exact HR.out _ _ ⟨rfl, hN.out.2.1⟩

set_option maxHeartbeats 1000000 in
theorem roots_any (w : World) : Calls Try.prog 15 #[] w fun e w' => e = .returned (.bool true) ∧ Below w.heap.size w w' := by
  refine calls_by fun R HR => ?_
  go_enter Try.func15, Try.ntmps15
  go_wp2_with fail
  refine (begin_any _).mono ?_
  rintro e w1 ⟨rfl, hb⟩
  have HB := Lib.hid hb
  clear hb
  obtain ⟨CK, hCK⟩ : ∃ CK, i64s st0.list = CK := ⟨_, rfl⟩
  rw [hCK]
  have HCK : Hid (i64s st0.list = CK ∧ CK.size = 8) := Lib.hid ⟨hCK, by rw [← hCK]; rfl⟩
  clear hCK
  go_wp2_with (refine wpList_storeN rfl 37 (.tmp 1) (.tmp 3) rfl 37 _ CK 8 rfl rfl (by kernel_rfl) HCK.out.2 rfl (by rw [← HCK.out.1]; exact i64s_one _) ?_)
  have HF := Lib.hid (And.intro (show NumsI (w1.alloc (.cells CK 37)) w1.heap.size 37 st0.list by rw [← HCK.out.1]; exact NumsI.new _ _ _) (And.intro (HB.out.trans ((alloc_below w1 (.cells CK 37)).mono HB.out.size)) HB.out.size))
  generalize w1.alloc (.cells CK 37) = W at *
  generalize w1.heap.size = b at *
  go_loopw [2] (fun i wx => ∃ k : Nat, k ≤ 8 ∧ i = .int .i64 k ∧ Hid (NumsI wx b 37 st0.list ∧ Below w.heap.size w wx ∧ w.heap.size ≤ b)) (fun i _ => 8 - (intOf i).toNat)
  case atStart => exact ⟨0, by omega, rfl, HF⟩
  case round =>
    obtain ⟨k, hk, rfl, hN⟩ := hrel
    by_cases hlt : k < 8
    · have ck := hN.out.1.cell k hlt
      have HP := Lib.hid (primes_right k (by omega))
      have HC := Lib.hid (squares_right k hlt)
      obtain ⟨x, hx⟩ : ∃ x, st0.list.getD k 0 = x := ⟨_, rfl⟩
      rw [hx] at ck HC
      have cp := fun p => after_cell ck p
      have TP := Lib.hid fun p => calls_after (p := p) ((prime_any k (After wr p) (by omega)).mono fun e w' ⟨h1, h2⟩ => ⟨h1, by rw [h2]; exact Below.refl _ _⟩)
      have TC := Lib.hid fun p => calls_after (p := p) (behind_any (primesN.getD k 0) 2 (After wr p) (by have := HP.out.2.2.1; omega) (by decide))
      rw [HC.out] at TC
      have hne : ((x : Int) != (x : Int)) = false := by simp
      clear ck hx
      go_wp2_with fail
      refine wp_region_after (by kernel_rfl) (by kernel_rfl) ?_
      repeat (quiet_step (fail))
      quiet_step (exact TP.out _)
      repeat (quiet_step (fail))
      quiet_step (exact TC.out _)
      repeat (quiet_step (fail))
      refine wpQuiet_nil ?_
      rintro v1 ⟨p, rfl⟩
      have hb1 := after_below wr p
      have HM := Lib.hid (And.intro (hN.out.1.keep hb1) (And.intro (hN.out.2.1.trans (hb1.mono hN.out.2.1.size)) hN.out.2.2))
      clear hb1 hN cp TC
      generalize After wr p = v1 at *
      go_wp2_with fail
      go_roundw
      case rel => exact ⟨k + 1, by omega, by go_num, HM⟩
      case measure => simp [intOf]; omega
    · obtain rfl : k = 8 := by omega
      go_wp2
      exact HR.out _ _ ⟨rfl, hN.out.2.1⟩
end Go.Proofs.Ytdinijgjkakeiaa
