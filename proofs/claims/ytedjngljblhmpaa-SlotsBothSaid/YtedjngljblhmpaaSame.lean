/- Secrets held against each other: same.Equal, same.Any. -/
import Derived.Test.YtedjngljblhmpaaProg
import Derived.Test.YtedjngljblhmpaaSamePlain
import Derived.Test.YtedjngljblhmpaaAfter
import Derived.Test.YtedjngljblhmpaaSeqObj
import Derived.BigQuiet
namespace Go.Proofs.Ytedjngljblhmpaa
open Go.RowKit Ks
set_option linter.unusedVariables false
theorem blk_below {w w1 : World} {b : Nat} {o : Obj} (hb : Below w.heap.size w w1) (h : w.heap[b]? = some o) : w1.heap[b]? = some o := (hb.block b (Array.getElem?_eq_some_iff.1 h).1).trans h
theorem drewN_below (w : World) (n : Nat) : Below w.heap.size w (w.drewN n) := ⟨rfl, rfl, rfl, Nat.le_refl _, fun _ _ => rfl⟩
theorem nought_any (b : Nat) (w : World) (hb : b < 256) : Calls Try.prog 42 #[.int .u8 (b : Int)] w fun e w' => e = .returned (.int .i64 (noughtN b : Nat)) ∧ w' = w := by
  refine calls_by fun R HR => ?_
  by_cases h : b = 0
  · subst h
    go_enter Try.func42, Try.ntmps42
    go_wp2
    exact HR.out _ _ ⟨rfl, rfl⟩
  · have HN := Lib.hid (show noughtN b = 0 by rw [noughtN, if_neg h])
    have hpos : 0 < b := by omega
    have hdiv : ((b : Int) - 1) / 256 = 0 := Int.ediv_eq_zero_of_lt (by omega) (by omega)
    go_enter Try.func42, Try.ntmps42
    go_wp2
    exact HR.out _ _ ⟨by rw [HN.out]; rfl, rfl⟩
set_option maxHeartbeats 1000000 in
theorem gather_any (g : Nat) (lb : Array Value) (eg : ∀ args w, (callFunc g args).run Try.prog w = .ok (.enter g args) w) (f : Nat → Nat) (hf : ∀ k, f k < 256) (n : Nat) (hn : n ≤ 9223372036854775807) (w : World)
    (hc : ∀ (k : Nat) (wx : World), k < n → Below w.heap.size w wx → Calls Try.prog g (#[.int .i64 (k : Int)] ++ lb) wx fun e w'' => e = .returned (.int .u8 (f k : Nat)) ∧ Below wx.heap.size wx w'') :
    Calls Try.prog 43 #[.int .i64 (n : Int), .func (.func g) #[] lb] w fun e w' => e = .returned (.int .u8 (orTo f n : Nat)) ∧ Below w.heap.size w w' := by
  refine calls_by fun R HR => ?_
  have HC := Lib.hid hc
  have HF := Lib.hid hf
  clear hc hf
  go_enter Try.func43, Try.ntmps43
  go_wp2_with fail
  go_loopw [5, 8] (fun x i wx => ∃ (k v : Nat), k ≤ n ∧ i = .int .i64 k ∧ x = .int .u8 (v : Nat) ∧ Hid (v = orTo f k ∧ Below w.heap.size w wx)) (fun _ i _ => n - (intOf i).toNat)
  case atStart => exact ⟨0, 0, by omega, rfl, rfl, Lib.hid ⟨rfl, Below.refl _ _⟩⟩
  case round =>
    obtain ⟨k, v, hk, rfl, rfl, hN⟩ := hrel
    by_cases hlt : k < n
    · have hki : (k : Int) < (n : Int) := by omega
      have TC := Lib.hid (HC.out k wr hlt hN.out.2)
      go_wp2_with fail
      refine TC.out.mono ?_
      rintro e w2 ⟨rfl, hb⟩
      have hv : v < 256 := by rw [hN.out.1]; exact orTo_lt f k fun k _ => HF.out k
      have hor := or_u8 v (f k) hv (HF.out k)
      have HM := Lib.hid (And.intro (show v ||| f k = orTo f (k + 1) by rw [orTo, hN.out.1]) (hN.out.2.trans (hb.mono hN.out.2.size)))
      clear hb hv
      generalize f k = y at *
      go_wp2_with fail
      go_roundw
      case rel => exact ⟨k + 1, _, by omega, by go_num, rfl, HM⟩
      case measure => simp [intOf]; omega
    · obtain rfl : k = n := by omega
      go_wp2
      exact HR.out _ _ ⟨by rw [hN.out.1]; rfl, hN.out.2⟩
theorem any1_any (s : ByteArray) (b : Nat) (k : Nat) (w : World) (hk : k < s.size) (hb : w.cell? ⟨b, 0, none⟩ = some (.string s)) : Calls Try.prog 44 #[.int .i64 (k : Int), .pointer (some ⟨b, 0, none⟩)] w fun e w' => e = .returned (.int .u8 (byteN s k : Nat)) ∧ Below w.heap.size w w' := by
  refine calls_by fun R HR => ?_
  have HB := Lib.hid (byteN_get s k hk)
  have hki : (k : Int) < (s.size : Int) := by omega
  go_enter Try.func44, Try.ntmps44
  go_wp2
  exact HR.out _ _ ⟨by rw [HB.out] <;> rfl, Below.refl _ _⟩
theorem bit1_any (s t : ByteArray) (b c : Nat) (k : Nat) (w : World) (hk : k < s.size) (hk2 : k < t.size) (hb : w.cell? ⟨b, 0, none⟩ = some (.string s)) (hc : w.cell? ⟨c, 0, none⟩ = some (.string t)) :
    Calls Try.prog 59 #[.int .i64 (k : Int), .pointer (some ⟨b, 0, none⟩), .pointer (some ⟨c, 0, none⟩)] w fun e w' => e = .returned (.int .u8 ((byteN s k ^^^ byteN t k : Nat))) ∧ Below w.heap.size w w' := by
  refine calls_by fun R HR => ?_
  have HB := Lib.hid (And.intro (byteN_get s k hk) (byteN_get t k hk2))
  have hx := xor_u8 (s[k]).toNat (t[k]).toNat (UInt8.toNat_lt _) (UInt8.toNat_lt _)
  have hki : (k : Int) < (s.size : Int) := by omega
  have hki2 : (k : Int) < (t.size : Int) := by omega
  go_enter Try.func59, Try.ntmps59
  go_wp2_with fail
  go_quiet (fail)
  go_wp2
  exact HR.out _ _ ⟨by rw [HB.out.1, HB.out.2] <;> rfl, drewN_below w _⟩

set_option maxHeartbeats 1000000 in
theorem sany_any (s : ByteArray) (hs : s.size ≤ 9223372036854775807) (w : World) : Calls Try.prog 27 #[.string s] w fun e w' => e = .returned (.int .i64 (anyN s : Nat)) ∧ Below w.heap.size w w' := by
  refine calls_by fun R HR => ?_
  have HS := Lib.hid hs
  have HA := Lib.hid (any_eq s)
  have hlt := Lib.hid (orTo_lt (fun k => byteN s k) s.size fun k _ => byteN_lt s k)
  obtain ⟨W, hW⟩ : ∃ W, w.alloc (.cells #[.string s] 9) = W := ⟨_, rfl⟩
  have hb : Below w.heap.size w W := by rw [← hW]; exact alloc_below w _
  have hk : W.heap[w.heap.size]? = some (.cells #[.string s] 9 (0, 0)) := by rw [← hW]; exact alloc_new w _
  have H1 := Lib.hid (And.intro hb hk)
  obtain ⟨c0, -⟩ := blk1 hk
  clear hb hk hs
  go_enter Try.func27, Try.ntmps27
  go_wp2_with fail
  refine (gather_any 44 #[.pointer (some ⟨w.heap.size, 0, none⟩)] (fun _ _ => rfl) (fun k => byteN s k) (byteN_lt s) s.size HS.out W (fun k wx hk hb => any1_any s w.heap.size k wx hk (by obtain ⟨c0, -⟩ := blk1 (blk_below hb H1.out.2); exact c0))).mono ?_
  rintro e w1 ⟨rfl, hb1⟩
  have H2 := Lib.hid (H1.out.1.trans (hb1.mono H1.out.1.size))
  clear hb1
  go_wp2_with fail
  refine (nought_any _ _ hlt.out).mono ?_
  rintro e w2 ⟨rfl, rfl⟩
  rw [HA.out]
  have hv : anyN s = 0 ∨ anyN s = 1 := by unfold anyN; split <;> simp
  rcases hv with hv | hv
  all_goals
    rw [hv]
    have HV := Lib.hid hv
    clear hv
    go_wp2
    exact HR.out _ _ ⟨by rw [HV.out]; rfl, H2.out⟩
set_option maxHeartbeats 1000000 in
theorem sbit_any (s t : ByteArray) (hs : s.size ≤ 9223372036854775807) (w : World) : Calls Try.prog 45 #[.string s, .string t] w fun e w' => e = .returned (.int .i64 (bitN s t : Nat)) ∧ Below w.heap.size w w' := by
  refine calls_by fun R HR => ?_
  have HS := Lib.hid hs
  obtain ⟨W, hW⟩ : ∃ W, w.alloc (.cells #[.string s] 9) = W := ⟨_, rfl⟩
  have hb : Below w.heap.size w W := by rw [← hW]; exact alloc_below w _
  have hk : W.heap[w.heap.size]? = some (.cells #[.string s] 9 (0, 0)) := by rw [← hW]; exact alloc_new w _
  obtain ⟨W2, hW2⟩ : ∃ W2, W.alloc (.cells #[.string t] 9) = W2 := ⟨_, rfl⟩
  have hb2 : Below W.heap.size W W2 := by rw [← hW2]; exact alloc_below W _
  have hk2 : W2.heap[W.heap.size]? = some (.cells #[.string t] 9 (0, 0)) := by rw [← hW2]; exact alloc_new W _
  have H1 := Lib.hid (And.intro (hb.trans (hb2.mono hb.size)) (And.intro (blk_below hb2 hk) hk2))
  obtain ⟨c0, -⟩ := blk1 H1.out.2.1
  obtain ⟨d0, -⟩ := blk1 H1.out.2.2
  clear hb hk hs hb2 hk2
  by_cases hz : s.size = t.size
  · have HA := Lib.hid (bit_eq s t hz)
    have hlt := Lib.hid (orTo_lt (fun k => byteN s k ^^^ byteN t k) s.size fun k _ => Nat.xor_lt_two_pow (n := 8) (byteN_lt s k) (byteN_lt t k))
    have hzb : ((s.size : Int) != (t.size : Int)) = false := by rw [hz]; simp
    have HZ := Lib.hid hz
    clear hz
    go_enter Try.func45, Try.ntmps45
    go_wp2_with fail
    refine (gather_any 59 #[.pointer (some ⟨w.heap.size, 0, none⟩), .pointer (some ⟨W.heap.size, 0, none⟩)] (fun _ _ => rfl) (fun k => byteN s k ^^^ byteN t k) (fun k => Nat.xor_lt_two_pow (n := 8) (byteN_lt s k) (byteN_lt t k)) s.size HS.out W2
      (fun k wx hk hb => bit1_any s t w.heap.size W.heap.size k wx hk (by rw [← HZ.out]; exact hk) (by obtain ⟨c0, -⟩ := blk1 (blk_below hb H1.out.2.1); exact c0) (by obtain ⟨c0, -⟩ := blk1 (blk_below hb H1.out.2.2); exact c0))).mono ?_
    rintro e w1 ⟨rfl, hb1⟩
    have H2 := Lib.hid (H1.out.1.trans (hb1.mono H1.out.1.size))
    clear hb1
    go_wp2_with fail
    refine (nought_any _ _ hlt.out).mono ?_
    rintro e w2 ⟨rfl, rfl⟩
    rw [HA.out]
    go_wp2
    exact HR.out _ _ ⟨rfl, H2.out⟩
  · have hzb : ((s.size : Int) != (t.size : Int)) = true := by rw [bne_iff_ne]; omega
    have HV := Lib.hid (show bitN s t = 0 by rw [bitN, if_neg fun e => hz (by rw [e])])
    clear hz
    go_enter Try.func45, Try.ntmps45
    go_wp2
    exact HR.out _ _ ⟨by rw [HV.out]; rfl, H1.out.1⟩
theorem sequal_any (s t : ByteArray) (hs : s.size ≤ 9223372036854775807) (w : World) : Calls Try.prog 29 #[.string s, .string t] w fun e w' => e = .returned (.bool (decide (s = t))) ∧ Below w.heap.size w w' := by
  refine calls_by fun R HR => ?_
  have HB := Lib.hid (sbit_any s t hs w)
  clear hs
  by_cases h : s = t
  · have hv : bitN s t = 1 := by rw [bitN, if_pos h]
    have HV := Lib.hid (show decide (s = t) = true by simp [h])
    rw [hv] at HB
    clear h hv
    go_enter Try.func29, Try.ntmps29
    go_wp2_with fail
    refine HB.out.mono ?_
    rintro e w1 ⟨rfl, hb1⟩
    have H2 := Lib.hid hb1
    clear hb1
    go_wp2
    exact HR.out _ _ ⟨by rw [HV.out]; rfl, H2.out⟩
  · have hv : bitN s t = 0 := by rw [bitN, if_neg h]
    have HV := Lib.hid (show decide (s = t) = false by simp [h])
    rw [hv] at HB
    clear h hv
    go_enter Try.func29, Try.ntmps29
    go_wp2_with fail
    refine HB.out.mono ?_
    rintro e w1 ⟨rfl, hb1⟩
    have H2 := Lib.hid hb1
    clear hb1
    go_wp2
    exact HR.out _ _ ⟨by rw [HV.out]; rfl, H2.out⟩
end Go.Proofs.Ytedjngljblhmpaa
