/- Texts that the claim rests on, part 9: Same, SlotTake, JrnClose, JrnTold, JrnDead, RangeSeen. -/
import Derived.Test.YteppfjgglelpbaaGreatProg
import Derived.BigQuiet
import Derived.Test.YteppfjgglelpbaaGreatShelf
import Derived.RangeFuncNested
import Derived.RangeFuncBound
import Derived.RangeFuncCalls
import Derived.RangeFuncLeaves
import Derived.Test.YteppfjgglelpbaaGreatM8
/- Secrets held against each other: same.Equal, same.Any. -/
set_option maxRecDepth 100000
namespace Go.Proofs.YteppfjgglelpbaaGreat
open Go.RowKit Ks
set_option linter.unusedVariables false
theorem blk_below {w w1 : World} {b : Nat} {o : Obj} (hb : Below w.heap.size w w1) (h : w.heap[b]? = some o) : w1.heap[b]? = some o := (hb.block b (Array.getElem?_eq_some_iff.1 h).1).trans h
theorem drewN_below (w : World) (n : Nat) : Below w.heap.size w (w.drewN n) := ⟨rfl, rfl, rfl, Nat.le_refl _, fun _ _ => rfl⟩
theorem nought_any (b : Nat) (w : World) (hb : b < 256) : Calls Tryz.prog 125 #[.int .u8 (b : Int)] w fun e w' => e = .returned (.int .i64 (noughtN b : Nat)) ∧ w' = w := by
  refine calls_by fun R HR => ?_
  by_cases h : b = 0
  · subst h
    go_enter Tryz.func125, Tryz.ntmps125
    go_wp2
    exact HR.out _ _ ⟨rfl, rfl⟩
  · have HN := Lib.hid (show noughtN b = 0 by rw [noughtN, if_neg h])
    have hpos : 0 < b := by omega
    have hdiv : ((b : Int) - 1) / 256 = 0 := Int.ediv_eq_zero_of_lt (by omega) (by omega)
    go_enter Tryz.func125, Tryz.ntmps125
    go_wp2
    exact HR.out _ _ ⟨by rw [HN.out]; rfl, rfl⟩
set_option maxHeartbeats 1000000 in
theorem gather_any (g : Nat) (lb : Array Value) (eg : ∀ args w, (callFunc g args).run Tryz.prog w = .ok (.enter g args) w) (f : Nat → Nat) (hf : ∀ k, f k < 256) (n : Nat) (hn : n ≤ 9223372036854775807) (w : World)
    (hc : ∀ (k : Nat) (wx : World), k < n → Below w.heap.size w wx → Calls Tryz.prog g (#[.int .i64 (k : Int)] ++ lb) wx fun e w'' => e = .returned (.int .u8 (f k : Nat)) ∧ Below wx.heap.size wx w'') :
    Calls Tryz.prog 126 #[.int .i64 (n : Int), .func (.func g) #[] lb] w fun e w' => e = .returned (.int .u8 (orTo f n : Nat)) ∧ Below w.heap.size w w' := by
  refine calls_by fun R HR => ?_
  have HC := Lib.hid hc
  have HF := Lib.hid hf
  clear hc hf
  go_enter Tryz.func126, Tryz.ntmps126
  go_wp2_with fail
  go_loopw [5, 8] (fun x i wx => ∃ (k v : Nat), k ≤ n ∧ i = .int .i64 k ∧ x = .int .u8 (v : Nat) ∧ Hid (v = orTo f k ∧ Below w.heap.size w wx)) (fun _ i _ => n - (intOf i).toNat)
  case atStart => exact ⟨0, 0, by omega, rfl, rfl, Lib.hid ⟨rfl, Below.refl _ _⟩⟩
  case round =>
    obtain ⟨k, v, hk, rfl, rfl, hN⟩ := hrel
    by_cases hlt : k < n
    · have hki : (k : Int) < (n : Int) := by omega
      have TC := Lib.hid (HC.out k wr hlt hN.out.2)
      go_wp2_with fail
      refine TC.out.mono ?_
      rintro e w2 ⟨rfl, hb⟩
      have hv : v < 256 := by rw [hN.out.1]; exact orTo_lt f k fun k _ => HF.out k
      have hor := or_u8 v (f k) hv (HF.out k)
      have HM := Lib.hid (And.intro (show v ||| f k = orTo f (k + 1) by rw [orTo, hN.out.1]) (hN.out.2.trans (hb.mono hN.out.2.size)))
      clear hb hv
      generalize f k = y at *
      go_wp2_with fail
      go_roundw
      case rel => exact ⟨k + 1, _, by omega, by go_num, rfl, HM⟩
      case measure => simp [intOf]; omega
    · obtain rfl : k = n := by omega
      go_wp2
      exact HR.out _ _ ⟨by rw [hN.out.1]; rfl, hN.out.2⟩
theorem any1_any (s : ByteArray) (b : Nat) (k : Nat) (w : World) (hk : k < s.size) (hb : w.cell? ⟨b, 0, none⟩ = some (.string s)) : Calls Tryz.prog 127 #[.int .i64 (k : Int), .pointer (some ⟨b, 0, none⟩)] w fun e w' => e = .returned (.int .u8 (byteN s k : Nat)) ∧ Below w.heap.size w w' := by
  refine calls_by fun R HR => ?_
  have HB := Lib.hid (byteN_get s k hk)
  have hki : (k : Int) < (s.size : Int) := by omega
  go_enter Tryz.func127, Tryz.ntmps127
  go_wp2
  exact HR.out _ _ ⟨by rw [HB.out] <;> rfl, Below.refl _ _⟩
theorem bit1_any (s t : ByteArray) (b c : Nat) (k : Nat) (w : World) (hk : k < s.size) (hk2 : k < t.size) (hb : w.cell? ⟨b, 0, none⟩ = some (.string s)) (hc : w.cell? ⟨c, 0, none⟩ = some (.string t)) :
    Calls Tryz.prog 131 #[.int .i64 (k : Int), .pointer (some ⟨b, 0, none⟩), .pointer (some ⟨c, 0, none⟩)] w fun e w' => e = .returned (.int .u8 ((byteN s k ^^^ byteN t k : Nat))) ∧ Below w.heap.size w w' := by
  refine calls_by fun R HR => ?_
  have HB := Lib.hid (And.intro (byteN_get s k hk) (byteN_get t k hk2))
  have hx := xor_u8 (s[k]).toNat (t[k]).toNat (UInt8.toNat_lt _) (UInt8.toNat_lt _)
  have hki : (k : Int) < (s.size : Int) := by omega
  have hki2 : (k : Int) < (t.size : Int) := by omega
  go_enter Tryz.func131, Tryz.ntmps131
  go_wp2_with fail
  go_quiet (fail)
  go_wp2
  exact HR.out _ _ ⟨by rw [HB.out.1, HB.out.2] <;> rfl, drewN_below w _⟩

set_option maxHeartbeats 1000000 in
theorem sany_any (s : ByteArray) (hs : s.size ≤ 9223372036854775807) (w : World) : Calls Tryz.prog 115 #[.string s] w fun e w' => e = .returned (.int .i64 (anyN s : Nat)) ∧ Below w.heap.size w w' := by
  refine calls_by fun R HR => ?_
  have HS := Lib.hid hs
  have HA := Lib.hid (any_eq s)
  have hlt := Lib.hid (orTo_lt (fun k => byteN s k) s.size fun k _ => byteN_lt s k)
  obtain ⟨W, hW⟩ : ∃ W, w.alloc (.cells #[.string s] 9) = W := ⟨_, rfl⟩
  have hb : Below w.heap.size w W := by rw [← hW]; exact alloc_below w _
  have hk : W.heap[w.heap.size]? = some (.cells #[.string s] 9 (0, 0)) := by rw [← hW]; exact alloc_new w _
  have H1 := Lib.hid (And.intro hb hk)
  obtain ⟨c0, -⟩ := blk1 hk
  clear hb hk hs
  go_enter Tryz.func115, Tryz.ntmps115
  go_wp2_with fail
  refine (gather_any 127 #[.pointer (some ⟨w.heap.size, 0, none⟩)] (fun _ _ => rfl) (fun k => byteN s k) (byteN_lt s) s.size HS.out W (fun k wx hk hb => any1_any s w.heap.size k wx hk (by obtain ⟨c0, -⟩ := blk1 (blk_below hb H1.out.2); exact c0))).mono ?_
  rintro e w1 ⟨rfl, hb1⟩
  have H2 := Lib.hid (H1.out.1.trans (hb1.mono H1.out.1.size))
  clear hb1
  go_wp2_with fail
  refine (nought_any _ _ hlt.out).mono ?_
  rintro e w2 ⟨rfl, rfl⟩
  rw [HA.out]
  have hv : anyN s = 0 ∨ anyN s = 1 := by unfold anyN; split <;> simp
  rcases hv with hv | hv
  all_goals
    rw [hv]
    have HV := Lib.hid hv
    clear hv
    go_wp2
    exact HR.out _ _ ⟨by rw [HV.out]; rfl, H2.out⟩
set_option maxHeartbeats 1000000 in
theorem sbit_any (s t : ByteArray) (hs : s.size ≤ 9223372036854775807) (w : World) : Calls Tryz.prog 128 #[.string s, .string t] w fun e w' => e = .returned (.int .i64 (bitN s t : Nat)) ∧ Below w.heap.size w w' := by
  refine calls_by fun R HR => ?_
  have HS := Lib.hid hs
  obtain ⟨W, hW⟩ : ∃ W, w.alloc (.cells #[.string s] 9) = W := ⟨_, rfl⟩
  have hb : Below w.heap.size w W := by rw [← hW]; exact alloc_below w _
  have hk : W.heap[w.heap.size]? = some (.cells #[.string s] 9 (0, 0)) := by rw [← hW]; exact alloc_new w _
  obtain ⟨W2, hW2⟩ : ∃ W2, W.alloc (.cells #[.string t] 9) = W2 := ⟨_, rfl⟩
  have hb2 : Below W.heap.size W W2 := by rw [← hW2]; exact alloc_below W _
  have hk2 : W2.heap[W.heap.size]? = some (.cells #[.string t] 9 (0, 0)) := by rw [← hW2]; exact alloc_new W _
  have H1 := Lib.hid (And.intro (hb.trans (hb2.mono hb.size)) (And.intro (blk_below hb2 hk) hk2))
  obtain ⟨c0, -⟩ := blk1 H1.out.2.1
  obtain ⟨d0, -⟩ := blk1 H1.out.2.2
  clear hb hk hs hb2 hk2
  by_cases hz : s.size = t.size
  · have HA := Lib.hid (bit_eq s t hz)
    have hlt := Lib.hid (orTo_lt (fun k => byteN s k ^^^ byteN t k) s.size fun k _ => Nat.xor_lt_two_pow (n := 8) (byteN_lt s k) (byteN_lt t k))
    have hzb : ((s.size : Int) != (t.size : Int)) = false := by rw [hz]; simp
    have HZ := Lib.hid hz
    clear hz
    go_enter Tryz.func128, Tryz.ntmps128
    go_wp2_with fail
    refine (gather_any 131 #[.pointer (some ⟨w.heap.size, 0, none⟩), .pointer (some ⟨W.heap.size, 0, none⟩)] (fun _ _ => rfl) (fun k => byteN s k ^^^ byteN t k) (fun k => Nat.xor_lt_two_pow (n := 8) (byteN_lt s k) (byteN_lt t k)) s.size HS.out W2
      (fun k wx hk hb => bit1_any s t w.heap.size W.heap.size k wx hk (by rw [← HZ.out]; exact hk) (by obtain ⟨c0, -⟩ := blk1 (blk_below hb H1.out.2.1); exact c0) (by obtain ⟨c0, -⟩ := blk1 (blk_below hb H1.out.2.2); exact c0))).mono ?_
    rintro e w1 ⟨rfl, hb1⟩
    have H2 := Lib.hid (H1.out.1.trans (hb1.mono H1.out.1.size))
    clear hb1
    go_wp2_with fail
    refine (nought_any _ _ hlt.out).mono ?_
    rintro e w2 ⟨rfl, rfl⟩
    rw [HA.out]
    go_wp2
    exact HR.out _ _ ⟨rfl, H2.out⟩
  · have hzb : ((s.size : Int) != (t.size : Int)) = true := by rw [bne_iff_ne]; omega
    have HV := Lib.hid (show bitN s t = 0 by rw [bitN, if_neg fun e => hz (by rw [e])])
    clear hz
    go_enter Tryz.func128, Tryz.ntmps128
    go_wp2
    exact HR.out _ _ ⟨by rw [HV.out]; rfl, H1.out.1⟩
theorem sequal_any (s t : ByteArray) (hs : s.size ≤ 9223372036854775807) (w : World) : Calls Tryz.prog 117 #[.string s, .string t] w fun e w' => e = .returned (.bool (decide (s = t))) ∧ Below w.heap.size w w' := by
  refine calls_by fun R HR => ?_
  have HB := Lib.hid (sbit_any s t hs w)
  clear hs
  by_cases h : s = t
  · have hv : bitN s t = 1 := by rw [bitN, if_pos h]
    have HV := Lib.hid (show decide (s = t) = true by simp [h])
    rw [hv] at HB
    clear h hv
    go_enter Tryz.func117, Tryz.ntmps117
    go_wp2_with fail
    refine HB.out.mono ?_
    rintro e w1 ⟨rfl, hb1⟩
    have H2 := Lib.hid hb1
    clear hb1
    go_wp2
    exact HR.out _ _ ⟨by rw [HV.out]; rfl, H2.out⟩
  · have hv : bitN s t = 0 := by rw [bitN, if_neg h]
    have HV := Lib.hid (show decide (s = t) = false by simp [h])
    rw [hv] at HB
    clear h hv
    go_enter Tryz.func117, Tryz.ntmps117
    go_wp2_with fail
    refine HB.out.mono ?_
    rintro e w1 ⟨rfl, hb1⟩
    have H2 := Lib.hid hb1
    clear hb1
    go_wp2
    exact HR.out _ _ ⟨by rw [HV.out]; rfl, H2.out⟩
end Go.Proofs.YteppfjgglelpbaaGreat
/- Which epoch and key a block has: slots.Take and the reference's; the empty block. -/
set_option maxRecDepth 100000
namespace Ks
open Go Go.RowKit
set_option linter.unusedVariables false
theorem slot_x7 (b : ByteArray) (h : b = zerosS 4096) : slotX b = 7 ∧ slotXN b = 0 ∧ slotXK b = ⟨#[]⟩ := by
  have e : slotX b = 7 := by rw [h]; exact slotX_zeros
  exact ⟨e, by rw [slotXN, if_neg (by rw [e]; decide)], by rw [slotXK, if_neg (by rw [e]; decide)]⟩
theorem slot_x3 (b : ByteArray) (h : b ≠ zerosS 4096) (h2 : ¬ (b.size = 4096 ∧ slotS (slotN b) (slotK b) = b)) : slotX b = 3 ∧ slotXN b = 0 ∧ slotXK b = ⟨#[]⟩ := by
  have e : slotX b = 3 := by
    unfold slotX
    by_cases hz : b.size = 4096
    · rw [if_pos hz, if_neg h, if_neg fun e => h2 ⟨hz, e⟩]
    · rw [if_neg hz]
  exact ⟨e, by rw [slotXN, if_neg (by rw [e]; decide)], by rw [slotXK, if_neg (by rw [e]; decide)]⟩
theorem slot_x0 (b : ByteArray) (h : b ≠ zerosS 4096) (h2 : b.size = 4096 ∧ slotS (slotN b) (slotK b) = b) : slotX b = 0 ∧ slotXN b = slotN b ∧ slotXK b = slotK b := by
  have e : slotX b = 0 := by rw [slotX, if_pos h2.1, if_neg h, if_pos h2.2]
  exact ⟨e, by rw [slotXN, if_pos e], by rw [slotXK, if_pos e]⟩
theorem slot_size_ne {b : ByteArray} (h : b.size ≠ 4096) : b ≠ zerosS 4096 := fun e => h (by rw [e]; exact zerosS_size 4096)
end Ks
namespace Go.Proofs.YteppfjgglelpbaaGreat
open Go.RowKit Ks
set_option linter.unusedVariables false
theorem slempty_any (w : World) : Calls Tryz.prog 44 #[] w fun e w' => e = .returned (.string (zerosS 4096)) ∧ Below w.heap.size w w' := by
  refine calls_by fun R HR => ?_
  have HRP : Hid (Calls Tryz.prog 54 #[.string ⟨#[0]⟩, .int .i64 4096] w fun e w' => e = .returned (.string (zerosS 4096)) ∧ Below w.heap.size w w') :=
    Lib.hid ((Tryz.strings_Repeat ⟨#[0]⟩ 4096 w (by decide) (by decide)).mono fun e w' ⟨h1, h2⟩ => ⟨by rw [h1, repeat_zeros]; rfl, h2⟩)
  obtain ⟨Z, hZ⟩ : ∃ Z, zerosS 4096 = Z := ⟨_, rfl⟩
  rw [hZ] at HRP
  have HZ := Lib.hid hZ
  clear hZ
  go_enter Tryz.func44, Tryz.ntmps44
  go_wp2_with fail
  refine HRP.out.mono ?_
  rintro e w1 ⟨rfl, hb⟩
  have HB := Lib.hid hb
  clear hb
  go_wp2
  exact HR.out _ _ ⟨by rw [HZ.out] <;> rfl, HB.out⟩
set_option maxRecDepth 100000 in
set_option maxHeartbeats 1000000 in
theorem sltake_any (b : ByteArray) (hb : b.size ≤ 9223372036854775807) (w : World) : Calls Tryz.prog 99 #[.string b] w fun e w' => e = .returned (.tuple #[.int .i64 (slotXN b), .string (slotXK b), .int .i64 (slotX b)]) ∧ Below w.heap.size w w' := by
  refine calls_by fun R HR => ?_
  by_cases hz : b.size = 4096
  · have hzb : ((b.size : Int) != 4096) = false := by rw [hz]; rfl
    have HA := Lib.hid (sany_any b hb w)
    by_cases h0 : b = zerosS 4096
    · have HV := Lib.hid (slot_x7 b h0)
      have hv : anyN b = 0 := by unfold anyN; rw [hz]; exact if_pos h0
      rw [hv] at HA
      clear hv h0 hz hb
      go_enter Tryz.func99, Tryz.ntmps99
      go_wp2_with fail
      refine HA.out.mono ?_
      rintro e w1 ⟨rfl, hb1⟩
      have H1 := Lib.hid hb1
      clear hb1
      go_wp2
      go_ret3
      exact HR.out _ _ ⟨by rw [HV.out.1, HV.out.2.1, HV.out.2.2] <;> rfl, H1.out⟩
    · have hv : anyN b = 1 := by unfold anyN; rw [hz]; exact if_neg h0
      rw [hv] at HA
      have HN := Lib.hid (getV_at b 3 7 (by decide) (by decide) (by omega))
      have HNL := Lib.hid (slotN_lt b)
      have HOK := Lib.hid (slotNK_ok b hz)
      have HH := Lib.hid (And.intro h0 hz)
      have h7 : (7 : Int) ≤ (b.size : Int) := by omega
      have h39 : (39 : Int) ≤ (b.size : Int) := by omega
      have hb7 : 7 ≤ b.size := by omega
      have hb39 : 39 ≤ b.size := by omega
      clear hv h0 hz hb
      go_enter Tryz.func99, Tryz.ntmps99
      go_wp2_with fail
      refine HA.out.mono ?_
      rintro e w1 ⟨rfl, hb1⟩
      have H1 := Lib.hid hb1
      clear hb1
      go_wp2_with fail
      refine (get_any _ _).mono ?_
      rintro e w2 ⟨rfl, rfl⟩
      rw [show getV (b.extract 3 7) = (slotN b : Int) from HN.out.1, HN.out.2]
      go_wp2_with fail
      rw [show b.extract 7 39 = slotK b from rfl]
      refine (slput_any (slotN b) (slotK b) _ (by have := HNL.out; omega)).mono ?_
      rintro e w3 ⟨rfl, hb3⟩
      have H3 := Lib.hid (H1.out.trans (hb3.mono H1.out.size))
      clear hb3
      rw [show slotE (slotN b) (slotK b) = 0 by rw [slotE, if_pos HOK.out]]
      have HE := Lib.hid (fun w => sequal_any (slotS (slotN b) (slotK b)) b (by rw [slot_size _ _ HOK.out]; decide) w)
      by_cases he : slotS (slotN b) (slotK b) = b
      · have HV := Lib.hid (slot_x0 b HH.out.1 ⟨HH.out.2, he⟩)
        have hd : decide (slotS (slotN b) (slotK b) = b) = true := by simp [he]
        simp only [hd] at HE
        clear hd
        obtain ⟨X, hX⟩ : ∃ X, slotS (slotN b) (slotK b) = X := ⟨_, rfl⟩
        rw [hX] at HE ⊢
        clear hX he
        go_wp2_with fail
        refine (HE.out _).mono ?_
        rintro e w4 ⟨rfl, hb4⟩
        have H4 := Lib.hid (H3.out.trans (hb4.mono H3.out.size))
        clear hb4
        go_wp2
        go_ret3
        exact HR.out _ _ ⟨by rw [HV.out.1, HV.out.2.1, HV.out.2.2] <;> rfl, H4.out⟩
      · have HV := Lib.hid (slot_x3 b HH.out.1 fun h => he h.2)
        have hd : decide (slotS (slotN b) (slotK b) = b) = false := by simp [he]
        simp only [hd] at HE
        clear hd
        obtain ⟨X, hX⟩ : ∃ X, slotS (slotN b) (slotK b) = X := ⟨_, rfl⟩
        rw [hX] at HE ⊢
        clear hX he
        go_wp2_with fail
        refine (HE.out _).mono ?_
        rintro e w4 ⟨rfl, hb4⟩
        have H4 := Lib.hid (H3.out.trans (hb4.mono H3.out.size))
        clear hb4
        go_wp2
        go_ret3
        exact HR.out _ _ ⟨by rw [HV.out.1, HV.out.2.1, HV.out.2.2] <;> rfl, H4.out⟩
  · have hzb : ((b.size : Int) != 4096) = true := by rw [bne_iff_ne]; omega
    have HV := Lib.hid (slot_x3 b (slot_size_ne hz) fun h => hz h.1)
    clear hz hb
    go_enter Tryz.func99, Tryz.ntmps99
    go_wp2
    go_ret3
    exact HR.out _ _ ⟨by rw [HV.out.1, HV.out.2.1, HV.out.2.2] <;> rfl, Below.refl _ _⟩
end Go.Proofs.YteppfjgglelpbaaGreat
/- An epoch closed: of the program's journal. -/
set_option maxRecDepth 100000
namespace Go.Proofs.YteppfjgglelpbaaGreat
open Go.RowKit Ks
set_option linter.unusedVariables false
set_option linter.unusedSimpArgs false
theorem eg_slempty9 : ∀ args w, (callFunc 44 args).run Tryz.prog w = .ok (.enter 44 args) w := fun _ _ => rfl
set_option maxRecDepth 100000 in
set_option maxHeartbeats 16000000 in
theorem jclose_any {jn sn dn : Nat} {vb vc : Value} {s : SupT} {br : Bool} {d : DS} {u : Int} (t k : ByteArray) (c : Int) (w : World) (h : JHd w jn (.pointer (some ⟨sn, 0, none⟩)) dn vb vc s br d) (hs : SpAt w sn s u) (hn : ¬ FJ jn dn vb vc sn) (hb : 0 < s.b ∧ s.b ≤ 9223372036854775807) (hu : 0 ≤ u ∧ u ≤ 1000000) :
    Calls Tryz.prog 8 #[.pointer (some ⟨jn, 0, none⟩), .string t, .string k, .int .i64 c] w fun e w' => e = .returned (.tuple #[.int .i64 (shutI ⟨d, s, u, br⟩ t k c), .int .i64 (shutE ⟨d, s, u, br⟩ t k c)]) ∧ ∃ vc', JLv w' jn sn dn vb vc' (shutJ ⟨d, s, u, br⟩ t k c) ∧ Turn w w' (FL jn sn dn vb vc) (FL jn sn dn vb vc') := by
  refine calls_by fun R HR => ?_
  have HRd := Lib.hid (jready_any w h)
  have HT := Lib.hid (jtime_any c w h)
  have HNx := Lib.hid (fun w => snext_any s.gen s.tail s.epoch s.clock s.b s.l s.f w (by omega))
  have HD := Lib.hid (And.intro h (And.intro hs (And.intro hn (And.intro hb hu))))
  have HOK : Hid (nextE s = 0 → 0 ≤ s.epoch) := Lib.hid (by
    intro q
    unfold nextE at q
    split at q
    · rename_i q2
      have a := sup_ok.1 q2
      have b := geo_ok.1 a.1
      omega
    · exact absurd q (by decide))
  obtain ⟨s4, hs4⟩ : ∃ s4 : SupT, nxV s.gen s.tail s.epoch s.clock s.b s.l s.f = supV s4.gen s4.tail s4.epoch s4.clock s4.b s4.l s4.f := by
    by_cases q : nxE s.gen s.tail s.epoch s.clock s.b s.l s.f = 0
    · exact ⟨⟨s.gen + 1, s.tail, s.epoch, s.clock, s.b, s.l, s.f⟩, if_pos q⟩
    · exact ⟨⟨0, 0, 0, 0, 0, 0, 0⟩, if_neg q⟩
  rw [hs4] at HNx
  simp only [nxE_eq] at HNx
  have HNo : Hid (shutNo ⟨d, s, u, br⟩ t k c = if br then 14 else if t.size ≠ 4096 ∨ k.size ≠ 32 ∨ decide (s.clock ≤ c ∧ c ≤ 1099511627776) = false then 2 else if nextE s ≠ 0 ∨ 4294967295 ≤ s.epoch then 6 else if dataG s ≤ u then 6 else 0) := Lib.hid rfl
  have HE : Hid (shutE ⟨d, s, u, br⟩ t k c = if shutNo ⟨d, s, u, br⟩ t k c ≠ 0 then shutNo ⟨d, s, u, br⟩ t k c else if stepsE d [.wr (placeG s u) t, .wr (keyP (s.epoch + 1)) (slotS (s.epoch + 1) k), .fl] ≠ 0 then stepsE d [.wr (placeG s u) t, .wr (keyP (s.epoch + 1)) (slotS (s.epoch + 1) k), .fl] else if commitE ⟨stepsD d [.wr (placeG s u) t, .wr (keyP (s.epoch + 1)) (slotS (s.epoch + 1) k), .fl], s, u + 1, br || decide (stepsE d [.wr (placeG s u) t, .wr (keyP (s.epoch + 1)) (slotS (s.epoch + 1) k), .fl] ≠ 0)⟩ ⟨s.gen + 1, u + 1, s.epoch + 1, c, s.b, s.l, s.f⟩ ≠ 0 then commitE ⟨stepsD d [.wr (placeG s u) t, .wr (keyP (s.epoch + 1)) (slotS (s.epoch + 1) k), .fl], s, u + 1, br || decide (stepsE d [.wr (placeG s u) t, .wr (keyP (s.epoch + 1)) (slotS (s.epoch + 1) k), .fl] ≠ 0)⟩ ⟨s.gen + 1, u + 1, s.epoch + 1, c, s.b, s.l, s.f⟩ else stepsE (commitJ ⟨stepsD d [.wr (placeG s u) t, .wr (keyP (s.epoch + 1)) (slotS (s.epoch + 1) k), .fl], s, u + 1, br || decide (stepsE d [.wr (placeG s u) t, .wr (keyP (s.epoch + 1)) (slotS (s.epoch + 1) k), .fl] ≠ 0)⟩ ⟨s.gen + 1, u + 1, s.epoch + 1, c, s.b, s.l, s.f⟩).d [.wr (keyP s.epoch) (zerosS 4096), .fl]) := Lib.hid rfl
  have HI : Hid (shutI ⟨d, s, u, br⟩ t k c = if shutE ⟨d, s, u, br⟩ t k c = 0 then u else 0) := Lib.hid rfl
  have HJ : Hid (shutJ ⟨d, s, u, br⟩ t k c = if shutNo ⟨d, s, u, br⟩ t k c ≠ 0 then ⟨d, s, u, br⟩ else if stepsE d [.wr (placeG s u) t, .wr (keyP (s.epoch + 1)) (slotS (s.epoch + 1) k), .fl] ≠ 0 then ⟨stepsD d [.wr (placeG s u) t, .wr (keyP (s.epoch + 1)) (slotS (s.epoch + 1) k), .fl], s, u + 1, br || decide (stepsE d [.wr (placeG s u) t, .wr (keyP (s.epoch + 1)) (slotS (s.epoch + 1) k), .fl] ≠ 0)⟩ else if commitE ⟨stepsD d [.wr (placeG s u) t, .wr (keyP (s.epoch + 1)) (slotS (s.epoch + 1) k), .fl], s, u + 1, br || decide (stepsE d [.wr (placeG s u) t, .wr (keyP (s.epoch + 1)) (slotS (s.epoch + 1) k), .fl] ≠ 0)⟩ ⟨s.gen + 1, u + 1, s.epoch + 1, c, s.b, s.l, s.f⟩ ≠ 0 then commitJ ⟨stepsD d [.wr (placeG s u) t, .wr (keyP (s.epoch + 1)) (slotS (s.epoch + 1) k), .fl], s, u + 1, br || decide (stepsE d [.wr (placeG s u) t, .wr (keyP (s.epoch + 1)) (slotS (s.epoch + 1) k), .fl] ≠ 0)⟩ ⟨s.gen + 1, u + 1, s.epoch + 1, c, s.b, s.l, s.f⟩ else ⟨stepsD (commitJ ⟨stepsD d [.wr (placeG s u) t, .wr (keyP (s.epoch + 1)) (slotS (s.epoch + 1) k), .fl], s, u + 1, br || decide (stepsE d [.wr (placeG s u) t, .wr (keyP (s.epoch + 1)) (slotS (s.epoch + 1) k), .fl] ≠ 0)⟩ ⟨s.gen + 1, u + 1, s.epoch + 1, c, s.b, s.l, s.f⟩).d [.wr (keyP s.epoch) (zerosS 4096), .fl], (commitJ ⟨stepsD d [.wr (placeG s u) t, .wr (keyP (s.epoch + 1)) (slotS (s.epoch + 1) k), .fl], s, u + 1, br || decide (stepsE d [.wr (placeG s u) t, .wr (keyP (s.epoch + 1)) (slotS (s.epoch + 1) k), .fl] ≠ 0)⟩ ⟨s.gen + 1, u + 1, s.epoch + 1, c, s.b, s.l, s.f⟩).last, (commitJ ⟨stepsD d [.wr (placeG s u) t, .wr (keyP (s.epoch + 1)) (slotS (s.epoch + 1) k), .fl], s, u + 1, br || decide (stepsE d [.wr (placeG s u) t, .wr (keyP (s.epoch + 1)) (slotS (s.epoch + 1) k), .fl] ≠ 0)⟩ ⟨s.gen + 1, u + 1, s.epoch + 1, c, s.b, s.l, s.f⟩).used, (commitJ ⟨stepsD d [.wr (placeG s u) t, .wr (keyP (s.epoch + 1)) (slotS (s.epoch + 1) k), .fl], s, u + 1, br || decide (stepsE d [.wr (placeG s u) t, .wr (keyP (s.epoch + 1)) (slotS (s.epoch + 1) k), .fl] ≠ 0)⟩ ⟨s.gen + 1, u + 1, s.epoch + 1, c, s.b, s.l, s.f⟩).broken || decide (stepsE (commitJ ⟨stepsD d [.wr (placeG s u) t, .wr (keyP (s.epoch + 1)) (slotS (s.epoch + 1) k), .fl], s, u + 1, br || decide (stepsE d [.wr (placeG s u) t, .wr (keyP (s.epoch + 1)) (slotS (s.epoch + 1) k), .fl] ≠ 0)⟩ ⟨s.gen + 1, u + 1, s.epoch + 1, c, s.b, s.l, s.f⟩).d [.wr (keyP s.epoch) (zerosS 4096), .fl] ≠ 0)⟩) := Lib.hid rfl
  generalize shutNo ⟨d, s, u, br⟩ t k c = NO at *
  generalize shutE ⟨d, s, u, br⟩ t k c = AE at *
  generalize shutI ⟨d, s, u, br⟩ t k c = AI at *
  generalize shutJ ⟨d, s, u, br⟩ t k c = AJ at *
  generalize decide (s.clock ≤ c ∧ c ≤ 1099511627776) = TB at *
  clear h hs hn hb hu hs4
  have HSl := Lib.hid (fun w => slempty_any w)
  generalize zerosS 4096 = ZS at *
  cases br
  case true =>
    have HN0 := Lib.hid (show NO = 14 by rw [HNo.out]; rfl)
    have HZ := Lib.hid (show AE = 14 by rw [HE.out, HN0.out]; rfl)
    have HZi := Lib.hid (show AI = 0 by rw [HI.out, HZ.out]; rfl)
    have HZj := Lib.hid (show AJ = ⟨d, s, u, true⟩ by rw [HJ.out, HN0.out]; rfl)
    clear HE HI HJ HNo HN0
    simp only [if_true] at HRd
    go_enter Tryz.func8, Tryz.ntmps8
    go_wp2_with fail
    refine HRd.out.mono ?_
    rintro en y9 ⟨rfl, hw⟩
    rw [hw]
    clear hw y9
    go_wp2
    exact HR.out _ _ ⟨by rw [HZ.out, HZi.out] <;> rfl, vc, by rw [HZj.out]; exact ⟨HD.out.1, HD.out.2.1, HD.out.2.2.1⟩, Turn.refl _ _⟩
  simp only [Bool.false_eq_true, if_false] at HRd HNo
  obtain ⟨⟨z0, z1, z2, z3, z4, z5, z6, z7, z8, z9⟩, -⟩ := blkJ HD.out.1.blk
  by_cases hz : t.size = 4096
  case neg =>
    have hzb : ((t.size : Int) != 4096) = true := by rw [bne_iff_ne]; omega
    have HN0 := Lib.hid (show NO = 2 by rw [HNo.out]; exact if_pos (Or.inl hz))
    have HZ := Lib.hid (show AE = 2 by rw [HE.out, HN0.out]; rfl)
    have HZi := Lib.hid (show AI = 0 by rw [HI.out, HZ.out]; rfl)
    have HZj := Lib.hid (show AJ = ⟨d, s, u, false⟩ by rw [HJ.out, HN0.out]; rfl)
    clear HE HI HJ HNo HN0
    clear hz HT HNx
    go_enter Tryz.func8, Tryz.ntmps8
    go_wp2_with fail
    refine HRd.out.mono ?_
    rintro en y9 ⟨rfl, hw⟩
    rw [hw]
    clear hw y9
    go_wp2
    exact HR.out _ _ ⟨by rw [HZ.out, HZi.out] <;> rfl, vc, by rw [HZj.out]; exact ⟨HD.out.1, HD.out.2.1, HD.out.2.2.1⟩, Turn.refl _ _⟩
  have hzb : ((t.size : Int) != 4096) = false := by rw [hz]; rfl
  by_cases hk : k.size = 32
  case neg =>
    have hkb : ((k.size : Int) != 32) = true := by rw [bne_iff_ne]; omega
    have HN0 := Lib.hid (show NO = 2 by rw [HNo.out]; exact if_pos (Or.inr (Or.inl hk)))
    have HZ := Lib.hid (show AE = 2 by rw [HE.out, HN0.out]; rfl)
    have HZi := Lib.hid (show AI = 0 by rw [HI.out, HZ.out]; rfl)
    have HZj := Lib.hid (show AJ = ⟨d, s, u, false⟩ by rw [HJ.out, HN0.out]; rfl)
    clear HE HI HJ HNo HN0
    clear hz hk HT HNx
    go_enter Tryz.func8, Tryz.ntmps8
    go_wp2_with fail
    refine HRd.out.mono ?_
    rintro en y9 ⟨rfl, hw⟩
    rw [hw]
    clear hw y9
    go_wp2
    exact HR.out _ _ ⟨by rw [HZ.out, HZi.out] <;> rfl, vc, by rw [HZj.out]; exact ⟨HD.out.1, HD.out.2.1, HD.out.2.2.1⟩, Turn.refl _ _⟩
  have hkb : ((k.size : Int) != 32) = false := by rw [hk]; rfl
  cases TB
  case false =>
    have HN0 := Lib.hid (show NO = 2 by rw [HNo.out]; exact if_pos (Or.inr (Or.inr rfl)))
    have HZ := Lib.hid (show AE = 2 by rw [HE.out, HN0.out]; rfl)
    have HZi := Lib.hid (show AI = 0 by rw [HI.out, HZ.out]; rfl)
    have HZj := Lib.hid (show AJ = ⟨d, s, u, false⟩ by rw [HJ.out, HN0.out]; rfl)
    clear HE HI HJ HNo HN0
    clear hz hk HNx
    go_enter Tryz.func8, Tryz.ntmps8
    go_wp2_with fail
    refine HRd.out.mono ?_
    rintro en y9 ⟨rfl, hw⟩
    rw [hw]
    clear hw y9
    go_wp2_with fail
    refine HT.out.mono ?_
    rintro en y9 ⟨rfl, hw⟩
    rw [hw]
    clear hw y9
    go_wp2
    exact HR.out _ _ ⟨by rw [HZ.out, HZi.out] <;> rfl, vc, by rw [HZj.out]; exact ⟨HD.out.1, HD.out.2.1, HD.out.2.2.1⟩, Turn.refl _ _⟩
  have HNo2 := Lib.hid (show NO = if nextE s ≠ 0 ∨ 4294967295 ≤ s.epoch then 6 else if dataG s ≤ u then 6 else 0 by rw [HNo.out]; exact if_neg (fun q => by rcases q with q | q | q; exact q hz; exact q hk; exact absurd q (by decide)))
  clear HNo hz hk
  have HNo := Lib.hid HNo2.out
  clear HNo2
  go_enter Tryz.func8, Tryz.ntmps8
  go_wp2_with fail
  refine HRd.out.mono ?_
  rintro en y9 ⟨rfl, hw⟩
  rw [hw]
  clear hw y9
  go_wp2_with fail
  refine HT.out.mono ?_
  rintro en y9 ⟨rfl, hw⟩
  rw [hw]
  clear hw y9 HT HRd
  go_wp2_with fail
  refine (HNx.out _).mono ?_
  rintro en v1 ⟨rfl, hb⟩
  have H2 := Lib.hid (And.intro (HD.out.1.below hb) (And.intro (HD.out.2.1.below hb) (Turn.of_below (FL jn sn dn vb vc) hb)))
  clear hb HNx z0 z1 z2 z3 z4 z5 z6 z7 z8 z9
  obtain ⟨W1, hW1⟩ : ∃ W1, v1.alloc (.cells #[.int .i64 s4.gen, .int .i64 s4.tail, .int .i64 s4.epoch, .int .i64 s4.clock, .int .i64 s4.b, .int .i64 s4.l, .int .i64 s4.f] 29) = W1 := ⟨_, rfl⟩
  have hbW : Below v1.heap.size v1 W1 := by rw [← hW1]; exact alloc_below v1 _
  have H3 := Lib.hid (And.intro (H2.out.1.below hbW) (And.intro (H2.out.2.1.below hbW) (H2.out.2.2.trans (Turn.of_below _ hbW))))
  clear hbW H2
  by_cases h0 : nextE s = 0
  case neg =>
    have h0b : (nextE s != 0) = true := by simpa using h0
    have HN0 := Lib.hid (show NO = 6 by rw [HNo.out]; exact if_pos (Or.inl h0))
    have HZ := Lib.hid (show AE = 6 by rw [HE.out, HN0.out]; rfl)
    have HZi := Lib.hid (show AI = 0 by rw [HI.out, HZ.out]; rfl)
    have HZj := Lib.hid (show AJ = ⟨d, s, u, false⟩ by rw [HJ.out, HN0.out]; rfl)
    clear HE HI HJ HNo HN0
    clear h0 HOK
    generalize nextE s = NE at *
    go_wp2
    exact HR.out _ _ ⟨by rw [HZ.out, HZi.out] <;> rfl, vc, by rw [HZj.out]; exact ⟨H3.out.1, H3.out.2.1, HD.out.2.2.1⟩, H3.out.2.2⟩
  have h0b : (nextE s != 0) = false := by rw [h0]; rfl
  by_cases he : 4294967295 ≤ s.epoch
  case pos =>
    have heb : decide (4294967295 ≤ s.epoch) = true := decide_eq_true he
    have HN0 := Lib.hid (show NO = 6 by rw [HNo.out]; exact if_pos (Or.inr he))
    have HZ := Lib.hid (show AE = 6 by rw [HE.out, HN0.out]; rfl)
    have HZi := Lib.hid (show AI = 0 by rw [HI.out, HZ.out]; rfl)
    have HZj := Lib.hid (show AJ = ⟨d, s, u, false⟩ by rw [HJ.out, HN0.out]; rfl)
    clear HE HI HJ HNo HN0
    clear h0 he HOK
    generalize nextE s = NE at *
    go_wp2
    exact HR.out _ _ ⟨by rw [HZ.out, HZi.out] <;> rfl, vc, by rw [HZj.out]; exact ⟨H3.out.1, H3.out.2.1, HD.out.2.2.1⟩, H3.out.2.2⟩
  have heb : decide (4294967295 ≤ s.epoch) = false := decide_eq_false he
  have HNe := Lib.hid h0
  have HEP := Lib.hid (show 0 ≤ s.epoch ∧ s.epoch < 4294967295 from ⟨HOK.out h0, by omega⟩)
  have HTk := Lib.hid (spclose_any W1 H3.out.2.1 HD.out.2.2.2.1 HD.out.2.2.2.2)
  have HNo2 := Lib.hid (show NO = if dataG s ≤ u then 6 else 0 by rw [HNo.out]; exact if_neg (fun q => by rcases q with q | q; exact q h0; exact he q))
  clear HNo HOK he h0
  have HNo := Lib.hid HNo2.out
  clear HNo2
  generalize hNE : nextE s = NE at h0b ⊢
  clear hNE
  obtain ⟨⟨z0, z1, z2, z3, z4, z5, z6, z7, z8, z9⟩, -⟩ := blkJ H3.out.1.blk
  by_cases hr : dataG s ≤ u
  case pos =>
    have e0 : decide (u < dataG s) = false := decide_eq_false (by omega)
    rw [e0] at HTk
    simp only [Bool.false_eq_true, if_false] at HTk
    have HN0 := Lib.hid (show NO = 6 by rw [HNo.out]; exact if_pos hr)
    have HZ := Lib.hid (show AE = 6 by rw [HE.out, HN0.out]; rfl)
    have HZi := Lib.hid (show AI = 0 by rw [HI.out, HZ.out]; rfl)
    have HZj := Lib.hid (show AJ = ⟨d, s, u, false⟩ by rw [HJ.out, HN0.out]; rfl)
    clear HE HI HJ HNo HN0
    clear e0 hr
    go_wp2_with fail
    refine HTk.out.mono ?_
    rintro en v2 ⟨rfl, h1, h2⟩
    have H4 := Lib.hid (And.intro (hd_sp H3.out.1 HD.out.2.2.1 h2) (And.intro h1 (H3.out.2.2.trans (turn_sp h2))))
    clear h1 h2
    go_wp2
    exact HR.out _ _ ⟨by rw [HZ.out, HZi.out] <;> rfl, vc, by rw [HZj.out]; exact ⟨H4.out.1, H4.out.2.1, HD.out.2.2.1⟩, H4.out.2.2⟩
  have e0 : decide (u < dataG s) = true := decide_eq_true (by omega)
  rw [e0] at HTk
  simp only [if_true] at HTk
  have HN0 := Lib.hid (show NO = 0 by rw [HNo.out]; exact if_neg hr)
  rw [HN0.out, if_neg (fun q => q rfl)] at HE HJ
  clear HNo HN0 e0 hr NO
  go_wp2_with fail
  refine HTk.out.mono ?_
  rintro en v2 ⟨rfl, h1, h2⟩
  have H4 := Lib.hid (And.intro (hd_sp H3.out.1 HD.out.2.2.1 h2) (And.intro h1 (H3.out.2.2.trans (turn_sp h2))))
  clear h1 h2 hW1 H3 HTk z0 z1 z2 z3 z4 z5 z6 z7 z8 z9
  have hw1 : wrap64 (s.epoch + 1) = s.epoch + 1 := by have := HEP.out; unfold wrap64; omega
  have hw2 : IntKind.i64.wrap (s.epoch + 1) = s.epoch + 1 := by have := HEP.out; rw [IntKind.wrap_i64]; omega
  go_wp2_with fail
  refine (slput_any (s.epoch + 1) k v2 (by have := HEP.out; omega)).mono ?_
  rintro en v3 ⟨rfl, hb⟩
  have H5 := Lib.hid (And.intro (H4.out.1.below hb) (And.intro (H4.out.2.1.below hb) (H4.out.2.2.trans (Turn.of_below _ hb))))
  clear hb H4
  have HPl := Lib.hid (fun (vc9 : Value) (br9 : Bool) (d9 : DS) (w9 : World) (h : JHd w9 jn (.pointer (some ⟨sn, 0, none⟩)) dn vb vc9 s br9 d9) => jplace_any u w9 h (by have := HD.out.2.2.2.1; omega))
  generalize slotS (s.epoch + 1) k = SK at *
  generalize hPG : placeG s u = PG at *
  clear hPG
  go_upto_region 14 with fail
  refine wp_region_mv (fun f => StpQ v3 jn (.pointer (some ⟨sn, 0, none⟩)) dn vb vc s false d (.wr (PG) (t)) (.wr (keyP (s.epoch + 1)) (SK)) [.wr (PG) (t), .wr (keyP (s.epoch + 1)) (SK), .fl] (f 6) (f 12) (f 18) (f 19)) (by kernel_rfl) (StpQ.start H5.out.1) ?_
  obtain ⟨S, F, hF, hFC⟩ := moved_class (fun f => StpQ v3 jn (.pointer (some ⟨sn, 0, none⟩)) dn vb vc s false d (.wr (PG) (t)) (.wr (keyP (s.epoch + 1)) (SK)) [.wr (PG) (t), .wr (keyP (s.epoch + 1)) (SK), .fl] (f 6) (f 12) (f 18) (f 19))
  have kd : ∀ s, (F s).cell? ⟨jn, 1, none⟩ = some (.pointer (some ⟨dn, 0, none⟩)) := fun s => (StpQ.dsk H5.out.1 (hFC s).choose_spec).1
  have ks : ∀ s, (F s).cell? ⟨jn, 0, none⟩ = some (.pointer (some ⟨sn, 0, none⟩)) := fun s => (StpQ.dsk H5.out.1 (hFC s).choose_spec).2
  show wpAnyM _ _ _ _ _ 21 (Array.replicate 21 false) _ _
  refine mv_read 0 hF (fun _ _ _ h => h) rfl (by kernel_rfl) (by kernel_rfl) (by kernel_rfl) (fun K hK => ?_)
  go_simp
  first | refine ⟨_, fun _ => rfl, hK _ _ ?_⟩ | refine hK _ _ ?_
  clear hK K
  refine mv_read 1 hF (fun _ _ _ h => h) rfl (by kernel_rfl) (by kernel_rfl) (by kernel_rfl) (fun K hK => ?_)
  go_simp
  first | refine ⟨_, fun _ => rfl, hK _ _ ?_⟩ | refine hK _ _ ?_
  clear hK K
  refine mv_read 2 hF (fun _ _ _ h => h) rfl (by kernel_rfl) (by kernel_rfl) (by kernel_rfl) (fun K hK => ?_)
  go_simp
  first | refine ⟨_, fun _ => rfl, hK _ _ ?_⟩ | refine hK _ _ ?_
  clear hK K
  refine mv_read 3 hF (fun _ _ _ h => h) rfl (by kernel_rfl) (by kernel_rfl) (by kernel_rfl) (fun K hK => ?_)
  go_simp
  first | refine ⟨_, fun _ => rfl, hK _ _ ?_⟩ | refine hK _ _ ?_
  clear hK K
  refine mv_read 5 hF (fun _ _ _ h => h) rfl (by kernel_rfl) (by kernel_rfl) (by kernel_rfl) (fun K hK => ?_)
  go_simp
  first | refine ⟨_, fun _ => rfl, hK _ _ ?_⟩ | refine hK _ _ ?_
  clear hK K
  refine mv_read 7 hF (fun _ _ _ h => h) rfl (by kernel_rfl) (by kernel_rfl) (by kernel_rfl) (fun K hK => ?_)
  go_simp
  first | refine ⟨_, fun _ => rfl, hK _ _ ?_⟩ | refine hK _ _ ?_
  clear hK K
  refine mv_read 8 hF (fun _ _ _ h => h) rfl (by kernel_rfl) (by kernel_rfl) (by kernel_rfl) (fun K hK => ?_)
  go_simp
  first | refine ⟨_, fun _ => rfl, hK _ _ ?_⟩ | refine hK _ _ ?_
  clear hK K
  refine mv_read 11 hF (fun _ _ _ h => h) rfl (by kernel_rfl) (by kernel_rfl) (by kernel_rfl) (fun K hK => ?_)
  go_simp
  first | refine ⟨_, fun _ => rfl, hK _ _ ?_⟩ | refine hK _ _ ?_
  clear hK K
  refine mv_read 13 hF (fun _ _ _ h => h) rfl (by kernel_rfl) (by kernel_rfl) (by kernel_rfl) (fun K hK => ?_)
  go_simp
  first | refine ⟨_, fun _ => rfl, hK _ _ ?_⟩ | refine hK _ _ ?_
  clear hK K
  refine mv_read 14 hF (fun _ _ _ h => h) rfl (by kernel_rfl) (by kernel_rfl) (by kernel_rfl) (fun K hK => ?_)
  go_simp
  first | refine ⟨_, fun _ => rfl, hK _ _ ?_⟩ | refine hK _ _ ?_
  clear hK K
  refine mv_read 15 hF (fun _ _ _ h => h) rfl (by kernel_rfl) (by kernel_rfl) (by kernel_rfl) (fun K hK => ?_)
  go_simp
  first | refine ⟨_, fun _ => rfl, hK _ _ ?_⟩ | refine hK _ _ ?_
  clear hK K
  refine mv_read 16 hF (fun _ _ _ h => h) rfl (by kernel_rfl) (by kernel_rfl) (by kernel_rfl) (fun K hK => ?_)
  go_simp
  first | refine ⟨_, fun _ => rfl, hK _ _ ?_⟩ | refine hK _ _ ?_
  clear hK K
  refine mv_read 17 hF (fun _ _ _ h => h) rfl (by kernel_rfl) (by kernel_rfl) (by kernel_rfl) (fun K hK => ?_)
  go_simp
  first | refine ⟨_, fun _ => rfl, hK _ _ ?_⟩ | refine hK _ _ ?_
  clear hK K
  refine mv_read 9 hF (fun _ _ _ h => h) rfl (by kernel_rfl) (by kernel_rfl) (by kernel_rfl) (fun K hK => ?_)
  go_simp
  first | refine ⟨_, fun _ => rfl, hK _ _ ?_⟩ | refine hK _ _ ?_
  clear hK K
  refine mv_call 4 35 rfl (by kernel_rfl) rfl rfl eg_jplace (args := #[.pointer (some ⟨jn, 0, none⟩), .int .i64 u]) rfl (fun v => v = .int .i64 PG) (fun g w9 ha h0 h => ?_) ?_
  · obtain ⟨hz9, vc9, br9, d9, hj9⟩ := StpQ.jhd H5.out.1 h
    refine (HPl.out _ _ _ w9 hj9).mono ?_
    rintro en w8 ⟨q1, q2⟩
    exact ⟨_, q1, rfl, StpQ.on h q2⟩
  rintro _ rfl
  refine mv_call 6 34 rfl (by kernel_rfl) rfl rfl eg_jwrite (args := #[.pointer (some ⟨jn, 0, none⟩), .int .i64 (PG), .string (t)]) rfl (fun v => ∃ b0 b1 b2, v = wrV b0 b1 b2) (fun g w9 ha h0 h => ?_) ?_
  · simp only [h0] at h
    refine (jwrite_any jn (PG) (t) w9).mono ?_
    rintro en w8 ⟨q1, q2, q3, q4, q5, q6⟩
    refine ⟨_, q1, ⟨_, _, _, rfl⟩, ?_⟩
    show StpQ _ _ _ _ _ _ _ _ _ _ _ _ (upd g 6 _ 6) (g 12) (g 18) (g 19) _
    rw [upd_self]
    exact StpQ.one h q2 (StpQ.wr H5.out.1 h q4 q5 q6)
  rintro _ ⟨w10, w11, w12, rfl⟩
  refine mv_call 10 40 rfl (by kernel_rfl) rfl rfl eg_gkey (args := #[.int .i64 (s.epoch + 1)]) rfl (fun v => v = .int .i64 (keyP (s.epoch + 1))) (fun g w9 ha h0 h => ?_) ?_
  · obtain ⟨hz9, vc9, br9, d9, hj9⟩ := StpQ.jhd H5.out.1 h
    refine ((gkey_any (s.epoch + 1) w9).mono (R' := fun e w' => e = .returned (.int .i64 (keyP (s.epoch + 1))) ∧ Below w9.heap.size w9 w') fun e w' ⟨q1, q2⟩ => ⟨q1, by rw [q2]; exact Below.refl _ _⟩).mono ?_
    rintro en w8 ⟨q1, q2⟩
    exact ⟨_, q1, rfl, StpQ.on h q2⟩
  rintro _ rfl
  refine mv_call 12 34 rfl (by kernel_rfl) rfl rfl eg_jwrite (args := #[.pointer (some ⟨jn, 0, none⟩), .int .i64 (keyP (s.epoch + 1)), .string (SK)]) rfl (fun v => ∃ b0 b1 b2, v = wrV b0 b1 b2) (fun g w9 ha h0 h => ?_) ?_
  · simp only [h0] at h
    refine (jwrite_any jn (keyP (s.epoch + 1)) (SK) w9).mono ?_
    rintro en w8 ⟨q1, q2, q3, q4, q5, q6⟩
    refine ⟨_, q1, ⟨_, _, _, rfl⟩, ?_⟩
    show StpQ _ _ _ _ _ _ _ _ _ _ _ _ (g 6) (upd g 12 _ 12) (g 18) (g 19) _
    rw [upd_self]
    exact StpQ.two h q2 (StpQ.wr H5.out.1 h q4 q5 q6)
  rintro _ ⟨w20, w21, w22, rfl⟩
  refine mv_alone 18 rfl (by kernel_rfl) rfl (fun v => ∃ b, v = .slice (some ⟨b, 0, none⟩) 3 3) (fun g w9 ha h0 h D hD => ?_) ?_
  · skip
    have e6 : g 6 = some (wrV w10 w11 w12) := by have e := agree_on 6 ha (by kernel_rfl); exact e.trans rfl
    have e12 : g 12 = some (wrV w20 w21 w22) := by have e := agree_on 12 ha (by kernel_rfl); exact e.trans rfl
    have h8 := h
    simp only [h0, e6, e12] at h8
    have h7 := StpQ.built (C := #[.func (.func 64) #[] #[.pointer (some ⟨w10, 0, none⟩), .pointer (some ⟨w11, 0, none⟩), .pointer (some ⟨w12, 0, none⟩)], .func (.func 64) #[] #[.pointer (some ⟨w20, 0, none⟩), .pointer (some ⟨w21, 0, none⟩), .pointer (some ⟨w22, 0, none⟩)], .func (.func 41) #[.pointer (some ⟨dn, 0, none⟩)] #[]]) (T := 43) H5.out.1 h8 (fun hc k x hx => by
      match k, hx with
      | 0, hx => cases hx; exact ⟨_, rfl, hc.s1 _ rfl⟩
      | 1, hx => cases hx; exact ⟨_, rfl, hc.s2 _ rfl⟩
      | 2, hx => cases hx; exact ⟨_, rfl, rfl⟩
      | k + 3, hx => exact absurd hx (by simp))
    have hD2 := hD _ _ ⟨_, rfl⟩ (show StpQ _ _ _ _ _ _ _ _ _ _ _ _ (g 6) (g 12) (upd g 18 _ 18) (g 19) _ by rw [upd_self, e6, e12]; exact h7)
    clear hD h h7 h8
    go_simp
    exact hD2
  rintro _ ⟨sb, rfl⟩
  refine mv_call 19 33 rfl (by kernel_rfl) rfl rfl eg_jsteps (args := #[.pointer (some ⟨jn, 0, none⟩), .slice (some ⟨sb, 0, none⟩) 3 3]) rfl (fun v => v = .int .i64 (stepsE d [.wr (PG) (t), .wr (keyP (s.epoch + 1)) (SK), .fl])) (fun g w9 ha h0 h => ?_) ?_
  · have e18 : g 18 = some (.slice (some ⟨sb, 0, none⟩) 3 3) := by have e := agree_on 18 ha (by kernel_rfl); exact e.trans rfl
    simp only [h0, e18] at h
    refine (StpQ.steps H5.out.1 h (by simp)).mono ?_
    rintro en w8 ⟨q1, q2⟩
    refine ⟨_, q1, rfl, ?_⟩
    show StpQ _ _ _ _ _ _ _ _ _ _ _ _ (g 6) (g 12) (g 18) (upd g 19 _ 19) _
    rw [upd_self]
    exact q2
  rintro _ rfl
  refine mv_read 20 hF (fun _ _ _ h => h) rfl (by kernel_rfl) (by kernel_rfl) (by kernel_rfl) (fun K hK => ?_)
  go_simp
  first | refine ⟨_, fun _ => rfl, hK _ _ ?_⟩ | refine hK _ _ ?_
  clear hK K
  refine mv_end (by kernel_rfl) ?_
  intro y8 hy8
  have HY : Hid (StpP v3 jn (.pointer (some ⟨sn, 0, none⟩)) dn vb vc s false d [.wr (PG) (t), .wr (keyP (s.epoch + 1)) (SK), .fl] y8) := Lib.hid (StpQ.done (v := .int .i64 (stepsE d [.wr (PG) (t), .wr (keyP (s.epoch + 1)) (SK), .fl])) hy8)
  clear hy8 hF hFC kd ks 
  obtain ⟨vc2, h1, h2⟩ := HY.out
  have hsp := sp_hd H5.out.2.1 HD.out.2.2.1 h2
  have H6 := Lib.hid (And.intro h1 (And.intro hsp.1 (And.intro hsp.2 (H5.out.2.2.trans (turn_hd h2)))))
  clear HY hsp h1 h2 H5
  generalize stepsE d [.wr PG t, .wr (keyP (s.epoch + 1)) SK, .fl] = SE at *
  generalize stepsD d [.wr PG t, .wr (keyP (s.epoch + 1)) SK, .fl] = SD at *
  by_cases h1 : SE = 0
  case neg =>
    have h1b : (SE != 0) = true := by simpa using h1
    have HZ := Lib.hid (show AE = SE by rw [HE.out, if_pos h1])
    have HZi := Lib.hid (show AI = 0 by rw [HI.out, HZ.out]; exact if_neg h1)
    have HZj := Lib.hid (show AJ = ⟨SD, s, u + 1, false || decide (SE ≠ 0)⟩ by rw [HJ.out]; exact if_pos h1)
    clear HE HI HJ h1
    go_wp2
    exact HR.out _ _ ⟨by rw [HZ.out, HZi.out] <;> rfl, vc2, by rw [HZj.out]; exact ⟨H6.out.1, H6.out.2.1, H6.out.2.2.1⟩, H6.out.2.2.2⟩
  subst h1
  rw [if_neg (fun q => q rfl)] at HE HJ
  have HN := Lib.hid (jnext_any c y8 H6.out.1 H6.out.2.1 HD.out.2.2.2.1)
  rw [show nextV s (u + 1) c = supV (s.gen + 1) (u + 1) s.epoch c s.b s.l s.f from if_pos HNe.out, HNe.out] at HN
  go_wp2_with fail
  refine HN.out.mono ?_
  rintro en v4 ⟨rfl, hb⟩
  have H7 := Lib.hid (And.intro (H6.out.1.below hb) (And.intro (H6.out.2.1.below hb) (H6.out.2.2.2.trans (Turn.of_below _ hb))))
  have HG2 := Lib.hid (show ¬ FJ jn dn vb vc2 sn from H6.out.2.2.1)
  clear hb HN H6
  obtain ⟨W2, hW2⟩ : ∃ W, v4.alloc (.cells #[.int .i64 (s.gen + 1), .int .i64 (u + 1), .int .i64 s.epoch, .int .i64 c, .int .i64 s.b, .int .i64 s.l, .int .i64 s.f] 29) = W := ⟨_, rfl⟩
  have hbW : Below v4.heap.size v4 W2 := by rw [← hW2]; exact alloc_below v4 _
  have kW : W2.heap[v4.heap.size]? = some (.cells #[.int .i64 (s.gen + 1), .int .i64 (u + 1), .int .i64 s.epoch, .int .i64 c, .int .i64 s.b, .int .i64 s.l, .int .i64 s.f] 29 (0, 0)) := by rw [← hW2]; exact alloc_new v4 _
  obtain ⟨⟨x0, x1, x2, x3, x4, x5, x6⟩, fx⟩ := blk7j kW
  have fx2 := fx 2
  clear fx
  obtain ⟨P, hP⟩ : ∃ W, W2.setCell ⟨v4.heap.size, 2, none⟩ (.int .i64 (s.epoch + 1)) = W := ⟨_, rfl⟩
  have hbP : Below v4.heap.size v4 P := by rw [← hP]; exact hbW.setCell (p := ⟨_, _, none⟩) (Nat.le_refl _) _
  have kP : P.heap[v4.heap.size]? = some (.cells #[.int .i64 (s.gen + 1), .int .i64 (u + 1), .int .i64 (s.epoch + 1), .int .i64 c, .int .i64 s.b, .int .i64 s.l, .int .i64 s.f] 29 (0, 0)) := by rw [← hP]; exact set_blk kW 2 _
  have H8 := Lib.hid (And.intro (H7.out.1.below hbP) (And.intro (H7.out.2.1.below hbP) (And.intro (H7.out.2.2.trans (Turn.of_below _ hbP)) kP)))
  have EP := Lib.hid hP
  clear hP hbW kW hbP kP
  go_upto_region 19 with fail
  try rw [EP.out]
  clear EP hW2 fx2 H7 x0 x1 x2 x3 x4 x5 x6
  obtain ⟨⟨x0, x1, x2, x3, x4, x5, x6⟩, -⟩ := blk7j H8.out.2.2.2
  have HCm := Lib.hid (jcommit_any ⟨s.gen + 1, u + 1, s.epoch + 1, c, s.b, s.l, s.f⟩ (u + 1) P H8.out.1 (by have := HD.out.2.2.2.1; exact ⟨by show _ ≤ s.b; omega, this.2⟩))
  have HSP := Lib.hid (commit_sp (d := SD) (u := u + 1) (br := false || decide ((0 : Int) ≠ 0)) (s2 := ⟨s.gen + 1, u + 1, s.epoch + 1, c, s.b, s.l, s.f⟩) H8.out.2.1 ⟨rfl, rfl, rfl⟩)
  have hcsp : ∀ (W : World), SpAt W sn s (u + 1) → SpAt W sn (commitJ ⟨SD, s, u + 1, false || decide ((0 : Int) ≠ 0)⟩ ⟨s.gen + 1, u + 1, s.epoch + 1, c, s.b, s.l, s.f⟩).last (commitJ ⟨SD, s, u + 1, false || decide ((0 : Int) ≠ 0)⟩ ⟨s.gen + 1, u + 1, s.epoch + 1, c, s.b, s.l, s.f⟩).used := fun W h => commit_sp h ⟨rfl, rfl, rfl⟩
  have HCS := Lib.hid hcsp
  clear hcsp HSP
  generalize commitE ⟨SD, s, u + 1, false || decide ((0 : Int) ≠ 0)⟩ ⟨s.gen + 1, u + 1, s.epoch + 1, c, s.b, s.l, s.f⟩ = CE at *
  generalize commitJ ⟨SD, s, u + 1, false || decide ((0 : Int) ≠ 0)⟩ ⟨s.gen + 1, u + 1, s.epoch + 1, c, s.b, s.l, s.f⟩ = J2 at *
  go_wp2_with fail
  refine HCm.out.mono ?_
  rintro en y7 ⟨rfl, vc3, h1, h2⟩
  have hsp := sp_hd H8.out.2.1 HG2.out h2
  have H9 := Lib.hid (And.intro h1 (And.intro (HCS.out _ hsp.1) (And.intro hsp.2 (H8.out.2.2.1.trans (turn_hd h2)))))
  clear hsp h1 h2 HCm H8 HCS HG2 x0 x1 x2 x3 x4 x5 x6
  by_cases h1 : CE = 0
  case neg =>
    have h1b : (CE != 0) = true := by simpa using h1
    have HZ := Lib.hid (show AE = CE by rw [HE.out, if_pos h1])
    have HZi := Lib.hid (show AI = 0 by rw [HI.out, HZ.out]; exact if_neg h1)
    have HZj := Lib.hid (show AJ = J2 by rw [HJ.out]; exact if_pos h1)
    clear HE HI HJ h1
    go_wp2
    exact HR.out _ _ ⟨by rw [HZ.out, HZi.out] <;> rfl, vc3, by rw [HZj.out]; exact ⟨H9.out.1, H9.out.2.1, H9.out.2.2.1⟩, H9.out.2.2.2⟩
  subst h1
  rw [if_neg (fun q => q rfl)] at HE HJ
  go_upto_region 22 with fail
  refine wp_region_mv (fun f => StpQ y7 jn (.pointer (some ⟨sn, 0, none⟩)) dn vb vc3 J2.last J2.broken J2.d (.wr (keyP s.epoch) (ZS)) (.fl) [.wr (keyP s.epoch) (ZS), .fl] (f 5) none (f 11) (f 12)) (by kernel_rfl) (StpQ.start H9.out.1) ?_
  obtain ⟨S, F, hF, hFC⟩ := moved_class (fun f => StpQ y7 jn (.pointer (some ⟨sn, 0, none⟩)) dn vb vc3 J2.last J2.broken J2.d (.wr (keyP s.epoch) (ZS)) (.fl) [.wr (keyP s.epoch) (ZS), .fl] (f 5) none (f 11) (f 12))
  have kd : ∀ s, (F s).cell? ⟨jn, 1, none⟩ = some (.pointer (some ⟨dn, 0, none⟩)) := fun s => (StpQ.dsk H9.out.1 (hFC s).choose_spec).1
  have ks : ∀ s, (F s).cell? ⟨jn, 0, none⟩ = some (.pointer (some ⟨sn, 0, none⟩)) := fun s => (StpQ.dsk H9.out.1 (hFC s).choose_spec).2
  show wpAnyM _ _ _ _ _ 14 (Array.replicate 14 false) _ _
  refine mv_read 0 hF (fun _ _ _ h => h) rfl (by kernel_rfl) (by kernel_rfl) (by kernel_rfl) (fun K hK => ?_)
  go_simp
  first | refine ⟨_, fun _ => rfl, hK _ _ ?_⟩ | refine hK _ _ ?_
  clear hK K
  refine mv_read 1 hF (fun _ _ _ h => h) rfl (by kernel_rfl) (by kernel_rfl) (by kernel_rfl) (fun K hK => ?_)
  go_simp
  first | refine ⟨_, fun _ => rfl, hK _ _ ?_⟩ | refine hK _ _ ?_
  clear hK K
  refine mv_read 2 hF (fun _ _ _ h => h) rfl (by kernel_rfl) (by kernel_rfl) (by kernel_rfl) (fun K hK => ?_)
  go_simp
  first | refine ⟨_, fun _ => rfl, hK _ _ ?_⟩ | refine hK _ _ ?_
  clear hK K
  refine mv_read 6 hF (fun _ _ _ h => h) rfl (by kernel_rfl) (by kernel_rfl) (by kernel_rfl) (fun K hK => ?_)
  go_simp
  first | refine ⟨_, fun _ => rfl, hK _ _ ?_⟩ | refine hK _ _ ?_
  clear hK K
  refine mv_read 7 hF (fun _ _ _ h => h) rfl (by kernel_rfl) (by kernel_rfl) (by kernel_rfl) (fun K hK => ?_)
  go_simp
  first | refine ⟨_, fun _ => rfl, hK _ _ ?_⟩ | refine hK _ _ ?_
  clear hK K
  refine mv_read 8 hF (fun _ _ _ h => h) rfl (by kernel_rfl) (by kernel_rfl) (by kernel_rfl) (fun K hK => ?_)
  go_simp
  first | refine ⟨_, fun _ => rfl, hK _ _ ?_⟩ | refine hK _ _ ?_
  clear hK K
  refine mv_read 9 hF (fun _ _ _ h => h) rfl (by kernel_rfl) (by kernel_rfl) (by kernel_rfl) (fun K hK => ?_)
  go_simp
  first | refine ⟨_, fun _ => rfl, hK _ _ ?_⟩ | refine hK _ _ ?_
  clear hK K
  refine mv_read 10 hF (fun _ _ _ h => h) rfl (by kernel_rfl) (by kernel_rfl) (by kernel_rfl) (fun K hK => ?_)
  go_simp
  first | refine ⟨_, fun _ => rfl, hK _ _ ?_⟩ | refine hK _ _ ?_
  clear hK K
  refine mv_call 3 40 rfl (by kernel_rfl) rfl rfl eg_gkey (args := #[.int .i64 s.epoch]) rfl (fun v => v = .int .i64 (keyP s.epoch)) (fun g w9 ha h0 h => ?_) ?_
  · obtain ⟨hz9, vc9, br9, d9, hj9⟩ := StpQ.jhd H9.out.1 h
    refine ((gkey_any s.epoch w9).mono (R' := fun e w' => e = .returned (.int .i64 (keyP s.epoch)) ∧ Below w9.heap.size w9 w') fun e w' ⟨q1, q2⟩ => ⟨q1, by rw [q2]; exact Below.refl _ _⟩).mono ?_
    rintro en w8 ⟨q1, q2⟩
    exact ⟨_, q1, rfl, StpQ.on h q2⟩
  rintro _ rfl
  refine mv_call 4 44 rfl (by kernel_rfl) rfl rfl eg_slempty9 (args := #[]) rfl (fun v => v = .string ZS) (fun g w9 ha h0 h => ?_) ?_
  · obtain ⟨hz9, vc9, br9, d9, hj9⟩ := StpQ.jhd H9.out.1 h
    refine (HSl.out w9).mono ?_
    rintro en w8 ⟨q1, q2⟩
    exact ⟨_, q1, rfl, StpQ.on h q2⟩
  rintro _ rfl
  refine mv_call 5 34 rfl (by kernel_rfl) rfl rfl eg_jwrite (args := #[.pointer (some ⟨jn, 0, none⟩), .int .i64 (keyP s.epoch), .string (ZS)]) rfl (fun v => ∃ b0 b1 b2, v = wrV b0 b1 b2) (fun g w9 ha h0 h => ?_) ?_
  · simp only [h0] at h
    refine (jwrite_any jn (keyP s.epoch) (ZS) w9).mono ?_
    rintro en w8 ⟨q1, q2, q3, q4, q5, q6⟩
    refine ⟨_, q1, ⟨_, _, _, rfl⟩, ?_⟩
    show StpQ _ _ _ _ _ _ _ _ _ _ _ _ (upd g 5 _ 5) none (g 11) (g 12) _
    rw [upd_self]
    exact StpQ.one h q2 (StpQ.wr H9.out.1 h q4 q5 q6)
  rintro _ ⟨w10, w11, w12, rfl⟩
  refine mv_alone 11 rfl (by kernel_rfl) rfl (fun v => ∃ b, v = .slice (some ⟨b, 0, none⟩) 2 2) (fun g w9 ha h0 h D hD => ?_) ?_
  · skip
    have e5 : g 5 = some (wrV w10 w11 w12) := by have e := agree_on 5 ha (by kernel_rfl); exact e.trans rfl
    have h8 := h
    simp only [h0, e5] at h8
    have h7 := StpQ.built (C := #[.func (.func 64) #[] #[.pointer (some ⟨w10, 0, none⟩), .pointer (some ⟨w11, 0, none⟩), .pointer (some ⟨w12, 0, none⟩)], .func (.func 41) #[.pointer (some ⟨dn, 0, none⟩)] #[]]) (T := 43) H9.out.1 h8 (fun hc k x hx => by
      match k, hx with
      | 0, hx => cases hx; exact ⟨_, rfl, hc.s1 _ rfl⟩
      | 1, hx => cases hx; exact ⟨_, rfl, rfl⟩
      | k + 2, hx => exact absurd hx (by simp))
    have hD2 := hD _ _ ⟨_, rfl⟩ (show StpQ _ _ _ _ _ _ _ _ _ _ _ _ (g 5) none (upd g 11 _ 11) (g 12) _ by rw [upd_self, e5]; exact h7)
    clear hD h h7 h8
    go_simp
    exact hD2
  rintro _ ⟨sb, rfl⟩
  refine mv_call 12 33 rfl (by kernel_rfl) rfl rfl eg_jsteps (args := #[.pointer (some ⟨jn, 0, none⟩), .slice (some ⟨sb, 0, none⟩) 2 2]) rfl (fun v => v = .int .i64 (stepsE J2.d [.wr (keyP s.epoch) (ZS), .fl])) (fun g w9 ha h0 h => ?_) ?_
  · have e11 : g 11 = some (.slice (some ⟨sb, 0, none⟩) 2 2) := by have e := agree_on 11 ha (by kernel_rfl); exact e.trans rfl
    simp only [h0, e11] at h
    refine (StpQ.steps H9.out.1 h (by simp)).mono ?_
    rintro en w8 ⟨q1, q2⟩
    refine ⟨_, q1, rfl, ?_⟩
    show StpQ _ _ _ _ _ _ _ _ _ _ _ _ (g 5) none (g 11) (upd g 12 _ 12) _
    rw [upd_self]
    exact q2
  rintro _ rfl
  refine mv_read 13 hF (fun _ _ _ h => h) rfl (by kernel_rfl) (by kernel_rfl) (by kernel_rfl) (fun K hK => ?_)
  go_simp
  first | refine ⟨_, fun _ => rfl, hK _ _ ?_⟩ | refine hK _ _ ?_
  clear hK K
  refine mv_end (by kernel_rfl) ?_
  intro y8 hy8
  have HY : Hid (StpP y7 jn (.pointer (some ⟨sn, 0, none⟩)) dn vb vc3 J2.last J2.broken J2.d [.wr (keyP s.epoch) (ZS), .fl] y8) := Lib.hid (StpQ.done (v := .int .i64 (stepsE J2.d [.wr (keyP s.epoch) (ZS), .fl])) hy8)
  clear hy8 hF hFC kd ks 
  obtain ⟨vc4, h1, h2⟩ := HY.out
  have hsp := sp_hd H9.out.2.1 H9.out.2.2.1 h2
  have H10 := Lib.hid (show JLv y8 jn sn dn vb vc4 AJ ∧ Turn w y8 (FL jn sn dn vb vc) (FL jn sn dn vb vc4) from ⟨by rw [HJ.out]; exact ⟨h1, hsp.1, hsp.2⟩, H9.out.2.2.2.trans (turn_hd h2)⟩)
  clear HY hsp h1 h2 H9 HJ
  generalize stepsE J2.d [.wr (keyP s.epoch) ZS, .fl] = SE at *
  by_cases h1 : SE = 0
  case neg =>
    have h1b : (SE != 0) = true := by simpa using h1
    have HZi := Lib.hid (show AI = 0 by rw [HI.out, HE.out]; exact if_neg h1)
    clear h1 HI
    go_wp2
    exact HR.out _ _ ⟨by rw [HE.out, HZi.out] <;> rfl, vc4, H10.out⟩
  subst h1
  have HZi := Lib.hid (show AI = u by rw [HI.out, HE.out]; exact if_pos rfl)
  clear HI
  go_wp2
  exact HR.out _ _ ⟨by rw [HE.out, HZi.out] <;> rfl, vc4, H10.out⟩
end Go.Proofs.YteppfjgglelpbaaGreat
/- What a journal tells of itself; journals that are none, or that no call made: of the program. -/
set_option maxRecDepth 100000
namespace Go.Proofs.YteppfjgglelpbaaGreat
open Go.RowKit Ks
set_option linter.unusedVariables false
set_option linter.unusedSimpArgs false
/-- a journal that no call made -/
abbrev JDead (w : World) (jn : Nat) : Prop := w.heap[jn]? = some (.cells #[.pointer none, .pointer none, .int .i64 0, .int .i64 0, .int .i64 0, .int .i64 0, .int .i64 0, .int .i64 0, .int .i64 0, .bool false] 31 (0, 0))
set_option maxRecDepth 100000 in
set_option maxHeartbeats 4000000 in
theorem jsuper_any {jn dn : Nat} {spv vb vc : Value} {s : SupT} {br : Bool} {d : DS} (w : World) (h : JHd w jn spv dn vb vc s br d) : Calls Tryz.prog 14 #[(.pointer (some ⟨jn, 0, none⟩))] w fun e w' => e = .returned (.agg #[.int .i64 s.gen, .int .i64 s.tail, .int .i64 s.epoch, .int .i64 s.clock, .int .i64 s.b, .int .i64 s.l, .int .i64 s.f]) ∧ Below w.heap.size w w' := by
  refine calls_by fun R HR => ?_
  have H1 := Lib.hid (And.intro (Below.refl w.heap.size w) (h.blk))
  obtain ⟨W1, hW1⟩ : ∃ W1, w.alloc (.cells #[.int .i64 0, .int .i64 0, .int .i64 0, .int .i64 0, .int .i64 0, .int .i64 0, .int .i64 0] 29) = W1 := ⟨_, rfl⟩
  have hbW1 : Below w.heap.size w W1 := by rw [← hW1]; exact alloc_below w _
  have kW1 : W1.heap[w.heap.size]? = some (.cells #[.int .i64 0, .int .i64 0, .int .i64 0, .int .i64 0, .int .i64 0, .int .i64 0, .int .i64 0] 29 (0, 0)) := by rw [← hW1]; exact alloc_new w _
  have EW1 := Lib.hid hW1
  have H2 := Lib.hid (And.intro (H1.out.1.trans (hbW1.mono H1.out.1.size)) (And.intro (blk_on hbW1 H1.out.2) (kW1)))
  clear hbW1 kW1 hW1
  obtain ⟨⟨z0, z1, z2, z3, z4, z5, z6, z7, z8, z9⟩, -⟩ := blkJ H2.out.2.1
  obtain ⟨WR, hWR⟩ : ∃ W, W1.setRow w.heap.size #[.int .i64 s.gen, .int .i64 s.tail, .int .i64 s.epoch, .int .i64 s.clock, .int .i64 s.b, .int .i64 s.l, .int .i64 s.f] = W := ⟨_, rfl⟩
  have KE := Lib.hid (show WR.heap[w.heap.size]? = some (.cells #[.int .i64 s.gen, .int .i64 s.tail, .int .i64 s.epoch, .int .i64 s.clock, .int .i64 s.b, .int .i64 s.l, .int .i64 s.f] 29 (0, 0)) by rw [← hWR]; exact setRow_heap W1 _ _ _ _ _ H2.out.2.2)
  have BE := Lib.hid (show Below w.heap.size w WR by rw [← hWR]; exact below_setRow H2.out.1 (Nat.le_refl _) _)
  obtain ⟨⟨y0, y1, y2, y3, y4, y5, y6⟩, -⟩ := blk7j KE.out
  go_enter Tryz.func14, Tryz.ntmps14
  go_upto_region 3 with fail
  rw [EW1.out]
  go_wp2_with (refine wpList_store_blk rfl 29 (.tmp 2) (.tmp 9) rfl w.heap.size 0 7 rfl #[.int .i64 0, .int .i64 0, .int .i64 0, .int .i64 0, .int .i64 0, .int .i64 0, .int .i64 0] #[.int .i64 s.gen, .int .i64 s.tail, .int .i64 s.epoch, .int .i64 s.clock, .int .i64 s.b, .int .i64 s.l, .int .i64 s.f] #[.int .i64 s.gen, .int .i64 s.tail, .int .i64 s.epoch, .int .i64 s.clock, .int .i64 s.b, .int .i64 s.l, .int .i64 s.f] rfl 29 H2.out.2.2 rfl (Nat.le_refl 7) (by kernel_rfl) (sup_one _ _ _ _ _ _ _) (splice_all _ _ rfl) ?_; rw [hWR])
  refine ret_blk rfl rfl KE.out rfl rfl rfl rfl ?_
  exact HR.out _ _ ⟨rfl, BE.out⟩
set_option maxRecDepth 100000 in
set_option maxHeartbeats 4000000 in
theorem jsuper_dead {jn : Nat} (w : World) (h : JDead w jn) : Calls Tryz.prog 14 #[(.pointer (some ⟨jn, 0, none⟩))] w fun e w' => e = .returned (.agg #[.int .i64 0, .int .i64 0, .int .i64 0, .int .i64 0, .int .i64 0, .int .i64 0, .int .i64 0]) ∧ Below w.heap.size w w' := by
  refine calls_by fun R HR => ?_
  have H1 := Lib.hid (And.intro (Below.refl w.heap.size w) (h))
  obtain ⟨W1, hW1⟩ : ∃ W1, w.alloc (.cells #[.int .i64 0, .int .i64 0, .int .i64 0, .int .i64 0, .int .i64 0, .int .i64 0, .int .i64 0] 29) = W1 := ⟨_, rfl⟩
  have hbW1 : Below w.heap.size w W1 := by rw [← hW1]; exact alloc_below w _
  have kW1 : W1.heap[w.heap.size]? = some (.cells #[.int .i64 0, .int .i64 0, .int .i64 0, .int .i64 0, .int .i64 0, .int .i64 0, .int .i64 0] 29 (0, 0)) := by rw [← hW1]; exact alloc_new w _
  have EW1 := Lib.hid hW1
  have H2 := Lib.hid (And.intro (H1.out.1.trans (hbW1.mono H1.out.1.size)) (And.intro (blk_on hbW1 H1.out.2) (kW1)))
  clear hbW1 kW1 hW1
  obtain ⟨⟨z0, z1, z2, z3, z4, z5, z6, z7, z8, z9⟩, -⟩ := blkJ H2.out.2.1
  obtain ⟨WR, hWR⟩ : ∃ W, W1.setRow w.heap.size #[.int .i64 0, .int .i64 0, .int .i64 0, .int .i64 0, .int .i64 0, .int .i64 0, .int .i64 0] = W := ⟨_, rfl⟩
  have KE := Lib.hid (show WR.heap[w.heap.size]? = some (.cells #[.int .i64 0, .int .i64 0, .int .i64 0, .int .i64 0, .int .i64 0, .int .i64 0, .int .i64 0] 29 (0, 0)) by rw [← hWR]; exact setRow_heap W1 _ _ _ _ _ H2.out.2.2)
  have BE := Lib.hid (show Below w.heap.size w WR by rw [← hWR]; exact below_setRow H2.out.1 (Nat.le_refl _) _)
  obtain ⟨⟨y0, y1, y2, y3, y4, y5, y6⟩, -⟩ := blk7j KE.out
  go_enter Tryz.func14, Tryz.ntmps14
  go_upto_region 3 with fail
  rw [EW1.out]
  go_wp2_with (refine wpList_store_blk rfl 29 (.tmp 2) (.tmp 9) rfl w.heap.size 0 7 rfl #[.int .i64 0, .int .i64 0, .int .i64 0, .int .i64 0, .int .i64 0, .int .i64 0, .int .i64 0] #[.int .i64 0, .int .i64 0, .int .i64 0, .int .i64 0, .int .i64 0, .int .i64 0, .int .i64 0] #[.int .i64 0, .int .i64 0, .int .i64 0, .int .i64 0, .int .i64 0, .int .i64 0, .int .i64 0] rfl 29 H2.out.2.2 rfl (Nat.le_refl 7) (by kernel_rfl) (sup_one _ _ _ _ _ _ _) (splice_all _ _ rfl) ?_; rw [hWR])
  refine ret_blk rfl rfl KE.out rfl rfl rfl rfl ?_
  exact HR.out _ _ ⟨rfl, BE.out⟩
set_option maxRecDepth 100000 in
set_option maxHeartbeats 4000000 in
theorem jsuper_no (w : World) : Calls Tryz.prog 14 #[(.pointer none)] w fun e w' => e = .returned (.agg #[.int .i64 0, .int .i64 0, .int .i64 0, .int .i64 0, .int .i64 0, .int .i64 0, .int .i64 0]) ∧ Below w.heap.size w w' := by
  refine calls_by fun R HR => ?_
  have H1 := Lib.hid (Below.refl w.heap.size w)
  obtain ⟨W1, hW1⟩ : ∃ W1, w.alloc (.cells #[.int .i64 0, .int .i64 0, .int .i64 0, .int .i64 0, .int .i64 0, .int .i64 0, .int .i64 0] 29) = W1 := ⟨_, rfl⟩
  have hbW1 : Below w.heap.size w W1 := by rw [← hW1]; exact alloc_below w _
  have kW1 : W1.heap[w.heap.size]? = some (.cells #[.int .i64 0, .int .i64 0, .int .i64 0, .int .i64 0, .int .i64 0, .int .i64 0, .int .i64 0] 29 (0, 0)) := by rw [← hW1]; exact alloc_new w _
  have EW1 := Lib.hid hW1
  have H2 := Lib.hid (And.intro (H1.out.trans (hbW1.mono H1.out.size)) (kW1))
  clear hbW1 kW1 hW1
  obtain ⟨WR, hWR⟩ : ∃ W, W1.setRow w.heap.size #[.int .i64 0, .int .i64 0, .int .i64 0, .int .i64 0, .int .i64 0, .int .i64 0, .int .i64 0] = W := ⟨_, rfl⟩
  have KE := Lib.hid (show WR.heap[w.heap.size]? = some (.cells #[.int .i64 0, .int .i64 0, .int .i64 0, .int .i64 0, .int .i64 0, .int .i64 0, .int .i64 0] 29 (0, 0)) by rw [← hWR]; exact setRow_heap W1 _ _ _ _ _ H2.out.2)
  have BE := Lib.hid (show Below w.heap.size w WR by rw [← hWR]; exact below_setRow H2.out.1 (Nat.le_refl _) _)
  obtain ⟨⟨y0, y1, y2, y3, y4, y5, y6⟩, -⟩ := blk7j KE.out
  go_enter Tryz.func14, Tryz.ntmps14
  go_upto_region 2 with fail
  rw [EW1.out]
  go_wp2_with (refine wpList_store_blk rfl 29 (.tmp 2) (.tmp 5) rfl w.heap.size 0 7 rfl #[.int .i64 0, .int .i64 0, .int .i64 0, .int .i64 0, .int .i64 0, .int .i64 0, .int .i64 0] #[.int .i64 0, .int .i64 0, .int .i64 0, .int .i64 0, .int .i64 0, .int .i64 0, .int .i64 0] #[.int .i64 0, .int .i64 0, .int .i64 0, .int .i64 0, .int .i64 0, .int .i64 0, .int .i64 0] rfl 29 H2.out.2 rfl (Nat.le_refl 7) (by kernel_rfl) (sup_one _ _ _ _ _ _ _) (splice_all _ _ rfl) ?_; rw [hWR])
  refine ret_blk rfl rfl KE.out rfl rfl rfl rfl ?_
  exact HR.out _ _ ⟨rfl, BE.out⟩
end Go.Proofs.YteppfjgglelpbaaGreat
/- Journals that are none, or that no call made; how many blocks there are, and may be: of the program. -/
set_option maxRecDepth 100000
namespace Go.Proofs.YteppfjgglelpbaaGreat
open Go.RowKit Ks
set_option linter.unusedVariables false
set_option linter.unusedSimpArgs false
theorem JDead.below {w w' : World} {jn : Nat} (h : JDead w jn) (hb : Below w.heap.size w w') : JDead w' jn := blk_on hb h
theorem jready_no (w : World) : Calls Tryz.prog 31 #[.pointer none] w fun e w' => e = .returned (.int .i64 1) ∧ w' = w := by
  refine calls_by fun R HR => ?_
  go_enter Tryz.func31, Tryz.ntmps31
  go_wp2
  exact HR.out _ _ ⟨rfl, rfl⟩
theorem jready_dead {jn : Nat} (w : World) (h : JDead w jn) : Calls Tryz.prog 31 #[.pointer (some ⟨jn, 0, none⟩)] w fun e w' => e = .returned (.int .i64 1) ∧ w' = w := by
  refine calls_by fun R HR => ?_
  obtain ⟨⟨z0, z1, z2, z3, z4, z5, z6, z7, z8, z9⟩, -⟩ := blkJ h
  clear h
  go_enter Tryz.func31, Tryz.ntmps31
  go_wp2
  exact HR.out _ _ ⟨rfl, rfl⟩
/-- a journal that takes nothing -/
def NoJ (w : World) (v : Value) : Prop := v = .pointer none ∨ ∃ jn, v = .pointer (some ⟨jn, 0, none⟩) ∧ JDead w jn
theorem NoJ.below {w w' : World} {v : Value} (h : NoJ w v) (hb : Below w.heap.size w w') : NoJ w' v := by
  rcases h with h | ⟨jn, h1, h2⟩
  · exact Or.inl h
  · exact Or.inr ⟨jn, h1, h2.below hb⟩
theorem noj_ready {v : Value} (w : World) (h : NoJ w v) : Calls Tryz.prog 31 #[v] w fun e w' => e = .returned (.int .i64 1) ∧ w' = w := by
  rcases h with h | ⟨jn, h1, h2⟩
  · subst h; exact jready_no w
  · subst h1; exact jready_dead w h2
theorem noj_append {v : Value} (t : ByteArray) (w : World) (h : NoJ w v) : Calls Tryz.prog 7 #[v, .string t] w fun e w' => e = .returned (.tuple #[.int .i64 0, .int .i64 1]) ∧ w' = w := by
  refine calls_by fun R HR => ?_
  have HRd := Lib.hid (noj_ready w h)
  clear h
  go_enter Tryz.func7, Tryz.ntmps7
  go_wp2_with fail
  refine HRd.out.mono ?_
  rintro en y9 ⟨rfl, hw⟩
  rw [hw]
  clear hw y9
  go_wp2
  exact HR.out _ _ ⟨rfl, rfl⟩
theorem noj_close {v : Value} (t k : ByteArray) (c : Int) (w : World) (h : NoJ w v) : Calls Tryz.prog 8 #[v, .string t, .string k, .int .i64 c] w fun e w' => e = .returned (.tuple #[.int .i64 0, .int .i64 1]) ∧ w' = w := by
  refine calls_by fun R HR => ?_
  have HRd := Lib.hid (noj_ready w h)
  clear h
  go_enter Tryz.func8, Tryz.ntmps8
  go_wp2_with fail
  refine HRd.out.mono ?_
  rintro en y9 ⟨rfl, hw⟩
  rw [hw]
  clear hw y9
  go_wp2
  exact HR.out _ _ ⟨rfl, rfl⟩
theorem noj_commit {v : Value} (c : Int) (w : World) (h : NoJ w v) : Calls Tryz.prog 11 #[v, .int .i64 c] w fun e w' => e = .returned (.int .i64 1) ∧ w' = w := by
  refine calls_by fun R HR => ?_
  have HRd := Lib.hid (noj_ready w h)
  clear h
  go_enter Tryz.func11, Tryz.ntmps11
  go_wp2_with fail
  refine HRd.out.mono ?_
  rintro en y9 ⟨rfl, hw⟩
  rw [hw]
  clear hw y9
  go_wp2
  exact HR.out _ _ ⟨rfl, rfl⟩
theorem noj_over {v : Value} (i : Int) (t : ByteArray) (w : World) (h : NoJ w v) : Calls Tryz.prog 12 #[v, .int .i64 i, .string t] w fun e w' => e = .returned (.int .i64 1) ∧ w' = w := by
  refine calls_by fun R HR => ?_
  have HRd := Lib.hid (noj_ready w h)
  clear h
  go_enter Tryz.func12, Tryz.ntmps12
  go_wp2_with fail
  refine HRd.out.mono ?_
  rintro en y9 ⟨rfl, hw⟩
  rw [hw]
  clear hw y9
  go_wp2
  exact HR.out _ _ ⟨rfl, rfl⟩
theorem noj_flush {v : Value} (w : World) (h : NoJ w v) : Calls Tryz.prog 13 #[v] w fun e w' => e = .returned (.int .i64 1) ∧ w' = w := by
  refine calls_by fun R HR => ?_
  have HRd := Lib.hid (noj_ready w h)
  clear h
  go_enter Tryz.func13, Tryz.ntmps13
  go_wp2_with fail
  refine HRd.out.mono ?_
  rintro en y9 ⟨rfl, hw⟩
  rw [hw]
  clear hw y9
  go_wp2
  exact HR.out _ _ ⟨rfl, rfl⟩
theorem noj_read {v : Value} (i : Int) (w : World) (h : NoJ w v) : Calls Tryz.prog 9 #[v, .int .i64 i] w fun e w' => e = .returned (.tuple #[.string ⟨#[]⟩, .int .i64 1]) ∧ w' = w := by
  refine calls_by fun R HR => ?_
  have HRd := Lib.hid (noj_ready w h)
  clear h
  go_enter Tryz.func9, Tryz.ntmps9
  go_wp2_with fail
  refine HRd.out.mono ?_
  rintro en y9 ⟨rfl, hw⟩
  rw [hw]
  clear hw y9
  go_wp2
  exact HR.out _ _ ⟨rfl, rfl⟩
theorem spthere_no (w : World) : Calls Tryz.prog 76 #[.pointer none] w fun e w' => e = .returned (.bool false) ∧ w' = w := by
  refine calls_by fun R HR => ?_
  go_enter Tryz.func76, Tryz.ntmps76
  go_wp2
  exact HR.out _ _ ⟨rfl, rfl⟩
theorem spused_no (w : World) : Calls Tryz.prog 45 #[.pointer none] w fun e w' => e = .returned (.int .i64 0) ∧ w' = w := by
  refine calls_by fun R HR => ?_
  have HRd := Lib.hid (spthere_no w)
  go_enter Tryz.func45, Tryz.ntmps45
  go_wp2_with fail
  refine HRd.out.mono ?_
  rintro en y9 ⟨rfl, hw⟩
  rw [hw]
  clear hw y9
  go_wp2
  exact HR.out _ _ ⟨rfl, rfl⟩
theorem noj_used {v : Value} (w : World) (h : NoJ w v) : Calls Tryz.prog 15 #[v] w fun e w' => e = .returned (.int .i64 0) ∧ w' = w := by
  refine calls_by fun R HR => ?_
  have HRd := Lib.hid (spused_no w)
  rcases h with rfl | ⟨jn, rfl, h⟩
  · go_enter Tryz.func15, Tryz.ntmps15
    go_wp2
    exact HR.out _ _ ⟨rfl, rfl⟩
  obtain ⟨⟨z0, z1, z2, z3, z4, z5, z6, z7, z8, z9⟩, -⟩ := blkJ h
  clear h
  go_enter Tryz.func15, Tryz.ntmps15
  go_wp2_with fail
  refine HRd.out.mono ?_
  rintro en y9 ⟨rfl, hw⟩
  rw [hw]
  clear hw y9
  go_wp2
  exact HR.out _ _ ⟨rfl, rfl⟩
theorem sproom_no (w : World) : Calls Tryz.prog 51 #[.pointer none] w fun e w' => e = .returned (.int .i64 0) ∧ w' = w := by
  refine calls_by fun R HR => ?_
  have HRd := Lib.hid (spthere_no w)
  go_enter Tryz.func51, Tryz.ntmps51
  go_wp2_with fail
  refine HRd.out.mono ?_
  rintro en y9 ⟨rfl, hw⟩
  rw [hw]
  clear hw y9
  go_wp2
  exact HR.out _ _ ⟨rfl, rfl⟩
theorem noj_room {v : Value} (w : World) (h : NoJ w v) : Calls Tryz.prog 16 #[v] w fun e w' => e = .returned (.int .i64 0) ∧ w' = w := by
  refine calls_by fun R HR => ?_
  have HRd := Lib.hid (sproom_no w)
  rcases h with rfl | ⟨jn, rfl, h⟩
  · go_enter Tryz.func16, Tryz.ntmps16
    go_wp2
    exact HR.out _ _ ⟨rfl, rfl⟩
  obtain ⟨⟨z0, z1, z2, z3, z4, z5, z6, z7, z8, z9⟩, -⟩ := blkJ h
  clear h
  go_enter Tryz.func16, Tryz.ntmps16
  go_wp2_with fail
  refine HRd.out.mono ?_
  rintro en y9 ⟨rfl, hw⟩
  rw [hw]
  clear hw y9
  go_wp2
  exact HR.out _ _ ⟨rfl, rfl⟩
theorem noj_super {v : Value} (w : World) (h : NoJ w v) : Calls Tryz.prog 14 #[v] w fun e w' => e = .returned (.agg #[.int .i64 0, .int .i64 0, .int .i64 0, .int .i64 0, .int .i64 0, .int .i64 0, .int .i64 0]) ∧ Below w.heap.size w w' := by
  rcases h with rfl | ⟨jn, rfl, h⟩
  · exact jsuper_no w
  · exact jsuper_dead w h
theorem jused_any {jn sn dn : Nat} {vb vc : Value} {j : JrnT} (w : World) (h : JLv w jn sn dn vb vc j) (hb : 0 < j.last.b) : Calls Tryz.prog 15 #[.pointer (some ⟨jn, 0, none⟩)] w fun e w' => e = .returned (.int .i64 j.used) ∧ w' = w := by
  refine calls_by fun R HR => ?_
  have HU := Lib.hid (spused_any w h.sp hb)
  obtain ⟨⟨z0, z1, z2, z3, z4, z5, z6, z7, z8, z9⟩, -⟩ := blkJ h.hd.blk
  clear h hb
  go_enter Tryz.func15, Tryz.ntmps15
  go_wp2_with fail
  refine HU.out.mono ?_
  rintro en y9 ⟨rfl, hw⟩
  rw [hw]
  clear hw y9
  go_wp2
  exact HR.out _ _ ⟨rfl, rfl⟩
theorem jroom_any {jn sn dn : Nat} {vb vc : Value} {j : JrnT} (w : World) (h : JLv w jn sn dn vb vc j) (hb : 0 < j.last.b ∧ j.last.b ≤ 9223372036854775807) : Calls Tryz.prog 16 #[.pointer (some ⟨jn, 0, none⟩)] w fun e w' => e = .returned (.int .i64 (roomG j.last j.used)) ∧ Below w.heap.size w w' := by
  refine calls_by fun R HR => ?_
  have HU := Lib.hid (sproom_any w h.sp hb)
  obtain ⟨⟨z0, z1, z2, z3, z4, z5, z6, z7, z8, z9⟩, -⟩ := blkJ h.hd.blk
  clear h hb
  go_enter Tryz.func16, Tryz.ntmps16
  go_wp2_with fail
  refine HU.out.mono ?_
  rintro en y9 ⟨rfl, hb⟩
  have HB := Lib.hid hb
  clear hb
  go_wp2
  exact HR.out _ _ ⟨rfl, HB.out⟩
end Go.Proofs.YteppfjgglelpbaaGreat
/- A range over a function that hands on what lies in memory (slices): the contract says of each what it reads as where it is handed. The loop's body leaves no way but its end. Plain. No program is in sight. -/
namespace Ks
open Go Go.RowKit
set_option linter.unusedVariables false

/-- What an iterator hands on: behind the last round (world A) x was made (world B), of which New tells; X is what it reads of x behind the round. -/
def SeenAll {α : Type} (F : Fence) (n : Nat) (P : Program) (g : Nat) (lb : Array Value) (encs : α → Array Value) (X : α → World → Prop) (New : List α → α → World → World → Prop) (x0 : α) (S : List α → Prop) (w : World) : Prop :=
  ∀ (l : Nat) (J : List α → World → Prop) (M : List α → α → World → Prop) (W : World), Below w.heap.size w W →
    (∀ pre A B, J pre A → Below A.heap.size A B → J pre B) → (∀ pre x A B, J pre A → Below A.heap.size A B → New pre x A B → M pre x B) →
    (∀ pre x W1, M pre x W1 → YieldAt F (n - 1) P l (encs x) W1 fun e W' => e = .returned (.bool true) ∧ J (pre ++ [x]) W' ∧ X x W') →
    (∀ A, Below W.heap.size W A → M [] x0 A) →
    CallsIn F n P g (#[.func (.yield l) #[] #[]] ++ lb) W fun e W' => (∃ v, e = .returned v) ∧ ∃ xs, S xs ∧ J xs W'

def seenPost {α : Type} (B : Nat) (I : List α → World → Prop) (X : α → World → Prop) (pre : List α) (x : α) (W : World) : Exit → Act → World → Prop
  | .normal, _, W' => KeepsFrom B W W' ∧ I (pre ++ [x]) W' ∧ X x W'
  | _, _, _ => False

theorem wpIn_range_seen {F : Fence} {n : Nat} {P : Program} {α : Type} {g : Operand} {ps : Array Tmp} {assign body : Code} {Q : Exit → Act → World → Prop} {a : Act} {w : World}
    (hro : F.round = none) (h1 : 1 ≤ n) {gf : Nat} {lb : Array Value} (hg : a.eval g = .func (.func gf) #[] lb) (hFg : F.fn gf) (eg : ∀ args w, (callFunc gf args).run P w = .ok (.enter gf args) w)
    {encs : α → Array Value} {X : α → World → Prop} {New : List α → α → World → World → Prop} {x0 : α} {S : List α → Prop} (hseq : SeenAll F (n - 1) P gf lb encs X New x0 S w) (hps : ∀ x, (encs x).size = ps.size)
    (I : List α → World → Prop) (M : List α → α → World → Prop) (hI : OwnFrom w.heap.size I) (hM : OwnFrom w.heap.size fun (s : List α × α) W => M s.1 s.2 W) (hX : OwnFrom w.heap.size X)
    (hIB : ∀ pre A B, I pre A → w.heap.size + 2 ≤ A.heap.size → Below A.heap.size A B → I pre B) (hIM : ∀ pre x A B, I pre A → w.heap.size + 2 ≤ A.heap.size → Below A.heap.size A B → New pre x A B → M pre x B)
    (h0 : ∀ A, Below w.heap.size w A → M [] x0 A) (a₁ : α → Act)
    (hassign : ∀ (l : Nat) (x : α) (W : World) (K : Act → World → Prop), K (a₁ x) W →
      assign.wpIn (F.inRound l) (n - 1 - 1) P (Exit.then K (fun _ _ _ => False)) { tmps := (ps.zip (encs x)).foldl (fun t (p, v) => t.setIfInBounds p v) a.tmps, defers := [] } W)
    (hbody : ∀ (l : Nat) (pre : List α) (x : α) (W : World), w.heap.size + 2 ≤ W.heap.size → M pre x W → body.wpIn (F.inRound l) (n - 1 - 1) P (seenPost w.heap.size I X pre x W) (a₁ x) W)
    (hdone : ∀ (D : Nat) (xs : List α) (W : World), w.heap.size ≤ D → S xs → I xs W → W.heap[D]? = some (.deferred (some [])) → Q .normal { a with defers := { target := .collected D, args := #[] } :: a.defers } W) :
    (Code.rangeFunc g ps assign body).wpIn F n P Q a w := by
  refine wpIn_rangeFunc fun fn hfn => ?_
  rw [hro]
  obtain ⟨mk, hmk⟩ : ∃ mk : LoopState → Loop, mk = fun st => { state := st, pending := none, fn, tmps := a.tmps, params := ps, assign, body, defers := w.heap.size } := ⟨_, rfl⟩
  obtain ⟨V, hV⟩ : ∃ V, (w.alloc (.deferred (some []))).alloc (.loop (mk .ready)) = V := ⟨_, rfl⟩
  have hs2 : V.heap.size = w.heap.size + 2 := by rw [← hV]; simp
  have hrec : V.heap[w.heap.size + 1]? = some (.loop (mk .ready)) := by
    rw [← hV]; have := World.alloc_heap_new (w.alloc (.deferred (some []))) (.loop (mk .ready)); rwa [World.size_alloc] at this
  have hdef : V.heap[w.heap.size]? = some (.deferred (some [])) := by
    rw [← hV]; exact (Below.heap_alloc _ _ _ (by simp)).trans (World.alloc_heap_new w _)
  have hwV : Below w.heap.size w V := by rw [← hV]; exact ((Below.refl _ w).alloc (Nat.le_refl _) _).alloc (by simp) _
  have lt : ∀ {A : World} {k : Nat} {o : Obj}, A.heap[k]? = some o → k < A.heap.size := fun h => (Array.getElem?_eq_some_iff.1 h).1
  refine ⟨w.heap.size + 1, [{ target := .collected w.heap.size, args := #[] }], V, { target := .fn (.func gf) lb, args := #[.func (.yield (w.heap.size + 1)) #[] #[]] }, V, gf,
    #[.func (.yield (w.heap.size + 1)) #[] #[]] ++ lb, V, by rw [← hV, hmk]; exact run_enterLoop_outer _ _ _ _ _, by simp only [resolve, hg]; simp [go_sem],
    fun f' hf' => by simp [Target.leads] at hf'; subst hf'; exact hFg, by simp [invoke, go_sem, eg], fun _ => h1, ?_⟩
  have key := hseq (w.heap.size + 1) (fun pre W => I pre W ∧ W.heap[w.heap.size + 1]? = some (.loop (mk .ready)) ∧ W.heap[w.heap.size]? = some (.deferred (some [])))
    (fun pre x W => M pre x W ∧ W.heap[w.heap.size + 1]? = some (.loop (mk .ready)) ∧ W.heap[w.heap.size]? = some (.deferred (some []))) V hwV
    (fun pre A B h hb => ⟨hIB pre A B h.1 (by have := lt h.2.1; omega) hb, (hb.block _ (lt h.2.1)).trans h.2.1, (hb.block _ (lt h.2.2)).trans h.2.2⟩)
    (fun pre x A B h hb hn => ⟨hIM pre x A B h.1 (by have := lt h.2.1; omega) hb hn, (hb.block _ (lt h.2.1)).trans h.2.1, (hb.block _ (lt h.2.2)).trans h.2.2⟩)
    (fun pre x W h => ?_) (fun A hb => ⟨h0 A (hwV.trans (hb.mono (by omega))), (hb.block _ (by omega)).trans hrec, (hb.block _ (by omega)).trans hdef⟩)
  · refine key.mono ?_
    rintro e W2 ⟨⟨v, rfl⟩, xs, hS, hi, hl, hk⟩
    exact ⟨none, _, by have := run_endLoop (P := P) hl (by rw [hmk]; simp); rw [hmk] at this; exact this, hdone _ xs _ (Nat.le_refl _) hS (hI.putObj _ hi (by omega) hl rfl) ((World.putObj_heap_other (by omega)).trans hk)⟩
  · obtain ⟨hm, hl, hk⟩ := h
    have hlt := lt hl
    have hy := run_yield (P := P) (args := encs x) hl (by rw [hmk]; exact hps x)
    rw [hmk] at hy
    refine ⟨fn, _, assign, body, hy, roundIn_of_wpIn hfn (hassign _ x W _ ⟨_, run_beginRound hl (by rw [hmk]), ?_⟩)⟩
    have hl2 : (W.putObj (w.heap.size + 1) (.loop { mk .ready with state := .busy })).heap[w.heap.size + 1]? = some (.loop { mk .ready with state := .busy }) := World.putObj_heap_same hlt
    have hk2 : (W.putObj (w.heap.size + 1) (.loop { mk .ready with state := .busy })).heap[w.heap.size]? = some (.deferred (some [])) := (World.putObj_heap_other (by omega)).trans hk
    refine wpIn_mono (hbody _ pre x _ (by simp; omega) (hM.putObj (s := (pre, x)) _ hm (by omega) hl rfl)) ?_
    rintro e a3 W3 hp
    cases e with
    | normal =>
      obtain ⟨hk3, hi3, hx3⟩ := hp
      have hl3 := hk3.same _ _ (by omega) hl2 rfl
      have hd3 := hk3.same _ _ (Nat.le_refl _) hk2 rfl
      have hr := run_endRound (P := P) none hl3
      have hlt3 := lt hl3
      refine ⟨_, _, hr, rfl, ⟨hI.putObj _ hi3 (by omega) hl3 rfl, ?_, (World.putObj_heap_other (by omega)).trans hd3⟩, hX.putObj _ hx3 (by omega) hl3 rfl⟩
      rw [World.putObj_heap_same hlt3, hmk]
      rfl
    | ret => exact hp.elim
    | exit id => exact hp.elim
    | goto t => exact hp.elim
    | panic ch => exact hp.elim
    | outgrown => exact hp.elim
end Ks
