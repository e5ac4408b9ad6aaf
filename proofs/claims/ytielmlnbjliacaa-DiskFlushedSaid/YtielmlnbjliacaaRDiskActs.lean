/- The reference's disk: its functions. -/
import Derived.Test.YtielmlnbjliacaaRDiskObj
import Derived.Test.YtielmlnbjliacaaDiskFlush
namespace Ks
open Go Go.RowKit
set_option linter.unusedVariables false
theorem showC_fwd (b : List ByteArray) (c : List PutT) (k : Nat) (i : Int) (x : PutT) (hx : c[k]? = some x) : showC b (c.take (k + 1)) i = if x.1 = i then x.2 else showC b (c.take k) i := by
  by_cases h : x.1 = i
  · rw [if_pos h]; exact showC_hit b c k i x hx h
  · rw [if_neg h]; exact showC_miss b c k i x hx h
def showTo (b : List ByteArray) (c : List PutT) (k : Nat) : List ByteArray := (List.range b.length).map fun (j : Nat) => if j < k then showC b c (j : Int) else b.getD j ⟨#[]⟩
theorem showTo_length (b : List ByteArray) (c : List PutT) (k : Nat) : (showTo b c k).length = b.length := by simp [showTo]
theorem showTo_zero (b : List ByteArray) (c : List PutT) : showTo b c 0 = b := by
  refine List.ext_getElem (by simp [showTo]) fun i h1 h2 => ?_
  simp [showTo, h2]
theorem showTo_get (b : List ByteArray) (c : List PutT) (k : Nat) (hk : k < b.length) : (showTo b c k).getD k ⟨#[]⟩ = b.getD k ⟨#[]⟩ := by simp [showTo, hk]
theorem showTo_show (b : List ByteArray) (c d : List PutT) (k : Nat) (hk : k < b.length) : showC (showTo b c k) d k = showC b d k := by
  unfold showC
  rw [Int.toNat_natCast, showTo_get b c k hk]
theorem showTo_set (b : List ByteArray) (c : List PutT) (k : Nat) (hk : k < b.length) : (showTo b c k).set k (showC b c k) = showTo b c (k + 1) := by
  refine List.ext_getElem (by simp [showTo]) fun i h1 h2 => ?_
  rw [List.getElem_set]
  simp only [showTo, List.getElem_map, List.getElem_range]
  by_cases e : k = i
  · subst e; simp
  · rw [if_neg e]
    by_cases h : i < k
    · rw [if_pos h, if_pos (by omega)]
    · rw [if_neg h, if_neg (by omega)]
theorem showTo_all (b : List ByteArray) (c : List PutT) (hc : ∀ p ∈ c, 0 ≤ p.1) : showTo b c b.length = c.foldl putC b := by
  rw [puts_all b c hc, showTo]
  refine List.map_congr_left fun j hj => ?_
  rw [if_pos (List.mem_range.1 hj)]
end Ks
namespace Go.Proofs.Ytielmlnbjliacaa
open Go.RowKit Ks
set_option linter.unusedVariables false
variable {n : Nat} {vb vc : Value} {s : DS}
abbrev RkAt (w : World) := RDiskAt w 64 9 75

set_option maxHeartbeats 1000000 in
theorem rshown_any (i : Nat) (w : World) (h : RkAt w n vb vc s) (hi : i < s.blocks.length) : Calls Try.prog 60 #[.pointer (some ⟨n, 0, none⟩), .int .i64 (i : Int)] w fun e w' => e = .returned (.string (showC s.blocks s.cache i)) ∧ w' = w := by
  refine calls_by fun R HR => ?_
  obtain ⟨c0, c1, c2, c3⟩ := h.cells
  obtain ⟨a0, cap0, hv0, _⟩ := h.rb.shape
  obtain ⟨a1, cap1, hv1, _⟩ := h.rc.shape
  have RB := h.rb.rd
  have RC := h.rc.rd
  have hcl := h.ok.cache
  subst hv0 hv1
  obtain ⟨gb, ob, rfl, hgb, cb⟩ := RB.str i hi
  have HX0 := Lib.hid (show showC s.blocks (s.cache.take 0) i = s.blocks[i] by simp [showC, hi])
  obtain ⟨x0, hx0⟩ : ∃ x, s.blocks[i] = x := ⟨_, rfl⟩
  rw [hx0] at cb HX0
  have HC : Hid (showC s.blocks s.cache i = showC s.blocks (s.cache.take s.cache.length) i) := Lib.hid (by rw [List.take_length])
  have HRC := Lib.hid RC
  have hii : (i : Int) < (s.blocks.length : Int) := by omega
  clear h c2 c3 RB RC hx0 hi
  obtain ⟨bl, hbl⟩ : ∃ bl, s.blocks = bl := ⟨_, rfl⟩
  obtain ⟨cl, hcl2⟩ : ∃ cl, s.cache = cl := ⟨_, rfl⟩
  rw [hbl] at HX0 HC c0 hii HR
  rw [hcl2] at HC HX0 HRC hcl c1 HR
  have hclI : (cl.length : Int) ≤ 4096 := by omega
  clear hbl hcl2 hcl
  go_enter Try.func60, Try.ntmps60
  go_wp2
  go_loop [6, 5] (fun k v => ∃ (m : Nat) (x : ByteArray), k = .int .i64 m ∧ v = .string x ∧ m ≤ cl.length ∧ Hid (x = showC bl (cl.take m) i)) (fun k _ => cl.length - (intOf k).toNat)
  case atStart => exact ⟨0, x0, rfl, rfl, by omega, Lib.hid HX0.out.symm⟩
  case round =>
    obtain ⟨m, x, rfl, rfl, hm, hx⟩ := hrel
    by_cases hlt : m < cl.length
    · obtain ⟨p, hp⟩ : ∃ p, cl[m]? = some p := ⟨_, List.getElem?_eq_getElem (by omega)⟩
      obtain ⟨gc, oc, rfl, hgc, d0, d1⟩ := HRC.out.putAt m p hp
      have HS := Lib.hid (showC_fwd bl cl m i p hp)
      obtain ⟨pa, pd⟩ := p
      simp only at d0 d1 HS
      have hmI : (m : Int) < (cl.length : Int) := by omega
      by_cases hpi : pa = i
      · have HS2 := Lib.hid (show showC bl (cl.take (m + 1)) i = pd by rw [HS.out, if_pos hpi])
        have heq : (pa == (i : Int)) = true := by rw [beq_iff_eq]; exact hpi
        clear HS hp hpi
        go_wp2
        go_round
        case rel => exact ⟨m + 1, pd, by go_num, rfl, by omega, Lib.hid HS2.out.symm⟩
        case measure => simp [intOf]; omega
      · have HS2 := Lib.hid (show showC bl (cl.take (m + 1)) i = showC bl (cl.take m) i by rw [HS.out, if_neg hpi])
        have heq : (pa == (i : Int)) = false := by rw [beq_eq_false_iff_ne]; exact hpi
        clear HS hp hpi
        go_wp2
        go_round
        case rel => exact ⟨m + 1, x, by go_num, rfl, by omega, Lib.hid (hx.out.trans HS2.out.symm)⟩
        case measure => simp [intOf]; omega
    · obtain rfl : m = cl.length := by omega
      go_wp2
      exact HR.out _ _ ⟨by rw [HC.out, ← hx.out] <;> rfl, rfl⟩

/-- is a place one of the disk's? as the reference asks it -/
theorem in_cases (s : DS) (i : Int) : (inD s i = true ∧ ¬ i < 0 ∧ ¬ (s.blocks.length : Int) ≤ i) ∨ (inD s i = false ∧ i < 0) ∨ (inD s i = false ∧ ¬ i < 0 ∧ (s.blocks.length : Int) ≤ i) := by
  unfold inD
  by_cases h1 : i < 0
  · right; left; exact ⟨by simp; omega, h1⟩
  · by_cases h2 : (s.blocks.length : Int) ≤ i
    · right; right; exact ⟨by simp; omega, h1, h2⟩
    · left; exact ⟨by simp; omega, h1, h2⟩

set_option maxHeartbeats 1000000 in
theorem rread_any (i : Int) (w : World) (h : RkAt w n vb vc s) : Calls Try.prog 33 #[.pointer (some ⟨n, 0, none⟩), .int .i64 i] w fun e w' => e = .returned (.tuple #[.string (readD s i).1, .int .i64 (readD s i).2]) ∧ w' = w := by
  refine calls_by fun R HR => ?_
  have HH := Lib.hid h
  obtain ⟨c0, c1, c2, c3⟩ := h.cells
  obtain ⟨a0, cap0, hv0, _⟩ := h.rb.shape
  rw [hv0] at c0
  clear h c1 c3 hv0
  cases hd : s.down
  · rw [hd] at c2
    rcases in_cases s i with ⟨q1, q2, q3⟩ | ⟨q1, q2⟩ | ⟨q1, q2, q3⟩
    · have HV := Lib.hid (show readD s i = (showC s.blocks s.cache i, 0) by simp [readD, hd, q1])
      obtain ⟨i, rfl⟩ := Int.eq_ofNat_of_zero_le (show 0 ≤ i by omega)
      have HI := Lib.hid (show i < s.blocks.length by omega)
      clear hd q1
      go_enter Try.func33, Try.ntmps33
      go_wp2_with fail
      refine (rshown_any i _ HH.out HI.out).mono ?_
      rintro e w1 ⟨rfl, rfl⟩
      go_wp2
      exact HR.out _ _ ⟨by rw [HV.out] <;> rfl, rfl⟩
    · have HV := Lib.hid (show readD s i = (⟨#[]⟩, 4) by simp [readD, hd, q1])
      clear hd q1
      go_enter Try.func33, Try.ntmps33
      go_wp2
      exact HR.out _ _ ⟨by rw [HV.out] <;> rfl, rfl⟩
    · have HV := Lib.hid (show readD s i = (⟨#[]⟩, 4) by simp [readD, hd, q1])
      clear hd q1
      go_enter Try.func33, Try.ntmps33
      go_wp2
      exact HR.out _ _ ⟨by rw [HV.out] <;> rfl, rfl⟩
  · rw [hd] at c2
    have HV := Lib.hid (show readD s i = (⟨#[]⟩, 14) by simp [readD, hd])
    clear hd
    go_enter Try.func33, Try.ntmps33
    go_wp2
    exact HR.out _ _ ⟨by rw [HV.out] <;> rfl, rfl⟩

set_option maxHeartbeats 1000000 in
theorem rlast_any (w : World) (h : RkAt w n vb vc s) (hd : s.down = false) : Calls Try.prog 59 #[.pointer (some ⟨n, 0, none⟩)] w fun e w' => e = .returned (.bool (stepD s).down) ∧ RkAt w' n vb vc (stepD s) ∧ Turn w w' (DF n vb vc) (DF n vb vc) := by
  refine calls_by fun R HR => ?_
  obtain ⟨c0, c1, c2, c3⟩ := h.cells
  have f2 := h.froz 2
  have f3 := h.froz 3
  have HH := Lib.hid h
  rw [hd] at c2
  clear h c0 c1
  obtain ⟨m, hm⟩ : ∃ m, s.left = m := ⟨_, rfl⟩
  rw [hm] at c3
  have hml : m ≤ 9223372036854775807 := by have := HH.out.ok.left; omega
  by_cases h0 : m = 0
  · subst h0
    have HM := Lib.hid (show stepD s = s by rw [stepD, if_pos hm])
    have HD := Lib.hid hd
    clear hd hm
    go_enter Try.func59, Try.ntmps59
    go_wp2
    exact HR.out _ _ ⟨by rw [HM.out, HD.out] <;> rfl, by rw [HM.out]; exact HH.out, Turn.refl _ _⟩
  · have HM := Lib.hid (show stepD s = { s with left := m - 1, down := decide (m - 1 = 0) } by rw [stepD, hm, if_neg h0])
    have HD := Lib.hid hd
    have hne : ((m : Int) == 0) = false := by rw [beq_eq_false_iff_ne]; omega
    by_cases h1 : m = 1
    · subst h1
      clear hd hm h0
      go_enter Try.func59, Try.ntmps59
      go_wp2
      obtain ⟨q1, q2⟩ := HH.out.head ((Turn.cell1 w n 3 (.int .i64 0)).trans (Turn.cell1 _ n 2 (.bool true))) (stepD s) (by rw [HM.out]; exact set_blk (set_blk HH.out.blk 3 (.int .i64 0)) 2 (.bool true)) (stepD_blocks s) (stepD_cache s) (stepD_ok HH.out.ok)
      exact HR.out _ _ ⟨by rw [HM.out] <;> rfl, q1, q2⟩
    · have hne1 : (((m : Int) - 1) == 0) = false := by rw [beq_eq_false_iff_ne]; omega
      have hdm := Lib.hid (show decide (m - 1 = 0) = false by simp; omega)
      have HMP := Lib.hid (show 1 ≤ m by omega)
      clear hd hm h0 h1
      go_enter Try.func59, Try.ntmps59
      go_wp2
      rw [show ((m : Int) - 1) = ((m - 1 : Nat) : Int) by have := HMP.out; omega]
      obtain ⟨q1, q2⟩ := HH.out.head (Turn.cell1 w n 3 (.int .i64 ((m - 1 : Nat) : Int))) (stepD s) (by rw [HM.out, hdm.out, ← HD.out]; exact set_blk HH.out.blk 3 (.int .i64 ((m - 1 : Nat) : Int))) (stepD_blocks s) (stepD_cache s) (stepD_ok HH.out.ok)
      exact HR.out _ _ ⟨by rw [HM.out, hdm.out] <;> rfl, q1, q2⟩

/-- what the reference asks of a place and a text -/
theorem place_cases (s : DS) (i : Int) (t : ByteArray) : (placeE s i t = 4 ∧ i < 0) ∨ (placeE s i t = 4 ∧ ¬ i < 0 ∧ (s.blocks.length : Int) ≤ i) ∨ (placeE s i t = 2 ∧ ¬ i < 0 ∧ ¬ (s.blocks.length : Int) ≤ i ∧ ((t.size : Int) != 4096) = true) ∨ (placeE s i t = 0 ∧ ¬ i < 0 ∧ ¬ (s.blocks.length : Int) ≤ i ∧ ((t.size : Int) != 4096) = false ∧ t.size = 4096) := by
  unfold placeE
  rcases in_cases s i with ⟨q1, q2, q3⟩ | ⟨q1, q2⟩ | ⟨q1, q2, q3⟩
  · rw [q1]
    by_cases ht : t.size = 4096
    · right; right; right
      exact ⟨by simp [ht], q2, q3, by rw [ht]; rfl, ht⟩
    · right; right; left
      exact ⟨by simp [ht], q2, q3, by rw [bne_iff_ne]; omega⟩
  · left; exact ⟨by simp [q1], q2⟩
  · right; left; exact ⟨by simp [q1], q2, q3⟩

set_option maxRecDepth 20000 in
set_option maxHeartbeats 2000000 in
theorem rwrite_any (i : Int) (t : ByteArray) (w : World) (h : RkAt w n vb vc s) : Calls Try.prog 32 #[.pointer (some ⟨n, 0, none⟩), .int .i64 i, .string t] w fun e w' => ∃ vc', e = .returned (.int .i64 (writeE s i t)) ∧ RkAt w' n vb vc' (writeD s i t) ∧ Turn w w' (DF n vb vc) (DF n vb vc') := by
  refine calls_by fun R HR => ?_
  have HH := Lib.hid h
  obtain ⟨c0, c1, c2, c3⟩ := h.cells
  obtain ⟨a0, cap0, hv0, _⟩ := h.rb.shape
  obtain ⟨a1, cap1, hv1, _⟩ := h.rc.shape
  have HV0 := Lib.hid hv0
  have HV1 := Lib.hid hv1
  have hcl := h.ok.cache
  rw [hv0] at c0
  rw [hv1] at c1
  have HLST := Lib.hid (rlast_any w h)
  clear h c3 hv0 hv1
  cases hd : s.down
  · rw [hd] at c2
    rcases place_cases s i t with ⟨p0, p1⟩ | ⟨p0, p1, p2⟩ | ⟨p0, p1, p2, p3⟩ | ⟨p0, p1, p2, p3, p4⟩
    · have HV := Lib.hid (show writeE s i t = 4 ∧ writeD s i t = s by simp [writeE, writeD, hd, p0])
      clear hd p0 hcl
      go_enter Try.func32, Try.ntmps32
      go_wp2
      exact HR.out _ _ ⟨vc, by rw [HV.out.1] <;> rfl, by rw [HV.out.2]; exact HH.out, Turn.refl _ _⟩
    · have HV := Lib.hid (show writeE s i t = 4 ∧ writeD s i t = s by simp [writeE, writeD, hd, p0])
      clear hd p0 hcl
      go_enter Try.func32, Try.ntmps32
      go_wp2
      exact HR.out _ _ ⟨vc, by rw [HV.out.1] <;> rfl, by rw [HV.out.2]; exact HH.out, Turn.refl _ _⟩
    · have HV := Lib.hid (show writeE s i t = 2 ∧ writeD s i t = s by simp [writeE, writeD, hd, p0])
      clear hd p0 hcl
      go_enter Try.func32, Try.ntmps32
      go_wp2
      exact HR.out _ _ ⟨vc, by rw [HV.out.1] <;> rfl, by rw [HV.out.2]; exact HH.out, Turn.refl _ _⟩
    · have hpi := place_in (show ¬ placeE s i t ≠ 0 by simpa using p0)
      by_cases hf : s.cache.length = 4096
      · have HV := Lib.hid (show writeE s i t = 5 ∧ writeD s i t = s by simp [writeE, writeD, hd, p0, hf])
        have hfi : ((s.cache.length : Int) == 4096) = true := by rw [hf]; rfl
        clear hd p0 p4 hpi hcl hf
        go_enter Try.func32, Try.ntmps32
        go_wp2
        exact HR.out _ _ ⟨vc, by rw [HV.out.1] <;> rfl, by rw [HV.out.2]; exact HH.out, Turn.refl _ _⟩
      · have hfi : ((s.cache.length : Int) == 4096) = false := by rw [beq_eq_false_iff_ne]; omega
        have HC := Lib.hid (show s.cache.length < 4096 by omega)
        have hle : ¬ 4096 ≤ s.cache.length := by omega
        have HS := Lib.hid (HLST.out hd)
        cases hs : (stepD s).down
        · have HV := Lib.hid (show writeE s i t = 0 ∧ writeD s i t = { stepD s with cache := s.cache ++ [(i, t)] } by simp [writeE, writeD, hd, p0, hle, hs])
          have HPI := Lib.hid hpi
          rw [hs] at HS
          clear hd p0 p4 hf hs hpi hle hcl
          go_enter Try.func32, Try.ntmps32
          go_wp2_with fail
          refine HS.out.mono ?_
          rintro e w2 ⟨rfl, hd2, ht2⟩
          have HD := Lib.hid (And.intro hd2 ht2)
          have e1 := hd2.cells.2.1
          have f1 := hd2.froz 1
          rw [HV1.out] at e1
          have hrow : Row pwE w2 0 75 (.slice a1 s.cache.length cap1) s.cache := by rw [← HV1.out, ← stepD_cache s]; exact hd2.rc
          have HRow := Lib.hid hrow
          clear hd2 ht2 c1 c0 c2 hfi hrow
          go_wp2_with (at_builtin; refine wpList_append_row _ rfl _ _ 38 rfl pwT 0 _ _ s.cache [(i, t)] rfl rfl (HRow.out.below (alloc_below _ _)) (Rd.single (E := pwE) (i, t) (alloc_new _ _) rfl) (Nat.zero_le _) (by have := HC.out; simp; omega) (by decide) ?_)
          intro v' w3 hG
          have HG := Lib.hid hG
          have hnb : Value.ownBlock (.slice a1 s.cache.length cap1) ≠ some n := by rw [← HV1.out]; exact HD.out.1.nc
          have hb3 := hG.block (blk_keep HD.out.1.blk _) hnb
          have k1 : w3.cell? ⟨n, 1, none⟩ = some vc := by rw [cell_of_row w3 n 1 _ _ _ hb3]; rfl
          have g1 : w3.frozen? ⟨n, 1, none⟩ = false := frozen_of_row w3 n 1 _ _ hb3
          obtain ⟨a2, n2, cap2, rfl⟩ := hG.1.any
          clear hG hb3 e1 f1 hnb
          rw [HV1.out] at k1
          go_wp2
          have hG := HG.out
          rw [← HV1.out, ← stepD_cache s] at hG
          obtain ⟨q1, q2⟩ := HD.out.1.append _ hG (by
            have h1 := stepD_ok HH.out.ok
            refine ⟨h1.blocks, by show (((stepD s).cache) ++ [(i, t)]).length ≤ _; rw [stepD_cache]; have := HC.out; simp; omega, fun p hp => ?_, h1.left⟩
            show 0 ≤ p.1 ∧ p.1 < ((stepD s).blocks.length : Int)
            rcases List.mem_append.1 hp with h2 | h2
            · exact h1.at_ p h2
            · simp at h2; subst h2; rw [stepD_blocks]; exact ⟨HPI.out.1, HPI.out.2.1⟩)
          rw [stepD_cache] at q1
          exact HR.out _ _ ⟨_, by rw [HV.out.1] <;> rfl, by rw [HV.out.2]; exact q1, HD.out.2.trans q2⟩
        · have HV := Lib.hid (show writeE s i t = 14 ∧ writeD s i t = stepD s by simp [writeE, writeD, hd, p0, hle, hs])
          rw [hs] at HS
          clear hd p0 p4 hf hs hpi hle hcl
          go_enter Try.func32, Try.ntmps32
          go_wp2_with fail
          refine HS.out.mono ?_
          rintro e w2 ⟨rfl, hd2, ht2⟩
          have HD := Lib.hid (And.intro hd2 ht2)
          clear hd2 ht2
          go_wp2
          exact HR.out _ _ ⟨vc, by rw [HV.out.1] <;> rfl, by rw [HV.out.2]; exact HD.out.1, HD.out.2⟩
  · rw [hd] at c2
    have HV := Lib.hid (show writeE s i t = 14 ∧ writeD s i t = s by simp [writeE, writeD, hd])
    clear hd hcl
    go_enter Try.func32, Try.ntmps32
    go_wp2
    exact HR.out _ _ ⟨vc, by rw [HV.out.1] <;> rfl, by rw [HV.out.2]; exact HH.out, Turn.refl _ _⟩

set_option maxHeartbeats 1000000 in
theorem rarm_any (m : Int) (w : World) (h : RkAt w n vb vc s) (hm : m ≤ 9223372036854775807) : Calls Try.prog 35 #[.pointer (some ⟨n, 0, none⟩), .int .i64 m] w fun e w' => e = .returned (.int .i64 (armE s m)) ∧ RkAt w' n vb vc (armD s m) ∧ Turn w w' (DF n vb vc) (DF n vb vc) := by
  refine calls_by fun R HR => ?_
  have HH := Lib.hid h
  obtain ⟨c0, c1, c2, c3⟩ := h.cells
  have f3 := h.froz 3
  clear h c0 c1
  cases hd : s.down
  · rw [hd] at c2
    by_cases hneg : m < 0
    · have HV := Lib.hid (show armE s m = 2 ∧ armD s m = s by simp [armE, armD, hd, hneg])
      clear hd
      go_enter Try.func35, Try.ntmps35
      go_wp2
      exact HR.out _ _ ⟨by rw [HV.out.1] <;> rfl, by rw [HV.out.2]; exact HH.out, Turn.refl _ _⟩
    · obtain ⟨k, rfl⟩ := Int.eq_ofNat_of_zero_le (show 0 ≤ m by omega)
      have HV := Lib.hid (show armE s k = 0 ∧ armD s k = { s with left := k } by simp [armE, armD, hd, hneg])
      clear hd
      go_enter Try.func35, Try.ntmps35
      go_wp2
      obtain ⟨q1, q2⟩ := HH.out.head (Turn.cell1 w n 3 (.int .i64 (k : Nat))) { s with left := k } (set_blk HH.out.blk 3 _) rfl rfl ⟨HH.out.ok.blocks, HH.out.ok.cache, HH.out.ok.at_, by show k ≤ _; omega⟩
      exact HR.out _ _ ⟨by rw [HV.out.1] <;> rfl, by rw [HV.out.2]; exact q1, q2⟩
  · rw [hd] at c2
    have HV := Lib.hid (show armE s m = 14 ∧ armD s m = s by simp [armE, armD, hd])
    clear hd
    go_enter Try.func35, Try.ntmps35
    go_wp2
    exact HR.out _ _ ⟨by rw [HV.out.1] <;> rfl, by rw [HV.out.2]; exact HH.out, Turn.refl _ _⟩

set_option maxHeartbeats 1000000 in
theorem rboot_any (w : World) (h : RkAt w n vb vc s) : Calls Try.prog 37 #[.pointer (some ⟨n, 0, none⟩)] w fun e w' => e = .returned (.tuple #[]) ∧ RkAt w' n vb (.slice none 0 0) (bootD s) ∧ Turn w w' (DF n vb vc) (DF n vb (.slice none 0 0)) := by
  refine calls_by fun R HR => ?_
  have HH := Lib.hid h
  obtain ⟨c0, c1, c2, c3⟩ := h.cells
  have f1 := h.froz 1
  have f2 := h.froz 2
  have f3 := h.froz 3
  clear h c0
  go_enter Try.func37, Try.ntmps37
  go_wp2
  have hT := ((Turn.cell w (F := fun k => k = n ∨ vc.ownBlock = some k) n 1 (.slice none 0 0) (Or.inl rfl)).trans (Turn.cell _ n 2 (.bool false) (Or.inl rfl))).trans (Turn.cell _ n 3 (.int .i64 0) (Or.inl rfl))
  obtain ⟨q1, q2⟩ := HH.out.cached (bootD s) hT (set_blk (set_blk (set_blk HH.out.blk 1 (.slice none 0 0)) 2 (.bool false)) 3 (.int .i64 0)) (Row.nil _ _ _) (fun b e => by simp [Value.ownBlock] at e) rfl (bootD_ok HH.out.ok)
  go_end0
  exact HR.out _ _ ⟨rfl, q1, q2⟩

set_option maxHeartbeats 1000000 in
theorem rover_any (i : Int) (t : ByteArray) (w : World) (h : RkAt w n vb vc s) : Calls Try.prog 38 #[.pointer (some ⟨n, 0, none⟩), .int .i64 i, .string t] w fun e w' => e = .returned (.int .i64 (placeE s i t)) ∧ RkAt w' n vb vc (overD s i t) ∧ Turn w w' (DF n vb vc) (DF n vb vc) := by
  refine calls_by fun R HR => ?_
  have HH := Lib.hid h
  obtain ⟨c0, c1, c2, c3⟩ := h.cells
  obtain ⟨a0, cap0, hv0, _⟩ := h.rb.shape
  rw [hv0] at c0
  clear c1 c2 c3
  rcases place_cases s i t with ⟨p0, p1⟩ | ⟨p0, p1, p2⟩ | ⟨p0, p1, p2, p3⟩ | ⟨p0, p1, p2, p3, p4⟩
  · have HV := Lib.hid (show overD s i t = s by simp [overD, p0])
    have HP := Lib.hid p0
    clear h hv0 p0
    go_enter Try.func38, Try.ntmps38
    go_wp2
    exact HR.out _ _ ⟨by rw [HP.out] <;> rfl, by rw [HV.out]; exact HH.out, Turn.refl _ _⟩
  · have HV := Lib.hid (show overD s i t = s by simp [overD, p0])
    have HP := Lib.hid p0
    clear h hv0 p0
    go_enter Try.func38, Try.ntmps38
    go_wp2
    exact HR.out _ _ ⟨by rw [HP.out] <;> rfl, by rw [HV.out]; exact HH.out, Turn.refl _ _⟩
  · have HV := Lib.hid (show overD s i t = s by simp [overD, p0])
    have HP := Lib.hid p0
    clear h hv0 p0
    go_enter Try.func38, Try.ntmps38
    go_wp2
    exact HR.out _ _ ⟨by rw [HP.out] <;> rfl, by rw [HV.out]; exact HH.out, Turn.refl _ _⟩
  · have HV := Lib.hid (show overD s i t = { s with blocks := s.blocks.set i.toNat t } by simp [overD, p0])
    have HP := Lib.hid p0
    obtain ⟨i, rfl⟩ := Int.eq_ofNat_of_zero_le (show 0 ≤ i by omega)
    have hil : i < s.blocks.length := by omega
    obtain ⟨g, cap, hvb, hcap, _, hg, _⟩ := h.rb.pos (by omega)
    have hrb : Row strE w 0 9 (.slice (some ⟨g, 0, none⟩) s.blocks.length cap) s.blocks := hvb ▸ h.rb
    obtain ⟨g2, o2, e, _, cg⟩ := hrb.rd.str i hil
    simp only [Option.some.injEq, Addr.mk.injEq, and_true] at e
    obtain ⟨rfl, rfl⟩ := e
    rw [Nat.zero_add] at cg
    have fg := row_frozen hrb i
    obtain ⟨x, cg'⟩ : ∃ x, w.cell? ⟨g, i, none⟩ = some (.string x) := ⟨_, cg⟩
    have hvv := hv0.symm.trans hvb
    rw [hvv] at c0
    have HRB := Lib.hid (And.intro hvb hrb)
    have HIL := Lib.hid hil
    clear h hv0 p0 p4 hvb hrb cg hvv hil
    go_enter Try.func38, Try.ntmps38
    go_wp2
    obtain ⟨q1, q2⟩ := HH.out.rows (Turn.cell1 w g i (.string t) |>.wide (G := fun k => vb.ownBlock = some k) (G' := fun k => vb.ownBlock = some k) (fun k hk => by subst hk; rw [HRB.out.1]; rfl) (fun k hk => Or.inr (Or.inl hk))) (s.blocks.set i t) (by rw [HRB.out.1]; exact HRB.out.2.set1 rfl i HIL.out t _ rfl)
      ⟨by show (s.blocks.set _ _).length ≤ _; rw [List.length_set]; exact HH.out.ok.blocks, HH.out.ok.cache, fun p hp => by show _ ∧ _ < ((s.blocks.set _ _).length : Int); rw [List.length_set]; exact HH.out.ok.at_ p hp, HH.out.ok.left⟩
    exact HR.out _ _ ⟨by rw [HP.out] <;> rfl, by rw [HV.out]; exact q1, q2⟩
end Go.Proofs.Ytielmlnbjliacaa
