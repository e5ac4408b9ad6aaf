/- The reference's trees of hashes: are all hashes, the half, the root, how long a path is, where a path leads. -/
import Derived.Test.YtophfeapmmfppaaMerkleLow
import Derived.Test.YtophfeapmmfppaaMerkleUpPlain
namespace Go.Proofs.Ytophfeapmmfppaa
open Go.RowKit Ks
set_option linter.unusedVariables false
theorem rwhole_any (lv : Value) (l : List ByteArray) (w : World) (hl : Rd strE w lv l) (hlen : l.length ≤ 1000000000) :
    Calls Try.prog 15 #[lv] w fun e w' => e = .returned (.bool (wholeL l)) ∧ w' = w := by
  refine calls_by fun R HR => ?_
  obtain ⟨a, cap, rfl, hcap, -⟩ := hl.shape
  have HL := Lib.hid hl
  have hli : (l.length : Int) ≤ 1000000000 := by omega
  clear hl hlen
  go_enter Try.func15, Try.ntmps15
  go_wp2
  go_loop [3] (fun i => ∃ k : Nat, k ≤ l.length ∧ i = .int .i64 k ∧ Hid (∀ (i : Nat), i < k → ∀ (y : ByteArray), l[i]? = some y → y.size = 32)) (fun i => l.length - (intOf i).toNat)
  case atStart => exact ⟨0, by omega, rfl, Lib.hid (fun i hi => absurd hi (by omega))⟩
  case round =>
    obtain ⟨k, hk, rfl, hno⟩ := hrel
    by_cases hlt : k < l.length
    · have hki : (k : Int) < (l.length : Int) := by omega
      obtain ⟨b, o, rfl, hb, c1⟩ := HL.out.str k hlt
      have hx := Lib.hid (List.getElem?_eq_getElem hlt)
      generalize l[k] = x at c1 hx
      by_cases hz : x.size = 32
      · have hzb : ((x.size : Int) != 32) = false := by rw [hz]; rfl
        have HZ := Lib.hid hz
        clear hz
        go_wp2
        go_round
        case rel =>
          refine ⟨k + 1, by omega, by go_num, Lib.hid fun i hi y hy => ?_⟩
          by_cases e : i = k
          · subst e; rw [hx.out] at hy; cases hy; exact HZ.out
          · exact hno.out i (by omega) y hy
        case measure => simp [intOf]; omega
      · have hzb : ((x.size : Int) != 32) = true := by rw [bne_iff_ne]; omega
        have HW := Lib.hid (show wholeL l = false by
          rw [← Bool.not_eq_true]
          intro h
          exact hz (whole_get h k x hx.out))
        clear hz
        go_wp2
        exact HR.out _ _ ⟨by rw [HW.out], rfl⟩
    · obtain rfl : k = l.length := by omega
      have HW := Lib.hid (show wholeL l = true by
        simp only [wholeL, List.all_eq_true, beq_iff_eq]
        intro x hx
        obtain ⟨i, hi, rfl⟩ := List.getElem_of_mem hx
        exact hno.out i hi _ (List.getElem?_eq_getElem hi))
      go_wp2
      exact HR.out _ _ ⟨by rw [HW.out], rfl⟩
theorem rhalf_any (n : Nat) (w : World) (h2 : 2 ≤ n) (hn : n ≤ 1000000000) : Calls Try.prog 32 #[.int .i64 (n : Nat)] w fun e w' => e = .returned (.int .i64 (halfN n : Nat)) ∧ w' = w := by
  refine calls_by fun R HR => ?_
  have hni : (n : Int) ≤ 1000000000 := by omega
  have H2 := Lib.hid h2
  clear h2 hn
  go_enter Try.func32, Try.ntmps32
  go_wp2
  go_loop [3] (fun i => ∃ k : Nat, i = .int .i64 k ∧ Hid (∃ j, k = 2 ^ j) ∧ Hid (k < n)) (fun i => n - (intOf i).toNat)
  case atStart => exact ⟨1, rfl, Lib.hid ⟨0, rfl⟩, Lib.hid (by have := H2.out; omega)⟩
  case round =>
    obtain ⟨k, rfl, hj, hkn⟩ := hrel
    have hki : (k : Int) < n := by have := hkn.out; omega
    have hmul : (2 : Int) * (k : Int) = ((2 * k : Nat) : Int) := by omega
    by_cases hlt : 2 * k < n
    · have hlti : (2 : Int) * (k : Int) < (n : Int) := by omega
      have HL := Lib.hid hlt
      clear hlt hmul
      go_wp2
      go_round
      case rel => exact ⟨2 * k, by go_num, Lib.hid (by obtain ⟨j, e⟩ := hj.out; exact ⟨j + 1, by rw [Nat.pow_succ]; omega⟩), Lib.hid HL.out⟩
      case measure =>
        have h1 := HL.out
        have h3 : 0 < k := by obtain ⟨j, e⟩ := hj.out; rw [e]; exact Nat.two_pow_pos j
        simp [intOf]; omega
    · have hlti : ¬ (2 : Int) * (k : Int) < (n : Int) := by omega
      have HH := Lib.hid (show halfN n = k by
        obtain ⟨j, e⟩ := hj.out
        rw [e]
        exact half_of n j (by have := hkn.out; omega) (by rw [Nat.pow_succ]; omega))
      clear hlt hmul
      go_wp2
      exact HR.out _ _ ⟨by rw [HH.out], rfl⟩
theorem rnode_any (x y : ByteArray) (w : World) (hx : x.size ≤ 100000000) (hy : y.size ≤ 100000000) : Calls Try.prog 31 #[.string (ByteArray.mk #[1] ++ x ++ y)] w fun e w' => e = .returned (.string (nodeS x y)) ∧ Below w.heap.size w w' := by
  rw [inside_cat]
  exact rsumS_any (insideS x y) w (by rw [inside_size]; omega)
set_option maxHeartbeats 2000000 in
theorem rroot_any : ∀ (n : Nat) (l : List ByteArray) (lv : Value) (w : World), l.length = n → n ≤ 100000000 → Rd strE w lv l → wholeL l = true →
    Calls Try.prog 16 #[lv] w fun e w' => e = .returned (.string (rootL l)) ∧ Below w.heap.size w w' := by
  intro n
  induction n using Nat.strongRecOn with
  | ind n ih =>
  intro l lv w hn hb hr hw
  refine calls_by fun R HR => ?_
  obtain ⟨a, cap, rfl, hcap, -⟩ := hr.shape
  by_cases h0 : n = 0
  · have hl0 : l = [] := List.length_eq_zero_iff.1 (by omega)
    subst hl0
    clear hr ih
    have HZ := Lib.hid (show rootL [] = shaS [] from root_nil)
    go_enter Try.func16, Try.ntmps16
    go_wp2_with fail
    refine (rsumS_any ⟨#[]⟩ _ (by decide)).mono ?_
    rintro e w1 ⟨rfl, hb⟩
    have HB := Lib.hid hb
    clear hb
    go_wp2
    exact HR.out _ _ ⟨by rw [HZ.out]; rfl, HB.out⟩
  by_cases h1 : n = 1
  · obtain ⟨b, o, rfl, hb1, c1⟩ := hr.str 0 (by omega)
    rw [Nat.add_zero] at c1
    have HZ := Lib.hid (show rootL l = l[0] by match l, hn, h1 with | [x], _, _ => exact root_one x)
    have hl1 : ((l.length : Int) == 0) = false := by rw [beq_eq_false_iff_ne]; omega
    have hl2 : ((l.length : Int) == 1) = true := by rw [beq_iff_eq]; omega
    have hl3 : (0 : Int) < (l.length : Int) := by omega
    generalize l[0] = x at *
    clear hr ih hn h0 h1
    go_enter Try.func16, Try.ntmps16
    go_wp2
    exact HR.out _ _ ⟨by rw [HZ.out]; rfl, Below.refl _ _⟩
  · obtain ⟨b, o, rfl, hb1, -⟩ := hr.str 0 (by omega)
    have hl1 : ((l.length : Int) == 0) = false := by rw [beq_eq_false_iff_ne]; omega
    have hl2 : ((l.length : Int) == 1) = false := by rw [beq_eq_false_iff_ne]; omega
    have hh := half_lt l.length (by omega)
    have HH := Lib.hid (rhalf_any l.length w (by omega) (by omega))
    have hw' : ∀ s ∈ l, s.size = 32 := by simpa [wholeL] using hw
    have w1 : wholeL (l.take (halfN l.length)) = true := by simp only [wholeL, List.all_eq_true, beq_iff_eq]; exact fun s hs => hw' s (List.mem_of_mem_take hs)
    have w2 : wholeL (l.drop (halfN l.length)) = true := by simp only [wholeL, List.all_eq_true, beq_iff_eq]; exact fun s hs => hw' s (List.mem_of_mem_drop hs)
    have s1 := (path_whole _ (l.take (halfN l.length)) 0 rfl w1 (by rw [List.length_take]; omega)).2
    have s2 := (path_whole _ (l.drop (halfN l.length)) 0 rfl w2 (by rw [List.length_drop]; omega)).2
    have HZ := Lib.hid (show rootL l = nodeS (rootL (l.take (halfN l.length))) (rootL (l.drop (halfN l.length))) from root_two l (by omega))
    have hT := hr.take (k := halfN l.length) (by omega) cap (by omega)
    have hD := hr.drop (k := halfN l.length) (by omega) (some ⟨b, o + halfN l.length, none⟩) (fun _ => by simp [strE]) (by simp) (cap - halfN l.length) (by omega)
    have cT := Lib.hid (fun p => calls_after (p := p) (ih (l.take (halfN l.length)).length (by rw [List.length_take]; omega) _ _ (After w p) rfl (by rw [List.length_take]; omega) (hT.below (after_below w p)) w1))
    have cD := Lib.hid (fun p => calls_after (p := p) (ih (l.drop (halfN l.length)).length (by rw [List.length_drop]; omega) _ _ (After w p) rfl (by rw [List.length_drop]; omega) (hD.below (after_below w p)) w2))
    generalize rootL (l.take (halfN l.length)) = x at *
    generalize rootL (l.drop (halfN l.length)) = y at *
    have cS := Lib.hid (fun p => calls_after (p := p) (rnode_any x y (After w p) (by omega) (by omega)))
    have hcat1 : ¬ 9223372036854775807 < 1 + x.size := by omega
    have hcat2 : ¬ 9223372036854775807 < 1 + x.size + y.size := by omega
    have hli : (l.length : Int) ≤ 100000000 := by omega
    have hk1 : ((halfN l.length : Nat) : Int) < (l.length : Int) := by omega
    have hk0 : (0 : Int) < ((halfN l.length : Nat) : Int) := by omega
    have hk2 : ((halfN l.length : Nat) : Int) ≤ (cap : Int) := by omega
    have hk3 : ¬ cap = halfN l.length := by omega
    have hk4 : ((halfN l.length : Nat) : Int) ≤ (l.length : Int) := by omega
    have hk5 : (l.length : Int) ≤ (cap : Int) := by omega
    have hx0 : x.size ≤ 10000000000 := by omega
    have hy0 : y.size ≤ 10000000000 := by omega
    generalize halfN l.length = k at *
    clear hr ih hn h0 h1 hw hw' w1 w2 s1 s2 hT hD hh
    go_enter Try.func16, Try.ntmps16
    go_wp2_with fail
    refine HH.out.mono ?_
    rintro e w3 ⟨rfl, rfl⟩
    go_wp2_with fail
    refine wp_region_after (by kernel_rfl) (by kernel_rfl) ?_
    quiet_step (fail)
    quiet_step (fail)
    quiet_step (fail)
    quiet_step (exact cT.out _)
    quiet_step (fail)
    quiet_step (fail)
    quiet_step (fail)
    quiet_step (fail)
    quiet_step (exact cD.out _)
    quiet_step (fail)
    quiet_step (exact cS.out _)
    quiet_step (fail)
    refine wpQuiet_nil ?_
    rintro w2 ⟨q, rfl⟩
    have H2 := Lib.hid (after_below w3 q)
    generalize After w3 q = w2 at *
    clear cT cD cS
    go_wp2
    exact HR.out _ _ ⟨by rw [HZ.out] <;> rfl, H2.out⟩
end Go.Proofs.Ytophfeapmmfppaa
