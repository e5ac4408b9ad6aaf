/- The laws ShaConstants, ShaFolds and ShaPieces: what the walks give. -/
import Derived.Test.YtdinijgjkakeiaaLaw02a
import Derived.Test.YtdinijgjkakeiaaShaRight
import Derived.Test.YtdinijgjkakeiaaStrBytes
import Derived.Test.YtdinijgjkakeiaaCellBackPlain
namespace Ks
open Go Go.RowKit
set_option linter.unusedVariables false
theorem num4_at (pre : List UInt8) (n i : Nat) (post : List UInt8) (hp : pre.length = 4 * i) (hn : n < 4294967296) : num4 (pre ++ (putL 4 n ++ post)) i = n := by
  rw [num4, List.drop_append_of_le_length (by omega), List.drop_eq_nil_of_le (by omega), List.nil_append, List.take_append_of_le_length (by rw [putL_length]; omega), List.take_of_length_le (by rw [putL_length]; omega), getN_put4 n hn]
theorem ofL_text (s : St) (hs : s.ok) : ofL (textL s) = s := by
  obtain ⟨h1, h2, h3, h4, h5, h6, h7, h8⟩ := hs
  obtain ⟨a, b, c, d, e, f, g, h⟩ := s
  simp only at h1 h2 h3 h4 h5 h6 h7 h8
  have e0 : num4 (textL ⟨a, b, c, d, e, f, g, h⟩) 0 = a := num4_at [] a 0 _ rfl h1
  have e1 : num4 (textL ⟨a, b, c, d, e, f, g, h⟩) 1 = b := by
    have := num4_at (putL 4 a) b 1 (putL 4 c ++ (putL 4 d ++ (putL 4 e ++ (putL 4 f ++ (putL 4 g ++ putL 4 h))))) (by simp [putL_length]) h2
    simpa [textL, List.append_assoc] using this
  have e2 : num4 (textL ⟨a, b, c, d, e, f, g, h⟩) 2 = c := by
    have := num4_at (putL 4 a ++ putL 4 b) c 2 (putL 4 d ++ (putL 4 e ++ (putL 4 f ++ (putL 4 g ++ putL 4 h)))) (by simp [putL_length]) h3
    simpa [textL, List.append_assoc] using this
  have e3 : num4 (textL ⟨a, b, c, d, e, f, g, h⟩) 3 = d := by
    have := num4_at (putL 4 a ++ (putL 4 b ++ putL 4 c)) d 3 (putL 4 e ++ (putL 4 f ++ (putL 4 g ++ putL 4 h))) (by simp [putL_length]) h4
    simpa [textL, List.append_assoc] using this
  have e4 : num4 (textL ⟨a, b, c, d, e, f, g, h⟩) 4 = e := by
    have := num4_at (putL 4 a ++ (putL 4 b ++ (putL 4 c ++ putL 4 d))) e 4 (putL 4 f ++ (putL 4 g ++ putL 4 h)) (by simp [putL_length]) h5
    simpa [textL, List.append_assoc] using this
  have e5 : num4 (textL ⟨a, b, c, d, e, f, g, h⟩) 5 = f := by
    have := num4_at (putL 4 a ++ (putL 4 b ++ (putL 4 c ++ (putL 4 d ++ putL 4 e)))) f 5 (putL 4 g ++ putL 4 h) (by simp [putL_length]) h6
    simpa [textL, List.append_assoc] using this
  have e6 : num4 (textL ⟨a, b, c, d, e, f, g, h⟩) 6 = g := by
    have := num4_at (putL 4 a ++ (putL 4 b ++ (putL 4 c ++ (putL 4 d ++ (putL 4 e ++ putL 4 f))))) g 6 (putL 4 h) (by simp [putL_length]) h7
    simpa [textL, List.append_assoc] using this
  have e7 : num4 (textL ⟨a, b, c, d, e, f, g, h⟩) 7 = h := by
    have := num4_at (putL 4 a ++ (putL 4 b ++ (putL 4 c ++ (putL 4 d ++ (putL 4 e ++ (putL 4 f ++ putL 4 g)))))) h 7 [] (by simp [putL_length]) h8
    simpa [textL, List.append_assoc] using this
  rw [ofL, e0, e1, e2, e3, e4, e5, e6, e7]
theorem zerosS32 : (zerosS 32).size = 32 := zerosS_size 32
theorem HashAt.only {w w' : World} {TN : TypeId} {b c : Nat} {T : List UInt8} (h : HashAt w TN b T) (ho : Only w w' c) (hc : b ≠ c) : HashAt w' TN b T := ho.blk h hc
theorem shaS_size (l : List UInt8) : (shaS l).size = 32 := by show (shaL l).toArray.size = 32; simp [shaL_length]
end Ks
namespace Go.Proofs.Ytdinijgjkakeiaa
open Go.RowKit Ks
set_option linter.unusedVariables false

set_option maxHeartbeats 1000000 in
theorem law_constants (n : Int) (w : World) (hn : 0 ≤ n ∧ n ≤ 255) : Calls Try.prog 4 #[.int .u8 n] w fun e w' => e = .returned (.bool true) ∧ Below w.heap.size w w' := by
  refine calls_by fun R HR => ?_
  have hc := fun (w : World) cap => @conv_one Try.prog 26 9 5 Try.underlying26 Try.underlying5 Try.underlying9 n cap 5 w
  go_enter Try.func4, Try.ntmps4
  go_wp2_with fail
  go_loopw [6, 3] (fun i v wx => ∃ (k : Nat) (X : ByteArray), k ≤ 64 ∧ i = .int .i64 k ∧ v = .string X ∧ Hid (X.size = k) ∧ Hid (Below w.heap.size w wx)) (fun i _ _ => 64 - (intOf i).toNat)
  case atStart => exact ⟨0, ⟨#[]⟩, by omega, rfl, rfl, Lib.hid rfl, Lib.hid (Below.refl _ _)⟩
  case round =>
    obtain ⟨k, X, hk, rfl, rfl, hX, hN⟩ := hrel
    by_cases hlt : k < 64
    · have hlen : X.size + 1 ≤ 9223372036854775807 := by rw [hX.out]; omega
      have hlen2 : X.size + (ByteArray.mk #[UInt8.ofNat n.toNat]).size ≤ 9223372036854775807 := hlen
      go_wp2_with fail
      go_roundw
      case rel =>
        refine ⟨k + 1, X ++ ByteArray.mk #[UInt8.ofNat n.toNat], by omega, by go_num, rfl, Lib.hid ?_, Lib.hid (hN.out.trans ((alloc_below _ _).mono hN.out.size))⟩
        rw [ByteArray.size_append, hX.out]; rfl
      case measure => simp [intOf]; omega
    · obtain rfl : k = 64 := by omega
      clear hc hk hlt
      go_wp2_with fail
      refine (noughts_any 32 _ (by decide)).mono ?_
      rintro e w1 ⟨rfl, hb⟩
      have HB := Lib.hid (hN.out.trans (hb.mono hN.out.size))
      clear hb hN
      have HZ := Lib.hid zerosS32
      obtain ⟨Z, hZ⟩ : ∃ Z, zerosS 32 = Z := ⟨_, rfl⟩
      rw [hZ] at HZ ⊢
      have HZE := Lib.hid hZ
      clear hZ
      go_wp2_with fail
      refine (pstep_any Z X _ HZ.out hX.out).mono ?_
      rintro e w2 ⟨rfl, hb⟩
      have HB2 := Lib.hid (HB.out.trans (hb.mono HB.out.size))
      clear hb HB
      obtain ⟨S, hS⟩ : ∃ S, (⟨(textL (turnN (ofL Z.data.toList) X.data.toList)).toArray⟩ : ByteArray) = S := ⟨_, rfl⟩
      rw [hS]
      have HS := Lib.hid hS
      clear hS
      go_wp2_with fail
      refine (right_any _).mono ?_
      rintro e w3 ⟨rfl, hb⟩
      have HB3 := Lib.hid (HB2.out.trans (hb.mono HB2.out.size))
      clear hb HB2
      go_wp2_with fail
      refine (roots_any _).mono ?_
      rintro e w4 ⟨rfl, hb⟩
      have HB4 := Lib.hid (HB3.out.trans (hb.mono HB3.out.size))
      clear hb HB3
      go_wp2_with fail
      refine (noughts_any 32 _ (by decide)).mono ?_
      rintro e w5 ⟨rfl, hb⟩
      rw [HZE.out]
      have HB5 := Lib.hid (HB4.out.trans (hb.mono HB4.out.size))
      clear hb HB4
      go_wp2_with fail
      refine (rstep_any Z X _ HZ.out hX.out).mono ?_
      rintro e w6 ⟨rfl, hb⟩
      rw [HS.out]
      have HB6 := Lib.hid (HB5.out.trans (hb.mono HB5.out.size))
      clear hb HB5
      go_wp2_with fail
      refine (alive_any _).mono ?_
      rintro e w7 ⟨rfl, hb⟩
      have HB7 := Lib.hid (HB6.out.trans (hb.mono HB6.out.size))
      clear hb HB6
      go_wp2
      exact HR.out _ _ ⟨rfl, HB7.out⟩

set_option maxHeartbeats 1000000 in
theorem law_folds (s : ByteArray) (w : World) : Calls Try.prog 6 #[.string s] w fun e w' => e = .returned (.bool true) ∧ Below w.heap.size w w' := by
  refine calls_by fun R HR => ?_
  by_cases h : s.size ≤ 5000
  · have hsl : s.data.toList.length = s.size := data_length s
    have hpl : (padL s.size).length ≤ 72 := by rw [padL_length]; omega
    have hcat : s.size + (padL s.size).length ≤ 9223372036854775807 := by omega
    obtain ⟨A, hA⟩ : ∃ A, s ++ ByteArray.mk (padL s.size).toArray = A := ⟨_, rfl⟩
    have hAd : A.data.toList = s.data.toList ++ padL s.data.toList.length := by rw [← hA, hsl]; simp
    have hAs : A.size = (s.data.toList ++ padL s.data.toList.length).length := by rw [← hAd]; exact (data_length A).symm
    have hAm : A.size % 64 = 0 := by rw [hAs]; exact padded _
    have hAl : A.size ≤ 1000000100 := by rw [hAs, List.length_append, hsl]; omega
    have hAi : (((A.size : Int) % 64) != 0) = false := by rw [show (A.size : Int) % 64 = ((A.size % 64 : Nat) : Int) by omega, hAm]; rfl
    have HA := Lib.hid hA
    have HAD := Lib.hid hAd
    have HAM := Lib.hid hAm
    have HAI := Lib.hid hAi
    have hh : ¬ (5000 : Int) < s.size := by omega
    clear hA hAd hAs hAm hsl hAi
    go_enter Try.func6, Try.ntmps6
    go_wp2_with fail
    refine (pad_any s.size _ (by omega)).mono ?_
    rintro e w1 ⟨rfl, hb⟩
    have HB := Lib.hid hb
    clear hb
    have hA := HA.out
    have hAi := HAI.out
    go_wp2_with fail
    clear hA hAi
    refine (firstS_any _).mono ?_
    rintro e w2 ⟨rfl, hb⟩
    have HB2 := Lib.hid (HB.out.trans (hb.mono HB.out.size))
    clear hb HB
    clear hcat hpl HA HAI
    go_wp2_with fail
    go_loopg [7, 6] (A.size / 64) (fun g i v wx => ∃ (k : Nat) (y : St), i = .int .i64 k ∧ v = .string ⟨(textL y).toArray⟩ ∧ k ≤ A.size ∧ Hid (k + 64 * g = A.size ∧ y.ok) ∧ Hid (foldN y (A.data.toList.drop k) = foldN st0 A.data.toList) ∧ Hid (Below w.heap.size w wx))
    case atStart => exact ⟨0, st0, rfl, rfl, by omega, Lib.hid ⟨by have := HAM.out; omega, st0_ok⟩, Lib.hid rfl, HB2⟩
    case round =>
      clear HB2
      obtain ⟨k, y, rfl, rfl, hk, hG, hY, hN⟩ := hrel
      by_cases hlt : k < A.size
      · have h64 : (k : Int) + 64 ≤ (A.size : Int) := by have := hG.out.1; have := HAM.out; omega
        have HST := Lib.hid (fold_step y A.data.toList k (by rw [data_length]; omega))
        obtain ⟨B, hB⟩ : ∃ B, A.extract k (k + 64) = B := ⟨_, rfl⟩
        have hBz : B.size = 64 := by rw [← hB, ByteArray.size_extract]; omega
        have HBD : Hid (B.data.toList = (A.data.toList.drop k).take 64) := Lib.hid (by rw [← hB]; exact cutAt A k)
        have HBB := Lib.hid hB
        have HBZ := Lib.hid hBz
        have hys : (ByteArray.mk (textL y).toArray).size = 32 := by show (textL y).toArray.size = 32; simp [textL_length]
        have HYS := Lib.hid hys
        clear hB hBz hys
        go_wp2_with fail
        rw [HBB.out]
        refine (pstep_any ⟨(textL y).toArray⟩ B _ HYS.out HBZ.out).mono ?_
        rintro e w3 ⟨rfl, hb⟩
        rw [show ofL (ByteArray.mk (textL y).toArray).data.toList = y from by simpa using ofL_text y hG.out.2]
        have HM := Lib.hid (hN.out.trans (hb.mono hN.out.size))
        clear hb hN HBB HYS
        go_wp2_with fail
        go_roundg (gk - 1)
        case rel =>
          refine ⟨k + 64, turnN y B.data.toList, by go_num, rfl, by omega, Lib.hid ⟨by have := hG.out.1; omega, turnN_ok _ _⟩, Lib.hid ?_, HM⟩
          rw [HBD.out, ← HST.out, hY.out]
        case measure => have := hG.out.1; omega
      · obtain rfl : k = A.size := by omega
        have HX : Hid ((⟨(textL y).toArray⟩ : ByteArray) = shaS s.data.toList) := Lib.hid (by
          have h1 := hY.out
          rw [List.drop_eq_nil_of_le (by rw [data_length]; exact Nat.le_refl _), foldN_lt y [] (by decide), HAD.out] at h1
          rw [h1]; rfl)
        clear hlt hk hY hG
        rw [HX.out]
        go_wp2_with fail
        refine (sum1_any s _ wr (by omega)).mono ?_
        rintro e w3 ⟨rfl, hb⟩
        have HM := Lib.hid (hN.out.trans (hb.mono hN.out.size))
        clear hb hN
        go_wp2_with fail
        refine (alive_any _).mono ?_
        rintro e w4 ⟨rfl, hb⟩
        have HM2 := Lib.hid (HM.out.trans (hb.mono HM.out.size))
        clear hb HM
        go_wp2
        exact HR.out _ _ ⟨rfl, HM2.out⟩
  · have hh : (5000 : Int) < s.size := by omega
    go_enter Try.func6, Try.ntmps6
    go_wp2_with fail
    refine (alive_any _).mono ?_
    rintro e w3 ⟨rfl, hb⟩
    go_wp2
    exact HR.out _ _ ⟨rfl, hb⟩

set_option maxRecDepth 20000 in
set_option maxHeartbeats 2000000 in
theorem law_pieces (v : Value) (l : List ByteArray) (more : ByteArray) (w : World) (hv : Rd strE w v l) (hl : l.length ≤ maxLen) (hm : more.size ≤ maxLen) : Calls Try.prog 7 #[v, .string more] w fun e w' => e = .returned (.bool true) ∧ Below w.heap.size w w' := by
  unfold maxLen at hl hm
  refine calls_by fun R HR => ?_
  obtain ⟨a, cap, rfl, _, _⟩ := hv.shape
  have HV := Lib.hid hv
  clear hv
  by_cases hlen : l.length ≤ 200
  · have g1 : ¬ (200 : Int) < (l.length : Int) := by omega
    obtain ⟨nb, hnb⟩ : ∃ nb, bytesN l = nb := ⟨_, rfl⟩
    by_cases hby : nb ≤ 5000
    · have g2 : ¬ (5000 : Int) < (nb : Int) := by omega
      by_cases hmo : more.size ≤ 1000
      · have g3 : ¬ (1000 : Int) < (more.size : Int) := by omega
        have hJ : (joinL l).length ≤ 5000 := by rw [bytesN_join l (by omega) (by omega)]; omega
        have HNB := Lib.hid hnb
        have HJ := Lib.hid hJ
        have HL := Lib.hid hlen
        clear hnb hJ hby
        go_enter Try.func7, Try.ntmps7
        go_wp2_with fail
        refine (bytes_any l _ _ HV.out).mono ?_
        rintro e w1 ⟨rfl, rfl⟩
        rw [HNB.out]
        go_wp2_with fail
        refine (new_any _).mono ?_
        rintro e w2 ⟨b, rfl, hb, hat, hbl⟩
        have HF := Lib.hid (And.intro hat (And.intro hbl hb))
        clear hb hat hbl HNB
        go_wp2_with fail
        go_loopw [27, 6] (fun i x wx => ∃ k : Nat, k ≤ l.length ∧ i = .int .i64 k ∧ x = .string ⟨(joinL (l.take k)).toArray⟩ ∧ Hid (HashAt wx 51 b (joinL (l.take k)) ∧ Below w1.heap.size w1 wx ∧ w1.heap.size ≤ b)) (fun i _ _ => l.length - (intOf i).toNat)
        case atStart => exact ⟨0, by omega, rfl, rfl, HF⟩
        case round =>
          clear HF
          obtain ⟨k, hk, rfl, rfl, hN⟩ := hrel
          by_cases hlt : k < l.length
          · have hrd : Rd strE wr (.slice a l.length cap) l := HV.out.below hN.out.2.1
            obtain ⟨b1, o1, rfl, hb1, hc1⟩ := hrd.str k hlt
            have HT := Lib.hid (joinL_take l k hlt)
            have hjl := joinL_le l (k + 1)
            rw [HT.out, List.length_append, data_length] at hjl
            have HJL := Lib.hid (show (joinL (l.take k)).length + l[k].size ≤ 5000 by have := HJ.out; omega)
            obtain ⟨s, hs⟩ : ∃ s, l[k] = s := ⟨_, rfl⟩
            rw [hs] at hc1 HT HJL
            obtain ⟨J, hJJ⟩ : ∃ J, joinL (l.take k) = J := ⟨_, rfl⟩
            rw [hJJ] at HT HJL hN ⊢
            have hcat : J.length + s.size ≤ 9223372036854775807 := by have := HJL.out; omega
            clear hjl hrd hb1 hs hJJ
            go_wp2_with fail
            refine (hput_any J s b _ hN.out.1 (by have := HJL.out; omega)).mono ?_
            rintro e w3 ⟨rfl, hat, ho⟩
            have HM := Lib.hid (And.intro hat (And.intro (hN.out.2.1.trans (ho.below hN.out.2.2 hN.out.2.1.size)) hN.out.2.2))
            clear hat ho hN hc1
            obtain ⟨X, hX⟩ : ∃ X, ByteArray.mk J.toArray ++ s = X := ⟨_, rfl⟩
            have hXd : X.data.toList = J ++ s.data.toList := by rw [← hX]; simp
            have HX := Lib.hid (And.intro hX hXd)
            clear hX hXd
            rw [← HX.out.2] at HM HT
            by_cases h3 : s.size % 3 = 0
            · have h3i : (((s.size : Int) % 3) == 0) = true := by rw [beq_iff_eq]; omega
              clear h3
              go_wp2_with fail
              refine (hsum_any _ b _ HM.out.1 (by rw [HX.out.2, List.length_append, data_length]; have := HJL.out; omega)).mono ?_
              rintro e w4 ⟨rfl, hb⟩
              rw [shaS_eq]
              have HM2 := Lib.hid (And.intro (HM.out.1.keep hb) (And.intro (HM.out.2.1.trans (hb.mono HM.out.2.1.size)) HM.out.2.2))
              clear hb HM
              go_wp2_with fail
              rw [HX.out.1]
              refine (sum1_any X _ w4 (by rw [← data_length, HX.out.2, List.length_append, data_length]; have := HJL.out; omega)).mono ?_
              rintro e w5 ⟨rfl, hb⟩
              have HM3 := Lib.hid (And.intro (HM2.out.1.keep hb) (And.intro (HM2.out.2.1.trans (hb.mono HM2.out.2.1.size)) HM2.out.2.2))
              clear hb HM2 hcat
              go_wp2_with fail
              go_roundw
              case rel => exact ⟨k + 1, by omega, by go_num, by rw [HT.out, Array.toArray_toList], by rw [HT.out]; exact HM3⟩
              case measure => simp [intOf]; omega
            · have h3i : (((s.size : Int) % 3) == 0) = false := by rw [beq_eq_false_iff_ne]; omega
              clear h3
              go_wp2_with fail
              rw [HX.out.1]
              clear hcat
              go_roundw
              case rel => exact ⟨k + 1, by omega, by go_num, by rw [HT.out, Array.toArray_toList], by rw [HT.out]; exact HM⟩
              case measure => simp [intOf]; omega
          · obtain rfl : k = l.length := by omega
            have HT := Lib.hid (show joinL (l.take l.length) = joinL l by rw [List.take_length])
            rw [HT.out] at hN ⊢
            clear HT hlt hk
            have HJ' := HJ
            obtain ⟨J, hJJ⟩ : ∃ J, joinL l = J := ⟨_, rfl⟩
            rw [hJJ] at hN HJ' ⊢
            have HJE := Lib.hid hJJ
            clear hJJ HJ
            have hcat : J.length + more.size ≤ 9223372036854775807 := by have := HJ'.out; omega
            obtain ⟨A, hA⟩ : ∃ A, ByteArray.mk J.toArray = A := ⟨_, rfl⟩
            have hAd : A.data.toList = J := by rw [← hA]
            have hAs : A.size = J.length := by rw [← hAd, data_length]
            have HA := Lib.hid (And.intro hAd hAs)
            rw [hA]
            obtain ⟨X, hX⟩ : ∃ X, A ++ more = X := ⟨_, rfl⟩
            have hXd : X.data.toList = J ++ more.data.toList := by rw [← hX, ← hAd]; simp
            have HX := Lib.hid (And.intro hX hXd)
            rw [← hAs] at hcat
            clear hA hAd hAs hX hXd
            go_wp2_with fail
            refine (hcopy_any J b _ hN.out.1).mono ?_
            rintro e w3 ⟨rfl, hat, hb⟩
            have HM := Lib.hid (And.intro (hN.out.1.keep hb) (And.intro (hN.out.2.1.trans (hb.mono hN.out.2.1.size)) (And.intro hN.out.2.2 (And.intro hat (And.intro (show b ≠ wr.heap.size by have := hN.out.1.lt; omega) (show w1.heap.size ≤ wr.heap.size from hN.out.2.1.size))))))
            clear hat hb hN
            generalize wr.heap.size = c at *
            go_wp2_with fail
            refine (hput_any J more c _ HM.out.2.2.2.1 (by have := HJ'.out; omega)).mono ?_
            rintro e w4 ⟨rfl, hat, ho⟩
            rw [← HX.out.2] at hat
            have HM2 := Lib.hid (And.intro (HM.out.1.only ho HM.out.2.2.2.2.1) (And.intro (HM.out.2.1.trans (ho.below HM.out.2.2.2.2.2 HM.out.2.1.size)) hat))
            clear hat ho HM
            go_wp2_with fail
            refine (hsum_any _ c _ HM2.out.2.2 (by rw [HX.out.2, List.length_append, data_length]; have := HJ'.out; omega)).mono ?_
            rintro e w5 ⟨rfl, hb⟩
            rw [shaS_eq]
            have HM3 := Lib.hid (And.intro (HM2.out.1.keep hb) (And.intro (HM2.out.2.1.trans (hb.mono HM2.out.2.1.size)) (HM2.out.2.2.keep hb)))
            clear hb HM2
            go_wp2_with fail
            rw [HX.out.1]
            refine (sum1_any X _ w5 (by rw [← data_length, HX.out.2, List.length_append, data_length]; have := HJ'.out; omega)).mono ?_
            rintro e w6 ⟨rfl, hb⟩
            have HM4 := Lib.hid (And.intro (HM3.out.1.keep hb) (And.intro (HM3.out.2.1.trans (hb.mono HM3.out.2.1.size)) (HM3.out.2.2.keep hb)))
            clear hb HM3
            generalize shaS X.data.toList = SX at *
            go_wp2_with fail
            refine (hlen_any _ c _ HM4.out.2.2).mono ?_
            rintro e w7 ⟨rfl, rfl⟩
            have hxl : (X.data.toList.length : Int) = (A.size : Int) + (more.size : Int) := by rw [HX.out.2, List.length_append, data_length, HA.out.2]; omega
            rw [hxl]
            clear hxl
            have HM5 := Lib.hid (And.intro HM4.out.1 HM4.out.2.1)
            have hne : (((A.size : Int) + (more.size : Int)) != ((A.size : Int) + (more.size : Int))) = false := by simp
            clear HM4
            go_wp2_with fail
            clear hne
            refine (hsum_any _ b _ HM5.out.1 (by have := HJ'.out; omega)).mono ?_
            rintro e w8 ⟨rfl, hb⟩
            rw [shaS_eq]
            have HM6 := Lib.hid (And.intro (HM5.out.1.keep hb) (HM5.out.2.trans (hb.mono HM5.out.2.size)))
            clear hb HM5
            go_wp2_with fail
            refine (sumv_any l _ _ (HV.out.below HM6.out.2) (by rw [HJE.out]; have := HJ'.out; omega) (by omega)).mono ?_
            rintro e w9 ⟨rfl, hb⟩
            rw [HJE.out, shaS_eq]
            have HM7 := Lib.hid (And.intro (HM6.out.1.keep hb) (HM6.out.2.trans (hb.mono HM6.out.2.size)))
            clear hb HM6
            have HSZ := Lib.hid (shaS_size J)
            obtain ⟨S, hS⟩ : ∃ S, shaS J = S := ⟨_, rfl⟩
            rw [hS] at HSZ ⊢
            have HS := Lib.hid hS
            clear hS
            go_wp2_with fail
            refine (hsum_any _ b _ HM7.out.1 (by have := HJ'.out; omega)).mono ?_
            rintro e w10 ⟨rfl, hb⟩
            rw [shaS_eq, HS.out]
            have HM8 := Lib.hid (And.intro (HM7.out.1.keep hb) (HM7.out.2.trans (hb.mono HM7.out.2.size)))
            clear hb HM7
            go_wp2_with fail
            refine (sum1_any A _ w10 (by rw [HA.out.2]; have := HJ'.out; omega)).mono ?_
            rintro e w11 ⟨rfl, hb⟩
            rw [HA.out.1, HS.out]
            have HM9 := Lib.hid (And.intro (HM8.out.1.keep hb) (HM8.out.2.trans (hb.mono HM8.out.2.size)))
            clear hb HM8
            go_wp2_with fail
            refine (hlen_any _ b _ HM9.out.1).mono ?_
            rintro e w12 ⟨rfl, rfl⟩
            rw [← HA.out.2]
            go_wp2_with fail
            refine (hsum_any _ b _ HM9.out.1 (by have := HJ'.out; omega)).mono ?_
            rintro e w13 ⟨rfl, hb⟩
            rw [shaS_eq, HS.out]
            have HM10 := Lib.hid (HM9.out.2.trans (hb.mono HM9.out.2.size))
            clear hb HM9
            have h32 : ((S.size : Int) == 32) = true := by rw [HSZ.out]; rfl
            go_wp2_with fail
            refine (alive_any _).mono ?_
            rintro e w14 ⟨rfl, hb⟩
            have HM11 := Lib.hid (HM10.out.trans (hb.mono HM10.out.size))
            clear hb HM10
            go_wp2
            exact HR.out _ _ ⟨rfl, HM11.out⟩
      · have g3 : (1000 : Int) < (more.size : Int) := by omega
        have HNB := Lib.hid hnb
        clear hnb
        go_enter Try.func7, Try.ntmps7
        go_wp2_with fail
        refine (bytes_any l _ _ HV.out).mono ?_
        rintro e w1 ⟨rfl, rfl⟩
        rw [HNB.out]
        go_wp2_with fail
        refine (alive_any _).mono ?_
        rintro e w14 ⟨rfl, hb⟩
        go_wp2
        exact HR.out _ _ ⟨rfl, hb⟩
    · have g2 : (5000 : Int) < (nb : Int) := by omega
      have HNB := Lib.hid hnb
      clear hnb
      go_enter Try.func7, Try.ntmps7
      go_wp2_with fail
      refine (bytes_any l _ _ HV.out).mono ?_
      rintro e w1 ⟨rfl, rfl⟩
      rw [HNB.out]
      go_wp2_with fail
      refine (alive_any _).mono ?_
      rintro e w14 ⟨rfl, hb⟩
      go_wp2
      exact HR.out _ _ ⟨rfl, hb⟩
  · have g1 : (200 : Int) < (l.length : Int) := by omega
    go_enter Try.func7, Try.ntmps7
    go_wp2_with fail
    refine (alive_any _).mono ?_
    rintro e w14 ⟨rfl, hb⟩
    go_wp2
    exact HR.out _ _ ⟨rfl, hb⟩
end Go.Proofs.Ytdinijgjkakeiaa
