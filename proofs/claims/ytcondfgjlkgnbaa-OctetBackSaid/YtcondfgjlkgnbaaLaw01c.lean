/- The laws OctetPacks and OctetBack: what their walks give. -/
import Derived.Test.YtcondfgjlkgnbaaAlive01
import Derived.Test.YtcondfgjlkgnbaaOctetPack
import Derived.Test.YtcondfgjlkgnbaaOctetRPack
import Derived.Test.YtcondfgjlkgnbaaOctetUnpack
import Derived.Test.YtcondfgjlkgnbaaOctetRUnpack
import Derived.Test.YtcondfgjlkgnbaaOctetInts
import Derived.Test.YtcondfgjlkgnbaaOctetBackPlain
namespace Go.Proofs.Ytcondfgjlkgnbaa
open Go.RowKit Ks
set_option linter.unusedVariables false

set_option maxHeartbeats 400000 in
theorem law_packs (wv : Value) (ws : List Int) (lv : Value) (l : List Int) (s : ByteArray) (w : World) (hw : RdI w wv ws) (hl : RdI w lv l) (hs : s.size ≤ 9223372036854775807) :
    Calls Try.prog 5 #[wv, lv, .string s] w fun e w' => e = .returned (.bool true) ∧ Below w.heap.size w w' := by
  refine calls_by fun R HR => ?_
  have Hw := Lib.hid hw
  have Hl := Lib.hid hl
  obtain ⟨aw, cw, rfl, -, -⟩ := hw
  obtain ⟨al, cl, rfl, -, -⟩ := hl
  by_cases h1 : ws.length ≤ 300 ∧ l.length ≤ 300
  · obtain ⟨h1, h2⟩ := h1
    go_enter Try.func5, Try.ntmps5
    go_wp2_with fail
    refine (pack_any _ _ ws l _ Hw.out Hl.out (by omega)).mono ?_
    rintro e w1 ⟨rfl, hb1⟩
    go_wp2_with fail
    refine (rpack_any _ _ ws l _ (Hw.out.below hb1) (Hl.out.below hb1) (by omega)).mono ?_
    rintro e w2 ⟨rfl, hb2⟩
    have h12 := hb1.trans (hb2.mono hb1.size)
    go_wp2_with fail
    refine (unpack_any _ ws s _ (Hw.out.below h12) (by omega) (by omega)).mono ?_
    rintro e w3 ⟨v3, rfl, hr3, hb3⟩
    have h13 := h12.trans (hb3.mono h12.size)
    have R3 := Lib.hid hr3
    clear hr3
    go_wp2_with fail
    refine (runpack_any _ ws s _ (Hw.out.below h13) (by omega) (by omega)).mono ?_
    rintro e w4 ⟨v4, rfl, hr4, hb4⟩
    have h14 := h13.trans (hb4.mono h13.size)
    have R4 := Lib.hid hr4
    clear hr4
    have R3' := Lib.hid (R3.out.below hb4)
    have hle : (unpackL ws s).length ≤ 300 := by
      rw [unpackL]; split
      · rw [unpackTo_length]; omega
      · simp
    clear hb1 hb2 hb3 hb4 h12 h13
    go_wp2_with fail
    refine (ints_any _ _ _ _ _ R3'.out R4.out (by omega)).mono ?_
    rintro e w5 ⟨rfl, hb5⟩
    have h15 := h14.trans (hb5.mono h14.size)
    clear hb5 h14
    go_wp2_with fail
    refine (alive_any _).mono ?_
    rintro e w6 ⟨rfl, hb6⟩
    go_wp2
    exact HR.out _ _ ⟨rfl, h15.trans (hb6.mono h15.size)⟩
  · go_enter Try.func5, Try.ntmps5
    go_wp2_with fail
    all_goals first
      | (refine (alive_any _).mono ?_
         rintro e w6 ⟨rfl, hb6⟩
         go_wp2
         exact HR.out _ _ ⟨rfl, hb6⟩)
      | (exfalso; omega)

theorem cut_text (s rest : ByteArray) (hs : s.size ≤ 10000) : cutA (textS s ++ rest) = s ∧ cutB (textS s ++ rest) = rest ∧ cutE (textS s ++ rest) = 0 := by
  obtain ⟨⟨s⟩⟩ := s
  obtain ⟨⟨r⟩⟩ := rest
  have hs' : s.length ≤ 10000 := hs
  have e : textS ⟨s.toArray⟩ ++ ⟨r.toArray⟩ = ⟨(putL 4 s.length ++ s ++ r).toArray⟩ := by
    show ByteArray.mk (putL 4 s.length ++ s).toArray ++ ⟨r.toArray⟩ = _
    rw [ByteArray.mk_append_mk]
  rw [show (⟨⟨s⟩⟩ : ByteArray) = ⟨s.toArray⟩ from rfl, show (⟨⟨r⟩⟩ : ByteArray) = ⟨r.toArray⟩ from rfl, e]
  have hN : cutN ⟨(putL 4 s.length ++ s ++ r).toArray⟩ = s.length := by
    show getN ((putL 4 s.length ++ s ++ r).take 4) = _
    rw [List.append_assoc, List.take_left' (by simp), getN_putL]
    exact Nat.mod_eq_of_lt (by rw [show (256 : Nat) ^ 4 = 4294967296 by decide]; omega)
  have hz : (⟨(putL 4 s.length ++ s ++ r).toArray⟩ : ByteArray).size = 4 + s.length + r.length := by
    show (putL 4 s.length ++ s ++ r).length = _
    simp only [List.length_append, putL_length]
  have ho : cutOk ⟨(putL 4 s.length ++ s ++ r).toArray⟩ = true := by
    simp only [cutOk, decide_eq_true_eq]
    rw [hN, hz]; omega
  rw [cutA, cutB, cutE, if_pos ho, if_pos ho, if_pos ho, hN, hz, ByteArray.extract_mk, ByteArray.extract_mk]
  refine ⟨?_, ?_, rfl⟩
  · rw [List.append_assoc, List.drop_left' (by simp), List.take_left' (by omega)]
  · rw [List.drop_left' (by simp), List.take_of_length_le (by omega)]

set_option maxHeartbeats 1000000 in
theorem law_back (wv : Value) (ws : List Int) (lv : Value) (l : List Int) (s rest : ByteArray) (w : World) (hw : RdI w wv ws) (hl : RdI w lv l) :
    Calls Try.prog 6 #[wv, lv, .string s, .string rest] w fun e w' => e = .returned (.bool true) ∧ Below w.heap.size w w' := by
  refine calls_by fun R HR => ?_
  have Hw := Lib.hid hw
  have Hl := Lib.hid hl
  obtain ⟨aw, cw, rfl, -, -⟩ := hw
  obtain ⟨al, cl, rfl, -, -⟩ := hl
  by_cases h1 : ws.length ≤ 300 ∧ l.length ≤ 300 ∧ s.size ≤ 10000 ∧ rest.size ≤ 10000
  · obtain ⟨h1, h2, h3, h4⟩ := h1
    have hrange : Hid (∀ i, i < l.length → l.getD i 0 ≤ 9223372036854775807) := Lib.hid (fun i hi => by
      have := (Hl.out.range i hi).2
      simpa [hi] using this)
    go_enter Try.func6, Try.ntmps6
    go_wp2_with fail
    refine (pack_any _ _ ws l _ Hw.out Hl.out (by omega)).mono ?_
    rintro e w1 ⟨rfl, hb1⟩
    have hz : (packS ws l).size ≤ 2400 := by
      rw [packS]; split
      · rename_i hp
        show (packTo ws l l.length).length ≤ 2400
        simp only [packOk, decide_eq_true_eq] at hp
        have := packTo_length ws l l.length hp.2
        omega
      · show (0 : Nat) ≤ 2400
        omega
    obtain ⟨t1, t2, t3⟩ := cut_text s rest h3
    have T1 := Lib.hid t1
    have T2 := Lib.hid t2
    have T3 := Lib.hid t3
    have hts : (textS s).size = 4 + s.size := by
      show (putL 4 s.size ++ s.data.toList).length = _
      rw [List.length_append, putL_length, data_length]
    have hpg : getE s = 0 → putS (getV s) s.size = s ∧ putE (getV s) s.size = 0 := put_get s
    have Hpg := Lib.hid hpg
    have hE : getE s = 0 ∨ getE s = 3 := by
      rw [getE]; split
      · exact .inl rfl
      · exact .inr rfl
    have hvr : getV s ≤ 9223372036854775807 := by
      rw [getV]; split
      · rename_i hg
        simp only [getOk, decide_eq_true_eq] at hg
        omega
      · omega
    have HE := Lib.hid hE
    clear t1 t2 t3 hpg hE
    by_cases hp : packE ws l = 0
    all_goals first
      | (obtain ⟨u1, u2⟩ := unpack_pack ws l hrange.out hp
         rw [hp]
         clear hp
         go_wp2_with fail
         refine (unpack_any _ ws _ _ (Hw.out.below hb1) (by omega) (by omega)).mono ?_
         rintro e w2 ⟨v2, rfl, hr2, hb2⟩
         rw [u1]
         rw [u2] at hr2
         have R2 := Lib.hid hr2
         have hB := hb1.trans (hb2.mono hb1.size)
         clear hr2 u1 u2 hb1 hb2
         go_wp2_with fail
         refine (ints_any _ _ l l _ (Hl.out.below hB) R2.out (by omega)).mono ?_
         rintro e w3 ⟨rfl, hb3⟩
         have hB3 := hB.trans (hb3.mono hB.size)
         rw [decide_eq_true (rfl : l = l)]
         clear hb3 hB
         go_wp2_with fail
         have hB := hB3
         clear hB3)
      | (have hpb : (packE ws l == 0) = false := by simp [hp]
         have Hp := Lib.hid hp
         clear hp
         go_wp2_with fail
         have hB := hb1
         clear hb1)
    all_goals
      refine (text_any _ _ (by omega)).mono ?_
      rintro e w4 ⟨rfl, hb4⟩
      have hB4 := hB.trans (hb4.mono hB.size)
      clear hb4 hB
      go_wp2_with fail
      refine (cut_any _ _ (by rw [ByteArray.size_append']; omega)).mono ?_
      rintro e w5 ⟨rfl, hb5⟩
      rw [T1.out, T2.out, T3.out]
      have hB5 := hB4.trans (hb5.mono hB4.size)
      clear hb5 hB4
      go_wp2_with fail
      refine (get_any _ _).mono ?_
      rintro e w6 ⟨rfl, rfl⟩
      rcases HE.out with he | he
      · obtain ⟨q1, q2⟩ := Hpg.out he
        rw [he]
        clear he
        go_wp2_with fail
        refine (put_any _ _ _ hvr).mono ?_
        rintro e w7 ⟨rfl, hb7⟩
        rw [q1, q2]
        clear q1 q2
        have hB7 := hB5.trans (hb7.mono hB5.size)
        clear hb7 hB5
        go_wp2_with fail
        refine (alive_any _).mono ?_
        rintro e w8 ⟨rfl, hb8⟩
        go_wp2
        exact HR.out _ _ ⟨rfl, hB7.trans (hb8.mono hB7.size)⟩
      · rw [he]
        clear he
        go_wp2_with fail
        refine (alive_any _).mono ?_
        rintro e w8 ⟨rfl, hb8⟩
        go_wp2
        exact HR.out _ _ ⟨rfl, hB5.trans (hb8.mono hB5.size)⟩
  · go_enter Try.func6, Try.ntmps6
    go_wp2_with fail
    all_goals first
      | (refine (alive_any _).mono ?_
         rintro e w6 ⟨rfl, hb6⟩
         go_wp2
         exact HR.out _ _ ⟨rfl, hb6⟩)
      | (exfalso; omega)

end Go.Proofs.Ytcondfgjlkgnbaa
