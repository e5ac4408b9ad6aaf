/- What octet.Pack and the reference's Pack answer. -/
import Derived.Test.YtcfjfnnmfdfmaaaBuilder
import Derived.Test.YtcfjfnnmfdfmaaaOctetPut
namespace Go.Proofs.Ytcfjfnnmfdfmaaa
open Go.RowKit Ks
set_option linter.unusedVariables false

set_option maxHeartbeats 400000 in
theorem pack_any (wv lv : Value) (ws l : List Int) (w : World) (hw : RdI w wv ws) (hl : RdI w lv l) (hlen : l.length ≤ 1000000) :
    Calls Try.prog 21 #[wv, lv] w fun e w' => e = .returned (.tuple #[.string (packS ws l), .int .i64 (packE ws l)]) ∧ Below w.heap.size w w' := by
  refine calls_by fun R HR => ?_
  have Hw := Lib.hid hw
  have Hl := Lib.hid hl
  obtain ⟨aw, cw, rfl, -, -⟩ := hw
  obtain ⟨al, cl, rfl, -, -⟩ := hl
  by_cases hne : ws.length = l.length
  · have hb : ((l.length : Int) != (ws.length : Int)) = false := by simp [hne]
    have Hne := Lib.hid hne
    clear hne
    go_enter Try.func21, Try.ntmps21
    go_wp2
    go_loopw [18] (fun i wr => ∃ k : Nat, k ≤ l.length ∧ i = .int .i64 k ∧ Hid (∀ i, i < k → putOk (l.getD i 0) (ws.getD i 0) = true) ∧ Lib.IsBuilder 64 5 w.heap.size w.heap.size (Lib.byteCells (packTo ws l k)) wr ∧ Below w.heap.size w wr) (fun i _ => l.length - (intOf i).toNat)
    case atStart => exact ⟨0, by omega, rfl, Lib.hid (fun i hi => absurd hi (by omega)), Lib.fresh_isBuilder _ _ _, (Below.refl _ _).alloc (Nat.le_refl _) _⟩
    case round =>
      obtain ⟨k, hk, rfl, hok, hbu, hbel⟩ := hrel
      have Hbu := Lib.hid hbu
      clear hbu
      by_cases hlt : k < l.length
      · obtain ⟨bl, ol, rfl, hlb, hlc⟩ := Hl.out.cell k hlt
        obtain ⟨bw, ow, rfl, hwb, hwc⟩ := Hw.out.cell k (by have := Hne.out; omega)
        have hlc' := (hbel.cell (p := ⟨bl, ol + k, none⟩) hlb).trans hlc
        have hwc' := (hbel.cell (p := ⟨bw, ow + k, none⟩) hwb).trans hwc
        have hr := Hl.out.range k hlt
        have hkw : k < ws.length := by have := Hne.out; omega
        clear hlc hwc
        go_wp2_with fail
        refine (put_any _ _ _ (by omega)).mono ?_
        rintro e w1 ⟨rfl, hb1⟩
        by_cases hp : putOk l[k] ws[k] = true
        · have he : putE l[k] ws[k] = 0 := by unfold putE; rw [if_pos hp]
          have hs : putS l[k] ws[k] = ⟨(putL (ws.getD k 0).toNat (l.getD k 0).toNat).toArray⟩ := by
            unfold putS; rw [if_pos hp]; simp [hlt, hkw]
          have Hs := Lib.hid hs
          clear hs
          have Hp := Lib.hid hp
          clear hp
          go_wp2_with fail
          refine (builder_write w.heap.size w.heap.size (Lib.byteCells (packTo ws l k)) _ _ (isBuilder_below Hbu.out hb1) ?_ ?_).mono ?_
          · have h1 := packTo_length ws l k hok.out
            have h2 := putOk_width Hp.out
            rw [byteCells_length, Hs.out]
            have h3 : (⟨(putL (ws.getD k 0).toNat (l.getD k 0).toNat).toArray⟩ : ByteArray).size = (ws.getD k 0).toNat := by
              show (putL (ws.getD k 0).toNat (l.getD k 0).toNat).length = _
              simp
            have h4 : ws.getD k 0 = ws[k] := by simp [hkw]
            rw [h3, h4]
            omega
          · have := hbel.size; have := hb1.size; omega
          rintro e w2 ⟨rfl, hbu2, hb2⟩
          have Hbu2 := Lib.hid hbu2
          clear hbu2
          go_wp2
          go_roundw
          case rel =>
            refine ⟨k + 1, by omega, by go_num, ?_, ?_, ?_⟩
            · refine Lib.hid fun i hi => ?_
              by_cases hik : i = k
              · subst hik
                simpa [hlt, hkw] using Hp.out
              · exact hok.out i (by omega)
            · rw [Hs.out, strCells_mk, ← byteCells_append] at Hbu2
              exact .inr Hbu2.out
            · exact hbel.trans ((hb1.mono hbel.size).trans hb2)
          case measure => simp [intOf]; omega
        · have he : putE l[k] ws[k] = 2 := by unfold putE; rw [if_neg hp]
          have Hp := Lib.hid hp
          clear hp
          go_wp2
          refine HR.out _ _ ⟨?_, hbel.trans (hb1.mono hbel.size)⟩
          have hf : ¬ packOk ws l = true := by
            intro h
            simp only [packOk, decide_eq_true_eq] at h
            exact Hp.out (by simpa [hlt, hkw] using h.2 k hlt)
          rw [packS, packE, if_neg hf, if_neg hf]
          rfl
      · obtain rfl : k = l.length := by omega
        go_wp2_with fail
        refine (Try.Builder_String_any w.heap.size w.heap.size _ _ Hbu.out hbel.size).mono ?_
        rintro e w1 ⟨rfl, hb1⟩
        go_wp2
        refine HR.out _ _ ⟨?_, hbel.trans hb1⟩
        have hf : packOk ws l = true := by
          simp only [packOk, decide_eq_true_eq]
          exact ⟨Hne.out, hok.out⟩
        rw [packS, packE, if_pos hf, if_pos hf]
        rfl
  · have hb : ((l.length : Int) != (ws.length : Int)) = true := by simp; omega
    have Hne := Lib.hid hne
    clear hne
    go_enter Try.func21, Try.ntmps21
    go_wp2
    refine HR.out _ _ ⟨?_, Below.refl _ _⟩
    have hf : ¬ packOk ws l = true := by
      intro h
      simp only [packOk, decide_eq_true_eq] at h
      exact Hne.out h.1
    rw [packS, packE, if_neg hf, if_neg hf]
    rfl

end Go.Proofs.Ytcfjfnnmfdfmaaa
