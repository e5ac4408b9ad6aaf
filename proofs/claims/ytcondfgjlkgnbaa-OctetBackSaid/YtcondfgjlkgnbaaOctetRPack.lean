/- What the reference's Pack answers. -/
import Derived.Test.YtcondfgjlkgnbaaOctetPut
import Derived.Test.YtcondfgjlkgnbaaAfter
namespace Go.Proofs.Ytcondfgjlkgnbaa
open Go.RowKit Ks
set_option linter.unusedVariables false

set_option maxHeartbeats 400000 in
theorem rpack_any (wv lv : Value) (ws l : List Int) (w : World) (hw : RdI w wv ws) (hl : RdI w lv l) (hlen : l.length ≤ 1000000) :
    Calls Try.prog 14 #[wv, lv] w fun e w' => e = .returned (.tuple #[.string (packS ws l), .int .i64 (packE ws l)]) ∧ Below w.heap.size w w' := by
  refine calls_by fun R HR => ?_
  have Hw := Lib.hid hw
  have Hl := Lib.hid hl
  obtain ⟨aw, cw, rfl, -, -⟩ := hw
  obtain ⟨al, cl, rfl, -, -⟩ := hl
  by_cases hne : ws.length = l.length
  · have hb : ((ws.length : Int) != (l.length : Int)) = false := by simp [hne]
    have Hne := Lib.hid hne
    clear hne
    go_enter Try.func14, Try.ntmps14
    go_wp2
    go_loopw [7, 6] (fun i out wr => ∃ k : Nat, k ≤ l.length ∧ i = .int .i64 k ∧ Hid (∀ i, i < k → putOk (l.getD i 0) (ws.getD i 0) = true) ∧ out = .string ⟨(packTo ws l k).toArray⟩ ∧ Below w.heap.size w wr) (fun i _ _ => l.length - (intOf i).toNat)
    case atStart => exact ⟨0, by omega, rfl, Lib.hid (fun i hi => absurd hi (by omega)), rfl, Below.refl _ _⟩
    case round =>
      obtain ⟨k, hk, rfl, hok, rfl, hbel⟩ := hrel
      by_cases hlt : k < l.length
      · obtain ⟨bl, ol, rfl, hlb, hlc⟩ := Hl.out.cell k hlt
        obtain ⟨bw, ow, rfl, hwb, hwc⟩ := Hw.out.cell k (by have := Hne.out; omega)
        have hlc' := (hbel.cell (p := ⟨bl, ol + k, none⟩) hlb).trans hlc
        have hwc' := (hbel.cell (p := ⟨bw, ow + k, none⟩) hwb).trans hwc
        have hr := Hl.out.range k hlt
        have hkw : k < ws.length := by have := Hne.out; omega
        clear hlc hwc
        go_wp2_with fail
        have k1 := after_cell hlc'
        have k2 := after_cell hwc'
        clear hlc' hwc'
        have cP := fun p => calls_after (rput_any l[k] ws[k] (After wr p) (by omega))
        refine wp_region_after (by kernel_rfl) (by kernel_rfl) ?_
        repeat (quiet_step (exact cP _))
        refine wpQuiet_nil ?_
        rintro w1 ⟨p, rfl⟩
        have hb1 := after_below wr p
        generalize After wr p = w1 at *
        clear k1 k2 cP
        by_cases hp : putOk l[k] ws[k] = true
        · have he : putE l[k] ws[k] = 0 := by unfold putE; rw [if_pos hp]
          have hs : putS l[k] ws[k] = ⟨(putL (ws.getD k 0).toNat (l.getD k 0).toNat).toArray⟩ := by
            unfold putS; rw [if_pos hp]; simp [hlt, hkw]
          have hz : (packTo ws l k).length + (putS l[k] ws[k]).size ≤ 9223372036854775807 := by
            have h1 := packTo_length ws l k hok.out
            have h2 := putOk_width hp
            have h3 : (putS l[k] ws[k]).size = (ws.getD k 0).toNat := by
              rw [hs]
              show (putL (ws.getD k 0).toNat (l.getD k 0).toNat).length = _
              simp
            have h4 : ws.getD k 0 = ws[k] := by simp [hkw]
            rw [h3, h4]
            omega
          have Hs := Lib.hid hs
          have Hp := Lib.hid hp
          clear hp hs
          go_wp2
          go_roundw
          case rel =>
            refine ⟨k + 1, by omega, by go_num, ?_, ?_, ?_⟩
            · refine Lib.hid fun i hi => ?_
              by_cases hik : i = k
              · subst hik
                simpa [hlt, hkw] using Hp.out
              · exact hok.out i (by omega)
            · rw [Hs.out, ByteArray.mk_append_mk]; rfl
            · exact hbel.trans (hb1.mono hbel.size)
          case measure => simp [intOf]; omega
        · have he : putE l[k] ws[k] = 2 := by unfold putE; rw [if_neg hp]
          have Hp := Lib.hid hp
          clear hp
          go_wp2
          refine HR.out _ _ ⟨?_, hbel.trans (hb1.mono hbel.size)⟩
          have hf : ¬ packOk ws l = true := by
            intro h
            simp only [packOk, decide_eq_true_eq] at h
            exact Hp.out (by simpa [hlt, hkw] using h.2 k hlt)
          rw [packS, packE, if_neg hf, if_neg hf, he]
          rfl
      · obtain rfl : k = l.length := by omega
        go_wp2
        refine HR.out _ _ ⟨?_, hbel⟩
        have hf : packOk ws l = true := by
          simp only [packOk, decide_eq_true_eq]
          exact ⟨Hne.out, hok.out⟩
        rw [packS, packE, if_pos hf, if_pos hf]
        rfl
  · have hb : ((ws.length : Int) != (l.length : Int)) = true := by simp; omega
    have Hne := Lib.hid hne
    clear hne
    go_enter Try.func14, Try.ntmps14
    go_wp2
    refine HR.out _ _ ⟨?_, Below.refl _ _⟩
    have hf : ¬ packOk ws l = true := by
      intro h
      simp only [packOk, decide_eq_true_eq] at h
      exact Hne.out h.1
    rw [packS, packE, if_neg hf, if_neg hf]
    rfl

end Go.Proofs.Ytcondfgjlkgnbaa
