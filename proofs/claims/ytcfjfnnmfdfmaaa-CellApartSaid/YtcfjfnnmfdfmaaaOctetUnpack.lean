/- What octet.Unpack answers. -/
import Derived.Test.YtcfjfnnmfdfmaaaOctetGet
import Derived.Test.YtcfjfnnmfdfmaaaUnpackPlain
namespace Go.Proofs.Ytcfjfnnmfdfmaaa
open Go.RowKit Ks
set_option linter.unusedVariables false

/-- the closure cuts so many bytes off its text -/
theorem cut_off (n : Nat) (b : Nat) (s : ByteArray) (t : TypeId) (w : World) (hn : n ≤ s.size) (hs : s.size ≤ 9223372036854775807) (hb : w.heap[b]? = some (.cells #[.string s] t (0, 0))) :
    Calls Try.prog 37 #[.int .i64 n, .pointer (some ⟨b, 0, none⟩)] w fun e w' => e = .returned (.string (s.extract 0 n)) ∧ w' = w.setCell ⟨b, 0, none⟩ (.string (s.extract n s.size)) := by
  have hc := cell_of_one hb
  have hf := free_of_one hb
  refine calls_by fun R HR => ?_
  go_enter Try.func37, Try.ntmps37
  go_wp2
  exact HR.out _ _ ⟨rfl, rfl⟩

theorem Try.infoInt : (Try.prog.info? 3).map (fun i => (i.zero, i.size, i.bytes)) = some (some (.int .i64 0), 1, 8) := by kernel_rfl

set_option maxHeartbeats 1000000 in
theorem unpack_any (wv : Value) (ws : List Int) (s : ByteArray) (w : World) (hw : RdI w wv ws) (hlen : ws.length ≤ 1000000) (hs : s.size ≤ 9223372036854775807) :
    Calls Try.prog 29 #[wv, .string s] w fun e w' => ∃ v, e = .returned (.tuple #[v, .int .i64 (unpackE ws s)]) ∧ RdI w' v (unpackL ws s) ∧ Below w.heap.size w w' := by
  refine calls_by fun R HR => ?_
  have Hw := Lib.hid hw
  obtain ⟨aw, cw, rfl, -, -⟩ := hw
  obtain ⟨i0, hi, hz0, hz1, hz2⟩ := info_parts Try.infoInt
  have hmf : ∀ (fn : Fn) (first cap : Array Value) (w : World), (Instr.makeFunc fn first cap).run Try.prog w = .ok (.func fn first cap) w := fun _ _ _ _ => rfl
  go_enter Try.func29, Try.ntmps29
  go_wp2
  go_loop [17, 6] (fun i a => ∃ k m : Nat, k ≤ ws.length ∧ i = .int .i64 k ∧ a = .int .i64 m ∧ Hid (m = sumTo ws k ∧ ∀ i, i < k → 1 ≤ ws.getD i 0 ∧ ws.getD i 0 ≤ 8)) (fun i _ => ws.length - (intOf i).toNat)
  case atStart => exact ⟨0, 0, by omega, rfl, rfl, Lib.hid ⟨rfl, fun i hi => absurd hi (by omega)⟩⟩
  case round =>
    obtain ⟨k, m, hk, rfl, rfl, hkm⟩ := hrel
    by_cases hlt : k < ws.length
    · obtain ⟨bw, ow, rfl, hwb, hwc⟩ := Hw.out.cell k hlt
      have hm : m ≤ 8 * k := by rw [hkm.out.1]; exact sumTo_le ws k hkm.out.2
      have hg : ws.getD k 0 = ws[k] := by simp [hlt]
      have Hg := Lib.hid hg
      clear hg
      have hbad : (ws[k] < 1 ∨ 8 < ws[k]) → unpackE ws s = 2 := fun h => by
        rw [unpackE, if_neg]
        simp only [widthsOk, decide_eq_true_eq]
        intro hh
        have := hh k hlt
        rw [Hg.out] at this
        omega
      by_cases h1 : ws[k] < 1
      · have Hb := Lib.hid (hbad (.inl h1))
        clear hbad
        go_wp2
        refine HR.out _ _ ⟨.slice none 0 0, ?_, ?_, (Below.refl _ _).alloc (Nat.le_refl _) _⟩
        · rw [Hb.out]
        · rw [unpackL, Hb.out]; exact RdI.nil _
      by_cases h2 : 8 < ws[k]
      · have Hb := Lib.hid (hbad (.inr h2))
        clear hbad
        go_wp2
        refine HR.out _ _ ⟨.slice none 0 0, ?_, ?_, (Below.refl _ _).alloc (Nat.le_refl _) _⟩
        · rw [Hb.out]
        · rw [unpackL, Hb.out]; exact RdI.nil _
      clear hbad
      go_wp2
      go_round
      case rel =>
        refine ⟨k + 1, m + ws[k].toNat, by omega, by go_num, by go_num, Lib.hid ⟨?_, ?_⟩⟩
        · rw [hkm.out.1, sumTo, Hg.out]
        · intro i hi
          by_cases hik : i = k
          · subst hik; rw [Hg.out]; omega
          · exact hkm.out.2 i (by omega)
      case measure => simp [intOf]; omega
    · obtain rfl : k = ws.length := by omega
      have hm : m ≤ 8 * ws.length := by rw [hkm.out.1]; exact sumTo_le ws _ hkm.out.2
      have Hok : Hid (widthsOk ws = true) := Lib.hid (by simp only [widthsOk, decide_eq_true_eq]; exact hkm.out.2)
      by_cases hsz : s.size = m
      · have hb : ((s.size : Int) != (m : Int)) = false := by simp [hsz]
        have Hsz := Lib.hid hsz
        clear hsz
        have hwok := Hok.out
        simp only [widthsOk, decide_eq_true_eq] at hwok
        have HW := Lib.hid hwok
        clear hwok
        go_wp2
        go_loopw [38, 10] (fun i v wr => ∃ k : Nat, k ≤ ws.length ∧ i = .int .i64 k ∧ wr.ownsRow (w.heap.size + 1) 3 1 v k ((unpackTo ws s.data.toList k).map (Value.int .i64)) ∧
            wr.heap[w.heap.size]? = some (.cells #[.string (s.extract (sumTo ws k) s.size)] 9 (0, 0)) ∧ Hid (∀ i, i < k → getOk (piece ws s.data.toList i) = true) ∧ Below w.heap.size w wr) (fun i _ _ => ws.length - (intOf i).toNat)
        case atStart => exact ⟨0, by omega, rfl, World.ownsRow_nil _ _ _ _, by rw [heap_alloc_new]; simp [sumTo], Lib.hid (fun i hi => absurd hi (by omega)), (Below.refl _ _).alloc (Nat.le_refl _) _⟩
        case round =>
          obtain ⟨k, hk, rfl, hown, hblk, hpk, hbel⟩ := hrel
          by_cases hlt : k < ws.length
          · obtain ⟨bw, ow, rfl, hwb, hwc⟩ := Hw.out.cell k hlt
            have hg : ws.getD k 0 = ws[k] := by simp [hlt]
            have hr := HW.out k hlt
            rw [hg] at hr
            obtain ⟨n, hn⟩ : ∃ n : Nat, ws[k] = n := ⟨ws[k].toNat, by omega⟩
            have hgn : (ws.getD k 0).toNat = n := by rw [hg, hn]; rfl
            have hwc' : wr.cell? ⟨bw, ow + k, none⟩ = some (.int .i64 (n : Int)) := by rw [← hn]; exact (hbel.cell (p := ⟨bw, ow + k, none⟩) hwb).trans hwc
            clear hwc hg
            have hsum : sumTo ws (k + 1) ≤ s.size := by rw [Hsz.out, hkm.out.1]; exact sumTo_mono ws _ _ (by omega)
            have hrp := rest_piece ws s k hsum
            have hrn := rest_next ws s k hsum
            rw [hgn] at hrp hrn
            have Hrp := Lib.hid hrp
            have Hrn := Lib.hid hrn
            have Hn := Lib.hid hn
            have hsz1 : (s.extract (sumTo ws k) s.size).size = s.size - sumTo ws k := by simp [ByteArray.size_extract]
            have hnl : n ≤ (s.extract (sumTo ws k) s.size).size := by
              rw [hsz1]; simp only [sumTo, hgn] at hsum; omega
            have HS1 := Lib.hid hsz1
            clear hrp hrn hn hsz1 hgn
            go_wp2_with fail
            refine (cut_off n w.heap.size _ 9 wr hnl (by rw [HS1.out]; omega) hblk).mono ?_
            rintro e w1 ⟨rfl, rfl⟩
            go_wp2_with fail
            refine (get_any _ _).mono ?_
            rintro e w1 ⟨rfl, rfl⟩
            have own1 := ownsRow_setCell_below hown (a := ⟨w.heap.size, 0, none⟩) (by show w.heap.size < _; omega) (.string ((s.extract (sumTo ws k) s.size).extract n (s.size - sumTo ws k)))
            have blk1 := one_setCell (u := .string ((s.extract (sumTo ws k) s.size).extract n (s.size - sumTo ws k))) hblk
            have bel1 := hbel.setCell (p := ⟨w.heap.size, 0, none⟩) (Nat.le_refl _) (.string ((s.extract (sumTo ws k) s.size).extract n (s.size - sumTo ws k)))
            generalize wr.setCell ⟨w.heap.size, 0, none⟩ (.string ((s.extract (sumTo ws k) s.size).extract n (s.size - sumTo ws k))) = w1 at *
            rw [Hrn.out] at blk1
            have Own := Lib.hid own1
            have Blk := Lib.hid blk1
            clear own1 blk1 hown hblk hbel
            by_cases hp : getOk (piece ws s.data.toList k) = true
            · have hv : getV ((s.extract (sumTo ws k) s.size).extract 0 n) = (getN (piece ws s.data.toList k) : Int) := by rw [getV, Hrp.out, if_pos hp]
              have he : getE ((s.extract (sumTo ws k) s.size).extract 0 n) = 0 := by rw [getE, Hrp.out, if_pos hp]
              rw [hv, he]
              have Hp := Lib.hid hp
              have hx : getN (piece ws s.data.toList k) ≤ 9223372036854775807 := by simp only [getOk, decide_eq_true_eq] at hp; exact hp.2.2
              generalize hx0 : getN (piece ws s.data.toList k) = x at *
              have Hx := Lib.hid hx0
              clear hp hv he hx0 hwc'
              have hwsz := bel1.size
              go_wp2_with (at_builtin; refine wpList_append_own _ rfl _ _ 44 rfl (w.heap.size + 1) 3 i0 (.int .i64 0) 1 8 Try.underlying44 hi hz0 hz1 hz2 rfl (by decide) _ _ _ rfl (Own.out.alloc _) ⟨w1.heap.size, 0, none⟩ 1 1 [.int .i64 (x : Int)] rfl rfl ?c1 ?c2 ?c3 ?c4 ?c5 ?_)
              case c1 =>
                intro j u hj
                match j, hj with
                | 0, hj => simp at hj; subst hj; simp [Addr.add]
              case c2 => intro u hu; simp at hu; subst hu; rfl
              case c3 => unfold maxLen; omega
              case c4 => omega
              case c5 => simp; omega
              intro v' w2 hown' hgrow _
              have Own2 := Lib.hid hown'
              have Grow := Lib.hid hgrow
              clear hown' hgrow
              go_wp2
              go_roundw
              case rel =>
                refine ⟨k + 1, by omega, by go_num, ?_, ?_, ?_, ?_⟩
                · have := Own2.out
                  rw [unpackTo_succ, List.map_append, Hx.out]
                  exact this
                · rw [Grow.out.block w.heap.size (by simp; omega) (fun e => by have := (Own.out.lt w.heap.size e.symm).1; omega), Below.heap_alloc _ _ _ (lt_of_block Blk.out)]
                  exact Blk.out
                · refine Lib.hid fun i hi => ?_
                  by_cases hik : i = k
                  · subst hik; exact Hp.out
                  · exact hpk.out i (by omega)
                · exact (bel1.alloc hwsz _).grown Grow.out (by simp; omega) (fun j hj => by have := (Own.out.lt j hj).1; omega)
              case measure => simp [intOf]; omega
            · have he : getE ((s.extract (sumTo ws k) s.size).extract 0 n) = 3 := by rw [getE, Hrp.out, if_neg hp]
              rw [he]
              have Hp := Lib.hid hp
              clear hp he hwc'
              go_wp2
              have hpo : ¬ piecesOk ws s.data.toList = true := by simp only [piecesOk, decide_eq_true_eq]; exact fun h => Hp.out (h k hlt)
              have he : unpackE ws s = 3 := by rw [unpackE, if_pos Hok.out, if_pos (by rw [← hkm.out.1]; exact Hsz.out), if_neg hpo]
              refine HR.out _ _ ⟨.slice none 0 0, ?_, ?_, bel1⟩
              · rw [he]; try rfl
              · rw [unpackL, he]; exact RdI.nil _
          · obtain rfl : k = ws.length := by omega
            go_wp2
            have hpo : piecesOk ws s.data.toList = true := by simp only [piecesOk, decide_eq_true_eq]; exact hpk.out
            have he : unpackE ws s = 0 := by rw [unpackE, if_pos Hok.out, if_pos (by rw [← hkm.out.1]; exact Hsz.out), if_pos hpo]
            refine HR.out _ _ ⟨u10, ?_, ?_, hbel⟩
            · rw [he]; try rfl
            · rw [unpackL, if_pos he]
              refine RdI.owned (B := w.heap.size + 1) (e := 3) (by rw [unpackTo_length]; exact hown) ?_
              intro x hx
              simp only [unpackTo, List.mem_map, List.mem_range] at hx
              obtain ⟨i, hi', rfl⟩ := hx
              have := hpk.out i hi'
              simp only [getOk, decide_eq_true_eq] at this
              omega
      · have hb : ((s.size : Int) != (m : Int)) = true := by simp; omega
        have Hsz := Lib.hid hsz
        clear hsz
        go_wp2
        have he : unpackE ws s = 3 := by rw [unpackE, if_pos Hok.out, if_neg (by rw [← hkm.out.1]; exact Hsz.out)]
        refine HR.out _ _ ⟨.slice none 0 0, ?_, ?_, (Below.refl _ _).alloc (Nat.le_refl _) _⟩
        · rw [he]; try rfl
        · rw [unpackL, he]; exact RdI.nil _

end Go.Proofs.Ytcfjfnnmfdfmaaa
