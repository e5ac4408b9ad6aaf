/- Texts that the claim rests on, part 5: OctetUnpack, OctetRPut, OctetRGet, Block, GeoPut, GeoTake, GeoRef, SuperBlk, SuperActs, SuperNext, ShaLow, ShaText, ShaWords, ShaConst. -/
import Derived.Test.YteppfjgglelpbaaGreatProg
import Derived.Deep.RegionHeld3
import Derived.Deep.DeepCutAuto
import Derived.StillTailTactics
import Derived.Test.YteppfjgglelpbaaGreatM4
/- What octet.Unpack answers. -/
namespace Go.Proofs.YteppfjgglelpbaaGreat
open Go.RowKit Ks
set_option linter.unusedVariables false

/-- the closure cuts so many bytes off its text -/
theorem cut_off (n : Nat) (b : Nat) (s : ByteArray) (t : TypeId) (w : World) (hn : n ≤ s.size) (hs : s.size ≤ 9223372036854775807) (hb : w.heap[b]? = some (.cells #[.string s] t (0, 0))) :
    Calls Tryz.prog 124 #[.int .i64 n, .pointer (some ⟨b, 0, none⟩)] w fun e w' => e = .returned (.string (s.extract 0 n)) ∧ w' = w.setCell ⟨b, 0, none⟩ (.string (s.extract n s.size)) := by
  have hc := cell_of_one hb
  have hf := free_of_one hb
  refine calls_by fun R HR => ?_
  go_enter Tryz.func124, Tryz.ntmps124
  go_wp2
  exact HR.out _ _ ⟨rfl, rfl⟩

theorem Tryz.infoInt : (Tryz.prog.info? 3).map (fun i => (i.zero, i.size, i.bytes)) = some (some (.int .i64 0), 1, 8) := by kernel_rfl

set_option maxHeartbeats 1000000 in
theorem unpack_any (wv : Value) (ws : List Int) (s : ByteArray) (w : World) (hw : RdI w wv ws) (hlen : ws.length ≤ 1000000) (hs : s.size ≤ 9223372036854775807) :
    Calls Tryz.prog 113 #[wv, .string s] w fun e w' => ∃ v, e = .returned (.tuple #[v, .int .i64 (unpackE ws s)]) ∧ RdI w' v (unpackL ws s) ∧ Below w.heap.size w w' := by
  refine calls_by fun R HR => ?_
  have Hw := Lib.hid hw
  obtain ⟨aw, cw, rfl, -, -⟩ := hw
  obtain ⟨i0, hi, hz0, hz1, hz2⟩ := info_parts Tryz.infoInt
  have hmf : ∀ (fn : Fn) (first cap : Array Value) (w : World), (Instr.makeFunc fn first cap).run Tryz.prog w = .ok (.func fn first cap) w := fun _ _ _ _ => rfl
  go_enter Tryz.func113, Tryz.ntmps113
  go_wp2
  go_loop [17, 6] (fun i a => ∃ k m : Nat, k ≤ ws.length ∧ i = .int .i64 k ∧ a = .int .i64 m ∧ Hid (m = sumTo ws k ∧ ∀ i, i < k → 1 ≤ ws.getD i 0 ∧ ws.getD i 0 ≤ 8)) (fun i _ => ws.length - (intOf i).toNat)
  case atStart => exact ⟨0, 0, by omega, rfl, rfl, Lib.hid ⟨rfl, fun i hi => absurd hi (by omega)⟩⟩
  case round =>
    obtain ⟨k, m, hk, rfl, rfl, hkm⟩ := hrel
    by_cases hlt : k < ws.length
    · obtain ⟨bw, ow, rfl, hwb, hwc⟩ := Hw.out.cell k hlt
      have hm : m ≤ 8 * k := by rw [hkm.out.1]; exact sumTo_le ws k hkm.out.2
      have hg : ws.getD k 0 = ws[k] := by simp [hlt]
      have Hg := Lib.hid hg
      clear hg
      have hbad : (ws[k] < 1 ∨ 8 < ws[k]) → unpackE ws s = 2 := fun h => by
        rw [unpackE, if_neg]
        simp only [widthsOk, decide_eq_true_eq]
        intro hh
        have := hh k hlt
        rw [Hg.out] at this
        omega
      by_cases h1 : ws[k] < 1
      · have Hb := Lib.hid (hbad (.inl h1))
        clear hbad
        go_wp2
        refine HR.out _ _ ⟨.slice none 0 0, ?_, ?_, (Below.refl _ _).alloc (Nat.le_refl _) _⟩
        · rw [Hb.out]
        · rw [unpackL, Hb.out]; exact RdI.nil _
      by_cases h2 : 8 < ws[k]
      · have Hb := Lib.hid (hbad (.inr h2))
        clear hbad
        go_wp2
        refine HR.out _ _ ⟨.slice none 0 0, ?_, ?_, (Below.refl _ _).alloc (Nat.le_refl _) _⟩
        · rw [Hb.out]
        · rw [unpackL, Hb.out]; exact RdI.nil _
      clear hbad
      go_wp2
      go_round
      case rel =>
        refine ⟨k + 1, m + ws[k].toNat, by omega, by go_num, by go_num, Lib.hid ⟨?_, ?_⟩⟩
        · rw [hkm.out.1, sumTo, Hg.out]
        · intro i hi
          by_cases hik : i = k
          · subst hik; rw [Hg.out]; omega
          · exact hkm.out.2 i (by omega)
      case measure => simp [intOf]; omega
    · obtain rfl : k = ws.length := by omega
      have hm : m ≤ 8 * ws.length := by rw [hkm.out.1]; exact sumTo_le ws _ hkm.out.2
      have Hok : Hid (widthsOk ws = true) := Lib.hid (by simp only [widthsOk, decide_eq_true_eq]; exact hkm.out.2)
      by_cases hsz : s.size = m
      · have hb : ((s.size : Int) != (m : Int)) = false := by simp [hsz]
        have Hsz := Lib.hid hsz
        clear hsz
        have hwok := Hok.out
        simp only [widthsOk, decide_eq_true_eq] at hwok
        have HW := Lib.hid hwok
        clear hwok
        go_wp2
        go_loopw [38, 10] (fun i v wr => ∃ k : Nat, k ≤ ws.length ∧ i = .int .i64 k ∧ wr.ownsRow (w.heap.size + 1) 3 1 v k ((unpackTo ws s.data.toList k).map (Value.int .i64)) ∧
            wr.heap[w.heap.size]? = some (.cells #[.string (s.extract (sumTo ws k) s.size)] 9 (0, 0)) ∧ Hid (∀ i, i < k → getOk (piece ws s.data.toList i) = true) ∧ Below w.heap.size w wr) (fun i _ _ => ws.length - (intOf i).toNat)
        case atStart => exact ⟨0, by omega, rfl, World.ownsRow_nil _ _ _ _, by rw [heap_alloc_new]; simp [sumTo], Lib.hid (fun i hi => absurd hi (by omega)), (Below.refl _ _).alloc (Nat.le_refl _) _⟩
        case round =>
          obtain ⟨k, hk, rfl, hown, hblk, hpk, hbel⟩ := hrel
          by_cases hlt : k < ws.length
          · obtain ⟨bw, ow, rfl, hwb, hwc⟩ := Hw.out.cell k hlt
            have hg : ws.getD k 0 = ws[k] := by simp [hlt]
            have hr := HW.out k hlt
            rw [hg] at hr
            obtain ⟨n, hn⟩ : ∃ n : Nat, ws[k] = n := ⟨ws[k].toNat, by omega⟩
            have hgn : (ws.getD k 0).toNat = n := by rw [hg, hn]; rfl
            have hwc' : wr.cell? ⟨bw, ow + k, none⟩ = some (.int .i64 (n : Int)) := by rw [← hn]; exact (hbel.cell (p := ⟨bw, ow + k, none⟩) hwb).trans hwc
            clear hwc hg
            have hsum : sumTo ws (k + 1) ≤ s.size := by rw [Hsz.out, hkm.out.1]; exact sumTo_mono ws _ _ (by omega)
            have hrp := rest_piece ws s k hsum
            have hrn := rest_next ws s k hsum
            rw [hgn] at hrp hrn
            have Hrp := Lib.hid hrp
            have Hrn := Lib.hid hrn
            have Hn := Lib.hid hn
            have hsz1 : (s.extract (sumTo ws k) s.size).size = s.size - sumTo ws k := by simp [ByteArray.size_extract]
            have hnl : n ≤ (s.extract (sumTo ws k) s.size).size := by
              rw [hsz1]; simp only [sumTo, hgn] at hsum; omega
            have HS1 := Lib.hid hsz1
            clear hrp hrn hn hsz1 hgn
            go_wp2_with fail
            refine (cut_off n w.heap.size _ 9 wr hnl (by rw [HS1.out]; omega) hblk).mono ?_
            rintro e w1 ⟨rfl, rfl⟩
            go_wp2_with fail
            refine (get_any _ _).mono ?_
            rintro e w1 ⟨rfl, rfl⟩
            have own1 := ownsRow_setCell_below hown (a := ⟨w.heap.size, 0, none⟩) (by show w.heap.size < _; omega) (.string ((s.extract (sumTo ws k) s.size).extract n (s.size - sumTo ws k)))
            have blk1 := one_setCell (u := .string ((s.extract (sumTo ws k) s.size).extract n (s.size - sumTo ws k))) hblk
            have bel1 := hbel.setCell (p := ⟨w.heap.size, 0, none⟩) (Nat.le_refl _) (.string ((s.extract (sumTo ws k) s.size).extract n (s.size - sumTo ws k)))
            generalize wr.setCell ⟨w.heap.size, 0, none⟩ (.string ((s.extract (sumTo ws k) s.size).extract n (s.size - sumTo ws k))) = w1 at *
            rw [Hrn.out] at blk1
            have Own := Lib.hid own1
            have Blk := Lib.hid blk1
            clear own1 blk1 hown hblk hbel
            by_cases hp : getOk (piece ws s.data.toList k) = true
            · have hv : getV ((s.extract (sumTo ws k) s.size).extract 0 n) = (getN (piece ws s.data.toList k) : Int) := by rw [getV, Hrp.out, if_pos hp]
              have he : getE ((s.extract (sumTo ws k) s.size).extract 0 n) = 0 := by rw [getE, Hrp.out, if_pos hp]
              rw [hv, he]
              have Hp := Lib.hid hp
              have hx : getN (piece ws s.data.toList k) ≤ 9223372036854775807 := by simp only [getOk, decide_eq_true_eq] at hp; exact hp.2.2
              generalize hx0 : getN (piece ws s.data.toList k) = x at *
              have Hx := Lib.hid hx0
              clear hp hv he hx0 hwc'
              have hwsz := bel1.size
              go_wp2_with (at_builtin; refine wpList_append_own _ rfl _ _ 48 rfl (w.heap.size + 1) 3 i0 (.int .i64 0) 1 8 Tryz.underlying48 hi hz0 hz1 hz2 rfl (by decide) _ _ _ rfl (Own.out.alloc _) ⟨w1.heap.size, 0, none⟩ 1 1 [.int .i64 (x : Int)] rfl rfl ?c1 ?c2 ?c3 ?c4 ?c5 ?_)
              case c1 =>
                intro j u hj
                match j, hj with
                | 0, hj => simp at hj; subst hj; simp [Addr.add]
              case c2 => intro u hu; simp at hu; subst hu; rfl
              case c3 => unfold maxLen; omega
              case c4 => omega
              case c5 => simp; omega
              intro v' w2 hown' hgrow _
              have Own2 := Lib.hid hown'
              have Grow := Lib.hid hgrow
              clear hown' hgrow
              go_wp2
              go_roundw
              case rel =>
                refine ⟨k + 1, by omega, by go_num, ?_, ?_, ?_, ?_⟩
                · have := Own2.out
                  rw [unpackTo_succ, List.map_append, Hx.out]
                  exact this
                · rw [Grow.out.block w.heap.size (by simp; omega) (fun e => by have := (Own.out.lt w.heap.size e.symm).1; omega), Below.heap_alloc _ _ _ (lt_of_block Blk.out)]
                  exact Blk.out
                · refine Lib.hid fun i hi => ?_
                  by_cases hik : i = k
                  · subst hik; exact Hp.out
                  · exact hpk.out i (by omega)
                · exact (bel1.alloc hwsz _).grown Grow.out (by simp; omega) (fun j hj => by have := (Own.out.lt j hj).1; omega)
              case measure => simp [intOf]; omega
            · have he : getE ((s.extract (sumTo ws k) s.size).extract 0 n) = 3 := by rw [getE, Hrp.out, if_neg hp]
              rw [he]
              have Hp := Lib.hid hp
              clear hp he hwc'
              go_wp2
              have hpo : ¬ piecesOk ws s.data.toList = true := by simp only [piecesOk, decide_eq_true_eq]; exact fun h => Hp.out (h k hlt)
              have he : unpackE ws s = 3 := by rw [unpackE, if_pos Hok.out, if_pos (by rw [← hkm.out.1]; exact Hsz.out), if_neg hpo]
              refine HR.out _ _ ⟨.slice none 0 0, ?_, ?_, bel1⟩
              · rw [he]; try rfl
              · rw [unpackL, he]; exact RdI.nil _
          · obtain rfl : k = ws.length := by omega
            go_wp2
            have hpo : piecesOk ws s.data.toList = true := by simp only [piecesOk, decide_eq_true_eq]; exact hpk.out
            have he : unpackE ws s = 0 := by rw [unpackE, if_pos Hok.out, if_pos (by rw [← hkm.out.1]; exact Hsz.out), if_pos hpo]
            refine HR.out _ _ ⟨u10, ?_, ?_, hbel⟩
            · rw [he]; try rfl
            · rw [unpackL, if_pos he]
              refine RdI.owned (B := w.heap.size + 1) (e := 3) (by rw [unpackTo_length]; exact hown) ?_
              intro x hx
              simp only [unpackTo, List.mem_map, List.mem_range] at hx
              obtain ⟨i, hi', rfl⟩ := hx
              have := hpk.out i hi'
              simp only [getOk, decide_eq_true_eq] at this
              omega
      · have hb : ((s.size : Int) != (m : Int)) = true := by simp; omega
        have Hsz := Lib.hid hsz
        clear hsz
        go_wp2
        have he : unpackE ws s = 3 := by rw [unpackE, if_pos Hok.out, if_neg (by rw [← hkm.out.1]; exact Hsz.out)]
        refine HR.out _ _ ⟨.slice none 0 0, ?_, ?_, (Below.refl _ _).alloc (Nat.le_refl _) _⟩
        · rw [he]; try rfl
        · rw [unpackL, he]; exact RdI.nil _

end Go.Proofs.YteppfjgglelpbaaGreat
/- What the reference's Put answers. -/
namespace Go.Proofs.YteppfjgglelpbaaGreat
open Go.RowKit Ks
set_option linter.unusedVariables false

end Go.Proofs.YteppfjgglelpbaaGreat
/- What the reference's Get answers. -/
namespace Go.Proofs.YteppfjgglelpbaaGreat
open Go.RowKit Ks
set_option linter.unusedVariables false

end Go.Proofs.YteppfjgglelpbaaGreat
/- A slice over a new block reads as its numbers. -/
namespace Ks
open Go Go.RowKit
set_option linter.unusedVariables false

theorem RdI.block {w : World} {b : Nat} (l : List Int) (t : TypeId) (fr : Nat × Nat) (n : Nat) (hn : n = l.length) (hr : ∀ x ∈ l, -9223372036854775808 ≤ x ∧ x ≤ 9223372036854775807)
    (h : w.heap[b]? = some (.cells (l.map (Value.int .i64)).toArray t fr)) : RdI w (.slice (some ⟨b, 0, none⟩) n n) l := by
  subst hn
  refine ⟨_, _, rfl, Nat.le_refl _, fun i x hx => ⟨⟨b, 0, rfl, lt_of_block h, ?_⟩, hr x (List.mem_of_getElem? hx)⟩⟩
  rw [Nat.zero_add, cell_of_row w b i _ t fr h]
  simp [hx]

/-- a new block of one byte, behind a draw, made a string -/
theorem conv_one_drew {P : Program} {src dst e : TypeId} (hs : P.underlying src = some (.slice e)) (he : P.underlying e = some (.int .u8)) (hd : P.underlying dst = some .string) (x : Int) (cap : Nat) (t : TypeId) (w : World) :
    (convert src dst (.slice (some ⟨w.heap.size, 0, none⟩) 1 cap)).run P (w.alloc (.cells #[.int .u8 x] t)).drew = .ok (.string ⟨#[UInt8.ofNat x.toNat]⟩) (w.alloc (.cells #[.int .u8 x] t)).drew :=
  conv_one hs he hd x cap t w.drew

/-- a slice's elements, when there are four -/
theorem RdI.four {w : World} {v : Value} {x0 x1 x2 x3 : Int} (h : RdI w v [x0, x1, x2, x3]) : ∃ b o cap, v = .slice (some ⟨b, o, none⟩) 4 cap ∧ b < w.heap.size ∧
    w.cell? ⟨b, o, none⟩ = some (.int .i64 x0) ∧ w.cell? ⟨b, o + 1, none⟩ = some (.int .i64 x1) ∧ w.cell? ⟨b, o + 2, none⟩ = some (.int .i64 x2) ∧ w.cell? ⟨b, o + 3, none⟩ = some (.int .i64 x3) := by
  obtain ⟨a, cap, rfl, _, h⟩ := h
  obtain ⟨⟨b, o, rfl, hb, h0⟩, _⟩ := h 0 x0 rfl
  obtain ⟨⟨b1, o1, e1, _, h1⟩, _⟩ := h 1 x1 rfl
  obtain ⟨⟨b2, o2, e2, _, h2⟩, _⟩ := h 2 x2 rfl
  obtain ⟨⟨b3, o3, e3, _, h3⟩, _⟩ := h 3 x3 rfl
  cases e1; cases e2; cases e3
  exact ⟨b, o, cap, rfl, hb, h0, h1, h2, h3⟩

/-- a block of one byte, made a string -/
theorem conv_blk {P : Program} {src dst e : TypeId} (hs : P.underlying src = some (.slice e)) (he : P.underlying e = some (.int .u8)) (hd : P.underlying dst = some .string) (x : Int) (cap b : Nat) (t : TypeId) (fr : Nat × Nat) (w : World)
    (h : w.heap[b]? = some (.cells #[.int .u8 x] t fr)) :
    (convert src dst (.slice (some ⟨b, 0, none⟩) 1 cap)).run P w = .ok (.string ⟨#[UInt8.ofNat x.toNat]⟩) w := by
  rw [run_convert_bytes_string _ src dst e _ 1 cap hs he hd]
  have hl := run_loadCells_list (P := P) w ⟨b, 0, none⟩ [Value.int .u8 x] (fun j v hj => by
    match j, hj with
    | 0, hj => simp at hj; subst hj; simp [Addr.add, World.cell?, h])
  rw [run_bytesToString _ _ 1 cap [x] (by simpa using hl)]
  rfl

/-- what a callee that turned nothing leaves of the cells that were there -/
theorem bcells {W W' : World} (h : Below W.heap.size W W') : (∀ b o, b < W.heap.size → W'.cell? ⟨b, o, none⟩ = W.cell? ⟨b, o, none⟩) ∧ (∀ b o, b < W.heap.size → W'.frozen? ⟨b, o, none⟩ = W.frozen? ⟨b, o, none⟩) :=
  ⟨fun b o hb => h.cell (p := ⟨b, o, none⟩) hb, fun b o hb => h.frozen (p := ⟨b, o, none⟩) hb⟩

end Ks
/- A shape's bytes, and the shape of bytes: geom.Put, Take and the reference's. -/
namespace Go.Proofs.YteppfjgglelpbaaGreat
open Go.RowKit Ks
set_option linter.unusedVariables false
theorem gwidths_any (w : World) : Calls Tryz.prog 112 #[] w fun e w' => e = .returned (.slice (some ⟨w.heap.size, 0, none⟩) 3 3) ∧ w' = w.alloc (.cells #[.int .i64 4, .int .i64 4, .int .i64 4] 163) := by
  go_enter Tryz.func112, Tryz.ntmps112
  go_wp2
  go_ret
  exact ⟨rfl, rfl⟩
set_option maxHeartbeats 1000000 in
set_option maxRecDepth 100000 in
theorem gput_any (b l f : Int) (w : World) (hb : -9223372036854775808 ≤ b ∧ b ≤ 9223372036854775807) (hl : -9223372036854775808 ≤ l ∧ l ≤ 9223372036854775807) (hf : -9223372036854775808 ≤ f ∧ f ≤ 9223372036854775807) :
    Calls Tryz.prog 96 #[geoV b l f] w fun e w' => e = .returned (.tuple #[.string (geoS b l f), .int .i64 (geoE b l f)]) ∧ Below w.heap.size w w' := by
  refine calls_by fun R HR => ?_
  have HC := Lib.hid (fun w => gcheck_any b l f w)
  cases h : geoOk b l f
  · have HV := Lib.hid (geo_no h)
    rw [(geo_no h).2.1] at HC
    clear h
    go_enter Tryz.func96, Tryz.ntmps96
    go_wp2_with fail
    refine (HC.out _).mono ?_
    rintro e w1 ⟨rfl, hb1⟩
    have H1 := Lib.hid ((alloc_below w _).trans (hb1.mono (by simp)))
    clear hb1
    go_wp2
    exact HR.out _ _ ⟨by rw [HV.out.1, HV.out.2.1] <;> rfl, H1.out⟩
  · have HV := Lib.hid (And.intro (geo_yes h).1 (geo_pack b l f h))
    rw [(geo_yes h).1] at HC
    obtain ⟨g1, g2, g3, g4, g5, g6⟩ := geo_ok.1 h
    clear h
    go_enter Tryz.func96, Tryz.ntmps96
    go_wp2_with fail
    refine (HC.out _).mono ?_
    rintro e w1 ⟨rfl, hb1⟩
    have c0 : w1.cell? ⟨w.heap.size, 0, none⟩ = some (.int .i64 b) := (hb1.cell (p := ⟨w.heap.size, 0, none⟩) (by simp)).trans (by simp [World.cell?_alloc_at])
    have c1 : w1.cell? ⟨w.heap.size, 1, none⟩ = some (.int .i64 l) := (hb1.cell (p := ⟨w.heap.size, 1, none⟩) (by simp)).trans (by simp [World.cell?_alloc_at])
    have c2 : w1.cell? ⟨w.heap.size, 2, none⟩ = some (.int .i64 f) := (hb1.cell (p := ⟨w.heap.size, 2, none⟩) (by simp)).trans (by simp [World.cell?_alloc_at])
    have hB1 : Below w.heap.size w w1 := ((Below.refl _ _).alloc (Nat.le_refl _) _).trans (hb1.mono (by simp))
    have hz1 : w.heap.size < w1.heap.size := by have := hb1.size; simp at this; omega
    clear hb1
    go_wp2_with fail
    go_region_held3 (fun w' => w'.cell? ⟨w.heap.size, 0, none⟩ = some (.int .i64 b) ∧ w'.cell? ⟨w.heap.size, 1, none⟩ = some (.int .i64 l) ∧ w'.cell? ⟨w.heap.size, 2, none⟩ = some (.int .i64 f))
      (first | go_keep)
      (first
        | (go_at_call 112; refine (gwidths_any _).mono ?_; rintro en w2 ⟨rfl, rfl⟩)
        | (go_at_call 94; refine (pack_any _ _ [4, 4, 4] [b, l, f] _ (RdI.block _ 163 (0, 0) 3 rfl (by decide) (by first | exact heap_alloc2_old _ _ _ | exact heap_alloc2_new _ _ _)) (RdI.block _ 3 (0, 0) 3 rfl (by intro x hx; simp at hx; omega) (by first | exact heap_alloc2_old _ _ _ | exact heap_alloc2_new _ _ _)) (by simp)).mono ?_; rintro en w3 ⟨rfl, hb3⟩; have hbb := Below.trans ((((Below.refl w1.heap.size w1).alloc (Nat.le_refl _) _).alloc (by simp) _).drew) (hb3.mono (by simp; omega)); clear hb3; have k0 := (hbb.cell (p := ⟨w.heap.size, 0, none⟩) hz1).trans c0; have k1 := (hbb.cell (p := ⟨w.heap.size, 1, none⟩) hz1).trans c1; have k2 := (hbb.cell (p := ⟨w.heap.size, 2, none⟩) hz1).trans c2; have hB3 := hB1.trans (hbb.mono hB1.size); clear hbb))
    all_goals
      go_wp2
      exact HR.out _ _ ⟨by rw [HV.out.1, ← HV.out.2.2, HV.out.2.1] <;> rfl, hB3⟩
end Go.Proofs.YteppfjgglelpbaaGreat
/- The shape of bytes: geom.Take and the reference's Put, Take. -/
namespace Ks
open Go Go.RowKit
set_option linter.unusedVariables false
theorem RdI.three {w : World} {v : Value} {x0 x1 x2 : Int} (h : RdI w v [x0, x1, x2]) : ∃ b o cap, v = .slice (some ⟨b, o, none⟩) 3 cap ∧ b < w.heap.size ∧
    w.cell? ⟨b, o, none⟩ = some (.int .i64 x0) ∧ w.cell? ⟨b, o + 1, none⟩ = some (.int .i64 x1) ∧ w.cell? ⟨b, o + 2, none⟩ = some (.int .i64 x2) := by
  obtain ⟨a, cap, rfl, _, h⟩ := h
  obtain ⟨⟨b, o, rfl, hb, h0⟩, _⟩ := h 0 x0 rfl
  obtain ⟨⟨b1, o1, e1, _, h1⟩, _⟩ := h 1 x1 rfl
  obtain ⟨⟨b2, o2, e2, _, h2⟩, _⟩ := h 2 x2 rfl
  cases e1; cases e2
  exact ⟨b, o, cap, rfl, hb, h0, h1, h2⟩
def gN0 (s : ByteArray) : Int := if geoT s then (numAt s 0 4 : Int) else 0
def gN1 (s : ByteArray) : Int := if geoT s then (numAt s 4 4 : Int) else 0
def gN2 (s : ByteArray) : Int := if geoT s then (numAt s 8 4 : Int) else 0
def gTE (s : ByteArray) : Int := if geoT s then 0 else 3
theorem geoT_no {s : ByteArray} (h : ¬ geoT s = true) : gN0 s = 0 ∧ gN1 s = 0 ∧ gN2 s = 0 ∧ gTE s = 3 ∧ geoT s = false := ⟨by rw [gN0, if_neg h], by rw [gN1, if_neg h], by rw [gN2, if_neg h], by rw [gTE, if_neg h], by simpa using h⟩
theorem geoT_yes {s : ByteArray} (h : geoT s = true) : gN0 s = numAt s 0 4 ∧ gN1 s = numAt s 4 4 ∧ gN2 s = numAt s 8 4 ∧ gTE s = 0 := ⟨by rw [gN0, if_pos h], by rw [gN1, if_pos h], by rw [gN2, if_pos h], by rw [gTE, if_pos h]⟩
end Ks
namespace Go.Proofs.YteppfjgglelpbaaGreat
open Go.RowKit Ks
set_option linter.unusedVariables false
set_option maxHeartbeats 2000000 in
set_option maxRecDepth 100000 in
theorem gtake_any (s : ByteArray) (w : World) (hs : s.size ≤ 9223372036854775807) :
    Calls Tryz.prog 114 #[.string s] w fun e w' => e = .returned (.tuple #[geoV (gN0 s) (gN1 s) (gN2 s), .int .i64 (gTE s)]) ∧ Below w.heap.size w w' := by
  refine calls_by fun R HR => ?_
  obtain ⟨W, hW⟩ : ∃ W, w.alloc (.cells #[.int .i64 0, .int .i64 0, .int .i64 0] 27) = W := ⟨_, rfl⟩
  have HW := Lib.hid (And.intro (show Below w.heap.size w W by rw [← hW]; exact alloc_below w _) (show W.heap[w.heap.size]? = some (.cells #[.int .i64 0, .int .i64 0, .int .i64 0] 27 (0, 0)) by rw [← hW]; exact alloc_new w _))
  have HU := Lib.hid (fun (w1 : World) (h : RdI w1 (.slice (some ⟨W.heap.size, 0, none⟩) 3 3) [4, 4, 4]) => unpack_any (.slice (some ⟨W.heap.size, 0, none⟩) 3 3) [4, 4, 4] s w1 h (by decide) hs)
  rcases geo_unpack s with ⟨hz, hE, hL⟩ | ⟨hz, hE⟩
  · simp only [hE, hL] at HU
    go_enter Tryz.func114, Tryz.ntmps114
    go_wp2_with fail
    refine (gwidths_any _).mono ?_
    rintro e w1 ⟨rfl, rfl⟩
    go_wp2_with fail
    refine (HU.out _ (RdI.block _ 163 (0, 0) 3 rfl (by decide) (alloc_new W _))).mono ?_
    rintro e w2 ⟨v, rfl, hr, hb2⟩
    have hbW := (alloc_below W (.cells #[.int .i64 4, .int .i64 4, .int .i64 4] 163)).trans (hb2.mono (by simp))
    have H2 := Lib.hid (And.intro (HW.out.1.trans (hbW.mono HW.out.1.size)) (And.intro ((hbW.block _ (lt_of_block HW.out.2)).trans HW.out.2) (lt_of_block HW.out.2)))
    obtain ⟨bL, oL, cL, rfl, hbL, l0, l1, l2⟩ := hr.three
    have hz2 : w.heap.size < w2.heap.size := Nat.lt_of_lt_of_le H2.out.2.2 hbW.size
    clear hr hb2 hbW hW
    go_wp2_with fail
    go_region_held3 (fun w' => w'.cell? ⟨bL, oL, none⟩ = some (.int .i64 (numAt s 0 4 : Int)) ∧ w'.cell? ⟨bL, oL + 1, none⟩ = some (.int .i64 (numAt s 4 4 : Int)) ∧ w'.cell? ⟨bL, oL + 2, none⟩ = some (.int .i64 (numAt s 8 4 : Int)))
      (first | go_keep)
      (first | fail)
    all_goals
      rename_i hHeld
      clear hHeld
      have hT : geoT s = geoOk (numAt s 0 4) (numAt s 4 4) (numAt s 8 4) := by unfold geoT; rw [Bool.eq_iff_iff, decide_eq_true_iff]; exact ⟨fun h => h.2, fun h => ⟨hz, h⟩⟩
      have HBK := Lib.hid (geo_back s)
      have hlt0 := numAt_lt s 0
      have hlt1 := numAt_lt s 4
      have hlt2 := numAt_lt s 8
      have HYN := Lib.hid (And.intro (@geoT_no s) (@geoT_yes s))
      obtain ⟨n0, hn0⟩ : ∃ n0, numAt s 0 4 = n0 := ⟨_, rfl⟩
      obtain ⟨n1, hn1⟩ : ∃ n1, numAt s 4 4 = n1 := ⟨_, rfl⟩
      obtain ⟨n2, hn2⟩ : ∃ n2, numAt s 8 4 = n2 := ⟨_, rfl⟩
      rw [hn0] at hlt0 hT HBK HYN
      rw [hn1] at hlt1 hT HBK HYN
      rw [hn2] at hlt2 hT HBK HYN
      simp only [hn0, hn1, hn2]
      clear l0 l1 l2 hn0 hn1 hn2
      obtain ⟨W3, hW3⟩ : ∃ W3, (w2.alloc (.cells #[.int .i64 (n0 : Int), .int .i64 (n1 : Int), .int .i64 (n2 : Int)] 27)).drew = W3 := ⟨_, rfl⟩
      have hb3 : Below w2.heap.size w2 W3 := by rw [← hW3]; exact (alloc_below w2 _).drew
      have k3 : W3.heap[w2.heap.size]? = some (.cells #[.int .i64 (n0 : Int), .int .i64 (n1 : Int), .int .i64 (n2 : Int)] 27 (0, 0)) := by rw [← hW3]; exact alloc_new w2 _
      rw [hW3]
      have H3 := Lib.hid (And.intro (H2.out.1.trans (hb3.mono H2.out.1.size)) (And.intro ((hb3.block _ (lt_of_block H2.out.2.1)).trans H2.out.2.1) k3))
      obtain ⟨y0, y1, y2, -, -, -⟩ := blk3 k3
      have HLT := Lib.hid (And.intro hlt0 (And.intro hlt1 hlt2))
      clear hb3 k3 hW3 hlt0 hlt1 hlt2
      go_wp2_with fail
      refine (gput_any n0 n1 n2 W3 (by have := HLT.out; omega) (by have := HLT.out; omega) (by have := HLT.out; omega)).mono ?_
      rintro e w4 ⟨rfl, hb4⟩
      have H4 := Lib.hid (And.intro (H3.out.1.trans (hb4.mono H3.out.1.size)) (And.intro ((hb4.block _ (lt_of_block H3.out.2.1)).trans H3.out.2.1) ((hb4.block _ (lt_of_block H3.out.2.2)).trans H3.out.2.2)))
      clear hb4 y0 y1 y2
      obtain ⟨y0, y1, y2, -, -, -⟩ := blk3 H4.out.2.2
      obtain ⟨z0, z1, z2, f0, f1, f2⟩ := blk3 H4.out.2.1
      cases h : geoOk (n0 : Int) n1 n2
      · rw [h] at hT
        rw [(geo_no h).2.1]
        have HV := Lib.hid (HYN.out.1 (by rw [hT]; exact Bool.false_ne_true))
        clear h hT
        go_wp2
        refine bodyPost_ret (v := .tuple #[geoV 0 0 0, .int .i64 3]) (by simp [results, Tryz.results114, go_sem, geoV, z0, z1, z2]) rfl ?_
        exact HR.out _ _ ⟨by rw [HV.out.1, HV.out.2.1, HV.out.2.2.1, HV.out.2.2.2.1], ((H4.out.1.setCell (Nat.le_refl _) _).setCell (Nat.le_refl _) _).setCell (Nat.le_refl _) _⟩
      · rw [h] at hT
        have hok := geo_ok.1 h
        have h8 : ((n0 : Int) == 0) = false := by rw [beq_eq_false_iff_ne]; omega
        have h8' : ¬ (n0 : Int) = 0 := by omega
        rw [(geo_yes h).1, HBK.out hT]
        have HV := Lib.hid (HYN.out.2 hT)
        clear h hT hok
        go_wp2
        refine bodyPost_ret (v := .tuple #[geoV n0 n1 n2, .int .i64 0]) (by simp [results, Tryz.results114, go_sem, geoV, z0, z1, z2]) rfl ?_
        exact HR.out _ _ ⟨by rw [HV.out.1, HV.out.2.1, HV.out.2.2.1, HV.out.2.2.2], ((H4.out.1.setCell (Nat.le_refl _) _).setCell (Nat.le_refl _) _).setCell (Nat.le_refl _) _⟩
  · simp only [hE] at HU
    have hno : ¬ geoT s = true := by simp only [geoT, decide_eq_true_eq]; exact fun h => hz h.1
    have HV := Lib.hid (geoT_no hno)
    clear hno hz hE
    go_enter Tryz.func114, Tryz.ntmps114
    go_wp2_with fail
    refine (gwidths_any _).mono ?_
    rintro e w1 ⟨rfl, rfl⟩
    go_wp2_with fail
    refine (HU.out _ (RdI.block _ 163 (0, 0) 3 rfl (by decide) (alloc_new W _))).mono ?_
    rintro e w2 ⟨v, rfl, hr, hb2⟩
    have hbW := (alloc_below W (.cells #[.int .i64 4, .int .i64 4, .int .i64 4] 163)).trans (hb2.mono (by simp))
    have H2 := Lib.hid (And.intro (HW.out.1.trans (hbW.mono HW.out.1.size)) ((hbW.block _ (lt_of_block HW.out.2)).trans HW.out.2))
    obtain ⟨z0, z1, z2, f0, f1, f2⟩ := blk3 H2.out.2
    clear hr hb2 hbW hW
    go_wp2
    refine bodyPost_ret (v := .tuple #[geoV 0 0 0, .int .i64 3]) (by simp [results, Tryz.results114, go_sem, geoV, z0, z1, z2]) rfl ?_
    exact HR.out _ _ ⟨by rw [HV.out.1, HV.out.2.1, HV.out.2.2.1, HV.out.2.2.2.1], ((H2.out.1.setCell (Nat.le_refl _) _).setCell (Nat.le_refl _) _).setCell (Nat.le_refl _) _⟩
end Go.Proofs.YteppfjgglelpbaaGreat
/- A shape's bytes, and the shape of bytes: the reference's. -/
namespace Go.Proofs.YteppfjgglelpbaaGreat
open Go.RowKit Ks
set_option linter.unusedVariables false
end Go.Proofs.YteppfjgglelpbaaGreat
/- A superblock as a value, and as cells. -/
namespace Ks
open Go Go.RowKit
theorem blk7 {w : World} {b : Nat} {c0 c1 c2 c3 c4 c5 c6 : Value} {T : TypeId} (h : w.heap[b]? = some (.cells #[c0, c1, c2, c3, c4, c5, c6] T (0, 0))) : w.cell? ⟨b, 0, none⟩ = some c0 ∧ w.cell? ⟨b, 1, none⟩ = some c1 ∧ w.cell? ⟨b, 2, none⟩ = some c2 ∧ w.cell? ⟨b, 3, none⟩ = some c3 ∧ w.cell? ⟨b, 4, none⟩ = some c4 ∧ w.cell? ⟨b, 5, none⟩ = some c5 ∧ w.cell? ⟨b, 6, none⟩ = some c6 :=
  ⟨by rw [cell_of_row w b 0 _ _ _ h]; rfl, by rw [cell_of_row w b 1 _ _ _ h]; rfl, by rw [cell_of_row w b 2 _ _ _ h]; rfl, by rw [cell_of_row w b 3 _ _ _ h]; rfl, by rw [cell_of_row w b 4 _ _ _ h]; rfl, by rw [cell_of_row w b 5 _ _ _ h]; rfl, by rw [cell_of_row w b 6 _ _ _ h]; rfl⟩
end Ks
namespace Go.Proofs.YteppfjgglelpbaaGreat
open Go.RowKit Ks
abbrev supV (g t e c b l f : Int) : Value := .agg #[.int .i64 g, .int .i64 t, .int .i64 e, .int .i64 c, .int .i64 b, .int .i64 l, .int .i64 f]
end Go.Proofs.YteppfjgglelpbaaGreat
/- A superblock: super.Check and the reference's Right. -/
namespace Go.Proofs.YteppfjgglelpbaaGreat
open Go.RowKit Ks
set_option linter.unusedVariables false
set_option maxHeartbeats 4000000 in
set_option maxRecDepth 100000 in
theorem scheck_any (g t e c b l f : Int) (w : World) (hb : -9223372036854775808 ≤ b ∧ b ≤ 9223372036854775807) : Calls Tryz.prog 67 #[supV g t e c b l f] w fun e' w' => e' = .returned (.int .i64 (supE g t e c b l f)) ∧ Below w.heap.size w w' := by
  refine calls_by fun R HR => ?_
  have HC := Lib.hid (fun w => gcheck_any b l f w)
  have HD := Lib.hid (fun w => gdata_any b l f w hb)
  obtain ⟨W, hW⟩ : ∃ W, w.alloc (.cells #[.int .i64 g, .int .i64 t, .int .i64 e, .int .i64 c, .int .i64 b, .int .i64 l, .int .i64 f] 29) = W := ⟨_, rfl⟩
  have HW := Lib.hid (And.intro (show Below w.heap.size w W by rw [← hW]; exact alloc_below w _) (show W.heap[w.heap.size]? = some (.cells #[.int .i64 g, .int .i64 t, .int .i64 e, .int .i64 c, .int .i64 b, .int .i64 l, .int .i64 f] 29 (0, 0)) by rw [← hW]; exact alloc_new w _))
  obtain ⟨c0, c1, c2, c3, c4, c5, c6⟩ := blk7 HW.out.2
  rcases sup_cases g t e c b l f with ⟨h0, h⟩ | ⟨h0, h⟩
  · have HV := Lib.hid (sup_no h).2
    rw [(geo_no h0).2.1] at HC
    clear h h0 HD hb
    go_enter Tryz.func67, Tryz.ntmps67
    go_wp2_with fail
    refine (HC.out _).mono ?_
    rintro en w1 ⟨rfl, hb1⟩
    have H1 := Lib.hid (HW.out.1.trans (hb1.mono HW.out.1.size))
    clear hb1 c0 c1 c2 c3 c4 c5 c6
    go_wp2
    exact HR.out _ _ ⟨by rw [HV.out] <;> rfl, H1.out⟩
  · rw [(geo_yes h0).1] at HC
    rw [(geo_yes h0).2] at HD
    have hg := geo_ok.1 h0
    have hb4 : 0 ≤ b - 4 ∧ b - 4 ≤ 9223372036854775807 := by omega
    clear hg h0
    rcases h with ⟨k1, h⟩ | ⟨k1, k2, h⟩ | ⟨k1, k2, k3, h⟩ | ⟨k1, k2, k3, k4, h⟩ | ⟨k1, k2, k3, k4, h⟩
    iterate 3
      · have HV := Lib.hid (sup_no h).2
        clear h
        go_enter Tryz.func67, Tryz.ntmps67
        go_wp2_with fail
        refine (HC.out _).mono ?_
        rintro en w1 ⟨rfl, hb1⟩
        have H1 := Lib.hid (And.intro (HW.out.1.trans (hb1.mono HW.out.1.size)) ((hb1.block _ (lt_of_block HW.out.2)).trans HW.out.2))
        clear hb1 c0 c1 c2 c3 c4 c5 c6
        obtain ⟨c0, c1, c2, c3, c4, c5, c6⟩ := blk7 H1.out.2
        go_wp2_with go_quiet (fail)
        exact HR.out _ _ ⟨by rw [HV.out] <;> rfl, H1.out.1.trans ⟨rfl, rfl, rfl, Nat.le_refl _, fun _ _ => rfl⟩⟩
    · have HV := Lib.hid (sup_no h).2
      clear h
      all_goals
        go_enter Tryz.func67, Tryz.ntmps67
        go_wp2_with fail
        refine (HC.out _).mono ?_
        rintro en w1 ⟨rfl, hb1⟩
        have H1 := Lib.hid (And.intro (HW.out.1.trans (hb1.mono HW.out.1.size)) ((hb1.block _ (lt_of_block HW.out.2)).trans HW.out.2))
        clear hb1 c0 c1 c2 c3 c4 c5 c6
        obtain ⟨c0, c1, c2, c3, c4, c5, c6⟩ := blk7 H1.out.2
        have x0 := after_cell c0
        have x1 := after_cell c1
        have x2 := after_cell c2
        have x3 := after_cell c3
        have x4 := after_cell c4
        have x5 := after_cell c5
        have x6 := after_cell c6
        have cD := fun q => calls_after (HD.out (After w1 q))
        go_wp2_with fail
        refine wp_region_after (by kernel_rfl) (by kernel_rfl) ?_
        repeat (quiet_step (exact cD _))
        refine wpQuiet_nil ?_
        rintro w2 ⟨q, rfl⟩
        have hb2 := after_below w1 q
        have H2 := Lib.hid (And.intro (H1.out.1.trans (hb2.mono H1.out.1.size)) ((hb2.block _ (lt_of_block H1.out.2)).trans H1.out.2))
        generalize After w1 q = w2 at *
        clear hb2 x0 x1 x2 x3 x4 x5 x6 cD c0 c1 c2 c3 c4 c5 c6
        obtain ⟨c0, c1, c2, c3, c4, c5, c6⟩ := blk7 H2.out.2
        go_wp2
        exact HR.out _ _ ⟨by rw [HV.out] <;> rfl, H2.out.1⟩
    · rcases h with ⟨m1, h⟩ | ⟨m1, m2, h⟩ | ⟨m1, m2, m3, h⟩ | ⟨m1, m2, m3, m4, h⟩ | ⟨m1, m2, m3, m4, h⟩
      all_goals
        have HV : Hid (supE g t e c b l f = (if supOk g t e c b l f then 0 else 2)) := Lib.hid rfl
        rw [h] at HV
        clear h
        go_enter Tryz.func67, Tryz.ntmps67
        go_wp2_with fail
        refine (HC.out _).mono ?_
        rintro en w1 ⟨rfl, hb1⟩
        have H1 := Lib.hid (And.intro (HW.out.1.trans (hb1.mono HW.out.1.size)) ((hb1.block _ (lt_of_block HW.out.2)).trans HW.out.2))
        clear hb1 c0 c1 c2 c3 c4 c5 c6
        obtain ⟨c0, c1, c2, c3, c4, c5, c6⟩ := blk7 H1.out.2
        have x0 := after_cell c0
        have x1 := after_cell c1
        have x2 := after_cell c2
        have x3 := after_cell c3
        have x4 := after_cell c4
        have x5 := after_cell c5
        have x6 := after_cell c6
        have cD := fun q => calls_after (HD.out (After w1 q))
        go_wp2_with fail
        refine wp_region_after (by kernel_rfl) (by kernel_rfl) ?_
        repeat (quiet_step (exact cD _))
        refine wpQuiet_nil ?_
        rintro w2 ⟨q, rfl⟩
        have hb2 := after_below w1 q
        have H2 := Lib.hid (And.intro (H1.out.1.trans (hb2.mono H1.out.1.size)) ((hb2.block _ (lt_of_block H1.out.2)).trans H1.out.2))
        generalize After w1 q = w2 at *
        clear hb2 x0 x1 x2 x3 x4 x5 x6 cD c0 c1 c2 c3 c4 c5 c6
        obtain ⟨c0, c1, c2, c3, c4, c5, c6⟩ := blk7 H2.out.2
        go_wp2
        exact HR.out _ _ ⟨by rw [HV.out] <;> rfl, H2.out.1⟩
end Go.Proofs.YteppfjgglelpbaaGreat
/- The next superblock: super.Next. -/
namespace Ks
open Go Go.RowKit
set_option linter.unusedVariables false
theorem fro7 {w : World} {b : Nat} {c0 c1 c2 c3 c4 c5 c6 : Value} {T : TypeId} (h : w.heap[b]? = some (.cells #[c0, c1, c2, c3, c4, c5, c6] T (0, 0))) : w.frozen? ⟨b, 0, none⟩ = false ∧ w.frozen? ⟨b, 1, none⟩ = false ∧ w.frozen? ⟨b, 2, none⟩ = false ∧ w.frozen? ⟨b, 3, none⟩ = false ∧ w.frozen? ⟨b, 4, none⟩ = false ∧ w.frozen? ⟨b, 5, none⟩ = false ∧ w.frozen? ⟨b, 6, none⟩ = false :=
  ⟨frozen_of_row w b 0 _ _ h, frozen_of_row w b 1 _ _ h, frozen_of_row w b 2 _ _ h, frozen_of_row w b 3 _ _ h, frozen_of_row w b 4 _ _ h, frozen_of_row w b 5 _ _ h, frozen_of_row w b 6 _ _ h⟩
def nxE (g t e c b l f : Int) : Int := if supOk g t e c b l f then (if g = 1152921504606846976 then 6 else 0) else 2
end Ks
namespace Go.Proofs.YteppfjgglelpbaaGreat
open Go.RowKit Ks
set_option linter.unusedVariables false
def nxV (g t e c b l f : Int) : Value := if nxE g t e c b l f = 0 then supV (g + 1) t e c b l f else supV 0 0 0 0 0 0 0
theorem nx_no {g t e c b l f : Int} (h : supOk g t e c b l f = false) : nxE g t e c b l f = 2 ∧ nxV g t e c b l f = supV 0 0 0 0 0 0 0 := by
  have h1 : nxE g t e c b l f = 2 := by unfold nxE; rw [if_neg (by rw [h]; exact Bool.false_ne_true)]
  exact ⟨h1, by unfold nxV; rw [h1, if_neg (by decide)]⟩
theorem nx_far {g t e c b l f : Int} (h : supOk g t e c b l f = true) (hg : g = 1152921504606846976) : nxE g t e c b l f = 6 ∧ nxV g t e c b l f = supV 0 0 0 0 0 0 0 := by
  have h1 : nxE g t e c b l f = 6 := by unfold nxE; rw [if_pos h, if_pos hg]
  exact ⟨h1, by unfold nxV; rw [h1, if_neg (by decide)]⟩
theorem nx_yes {g t e c b l f : Int} (h : supOk g t e c b l f = true) (hg : ¬ g = 1152921504606846976) : nxE g t e c b l f = 0 ∧ nxV g t e c b l f = supV (g + 1) t e c b l f := by
  have h1 : nxE g t e c b l f = 0 := by unfold nxE; rw [if_pos h, if_neg hg]
  exact ⟨h1, by unfold nxV; rw [h1, if_pos rfl]⟩
set_option maxHeartbeats 2000000 in
set_option maxRecDepth 100000 in
theorem snext_any (g t e c b l f : Int) (w : World) (hb : -9223372036854775808 ≤ b ∧ b ≤ 9223372036854775807) :
    Calls Tryz.prog 37 #[supV g t e c b l f] w fun en w' => en = .returned (.tuple #[nxV g t e c b l f, .int .i64 (nxE g t e c b l f)]) ∧ Below w.heap.size w w' := by
  refine calls_by fun R HR => ?_
  have HC := Lib.hid (fun w => scheck_any g t e c b l f w hb)
  obtain ⟨W, hW⟩ : ∃ W, (w.alloc (.cells #[.int .i64 g, .int .i64 t, .int .i64 e, .int .i64 c, .int .i64 b, .int .i64 l, .int .i64 f] 29)).alloc (.cells #[.int .i64 0, .int .i64 0, .int .i64 0, .int .i64 0, .int .i64 0, .int .i64 0, .int .i64 0] 29) = W := ⟨_, rfl⟩
  have HW : Hid (Below w.heap.size w W ∧ W.heap[w.heap.size]? = some (.cells #[.int .i64 g, .int .i64 t, .int .i64 e, .int .i64 c, .int .i64 b, .int .i64 l, .int .i64 f] 29 (0, 0)) ∧ W.heap[w.heap.size + 1]? = some (.cells #[.int .i64 0, .int .i64 0, .int .i64 0, .int .i64 0, .int .i64 0, .int .i64 0, .int .i64 0] 29 (0, 0))) := Lib.hid (by
    rw [← hW]
    exact ⟨((Below.refl _ _).alloc (Nat.le_refl _) _).alloc (by simp) _, heap_alloc2_old _ _ _, heap_alloc2_new _ _ _⟩)
  cases h : supOk g t e c b l f
  · have HV := Lib.hid (nx_no h)
    rw [(sup_no h).2] at HC
    clear h
    obtain ⟨c0, c1, c2, c3, c4, c5, c6⟩ := blk7 HW.out.2.1
    go_enter Tryz.func37, Tryz.ntmps37
    go_wp2_with fail
    refine (HC.out _).mono ?_
    rintro en w1 ⟨rfl, hb1⟩
    have H1 := Lib.hid (And.intro (HW.out.1.trans (hb1.mono HW.out.1.size)) ((hb1.block _ (lt_of_block HW.out.2.2)).trans HW.out.2.2))
    clear hb1 c0 c1 c2 c3 c4 c5 c6
    obtain ⟨z0, z1, z2, z3, z4, z5, z6⟩ := blk7 H1.out.2
    obtain ⟨f0, f1, f2, f3, f4, f5, f6⟩ := fro7 H1.out.2
    go_wp2
    refine bodyPost_ret (v := .tuple #[supV 0 0 0 0 0 0 0, .int .i64 2]) (by simp [results, Tryz.results37, go_sem, supV, z0, z1, z2, z3, z4, z5, z6]) rfl ?_
    exact HR.out _ _ ⟨by rw [HV.out.1, HV.out.2], by (repeat refine Below.setCell ?_ (by simp) _); exact H1.out.1⟩
  · by_cases hg : g = 1152921504606846976
    · have HV := Lib.hid (nx_far h hg)
      rw [sup_yes h] at HC
      clear h
      obtain ⟨c0, c1, c2, c3, c4, c5, c6⟩ := blk7 HW.out.2.1
      subst hg
      go_enter Tryz.func37, Tryz.ntmps37
      go_wp2_with fail
      refine (HC.out _).mono ?_
      rintro en w1 ⟨rfl, hb1⟩
      have H1 := Lib.hid (And.intro (HW.out.1.trans (hb1.mono HW.out.1.size)) (And.intro ((hb1.block _ (lt_of_block HW.out.2.2)).trans HW.out.2.2) ((hb1.block _ (lt_of_block HW.out.2.1)).trans HW.out.2.1)))
      clear hb1 c0 c1 c2 c3 c4 c5 c6
      obtain ⟨c0, c1, c2, c3, c4, c5, c6⟩ := blk7 H1.out.2.2
      obtain ⟨z0, z1, z2, z3, z4, z5, z6⟩ := blk7 H1.out.2.1
      obtain ⟨f0, f1, f2, f3, f4, f5, f6⟩ := fro7 H1.out.2.1
      go_wp2
      refine bodyPost_ret (v := .tuple #[supV 0 0 0 0 0 0 0, .int .i64 6]) (by simp [results, Tryz.results37, go_sem, supV, z0, z1, z2, z3, z4, z5, z6]) rfl ?_
      exact HR.out _ _ ⟨by rw [HV.out.1, HV.out.2], by (repeat refine Below.setCell ?_ (by simp) _); exact H1.out.1⟩
    · have HV := Lib.hid (nx_yes h hg)
      have hgb : (g == 1152921504606846976) = false := by rw [beq_eq_false_iff_ne]; exact hg
      obtain ⟨-, n1, n2, -⟩ := sup_ok.1 h
      rw [sup_yes h] at HC
      clear h
      obtain ⟨c0, c1, c2, c3, c4, c5, c6⟩ := blk7 HW.out.2.1
      go_enter Tryz.func37, Tryz.ntmps37
      go_wp2_with fail
      refine (HC.out _).mono ?_
      rintro en w1 ⟨rfl, hb1⟩
      have H1 := Lib.hid (And.intro (HW.out.1.trans (hb1.mono HW.out.1.size)) (And.intro ((hb1.block _ (lt_of_block HW.out.2.2)).trans HW.out.2.2) ((hb1.block _ (lt_of_block HW.out.2.1)).trans HW.out.2.1)))
      clear hb1 c0 c1 c2 c3 c4 c5 c6
      obtain ⟨c0, c1, c2, c3, c4, c5, c6⟩ := blk7 H1.out.2.2
      obtain ⟨d0, -⟩ := fro7 H1.out.2.2
      obtain ⟨z0, z1, z2, z3, z4, z5, z6⟩ := blk7 H1.out.2.1
      obtain ⟨f0, f1, f2, f3, f4, f5, f6⟩ := fro7 H1.out.2.1
      go_wp2
      refine bodyPost_ret (v := .tuple #[supV (g + 1) t e c b l f, .int .i64 0]) (by simp [results, Tryz.results37, go_sem, supV, z0, z1, z2, z3, z4, z5, z6]) rfl ?_
      exact HR.out _ _ ⟨by rw [HV.out.1, HV.out.2], by (repeat refine Below.setCell ?_ (by simp) _); exact H1.out.1⟩
end Go.Proofs.YteppfjgglelpbaaGreat
/- The digest's small functions: a number turned, three of them, a number of four bytes; the reference's turn. -/
namespace Ks
open Go Go.RowKit
theorem num_or (a b c d : Nat) (ha : a < 256) (hb : b < 256) (hc : c < 256) (hd : d < 256) :
    bits .or .u32 (bits .or .u32 (bits .or .u32 ((a : Int) % 4294967296 * 16777216 % 4294967296) ((b : Int) % 4294967296 * 65536 % 4294967296)) ((c : Int) % 4294967296 * 256 % 4294967296)) ((d : Int) % 4294967296)
      = ((((a * 256 + b) * 256 + c) * 256 + d : Nat) : Int) := by
  have e1 : ((a : Int) % 4294967296 * 16777216 % 4294967296) = (a : Int) * 16777216 := by omega
  have e2 : ((b : Int) % 4294967296 * 65536 % 4294967296) = (b : Int) * 65536 := by omega
  have e3 : ((c : Int) % 4294967296 * 256 % 4294967296) = (c : Int) * 256 := by omega
  have e4 : ((d : Int) % 4294967296) = (d : Int) := by omega
  have p32 : (2 : Int) ^ 32 = 4294967296 := by decide
  have p24 : (2 : Int) ^ 24 = 16777216 := by decide
  have p16 : (2 : Int) ^ 16 = 65536 := by decide
  have p8 : (2 : Int) ^ 8 = 256 := by decide
  have j1 := bits_join .u32 32 (by decide) wraps_u32 24 ((a : Int) * 16777216) ((b : Int) * 65536) (by omega) (by rw [p24]; omega) (by rw [p32]; omega) (by omega) (by rw [p24]; omega) (by rw [p32]; omega)
  have j2 := bits_join .u32 32 (by decide) wraps_u32 16 ((a : Int) * 16777216 + (b : Int) * 65536) ((c : Int) * 256) (by omega) (by rw [p16]; omega) (by rw [p32]; omega) (by omega) (by rw [p16]; omega) (by rw [p32]; omega)
  have j3 := bits_join .u32 32 (by decide) wraps_u32 8 ((a : Int) * 16777216 + (b : Int) * 65536 + (c : Int) * 256) (d : Int) (by omega) (by rw [p8]; omega) (by rw [p32]; omega) (by omega) (by rw [p8]; omega) (by rw [p32]; omega)
  rw [e1, e2, e3, e4, j1, j2, j3]
  omega
theorem num_bytes (s : ByteArray) (h : 4 ≤ s.size) : getN (s.data.toList.take 4) = (((s[0]).toNat * 256 + (s[1]).toNat) * 256 + (s[2]).toNat) * 256 + (s[3]).toNat := by
  rw [take_snoc s 3 (by omega), getN_snoc, take_snoc s 2 (by omega), getN_snoc, take_snoc s 1 (by omega), getN_snoc, take_snoc s 0 (by omega), getN_snoc]
  simp [getN]
end Ks
namespace Go.Proofs.YteppfjgglelpbaaGreat
open Go.RowKit Ks
set_option linter.unusedVariables false

set_option maxHeartbeats 1000000 in
theorem rot_any (x n : Nat) (w : World) (hx : x < 4294967296) (h1 : 1 ≤ n) (h2 : n ≤ 31) :
    Calls Tryz.prog 130 #[.int .u32 x, .int .i64 (-(n : Int))] w fun e w' => e = .returned (.int .u32 (rotr x n : Nat)) ∧ w' = w := by
  refine calls_by fun R HR => ?_
  have hw : IntKind.u64.wrap (-(n : Int)) = 18446744073709551616 - n := by simp [IntKind.wrap, IntKind.bits, IntKind.signed]; omega
  have hb : bits .and .u64 (18446744073709551616 - (n : Int)) 31 = 32 - n := by
    have e := bits_mask .u64 64 (by decide) (fun m h0 h1 => by rw [show (2 : Int) ^ 64 = 18446744073709551616 from by decide] at h1; simp [IntKind.wrap, IntKind.bits, IntKind.signed]; omega) 5 (by decide) (18446744073709551616 - (n : Int)) (by omega) (by rw [show (2 : Int) ^ 64 = 18446744073709551616 from by decide]; omega)
    rw [show (2 : Int) ^ 5 - 1 = 31 from by decide, show (2 : Int) ^ 5 = 32 from by decide] at e
    rw [e]; omega
  have h0 : (0 : Int) ≤ 32 - n := by omega
  go_enter Tryz.func130, Tryz.ntmps130
  go_wp2
  refine HR.out _ _ ⟨?_, rfl⟩
  show Ending.returned (Value.int .u32 (bits .or .u32 ((x : Int) * 2 ^ (32 - n) % 4294967296) ((x : Int) / 2 ^ (32 - (32 - n))))) = _
  rw [← rot_parts x n hx, ← or_u32 _ _ (Nat.mod_lt _ (by decide)) (shr_lt hx n), show 32 - (32 - n) = n by omega, Nat.shiftLeft_eq, Nat.shiftRight_eq_div_pow]
  simp only [Int.natCast_emod, Int.natCast_mul, Int.natCast_pow, Int.natCast_ediv]
  rfl

set_option maxHeartbeats 1000000 in
theorem number_any (s : ByteArray) (w : World) (h : 4 ≤ s.size) :
    Calls Tryz.prog 129 #[.string s] w fun e w' => e = .returned (.int .u32 (getN (s.data.toList.take 4) : Nat)) ∧ Below w.heap.size w w' := by
  refine calls_by fun R HR => ?_
  have k0 : 0 < s.size := by omega
  have k1 : (1 : Int) < (s.size : Int) := by omega
  have k2 : (2 : Int) < (s.size : Int) := by omega
  have k3 : (3 : Int) < (s.size : Int) := by omega
  go_enter Tryz.func129, Tryz.ntmps129
  go_wp2_with fail
  go_quiet (fail)
  go_wp2
  refine HR.out _ _ ⟨?_, below_drewN (Below.refl _ _) _⟩
  rw [num_bytes s h, ← num_or _ _ _ _ (s[0]).toNat_lt (s[1]).toNat_lt (s[2]).toNat_lt (s[3]).toNat_lt]
  rfl

set_option maxHeartbeats 1000000 in
theorem three_shift (x a b c : Nat) (w : World) (hx : x < 4294967296) (ha : 1 ≤ a ∧ a ≤ 31) (hb : 1 ≤ b ∧ b ≤ 31) (hc : 1 ≤ c ∧ c ≤ 31) :
    Calls Tryz.prog 122 #[.int .u32 x, .int .i64 a, .int .i64 b, .int .i64 c, .bool true] w fun e w' => e = .returned (.int .u32 (sigS x a b c : Nat)) ∧ w' = w := by
  refine calls_by fun R HR => ?_
  obtain ⟨a1, a2⟩ := ha
  obtain ⟨b1, b2⟩ := hb
  obtain ⟨c1, c2⟩ := hc
  go_enter Tryz.func122, Tryz.ntmps122
  go_wp2_with fail
  refine (rot_any x c _ hx c1 c2).mono ?_
  rintro e w1 ⟨rfl, rfl⟩
  go_wp2_with fail
  refine (rot_any x a _ hx a1 a2).mono ?_
  rintro e w1 ⟨rfl, rfl⟩
  go_wp2_with fail
  refine (rot_any x b _ hx b1 b2).mono ?_
  rintro e w1 ⟨rfl, rfl⟩
  go_wp2_with fail
  refine HR.out _ _ ⟨?_, rfl⟩
  rw [sigS, ← xor_u32 _ _ (xor32 (rotr_lt _ _) (rotr_lt _ _)) (shr_lt hx c), ← xor_u32 _ _ (rotr_lt _ _) (rotr_lt _ _), Nat.shiftRight_eq_div_pow]
  simp only [Int.natCast_pow, Int.natCast_ediv]
  rfl
set_option maxHeartbeats 1000000 in
theorem three_turn (x a b c : Nat) (w : World) (hx : x < 4294967296) (ha : 1 ≤ a ∧ a ≤ 31) (hb : 1 ≤ b ∧ b ≤ 31) (hc : 1 ≤ c ∧ c ≤ 31) :
    Calls Tryz.prog 122 #[.int .u32 x, .int .i64 a, .int .i64 b, .int .i64 c, .bool false] w fun e w' => e = .returned (.int .u32 (sigR x a b c : Nat)) ∧ w' = w := by
  refine calls_by fun R HR => ?_
  obtain ⟨a1, a2⟩ := ha
  obtain ⟨b1, b2⟩ := hb
  obtain ⟨c1, c2⟩ := hc
  go_enter Tryz.func122, Tryz.ntmps122
  go_wp2_with fail
  refine (rot_any x c _ hx c1 c2).mono ?_
  rintro e w1 ⟨rfl, rfl⟩
  go_wp2_with fail
  refine (rot_any x a _ hx a1 a2).mono ?_
  rintro e w1 ⟨rfl, rfl⟩
  go_wp2_with fail
  refine (rot_any x b _ hx b1 b2).mono ?_
  rintro e w1 ⟨rfl, rfl⟩
  go_wp2_with fail
  refine HR.out _ _ ⟨?_, rfl⟩
  rw [sigR, ← xor_u32 _ _ (xor32 (rotr_lt _ _) (rotr_lt _ _)) (rotr_lt _ _), ← xor_u32 _ _ (rotr_lt _ _) (rotr_lt _ _)]
  rfl
end Go.Proofs.YteppfjgglelpbaaGreat
/- A state's bytes: the program's text. -/
namespace Ks
open Go Go.RowKit
def u8s (l : List UInt8) : Array Value := (l.map fun b => Value.int .u8 (b.toNat : Int)).toArray
@[simp] theorem u8s_size (l : List UInt8) : (u8s l).size = l.length := by simp [u8s]
theorem u8s_set (l : List UInt8) (i : Nat) (b : UInt8) : (u8s l).setIfInBounds i (.int .u8 (b.toNat : Int)) = u8s (l.set i b) := by simp [u8s, List.map_set]
theorem set4 {α : Type} (A : List α) (z : α) (m n : Nat) (b0 b1 b2 b3 : α) (hA : A.length = n) :
    ((((A ++ List.replicate (m + 4) z).set n b0).set (n + 1) b1).set (n + 2) b2).set (n + 3) b3 = (A ++ [b0, b1, b2, b3]) ++ List.replicate m z := by
  subst hA
  simp [List.replicate_succ, List.set_append_right]
theorem putL4 (n : Nat) : putL 4 n = [UInt8.ofNat (n / 16777216), UInt8.ofNat (n / 65536), UInt8.ofNat (n / 256), UInt8.ofNat n] := by
  simp [putL, Nat.div_div_eq_div_mul]
def textTo (s : St) (k : Nat) : List UInt8 := (s.list.take k).flatMap (putL 4)
theorem run_index_agg {P : Program} {t e : TypeId} {n : Nat} {C : Array Value} {k : Nat} {v : Value} {ik : IntKind} (ht : P.underlying t = some (.array n e)) (he : P.underlying e = some (.int ik)) (hs : (P.info? e).map (·.size) = some 1)
    (hk : k < n) (hv : C[k]? = some v) (w : World) : (Instr.index t (.agg C) (.int .i64 (k : Int))).run P w = .ok v w := by
  have hz : (Go.sizeOf e).run P w = .ok 1 w := by
    cases hq : P.info? e with
    | none => simp [hq] at hs
    | some i =>
      simp [hq] at hs
      simp [Go.sizeOf, typeInfo, hq, hs]
  have hp : (part e C k).run P w = .ok v w := by simp [part, isAgg, run_underlying he, hv]
  have h1 : (0 : Int) ≤ (k : Int) ∧ (k : Int) < (n : Int) := by omega
  unfold Instr.index
  simp [run_underlying ht, asIntOf, h1, hz, hp, hk]
theorem textTo_length (s : St) (k : Nat) (hk : k ≤ 8) : (textTo s k).length = 4 * k := by
  have : ∀ l : List Nat, (l.flatMap (putL 4)).length = 4 * l.length := by
    intro l
    induction l with
    | nil => rfl
    | cons x l ih => simp only [List.flatMap_cons, List.length_append, ih, List.length_cons, putL4, List.length_nil]; omega
  rw [textTo, this, List.length_take]
  show 4 * min k 8 = _
  omega
theorem textTo_pad (s : St) (k : Nat) (hk : k ≤ 8) : (textTo s k ++ List.replicate (32 - 4 * k) (0 : UInt8)).length = 32 := by
  rw [List.length_append, textTo_length s k hk, List.length_replicate]; omega
theorem st_lt {s : St} (hs : s.ok) (k : Nat) : s.list.getD k 0 < 4294967296 := by
  obtain ⟨h1, h2, h3, h4, h5, h6, h7, h8⟩ := hs
  refine getD_lt ?_ k
  intro x hx
  simp only [St.list, List.mem_cons, List.not_mem_nil, or_false] at hx
  rcases hx with rfl | rfl | rfl | rfl | rfl | rfl | rfl | rfl <;> assumption
theorem textTo_succ (s : St) (k : Nat) (hk : k < 8) : textTo s (k + 1) = textTo s k ++ putL 4 (s.list.getD k 0) := by
  have h : k < s.list.length := hk
  rw [textTo, textTo, List.take_add_one, List.getElem?_eq_getElem h, List.flatMap_append, List.getD_eq_getElem?_getD, List.getElem?_eq_getElem h]
  simp
theorem text_step (s : St) (k : Nat) (hk : k < 8) :
    (((((textTo s k ++ List.replicate (32 - 4 * k) 0).set (4 * k) (UInt8.ofNat (s.list.getD k 0 / 16777216))).set (4 * k + 1) (UInt8.ofNat (s.list.getD k 0 / 65536))).set (4 * k + 2) (UInt8.ofNat (s.list.getD k 0 / 256))).set (4 * k + 3) (UInt8.ofNat (s.list.getD k 0))
      = textTo s (k + 1) ++ List.replicate (32 - 4 * (k + 1)) (0 : UInt8)) := by
  rw [show 32 - 4 * k = 32 - 4 * (k + 1) + 4 by omega, set4 _ _ _ _ _ _ _ _ (textTo_length s k (by omega)), textTo_succ s k hk, putL4]
theorem byteV (n : Nat) : (UInt8.ofNat n).toNat = n % 256 := by simp
theorem conv_u8s {P : Program} {src dst e : TypeId} {cap : Nat} (w : World) (t : TypeId) (l : List UInt8) (hs : P.underlying src = some (.slice e)) (he : P.underlying e = some (.int .u8)) (hd : P.underlying dst = some .string) :
    (convert src dst (.slice (some ⟨w.heap.size, 0, none⟩) l.length cap)).run P (w.alloc (.cells (u8s l) t)) = .ok (.string ⟨l.toArray⟩) (w.alloc (.cells (u8s l) t)) := by
  refine run_convert_bytes_back _ src dst e _ cap l hs he hd (fun j hj => ?_)
  have hadd : (⟨w.heap.size, 0, none⟩ : Addr).add j = ⟨w.heap.size, j, none⟩ := by unfold Addr.add; split <;> simp_all
  rw [hadd, cell_of_row _ _ j (u8s l) t (0, 0) (alloc_new _ _)]
  simp [u8s, hj]
theorem textTo_all (s : St) : textTo s 8 = textL s := by
  simp [textTo, St.list, textL]
end Ks
namespace Go.Proofs.YteppfjgglelpbaaGreat
open Go.RowKit Ks
set_option linter.unusedVariables false

set_option maxRecDepth 20000 in
set_option maxHeartbeats 1000000 in
theorem text_any (s : St) (w : World) (hs : s.ok) : Calls Tryz.prog 111 #[.agg (u32s s.list)] w fun e w' => e = .returned (.string ⟨(textL s).toArray⟩) ∧ Below w.heap.size w w' := by
  refine calls_by fun R HR => ?_
  obtain ⟨C, hC⟩ : ∃ C, u32s s.list = C := ⟨_, rfl⟩
  rw [hC]
  go_enter Tryz.func111, Tryz.ntmps111
  go_wp2_with (refine wpList_loadA rfl 145 _ rfl _ 145 _ C 8 8 rfl (blk_keep (alloc_new _ _) _) Tryz.underlying145 (by kernel_rfl) (by rw [← hC]; rfl) ?_)
  go_loopw [7] (fun i wx => ∃ k L, k ≤ 8 ∧ i = .int .i64 (k : Nat) ∧ wx = (w.alloc (.cells C 145)).alloc (.cells (u8s L) 162) ∧ Hid (L = textTo s k ++ List.replicate (32 - 4 * k) 0)) (fun i _ => 8 - (intOf i).toNat)
  case atStart => exact ⟨0, List.replicate 32 0, by omega, rfl, rfl, Lib.hid rfl⟩
  case round =>
    obtain ⟨k, L, hk, rfl, rfl, hL⟩ := hrel
    have hlen : L.length = 32 := by rw [hL.out]; exact textTo_pad s k hk
    by_cases hlt : k < 8
    · obtain ⟨n, hn⟩ : ∃ n, s.list.getD k 0 = n := ⟨_, rfl⟩
      have hn1 : n < 4294967296 := by rw [← hn]; exact st_lt hs k
      have hCk : C[k]? = some (.int .u32 (n : Int)) := by rw [← hC, ← hn]; exact u32s_get _ _ hlt
      have hn' := Lib.hid hn
      have hix := fun w => run_index_agg (P := Tryz.prog) Tryz.underlying145 Tryz.underlying137 (by kernel_rfl) hlt hCk w
      obtain ⟨D, hD⟩ : ∃ D, u8s L = D := ⟨_, rfl⟩
      have hDs : D.size = 32 := by rw [← hD, u8s_size, hlen]
      have hD' := Lib.hid hD
      rw [hD]
      have HC := Lib.hid hC
      have HS := Lib.hid hs
      obtain ⟨z0, hz0⟩ : ∃ z, D[4 * k]? = some z := ⟨_, Array.getElem?_eq_getElem (by omega)⟩
      obtain ⟨z1, hz1⟩ : ∃ z, D[4 * k + 1]? = some z := ⟨_, Array.getElem?_eq_getElem (by omega)⟩
      obtain ⟨z2, hz2⟩ : ∃ z, D[4 * k + 2]? = some z := ⟨_, Array.getElem?_eq_getElem (by omega)⟩
      obtain ⟨z3, hz3⟩ : ∃ z, D[4 * k + 3]? = some z := ⟨_, Array.getElem?_eq_getElem (by omega)⟩
      clear hD hn hC hs hlen hCk
      go_wp2
      go_round
      case rel =>
        refine ⟨k + 1, textTo s (k + 1) ++ List.replicate (32 - 4 * (k + 1)) 0, by omega, by go_num, ?_, Lib.hid rfl⟩
        rw [← text_step s k hlt, hn'.out, ← hL.out, ← u8s_set, ← u8s_set, ← u8s_set, ← u8s_set, hD'.out, byteV (n / 16777216), byteV (n / 65536), byteV (n / 256), byteV n, Nat.mod_eq_of_lt (show n / 16777216 < 256 by omega)]
        rfl
      case measure => simp [intOf]; omega
    · obtain rfl : k = 8 := by omega
      clear hC hs hk hlt
      have hconv := conv_u8s (P := Tryz.prog) (src := 118) (dst := 9) (cap := 32) (w.alloc (.cells C 145)) 162 L Tryz.underlying118 Tryz.underlying5 Tryz.underlying9
      simp only [World.size_alloc] at hconv
      rw [hlen] at hconv
      go_wp2
      refine HR.out _ _ ⟨?_, ((alloc_below w _).alloc (by simp) _)⟩
      rw [← textTo_all, hL.out]
      simp
end Go.Proofs.YteppfjgglelpbaaGreat
/- A block's numbers: the program's words. -/
namespace Ks
open Go Go.RowKit
theorem wpad_length (B : List UInt8) (k : Nat) (hk : k ≤ 64) : (wordsN B k ++ List.replicate (64 - k) 0).length = 64 := by
  rw [List.length_append, wordsN_length, List.length_replicate]; omega
theorem wpad_set (B : List UInt8) (k x : Nat) (hk : k < 64) (hx : (if k < 16 then num4 B k else wNext (wordsN B k)) = x) :
    (wordsN B k ++ List.replicate (64 - k) 0).set k x = wordsN B (k + 1) ++ List.replicate (64 - (k + 1)) 0 := by
  have h1 := List.set_append_right (s := wordsN B k) (t := 0 :: List.replicate (64 - (k + 1)) 0) k x (by rw [wordsN_length]; omega)
  rw [show 64 - k = 64 - (k + 1) + 1 by omega, List.replicate_succ, h1, wordsN_length, Nat.sub_self, wordsN, hx]
  simp
theorem wpad_get (B : List UInt8) (k j : Nat) (hj : j < k) : (wordsN B k ++ List.replicate (64 - k) 0).getD j 0 = (wordsN B k).getD j 0 := by
  rw [List.getD_eq_getElem?_getD, List.getD_eq_getElem?_getD, List.getElem?_append_left (by rw [wordsN_length]; omega)]
theorem wpad_lt (B : List UInt8) (k : Nat) : ∀ x ∈ wordsN B k ++ List.replicate (64 - k) 0, x < 4294967296 := by
  intro x hx
  rcases List.mem_append.1 hx with hx | hx
  · exact wordsN_lt B k x hx
  · rw [List.eq_of_mem_replicate hx]; decide
theorem num4_extract (s : ByteArray) (k : Nat) (h : s.size = 64) : getN ((s.extract (4 * k) 64).data.toList.take 4) = num4 s.data.toList k := by
  have hl : s.data.toList.length = 64 := by rw [data_length, h]
  rw [num4]
  congr 2
  rw [ByteArray.data_extract, Array.toList_extract, List.extract_eq_take_drop]
  rw [List.take_of_length_le]
  rw [List.length_drop]; omega
theorem wrap_u32_mod (n : Int) : IntKind.u32.wrap n = n % 4294967296 := by simp [IntKind.wrap, IntKind.bits, IntKind.signed]
/-- an array of numbers in a block -/
structure Nums (w : World) (b : Nat) (t : TypeId) (L : List Nat) : Prop where
  blk : w.heap[b]? = some (.cells (u32s L) t (0, 0))
theorem Nums.cell {w : World} {b : Nat} {t : TypeId} {L : List Nat} (h : Nums w b t L) (j : Nat) (hj : j < L.length) : w.cell? ⟨b, j, none⟩ = some (.int .u32 ((L.getD j 0 : Nat) : Int)) := by
  rw [cell_of_row w b j _ _ _ h.blk, u32s_get L j hj]
theorem Nums.frozen {w : World} {b : Nat} {t : TypeId} {L : List Nat} (h : Nums w b t L) (j : Nat) : w.frozen? ⟨b, j, none⟩ = false := frozen_of_row w b j _ _ h.blk
theorem Nums.lt {w : World} {b : Nat} {t : TypeId} {L : List Nat} (h : Nums w b t L) : b < w.heap.size := lt_of_block h.blk
theorem Nums.keep {w w' : World} {b : Nat} {t : TypeId} {L : List Nat} (h : Nums w b t L) (hb : Below w.heap.size w w') : Nums w' b t L := ⟨(hb.block b h.lt).trans h.blk⟩
theorem Nums.set {w : World} {b : Nat} {t : TypeId} {L : List Nat} (h : Nums w b t L) (j x : Nat) : Nums (w.setCell ⟨b, j, none⟩ (.int .u32 (x : Int))) b t (L.set j x) :=
  ⟨by rw [setCell_eq_setRow w b j _ _ _ _ h.blk, setRow_heap w b _ _ _ _ h.blk, u32s_set]⟩
theorem Nums.other {w : World} {b c : Nat} {t : TypeId} {L : List Nat} (h : Nums w b t L) (j : Nat) (v : Value) (hc : b ≠ c) : Nums (w.setCell ⟨c, j, none⟩ v) b t L := ⟨(set_ne v hc).trans h.blk⟩
end Ks
namespace Go.Proofs.YteppfjgglelpbaaGreat
open Go.RowKit Ks
set_option linter.unusedVariables false

set_option maxRecDepth 20000 in
set_option maxHeartbeats 4000000 in
theorem words_any (s : ByteArray) (w : World) (h : s.size = 64) : Calls Tryz.prog 120 #[.string s] w fun e w' => e = .returned (.agg (u32s (wordsN s.data.toList 64))) ∧ Below w.heap.size w w' := by
  refine calls_by fun R HR => ?_
  go_enter Tryz.func120, Tryz.ntmps120
  go_wp2_with fail
  obtain ⟨W, hW⟩ : ∃ W, (w.alloc (.cells (u32s (List.replicate 64 0)) 158)).alloc (.cells (u32s (List.replicate 64 0)) 158) = W := ⟨_, rfl⟩
  have k2 : Nums W w.heap.size 158 (List.replicate 64 0) := ⟨by rw [← hW]; exact blk_keep (alloc_new _ _) _⟩
  have k3 : Nums W (w.heap.size + 1) 158 (List.replicate 64 0) := ⟨by rw [← hW, ← World.size_alloc (w := w) (o := .cells (u32s (List.replicate 64 0)) 158)]; exact alloc_new _ _⟩
  have kb : Below w.heap.size w W := by rw [← hW]; exact (alloc_below w _).alloc (by simp) _
  change Code.wp _ _ _ _ ((w.alloc (.cells (u32s (List.replicate 64 0)) 158)).alloc (.cells (u32s (List.replicate 64 0)) 158))
  rw [hW]
  have hk2 := Lib.hid k2
  have hk3 := Lib.hid k3
  have hkb := Lib.hid kb
  clear hW k2 k3 kb
  go_loopw [5] (fun i wx => ∃ k L, k ≤ 64 ∧ i = .int .i64 (k : Nat) ∧ Hid (L = wordsN s.data.toList k ++ List.replicate (64 - k) 0) ∧ Hid (Nums wx (w.heap.size + 1) 158 L ∧ Nums wx w.heap.size 158 (List.replicate 64 0) ∧ Below w.heap.size w wx)) (fun i _ => 64 - (intOf i).toNat)
  case atStart => exact ⟨0, _, by omega, rfl, Lib.hid rfl, Lib.hid ⟨hk3.out, hk2.out, hkb.out⟩⟩
  case round =>
    obtain ⟨k, L, hk, rfl, hL, hN⟩ := hrel
    have hlen : L.length = 64 := by rw [hL.out]; exact wpad_length _ k hk
    by_cases hlt : k < 64
    · by_cases h16 : k < 16
      · have hx := Lib.hid (wpad_set s.data.toList k (num4 s.data.toList k) hlt (if_pos h16))
        go_wp2_with fail
        refine (number_any (s.extract (4 * k) 64) _ (by rw [ByteArray.size_extract]; omega)).mono ?_
        rintro e w1 ⟨rfl, hb⟩
        rw [num4_extract s k h]
        obtain ⟨n3, n2, nb⟩ := hN.out
        have n3' := n3.keep hb
        have n2' := n2.keep hb
        have c1 := n3'.cell k (by omega)
        have f1 := n3'.frozen k
        have hM := Lib.hid (And.intro n3' (And.intro n2' (nb.trans (hb.mono nb.size))))
        clear n3 n2 nb n3' n2' hb hN
        go_wp2
        go_round
        case rel =>
          refine ⟨k + 1, _, by omega, by go_num, Lib.hid rfl, Lib.hid ⟨?_, hM.out.2.1.other _ _ (by omega), hM.out.2.2.setCell (by simp) _⟩⟩
          rw [← hx.out, ← hL.out]
          exact hM.out.1.set _ _
        case measure => simp [intOf]; omega
      · have hx := Lib.hid (wpad_set s.data.toList k (wNext (wordsN s.data.toList k)) hlt (if_neg h16))
        go_wp2_with fail
        obtain ⟨n3, n2, nb⟩ := hN.out
        obtain ⟨y16, h16'⟩ : ∃ y, L.getD (k - 16) 0 = y := ⟨_, rfl⟩
        obtain ⟨y15, h15'⟩ : ∃ y, L.getD (k - 15) 0 = y := ⟨_, rfl⟩
        obtain ⟨y7, h7'⟩ : ∃ y, L.getD (k - 7) 0 = y := ⟨_, rfl⟩
        obtain ⟨y2, h2'⟩ : ∃ y, L.getD (k - 2) 0 = y := ⟨_, rfl⟩
        have c16 := n3.cell (k - 16) (by omega)
        have c15 := n3.cell (k - 15) (by omega)
        have c7 := n3.cell (k - 7) (by omega)
        have c2 := n3.cell (k - 2) (by omega)
        rw [h16'] at c16
        rw [h15'] at c15
        rw [h7'] at c7
        rw [h2'] at c2
        have hl : ∀ j, L.getD j 0 < 4294967296 := fun j => by rw [hL.out]; exact getD_lt (wpad_lt s.data.toList k) j
        have l15 : y15 < 4294967296 := by rw [← h15']; exact hl _
        have l2 : y2 < 4294967296 := by rw [← h2']; exact hl _
        have hV : Hid ((y16 + sigS y15 7 18 3 + y7 + sigS y2 17 19 10) % 4294967296 = wNext (wordsN s.data.toList k)) := Lib.hid (by
          rw [wNext, wordsN_length, ← wpad_get _ k (k - 16) (by omega), ← wpad_get _ k (k - 15) (by omega), ← wpad_get _ k (k - 7) (by omega), ← wpad_get _ k (k - 2) (by omega), ← hL.out, h16', h15', h7', h2'])
        have n3f := n3.frozen k
        have n3c := n3.cell k (by omega)
        clear h16' h15' h7' h2' hl n2 nb n3
        obtain ⟨j16, r16⟩ : ∃ j, k - 16 = j := ⟨_, rfl⟩
        obtain ⟨j15, r15⟩ : ∃ j, k - 15 = j := ⟨_, rfl⟩
        obtain ⟨j7, r7⟩ : ∃ j, k - 7 = j := ⟨_, rfl⟩
        obtain ⟨j2, r2⟩ : ∃ j, k - 2 = j := ⟨_, rfl⟩
        rw [r16] at c16
        rw [r15] at c15
        rw [r7] at c7
        rw [r2] at c2
        have w16 : IntKind.i64.wrap ((k : Int) - 16) = (j16 : Int) := by rw [IntKind.wrap_i64]; omega
        have w15 : IntKind.i64.wrap ((k : Int) - 15) = (j15 : Int) := by rw [IntKind.wrap_i64]; omega
        have w7 : IntKind.i64.wrap ((k : Int) - 7) = (j7 : Int) := by rw [IntKind.wrap_i64]; omega
        have w2 : IntKind.i64.wrap ((k : Int) - 2) = (j2 : Int) := by rw [IntKind.wrap_i64]; omega
        have b16 : (j16 : Int) < 64 := by omega
        have b15 : (j15 : Int) < 64 := by omega
        have b7 : (j7 : Int) < 64 := by omega
        have b2 : (j2 : Int) < 64 := by omega
        clear r16 r15 r7 r2
        have t15 : ∀ w : World, Calls Tryz.prog 122 #[.int .u32 y15, .int .i64 7, .int .i64 18, .int .i64 3, .bool true] w fun e w' => e = .returned (.int .u32 (sigS y15 7 18 3 : Nat)) ∧ w' = w :=
          fun w => three_shift y15 7 18 3 w l15 (by decide) (by decide) (by decide)
        have t2 : ∀ w : World, Calls Tryz.prog 122 #[.int .u32 y2, .int .i64 17, .int .i64 19, .int .i64 10, .bool true] w fun e w' => e = .returned (.int .u32 (sigS y2 17 19 10 : Nat)) ∧ w' = w :=
          fun w => three_shift y2 17 19 10 w l2 (by decide) (by decide) (by decide)
        obtain ⟨A, hA⟩ : ∃ A, sigS y15 7 18 3 = A := ⟨_, rfl⟩
        obtain ⟨E, hE⟩ : ∃ E, sigS y2 17 19 10 = E := ⟨_, rfl⟩
        rw [hA] at t15 hV
        rw [hE] at t2 hV
        have T15 := Lib.hid t15
        have T2 := Lib.hid t2
        clear hA hE t15 t2 l15 l2
        refine wp_region_still_tail 22 (by kernel_rfl) (by kernel_rfl) ?_
        simp only [List.take_succ_cons, List.take_zero, List.drop_succ_cons, List.drop_zero]
        repeat still_step
        still_call (T15.out _)
        repeat still_step
        still_call (T2.out _)
        repeat still_step
        refine wpStill_nil ?_
        change wpList _ _ _ _ _ wr.drew
        obtain ⟨V, hVV⟩ : ∃ V, wNext (wordsN s.data.toList k) = V := ⟨_, rfl⟩
        have hw : IntKind.u32.wrap (IntKind.u32.wrap (IntKind.u32.wrap ((y16 : Int) + A) + y7) + E) = (V : Int) := by
          have := hV.out
          simp only [wrap_u32_mod]
          omega
        rw [hw]
        have hbd := drew_below wr
        have hM := Lib.hid (And.intro (hN.out.1.keep hbd) (And.intro (hN.out.2.1.keep hbd) (hN.out.2.2.trans (hbd.mono hN.out.2.2.size))))
        rw [hVV] at hx
        clear hVV hw hV hbd hN c16 c15 c7 c2 w16 w15 w7 w2 b16 b15 b7 b2 n3c n3f
        generalize wr.drew = w1 at *
        have c1 := hM.out.1.cell k (by omega)
        have f1 := hM.out.1.frozen k
        go_wp2
        go_round
        case rel =>
          refine ⟨k + 1, _, by omega, by go_num, Lib.hid rfl, Lib.hid ⟨?_, hM.out.2.1.other _ _ (by omega), hM.out.2.2.setCell (by simp) _⟩⟩
          rw [← hx.out, ← hL.out]
          exact hM.out.1.set _ _
        case measure => simp [intOf]; omega
    · obtain rfl : k = 64 := by omega
      obtain ⟨n3, n2, nb⟩ := hN.out
      have e1 := Lib.hid n3.blk
      have e2 := Lib.hid n2.blk
      have e3 := Lib.hid nb
      have e4 := Lib.hid (show (u32s L).size = 64 by rw [u32s_size, hlen])
      have e5 := Lib.hid (show L = wordsN s.data.toList 64 by rw [hL.out]; simp)
      clear n3 n2 nb hN hL hlen
      go_wp2_with (first
        | refine wpList_loadA rfl 158 _ rfl _ 158 _ _ 64 64 rfl e1.out Tryz.underlying158 (by kernel_rfl) e4.out ?_
        | refine wpList_storeA rfl 158 _ _ rfl _ 158 _ _ 64 rfl rfl e2.out (by kernel_rfl) e4.out (by simp) (u32s_one _) ?_)
      exact ret_arr (N := 64) (C := u32s L) Tryz.results120 rfl (setRow_heap _ _ _ _ _ _ e2.out) Tryz.underlying158 (by kernel_rfl) e4.out rfl (HR.out _ _ ⟨by rw [e5.out], below_setRow e3.out (Nat.le_refl _) _⟩)
end Go.Proofs.YteppfjgglelpbaaGreat
/- The digest's constants: the first state, the rounds' numbers; the reference's. -/
namespace Go.Proofs.YteppfjgglelpbaaGreat
open Go.RowKit Ks
set_option linter.unusedVariables false

set_option maxHeartbeats 1000000 in
theorem first_any (w : World) : Calls Tryz.prog 106 #[] w fun e w' => e = .returned (.agg (u32s st0.list)) ∧ Below w.heap.size w w' := by
  refine calls_by fun R HR => ?_
  go_enter Tryz.func106, Tryz.ntmps106
  go_wp2_with fail
  exact ret_arr (N := 8) (C := u32s st0.list) Tryz.results106 rfl (alloc_new _ _) Tryz.underlying145 (by kernel_rfl) rfl rfl (HR.out _ _ ⟨rfl, alloc_below _ _⟩)
set_option maxHeartbeats 4000000 in
set_option maxRecDepth 100000 in
theorem constants_any (w : World) : Calls Tryz.prog 121 #[] w fun e w' => e = .returned (.agg (u32s kays)) ∧ Below w.heap.size w w' := by
  refine calls_by fun R HR => ?_
  go_enter Tryz.func121, Tryz.ntmps121
  go_wp2_with (refine wpList_storeN rfl 158 _ _ rfl 158 _ (u32s kays) 64 rfl rfl (by kernel_rfl) rfl rfl (u32s_one _) ?_)
  exact ret_arr (N := 64) (C := u32s kays) Tryz.results121 rfl (alloc_new _ _) Tryz.underlying158 (by kernel_rfl) rfl rfl (HR.out _ _ ⟨rfl, alloc_below _ _⟩)
end Go.Proofs.YteppfjgglelpbaaGreat
