/- Trees of hashes: the root of leaves. -/
import Derived.Test.YtophfeapmmfppaaMerkleLevels
namespace Ks
open Go Go.RowKit
set_option linter.unusedVariables false
def rootsOf : ByteArray → List (List ByteArray) → ByteArray
  | r, [] => r
  | r, l :: ls => rootsOf (if l.length = 1 then l.headD ⟨#[]⟩ else r) ls
theorem rootsOf_snoc (r : ByteArray) (ls : List (List ByteArray)) (l : List ByteArray) : rootsOf r (ls ++ [l]) = if l.length = 1 then l.headD ⟨#[]⟩ else rootsOf r ls := by
  induction ls generalizing r with
  | nil => rfl
  | cons x ls ih => exact ih _
theorem roots_levels : ∀ (n : Nat) (l : List ByteArray) (r : ByteArray), l.length ≤ n → rootsOf r (levelsL l) = if l.length = 0 then r else rootL l := by
  intro n
  induction n with
  | zero =>
    intro l r h
    obtain rfl : l = [] := List.length_eq_zero_iff.1 (by omega)
    rw [levels_low _ (by simp)]; rfl
  | succ n ih =>
    intro l r h
    by_cases h2 : 2 ≤ l.length
    · have ha := above_length l
      rw [levels_two l h2]
      show rootsOf (if l.length = 1 then l.headD ⟨#[]⟩ else r) (levelsL (aboveL l)) = _
      rw [if_neg (by omega), ih _ _ (by omega), if_neg (by omega), if_neg (by omega), root_above l (by omega)]
    · rw [levels_low l h2]
      match l, h2 with
      | [], _ => rfl
      | [a], _ => rw [root_one]; rfl
      | a :: b :: l, h2 => simp at h2
def rootV (l : List ByteArray) : ByteArray := if wholeL l then rootL l else ⟨#[]⟩
def wholeE (l : List ByteArray) : Int := if wholeL l then 0 else 2
theorem rd_own : Own (fun (x : Lev) W => Rd strE W x.1 x.2) := by
  intro s W W' row hs hg hr
  obtain ⟨a, cap, e, hc, hn, h⟩ := hs
  refine ⟨a, cap, e, hc, hn, fun i x hx => ?_⟩
  obtain ⟨b, o, h1, h2, h3⟩ := h i x hx
  exact ⟨b, o, h1, Nat.lt_of_lt_of_le h2 hg.size, fun j u hu => cell_kept (h3 j u hu) hg hr⟩
theorem Rd.put' {α : Type} {E : Enc α} {w : World} {v : Value} {l : List α} (h : Rd E w v l) {m o : Nat} (u : Value) (hm : l ≠ [] → v.ownBlock ≠ some m) : Rd E (w.setCell ⟨m, o, none⟩ u) v l := by
  cases l with
  | nil =>
    obtain ⟨a, cap, e, hc, hn, _⟩ := h
    exact ⟨a, cap, e, hc, hn, fun i x hx => by simp at hx⟩
  | cons x l => exact h.put u (hm (by simp))
theorem Rd.low {w : World} {v : Value} {l : List ByteArray} (h : Rd strE w v l) {b : Nat} (hb : w.heap.size ≤ b) : l ≠ [] → v.ownBlock ≠ some b := by
  intro hl e
  cases l with
  | nil => exact hl rfl
  | cons x l =>
    obtain ⟨a, cap, rfl, _⟩ := h.shape
    obtain ⟨b1, o1, rfl, h1, _⟩ := h.str 0 (by simp)
    simp [Value.ownBlock] at e
    omega
end Ks
namespace Go.Proofs.Ytophfeapmmfppaa
open Go.RowKit Ks
set_option linter.unusedVariables false
attribute [local go_sem] Oper.semAt_some
theorem root_no (lv : Value) (l : List ByteArray) (w : World) (hr : Rd strE w lv l) (hl : l.length ≤ 100000000) (hw : wholeL l = false) :
    Calls Try.prog 10 #[lv] w fun e w' => e = .returned (.tuple #[.string ⟨#[]⟩, .int .i64 2]) ∧ Below w.heap.size w w' := by
  have HW := whole_any lv l w hr (by omega)
  rw [hw] at HW
  obtain ⟨a, cap, rfl, -⟩ := hr.shape
  have HW := Lib.hid HW
  clear hr hl hw
  refine (callsIn_wide (n := 5)).1 ?_
  refine callsIn_of_wp_marks Try.func10 rfl trivial ?_ rfl
  simp only [Try.ntmps10, List.size_toArray, List.length_cons, List.length_nil, Nat.reduceAdd, Nat.reduceSub, Array.replicate_succ, Array.replicate_zero, List.push_toArray, List.append_toArray, List.nil_append, List.cons_append]
  gi_wp2
  refine ⟨trivial, (callsIn_wide.2 HW.out).mono ?_⟩
  rintro e w1 ⟨rfl, hb⟩
  have HB := Lib.hid hb
  clear hb
  gi_wp2
  exact ⟨_, results_tmp2 rfl _ _ _, rfl, HB.out⟩
set_option maxRecDepth 100000 in
set_option maxHeartbeats 2000000 in
theorem root_yes (lv : Value) (l : List ByteArray) (w : World) (hr : Rd strE w lv l) (hl : l.length ≤ 100000000) (hw : wholeL l = true) :
    Calls Try.prog 10 #[lv] w fun e w' => e = .returned (.tuple #[.string (rootL l), .int .i64 0]) ∧ Below w.heap.size w w' := by
  have HW := whole_any lv l w hr (by omega)
  rw [hw] at HW
  obtain ⟨a, cap, rfl, -⟩ := hr.shape
  have HW := Lib.hid HW
  have HS := Lib.hid (And.intro hr (And.intro hl hw))
  clear hr hl hw
  refine (callsIn_wide (n := 5)).1 ?_
  refine callsIn_of_wp_marks Try.func10 rfl trivial ?_ rfl
  simp only [Try.ntmps10, List.size_toArray, List.length_cons, List.length_nil, Nat.reduceAdd, Nat.reduceSub, Array.replicate_succ, Array.replicate_zero, List.push_toArray, List.append_toArray, List.nil_append, List.cons_append]
  gi_wp2
  refine ⟨trivial, (callsIn_wide.2 HW.out).mono ?_⟩
  rintro e w1 ⟨rfl, hb⟩
  have HB := Lib.hid hb
  clear hb
  gi_wp2
  refine ⟨trivial, (callsIn_wide.2 (sum0_any w1)).mono ?_⟩
  rintro e w2 ⟨rfl, hb⟩
  have HB2 := Lib.hid (HB.out.trans (hb.mono HB.out.size))
  clear hb
  gi_wp2
  refine ⟨trivial, (callsIn_wide.2 (levels_any a l.length cap _)).mono ?_⟩
  rintro e w4 ⟨rfl, rfl⟩
  have HLZ := Lib.hid (roots_levels l.length l (shaS []) (Nat.le_refl _))
  obtain ⟨Z, hZ⟩ : ∃ Z, shaS [] = Z := ⟨_, rfl⟩
  rw [hZ] at HLZ
  have HZ := Lib.hid (show Z = rootL [] by rw [← hZ, root_nil]; rfl)
  simp only [hZ] at *
  clear hZ
  have hs := blk1 (alloc_new w2 (.cells #[.string Z] 9))
  have hb0 := blk1 (alloc_new (w2.alloc (.cells #[.string Z] 9)) (.cells #[.slice a l.length cap] 22))
  rw [World.size_alloc] at hb0
  have hB0 : Below w.heap.size w ((w2.alloc (.cells #[.string Z] 9)).alloc (.cells #[.slice a l.length cap] 22)) := (HB2.out.alloc HB2.out.size _).alloc (by have := HB2.out.size; simp; omega) _
  have HK := Lib.hid (And.intro hs (And.intro hb0 hB0))
  gi_wp2
  rw [World.size_alloc]
  refine wpIn_range_seen (α := Lev) rfl (by omega) (gf := 36) (lb := #[.pointer (some ⟨w2.heap.size + 1, 0, none⟩)]) rfl trivial (enters_of Try.func36 (by kernel_rfl) rfl)
    (levels_seen _ (w2.heap.size + 1) _ l _ (by simp) hb0.1 (HS.out.1.below hB0) HS.out.2.2 HS.out.2.1) (fun _ => rfl)
    (fun pre W => (W.cell? ⟨w2.heap.size, 0, none⟩ = some (.string (rootsOf Z (pre.map Prod.snd))) ∧ W.frozen? ⟨w2.heap.size, 0, none⟩ = false) ∧ Below w.heap.size w W)
    (fun pre x W => (((W.cell? ⟨w2.heap.size, 0, none⟩ = some (.string (rootsOf Z (pre.map Prod.snd))) ∧ W.frozen? ⟨w2.heap.size, 0, none⟩ = false) ∧ Below w.heap.size w W) ∧ levX x W) ∧ (x.2 ≠ [] → x.1.ownBlock ≠ some w2.heap.size))
    (OwnFrom.and (Own.from (fun s A B row hs hg hr => ⟨cell_kept hs.1 hg hr, (frozen_kept hs.1 hg hr).trans hs.2⟩) _) (ownFrom_below (Nat.le_refl _) (by have := HB2.out.size; simp; omega)))
    (OwnFrom.and (OwnFrom.and (OwnFrom.and (Own.from (fun s A B row hs hg hr => ⟨cell_kept hs.1 hg hr, (frozen_kept hs.1 hg hr).trans hs.2⟩) _) (ownFrom_below (Nat.le_refl _) (by have := HB2.out.size; simp; omega))) (fun s A B row hs hg hr => rd_own s.2 A B row hs hg (fun r e => (hr r e).2))) (fun s A B row hs hg hr => hs))
    (Own.from rd_own _)
    ?hIB ?hIM ?h0
    (fun x => { tmps := #[.slice a l.length cap, undef, .string ⟨#[]⟩, .int .i64 0, .pointer (some ⟨w2.heap.size, 0, none⟩), x.1, .slice a l.length cap, .bool true, .bool false, .string Z, .slice a l.length cap, .func (.func 36) #[] #[.pointer (some ⟨w2.heap.size + 1, 0, none⟩)], x.1, undef, undef, undef, undef, undef, undef, undef], defers := [] }) ?assign ?body ?done
  case hIB =>
    intro pre A B hi hA hb
    simp only [World.size_alloc] at hA
    exact ⟨⟨(hb.cell (p := ⟨w2.heap.size, 0, none⟩) (by simp; omega)).trans hi.1.1, (hb.frozen (p := ⟨w2.heap.size, 0, none⟩) (by simp; omega)).trans hi.1.2⟩, hi.2.trans (hb.mono hi.2.size)⟩
  case hIM =>
    intro pre x A B hi hA hb hn
    simp only [World.size_alloc] at hA
    refine ⟨⟨⟨⟨(hb.cell (p := ⟨w2.heap.size, 0, none⟩) (by simp; omega)).trans hi.1.1, (hb.frozen (p := ⟨w2.heap.size, 0, none⟩) (by simp; omega)).trans hi.1.2⟩, hi.2.trans (hb.mono hi.2.size)⟩, hn.1.rd⟩, fun _ e => ?_⟩
    have := (hn.1.lt e).1
    omega
  case h0 =>
    intro A hb
    refine ⟨⟨⟨⟨(hb.cell (p := ⟨w2.heap.size, 0, none⟩) (by simp; omega)).trans (((alloc_below _ _).cell (p := ⟨w2.heap.size, 0, none⟩) (by simp)).trans HK.out.1.1), (hb.frozen (p := ⟨w2.heap.size, 0, none⟩) (by simp; omega)).trans (((alloc_below _ _).frozen (p := ⟨w2.heap.size, 0, none⟩) (by simp)).trans HK.out.1.2)⟩, HK.out.2.2.trans (hb.mono HK.out.2.2.size)⟩, HS.out.1.below (HK.out.2.2.trans (hb.mono HK.out.2.2.size))⟩, HS.out.1.low HB2.out.size⟩
  case assign =>
    intro lp x W K hK
    gi_wp2
    exact hK
  case body =>
    rintro lp pre ⟨v, L⟩ W hsz ⟨⟨⟨⟨hc, hf⟩, hb⟩, hx⟩, hne⟩
    change Rd strE W v L at hx
    obtain ⟨a', c', rfl, -⟩ := hx.shape
    have HX := Lib.hid (And.intro hx (And.intro hb hne))
    have HR := Lib.hid (rootsOf_snoc Z (pre.map Prod.snd) L)
    have HC := Lib.hid (And.intro hc hf)
    clear hb hne
    by_cases h1 : L.length = 1
    · have hlb : ((L.length : Int) == 1) = true := by rw [h1]; rfl
      obtain ⟨b, o, rfl, hb, c0⟩ := hx.str 0 (by omega)
      rw [Nat.add_zero] at c0
      have hli : (0 : Int) < (L.length : Int) := by omega
      have HL := Lib.hid (show L.headD ⟨#[]⟩ = L[0] by match L, h1 with | [y], _ => rfl)
      have HL1 := Lib.hid h1
      generalize L[0] = y at *
      clear hx hb h1
      gi_wp2
      refine ⟨(KeepsOthers.setCell _ _ _).from _, ⟨⟨?_, ?_⟩, ?_⟩, ?_⟩
      · rw [List.map_append, show [((.slice (some ⟨b, o, none⟩) L.length c', L) : Lev)].map Prod.snd = [L] from rfl, HR.out, if_pos HL1.out, HL.out]
        exact World.cell?_setCell_same' _ _ _ (by rw [HC.out.1]; rfl)
      · rw [World.frozen?_setCell]; exact HC.out.2
      · exact HX.out.2.1.setCell (p := ⟨w2.heap.size, 0, none⟩) HB2.out.size _
      · exact Rd.put' HX.out.1 _ HX.out.2.2
    · have hlb : ((L.length : Int) == 1) = false := by rw [beq_eq_false_iff_ne]; omega
      have HL1 := Lib.hid h1
      clear hx h1
      gi_wp2
      refine ⟨KeepsFrom.refl _ _, ⟨⟨?_, HC.out.2⟩, HX.out.2.1⟩, HX.out.1⟩
      rw [List.map_append, show [((.slice a' L.length c', L) : Lev)].map Prod.snd = [L] from rfl, HR.out, if_neg HL1.out]
      exact HC.out.1
  case done =>
    rintro D xs W hD hS ⟨⟨hc, hf⟩, hb⟩ hK
    rw [hS, HLZ.out] at hc
    have hroot : (if l.length = 0 then Z else rootL l) = rootL l := by
      split
      · rename_i h
        rw [HZ.out, List.length_eq_zero_iff.1 h]
      · rfl
    rw [hroot] at hc
    gi_wp2
    refine ⟨by simp, .inl ⟨_, _, rfl, run_takeDeferred hK, ?_⟩⟩
    exact ⟨_, results_tmp2 rfl _ _ _, rfl, hb.trans (belowK_b (w := w) (Nat.le_refl _) W D _ _ (by simp at hD; have := HB2.out.size; omega) hK rfl rfl)⟩
theorem root_any (lv : Value) (l : List ByteArray) (w : World) (hr : Rd strE w lv l) (hl : l.length ≤ 100000000) :
    Calls Try.prog 10 #[lv] w fun e w' => e = .returned (.tuple #[.string (rootV l), .int .i64 (wholeE l)]) ∧ Below w.heap.size w w' := by
  unfold rootV wholeE
  cases h : wholeL l
  · exact root_no lv l w hr hl h
  · exact root_yes lv l w hr hl h
end Go.Proofs.Ytophfeapmmfppaa
