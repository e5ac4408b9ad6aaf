/- An act of a row of letters, by the law's own text. -/
import Derived.Test.YtpdnjhofmngfdaaNetMay
import Derived.Test.YtpdnjhofmngfdaaNetTake
import Derived.Test.YtpdnjhofmngfdaaSeq
namespace Ks
open Go Go.RowKit
set_option linter.unusedVariables false

def letE : Enc Let := ⟨2, letC, fun _ => rfl, fun x u hu => by simp only [letC, List.mem_cons, List.not_mem_nil, or_false] at hu; rcases hu with rfl | rfl <;> rfl, by decide⟩
theorem rd_of {w : World} {v : Value} {l : List Let} (h : RdL w v l) : Rd letE w v l := by
  obtain ⟨a, cap, rfl, hc, hn, hh⟩ := h
  refine ⟨a, cap, rfl, hc, hn, fun i x hx => ?_⟩
  obtain ⟨b, o, rfl, hb, h1, h2⟩ := hh i x hx
  refine ⟨b, o, rfl, hb, fun j u hu => ?_⟩
  match j, hu with
  | 0, hu => cases hu; exact h1
  | 1, hu => cases hu; exact h2
theorem rdL_of {w : World} {v : Value} {l : List Let} (h : Rd letE w v l) : RdL w v l := by
  obtain ⟨a, cap, rfl, hc, hn, hh⟩ := h
  refine ⟨a, cap, rfl, hc, hn, fun i x hx => ?_⟩
  obtain ⟨b, o, rfl, hb, h1⟩ := hh i x hx
  exact ⟨b, o, rfl, hb, h1 0 _ rfl, h1 1 _ rfl⟩

def letD (L : List Let) (n : Int) : Let := L.getD n.toNat (0, ⟨#[]⟩)
def playE (k n : Int) (L l : List Let) : Int := if k = 1 then sendE L l else if n < 0 ∨ (L.length : Int) ≤ n then 7 else if k = 4 then (if 64 ≤ L.length then 5 else 0) else 0
def playL (k n : Int) (L l : List Let) : List Let := if playE k n L l = 0 then (if k = 1 then L ++ l else if k = 4 then L ++ [letD L n] else L.take n.toNat ++ L.drop (n.toNat + 1)) else L
def playX (k n : Int) (L l : List Let) : Let := if playE k n L l = 0 ∧ k ≠ 1 ∧ k ≠ 4 then letD L n else (0, ⟨#[]⟩)

theorem pfacts {w : World} {b : Nat} {c0 c1 c2 d0 d1 : Value} {T U : TypeId} {fr : Nat × Nat} (h : w.heap[b]? = some (.cells #[c0, c1, c2] T fr)) (h2 : w.heap[b + 1]? = some (.cells #[d0, d1] U (0, 0))) :
    w.cell? ⟨b, 0, none⟩ = some c0 ∧ w.cell? ⟨b, 1, none⟩ = some c1 ∧ w.cell? ⟨b, 2, none⟩ = some c2 ∧ w.cell? ⟨b + 1, 0, none⟩ = some d0 ∧ w.cell? ⟨b + 1, 1, none⟩ = some d1 ∧ w.frozen? ⟨b + 1, 0, none⟩ = false ∧ w.frozen? ⟨b + 1, 1, none⟩ = false :=
  ⟨by rw [cell_of_row w b 0 _ _ _ h]; rfl, by rw [cell_of_row w b 1 _ _ _ h]; rfl, by rw [cell_of_row w b 2 _ _ _ h]; rfl, by rw [cell_of_row w _ 0 _ _ _ h2]; rfl, by rw [cell_of_row w _ 1 _ _ _ h2]; rfl, frozen_of_row w _ 0 _ _ h2, frozen_of_row w _ 1 _ _ h2⟩
/-- a reading is kept by stores elsewhere -/
theorem Rd.set {α : Type} {E : Enc α} {w : World} {v : Value} {l : List α} (h : Rd E w v l) {m o : Nat} (u : Value) (hm : v.ownBlock ≠ some m) : Rd E (w.setCell ⟨m, o, none⟩ u) v l :=
  h.keep (by simp) fun b e => heap_set_ne u fun e2 => hm (by rw [e, e2])

end Ks
namespace Go.Proofs.Ytpdnjhofmngfdaa
open Go.RowKit Ks
set_option linter.unusedVariables false

theorem letT : ElemT Try.prog 29 24 letE.k 24 := elemT_of Try.underlying29 Try.infoLetter rfl

set_option maxHeartbeats 4000000 in
theorem play_any (kk n : Int) (rv lv : Value) (L l : List Let) (w : World) (hr : Rd letE w rv L) (hl : Rd letE w lv l) (hL : L.length ≤ 64) (hlen : l.length ≤ 80) :
    Calls Try.prog 13 #[rv, .agg #[.int .i64 kk, .int .i64 n, lv]] w fun e w' => ∃ v', e = .returned (.tuple #[v', .agg #[.int .i64 (playX kk n L l).1, .string (playX kk n L l).2], .int .i64 (playE kk n L l)]) ∧ Rd letE w' v' (playL kk n L l) ∧ ((v' = rv ∧ playL kk n L l = L) ∨ ∀ b, v'.ownBlock = some b → w.heap.size ≤ b) ∧ Below w.heap.size w w' := by
  refine calls_by fun R HR => ?_
  have HL := Lib.hid hl
  have HR1 := Lib.hid hr
  obtain ⟨a, cap, hrv, hcap, -⟩ := hr.shape
  obtain ⟨al, capl, hlv, hcapl, -⟩ := hl.shape
  subst hrv hlv
  clear hr hl
  obtain ⟨W3, hW3⟩ : ∃ W3, (((w.alloc (.cells #[.int .i64 kk, .int .i64 n, .slice al l.length capl] 31)).alloc (.cells #[.int .i64 0, .string ⟨#[]⟩] 24)).alloc (.cells #[] 24)) = W3 := ⟨_, rfl⟩
  have hA1 : Below w.heap.size w (w.alloc (.cells #[.int .i64 kk, .int .i64 n, .slice al l.length capl] 31)) := (Below.refl _ _).alloc (Nat.le_refl _) _
  have hA2 := hA1.alloc hA1.size (.cells #[.int .i64 0, .string ⟨#[]⟩] 24)
  have hA3 := hA2.alloc hA2.size (.cells #[] 24)
  have hO0 : Row letE W3 0 24 (.slice (some ⟨w.heap.size + 1 + 1, 0, none⟩) 0 0) [] := by
    have := Row.made (E := letE) ((w.alloc (.cells #[.int .i64 kk, .int .i64 n, .slice al l.length capl] 31)).alloc (.cells #[.int .i64 0, .string ⟨#[]⟩] 24)) 0 24 (Nat.zero_le _)
    rw [hW3] at this
    simpa using this
  have bA : W3.heap[w.heap.size]? = some (.cells #[.int .i64 kk, .int .i64 n, .slice al l.length capl] 31 (0, 0)) := by rw [← hW3, Below.heap_alloc _ _ _ (by simp; omega), Below.heap_alloc _ _ _ (by simp)]; exact heap_alloc_new w _
  have bX : W3.heap[w.heap.size + 1]? = some (.cells #[.int .i64 0, .string ⟨#[]⟩] 24 (0, 0)) := by
    rw [← hW3, Below.heap_alloc _ _ _ (by simp)]
    have := heap_alloc_new (w.alloc (.cells #[.int .i64 kk, .int .i64 n, .slice al l.length capl] 31)) (.cells #[.int .i64 0, .string ⟨#[]⟩] 24)
    rw [show (w.alloc (.cells #[.int .i64 kk, .int .i64 n, .slice al l.length capl] 31)).heap.size = w.heap.size + 1 by simp] at this
    exact this
  have hz3 : W3.heap.size = w.heap.size + 3 := by rw [← hW3]; simp
  have hB3 : Below w.heap.size w W3 := by rw [← hW3]; exact hA3
  have HR3 := Lib.hid (HR1.out.below hB3)
  have HF := Lib.hid (And.intro bA (And.intro bX (And.intro hz3 hB3)))
  have HO := Lib.hid hO0
  clear hA1 hA2 hA3 bA bX hz3 hB3 hO0
  go_enter Try.func13, Try.ntmps13
  go_wp2_with (at_builtin; refine wpList_append_row _ rfl _ _ 29 rfl letT 0 _ _ [] L rfl rfl HO.out HR3.out (Nat.zero_le _) (by simp; omega) (by decide) ?_)
  intro v1 w4 hG
  have hzz : w.heap.size + 3 ≤ w4.heap.size := by have := hG.2.1.size; have := HF.out.2.2.1; omega
  have kA := hG.block HF.out.1 (by simp [Value.ownBlock]; omega)
  have kX := hG.block HF.out.2.1 (by simp [Value.ownBlock])
  have hB4 : Below w.heap.size w w4 := hG.below HF.out.2.2.2 (by have := HF.out.2.2.1; omega) (fun j hj => by simp [Value.ownBlock] at hj; omega)
  have hlow : ∀ b, v1.ownBlock = some b → w.heap.size + 2 ≤ b := hG.low (by have := HF.out.2.2.1; omega) (fun j hj => by simp [Value.ownBlock] at hj; omega)
  have hown := hG.1
  have HL4 := Lib.hid (HL.out.below hB4)
  have HR4 := Lib.hid (HR1.out.below hB4)
  have HO4 := Lib.hid hown
  have HW := Lib.hid (And.intro hlow (And.intro hB4 (And.intro kA kX)))
  obtain ⟨c0, c1, c2, x0, x1, f0, f1⟩ := pfacts kA kX
  obtain ⟨a1, cap1, hv1, hcap1, -⟩ := hown.shape
  clear hG hown kA kX hlow hB4 HR3 HO hW3 HF
  subst hv1
  by_cases h1 : kk = 1
  · subst h1
    go_wp2_with fail
    refine (may_any _ l _ (rdL_of HL4.out) (by omega)).mono ?_
    rintro e w5 ⟨rfl, hb5⟩
    clear c0 c1 c2 x0 x1 f0 f1
    have kA := (hb5.block _ (lt_of_block HW.out.2.2.1)).trans HW.out.2.2.1
    have kX := (hb5.block _ (lt_of_block HW.out.2.2.2)).trans HW.out.2.2.2
    have hB5 := HW.out.2.1.trans (hb5.mono HW.out.2.1.size)
    have HB5 := Lib.hid (And.intro hB5 (And.intro kX (Nat.le_trans hzz hb5.size)))
    have HO5 := Lib.hid (HO4.out.below hb5)
    have HR5 := Lib.hid (HR1.out.below hB5)
    have HL5 := Lib.hid (HL.out.below hB5)
    obtain ⟨c0, c1, c2, x0, x1, f0, f1⟩ := pfacts kA kX
    clear hb5 kA kX hB5
    by_cases hbad : l.any badL = true
    · rw [hbad]
      have q : playE 1 n L l = 2 := by rw [playE, if_pos rfl, sendE, if_pos hbad]
      have Q := Lib.hid (And.intro q (And.intro (show playX 1 n L l = (0, ⟨#[]⟩) by rw [playX, if_neg (by simp)]) (show playL 1 n L l = L by rw [playL, q, if_neg (by decide)])))
      clear hbad q
      go_wp2
      refine bodyPost_ret (v := .tuple #[.slice a L.length cap, .agg #[.int .i64 0, .string ⟨#[]⟩], .int .i64 2]) (by simp [results, Try.results13, go_sem, x0, x1]) rfl ?_
      exact HR.out _ _ ⟨_, by rw [Q.out.1, Q.out.2.1], by rw [Q.out.2.2]; exact HR1.out.below ((HB5.out.1.setCell (by simp) _).setCell (by simp) _), Or.inl ⟨rfl, Q.out.2.2⟩, (HB5.out.1.setCell (by simp) _).setCell (by simp) _⟩
    · have hbad2 : l.any badL = false := by simpa using hbad
      rw [hbad2]
      clear hbad2
      by_cases hfull : 64 < L.length + l.length
      · have q : playE 1 n L l = 5 := by rw [playE, if_pos rfl, sendE, if_neg hbad, if_pos hfull]
        have Q := Lib.hid (And.intro q (And.intro (show playX 1 n L l = (0, ⟨#[]⟩) by rw [playX, if_neg (by simp)]) (show playL 1 n L l = L by rw [playL, q, if_neg (by decide)])))
        clear hbad q
        go_wp2
        refine bodyPost_ret (v := .tuple #[.slice a L.length cap, .agg #[.int .i64 0, .string ⟨#[]⟩], .int .i64 5]) (by simp [results, Try.results13, go_sem, x0, x1]) rfl ?_
        exact HR.out _ _ ⟨_, by rw [Q.out.1, Q.out.2.1], by rw [Q.out.2.2]; exact HR1.out.below ((HB5.out.1.setCell (by simp) _).setCell (by simp) _), Or.inl ⟨rfl, Q.out.2.2⟩, (HB5.out.1.setCell (by simp) _).setCell (by simp) _⟩
      · have q : playE 1 n L l = 0 := by rw [playE, if_pos rfl, sendE, if_neg hbad, if_neg hfull]
        have Q := Lib.hid (And.intro q (And.intro (show playX 1 n L l = (0, ⟨#[]⟩) by rw [playX, if_neg (by simp)]) (show playL 1 n L l = L ++ l by rw [playL, q, if_pos rfl, if_pos rfl])))
        clear hbad q
        go_wp2_with (at_builtin; refine wpList_append_row _ rfl _ _ 29 rfl letT 0 _ _ L l rfl rfl HO5.out HL5.out (Nat.zero_le _) (by omega) (by decide) ?_)
        intro v2 w6 hG
        have hne : (Value.slice a1 L.length cap1).ownBlock ≠ some (w.heap.size + 1) := fun e => by have := HW.out.1 _ e; omega
        have kX := hG.block HB5.out.2.1 hne
        have hB6 : Below w.heap.size w w6 := hG.below HB5.out.1 (by have := HB5.out.2.2; omega) (fun b e => by have := HW.out.1 _ e; omega)
        have hlow2 := hG.low (B0 := w.heap.size + 2) (by have := HB5.out.2.2; omega) HW.out.1
        have HO6 := Lib.hid hG.1
        have HB6 := Lib.hid (And.intro hB6 hlow2)
        obtain ⟨a2, cap2, hv2, -⟩ := hG.1.shape
        subst hv2
        clear hG c0 c1 c2 x0 x1 f0 f1 hB6 hlow2 hne
        have x0 : w6.cell? ⟨w.heap.size + 1, 0, none⟩ = some (.int .i64 0) := by rw [cell_of_row w6 _ 0 _ _ _ kX]; rfl
        have x1 : w6.cell? ⟨w.heap.size + 1, 1, none⟩ = some (.string ⟨#[]⟩) := by rw [cell_of_row w6 _ 1 _ _ _ kX]; rfl
        have f0 := frozen_of_row w6 (w.heap.size + 1) 0 _ _ kX
        have f1 := frozen_of_row w6 (w.heap.size + 1) 1 _ _ kX
        clear kX
        go_wp2
        refine bodyPost_ret (v := .tuple #[.slice a2 (L ++ l).length cap2, .agg #[.int .i64 0, .string ⟨#[]⟩], .int .i64 0]) (by simp [results, Try.results13, go_sem, x0, x1]) rfl ?_
        refine HR.out _ _ ⟨_, by rw [Q.out.1, Q.out.2.1], ?_, Or.inr fun b e => by have := HB6.out.2 b e; omega, (HB6.out.1.setCell (by simp) _).setCell (by simp) _⟩
        rw [Q.out.2.2]
        exact (HO6.out.rd.set _ (fun e => by have := HB6.out.2 _ e; omega)).set _ (fun e => by have := HB6.out.2 _ e; omega)
  · have hk : (kk == 1) = false := by simpa using h1
    by_cases hn : n < 0 ∨ (L.length : Int) ≤ n
    · have q : playE kk n L l = 7 := by rw [playE, if_neg h1, if_pos hn]
      have Q := Lib.hid (And.intro q (And.intro (show playX kk n L l = (0, ⟨#[]⟩) by rw [playX, q, if_neg (by simp)]) (show playL kk n L l = L by rw [playL, q, if_neg (by decide)])))
      clear q
      by_cases hn0 : n < 0
      · clear hn
        go_wp2
        refine bodyPost_ret (v := .tuple #[.slice a L.length cap, .agg #[.int .i64 0, .string ⟨#[]⟩], .int .i64 7]) (by simp [results, Try.results13, go_sem, x0, x1]) rfl ?_
        exact HR.out _ _ ⟨_, by rw [Q.out.1, Q.out.2.1], by rw [Q.out.2.2]; exact HR1.out.below ((HW.out.2.1.setCell (by simp) _).setCell (by simp) _), Or.inl ⟨rfl, Q.out.2.2⟩, (HW.out.2.1.setCell (by simp) _).setCell (by simp) _⟩
      · have hn1 : (L.length : Int) ≤ n := by omega
        clear hn
        go_wp2
        refine bodyPost_ret (v := .tuple #[.slice a L.length cap, .agg #[.int .i64 0, .string ⟨#[]⟩], .int .i64 7]) (by simp [results, Try.results13, go_sem, x0, x1]) rfl ?_
        exact HR.out _ _ ⟨_, by rw [Q.out.1, Q.out.2.1], by rw [Q.out.2.2]; exact HR1.out.below ((HW.out.2.1.setCell (by simp) _).setCell (by simp) _), Or.inl ⟨rfl, Q.out.2.2⟩, (HW.out.2.1.setCell (by simp) _).setCell (by simp) _⟩
    · obtain ⟨k, rfl⟩ : ∃ k : Nat, n = k := ⟨n.toNat, by omega⟩
      have hkl : k < L.length := by omega
      have hklI : (k : Int) < (L.length : Int) := by omega
      obtain ⟨x, hx⟩ : ∃ x, L[k]? = some x := ⟨_, List.getElem?_eq_getElem hkl⟩
      have hd : letD L k = x := by simp [letD, List.getD, hx]
      obtain ⟨b, o, ha, hb, dd⟩ := HR4.out.at k x hx
      subst ha
      have d0 : w4.cell? ⟨b, o + k * 2, none⟩ = some (.int .i64 x.1) := dd 0 _ rfl
      have d1 : w4.cell? ⟨b, o + k * 2 + 1, none⟩ = some (.string x.2) := dd 1 _ rfl
      obtain ⟨xt, xs⟩ := x
      simp only at d0 d1
      obtain ⟨W5, hW5⟩ : ∃ W5, w4.alloc (.cells #[.int .i64 xt, .string xs] 24) = W5 := ⟨_, rfl⟩
      have hA : Below w4.heap.size w4 W5 := by rw [← hW5]; exact (Below.refl _ _).alloc (Nat.le_refl _) _
      have bY : W5.heap[w4.heap.size]? = some (.cells #[.int .i64 xt, .string xs] 24 (0, 0)) := by rw [← hW5]; exact heap_alloc_new w4 _
      have kA := (hA.block _ (lt_of_block HW.out.2.2.1)).trans HW.out.2.2.1
      have kX := (hA.block _ (lt_of_block HW.out.2.2.2)).trans HW.out.2.2.2
      have hB5 := HW.out.2.1.trans (hA.mono HW.out.2.1.size)
      have hz5 : W5.heap.size = w4.heap.size + 1 := by rw [← hW5]; simp
      have HO5 := Lib.hid (HO4.out.below hA)
      have HR5 := Lib.hid (HR1.out.below hB5)
      have HB5 := Lib.hid (And.intro hB5 (And.intro kX (And.intro bY (And.intro hz5 hA))))
      have c1' := c1
      have c0' := c0
      clear c0 c1 c2 x0 x1 f0 f1
      obtain ⟨c0, c1, c2, x0, x1, f0, f1⟩ := pfacts kA kX
      have y0 : W5.cell? ⟨w4.heap.size, 0, none⟩ = some (.int .i64 xt) := by rw [cell_of_row W5 _ 0 _ _ _ bY]; rfl
      have y1 : W5.cell? ⟨w4.heap.size, 1, none⟩ = some (.string xs) := by rw [cell_of_row W5 _ 1 _ _ _ bY]; rfl
      clear kA kX hB5 hz5 bY hA
      by_cases h4 : kk = 4
      · subst h4
        by_cases hf : 64 ≤ L.length
        · have q : playE 4 k L l = 5 := by rw [playE, if_neg h1, if_neg hn, if_pos rfl, if_pos hf]
          have Q := Lib.hid (And.intro q (And.intro (show playX 4 k L l = (0, ⟨#[]⟩) by rw [playX, q, if_neg (by simp)]) (show playL 4 k L l = L by rw [playL, q, if_neg (by decide)])))
          clear q hn hx dd hd
          go_wp2
          refine bodyPost_ret (v := .tuple #[.slice (some ⟨b, o, none⟩) L.length cap, .agg #[.int .i64 0, .string ⟨#[]⟩], .int .i64 5]) (by simp [results, Try.results13, go_sem, x0, x1]) rfl ?_
          exact HR.out _ _ ⟨_, by rw [Q.out.1, Q.out.2.1], by rw [Q.out.2.2]; exact HR1.out.below ((HB5.out.1.setCell (by simp) _).setCell (by simp) _), Or.inl ⟨rfl, Q.out.2.2⟩, (HB5.out.1.setCell (by simp) _).setCell (by simp) _⟩
        · have q : playE 4 k L l = 0 := by rw [playE, if_neg h1, if_neg hn, if_pos rfl, if_neg hf]
          have Q := Lib.hid (And.intro q (And.intro (show playX 4 k L l = (0, ⟨#[]⟩) by rw [playX, if_neg (by simp)]) (show playL 4 k L l = L ++ [(xt, xs)] by rw [playL, q, if_pos rfl, if_neg (by decide), if_pos rfl, hd])))
          clear q hn hx dd hd
          have bZ := heap_alloc_new W5 (.cells #[.int .i64 xt, .string xs] 24)
          have hA6 : Below W5.heap.size W5 (W5.alloc (.cells #[.int .i64 xt, .string xs] 24)) := (Below.refl _ _).alloc (Nat.le_refl _) _
          have HZ := Lib.hid (And.intro bZ hA6)
          clear bZ hA6
          go_wp2_with (at_builtin; refine wpList_append_row _ rfl _ _ 29 rfl letT 0 _ _ L [(xt, xs)] rfl rfl (HO5.out.below HZ.out.2) (Rd.single (E := letE) (xt, xs) HZ.out.1 rfl) (Nat.zero_le _) (by simp; omega) (by decide) ?_)
          intro v2 w6 hG
          have hne : (Value.slice a1 L.length cap1).ownBlock ≠ some (w.heap.size + 1) := fun e => by have := HW.out.1 _ e; omega
          have hz5 := HB5.out.2.2.2.1
          have kX := hG.block ((HZ.out.2.block _ (lt_of_block HB5.out.2.1)).trans HB5.out.2.1) hne
          have hB6 : Below w.heap.size w w6 := hG.below (HB5.out.1.trans (HZ.out.2.mono HB5.out.1.size)) (by simp; omega) (fun b e => by have := HW.out.1 _ e; omega)
          have hlow2 := hG.low (B0 := w.heap.size + 2) (by simp; omega) HW.out.1
          have HO6 := Lib.hid hG.1
          have HB6 := Lib.hid (And.intro hB6 hlow2)
          obtain ⟨a2, cap2, hv2, -⟩ := hG.1.shape
          subst hv2
          clear hG c0 c1 c2 x0 x1 f0 f1 hB6 hlow2 hne hW5 hz5
          have x0 : w6.cell? ⟨w.heap.size + 1, 0, none⟩ = some (.int .i64 0) := by rw [cell_of_row w6 _ 0 _ _ _ kX]; rfl
          have x1 : w6.cell? ⟨w.heap.size + 1, 1, none⟩ = some (.string ⟨#[]⟩) := by rw [cell_of_row w6 _ 1 _ _ _ kX]; rfl
          have f0 := frozen_of_row w6 (w.heap.size + 1) 0 _ _ kX
          have f1 := frozen_of_row w6 (w.heap.size + 1) 1 _ _ kX
          clear kX
          go_wp2
          refine bodyPost_ret (v := .tuple #[.slice a2 (L ++ [(xt, xs)]).length cap2, .agg #[.int .i64 0, .string ⟨#[]⟩], .int .i64 0]) (by simp [results, Try.results13, go_sem, x0, x1]) rfl ?_
          refine HR.out _ _ ⟨_, by rw [Q.out.1, Q.out.2.1], ?_, Or.inr fun b e => by have := HB6.out.2 b e; omega, (HB6.out.1.setCell (by simp) _).setCell (by simp) _⟩
          rw [Q.out.2.2]
          exact (HO6.out.rd.set _ (fun e => by have := HB6.out.2 _ e; omega)).set _ (fun e => by have := HB6.out.2 _ e; omega)
      · have hk4 : (kk == 4) = false := by simpa using h4
        have q : playE kk k L l = 0 := by rw [playE, if_neg h1, if_neg hn, if_neg h4]
        have Q := Lib.hid (And.intro q (And.intro (show playX kk k L l = (xt, xs) by rw [playX, if_pos ⟨q, h1, h4⟩, hd]) (show playL kk k L l = L.take k ++ L.drop (k + 1) by rw [playL, q, if_pos rfl, if_neg h1, if_neg h4]; rfl)))
        clear q hn hx dd hd
        obtain ⟨g, cap2, hv, hcap2, -, hg5, hmax⟩ := HO5.out.pos (by omega)
        cases hv
        have hcapI : (L.length : Int) ≤ (cap1 : Int) := by omega
        have hkc : (k : Int) ≤ (cap1 : Int) := by omega
        have hk1 : (k : Int) + 1 ≤ (L.length : Int) := by omega
        have hk2 : (k : Int) + 1 ≤ 64 := by omega
        have hk1N : k + 1 ≤ L.length := by omega
        have hw : IntKind.i64.wrap ((k : Int) + 1) = ((k + 1 : Nat) : Int) := by rw [IntKind.wrap_i64]; omega
        have h0k : (0 : Int) ≤ (k : Int) + 1 := by omega
        have hk1' : ((k + 1 : Nat) : Int) ≤ (L.length : Int) := by omega
        obtain ⟨A, hite⟩ : ∃ A : Option Addr, (if cap1 = k + 1 then some (⟨g, 0, none⟩ : Addr) else some ⟨g, (k + 1) * 2, none⟩) = A := ⟨_, rfl⟩
        have hA1 : k + 1 < L.length → A = some ⟨g, 0 + (k + 1) * letE.k, none⟩ := fun hlt => by rw [← hite, if_neg (by omega), Nat.zero_add]; rfl
        have hA2 : A ≠ none := by rw [← hite]; split <;> simp
        have hD : Below W5.heap.size W5 W5.drew := (Below.refl _ _).drew
        have hO := Row.take (HO5.out.below hD) k (by omega)
        have hS := Rd.drop (HO5.out.below hD).rd hk1N A hA1 hA2 (cap1 - (k + 1)) (by omega)
        obtain ⟨v', w6, hrun, hG⟩ := run_append_row (P := Try.prog) (t := 29) (ty := 29) letT W5.drew 0 _ _ _ _ hO hS (Nat.zero_le _) (by rw [List.length_take, List.length_drop]; omega) (by decide)
        have hne : (Value.slice (some ⟨g, 0, none⟩) k cap1).ownBlock ≠ some (w.heap.size + 1) := fun e => by have := HW.out.1 _ e; omega
        have hne2 : (Value.slice (some ⟨g, 0, none⟩) k cap1).ownBlock ≠ some w4.heap.size := fun e => by have := HO4.out.lt e; omega
        have hz5 := HB5.out.2.2.2.1
        have kX := hG.block ((hD.block _ (lt_of_block HB5.out.2.1)).trans HB5.out.2.1) hne
        have kY := hG.block ((hD.block _ (lt_of_block HB5.out.2.2.1)).trans HB5.out.2.2.1) hne2
        have hB6 : Below w.heap.size w w6 := hG.below (HB5.out.1.trans (hD.mono HB5.out.1.size)) (by simp; omega) (fun b e => by have := HW.out.1 _ e; omega)
        have hlow2 := hG.low (B0 := w.heap.size + 2) (by simp; omega) HW.out.1
        have HO6 := Lib.hid hG.1
        have HB6 := Lib.hid (And.intro hB6 hlow2)
        have Hrun := Lib.hid hrun
        obtain ⟨a3, cap3, hv3, -⟩ := hG.1.shape
        rw [hv3] at Hrun HO6 HB6
        clear hG hB6 hlow2 hne hne2 hz5 hrun hO hS hD hA1 hA2 hv3
        have z0 : w6.cell? ⟨w.heap.size + 1, 0, none⟩ = some (.int .i64 0) := by rw [cell_of_row w6 _ 0 _ _ _ kX]; rfl
        have z1 : w6.cell? ⟨w.heap.size + 1, 1, none⟩ = some (.string ⟨#[]⟩) := by rw [cell_of_row w6 _ 1 _ _ _ kX]; rfl
        have e0 := frozen_of_row w6 (w.heap.size + 1) 0 _ _ kX
        have e1 := frozen_of_row w6 (w.heap.size + 1) 1 _ _ kX
        have u0 : w6.cell? ⟨w4.heap.size, 0, none⟩ = some (.int .i64 xt) := by rw [cell_of_row w6 _ 0 _ _ _ kY]; rfl
        have u1 : w6.cell? ⟨w4.heap.size, 1, none⟩ = some (.string xs) := by rw [cell_of_row w6 _ 1 _ _ _ kY]; rfl
        clear kX kY
        go_wp2_with fail
        go_region_law (refine step_append_of rfl (.tmp 70) (.tmp 75) 29 rfl Hrun.out (by simp [Act.eval, Act.put]) (by simp [Act.eval, Act.put]) ?_)
        all_goals first
        | (go_wp2
           refine bodyPost_ret (v := .tuple #[.slice a3 (L.take k ++ L.drop (k + 1)).length cap3, .agg #[.int .i64 xt, .string xs], .int .i64 0]) (by simp [results, Try.results13, go_sem, z0, z1]) rfl ?_
           refine HR.out _ _ ⟨_, by rw [Q.out.1, Q.out.2.1], ?_, Or.inr fun b e => by have := HB6.out.2 b e; omega, (HB6.out.1.setCell (by simp) _).setCell (by simp) _⟩
           rw [Q.out.2.2]
           exact (HO6.out.rd.set _ (fun e => by have := HB6.out.2 _ e; omega)).set _ (fun e => by have := HB6.out.2 _ e; omega))
        | (trace_state; fail)

end Go.Proofs.Ytpdnjhofmngfdaa
