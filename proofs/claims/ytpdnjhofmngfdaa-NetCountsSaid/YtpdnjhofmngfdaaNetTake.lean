/- A letter taken off. -/
import Derived.Test.YtpdnjhofmngfdaaNetSend
import Derived.Deep.RegionLaw
namespace Go.Proofs.Ytpdnjhofmngfdaa
open Go.RowKit Ks
set_option linter.unusedVariables false

theorem step_append_run {P : Program} {ops : Array Oper} {o : Oper} {a : Act} {w : World} {K : Act → World → Prop} {Q : Exit → Act → World → Prop} {E : Prop} (hg : o.guard = none) (s x : Operand) (t : TypeId)
    (hop : o.op = Op.call { callee := Callee.builtin Builtin.append, args := #[s, x], argTypes := #[t, t] }) {v lv v' : Value} {w' : World} (hrun : (Builtin.append_ #[t, t] o.type #[v, lv]).run P w = .ok v' w')
    (hs : a.eval s = v) (hx : a.eval x = lv) (hK : K (a.put o.dst v') w') : if Region.wanted o (yielded ops a.tmps) = true then Oper.wp P o a w K Q else E := by
  have hw : Region.wanted o (yielded ops a.tmps) = true := by simp [Region.wanted, hg]
  rw [if_pos hw]
  unfold Oper.wp
  simp [execOp, hop, resolve, invoke, builtin, hs, hx, hrun, Result.andThen]
  exact hK

def takeX (L : List Let) (i : Int) : Let := if atE L i = 7 then (0, ⟨#[]⟩) else L.getD i.toNat (0, ⟨#[]⟩)
def takeR (L : List Let) (i : Int) : List Let := if atE L i = 7 then L else L.take i.toNat ++ L.drop (i.toNat + 1)

set_option maxHeartbeats 1000000 in
theorem take_live (n : Nat) (v : Value) (L : List Let) (i : Int) (w : World) (h : NetAt w 45 24 n v L) :
    Calls Try.prog 12 #[.pointer (some ⟨n, 0, none⟩), .int .i64 i] w fun e w' => ∃ v', e = .returned (.tuple #[.agg #[.int .i64 (takeX L i).1, .string (takeX L i).2], .int .i64 (atE L i)]) ∧ NetAt w' 45 24 n v' (takeR L i) ∧ Turn w w' n v v' := by
  refine calls_by fun R HR => ?_
  obtain ⟨i0, hi, hz0, hz1, hz2⟩ := info_parts Try.infoLetter
  have hA : Below w.heap.size w (w.alloc (.cells #[.int .i64 0, .string ⟨#[]⟩] 24)) := (Below.refl _ _).alloc (Nat.le_refl _) _
  have HN := Lib.hid (h.keep hA)
  have hne1 : w.heap.size ≠ n := by have := h.lt; omega
  have hne2 : v.ownBlock ≠ some w.heap.size := fun e => by have := h.own.lt e; omega
  have HE := Lib.hid (And.intro hne1 hne2)
  clear h hne1 hne2
  go_enter Try.func12, Try.ntmps12
  go_wp2_with fail
  refine (at_live n v L i _ HN.out).mono ?_
  rintro e w1 ⟨rfl, hb1⟩
  have HN1 := Lib.hid (HN.out.keep hb1)
  have hbb := hA.trans (hb1.mono (by simp))
  have hz : w.heap.size < w1.heap.size := by have := hb1.size; simp at this; omega
  have blk := (hb1.block w.heap.size (by simp)).trans (heap_alloc_new w _)
  have Blk := Lib.hid blk
  have y0 := cell_of_row w1 _ 0 _ _ _ blk
  have y1 := cell_of_row w1 _ 1 _ _ _ blk
  have g0 := frozen_of_row w1 _ 0 _ _ blk
  have g1 := frozen_of_row w1 _ 1 _ _ blk
  simp only [List.getElem?_toArray, List.getElem?_cons_zero, List.getElem?_cons_succ] at y0 y1
  rw [show (if i < 0 ∨ (L.length : Int) ≤ i then (7 : Int) else 0) = atE L i from rfl]
  by_cases ha : i < 0 ∨ (L.length : Int) ≤ i
  · have q : atE L i = 7 := by rw [atE, if_pos ha]
    have Q := Lib.hid q
    have QX := Lib.hid (show takeX L i = (0, ⟨#[]⟩) by rw [takeX, if_pos q])
    have QR := Lib.hid (show takeR L i = L by rw [takeR, if_pos q])
    rw [q]
    clear q ha hb1 hA blk
    go_wp2
    refine bodyPost_ret (v := .tuple #[.agg #[.int .i64 0, .string ⟨#[]⟩], .int .i64 7]) (by simp [results, Try.results12, go_sem, y0, y1]) rfl ?_
    refine HR.out _ _ ⟨v, by rw [Q.out, QX.out], ?_, ?_⟩
    · rw [QR.out]
      exact (HN1.out.set _ HE.out.1 HE.out.2).set _ HE.out.1 HE.out.2
    · exact Turn.of_below ((hbb.setCell (Nat.le_refl _) _).setCell (Nat.le_refl _) _)
  · have q : atE L i = 0 := by rw [atE, if_neg ha]
    obtain ⟨k, hk⟩ : ∃ k : Nat, i = k := ⟨i.toNat, by omega⟩
    subst hk
    have hkl : k < L.length := by omega
    have hklI : (k : Int) < (L.length : Int) := by omega
    obtain ⟨x, hx⟩ : ∃ x, L[k]? = some x := ⟨_, List.getElem?_eq_getElem hkl⟩
    have hg : L.getD ((k : Int)).toNat (0, ⟨#[]⟩) = x := by simp [List.getD, hx]
    have Q := Lib.hid q
    have QX := Lib.hid (show takeX L k = x by rw [takeX, q, if_neg (by decide), hg])
    have QR := Lib.hid (show takeR L k = L.take k ++ L.drop (k + 1) by rw [takeR, q, if_neg (by decide)]; rfl)
    rw [q]
    obtain ⟨c0, c1, f0, f1⟩ := HN1.out.cells
    obtain ⟨b, cap, hv, hcap, hbl⟩ := own_at HN1.out.own (by omega)
    subst hv
    have HR1 := Lib.hid HN1.out.own.rd
    obtain ⟨_, _, e, _, _, hh⟩ := id HR1.out
    simp only [Value.slice.injEq] at e
    obtain ⟨rfl, _, rfl⟩ := e
    obtain ⟨b', o', e, _, d1, d2⟩ := hh k x hx
    simp only [Option.some.injEq, Addr.mk.injEq, and_true] at e
    obtain ⟨rfl, rfl⟩ := e
    rw [Nat.zero_add] at d1 d2
    have hL := HN1.out.len
    clear hh ha hg hx q blk hb1 hA
    obtain ⟨xt, xs⟩ := x
    simp only at d1 d2
    have hcapI : (L.length : Int) ≤ (cap : Int) := by omega
    have hkc : (k : Int) ≤ (cap : Int) := by omega
    have hk1 : (k : Int) + 1 ≤ (L.length : Int) := by omega
    have hk2 : (k : Int) + 1 ≤ 64 := by omega
    have hk1N : k + 1 ≤ L.length := by omega
    have hkcN : k ≤ cap := by omega
    go_wp2_with fail
    have hA2 : Below w1.heap.size w1 (w1.alloc (.cells #[.int .i64 xt, .string xs] 24)) := (Below.refl _ _).alloc (Nat.le_refl _) _
    have HN2 := Lib.hid (HN1.out.keep hA2)
    have HR2 := Lib.hid (HR1.out.below hA2)
    have blkx := heap_alloc_new w1 (.cells #[.int .i64 xt, .string xs] 24)
    have blkr := (hA2.block _ hz).trans Blk.out
    have hb2 := hbb.trans (hA2.mono hbb.size)
    have hzx : w1.heap.size < (w1.alloc (.cells #[.int .i64 xt, .string xs] 24)).heap.size := by simp
    have hbl2 := Nat.lt_trans hbl hzx
    have hzr2 := Nat.lt_trans hz hzx
    have HX := Lib.hid (And.intro (show w1.heap.size ≠ n by have := HN1.out.lt; omega) (show w1.heap.size ≠ b by omega))
    generalize w1.alloc (.cells #[.int .i64 xt, .string xs] 24) = w2 at *
    clear c0 c1 f0 f1 y0 y1 g0 g1 d1 d2 hA2
    obtain ⟨c0, c1, f0, f1⟩ := HN2.out.cells
    have hw : IntKind.i64.wrap ((k : Int) + 1) = ((k + 1 : Nat) : Int) := by rw [IntKind.wrap_i64]; omega
    have h0k : (0 : Int) ≤ (k : Int) + 1 := by omega
    have hk1' : ((k + 1 : Nat) : Int) ≤ (L.length : Int) := by omega
    have hD : Below w2.heap.size w2 w2.drew := (Below.refl _ _).drew
    obtain ⟨A, hite⟩ : ∃ A : Option Addr, (if cap = k + 1 then some (⟨b, 0, none⟩ : Addr) else some ⟨b, (k + 1) * 2, none⟩) = A := ⟨_, rfl⟩
    have hA1 : ∀ x, L[k + 1]? = some x → A = some ⟨b, (k + 1) * 2, none⟩ := fun x hx => by
      have := (List.getElem?_eq_some_iff.1 hx).1
      rw [← hite, if_neg (by omega)]
    have hA2 : A ≠ none := by rw [← hite]; split <;> simp
    have hRD := HR2.out.below hD
    have hO := own_take (T := 24) hRD hbl2 k hkl
    have hS := rd_drop hRD hk1N A hA1 hA2 (cap - (k + 1)) (by omega)
    obtain ⟨v', w3, hrun, ho, hgr, hor⟩ := run_append_net (P := Try.prog) w2.drew 29 29 24 i0 _ 24 Try.underlying29 hi hz0 hz1 hz2 rfl _ _ _ _ hO hS (by rw [List.length_take, List.length_drop]; omega) (by decide)
    have HT := Lib.hid (turned (HN2.out.keep hD) ho hgr hor (by rw [List.length_append, List.length_take, List.length_drop]; omega))
    obtain ⟨a', q', cap', hv'⟩ := own_any ho
    subst hv'
    have hb3 : w3.heap[n]? = some (.cells #[.bool true, .slice (some ⟨b, 0, none⟩) L.length cap] 45 (0, 0)) := (hgr.block n HN2.out.lt (fun e => HN2.out.ne e.symm)).trans HN2.out.blk
    have d1 : w3.cell? ⟨n, 1, none⟩ = some (.slice (some ⟨b, 0, none⟩) L.length cap) := by rw [cell_of_row w3 n 1 _ _ _ hb3]; rfl
    have e1 : w3.frozen? ⟨n, 1, none⟩ = false := frozen_of_row w3 n 1 _ _ hb3
    have BX := Lib.hid blkx
    have BR := Lib.hid blkr
    have HO := Lib.hid (And.intro hbl2 (And.intro hzx hzr2))
    have HGR := Lib.hid hgr
    have Hrun := Lib.hid hrun
    have HB := Lib.hid hb2
    clear hA1 hA2 hRD hO hS ho hgr hor hb3 blkx blkr hD hrun hb2 hbb
    go_region_law (refine step_append_run rfl (.tmp 29) (.tmp 36) 29 rfl Hrun.out (by simp [Act.eval, Act.put]) (by simp [Act.eval, Act.put]) ?_)
    all_goals first
    | (
      obtain ⟨hNT, hTT⟩ := HT.out
      have hT2 : Turn w _ n _ _ := Turn.after (HB.out.trans (((Below.refl w2.heap.size w2).drew).mono HB.out.size)) hTT
      have kx := (hTT.block _ HO.out.2.1 HX.out.1 (by simp [Value.ownBlock]; exact fun e => HX.out.2 e.symm)).trans BX.out
      have kr := (hTT.block _ HO.out.2.2 HE.out.1 HE.out.2).trans BR.out
      generalize w3.setCell ⟨n, 1, none⟩ (.slice a' q' cap') = w4 at *
      have HNT := Lib.hid hNT
      have HOW := Lib.hid hTT.own
      have HT2 := Lib.hid hT2
      have x0 : w4.cell? ⟨w1.heap.size, 0, none⟩ = some (.int .i64 xt) := by rw [cell_of_row w4 _ 0 _ _ _ kx]; rfl
      have x1 : w4.cell? ⟨w1.heap.size, 1, none⟩ = some (.string xs) := by rw [cell_of_row w4 _ 1 _ _ _ kx]; rfl
      have y0 : w4.cell? ⟨w.heap.size, 0, none⟩ = some (.int .i64 0) := by rw [cell_of_row w4 _ 0 _ _ _ kr]; rfl
      have y1 : w4.cell? ⟨w.heap.size, 1, none⟩ = some (.string ⟨#[]⟩) := by rw [cell_of_row w4 _ 1 _ _ _ kr]; rfl
      have g0 := frozen_of_row w4 w.heap.size 0 _ _ kr
      have g1 := frozen_of_row w4 w.heap.size 1 _ _ kr
      clear kx kr hNT hT2 hTT c0 c1 f0 f1 d1 e1 hite
      go_wp2
      refine bodyPost_ret (v := .tuple #[.agg #[.int .i64 xt, .string xs], .int .i64 0]) (by simp [results, Try.results12, go_sem, y0, y1]) rfl ?_
      refine HR.out _ _ ⟨_, by rw [Q.out, QX.out], ?_, (HT2.out.set (Nat.le_refl _) _).set (Nat.le_refl _) _⟩
      rw [QR.out]
      have hne5 : (Value.slice a' q' cap').ownBlock ≠ some w.heap.size := by
        rcases HOW.out with e | e
        · rw [e]; exact HE.out.2
        · intro e2
          have h1 : w2.heap.size ≤ w.heap.size := e _ e2
          have h2 := HO.out.2.2
          omega
      exact (HNT.out.set _ HE.out.1 hne5).set _ HE.out.1 hne5)
    | (trace_state; fail)

end Go.Proofs.Ytpdnjhofmngfdaa
