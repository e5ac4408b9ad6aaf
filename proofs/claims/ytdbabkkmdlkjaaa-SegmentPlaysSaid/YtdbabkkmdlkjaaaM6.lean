/- Texts that the claim rests on, part 6: Builder, OctetPack, RangeSeen, RangeMoved, MerkleLevels, MerkleRoot, Block, ProofData, SegActs, StepCall. -/
import Derived.Test.YtdbabkkmdlkjaaaShelf
import Derived.Lib.Builder
import Derived.Lib.AppendStr
import Derived.Lib.UnsafeStr
import Derived.RangeFuncNested
import Derived.RangeFuncBound
import Derived.RangeFuncCalls
import Derived.RangeFuncLeaves
import Derived.OrdersIn
import Derived.Shelf.RegionOpen
import Derived.OwnWalkIn
import Derived.TacticsInMore
import Derived.LoopNIn
import Derived.LoopIn
import Derived.WalkMore
import Derived.Carry
import Derived.Test.YtdbabkkmdlkjaaaM5
/- strings.Builder at this program: copyCheck and WriteString (the shelf's own contracts of these two do not fit the newer loader's text), and what a builder in other worlds is. -/
namespace Go.Proofs.Ytdbabkkmdlkjaaa
open Go.RowKit Ks
set_option linter.unusedVariables false

theorem Try.sizeBuilder : (Try.prog.info? 99).map (·.size) = some 2 := by kernel_rfl
theorem Try.liesBuilder : liesAt Try.prog Try.prog.depth 99 (2 / Try.prog.cellsOf 99) 0 99 1 = true := by kernel_rfl
theorem Try.infoByte' : (Try.prog.info? 5).map (fun i => (i.zero, i.size, i.bytes)) = some (some (.int .u8 0), 1, 1) := by kernel_rfl

set_option maxHeartbeats 1000000 in
set_option maxRecDepth 100000 in
theorem builder_check (B b : Nat) (bs : List Value) (w : World) (h : Lib.IsBuilder 99 5 B b bs w) :
    Calls Try.prog 67 #[.pointer (some ⟨b, 0, none⟩)] w fun e w' => e = .returned (.tuple #[]) ∧ (Lib.BuilderAt 99 5 B b (.pointer (some ⟨b, 0, none⟩)) bs w' ∧ Below B w w') := by
  obtain ⟨j, hj, hjs⟩ := Option.map_eq_some_iff.1 Try.sizeBuilder
  rcases h with h | h
  · have h0 := h.cell0
    have hsh := h.shape
    have hfz := h.frozen0
    have H := Lib.hid h
    clear h
    go_enter Try.func67, Try.ntmps67
    go_wp2
    rw [Lib.run_to_unsafe w ⟨b, 0, none⟩ Try.underlying96 Try.underlying131 hj (by rw [hjs]; decide) hsh (Nat.zero_lt_succ 1)]
    simp only [Result.andThen]
    rw [Oper.upon_value]
    go_wp2
    rw [run_callFunc_extern Try.func80 (by kernel_rfl) (by kernel_rfl) (by kernel_rfl) (e := Extern.AbiNoEscape.same) (by kernel_rfl)]
    rw [Lib.run_noEscape]
    simp only [Result.andThen]
    rw [Oper.upon_value]
    go_wp2
    rw [Lib.run_from_unsafe w ⟨b, 0, none⟩ Try.underlying131 Try.underlying96 hj hsh Try.liesBuilder]
    simp only [Result.andThen]
    rw [Oper.upon_value]
    go_wp2
    go_end0
    exact ⟨rfl, H.out.used _, (Below.refl B w).setCell (p := ⟨b, 0, none⟩) H.out.1 _⟩
  · have h0 := h.cell0
    have H := Lib.hid h
    clear h
    go_enter Try.func67, Try.ntmps67
    go_wp2
    rw [Lib.run_neq_ptr_same w _ Try.underlying96 hj]
    go_wp2
    go_end0
    exact ⟨rfl, H.out, Below.refl B _⟩

set_option maxHeartbeats 1000000 in
set_option maxRecDepth 100000 in
theorem builder_write (B b : Nat) (bs : List Value) (s : ByteArray) (w : World) (h : Lib.IsBuilder 99 5 B b bs w) (hlen : bs.length + s.size ≤ 140737488355328) (hBw : B ≤ w.heap.size) :
    Calls Try.prog 51 #[.pointer (some ⟨b, 0, none⟩), .string s] w fun e w' => e = .returned (.tuple #[.int .i64 s.size, .nilIface]) ∧ (Lib.BuilderAt 99 5 B b (.pointer (some ⟨b, 0, none⟩)) (bs ++ Lib.strCells s) w' ∧ Below B w w') := by
  obtain ⟨i0, hi, hz0, hz1, hz2⟩ := info_parts Try.infoByte'
  go_enter Try.func51, Try.ntmps51
  go_wp2_with (go_at_call 67; refine (builder_check B b bs _ h).mono ?_)
  rintro e w1 ⟨rfl, h1, hb1⟩
  obtain ⟨hB, v, hbk, hown, hne⟩ := h1
  have c0 : w1.cell? ⟨b, 0, none⟩ = some (.pointer (some ⟨b, 0, none⟩)) := by rw [Lib.cell_of_heap hbk]; rfl
  have c1 : w1.cell? ⟨b, 1, none⟩ = some v := by rw [Lib.cell_of_heap hbk]; rfl
  go_wp2_with (at_builtin; refine Lib.wpList_append_own_string _ rfl _ _ 97 9 rfl B 5 i0 Try.underlying97 Try.underlying9 hi hz0 hz1 hz2 _ _ _ rfl hown s rfl ?c3 ?c4 ?c5 ?_)
  case c3 => unfold maxLen; omega
  case c4 => omega
  case c5 => have := hb1.size; omega
  intro v' w2 hown' hgrow _
  have hlt : b < w1.heap.size := by
    rcases Nat.lt_or_ge b w1.heap.size with h' | h'
    · exact h'
    · simp [Array.getElem?_eq_none h'] at hbk
  have hb2 : w2.heap[b]? = some (.cells #[.pointer (some ⟨b, 0, none⟩), v] 99 (0, 0)) := by
    rw [hgrow.block b hlt (fun e => hne e.symm)]
    exact hbk
  have d0 : w2.cell? ⟨b, 0, none⟩ = some (.pointer (some ⟨b, 0, none⟩)) := by rw [Lib.cell_of_heap hb2]; rfl
  have d1 : w2.cell? ⟨b, 1, none⟩ = some v := by rw [Lib.cell_of_heap hb2]; rfl
  have f1 : w2.frozen? ⟨b, 1, none⟩ = false := Lib.frozen_of_heap hb2 1
  obtain ⟨ao, n', cap, rfl⟩ : ∃ ao n' cap, v' = .slice ao n' cap := by
    rcases hown'.2 with ⟨hv, _⟩ | ⟨g, cap, cur, hv, _⟩
    · exact ⟨_, _, _, hv⟩
    · exact ⟨_, _, _, hv⟩
  go_wp2
  go_ret2
  refine ⟨rfl, ?_, ?_⟩
  · exact Lib.BuilderAt.put (T := 99) (e := 5) hB hb2 (bs' := bs ++ Lib.strCells s) (by simpa [Lib.strCells_length] using hown') (by decide)
  · exact (hb1.grown hgrow (by have := hb1.size; omega) (fun k hk => (hown.lt k hk).1)).setCell (p := ⟨b, 1, none⟩) hB _

/-- a builder stays a builder where nothing that was there has turned -/
theorem builder_below {T e : TypeId} {B b : Nat} {p : Value} {bs : List Value} {w w' : World} (h : Lib.BuilderAt T e B b p bs w) (hb : Below w.heap.size w w') : Lib.BuilderAt T e B b p bs w' := by
  obtain ⟨hB, v, hbk, hown, hne⟩ := h
  have hlt : b < w.heap.size := Lib.BuilderAt.lt ⟨hB, v, hbk, hown, hne⟩
  exact ⟨hB, v, (hb.block b hlt).trans hbk, hown.kept (row := none) ⟨hb.os, hb.tape, hb.output, hb.size, fun k hk _ => hb.block k hk⟩ (by cases v.ownBlock <;> simp), hne⟩
theorem isBuilder_below {T e : TypeId} {B b : Nat} {bs : List Value} {w w' : World} (h : Lib.IsBuilder T e B b bs w) (hb : Below w.heap.size w w') : Lib.IsBuilder T e B b bs w' := by
  rcases h with h | h
  · exact .inl (builder_below h hb)
  · exact .inr (builder_below h hb)

end Go.Proofs.Ytdbabkkmdlkjaaa
/- What octet.Pack and the reference's Pack answer. -/
namespace Go.Proofs.Ytdbabkkmdlkjaaa
open Go.RowKit Ks
set_option linter.unusedVariables false

set_option maxHeartbeats 400000 in
theorem pack_any (wv lv : Value) (ws l : List Int) (w : World) (hw : RdI w wv ws) (hl : RdI w lv l) (hlen : l.length ≤ 1000000) :
    Calls Try.prog 32 #[wv, lv] w fun e w' => e = .returned (.tuple #[.string (packS ws l), .int .i64 (packE ws l)]) ∧ Below w.heap.size w w' := by
  refine calls_by fun R HR => ?_
  have Hw := Lib.hid hw
  have Hl := Lib.hid hl
  obtain ⟨aw, cw, rfl, -, -⟩ := hw
  obtain ⟨al, cl, rfl, -, -⟩ := hl
  by_cases hne : ws.length = l.length
  · have hb : ((l.length : Int) != (ws.length : Int)) = false := by simp [hne]
    have Hne := Lib.hid hne
    clear hne
    go_enter Try.func32, Try.ntmps32
    go_wp2
    go_loopw [18] (fun i wr => ∃ k : Nat, k ≤ l.length ∧ i = .int .i64 k ∧ Hid (∀ i, i < k → putOk (l.getD i 0) (ws.getD i 0) = true) ∧ Lib.IsBuilder 99 5 w.heap.size w.heap.size (Lib.byteCells (packTo ws l k)) wr ∧ Below w.heap.size w wr) (fun i _ => l.length - (intOf i).toNat)
    case atStart => exact ⟨0, by omega, rfl, Lib.hid (fun i hi => absurd hi (by omega)), Lib.fresh_isBuilder _ _ _, (Below.refl _ _).alloc (Nat.le_refl _) _⟩
    case round =>
      obtain ⟨k, hk, rfl, hok, hbu, hbel⟩ := hrel
      have Hbu := Lib.hid hbu
      clear hbu
      by_cases hlt : k < l.length
      · obtain ⟨bl, ol, rfl, hlb, hlc⟩ := Hl.out.cell k hlt
        obtain ⟨bw, ow, rfl, hwb, hwc⟩ := Hw.out.cell k (by have := Hne.out; omega)
        have hlc' := (hbel.cell (p := ⟨bl, ol + k, none⟩) hlb).trans hlc
        have hwc' := (hbel.cell (p := ⟨bw, ow + k, none⟩) hwb).trans hwc
        have hr := Hl.out.range k hlt
        have hkw : k < ws.length := by have := Hne.out; omega
        clear hlc hwc
        go_wp2_with fail
        refine (put_any _ _ _ (by omega)).mono ?_
        rintro e w1 ⟨rfl, hb1⟩
        by_cases hp : putOk l[k] ws[k] = true
        · have he : putE l[k] ws[k] = 0 := by unfold putE; rw [if_pos hp]
          have hs : putS l[k] ws[k] = ⟨(putL (ws.getD k 0).toNat (l.getD k 0).toNat).toArray⟩ := by
            unfold putS; rw [if_pos hp]; simp [hlt, hkw]
          have Hs := Lib.hid hs
          clear hs
          have Hp := Lib.hid hp
          clear hp
          go_wp2_with fail
          refine (builder_write w.heap.size w.heap.size (Lib.byteCells (packTo ws l k)) _ _ (isBuilder_below Hbu.out hb1) ?_ ?_).mono ?_
          · have h1 := packTo_length ws l k hok.out
            have h2 := putOk_width Hp.out
            rw [byteCells_length, Hs.out]
            have h3 : (⟨(putL (ws.getD k 0).toNat (l.getD k 0).toNat).toArray⟩ : ByteArray).size = (ws.getD k 0).toNat := by
              show (putL (ws.getD k 0).toNat (l.getD k 0).toNat).length = _
              simp
            have h4 : ws.getD k 0 = ws[k] := by simp [hkw]
            rw [h3, h4]
            omega
          · have := hbel.size; have := hb1.size; omega
          rintro e w2 ⟨rfl, hbu2, hb2⟩
          have Hbu2 := Lib.hid hbu2
          clear hbu2
          go_wp2
          go_roundw
          case rel =>
            refine ⟨k + 1, by omega, by go_num, ?_, ?_, ?_⟩
            · refine Lib.hid fun i hi => ?_
              by_cases hik : i = k
              · subst hik
                simpa [hlt, hkw] using Hp.out
              · exact hok.out i (by omega)
            · rw [Hs.out, strCells_mk, ← byteCells_append] at Hbu2
              exact .inr Hbu2.out
            · exact hbel.trans ((hb1.mono hbel.size).trans hb2)
          case measure => simp [intOf]; omega
        · have he : putE l[k] ws[k] = 2 := by unfold putE; rw [if_neg hp]
          have Hp := Lib.hid hp
          clear hp
          go_wp2
          refine HR.out _ _ ⟨?_, hbel.trans (hb1.mono hbel.size)⟩
          have hf : ¬ packOk ws l = true := by
            intro h
            simp only [packOk, decide_eq_true_eq] at h
            exact Hp.out (by simpa [hlt, hkw] using h.2 k hlt)
          rw [packS, packE, if_neg hf, if_neg hf]
          rfl
      · obtain rfl : k = l.length := by omega
        go_wp2_with fail
        refine (Try.Builder_String_any w.heap.size w.heap.size _ _ Hbu.out hbel.size).mono ?_
        rintro e w1 ⟨rfl, hb1⟩
        go_wp2
        refine HR.out _ _ ⟨?_, hbel.trans hb1⟩
        have hf : packOk ws l = true := by
          simp only [packOk, decide_eq_true_eq]
          exact ⟨Hne.out, hok.out⟩
        rw [packS, packE, if_pos hf, if_pos hf]
        rfl
  · have hb : ((l.length : Int) != (ws.length : Int)) = true := by simp; omega
    have Hne := Lib.hid hne
    clear hne
    go_enter Try.func32, Try.ntmps32
    go_wp2
    refine HR.out _ _ ⟨?_, Below.refl _ _⟩
    have hf : ¬ packOk ws l = true := by
      intro h
      simp only [packOk, decide_eq_true_eq] at h
      exact Hne.out h.1
    rw [packS, packE, if_neg hf, if_neg hf]
    rfl

end Go.Proofs.Ytdbabkkmdlkjaaa
/- A range over a function that hands on what lies in memory (slices): the contract says of each what it reads as where it is handed. The loop's body leaves no way but its end. Plain. No program is in sight. -/
namespace Ks
open Go Go.RowKit
set_option linter.unusedVariables false

/-- What an iterator hands on: behind the last round (world A) x was made (world B), of which New tells; X is what it reads of x behind the round. -/
def SeenAll {α : Type} (F : Fence) (n : Nat) (P : Program) (g : Nat) (lb : Array Value) (encs : α → Array Value) (X : α → World → Prop) (New : List α → α → World → World → Prop) (x0 : α) (S : List α → Prop) (w : World) : Prop :=
  ∀ (l : Nat) (J : List α → World → Prop) (M : List α → α → World → Prop) (W : World), Below w.heap.size w W →
    (∀ pre A B, J pre A → Below A.heap.size A B → J pre B) → (∀ pre x A B, J pre A → Below A.heap.size A B → New pre x A B → M pre x B) →
    (∀ pre x W1, M pre x W1 → YieldAt F (n - 1) P l (encs x) W1 fun e W' => e = .returned (.bool true) ∧ J (pre ++ [x]) W' ∧ X x W') →
    (∀ A, Below W.heap.size W A → M [] x0 A) →
    CallsIn F n P g (#[.func (.yield l) #[] #[]] ++ lb) W fun e W' => (∃ v, e = .returned v) ∧ ∃ xs, S xs ∧ J xs W'

def seenPost {α : Type} (B : Nat) (I : List α → World → Prop) (X : α → World → Prop) (pre : List α) (x : α) (W : World) : Exit → Act → World → Prop
  | .normal, _, W' => KeepsFrom B W W' ∧ I (pre ++ [x]) W' ∧ X x W'
  | _, _, _ => False

theorem wpIn_range_seen {F : Fence} {n : Nat} {P : Program} {α : Type} {g : Operand} {ps : Array Tmp} {assign body : Code} {Q : Exit → Act → World → Prop} {a : Act} {w : World}
    (hro : F.round = none) (h1 : 1 ≤ n) {gf : Nat} {lb : Array Value} (hg : a.eval g = .func (.func gf) #[] lb) (hFg : F.fn gf) (eg : ∀ args w, (callFunc gf args).run P w = .ok (.enter gf args) w)
    {encs : α → Array Value} {X : α → World → Prop} {New : List α → α → World → World → Prop} {x0 : α} {S : List α → Prop} (hseq : SeenAll F (n - 1) P gf lb encs X New x0 S w) (hps : ∀ x, (encs x).size = ps.size)
    (I : List α → World → Prop) (M : List α → α → World → Prop) (hI : OwnFrom w.heap.size I) (hM : OwnFrom w.heap.size fun (s : List α × α) W => M s.1 s.2 W) (hX : OwnFrom w.heap.size X)
    (hIB : ∀ pre A B, I pre A → w.heap.size + 2 ≤ A.heap.size → Below A.heap.size A B → I pre B) (hIM : ∀ pre x A B, I pre A → w.heap.size + 2 ≤ A.heap.size → Below A.heap.size A B → New pre x A B → M pre x B)
    (h0 : ∀ A, Below w.heap.size w A → M [] x0 A) (a₁ : α → Act)
    (hassign : ∀ (l : Nat) (x : α) (W : World) (K : Act → World → Prop), K (a₁ x) W →
      assign.wpIn (F.inRound l) (n - 1 - 1) P (Exit.then K (fun _ _ _ => False)) { tmps := (ps.zip (encs x)).foldl (fun t (p, v) => t.setIfInBounds p v) a.tmps, defers := [] } W)
    (hbody : ∀ (l : Nat) (pre : List α) (x : α) (W : World), w.heap.size + 2 ≤ W.heap.size → M pre x W → body.wpIn (F.inRound l) (n - 1 - 1) P (seenPost w.heap.size I X pre x W) (a₁ x) W)
    (hdone : ∀ (D : Nat) (xs : List α) (W : World), w.heap.size ≤ D → S xs → I xs W → W.heap[D]? = some (.deferred (some [])) → Q .normal { a with defers := { target := .collected D, args := #[] } :: a.defers } W) :
    (Code.rangeFunc g ps assign body).wpIn F n P Q a w := by
  refine wpIn_rangeFunc fun fn hfn => ?_
  rw [hro]
  obtain ⟨mk, hmk⟩ : ∃ mk : LoopState → Loop, mk = fun st => { state := st, pending := none, fn, tmps := a.tmps, params := ps, assign, body, defers := w.heap.size } := ⟨_, rfl⟩
  obtain ⟨V, hV⟩ : ∃ V, (w.alloc (.deferred (some []))).alloc (.loop (mk .ready)) = V := ⟨_, rfl⟩
  have hs2 : V.heap.size = w.heap.size + 2 := by rw [← hV]; simp
  have hrec : V.heap[w.heap.size + 1]? = some (.loop (mk .ready)) := by
    rw [← hV]; have := World.alloc_heap_new (w.alloc (.deferred (some []))) (.loop (mk .ready)); rwa [World.size_alloc] at this
  have hdef : V.heap[w.heap.size]? = some (.deferred (some [])) := by
    rw [← hV]; exact (Below.heap_alloc _ _ _ (by simp)).trans (World.alloc_heap_new w _)
  have hwV : Below w.heap.size w V := by rw [← hV]; exact ((Below.refl _ w).alloc (Nat.le_refl _) _).alloc (by simp) _
  have lt : ∀ {A : World} {k : Nat} {o : Obj}, A.heap[k]? = some o → k < A.heap.size := fun h => (Array.getElem?_eq_some_iff.1 h).1
  refine ⟨w.heap.size + 1, [{ target := .collected w.heap.size, args := #[] }], V, { target := .fn (.func gf) lb, args := #[.func (.yield (w.heap.size + 1)) #[] #[]] }, V, gf,
    #[.func (.yield (w.heap.size + 1)) #[] #[]] ++ lb, V, by rw [← hV, hmk]; exact run_enterLoop_outer _ _ _ _ _, by simp only [resolve, hg]; simp [go_sem],
    fun f' hf' => by simp [Target.leads] at hf'; subst hf'; exact hFg, by simp [invoke, go_sem, eg], fun _ => h1, ?_⟩
  have key := hseq (w.heap.size + 1) (fun pre W => I pre W ∧ W.heap[w.heap.size + 1]? = some (.loop (mk .ready)) ∧ W.heap[w.heap.size]? = some (.deferred (some [])))
    (fun pre x W => M pre x W ∧ W.heap[w.heap.size + 1]? = some (.loop (mk .ready)) ∧ W.heap[w.heap.size]? = some (.deferred (some []))) V hwV
    (fun pre A B h hb => ⟨hIB pre A B h.1 (by have := lt h.2.1; omega) hb, (hb.block _ (lt h.2.1)).trans h.2.1, (hb.block _ (lt h.2.2)).trans h.2.2⟩)
    (fun pre x A B h hb hn => ⟨hIM pre x A B h.1 (by have := lt h.2.1; omega) hb hn, (hb.block _ (lt h.2.1)).trans h.2.1, (hb.block _ (lt h.2.2)).trans h.2.2⟩)
    (fun pre x W h => ?_) (fun A hb => ⟨h0 A (hwV.trans (hb.mono (by omega))), (hb.block _ (by omega)).trans hrec, (hb.block _ (by omega)).trans hdef⟩)
  · refine key.mono ?_
    rintro e W2 ⟨⟨v, rfl⟩, xs, hS, hi, hl, hk⟩
    exact ⟨none, _, by have := run_endLoop (P := P) hl (by rw [hmk]; simp); rw [hmk] at this; exact this, hdone _ xs _ (Nat.le_refl _) hS (hI.putObj _ hi (by omega) hl rfl) ((World.putObj_heap_other (by omega)).trans hk)⟩
  · obtain ⟨hm, hl, hk⟩ := h
    have hlt := lt hl
    have hy := run_yield (P := P) (args := encs x) hl (by rw [hmk]; exact hps x)
    rw [hmk] at hy
    refine ⟨fn, _, assign, body, hy, roundIn_of_wpIn hfn (hassign _ x W _ ⟨_, run_beginRound hl (by rw [hmk]), ?_⟩)⟩
    have hl2 : (W.putObj (w.heap.size + 1) (.loop { mk .ready with state := .busy })).heap[w.heap.size + 1]? = some (.loop { mk .ready with state := .busy }) := World.putObj_heap_same hlt
    have hk2 : (W.putObj (w.heap.size + 1) (.loop { mk .ready with state := .busy })).heap[w.heap.size]? = some (.deferred (some [])) := (World.putObj_heap_other (by omega)).trans hk
    refine wpIn_mono (hbody _ pre x _ (by simp; omega) (hM.putObj (s := (pre, x)) _ hm (by omega) hl rfl)) ?_
    rintro e a3 W3 hp
    cases e with
    | normal =>
      obtain ⟨hk3, hi3, hx3⟩ := hp
      have hl3 := hk3.same _ _ (by omega) hl2 rfl
      have hd3 := hk3.same _ _ (Nat.le_refl _) hk2 rfl
      have hr := run_endRound (P := P) none hl3
      have hlt3 := lt hl3
      refine ⟨_, _, hr, rfl, ⟨hI.putObj _ hi3 (by omega) hl3 rfl, ?_, (World.putObj_heap_other (by omega)).trans hd3⟩, hX.putObj _ hx3 (by omega) hl3 rfl⟩
      rw [World.putObj_heap_same hlt3, hmk]
      rfl
    | ret => exact hp.elim
    | exit id => exact hp.elim
    | goto t => exact hp.elim
    | panic ch => exact hp.elim
    | outgrown => exact hp.elim
end Ks
/- A region that draws its order in a round of a range over a function, walked once by its class of worlds. Plain. No program is in sight. -/
namespace Ks
open Go Go.RowKit
set_option linter.unusedVariables false
def noDeferB (ops : Array Oper) : Bool := ops.all fun o => match o.op with | .defer _ => false | _ => true
theorem noDefer_at {ops : Array Oper} (h : noDeferB ops = true) {i : Nat} {o : Oper} (ho : ops[i]? = some o) : ∀ c, o.op ≠ .defer c := by
  intro c e
  have hi := (Array.getElem?_eq_some_iff.1 ho)
  obtain ⟨hi, rfl⟩ := hi
  have := Array.all_eq_true.1 h i hi
  rw [e] at this
  cases this
section
variable {P : Program} {ops : Array Oper} {md : Region.Mode} {C : Told → World → Prop} {l n : Nat}
theorem wpOpIn_of_mOp {i : Nat} {f : Told} {a : Act} {K : Told → Act → Prop} {K' : Act → World → Prop} {Q' : Exit → Act → World → Prop} {w : World} (hnd : noDeferB ops = true) (hf : f i = none) (hC : C f w) (h : ∀ v a w', C (upd f i v) w' → K (upd f i v) a → K' a w') (hh : mOp P md ops C i K f a) : wpOpIn (Fence.wide.inRound l) n P ops Q' i K' a w := by
  unfold mOp at hh
  unfold wpOpIn
  split
  · rename_i ho; simp only [ho] at hh
  · rename_i o ho
    simp only [ho] at hh
    obtain ⟨V, h1, h2⟩ := hh
    rcases h1 with ⟨hw, h1⟩ | ⟨hw, hV, h1⟩
    · rw [if_pos hw]
      have h3 := h1 f w (fun _ _ _ => rfl) hf hC
      refine ⟨fun _ _ => trivial, ?_⟩
      rw [Oper.semAt_eq _ _ _ (noDefer_at hnd ho)]
      generalize (execOp a.eval o).run P w = r at *
      cases r with
      | ok n w' =>
        cases n <;> simp only [movesUpon] at h3 <;> simp only [Oper.uponIn]
        case value u => exact h _ _ _ h3.2 (h2 _ h3.1)
        case skip => exact h _ _ _ h3.2 (h2 _ h3.1)
        case enter g args =>
          refine ⟨(fun e => by cases e), ?_⟩
          exact CallsIn.inRound l (callsIn_wide.2 (h3.mono fun e w'' ⟨v, he, hv, hw''⟩ => by subst he; exact h _ _ _ hw'' (h2 _ hv)))
      | halt x w' => simp only [movesUpon] at h3
    · rw [if_neg (by simp [hw])]
      exact ⟨fun _ _ => trivial, h _ _ _ (h1 f w (fun _ _ _ => rfl) hf hC) (h2 _ hV)⟩
theorem wpAnyIn_of_moved {Q : Told → Act → Prop} {Q' : Exit → Act → World → Prop} (hnd : noDeferB ops = true) (hQ : ∀ f a w, C f w → Q f a → Q' .normal a w) : ∀ (fuel : Nat) (listed : Array Bool) (f : Told) (a : Act) (w : World), (∀ i, listed.getD i true = false → f i = none) → C f w →
    wpAnyM P md ops C Q fuel listed f a → wpAnyIn (Fence.wide.inRound l) n P md ops Q' fuel listed a w
  | 0, _, _, _, _, _, hw, h => ⟨h.1, hQ _ _ _ hw h.2⟩
  | fuel + 1, listed, f, _, _, hi, hw, h => ⟨fun h0 => absurd h0 h.1, fun i hr => by
      have h0 := (mem_ready.1 hr).1
      refine wpOpIn_of_mOp hnd (hi i h0) hw (fun v a' w' hw' => wpAnyIn_of_moved hnd hQ fuel _ _ a' w' (fun j hj => ?_) hw') (h.2 i hr)
      by_cases e : j = i
      · subst e
        have hlt : j < listed.size := by
          rcases Nat.lt_or_ge j listed.size with h' | h'
          · exact h'
          · simp [Array.getElem?_eq_none h'] at h0
        simp [hlt] at hj
      · rw [getD_set_ne true (Ne.symm e)] at hj
        rw [upd_ne _ _ e]; exact hi j hj⟩
theorem wpIn_region_mv {id : Nat} {Q : Exit → Act → World → Prop} {a : Act} {w : World} {L : List Oper} (C : Told → World → Prop) (hm : P.follows .mixedOrders = true) (hnd : noDeferB L.toArray = true) (hC : C (fun _ => none) w.drew)
    (h : wpAnyM P .any L.toArray C (fun f a' => ∀ w', C f w' → Q .normal a' w') L.length (Array.replicate L.length false) (fun _ => none) a) : (Code.region id L.toArray true).wpIn (Fence.wide.inRound l) n P Q a w :=
  wpIn_region_any hm (wpAnyIn_of_moved (C := C) (Q := fun f a => ∀ w', C f w' → Q .normal a w') hnd (fun f a w hw h => h w hw) _ _ (fun _ => none) _ _ (fun _ _ => rfl) hC (by simpa using h))
end
end Ks
/- Trees of hashes: the levels, handed on by a function. -/
namespace Ks
open Go Go.RowKit
set_option linter.unusedVariables false
def levelsL (l : List ByteArray) : List (List ByteArray) :=
  if h : 2 ≤ l.length then l :: levelsL (aboveL l) else [l]
termination_by l.length
decreasing_by rw [above_length]; omega
theorem levels_two (l : List ByteArray) (h : 2 ≤ l.length) : levelsL l = l :: levelsL (aboveL l) := by rw [levelsL, dif_pos h]
theorem levels_low (l : List ByteArray) (h : ¬ 2 ≤ l.length) : levelsL l = [l] := by rw [levelsL, dif_neg h]
abbrev Lev := Value × List ByteArray
def levX (x : Lev) (w : World) : Prop := Rd strE w x.1 x.2
def levNew (l : List ByteArray) (T : TypeId) (pre : List Lev) (x : Lev) (A B : World) : Prop := Row strE B A.heap.size T x.1 x.2 ∧ ∃ t, pre.map Prod.snd ++ x.2 :: t = levelsL l
theorem levels_head (l : List ByteArray) : ∃ t, levelsL l = l :: t := by
  by_cases h : 2 ≤ l.length
  · exact ⟨_, levels_two l h⟩
  · exact ⟨[], levels_low l h⟩
def lenV : Value → Nat
  | .slice _ n _ => n
  | _ => 0
theorem above_whole (l : List ByteArray) (h : wholeL l = true) : wholeL (aboveL l) = true := by
  have key : ∀ n (l : List ByteArray), l.length ≤ n → wholeL l = true → wholeL (aboveL l) = true := by
    intro n
    induction n with
    | zero => intro l hn _; (obtain rfl : l = [] := List.length_eq_zero_iff.1 (by omega)); rfl
    | succ n ih =>
      intro l hn h
      match l, hn, h with
      | [], _, _ => rfl
      | [a], _, h => exact h
      | a :: b :: l, hn, h =>
        simp only [List.length_cons] at hn
        simp only [wholeL, List.all_cons, Bool.and_eq_true, beq_iff_eq] at h
        have := ih l (by omega) h.2.2
        simp only [aboveL, wholeL, List.all_cons, nodeS_size, Bool.and_eq_true, beq_iff_eq, true_and]
        exact this
  exact key _ l (Nat.le_refl _) h
theorem wpIn_scope_wide {P : Program} {n : Nat} {c : Code} {Q : Exit → Act → World → Prop} {a : Act} {w : World} (h : c.wpIn Fence.wide n P (Exit.noGoto Q) a w) : (Code.scope c).wpIn Fence.wide n P Q a w := wpIn_wide.2 (wp_scope_straight (wpIn_wide.1 h))
theorem wpIn_label_wide {P : Program} {n l : Nat} {Q : Exit → Act → World → Prop} {a : Act} {w : World} (h : Q .normal a w) : (Code.label l).wpIn Fence.wide n P Q a w := wpIn_wide.2 (wp_label h)
end Ks
namespace Go.Proofs.Ytdbabkkmdlkjaaa
open Go.RowKit Ks
set_option linter.unusedVariables false
attribute [local go_sem] Oper.semAt_some
theorem levels_any (a : Option Addr) (k c : Nat) (w : World) : Calls Try.prog 61 #[.slice a k c] w fun e w' => e = .returned (.func (.func 77) #[] #[.pointer (some ⟨w.heap.size, 0, none⟩)]) ∧ w' = w.alloc (.cells #[.slice a k c] 42) := by
  refine calls_by fun R HR => ?_
  go_enter Try.func61, Try.ntmps61
  go_wp2
  exact HR.out _ _ ⟨rfl, rfl⟩
set_option maxRecDepth 100000 in
set_option maxHeartbeats 2000000 in
theorem levels_seen (n Bn : Nat) (lv : Value) (l : List ByteArray) (w : World) (hBn : Bn < w.heap.size) (hc : w.cell? ⟨Bn, 0, none⟩ = some lv) (hr : Rd strE w lv l) (hw : wholeL l = true) (hl : l.length ≤ 100000000) :
    SeenAll Fence.wide n Try.prog 77 #[.pointer (some ⟨Bn, 0, none⟩)] (fun x : Lev => #[x.1]) levX (levNew l 9) (lv, l) (fun xs => xs.map Prod.snd = levelsL l) w := by
  intro lp J M W hW hJ hM hY h0
  have hcW : W.cell? ⟨Bn, 0, none⟩ = some lv := (hW.cell (p := ⟨Bn, 0, none⟩) hBn).trans hc
  have HJ := Lib.hid hJ
  have HMn := Lib.hid hM
  have HY := Lib.hid hY
  have H0 := Lib.hid (h0 W (Below.refl _ _))
  have HS := Lib.hid (And.intro hw (And.intro hl hr))
  clear hJ hM hY h0 hw hl
  obtain ⟨a0, cap0, rfl, -⟩ := hr.shape
  clear hr hc
  refine callsIn_of_wp Try.func77 rfl trivial ?_ rfl
  simp only [Try.ntmps77, List.size_toArray, List.length_cons, List.length_nil, Nat.reduceAdd, Nat.reduceSub, Array.replicate_succ, Array.replicate_zero, List.push_toArray, List.append_toArray, List.nil_append, List.cons_append]
  gi_wp2
  refine wpIn_scope_wide ?_
  gi_wp2
  refine wpIn_label_wide ?_
  gi_wp2
  gi_loopw [3] (fun v wr => ∃ (pre : List Lev) (L : List ByteArray) (a : Option Addr) (c : Nat), .slice a L.length c = v ∧ Hid (M pre (.slice a L.length c, L) wr ∧ wholeL L = true ∧ L.length ≤ 100000000 ∧ pre.map Prod.snd ++ levelsL L = levelsL l)) (fun v _ => lenV v)
  case atStart => exact ⟨[], l, a0, cap0, rfl, Lib.hid ⟨H0.out, HS.out.1, HS.out.2.1, rfl⟩⟩
  case round =>
    obtain ⟨pre, L, a, c, rfl, hN⟩ := hrel
    obtain ⟨fn, tmps, assign, body, hy, hR⟩ := HY.out pre (.slice a L.length c, L) wr hN.out.1
    dsimp only at hy
    have HR3 := Lib.hid hR
    clear hR
    by_cases h2 : 2 ≤ L.length
    · have h2i : ¬ (L.length : Int) < 2 := by omega
      have HL := Lib.hid h2
      clear h2
      gi_wp2
      refine ⟨(fun e => by cases e), HR3.out.mono ?_⟩
      rintro e W3 ⟨rfl, hJ3, hX3⟩
      have H3 := Lib.hid (And.intro hJ3 hX3)
      clear hJ3 hX3
      gi_wp2
      refine ⟨trivial, (fun e => by cases e), (callsIn_wide.2 (above_any _ L W3 H3.out.2 hN.out.2.1 hN.out.2.2.1)).mono ?_⟩
      rintro e w4 ⟨v', rfl, hrow, hb⟩
      obtain ⟨a', c', hv', -⟩ := hrow.shape
      have H4 := Lib.hid (And.intro hrow hb)
      clear hrow hb
      subst hv'
      gi_wp2
      go_roundw
      case rel =>
        have hnext : (pre ++ [((.slice a L.length c, L) : Lev)]).map Prod.snd ++ levelsL (aboveL L) = levelsL l := by rw [← hN.out.2.2.2, levels_two L HL.out]; simp
        obtain ⟨t, ht⟩ := levels_head (aboveL L)
        refine ⟨pre ++ [(.slice a L.length c, L)], aboveL L, a', c', rfl, Lib.hid ⟨HMn.out _ _ W3 _ H3.out.1 H4.out.2 ⟨H4.out.1, t, by rw [← hnext, ht]⟩, above_whole L hN.out.2.1, ?_, hnext⟩⟩
        rw [above_length]; have := hN.out.2.2.1; omega
      case measure =>
        show lenV _ < lenV _
        simp only [lenV]
        rw [above_length]; have := HL.out; omega
    · have h2i : (L.length : Int) < 2 := by omega
      have HL := Lib.hid h2
      clear h2
      gi_wp2
      refine ⟨(fun e => by cases e), HR3.out.mono ?_⟩
      rintro e W3 ⟨rfl, hJ3, hX3⟩
      have H3 := Lib.hid (And.intro hJ3 hX3)
      clear hJ3 hX3
      gi_wp2
      simp only [Exit.noGoto]
      gi_wp2
      go_end0
      exact ⟨⟨_, rfl⟩, pre ++ [(.slice a L.length c, L)], by rw [← hN.out.2.2.2, levels_low L HL.out]; simp, H3.out.1⟩
end Go.Proofs.Ytdbabkkmdlkjaaa
/- Trees of hashes: the root of leaves. -/
namespace Ks
open Go Go.RowKit
set_option linter.unusedVariables false
def rootsOf : ByteArray → List (List ByteArray) → ByteArray
  | r, [] => r
  | r, l :: ls => rootsOf (if l.length = 1 then l.headD ⟨#[]⟩ else r) ls
theorem rootsOf_snoc (r : ByteArray) (ls : List (List ByteArray)) (l : List ByteArray) : rootsOf r (ls ++ [l]) = if l.length = 1 then l.headD ⟨#[]⟩ else rootsOf r ls := by
  induction ls generalizing r with
  | nil => rfl
  | cons x ls ih => exact ih _
theorem roots_levels : ∀ (n : Nat) (l : List ByteArray) (r : ByteArray), l.length ≤ n → rootsOf r (levelsL l) = if l.length = 0 then r else rootL l := by
  intro n
  induction n with
  | zero =>
    intro l r h
    obtain rfl : l = [] := List.length_eq_zero_iff.1 (by omega)
    rw [levels_low _ (by simp)]; rfl
  | succ n ih =>
    intro l r h
    by_cases h2 : 2 ≤ l.length
    · have ha := above_length l
      rw [levels_two l h2]
      show rootsOf (if l.length = 1 then l.headD ⟨#[]⟩ else r) (levelsL (aboveL l)) = _
      rw [if_neg (by omega), ih _ _ (by omega), if_neg (by omega), if_neg (by omega), root_above l (by omega)]
    · rw [levels_low l h2]
      match l, h2 with
      | [], _ => rfl
      | [a], _ => rw [root_one]; rfl
      | a :: b :: l, h2 => simp at h2
def rootV (l : List ByteArray) : ByteArray := if wholeL l then rootL l else ⟨#[]⟩
def wholeE (l : List ByteArray) : Int := if wholeL l then 0 else 2
theorem rd_own : Own (fun (x : Lev) W => Rd strE W x.1 x.2) := by
  intro s W W' row hs hg hr
  obtain ⟨a, cap, e, hc, hn, h⟩ := hs
  refine ⟨a, cap, e, hc, hn, fun i x hx => ?_⟩
  obtain ⟨b, o, h1, h2, h3⟩ := h i x hx
  exact ⟨b, o, h1, Nat.lt_of_lt_of_le h2 hg.size, fun j u hu => cell_kept (h3 j u hu) hg hr⟩
theorem Rd.put' {α : Type} {E : Enc α} {w : World} {v : Value} {l : List α} (h : Rd E w v l) {m o : Nat} (u : Value) (hm : l ≠ [] → v.ownBlock ≠ some m) : Rd E (w.setCell ⟨m, o, none⟩ u) v l := by
  cases l with
  | nil =>
    obtain ⟨a, cap, e, hc, hn, _⟩ := h
    exact ⟨a, cap, e, hc, hn, fun i x hx => by simp at hx⟩
  | cons x l => exact h.put u (hm (by simp))
theorem Rd.low {w : World} {v : Value} {l : List ByteArray} (h : Rd strE w v l) {b : Nat} (hb : w.heap.size ≤ b) : l ≠ [] → v.ownBlock ≠ some b := by
  intro hl e
  cases l with
  | nil => exact hl rfl
  | cons x l =>
    obtain ⟨a, cap, rfl, _⟩ := h.shape
    obtain ⟨b1, o1, rfl, h1, _⟩ := h.str 0 (by simp)
    simp [Value.ownBlock] at e
    omega
end Ks
namespace Go.Proofs.Ytdbabkkmdlkjaaa
open Go.RowKit Ks
set_option linter.unusedVariables false
attribute [local go_sem] Oper.semAt_some
theorem root_no (lv : Value) (l : List ByteArray) (w : World) (hr : Rd strE w lv l) (hl : l.length ≤ 100000000) (hw : wholeL l = false) :
    Calls Try.prog 39 #[lv] w fun e w' => e = .returned (.tuple #[.string ⟨#[]⟩, .int .i64 2]) ∧ Below w.heap.size w w' := by
  have HW := whole_any lv l w hr (by omega)
  rw [hw] at HW
  obtain ⟨a, cap, rfl, -⟩ := hr.shape
  have HW := Lib.hid HW
  clear hr hl hw
  refine (callsIn_wide (n := 5)).1 ?_
  refine callsIn_of_wp_marks Try.func39 rfl trivial ?_ rfl
  simp only [Try.ntmps39, List.size_toArray, List.length_cons, List.length_nil, Nat.reduceAdd, Nat.reduceSub, Array.replicate_succ, Array.replicate_zero, List.push_toArray, List.append_toArray, List.nil_append, List.cons_append]
  gi_wp2
  refine ⟨trivial, (callsIn_wide.2 HW.out).mono ?_⟩
  rintro e w1 ⟨rfl, hb⟩
  have HB := Lib.hid hb
  clear hb
  gi_wp2
  exact ⟨_, results_tmp2 rfl _ _ _, rfl, HB.out⟩
set_option maxRecDepth 100000 in
set_option maxHeartbeats 2000000 in
theorem root_yes (lv : Value) (l : List ByteArray) (w : World) (hr : Rd strE w lv l) (hl : l.length ≤ 100000000) (hw : wholeL l = true) :
    Calls Try.prog 39 #[lv] w fun e w' => e = .returned (.tuple #[.string (rootL l), .int .i64 0]) ∧ Below w.heap.size w w' := by
  have HW := whole_any lv l w hr (by omega)
  rw [hw] at HW
  obtain ⟨a, cap, rfl, -⟩ := hr.shape
  have HW := Lib.hid HW
  have HS := Lib.hid (And.intro hr (And.intro hl hw))
  clear hr hl hw
  refine (callsIn_wide (n := 5)).1 ?_
  refine callsIn_of_wp_marks Try.func39 rfl trivial ?_ rfl
  simp only [Try.ntmps39, List.size_toArray, List.length_cons, List.length_nil, Nat.reduceAdd, Nat.reduceSub, Array.replicate_succ, Array.replicate_zero, List.push_toArray, List.append_toArray, List.nil_append, List.cons_append]
  gi_wp2
  refine ⟨trivial, (callsIn_wide.2 HW.out).mono ?_⟩
  rintro e w1 ⟨rfl, hb⟩
  have HB := Lib.hid hb
  clear hb
  gi_wp2
  refine ⟨trivial, (callsIn_wide.2 (sum0_any w1)).mono ?_⟩
  rintro e w2 ⟨rfl, hb⟩
  have HB2 := Lib.hid (HB.out.trans (hb.mono HB.out.size))
  clear hb
  gi_wp2
  refine ⟨trivial, (callsIn_wide.2 (levels_any a l.length cap _)).mono ?_⟩
  rintro e w4 ⟨rfl, rfl⟩
  have HLZ := Lib.hid (roots_levels l.length l (shaS []) (Nat.le_refl _))
  obtain ⟨Z, hZ⟩ : ∃ Z, shaS [] = Z := ⟨_, rfl⟩
  rw [hZ] at HLZ
  have HZ := Lib.hid (show Z = rootL [] by rw [← hZ, root_nil]; rfl)
  simp only [hZ] at *
  clear hZ
  have hs := blk1 (alloc_new w2 (.cells #[.string Z] 9))
  have hb0 := blk1 (alloc_new (w2.alloc (.cells #[.string Z] 9)) (.cells #[.slice a l.length cap] 42))
  rw [World.size_alloc] at hb0
  have hB0 : Below w.heap.size w ((w2.alloc (.cells #[.string Z] 9)).alloc (.cells #[.slice a l.length cap] 42)) := (HB2.out.alloc HB2.out.size _).alloc (by have := HB2.out.size; simp; omega) _
  have HK := Lib.hid (And.intro hs (And.intro hb0 hB0))
  gi_wp2
  rw [World.size_alloc]
  refine wpIn_range_seen (α := Lev) rfl (by omega) (gf := 77) (lb := #[.pointer (some ⟨w2.heap.size + 1, 0, none⟩)]) rfl trivial (enters_of Try.func77 (by kernel_rfl) rfl)
    (levels_seen _ (w2.heap.size + 1) _ l _ (by simp) hb0.1 (HS.out.1.below hB0) HS.out.2.2 HS.out.2.1) (fun _ => rfl)
    (fun pre W => (W.cell? ⟨w2.heap.size, 0, none⟩ = some (.string (rootsOf Z (pre.map Prod.snd))) ∧ W.frozen? ⟨w2.heap.size, 0, none⟩ = false) ∧ Below w.heap.size w W)
    (fun pre x W => (((W.cell? ⟨w2.heap.size, 0, none⟩ = some (.string (rootsOf Z (pre.map Prod.snd))) ∧ W.frozen? ⟨w2.heap.size, 0, none⟩ = false) ∧ Below w.heap.size w W) ∧ levX x W) ∧ (x.2 ≠ [] → x.1.ownBlock ≠ some w2.heap.size))
    (OwnFrom.and (Own.from (fun s A B row hs hg hr => ⟨cell_kept hs.1 hg hr, (frozen_kept hs.1 hg hr).trans hs.2⟩) _) (ownFrom_below (Nat.le_refl _) (by have := HB2.out.size; simp; omega)))
    (OwnFrom.and (OwnFrom.and (OwnFrom.and (Own.from (fun s A B row hs hg hr => ⟨cell_kept hs.1 hg hr, (frozen_kept hs.1 hg hr).trans hs.2⟩) _) (ownFrom_below (Nat.le_refl _) (by have := HB2.out.size; simp; omega))) (fun s A B row hs hg hr => rd_own s.2 A B row hs hg (fun r e => (hr r e).2))) (fun s A B row hs hg hr => hs))
    (Own.from rd_own _)
    ?hIB ?hIM ?h0
    (fun x => { tmps := #[.slice a l.length cap, undef, .string ⟨#[]⟩, .int .i64 0, .pointer (some ⟨w2.heap.size, 0, none⟩), x.1, .slice a l.length cap, .bool true, .bool false, .string Z, .slice a l.length cap, .func (.func 77) #[] #[.pointer (some ⟨w2.heap.size + 1, 0, none⟩)], x.1, undef, undef, undef, undef, undef, undef, undef], defers := [] }) ?assign ?body ?done
  case hIB =>
    intro pre A B hi hA hb
    simp only [World.size_alloc] at hA
    exact ⟨⟨(hb.cell (p := ⟨w2.heap.size, 0, none⟩) (by simp; omega)).trans hi.1.1, (hb.frozen (p := ⟨w2.heap.size, 0, none⟩) (by simp; omega)).trans hi.1.2⟩, hi.2.trans (hb.mono hi.2.size)⟩
  case hIM =>
    intro pre x A B hi hA hb hn
    simp only [World.size_alloc] at hA
    refine ⟨⟨⟨⟨(hb.cell (p := ⟨w2.heap.size, 0, none⟩) (by simp; omega)).trans hi.1.1, (hb.frozen (p := ⟨w2.heap.size, 0, none⟩) (by simp; omega)).trans hi.1.2⟩, hi.2.trans (hb.mono hi.2.size)⟩, hn.1.rd⟩, fun _ e => ?_⟩
    have := (hn.1.lt e).1
    omega
  case h0 =>
    intro A hb
    refine ⟨⟨⟨⟨(hb.cell (p := ⟨w2.heap.size, 0, none⟩) (by simp; omega)).trans (((alloc_below _ _).cell (p := ⟨w2.heap.size, 0, none⟩) (by simp)).trans HK.out.1.1), (hb.frozen (p := ⟨w2.heap.size, 0, none⟩) (by simp; omega)).trans (((alloc_below _ _).frozen (p := ⟨w2.heap.size, 0, none⟩) (by simp)).trans HK.out.1.2)⟩, HK.out.2.2.trans (hb.mono HK.out.2.2.size)⟩, HS.out.1.below (HK.out.2.2.trans (hb.mono HK.out.2.2.size))⟩, HS.out.1.low HB2.out.size⟩
  case assign =>
    intro lp x W K hK
    gi_wp2
    exact hK
  case body =>
    rintro lp pre ⟨v, L⟩ W hsz ⟨⟨⟨⟨hc, hf⟩, hb⟩, hx⟩, hne⟩
    change Rd strE W v L at hx
    obtain ⟨a', c', rfl, -⟩ := hx.shape
    have HX := Lib.hid (And.intro hx (And.intro hb hne))
    have HR := Lib.hid (rootsOf_snoc Z (pre.map Prod.snd) L)
    have HC := Lib.hid (And.intro hc hf)
    clear hb hne
    by_cases h1 : L.length = 1
    · have hlb : ((L.length : Int) == 1) = true := by rw [h1]; rfl
      obtain ⟨b, o, rfl, hb, c0⟩ := hx.str 0 (by omega)
      rw [Nat.add_zero] at c0
      have hli : (0 : Int) < (L.length : Int) := by omega
      have HL := Lib.hid (show L.headD ⟨#[]⟩ = L[0] by match L, h1 with | [y], _ => rfl)
      have HL1 := Lib.hid h1
      generalize L[0] = y at *
      clear hx hb h1
      gi_wp2
      refine ⟨(KeepsOthers.setCell _ _ _).from _, ⟨⟨?_, ?_⟩, ?_⟩, ?_⟩
      · rw [List.map_append, show [((.slice (some ⟨b, o, none⟩) L.length c', L) : Lev)].map Prod.snd = [L] from rfl, HR.out, if_pos HL1.out, HL.out]
        exact World.cell?_setCell_same' _ _ _ (by rw [HC.out.1]; rfl)
      · rw [World.frozen?_setCell]; exact HC.out.2
      · exact HX.out.2.1.setCell (p := ⟨w2.heap.size, 0, none⟩) HB2.out.size _
      · exact Rd.put' HX.out.1 _ HX.out.2.2
    · have hlb : ((L.length : Int) == 1) = false := by rw [beq_eq_false_iff_ne]; omega
      have HL1 := Lib.hid h1
      clear hx h1
      gi_wp2
      refine ⟨KeepsFrom.refl _ _, ⟨⟨?_, HC.out.2⟩, HX.out.2.1⟩, HX.out.1⟩
      rw [List.map_append, show [((.slice a' L.length c', L) : Lev)].map Prod.snd = [L] from rfl, HR.out, if_neg HL1.out]
      exact HC.out.1
  case done =>
    rintro D xs W hD hS ⟨⟨hc, hf⟩, hb⟩ hK
    rw [hS, HLZ.out] at hc
    have hroot : (if l.length = 0 then Z else rootL l) = rootL l := by
      split
      · rename_i h
        rw [HZ.out, List.length_eq_zero_iff.1 h]
      · rfl
    rw [hroot] at hc
    gi_wp2
    refine ⟨by simp, .inl ⟨_, _, rfl, run_takeDeferred hK, ?_⟩⟩
    exact ⟨_, results_tmp2 rfl _ _ _, rfl, hb.trans (belowK_b (w := w) (Nat.le_refl _) W D _ _ (by simp at hD; have := HB2.out.size; omega) hK rfl rfl)⟩
theorem root_any (lv : Value) (l : List ByteArray) (w : World) (hr : Rd strE w lv l) (hl : l.length ≤ 100000000) :
    Calls Try.prog 39 #[lv] w fun e w' => e = .returned (.tuple #[.string (rootV l), .int .i64 (wholeE l)]) ∧ Below w.heap.size w w' := by
  unfold rootV wholeE
  cases h : wholeL l
  · exact root_no lv l w hr hl h
  · exact root_yes lv l w hr hl h
end Go.Proofs.Ytdbabkkmdlkjaaa
/- A slice over a new block reads as its numbers. -/
namespace Ks
open Go Go.RowKit
set_option linter.unusedVariables false

theorem RdI.block {w : World} {b : Nat} (l : List Int) (t : TypeId) (fr : Nat × Nat) (n : Nat) (hn : n = l.length) (hr : ∀ x ∈ l, -9223372036854775808 ≤ x ∧ x ≤ 9223372036854775807)
    (h : w.heap[b]? = some (.cells (l.map (Value.int .i64)).toArray t fr)) : RdI w (.slice (some ⟨b, 0, none⟩) n n) l := by
  subst hn
  refine ⟨_, _, rfl, Nat.le_refl _, fun i x hx => ⟨⟨b, 0, rfl, lt_of_block h, ?_⟩, hr x (List.mem_of_getElem? hx)⟩⟩
  rw [Nat.zero_add, cell_of_row w b i _ t fr h]
  simp [hx]

/-- a new block of one byte, behind a draw, made a string -/
theorem conv_one_drew {P : Program} {src dst e : TypeId} (hs : P.underlying src = some (.slice e)) (he : P.underlying e = some (.int .u8)) (hd : P.underlying dst = some .string) (x : Int) (cap : Nat) (t : TypeId) (w : World) :
    (convert src dst (.slice (some ⟨w.heap.size, 0, none⟩) 1 cap)).run P (w.alloc (.cells #[.int .u8 x] t)).drew = .ok (.string ⟨#[UInt8.ofNat x.toNat]⟩) (w.alloc (.cells #[.int .u8 x] t)).drew :=
  conv_one hs he hd x cap t w.drew

/-- a slice's elements, when there are four -/
theorem RdI.four {w : World} {v : Value} {x0 x1 x2 x3 : Int} (h : RdI w v [x0, x1, x2, x3]) : ∃ b o cap, v = .slice (some ⟨b, o, none⟩) 4 cap ∧ b < w.heap.size ∧
    w.cell? ⟨b, o, none⟩ = some (.int .i64 x0) ∧ w.cell? ⟨b, o + 1, none⟩ = some (.int .i64 x1) ∧ w.cell? ⟨b, o + 2, none⟩ = some (.int .i64 x2) ∧ w.cell? ⟨b, o + 3, none⟩ = some (.int .i64 x3) := by
  obtain ⟨a, cap, rfl, _, h⟩ := h
  obtain ⟨⟨b, o, rfl, hb, h0⟩, _⟩ := h 0 x0 rfl
  obtain ⟨⟨b1, o1, e1, _, h1⟩, _⟩ := h 1 x1 rfl
  obtain ⟨⟨b2, o2, e2, _, h2⟩, _⟩ := h 2 x2 rfl
  obtain ⟨⟨b3, o3, e3, _, h3⟩, _⟩ := h 3 x3 rfl
  cases e1; cases e2; cases e3
  exact ⟨b, o, cap, rfl, hb, h0, h1, h2, h3⟩

/-- a block of one byte, made a string -/
theorem conv_blk {P : Program} {src dst e : TypeId} (hs : P.underlying src = some (.slice e)) (he : P.underlying e = some (.int .u8)) (hd : P.underlying dst = some .string) (x : Int) (cap b : Nat) (t : TypeId) (fr : Nat × Nat) (w : World)
    (h : w.heap[b]? = some (.cells #[.int .u8 x] t fr)) :
    (convert src dst (.slice (some ⟨b, 0, none⟩) 1 cap)).run P w = .ok (.string ⟨#[UInt8.ofNat x.toNat]⟩) w := by
  rw [run_convert_bytes_string _ src dst e _ 1 cap hs he hd]
  have hl := run_loadCells_list (P := P) w ⟨b, 0, none⟩ [Value.int .u8 x] (fun j v hj => by
    match j, hj with
    | 0, hj => simp at hj; subst hj; simp [Addr.add, World.cell?, h])
  rw [run_bytesToString _ _ 1 cap [x] (by simpa using hl)]
  rfl

/-- what a callee that turned nothing leaves of the cells that were there -/
theorem bcells {W W' : World} (h : Below W.heap.size W W') : (∀ b o, b < W.heap.size → W'.cell? ⟨b, o, none⟩ = W.cell? ⟨b, o, none⟩) ∧ (∀ b o, b < W.heap.size → W'.frozen? ⟨b, o, none⟩ = W.frozen? ⟨b, o, none⟩) :=
  ⟨fun b o hb => h.cell (p := ⟨b, o, none⟩) hb, fun b o hb => h.frozen (p := ⟨b, o, none⟩) hb⟩

end Ks
/- The root of leaves; the hash of data: of the program. -/
namespace Ks
open Go
theorem data_pack (a b : Int) : (packS [4, 4] [a, b]).size ≤ 8 := by
  rw [packS]
  split
  · show (packTo [4, 4] [a, b] 2).toArray.size ≤ 8
    simp [packTo]
  · decide
end Ks
namespace Go.Proofs.Ytdbabkkmdlkjaaa
open Go.RowKit Ks
set_option linter.unusedVariables false
def prootV (l : List LeafT) : ByteArray := if rightB l = true then rootL (hashL l) else ⟨#[]⟩
def prootE (l : List LeafT) : Int := if rightB l = true then 0 else 2
theorem proot_any (lv : Value) (l : List LeafT) (w : World) (hl : Rd leafE w lv l) (hlen : l.length ≤ 1000000) :
    Calls Try.prog 25 #[lv] w fun e w' => e = .returned (.tuple #[.string (prootV l), .int .i64 (prootE l)]) ∧ Below w.heap.size w w' := by
  refine calls_by fun R HR => ?_
  have HC := Lib.hid (right_any lv l w hl hlen)
  have HL := Lib.hid (And.intro hl hlen)
  obtain ⟨a, cap, rfl, -, -⟩ := hl.shape
  clear hl
  by_cases h : rightB l = true
  · rw [if_pos h] at HC
    have HZ := Lib.hid (show prootV l = rootL (hashL l) ∧ prootE l = 0 from ⟨if_pos h, if_pos h⟩)
    have HR2 := Lib.hid (show rootV (hashL l) = rootL (hashL l) ∧ wholeE (hashL l) = 0 from ⟨by rw [rootV, if_pos (hashL_whole l)], by rw [wholeE, if_pos (hashL_whole l)]⟩)
    clear h
    go_enter Try.func25, Try.ntmps25
    go_wp2_with fail
    refine HC.out.mono ?_
    rintro e w1 ⟨rfl, hb⟩
    have H1 := Lib.hid hb
    clear hb
    go_wp2_with fail
    refine (hashes_any _ l _ (HL.out.1.below H1.out) HL.out.2).mono ?_
    rintro e w2 ⟨v, rfl, hrow, hb⟩
    have H2 := Lib.hid (And.intro (H1.out.trans (hb.mono H1.out.size)) hrow.rd)
    clear hrow hb
    go_wp2_with fail
    refine (root_any _ (hashL l) _ H2.out.2 (by rw [hashL_length]; have := HL.out.2; omega)).mono ?_
    rintro e w3 ⟨rfl, hb⟩
    rw [HR2.out.1, HR2.out.2]
    have H3 := Lib.hid (H2.out.1.trans (hb.mono H2.out.1.size))
    clear hb
    go_wp2
    exact HR.out _ _ ⟨by rw [HZ.out.1, HZ.out.2]; rfl, H3.out⟩
  · rw [if_neg h] at HC
    have HZ := Lib.hid (show prootV l = ⟨#[]⟩ ∧ prootE l = 2 from ⟨if_neg h, if_neg h⟩)
    clear h
    go_enter Try.func25, Try.ntmps25
    go_wp2_with fail
    refine HC.out.mono ?_
    rintro e w1 ⟨rfl, hb⟩
    have H1 := Lib.hid hb
    clear hb
    go_wp2
    exact HR.out _ _ ⟨by rw [HZ.out.1, HZ.out.2]; rfl, H1.out⟩
theorem pdata_any (epoch slot : Int) (s : ByteArray) (w : World) (h1 : -9223372036854775808 ≤ epoch ∧ epoch ≤ 9223372036854775807) (h2 : -9223372036854775808 ≤ slot ∧ slot ≤ 9223372036854775807) (hs : s.size ≤ 1000000000) :
    Calls Try.prog 21 #[.int .i64 epoch, .int .i64 slot, .string s] w fun e w' => e = .returned (.tuple #[.string (dataS epoch slot s), .int .i64 (dataE epoch slot)]) ∧ Below w.heap.size w w' := by
  refine calls_by fun R HR => ?_
  obtain ⟨W1, hW1⟩ : ∃ W1, w.alloc (.cells #[.int .i64 4, .int .i64 4] 3) = W1 := ⟨_, rfl⟩
  have b1 : Below w.heap.size w W1 := by rw [← hW1]; exact alloc_below w _
  have n1 : W1.heap[w.heap.size]? = some (.cells #[.int .i64 4, .int .i64 4] 3 (0, 0)) := by rw [← hW1]; exact alloc_new w _
  obtain ⟨W2, hW2⟩ : ∃ W2, W1.alloc (.cells #[.int .i64 epoch, .int .i64 slot] 3) = W2 := ⟨_, rfl⟩
  have b2 : Below W1.heap.size W1 W2 := by rw [← hW2]; exact alloc_below W1 _
  have n2 : W2.heap[W1.heap.size]? = some (.cells #[.int .i64 epoch, .int .i64 slot] 3 (0, 0)) := by rw [← hW2]; exact alloc_new W1 _
  have HP := Lib.hid (pack_any _ _ [4, 4] [epoch, slot] W2 (RdI.block _ 3 (0, 0) 2 rfl (by decide) ((b2.block _ (lt_of_block n1)).trans n1)) (RdI.block _ 3 (0, 0) 2 rfl (by intro x hx; simp at hx; omega) n2) (by simp))
  have HB := Lib.hid (b1.trans (b2.mono b1.size))
  have hps := data_pack epoch slot
  have HS := Lib.hid (fun w => sum2_any (packS [4, 4] [epoch, slot]) s 9 w (by omega) (by omega))
  by_cases h : dataE epoch slot = 0
  · have HZ := Lib.hid (show dataS epoch slot s = shaS ((packS [4, 4] [epoch, slot]).data.toList ++ s.data.toList) by rw [dataS, if_pos h]; rfl)
    rw [show packE [4, 4] [epoch, slot] = 0 from h] at HP
    rw [h] at HR
    generalize shaS ((packS [4, 4] [epoch, slot]).data.toList ++ s.data.toList) = Z at *
    generalize packS [4, 4] [epoch, slot] = A at *
    clear b1 n1 b2 n2 hps h h1 h2 hs
    go_enter Try.func21, Try.ntmps21
    go_wp2_with fail
    refine HP.out.mono ?_
    rintro e w3 ⟨rfl, hb⟩
    have H3 := Lib.hid (HB.out.trans (hb.mono HB.out.size))
    clear hb
    go_wp2_with fail
    refine (HS.out _).mono ?_
    rintro e w4 ⟨rfl, hb⟩
    have H4 := Lib.hid (H3.out.trans (hb.mono H3.out.size))
    clear hb
    go_wp2
    exact HR.out _ _ ⟨by rw [HZ.out]; rfl, H4.out⟩
  · have h22 : packE [4, 4] [epoch, slot] = 2 := by
      unfold dataE at h
      unfold packE at h ⊢
      split at h
      · exact absurd rfl h
      · rename_i hq; rw [if_neg hq]
    have HZ := Lib.hid (show dataS epoch slot s = ⟨#[]⟩ by rw [dataS, if_neg h])
    rw [h22] at HP
    rw [show dataE epoch slot = 2 from h22] at HR
    generalize packS [4, 4] [epoch, slot] = A at *
    clear b1 n1 b2 n2 hps h h1 h2 hs h22
    go_enter Try.func21, Try.ntmps21
    go_wp2_with fail
    refine HP.out.mono ?_
    rintro e w3 ⟨rfl, hb⟩
    have H3 := Lib.hid (HB.out.trans (hb.mono HB.out.size))
    clear hb
    go_wp2
    exact HR.out _ _ ⟨by rw [HZ.out]; rfl, H3.out⟩
end Go.Proofs.Ytdbabkkmdlkjaaa
/- The program's segment: new, put, count, epoch. -/
set_option maxRecDepth 100000
namespace Go.Proofs.Ytdbabkkmdlkjaaa
open Go.RowKit Ks Go.Maps
set_option linter.unusedVariables false
theorem segKey : Keyed Try.prog 3 := int_keyed Try.underlying3
def segKV : KV Try.prog 3 Int ByteArray := ⟨fun i => .int .i64 i, fun s => .string s, fun h => by simpa using h⟩
theorem segKV_ok {x : Int} (h0 : 0 ≤ x) (h1 : x < 4096) : segKV.ok x := ⟨_, keyOf_int_mk Try.underlying3 (by simp [Lit.wf, IntKind.min, IntKind.max, IntKind.signed, IntKind.bits]; omega)⟩
set_option maxRecDepth 100000 in
theorem zeroStr (w : World) : (zeroValue 9).run Try.prog w = .ok (.string ⟨#[]⟩) w := by rfl
theorem snew_err (e : Int) (w : World) (h : e < 0 ∨ (¬ e < 0 ∧ 4294967295 < e)) : Calls Try.prog 8 #[.int .i64 e] w fun r w' => r = .returned (.tuple #[.pointer none, .int .i64 2]) ∧ w' = w := by
  rcases h with h | ⟨h, h2⟩
  all_goals
    go_enter Try.func8, Try.ntmps8
    go_wp2
    go_ret2
    exact ⟨rfl, rfl⟩
theorem snew_any (e : Int) (w : World) (h0 : ¬ e < 0) (h1 : ¬ 4294967295 < e) : Calls Try.prog 8 #[.int .i64 e] w fun r w' => ∃ n mb, r = .returned (.tuple #[.pointer (some ⟨n, 0, none⟩), .int .i64 0]) ∧ SegAt segKV w' 56 n mb e [] ∧ Below w.heap.size w w' ∧ w.heap.size ≤ n ∧ w.heap.size ≤ mb := by
  refine calls_by fun R HR => ?_
  obtain ⟨W1, hW1⟩ : ∃ W1, w.alloc (.map #[] 0) = W1 := ⟨_, rfl⟩
  have b1 : Below w.heap.size w W1 := by rw [← hW1]; exact alloc_below w _
  have n1 : MapAt segKV W1 w.heap.size [] := by rw [← hW1]; exact MapAt.made _ w
  have s1 : W1.heap.size = w.heap.size + 1 := by rw [← hW1]; simp
  have H1 := Lib.hid (And.intro b1 (And.intro n1 s1))
  clear b1 n1 s1
  have hmm := @run_makeMap Try.prog
  go_enter Try.func8, Try.ntmps8
  go_wp2
  all_goals
    have H2 := Lib.hid (alloc_below W1 (.cells #[.int .i64 e, .map (some w.heap.size)] 56))
    exact HR.out _ _ ⟨W1.heap.size, w.heap.size, rfl, ⟨alloc_new W1 _, H1.out.2.1.below H2.out, by have := H1.out.2.2; omega⟩, H1.out.1.trans (H2.out.mono H1.out.1.size), by have := H1.out.2.2; omega, Nat.le_refl _⟩
theorem map_some (b : Nat) (w : World) : (Go.binOp BinOp.neq 54 (.map (some b)) (.map none)).run Try.prog w = .ok (.bool true) w := rfl
theorem map_none (w : World) : (Go.binOp BinOp.neq 54 (.map none) (.map none)).run Try.prog w = .ok (.bool false) w := rfl
theorem there_any {n mb : Nat} {e : Int} {m : SegM} (w : World) (h : SegAt segKV w 56 n mb e m) : Calls Try.prog 24 #[.pointer (some ⟨n, 0, none⟩)] w fun r w' => r = .returned (.bool true) ∧ w' = w := by
  refine calls_by fun R HR => ?_
  obtain ⟨z0, z1, fz0, fz1⟩ := blk2 h.blk
  have hms := map_some mb
  clear h
  go_enter Try.func24, Try.ntmps24
  go_wp2
  exact HR.out _ _ ⟨rfl, rfl⟩
theorem there_no {v : Value} (w : World) (h : SegNo w 56 v) : Calls Try.prog 24 #[v] w fun r w' => r = .returned (.bool false) ∧ w' = w := by
  refine calls_by fun R HR => ?_
  rcases h with rfl | ⟨n, rfl, h⟩
  · go_enter Try.func24, Try.ntmps24
    go_wp2
    exact HR.out _ _ ⟨rfl, rfl⟩
  · obtain ⟨z0, z1, fz0, fz1⟩ := blk2 h
    have hms := map_none
    clear h
    go_enter Try.func24, Try.ntmps24
    go_wp2
    exact HR.out _ _ ⟨rfl, rfl⟩
theorem sepoch_any {n mb : Nat} {e : Int} {m : SegM} (w : World) (h : SegAt segKV w 56 n mb e m) : Calls Try.prog 14 #[.pointer (some ⟨n, 0, none⟩)] w fun r w' => r = .returned (.int .i64 e) ∧ w' = w := by
  refine calls_by fun R HR => ?_
  have HT := Lib.hid (there_any w h)
  have HM := Lib.hid h.map
  obtain ⟨z0, z1, fz0, fz1⟩ := blk2 h.blk
  clear h
  go_enter Try.func14, Try.ntmps14
  go_wp2_with fail
  refine HT.out.mono ?_
  rintro en v1 ⟨rfl, hw⟩
  rw [hw]
  clear hw
  go_wp2
  exact HR.out _ _ ⟨rfl, rfl⟩
theorem sepoch_no {v : Value} (w : World) (h : SegNo w 56 v) : Calls Try.prog 14 #[v] w fun r w' => r = .returned (.int .i64 0) ∧ w' = w := by
  refine calls_by fun R HR => ?_
  have HT := Lib.hid (there_no w h)
  clear h
  go_enter Try.func14, Try.ntmps14
  go_wp2_with fail
  refine HT.out.mono ?_
  rintro en v1 ⟨rfl, hw⟩
  rw [hw]
  clear hw
  go_wp2
  exact HR.out _ _ ⟨rfl, rfl⟩
theorem scount_any {n mb : Nat} {e : Int} {m : SegM} (w : World) (h : SegAt segKV w 56 n mb e m) : Calls Try.prog 13 #[.pointer (some ⟨n, 0, none⟩)] w fun r w' => r = .returned (.int .i64 m.length) ∧ w' = w := by
  refine calls_by fun R HR => ?_
  have HT := Lib.hid (there_any w h)
  have HM := Lib.hid h.map
  obtain ⟨z0, z1, fz0, fz1⟩ := blk2 h.blk
  clear h
  go_enter Try.func13, Try.ntmps13
  go_wp2_with fail
  refine HT.out.mono ?_
  rintro en v1 ⟨rfl, hw⟩
  rw [hw]
  clear hw
  go_wp2_with (at_len; refine wpList_mlen _ rfl _ 54 rfl 9 Try.underlying54 HM.out rfl ?_)
  exact HR.out _ _ ⟨rfl, rfl⟩
theorem scount_no {v : Value} (w : World) (h : SegNo w 56 v) : Calls Try.prog 13 #[v] w fun r w' => r = .returned (.int .i64 0) ∧ w' = w := by
  refine calls_by fun R HR => ?_
  have HT := Lib.hid (there_no w h)
  clear h
  go_enter Try.func13, Try.ntmps13
  go_wp2_with fail
  refine HT.out.mono ?_
  rintro en v1 ⟨rfl, hw⟩
  rw [hw]
  clear hw
  go_wp2
  exact HR.out _ _ ⟨rfl, rfl⟩
set_option maxRecDepth 100000 in
set_option maxHeartbeats 4000000 in
theorem sput_far (n mb : Nat) (e : Int) (m : SegM) (a : ActT) (w : World) (h : SegAt segKV w 56 n mb e m) (h1 : -9223372036854775808 ≤ e ∧ e ≤ 9223372036854775807) (h2 : -9223372036854775808 ≤ a.2.1 ∧ a.2.1 ≤ 9223372036854775807) (ho : a.1 < 0 ∨ (¬ a.1 < 0 ∧ 4096 ≤ a.1) ∨ (¬ a.1 < 0 ∧ ¬ 4096 ≤ a.1 ∧ 4000 < a.2.2.size)) :
    Calls Try.prog 9 #[.pointer (some ⟨n, 0, none⟩), .int .i64 a.1, .int .i64 a.2.1, .string a.2.2] w fun r w' => r = .returned (.int .i64 (segE e a)) ∧ SegAt segKV w' 56 n mb e (segPut e m a) ∧ Solo w w' mb := by
  refine calls_by fun R HR => ?_
  have hk : okAct e a = false := by
    rw [okAct, decide_eq_false_iff_not]
    intro q
    have := q.2.1; have := q.2.2.1; have := q.1
    omega
  have HE := Lib.hid (show segE e a = 2 by rw [segE, hk]; rfl)
  have HP := Lib.hid (show segPut e m a = m by rw [segPut, hk]; rfl)
  have HS := Lib.hid h
  have HT := Lib.hid (there_any w h)
  obtain ⟨lba, slot, s⟩ := a
  simp only at ho
  clear h h1 h2 hk
  rcases ho with q1 | ⟨q1, q2⟩ | ⟨q1, q2, q3⟩
  all_goals
    try have q4 : (4000 : Int) < (s.size : Int) := by omega
    go_enter Try.func9, Try.ntmps9
    go_wp2_with fail
    refine HT.out.mono ?_
    rintro en v1 ⟨rfl, hw⟩
    rw [hw]
    clear hw
    go_wp2
    exact HR.out _ _ ⟨by rw [HE.out]; try rfl, by rw [HP.out]; exact HS.out, Solo.of_below (Below.refl _ _)⟩
set_option maxRecDepth 100000 in
set_option maxHeartbeats 4000000 in
theorem sput_bad (n mb : Nat) (e : Int) (m : SegM) (a : ActT) (w : World) (h : SegAt segKV w 56 n mb e m) (h1 : -9223372036854775808 ≤ e ∧ e ≤ 9223372036854775807) (h2 : -9223372036854775808 ≤ a.2.1 ∧ a.2.1 ≤ 9223372036854775807) (q1 : ¬ a.1 < 0) (q2 : ¬ 4096 ≤ a.1) (q3 : ¬ 4000 < a.2.2.size) (hd : dataE e a.2.1 = 2) :
    Calls Try.prog 9 #[.pointer (some ⟨n, 0, none⟩), .int .i64 a.1, .int .i64 a.2.1, .string a.2.2] w fun r w' => r = .returned (.int .i64 (segE e a)) ∧ SegAt segKV w' 56 n mb e (segPut e m a) ∧ Solo w w' mb := by
  refine calls_by fun R HR => ?_
  have hk : okAct e a = false := by
    rw [okAct, decide_eq_false_iff_not]; intro q; have := q.2.2.2; omega
  have HE := Lib.hid (show segE e a = 2 by rw [segE, hk]; rfl)
  have HP := Lib.hid (show segPut e m a = m by rw [segPut, hk]; rfl)
  have HS := Lib.hid h
  have HT := Lib.hid (there_any w h)
  have HD := Lib.hid (pdata_any e a.2.1 a.2.2 w h1 h2 (by omega))
  rw [hd] at HD
  obtain ⟨lba, slot, s⟩ := a
  simp only at q1 q2 q3 HD
  have q4 : ¬ (4000 : Int) < (s.size : Int) := by omega
  have q5 : segKV.ok lba := segKV_ok (by omega) (by omega)
  obtain ⟨z0, z1, fz0, fz1⟩ := blk2 h.blk
  generalize dataS e slot s = DS at *
  clear h h1 h2 hk hd
  go_enter Try.func9, Try.ntmps9
  go_wp2_with fail
  refine HT.out.mono ?_
  rintro en v1 ⟨rfl, hw⟩
  rw [hw]
  clear hw
  go_wp2_with fail
  refine HD.out.mono ?_
  rintro en v1 ⟨rfl, hb⟩
  have H1 := Lib.hid hb
  have HS1 := Lib.hid (HS.out.below hb)
  clear hb z0 z1 fz0 fz1
  obtain ⟨z0, z1, fz0, fz1⟩ := blk2 HS1.out.blk
  go_wp2
  exact HR.out _ _ ⟨by rw [HE.out]; try rfl, by rw [HP.out]; exact HS1.out, Solo.of_below H1.out⟩
set_option maxRecDepth 100000 in
set_option maxHeartbeats 4000000 in
theorem sput_ok (n mb : Nat) (e : Int) (m : SegM) (a : ActT) (w : World) (h : SegAt segKV w 56 n mb e m) (h1 : -9223372036854775808 ≤ e ∧ e ≤ 9223372036854775807) (h2 : -9223372036854775808 ≤ a.2.1 ∧ a.2.1 ≤ 9223372036854775807) (q1 : ¬ a.1 < 0) (q2 : ¬ 4096 ≤ a.1) (q3 : ¬ 4000 < a.2.2.size) (hd : dataE e a.2.1 = 0) :
    Calls Try.prog 9 #[.pointer (some ⟨n, 0, none⟩), .int .i64 a.1, .int .i64 a.2.1, .string a.2.2] w fun r w' => r = .returned (.int .i64 (segE e a)) ∧ SegAt segKV w' 56 n mb e (segPut e m a) ∧ Solo w w' mb := by
  refine calls_by fun R HR => ?_
  have hk : okAct e a = true := by
    exact okAct_spec.2 ⟨by omega, by omega, by omega, hd⟩
  have HE := Lib.hid (show segE e a = 0 by rw [segE, hk]; rfl)
  have HP := Lib.hid (show segPut e m a = putM m a.1 (dataS e a.2.1 a.2.2) by rw [segPut, hk]; rfl)
  have HS := Lib.hid h
  have HT := Lib.hid (there_any w h)
  have HD := Lib.hid (pdata_any e a.2.1 a.2.2 w h1 h2 (by omega))
  rw [hd] at HD
  obtain ⟨lba, slot, s⟩ := a
  simp only at q1 q2 q3 HD
  have q4 : ¬ (4000 : Int) < (s.size : Int) := by omega
  have q5 : segKV.ok lba := segKV_ok (by omega) (by omega)
  obtain ⟨z0, z1, fz0, fz1⟩ := blk2 h.blk
  generalize dataS e slot s = DS at *
  clear h h1 h2 hk hd
  go_enter Try.func9, Try.ntmps9
  go_wp2_with fail
  refine HT.out.mono ?_
  rintro en v1 ⟨rfl, hw⟩
  rw [hw]
  clear hw
  go_wp2_with fail
  refine HD.out.mono ?_
  rintro en v1 ⟨rfl, hb⟩
  have H1 := Lib.hid hb
  have HS1 := Lib.hid (HS.out.below hb)
  clear hb z0 z1 fz0 fz1
  obtain ⟨z0, z1, fz0, fz1⟩ := blk2 HS1.out.blk
  go_wp2_with (at_mapUpdate; refine wpList_put _ rfl _ _ _ 54 rfl 9 segKey Try.underlying54 HS1.out.map rfl lba DS rfl rfl q5 ?_)
  intro w2 hm2 ht2
  have HT2 := Lib.hid (Solo.turn ht2)
  have HM2 := Lib.hid hm2
  clear hm2 ht2
  go_wp2
  exact HR.out _ _ ⟨by rw [HE.out]; try rfl, by rw [HP.out]; exact ⟨(HT2.out.block n HS1.out.lt HS1.out.ne).trans HS1.out.blk, HM2.out, HS1.out.ne⟩, (Solo.of_below H1.out).then HT2.out⟩
theorem sput_any (n mb : Nat) (e : Int) (m : SegM) (a : ActT) (w : World) (h : SegAt segKV w 56 n mb e m) (h1 : -9223372036854775808 ≤ e ∧ e ≤ 9223372036854775807) (h2 : -9223372036854775808 ≤ a.2.1 ∧ a.2.1 ≤ 9223372036854775807) :
    Calls Try.prog 9 #[.pointer (some ⟨n, 0, none⟩), .int .i64 a.1, .int .i64 a.2.1, .string a.2.2] w fun r w' => r = .returned (.int .i64 (segE e a)) ∧ SegAt segKV w' 56 n mb e (segPut e m a) ∧ Solo w w' mb := by
  by_cases q1 : a.1 < 0
  · exact sput_far n mb e m a w h h1 h2 (Or.inl q1)
  by_cases q2 : 4096 ≤ a.1
  · exact sput_far n mb e m a w h h1 h2 (Or.inr (Or.inl ⟨q1, q2⟩))
  by_cases q3 : 4000 < a.2.2.size
  · exact sput_far n mb e m a w h h1 h2 (Or.inr (Or.inr ⟨q1, q2, q3⟩))
  have hd : dataE e a.2.1 = 0 ∨ dataE e a.2.1 = 2 := by
    rw [dataE, packE]; split <;> simp
  rcases hd with hd | hd
  · exact sput_ok n mb e m a w h h1 h2 q1 q2 q3 hd
  · exact sput_bad n mb e m a w h h1 h2 q1 q2 q3 hd
theorem sput_no {v : Value} (lba slot : Int) (s : ByteArray) (w : World) (h : SegNo w 56 v) : Calls Try.prog 9 #[v, .int .i64 lba, .int .i64 slot, .string s] w fun r w' => r = .returned (.int .i64 1) ∧ w' = w := by
  refine calls_by fun R HR => ?_
  have HT := Lib.hid (there_no w h)
  clear h
  go_enter Try.func9, Try.ntmps9
  go_wp2_with fail
  refine HT.out.mono ?_
  rintro en v1 ⟨rfl, hw⟩
  rw [hw]
  clear hw
  go_wp2
  exact HR.out _ _ ⟨rfl, rfl⟩
end Go.Proofs.Ytdbabkkmdlkjaaa
/- A call of a function at a step of a region that draws its order, by its contract. Plain. No program is in sight. -/
namespace Ks
open Go Go.RowKit
set_option linter.unusedVariables false
theorem step_call {P : Program} {ops : Array Oper} {o : Oper} {a : Act} {w : World} {K : Act → World → Prop} {Q : Exit → Act → World → Prop} {F : Prop} (hg : o.guard = none) (f : FuncId) (xs : Array Operand) (ts : Array TypeId)
    (hop : o.op = Op.call { callee := Callee.value (.func f), args := xs, argTypes := ts }) (eg : ∀ args w, (callFunc f args).run P w = .ok (.enter f args) w) (args : Array Value) (hargs : xs.toList.map a.eval = args.toList)
    {Φ : Value → World → Prop} (hc : Calls P f args w fun e w' => ∃ v, e = .returned v ∧ Φ v w') (hK : ∀ v w', Φ v w' → K (a.put o.dst v) w') : if Region.wanted o (yielded ops a.tmps) = true then Oper.wp P o a w K Q else F := by
  have hw : Region.wanted o (yielded ops a.tmps) = true := by simp [Region.wanted, hg]
  rw [if_pos hw]
  have hrun : (execOp a.eval o).run P w = .ok (.enter f args) w := by
    have h : xs.map a.eval = args := Array.toList_inj.1 (by simpa using hargs)
    simp [execOp, hop, resolve, Deferred.ofValue, Act.eval, invoke, eg, ← h]
  unfold Oper.wp
  rw [hrun, Oper.upon_enter]
  exact hc.mono fun e w' ⟨v, he, h⟩ => by subst he; exact hK v w' h
/-- a cell that was there, behind a callee that turned nothing -/
theorem cell_on {w w1 : World} {n o : Nat} {v : Value} (hb : Below w.heap.size w w1) (h : w.cell? ⟨n, o, none⟩ = some v) : w1.cell? ⟨n, o, none⟩ = some v ∧ ∀ ob, (w1.alloc ob).cell? ⟨n, o, none⟩ = some v := by
  have hlt : n < w.heap.size := World.block_lt_of_cell? w _ h
  have h1 := (hb.cell (p := ⟨n, o, none⟩) hlt).trans h
  exact ⟨h1, fun ob => (((Below.refl w1.heap.size w1).alloc (Nat.le_refl _) ob).cell (p := ⟨n, o, none⟩) (Nat.lt_of_lt_of_le hlt hb.size)).trans h1⟩
theorem blk_on {w w1 : World} {b : Nat} {o : Obj} (hb : Below w.heap.size w w1) (h : w.heap[b]? = some o) : w1.heap[b]? = some o := (hb.block b (Array.getElem?_eq_some_iff.1 h).1).trans h
end Ks
