/- Texts that the claim rests on, part 4: DiskObj, DiskActs, DiskDo, MapBool, DiskFlush, GeoActs, Builder, OctetPut, OctetPack, OctetGet. -/
import Derived.Test.YteppfjgglelpbaaGreatProg
import Derived.Deep.LoopGhost
import Derived.Deep.QuietTactic
import Derived.BigQuiet
import Derived.StillTailTactics
import Derived.Maps.OwnOps
import Derived.Maps.Views
import Derived.Carry
import Derived.Test.YteppfjgglelpbaaGreatShelf
import Derived.Lib.Builder
import Derived.Lib.AppendStr
import Derived.Lib.UnsafeStr
import Derived.Test.YteppfjgglelpbaaGreatM3
/- The program's disk: what stands of it; its small functions. -/
namespace Ks
open Go Go.RowKit
set_option linter.unusedVariables false
def pwE : Enc PutT := ⟨2, fun p => [.int .i64 p.1, .string p.2], fun _ => rfl, fun x u hu => by simp only [List.mem_cons, List.not_mem_nil, or_false] at hu; rcases hu with rfl | rfl <;> rfl, by decide⟩
theorem Rd.putAt {w : World} {a : Option Addr} {n c : Nat} {l : List PutT} (h : Rd pwE w (.slice a n c) l) (i : Nat) (x : PutT) (hx : l[i]? = some x) : ∃ b o, a = some ⟨b, o, none⟩ ∧ b < w.heap.size ∧ w.cell? ⟨b, o + i * 2, none⟩ = some (.int .i64 x.1) ∧ w.cell? ⟨b, o + i * 2 + 1, none⟩ = some (.string x.2) := by
  obtain ⟨b, o, h1, h2, h3⟩ := h.at i x hx
  exact ⟨b, o, h1, h2, h3 0 _ rfl, h3 1 _ rfl⟩
/-- a disk that was made -/
structure DiskAt (w : World) (TD TS TP : TypeId) (n : Nat) (vb vc : Value) (s : DS) : Prop where
  blk : w.heap[n]? = some (.cells #[vb, vc, .bool true, .bool s.down, .int .i64 (s.left : Int)] TD (0, 0))
  rb : Row strE w 0 TS vb s.blocks
  rc : Row pwE w 0 TP vc s.cache
  nb : vb.ownBlock ≠ some n
  nc : vc.ownBlock ≠ some n
  bc : ∀ b, vb.ownBlock = some b → vc.ownBlock ≠ some b
  ok : s.ok
/-- its blocks -/
def DF (n : Nat) (vb vc : Value) : Nat → Prop := fun k => k = n ∨ vb.ownBlock = some k ∨ vc.ownBlock = some k
variable {TD TS TP : TypeId} {n : Nat} {vb vc : Value} {s : DS}
theorem DiskAt.lt {w : World} (h : DiskAt w TD TS TP n vb vc s) : ∀ k, DF n vb vc k → k < w.heap.size := by
  rintro k (rfl | e | e)
  · exact lt_of_block h.blk
  · exact h.rb.own_lt e
  · exact h.rc.own_lt e
theorem DiskAt.keep {w w' : World} (h : DiskAt w TD TS TP n vb vc s) (hk : ∀ k, DF n vb vc k → w'.heap[k]? = w.heap[k]?) : DiskAt w' TD TS TP n vb vc s :=
  ⟨(hk n (Or.inl rfl)).trans h.blk, h.rb.keep fun b e => hk b (Or.inr (Or.inl e)), h.rc.keep fun b e => hk b (Or.inr (Or.inr e)), h.nb, h.nc, h.bc, h.ok⟩
theorem DiskAt.below {w w' : World} (h : DiskAt w TD TS TP n vb vc s) (hb : Below w.heap.size w w') : DiskAt w' TD TS TP n vb vc s := h.keep fun k hk => hb.block k (h.lt k hk)
theorem DiskAt.cells {w : World} (h : DiskAt w TD TS TP n vb vc s) : w.cell? ⟨n, 0, none⟩ = some vb ∧ w.cell? ⟨n, 1, none⟩ = some vc ∧ w.cell? ⟨n, 2, none⟩ = some (.bool true) ∧ w.cell? ⟨n, 3, none⟩ = some (.bool s.down) ∧ w.cell? ⟨n, 4, none⟩ = some (.int .i64 (s.left : Int)) := by
  refine ⟨?_, ?_, ?_, ?_, ?_⟩
  all_goals (rw [cell_of_row w n _ _ _ _ h.blk]; rfl)
theorem DiskAt.froz {w : World} (h : DiskAt w TD TS TP n vb vc s) (o : Nat) : w.frozen? ⟨n, o, none⟩ = false := frozen_of_row w n o _ _ h.blk
/-- only the head is turned -/
theorem DiskAt.head {w w' : World} (h : DiskAt w TD TS TP n vb vc s) {F' : Nat → Prop} (hT : Turn w w' (fun k => k = n) F') (s' : DS) (hb : w'.heap[n]? = some (.cells #[vb, vc, .bool true, .bool s'.down, .int .i64 (s'.left : Int)] TD (0, 0)))
    (e1 : s'.blocks = s.blocks) (e2 : s'.cache = s.cache) (hok : s'.ok) : DiskAt w' TD TS TP n vb vc s' ∧ Turn w w' (DF n vb vc) (DF n vb vc) := by
  refine ⟨⟨hb, ?_, ?_, h.nb, h.nc, h.bc, hok⟩, hT.wide (fun k hk => Or.inl hk) fun k hk => Or.inr (Or.inl hk)⟩
  · rw [e1]; exact h.rb.turn hT fun b e e2 => h.nb (e2 ▸ e)
  · rw [e2]; exact h.rc.turn hT fun b e e2 => h.nc (e2 ▸ e)
/-- the cache is another one -/
theorem DiskAt.cached {w w' : World} (h : DiskAt w TD TS TP n vb vc s) {F' : Nat → Prop} {vc' : Value} (s' : DS) (hT : Turn w w' (fun k => k = n ∨ vc.ownBlock = some k) F') (hb : w'.heap[n]? = some (.cells #[vb, vc', .bool true, .bool s'.down, .int .i64 (s'.left : Int)] TD (0, 0)))
    (hr : Row pwE w' 0 TP vc' s'.cache) (hv : ∀ b, vc'.ownBlock = some b → vc.ownBlock = some b ∨ w.heap.size ≤ b) (e1 : s'.blocks = s.blocks) (hok : s'.ok) : DiskAt w' TD TS TP n vb vc' s' ∧ Turn w w' (DF n vb vc) (DF n vb vc') := by
  have hn := lt_of_block h.blk
  refine ⟨⟨hb, ?_, hr, h.nb, fun e => ?_, fun b e e2 => ?_, hok⟩, hT.wide (fun k hk => ?_) fun k hk => ?_⟩
  · rw [e1]; exact h.rb.turn hT fun b e e2 => by
      rcases e2 with rfl | e2
      · exact h.nb e
      · exact h.bc b e e2
  · rcases hv n e with h1 | h1
    · exact h.nc h1
    · omega
  · rcases hv b e2 with h1 | h1
    · exact h.bc b e h1
    · have := h.rb.own_lt e; omega
  · rcases hk with rfl | hk
    · exact Or.inl rfl
    · exact Or.inr (Or.inr hk)
  · rcases hk with rfl | hk | hk
    · exact Or.inr (Or.inl (Or.inl rfl))
    · exact Or.inr (Or.inl (Or.inr (Or.inl hk)))
    · rcases hv k hk with h1 | h1
      · exact Or.inr (Or.inl (Or.inr (Or.inr h1)))
      · exact Or.inr (Or.inr h1)
/-- what is behind an append to the cache, and the store -/
theorem DiskAt.append {w w3 : World} (h : DiskAt w TD TS TP n vb vc s) (o : Obj) {v' : Value} {L : List PutT} (hG : Grew pwE (w.alloc o) w3 0 TP vc v' L) (hok : ({ s with cache := L } : DS).ok) :
    DiskAt (w3.setCell ⟨n, 1, none⟩ v') TD TS TP n vb v' { s with cache := L } ∧ Turn w (w3.setCell ⟨n, 1, none⟩ v') (DF n vb vc) (DF n vb v') := by
  have hn := lt_of_block h.blk
  have hb3 := hG.block (blk_keep h.blk o) h.nc
  have hv : ∀ b, v'.ownBlock = some b → vc.ownBlock = some b ∨ w.heap.size ≤ b := fun b hb => by
    rcases hG.foot b hb with h1 | h1
    · exact Or.inl h1
    · exact Or.inr (by simp at h1; omega)
  have hT : Turn w (w3.setCell ⟨n, 1, none⟩ v') (fun k => k = n ∨ vc.ownBlock = some k) (fun k => k = n ∨ vc.ownBlock = some k) :=
    ((Turn.of_below _ (alloc_below w o)).trans (hG.turn (F := fun k => k = n ∨ vc.ownBlock = some k) fun b e => Or.inr e)).trans (Turn.cell w3 n 1 v' (Or.inl rfl))
  refine h.cached { s with cache := L } hT (set_blk hb3 1 v') (hG.1.keep fun b e => set_ne v' fun e2 => ?_) hv rfl hok
  subst e2
  rcases hv b e with h1 | h1
  · exact h.nc h1
  · omega
/-- what is behind an append to the blocks, and the store -/
theorem DiskAt.appendB {w w3 : World} (h : DiskAt w TD TS TP n vb vc s) (o : Obj) {v' : Value} {L : List ByteArray} (hG : Grew strE (w.alloc o) w3 0 TS vb v' L) (hok : ({ s with blocks := L } : DS).ok) :
    DiskAt (w3.setCell ⟨n, 0, none⟩ v') TD TS TP n v' vc { s with blocks := L } ∧ Turn w (w3.setCell ⟨n, 0, none⟩ v') (DF n vb vc) (DF n v' vc) := by
  have hn := lt_of_block h.blk
  have hb3 := hG.block (blk_keep h.blk o) h.nb
  have hv : ∀ b, v'.ownBlock = some b → vb.ownBlock = some b ∨ w.heap.size ≤ b := fun b hb => by
    rcases hG.foot b hb with h1 | h1
    · exact Or.inl h1
    · exact Or.inr (by simp at h1; omega)
  have hT : Turn w (w3.setCell ⟨n, 0, none⟩ v') (fun k => k = n ∨ vb.ownBlock = some k) (fun k => k = n ∨ vb.ownBlock = some k) :=
    ((Turn.of_below _ (alloc_below w o)).trans (hG.turn (F := fun k => k = n ∨ vb.ownBlock = some k) fun b e => Or.inr e)).trans (Turn.cell w3 n 0 v' (Or.inl rfl))
  refine ⟨⟨set_blk hb3 0 v', hG.1.keep fun b e => set_ne v' fun e2 => ?_, h.rc.turn hT fun b e e2 => ?_, fun e => ?_, h.nc, fun b e e2 => ?_, hok⟩, hT.wide (fun k hk => ?_) fun k hk => ?_⟩
  · subst e2
    rcases hv b e with h1 | h1
    · exact h.nb h1
    · omega
  · rcases e2 with rfl | e2
    · exact h.nc e
    · exact h.bc b e2 e
  · rcases hv n e with h1 | h1
    · exact h.nb h1
    · omega
  · rcases hv b e with h1 | h1
    · exact h.bc b h1 e2
    · have := h.rc.own_lt e2; omega
  · rcases hk with rfl | hk
    · exact Or.inl rfl
    · exact Or.inr (Or.inl hk)
  · rcases hk with rfl | hk | hk
    · exact Or.inr (Or.inl (Or.inl rfl))
    · rcases hv k hk with h1 | h1
      · exact Or.inr (Or.inl (Or.inr (Or.inl h1)))
      · exact Or.inr (Or.inr h1)
    · exact Or.inr (Or.inl (Or.inr (Or.inr hk)))
/-- the blocks' row is written -/
theorem DiskAt.rows {w w' : World} (h : DiskAt w TD TS TP n vb vc s) {F' : Nat → Prop} (hT : Turn w w' (fun k => vb.ownBlock = some k) F') (bl : List ByteArray) (hr : Row strE w' 0 TS vb bl) (hok : ({ s with blocks := bl } : DS).ok) :
    DiskAt w' TD TS TP n vb vc { s with blocks := bl } ∧ Turn w w' (DF n vb vc) (DF n vb vc) :=
  ⟨⟨(hT.block n (lt_of_block h.blk) h.nb).trans h.blk, hr, h.rc.turn hT fun b e e2 => h.bc b e2 e, h.nb, h.nc, h.bc, hok⟩, hT.wide (fun k hk => Or.inr (Or.inl hk)) fun k hk => Or.inr (Or.inl hk)⟩
/-- a disk that is none, or that no call made -/
def DeadDisk (w : World) (v : Value) : Prop := v = .pointer none ∨ ∃ n, v = .pointer (some ⟨n, 0, none⟩) ∧ w.cell? ⟨n, 2, none⟩ = some (.bool false)
end Ks
namespace Go.Proofs.YteppfjgglelpbaaGreat
open Go.RowKit Ks
set_option linter.unusedVariables false
variable {n : Nat} {vb vc : Value} {s : DS}
abbrev DkAt (w : World) := DiskAt w 90 9 97

theorem dthere_yes (n : Nat) (w : World) (h0 : w.cell? ⟨n, 2, none⟩ = some (.bool true)) :
    Calls Tryz.prog 57 #[.pointer (some ⟨n, 0, none⟩)] w fun e w' => e = .returned (.bool true) ∧ w' = w := by
  go_enter Tryz.func57, Tryz.ntmps57
  go_wp2
  go_ret
  exact ⟨rfl, rfl⟩
theorem dthere_no (v : Value) (w : World) (hv : DeadDisk w v) :
    Calls Tryz.prog 57 #[v] w fun e w' => e = .returned (.bool false) ∧ w' = w := by
  rcases hv with rfl | ⟨b, rfl, h0⟩
  all_goals
    go_enter Tryz.func57, Tryz.ntmps57
    go_wp2
    go_ret
    exact ⟨rfl, rfl⟩
def mayN (s : DS) : Int := if s.down then 14 else 0
theorem dmay_any (w : World) (h : DkAt w n vb vc s) : Calls Tryz.prog 55 #[.pointer (some ⟨n, 0, none⟩)] w fun e w' => e = .returned (.int .i64 (mayN s)) ∧ w' = w := by
  refine calls_by fun R HR => ?_
  obtain ⟨c0, c1, c2, c3, c4⟩ := h.cells
  have HT := Lib.hid (dthere_yes n w c2)
  clear h c0 c1 c4
  rcases hd : s.down with _ | _
  · rw [hd] at c3
    have HM := Lib.hid (show mayN s = 0 by rw [mayN, hd]; rfl)
    clear hd
    go_enter Tryz.func55, Tryz.ntmps55
    go_wp2_with fail
    refine HT.out.mono ?_
    rintro e w1 ⟨rfl, rfl⟩
    go_wp2
    exact HR.out _ _ ⟨by rw [HM.out]; rfl, rfl⟩
  · rw [hd] at c3
    have HM := Lib.hid (show mayN s = 14 by rw [mayN, hd]; rfl)
    clear hd
    go_enter Tryz.func55, Tryz.ntmps55
    go_wp2_with fail
    refine HT.out.mono ?_
    rintro e w1 ⟨rfl, rfl⟩
    go_wp2
    exact HR.out _ _ ⟨by rw [HM.out]; rfl, rfl⟩
theorem dmay_no (v : Value) (w : World) (hv : DeadDisk w v) : Calls Tryz.prog 55 #[v] w fun e w' => e = .returned (.int .i64 1) ∧ w' = w := by
  have HT := Lib.hid (dthere_no v w hv)
  go_enter Tryz.func55, Tryz.ntmps55
  go_wp2_with fail
  refine HT.out.mono ?_
  rintro e w1 ⟨rfl, rfl⟩
  go_wp2
  go_ret
  exact ⟨rfl, rfl⟩
theorem dat_any (i : Int) (w : World) (h : DkAt w n vb vc s) : Calls Tryz.prog 77 #[.pointer (some ⟨n, 0, none⟩), .int .i64 i] w fun e w' => e = .returned (.bool (inD s i)) ∧ w' = w := by
  refine calls_by fun R HR => ?_
  obtain ⟨c0, c1, c2, c3, c4⟩ := h.cells
  obtain ⟨a, cap, rfl, _⟩ := h.rb.shape
  have HM : Hid (inD s i = decide (0 ≤ i ∧ i < (s.blocks.length : Int))) := Lib.hid rfl
  have HH := Lib.hid h
  clear h c1 c2 c3 c4
  generalize s.blocks.length = m at *
  by_cases h0 : 0 ≤ i
  · by_cases h1 : i < (m : Int)
    · have HM2 := Lib.hid (show inD s i = true by rw [HM.out]; simp [h0, h1])
      go_enter Tryz.func77, Tryz.ntmps77
      go_wp2
      exact HR.out _ _ ⟨by rw [HM2.out] <;> rfl, rfl⟩
    · have HM2 := Lib.hid (show inD s i = false by rw [HM.out]; simp [h0, h1])
      go_enter Tryz.func77, Tryz.ntmps77
      go_wp2
      exact HR.out _ _ ⟨by rw [HM2.out] <;> rfl, rfl⟩
  · have HM2 := Lib.hid (show inD s i = false by rw [HM.out]; simp [h0])
    go_enter Tryz.func77, Tryz.ntmps77
    go_wp2
    exact HR.out _ _ ⟨by rw [HM2.out] <;> rfl, rfl⟩
theorem dplace_any (i : Int) (t : ByteArray) (w : World) (h : DkAt w n vb vc s) : Calls Tryz.prog 90 #[.pointer (some ⟨n, 0, none⟩), .int .i64 i, .string t] w fun e w' => e = .returned (.int .i64 (placeE s i t)) ∧ w' = w := by
  refine calls_by fun R HR => ?_
  have HT := Lib.hid (dat_any i w h)
  have HM : Hid (placeE s i t = if inD s i then (if t.size = 4096 then 0 else 2) else 4) := Lib.hid rfl
  clear h
  generalize placeE s i t = pe at *
  cases hi : inD s i
  · rw [hi] at HT HM
    go_enter Tryz.func90, Tryz.ntmps90
    go_wp2_with fail
    refine HT.out.mono ?_
    rintro e w1 ⟨rfl, rfl⟩
    go_wp2
    exact HR.out _ _ ⟨by rw [HM.out]; rfl, rfl⟩
  · rw [hi] at HT HM
    clear hi
    by_cases ht : t.size = 4096
    · have hb : ((t.size : Int) != 4096) = false := by rw [ht]; rfl
      have HT2 := Lib.hid ht
      clear ht
      go_enter Tryz.func90, Tryz.ntmps90
      go_wp2_with fail
      refine HT.out.mono ?_
      rintro e w1 ⟨rfl, rfl⟩
      go_wp2
      exact HR.out _ _ ⟨by rw [HM.out, if_pos HT2.out]; simp, rfl⟩
    · have hb : ((t.size : Int) != 4096) = true := by rw [bne_iff_ne]; omega
      have HT2 := Lib.hid ht
      clear ht
      go_enter Tryz.func90, Tryz.ntmps90
      go_wp2_with fail
      refine HT.out.mono ?_
      rintro e w1 ⟨rfl, rfl⟩
      go_wp2
      exact HR.out _ _ ⟨by rw [HM.out, if_neg HT2.out]; simp, rfl⟩
theorem dstep_any (w : World) (h : DkAt w n vb vc s) (hd : s.down = false) : Calls Tryz.prog 72 #[.pointer (some ⟨n, 0, none⟩)] w fun e w' => e = .returned (.bool (stepD s).down) ∧ DkAt w' n vb vc (stepD s) ∧ Turn w w' (DF n vb vc) (DF n vb vc) := by
  refine calls_by fun R HR => ?_
  obtain ⟨c0, c1, c2, c3, c4⟩ := h.cells
  have f3 := h.froz 3
  have f4 := h.froz 4
  have HH := Lib.hid h
  rw [hd] at c3
  clear h c0 c1 c2
  obtain ⟨m, hm⟩ : ∃ m, s.left = m := ⟨_, rfl⟩
  rw [hm] at c4
  by_cases h0 : m = 0
  · subst h0
    have HM := Lib.hid (show stepD s = s by rw [stepD, if_pos hm])
    have HD := Lib.hid hd
    clear hd hm
    go_enter Tryz.func72, Tryz.ntmps72
    go_wp2
    exact HR.out _ _ ⟨by rw [HM.out, HD.out]; rfl, by rw [HM.out]; exact HH.out, Turn.refl _ _⟩
  · have HM := Lib.hid (show stepD s = { s with left := m - 1, down := decide (m - 1 = 0) } by rw [stepD, hm, if_neg h0])
    have HD := Lib.hid hd
    have hpos : 0 < (m : Int) := by omega
    have hml : m ≤ 9223372036854775807 := by have := HH.out.ok.left; omega
    have HML := Lib.hid hm
    clear hd hm
    go_enter Tryz.func72, Tryz.ntmps72
    go_wp2
    rw [show ((m : Int) - 1) = ((m - 1 : Nat) : Int) by omega]
    rw [show ((((m - 1 : Nat) : Int)) == 0) = decide (m - 1 = 0) by rw [Bool.eq_iff_iff, beq_iff_eq, decide_eq_true_iff]; omega]
    have hblk : ((w.setCell ⟨n, 4, none⟩ (.int .i64 ((m - 1 : Nat) : Int))).setCell ⟨n, 3, none⟩ (.bool (decide (m - 1 = 0)))).heap[n]? = some (.cells #[vb, vc, .bool true, .bool (decide (m - 1 = 0)), .int .i64 ((m - 1 : Nat) : Int)] 90 (0, 0)) := by
      exact set_blk (set_blk HH.out.blk 4 (.int .i64 ((m - 1 : Nat) : Int))) 3 (.bool (decide (m - 1 = 0)))
    have hT := (Turn.cell1 w n 4 (.int .i64 ((m - 1 : Nat) : Int))).trans (Turn.cell1 (w.setCell ⟨n, 4, none⟩ (.int .i64 ((m - 1 : Nat) : Int))) n 3 (.bool (decide (m - 1 = 0))))
    have := HH.out.head hT (stepD s) (by rw [HM.out]; exact hblk) (stepD_blocks s) (stepD_cache s) (stepD_ok HH.out.ok)
    exact HR.out _ _ ⟨by rw [HM.out]; rfl, this.1, this.2⟩
end Go.Proofs.YteppfjgglelpbaaGreat
/- The program's disk: read, write, arm, boot, over, size, down. -/
set_option maxRecDepth 100000
namespace Ks
open Go Go.RowKit
set_option linter.unusedVariables false
theorem showC_hit (b : List ByteArray) (c : List PutT) (m : Nat) (i : Int) (x : PutT) (hx : c[m]? = some x) (h : x.1 = i) : showC b (c.take (m + 1)) i = x.2 := by
  have hm := (List.getElem?_eq_some_iff.1 hx).1
  have e : c.take (m + 1) = c.take m ++ [x] := by rw [List.take_succ_eq_append_getElem hm]; congr; exact (List.getElem?_eq_some_iff.1 hx).2
  rw [e, showC_snoc, if_pos h]
theorem showC_miss (b : List ByteArray) (c : List PutT) (m : Nat) (i : Int) (x : PutT) (hx : c[m]? = some x) (h : x.1 ≠ i) : showC b (c.take (m + 1)) i = showC b (c.take m) i := by
  have hm := (List.getElem?_eq_some_iff.1 hx).1
  have e : c.take (m + 1) = c.take m ++ [x] := by rw [List.take_succ_eq_append_getElem hm]; congr; exact (List.getElem?_eq_some_iff.1 hx).2
  rw [e, showC_snoc, if_neg h]
end Ks
namespace Go.Proofs.YteppfjgglelpbaaGreat
open Go.RowKit Ks
set_option linter.unusedVariables false
variable {n : Nat} {vb vc : Value} {s : DS}
theorem infoStr : (Tryz.prog.info? 9).map (fun i => (i.zero, i.size, i.bytes)) = some (some (.string ⟨#[]⟩), 1, 16) := by kernel_rfl
theorem infoPut : (Tryz.prog.info? 97).map (fun i => (i.zero, i.size, i.bytes)) = some (some (.agg #[.int .i64 0, .string ⟨#[]⟩]), 2, 24) := by kernel_rfl
theorem strT : ElemT Tryz.prog 38 9 strE.k 16 := elemT_of Tryz.underlying38 infoStr rfl
theorem pwT : ElemT Tryz.prog 53 97 pwE.k 24 := elemT_of Tryz.underlying53 infoPut rfl

set_option maxHeartbeats 1000000 in
theorem dread_any (i : Int) (w : World) (h : DkAt w n vb vc s) : Calls Tryz.prog 46 #[.pointer (some ⟨n, 0, none⟩), .int .i64 i] w fun e w' => e = .returned (.tuple #[.string (readD s i).1, .int .i64 (readD s i).2]) ∧ w' = w := by
  refine calls_by fun R HR => ?_
  have HM := Lib.hid (dmay_any w h)
  have HA := Lib.hid (dat_any i w h)
  have HH := Lib.hid h
  obtain ⟨c0, c1, c2, c3, c4⟩ := h.cells
  obtain ⟨a0, cap0, hv0, _⟩ := h.rb.shape
  obtain ⟨a1, cap1, hv1, _⟩ := h.rc.shape
  have RB := h.rb.rd
  have RC := h.rc.rd
  have hcl := h.ok.cache
  subst hv0 hv1
  clear h c2 c3 c4
  cases hd : s.down
  · have HM2 := Lib.hid (show mayN s = 0 by rw [mayN, hd]; rfl)
    cases hi : inD s i
    · have HV := Lib.hid (show readD s i = (⟨#[]⟩, 4) by simp [readD, hd, hi])
      rw [hi] at HA
      clear hd hi c0 c1 RB RC
      go_enter Tryz.func46, Tryz.ntmps46
      go_wp2_with fail
      refine HM.out.mono ?_
      rintro e w1 ⟨rfl, rfl⟩
      rw [HM2.out]
      go_wp2_with fail
      refine HA.out.mono ?_
      rintro e w1 ⟨rfl, rfl⟩
      go_wp2
      exact HR.out _ _ ⟨by rw [HV.out]; rfl, rfl⟩
    · have HV := Lib.hid (show readD s i = (showC s.blocks s.cache i, 0) by simp [readD, hd, hi])
      rw [hi] at HA
      rw [inD_iff] at hi
      obtain ⟨i, rfl⟩ := Int.eq_ofNat_of_zero_le hi.1
      have hil : i < s.blocks.length := by omega
      obtain ⟨gb, ob, rfl, hgb, cb⟩ := RB.str i hil
      obtain ⟨x0, hx0⟩ : ∃ x, s.blocks[i] = x := ⟨_, rfl⟩
      have HX0 := Lib.hid (show s.blocks.getD ((i : Int)).toNat ⟨#[]⟩ = x0 by rw [← hx0]; simp [hil])
      rw [hx0] at cb
      have HC : Hid (showC s.blocks s.cache i = showC s.blocks (s.cache.take s.cache.length) i) := Lib.hid (by rw [List.take_length])
      have HRC := Lib.hid RC
      obtain ⟨bl, hbl⟩ : ∃ bl, s.blocks = bl := ⟨_, rfl⟩
      obtain ⟨cl, hcl2⟩ : ∃ cl, s.cache = cl := ⟨_, rfl⟩
      rw [hbl, hcl2] at HC HV
      rw [hbl] at hil HX0 c0
      rw [hcl2] at HRC hcl c1
      have HI := Lib.hid hi
      clear hd hi hx0 RB RC hbl hcl2
      go_enter Tryz.func46, Tryz.ntmps46
      go_wp2_with fail
      refine HM.out.mono ?_
      rintro e w1 ⟨rfl, rfl⟩
      rw [HM2.out]
      go_wp2_with fail
      refine HA.out.mono ?_
      rintro e w1 ⟨rfl, rfl⟩
      have hclI : (cl.length : Int) ≤ 4096 := by omega
      clear hcl
      go_wp2_with fail
      go_loopg [7] 4097 (fun g k wx => ∃ (m : Nat) (x : Int), k = .int .i64 x ∧ x = (m : Int) - 1 ∧ m ≤ cl.length ∧ Hid (m ≤ g) ∧ Hid (showC bl cl i = showC bl (cl.take m) i) ∧ wx = w1)
      case atStart => exact ⟨cl.length, _, rfl, rfl, Nat.le_refl _, Lib.hid (by omega), HC, rfl⟩
      case round =>
        obtain ⟨m, x, rfl, hx, hm, hg, hS, rfl⟩ := hrel
        cases m with
        | zero =>
          obtain rfl : x = -1 := by omega
          have HS := Lib.hid (show showC bl cl i = x0 by rw [hS.out, List.take_zero, showC]; exact HX0.out)
          clear hS hx
          go_wp2
          exact HR.out _ _ ⟨by rw [HV.out, HS.out]; rfl, rfl⟩
        | succ m =>
          obtain rfl : x = (m : Int) := by omega
          obtain ⟨p, hp⟩ : ∃ p, cl[m]? = some p := ⟨_, List.getElem?_eq_getElem (by omega)⟩
          obtain ⟨gc, oc, rfl, hgc, d0, d1⟩ := HRC.out.putAt m p hp
          obtain ⟨pa, pd⟩ := p
          simp only at d0 d1
          have hmI : (m : Int) < (cl.length : Int) := by omega
          by_cases hpi : pa = i
          · have HS := Lib.hid (show showC bl cl i = pd by rw [hS.out]; exact showC_hit bl cl m i _ hp hpi)
            have heq : (pa == (i : Int)) = true := by rw [beq_iff_eq]; exact hpi
            clear hS hp hx hpi
            go_wp2
            exact HR.out _ _ ⟨by rw [HV.out, HS.out]; rfl, rfl⟩
          · have HS := Lib.hid (show showC bl cl i = showC bl (cl.take m) i by rw [hS.out]; exact showC_miss bl cl m i _ hp hpi)
            have heq : (pa == (i : Int)) = false := by rw [beq_eq_false_iff_ne]; exact hpi
            clear hS hp hx hpi
            go_wp2_with fail
            go_roundg (gk - 1)
            case rel => exact ⟨m, _, rfl, rfl, by omega, Lib.hid (by have := hg.out; omega), HS, rfl⟩
            case measure => have := hg.out; omega
  · have HM2 := Lib.hid (show mayN s = 14 by rw [mayN, hd]; rfl)
    have HV := Lib.hid (show readD s i = (⟨#[]⟩, 14) by simp [readD, hd])
    clear hd c0 c1 RB RC
    go_enter Tryz.func46, Tryz.ntmps46
    go_wp2_with fail
    refine HM.out.mono ?_
    rintro e w1 ⟨rfl, rfl⟩
    rw [HM2.out]
    go_wp2
    exact HR.out _ _ ⟨by rw [HV.out]; rfl, rfl⟩

set_option maxRecDepth 20000 in
set_option maxHeartbeats 1000000 in
theorem dwrite_any (i : Int) (t : ByteArray) (w : World) (h : DkAt w n vb vc s) : Calls Tryz.prog 65 #[.pointer (some ⟨n, 0, none⟩), .int .i64 i, .string t] w fun e w' => ∃ vc', e = .returned (.int .i64 (writeE s i t)) ∧ DkAt w' n vb vc' (writeD s i t) ∧ Turn w w' (DF n vb vc) (DF n vb vc') := by
  refine calls_by fun R HR => ?_
  have HM := Lib.hid (dmay_any w h)
  have HP := Lib.hid (dplace_any i t w h)
  have HH := Lib.hid h
  obtain ⟨c0, c1, c2, c3, c4⟩ := h.cells
  obtain ⟨a0, cap0, hv0, _⟩ := h.rb.shape
  obtain ⟨a1, cap1, hv1, _⟩ := h.rc.shape
  clear c2 c3 c4
  cases hd : s.down
  · have HM2 := Lib.hid (show mayN s = 0 by rw [mayN, hd]; rfl)
    by_cases hp : placeE s i t = 0
    · have hpi := place_in (show ¬ placeE s i t ≠ 0 by simpa using hp)
      rw [hp] at HP
      by_cases hf : 4096 ≤ s.cache.length
      · have HV := Lib.hid (show writeE s i t = 5 ∧ writeD s i t = s by simp [writeE, writeD, hd, hp, hf])
        have hfi : 4096 ≤ (s.cache.length : Int) := by omega
        rw [hv1] at c1
        clear h hd hp hpi
        generalize s.cache.length = cl at *
        go_enter Tryz.func65, Tryz.ntmps65
        go_wp2_with fail
        refine HM.out.mono ?_
        rintro e w1 ⟨rfl, rfl⟩
        rw [HM2.out]
        go_wp2_with fail
        refine HP.out.mono ?_
        rintro e w1 ⟨rfl, rfl⟩
        go_wp2
        exact HR.out _ _ ⟨vc, by rw [HV.out.1]; rfl, by rw [HV.out.2]; exact HH.out, Turn.refl _ _⟩
      · have hfi : ¬ 4096 ≤ (s.cache.length : Int) := by omega
        have HC := Lib.hid (show s.cache.length < 4096 by omega)
        have HS := Lib.hid (dstep_any w h hd)
        cases hs : (stepD s).down
        · have HV := Lib.hid (show writeE s i t = 0 ∧ writeD s i t = { stepD s with cache := s.cache ++ [(i, t)] } by simp [writeE, writeD, hd, hp, hf, hs])
          have HPI := Lib.hid hpi
          rw [hs] at HS
          rw [hv1] at c1
          clear h hd hp hf hs hpi
          go_enter Tryz.func65, Tryz.ntmps65
          go_wp2_with fail
          refine HM.out.mono ?_
          rintro e w1 ⟨rfl, rfl⟩
          rw [HM2.out]
          go_wp2_with fail
          refine HP.out.mono ?_
          rintro e w1 ⟨rfl, rfl⟩
          go_wp2_with fail
          refine HS.out.mono ?_
          rintro e w2 ⟨rfl, hd2, ht2⟩
          have HD := Lib.hid (And.intro hd2 ht2)
          have e1 := hd2.cells.2.1
          have f1 := hd2.froz 1
          rw [hv1] at e1
          have hrow : Row pwE w2 0 97 (.slice a1 s.cache.length cap1) s.cache := by rw [← hv1, ← stepD_cache s]; exact hd2.rc
          have HRow := Lib.hid hrow
          have HVC := Lib.hid hv1
          clear hd2 ht2 c1 c0 hfi hrow hv1
          go_wp2_with (at_builtin; refine wpList_append_row _ rfl _ _ 53 rfl pwT 0 _ _ s.cache [(i, t)] rfl rfl (HRow.out.below (alloc_below _ _)) (Rd.single (E := pwE) (i, t) (alloc_new _ _) rfl) (Nat.zero_le _) (by have := HC.out; simp; omega) (by decide) ?_)
          intro v' w3 hG
          have HG := Lib.hid hG
          have hnb : Value.ownBlock (.slice a1 s.cache.length cap1) ≠ some n := by rw [← HVC.out]; exact HD.out.1.nc
          have hb3 := hG.block (blk_keep HD.out.1.blk _) hnb
          have k1 : w3.cell? ⟨n, 1, none⟩ = some vc := by rw [cell_of_row w3 n 1 _ _ _ hb3]; rfl
          have g1 : w3.frozen? ⟨n, 1, none⟩ = false := frozen_of_row w3 n 1 _ _ hb3
          have HB3 := Lib.hid hb3
          obtain ⟨a2, n2, cap2, rfl⟩ := hG.1.any
          clear hG hb3 e1 f1 hnb
          rw [HVC.out] at k1
          go_wp2
          have hG := HG.out
          rw [← HVC.out, ← stepD_cache s] at hG
          obtain ⟨q1, q2⟩ := HD.out.1.append _ hG (by
            have h1 := stepD_ok HH.out.ok
            refine ⟨h1.blocks, by show (((stepD s).cache) ++ [(i, t)]).length ≤ _; rw [stepD_cache]; have := HC.out; simp; omega, fun p hp => ?_, h1.left⟩
            show 0 ≤ p.1 ∧ p.1 < ((stepD s).blocks.length : Int)
            rcases List.mem_append.1 hp with h2 | h2
            · exact h1.at_ p h2
            · simp at h2; subst h2; rw [stepD_blocks]; exact ⟨HPI.out.1, HPI.out.2.1⟩)
          rw [stepD_cache] at q1
          exact HR.out _ _ ⟨_, by rw [HV.out.1]; rfl, by rw [HV.out.2]; exact q1, HD.out.2.trans q2⟩
        · have HV := Lib.hid (show writeE s i t = 14 ∧ writeD s i t = stepD s by simp [writeE, writeD, hd, hp, hf, hs])
          rw [hs] at HS
          rw [hv1] at c1
          clear h hd hp hf hs hpi
          generalize s.cache.length = cl at *
          go_enter Tryz.func65, Tryz.ntmps65
          go_wp2_with fail
          refine HM.out.mono ?_
          rintro e w1 ⟨rfl, rfl⟩
          rw [HM2.out]
          go_wp2_with fail
          refine HP.out.mono ?_
          rintro e w1 ⟨rfl, rfl⟩
          go_wp2_with fail
          refine HS.out.mono ?_
          rintro e w2 ⟨rfl, hd2, ht2⟩
          have HD := Lib.hid (And.intro hd2 ht2)
          clear hd2 ht2
          go_wp2
          exact HR.out _ _ ⟨vc, by rw [HV.out.1]; rfl, by rw [HV.out.2]; exact HD.out.1, HD.out.2⟩
    · have HV := Lib.hid (show writeE s i t = placeE s i t ∧ writeD s i t = s by simp [writeE, writeD, hd, hp])
      have hpb : (placeE s i t != 0) = true := by rw [bne_iff_ne]; exact hp
      clear h hd hp c0 c1
      generalize placeE s i t = pe at *
      go_enter Tryz.func65, Tryz.ntmps65
      go_wp2_with fail
      refine HM.out.mono ?_
      rintro e w1 ⟨rfl, rfl⟩
      rw [HM2.out]
      go_wp2_with fail
      refine HP.out.mono ?_
      rintro e w1 ⟨rfl, rfl⟩
      go_wp2
      exact HR.out _ _ ⟨vc, by rw [HV.out.1]; rfl, by rw [HV.out.2]; exact HH.out, Turn.refl _ _⟩
  · have HM2 := Lib.hid (show mayN s = 14 by rw [mayN, hd]; rfl)
    have HV := Lib.hid (show writeE s i t = 14 ∧ writeD s i t = s by simp [writeE, writeD, hd])
    clear h hd c0 c1
    go_enter Tryz.func65, Tryz.ntmps65
    go_wp2_with fail
    refine HM.out.mono ?_
    rintro e w1 ⟨rfl, rfl⟩
    rw [HM2.out]
    go_wp2
    exact HR.out _ _ ⟨vc, by rw [HV.out.1]; rfl, by rw [HV.out.2]; exact HH.out, Turn.refl _ _⟩

set_option maxHeartbeats 1000000 in
theorem darm_any (m : Int) (w : World) (h : DkAt w n vb vc s) (hm : m ≤ 9223372036854775807) : Calls Tryz.prog 19 #[.pointer (some ⟨n, 0, none⟩), .int .i64 m] w fun e w' => e = .returned (.int .i64 (armE s m)) ∧ DkAt w' n vb vc (armD s m) ∧ Turn w w' (DF n vb vc) (DF n vb vc) := by
  refine calls_by fun R HR => ?_
  have HM := Lib.hid (dmay_any w h)
  have HH := Lib.hid h
  have c4 := h.cells.2.2.2.2
  have f4 := h.froz 4
  cases hd : s.down
  · have HM2 := Lib.hid (show mayN s = 0 by rw [mayN, hd]; rfl)
    by_cases hneg : m < 0
    · have HV := Lib.hid (show armE s m = 2 ∧ armD s m = s by simp [armE, armD, hd, hneg])
      clear h hd
      go_enter Tryz.func19, Tryz.ntmps19
      go_wp2_with fail
      refine HM.out.mono ?_
      rintro e w1 ⟨rfl, rfl⟩
      rw [HM2.out]
      go_wp2
      exact HR.out _ _ ⟨by rw [HV.out.1]; rfl, by rw [HV.out.2]; exact HH.out, Turn.refl _ _⟩
    · obtain ⟨k, rfl⟩ := Int.eq_ofNat_of_zero_le (show 0 ≤ m by omega)
      have HV := Lib.hid (show armE s k = 0 ∧ armD s k = { s with left := k } by simp [armE, armD, hd, hneg])
      have hdk := Lib.hid hd
      clear h hd
      go_enter Tryz.func19, Tryz.ntmps19
      go_wp2_with fail
      refine HM.out.mono ?_
      rintro e w1 ⟨rfl, rfl⟩
      rw [HM2.out]
      go_wp2
      obtain ⟨q1, q2⟩ := HH.out.head (Turn.cell1 w1 n 4 (.int .i64 (k : Nat))) { s with left := k } (set_blk HH.out.blk 4 _) rfl rfl ⟨HH.out.ok.blocks, HH.out.ok.cache, HH.out.ok.at_, by show k ≤ _; omega⟩
      exact HR.out _ _ ⟨by rw [HV.out.1]; rfl, by rw [HV.out.2]; exact q1, q2⟩
  · have HM2 := Lib.hid (show mayN s = 14 by rw [mayN, hd]; rfl)
    have HV := Lib.hid (show armE s m = 14 ∧ armD s m = s by simp [armE, armD, hd])
    clear h hd
    go_enter Tryz.func19, Tryz.ntmps19
    go_wp2_with fail
    refine HM.out.mono ?_
    rintro e w1 ⟨rfl, rfl⟩
    rw [HM2.out]
    go_wp2
    exact HR.out _ _ ⟨by rw [HV.out.1]; rfl, by rw [HV.out.2]; exact HH.out, Turn.refl _ _⟩

set_option maxHeartbeats 1000000 in
theorem dboot_any (w : World) (h : DkAt w n vb vc s) : Calls Tryz.prog 22 #[.pointer (some ⟨n, 0, none⟩)] w fun e w' => e = .returned (.int .i64 0) ∧ DkAt w' n vb (.slice none 0 0) (bootD s) ∧ Turn w w' (DF n vb vc) (DF n vb (.slice none 0 0)) := by
  refine calls_by fun R HR => ?_
  have HH := Lib.hid h
  obtain ⟨c0, c1, c2, c3, c4⟩ := h.cells
  have f1 := h.froz 1
  have f3 := h.froz 3
  have f4 := h.froz 4
  have HT := Lib.hid (dthere_yes n w c2)
  clear h c0 c2
  go_enter Tryz.func22, Tryz.ntmps22
  go_wp2_with fail
  refine HT.out.mono ?_
  rintro e w1 ⟨rfl, rfl⟩
  go_wp2
  have hT := ((Turn.cell w1 (F := fun k => k = n ∨ vc.ownBlock = some k) n 1 (.slice none 0 0) (Or.inl rfl)).trans (Turn.cell _ n 3 (.bool false) (Or.inl rfl))).trans (Turn.cell _ n 4 (.int .i64 0) (Or.inl rfl))
  obtain ⟨q1, q2⟩ := HH.out.cached (bootD s) hT (set_blk (set_blk (set_blk HH.out.blk 1 (.slice none 0 0)) 3 (.bool false)) 4 (.int .i64 0)) (Row.nil _ _ _) (fun b e => by simp [Value.ownBlock] at e) rfl (bootD_ok HH.out.ok)
  exact HR.out _ _ ⟨rfl, q1, q2⟩

theorem dsize_any (w : World) (h : DkAt w n vb vc s) : Calls Tryz.prog 47 #[.pointer (some ⟨n, 0, none⟩)] w fun e w' => e = .returned (.int .i64 (s.blocks.length : Nat)) ∧ w' = w := by
  refine calls_by fun R HR => ?_
  obtain ⟨c0, c1, c2, c3, c4⟩ := h.cells
  have HT := Lib.hid (dthere_yes n w c2)
  obtain ⟨a0, cap0, hv0, _⟩ := h.rb.shape
  rw [hv0] at c0
  clear h c1 c2 c3 c4 hv0
  generalize s.blocks.length = m at *
  go_enter Tryz.func47, Tryz.ntmps47
  go_wp2_with fail
  refine HT.out.mono ?_
  rintro e w1 ⟨rfl, rfl⟩
  go_wp2
  exact HR.out _ _ ⟨rfl, rfl⟩
theorem ddown_any (w : World) (h : DkAt w n vb vc s) : Calls Tryz.prog 27 #[.pointer (some ⟨n, 0, none⟩)] w fun e w' => e = .returned (.bool s.down) ∧ w' = w := by
  refine calls_by fun R HR => ?_
  obtain ⟨c0, c1, c2, c3, c4⟩ := h.cells
  have HT := Lib.hid (dthere_yes n w c2)
  clear h c0 c1 c2 c4
  go_enter Tryz.func27, Tryz.ntmps27
  go_wp2_with fail
  refine HT.out.mono ?_
  rintro e w1 ⟨rfl, rfl⟩
  go_wp2
  exact HR.out _ _ ⟨rfl, rfl⟩
end Go.Proofs.YteppfjgglelpbaaGreat
/- The program's disk: the writes of the cache are done. -/
set_option maxRecDepth 100000
namespace Ks
open Go Go.RowKit
set_option linter.unusedVariables false
/-- the writes that are said, one by one -/
def putF (f : Nat → Bool) : List PutT → Nat → List ByteArray → List ByteArray
  | [], _, b => b
  | p :: c, k, b => putF f c (k + 1) (if f k then putC b p else b)
theorem putF_all (c : List PutT) (k : Nat) (b : List ByteArray) : putF (fun _ => true) c k b = c.foldl putC b := by
  induction c generalizing k b with
  | nil => rfl
  | cons p c ih => rw [putF, ih]; rfl
theorem putF_kept (keep : List Int) (c : List PutT) (k : Nat) (b : List ByteArray) : putF (fun k => decide ((k : Int) ∈ keep)) c k b = (keptC keep c k).foldl putC b := by
  induction c generalizing k b with
  | nil => rfl
  | cons p c ih =>
    rw [putF, ih, keptC]
    by_cases h : (k : Int) ∈ keep <;> simp [h]
theorem putF_step (f : Nat → Bool) (c : List PutT) (k : Nat) (b : List ByteArray) (p : PutT) (h : c[k]? = some p) : putF f (c.drop k) k b = putF f (c.drop (k + 1)) (k + 1) (if f k then putC b p else b) := by
  have hk := (List.getElem?_eq_some_iff.1 h).1
  have e : c[k] = p := (List.getElem?_eq_some_iff.1 h).2
  rw [List.drop_eq_getElem_cons hk, e, putF]
end Ks
namespace Go.Proofs.YteppfjgglelpbaaGreat
open Go.RowKit Ks
set_option linter.unusedVariables false
variable {n : Nat} {vb vc : Value} {s : DS}

theorem row_frozen {α : Type} {E : Enc α} {w : World} {B : Nat} {T : TypeId} {g m cap : Nat} {l : List α} (h : Row E w B T (.slice (some ⟨g, 0, none⟩) m cap) l) (o : Nat) : w.frozen? ⟨g, o, none⟩ = false := by
  rcases h.2 with ⟨e, _⟩ | ⟨g', cap', cur, e, _, hgb, _⟩
  · cases e
  · cases e
    exact frozen_of_row w g o _ _ hgb

set_option maxRecDepth 20000 in
set_option maxHeartbeats 2000000 in
theorem ddo_any (g : Nat) (lb : Array Value) (eg : ∀ args w, (callFunc g args).run Tryz.prog w = .ok (.enter g args) w) (f : Nat → Bool) (w : World) (h : DkAt w n vb vc s)
    (hc : ∀ (k : Nat) (wx : World), k < s.cache.length → Turn w wx (DF n vb vc) (DF n vb vc) → Calls Tryz.prog g (#[.int .i64 (k : Int)] ++ lb) wx fun e w'' => e = .returned (.bool (f k)) ∧ Below wx.heap.size wx w'') :
    Calls Tryz.prog 58 #[.pointer (some ⟨n, 0, none⟩), .func (.func g) #[] lb] w fun e w' => e = .returned (.tuple #[]) ∧ DkAt w' n vb (.slice none 0 0) { s with blocks := putF f s.cache 0 s.blocks, cache := [] } ∧ Turn w w' (DF n vb vc) (DF n vb (.slice none 0 0)) := by
  refine calls_by fun R HR => ?_
  have HH := Lib.hid h
  have c1 := h.cells.2.1
  obtain ⟨a1, cap1, hv1, _⟩ := h.rc.shape
  rw [hv1] at c1
  have HV1 := Lib.hid hv1
  have Hc := Lib.hid hc
  have hcl := h.ok.cache
  clear h hc hv1
  obtain ⟨ln, hln⟩ : ∃ ln, s.cache.length = ln := ⟨_, rfl⟩
  rw [hln] at c1 hcl
  have HLN := Lib.hid hln
  clear hln
  go_enter Tryz.func58, Tryz.ntmps58
  go_wp2_with fail
  go_loopw [12] (fun i wx => ∃ (k : Nat) (bk : List ByteArray), k ≤ ln ∧ i = .int .i64 k ∧ Hid (DkAt wx n vb vc { s with blocks := bk } ∧ Turn w wx (DF n vb vc) (DF n vb vc) ∧ bk.length = s.blocks.length ∧ putF f (s.cache.drop k) k bk = putF f s.cache 0 s.blocks)) (fun i _ => ln - (intOf i).toNat)
  case atStart => exact ⟨0, s.blocks, by omega, rfl, Lib.hid ⟨HH.out, Turn.refl _ _, rfl, rfl⟩⟩
  case round =>
    obtain ⟨k, bk, hk, rfl, hN⟩ := hrel
    by_cases hlt : k < ln
    · obtain ⟨p, hp⟩ : ∃ p, s.cache[k]? = some p := ⟨_, List.getElem?_eq_getElem (by rw [HLN.out]; exact hlt)⟩
      have hrc := hN.out.1.rc.rd
      rw [HV1.out] at hrc
      obtain ⟨gc, oc, rfl, hgc, d0, d1⟩ := hrc.putAt k p hp
      have HS := Lib.hid (putF_step f s.cache k bk p hp)
      have HPA := Lib.hid (HH.out.ok.at_ p (List.mem_of_getElem? hp))
      obtain ⟨pa, pd⟩ := p
      simp only at d0 d1
      have hki : (k : Int) < (ln : Int) := by omega
      clear hrc hp
      have hT1 : Turn w (wr.alloc (.cells #[.int .i64 pa, .string pd] 97)) (DF n vb vc) (DF n vb vc) := hN.out.2.1.trans (Turn.of_below _ (alloc_below wr _))
      have HD1 := Lib.hid (And.intro (hN.out.1.below (alloc_below wr (.cells #[.int .i64 pa, .string pd] 97))) (And.intro hT1 (alloc_new wr (.cells #[.int .i64 pa, .string pd] 97))))
      have TC := Lib.hid (Hc.out k _ (by rw [HLN.out]; exact hlt) hT1)
      clear hT1
      cases hf : f k
      · rw [hf] at TC HS
        clear hf
        go_wp2_with fail
        refine TC.out.mono ?_
        rintro e w2 ⟨rfl, hb⟩
        have HM := Lib.hid (And.intro (HD1.out.1.below hb) (And.intro (HD1.out.2.1.trans (Turn.of_below _ hb)) (And.intro hN.out.2.2.1 (HS.out.symm.trans hN.out.2.2.2))))
        clear hb d0 d1
        go_wp2_with fail
        go_roundw
        case rel => exact ⟨k + 1, bk, by omega, by go_num, HM⟩
        case measure => simp [intOf]; omega
      · rw [hf] at TC HS
        clear hf
        go_wp2_with fail
        refine TC.out.mono ?_
        rintro e w2 ⟨rfl, hb⟩
        have HM := Lib.hid (And.intro (HD1.out.1.below hb) (And.intro (HD1.out.2.1.trans (Turn.of_below _ hb)) ((hb.block _ (lt_of_block HD1.out.2.2)).trans HD1.out.2.2)))
        clear hb d0 d1
        obtain ⟨pi, rfl⟩ : ∃ pi : Nat, pa = (pi : Int) := Int.eq_ofNat_of_zero_le HPA.out.1
        have hpl : pi < bk.length := by have := HPA.out.2; have h2 := hN.out.2.2.1; omega
        obtain ⟨g1, cap, hvb, hcap, _, hg1, _⟩ := HM.out.1.rb.pos (by show 0 < bk.length; omega)
        change vb = .slice (some ⟨g1, 0, none⟩) bk.length cap at hvb
        have hrb : Row strE w2 0 9 (.slice (some ⟨g1, 0, none⟩) bk.length cap) bk := hvb ▸ HM.out.1.rb
        obtain ⟨g2, o2, e, _, cg⟩ := hrb.rd.str pi hpl
        simp only [Option.some.injEq, Addr.mk.injEq, and_true] at e
        obtain ⟨rfl, rfl⟩ := e
        rw [Nat.zero_add] at cg
        have fg := row_frozen hrb pi
        have c0 := HM.out.1.cells.1
        have e0 : w2.cell? ⟨wr.heap.size, 0, none⟩ = some (.int .i64 (pi : Nat)) := by rw [cell_of_row w2 _ 0 _ _ _ HM.out.2.2]; rfl
        have e1 : w2.cell? ⟨wr.heap.size, 1, none⟩ = some (.string pd) := by rw [cell_of_row w2 _ 1 _ _ _ HM.out.2.2]; rfl
        rw [hvb] at c0
        have hpli : (pi : Int) < (bk.length : Int) := by omega
        have HVB := Lib.hid (And.intro hvb hrb)
        have HPL := Lib.hid hpl
        clear hvb hrb
        obtain ⟨x, cg'⟩ : ∃ x, w2.cell? ⟨g1, pi, none⟩ = some (.string x) := ⟨_, cg⟩
        clear cg hpl
        go_wp2_with fail
        refine wp_region_still_tail 10 (by kernel_rfl) (by kernel_rfl) ?_
        simp only [List.take_succ_cons, List.take_zero, List.drop_succ_cons, List.drop_zero]
        repeat still_step
        refine wpStill_nil ?_
        change wpList _ _ _ _ _ w2.drew
        have hb3 := drew_below w2
        have HM3 := Lib.hid (And.intro (HM.out.1.below hb3) (And.intro (HM.out.2.1.trans (Turn.of_below _ hb3)) (HVB.out.2.below hb3)))
        have cg3 : w2.drew.cell? ⟨g1, pi, none⟩ = some (.string x) := cg'
        have fg3 : w2.drew.frozen? ⟨g1, pi, none⟩ = false := fg
        clear hb3 c0 e0 e1 cg' fg HM
        generalize w2.drew = w3 at *
        go_wp2_with fail
        obtain ⟨q1, q2⟩ := HM3.out.1.rows (Turn.cell1 w3 g1 pi (.string pd) |>.wide (G := fun k => vb.ownBlock = some k) (G' := fun k => vb.ownBlock = some k) (fun k hk => by subst hk; rw [HVB.out.1]; rfl) (fun k hk => Or.inr (Or.inl hk))) (bk.set pi pd) (by rw [HVB.out.1]; exact HM3.out.2.2.set1 rfl pi HPL.out pd _ rfl)
          ⟨by show (bk.set _ _).length ≤ _; rw [List.length_set]; exact HM3.out.1.ok.blocks, HM3.out.1.ok.cache, fun p hp => by show _ ∧ _ < ((bk.set _ _).length : Int); rw [List.length_set]; exact HM3.out.1.ok.at_ p hp, HM3.out.1.ok.left⟩
        have HQ := Lib.hid (And.intro q1 (And.intro (HM3.out.2.1.trans q2) (And.intro (show (bk.set pi pd).length = s.blocks.length by rw [List.length_set]; exact hN.out.2.2.1) (HS.out.symm.trans hN.out.2.2.2))))
        clear q1 q2
        go_roundw
        case rel => exact ⟨k + 1, bk.set pi pd, by omega, by go_num, HQ⟩
        case measure => simp [intOf]; omega
    · obtain rfl : k = ln := by omega
      have HF := Lib.hid (show bk = putF f s.cache 0 s.blocks by have := hN.out.2.2.2; rw [List.drop_eq_nil_of_le (by rw [HLN.out]; exact Nat.le_refl _)] at this; exact this)
      have d1 := hN.out.1.cells.2.1
      have f1 := hN.out.1.froz 1
      clear hlt hk c1
      go_wp2_with fail
      have hT := Turn.cell wr (F := fun k => k = n ∨ vc.ownBlock = some k) n 1 (.slice none 0 0) (Or.inl rfl)
      obtain ⟨q1, q2⟩ := hN.out.1.cached { s with blocks := bk, cache := [] } hT (set_blk hN.out.1.blk 1 (.slice none 0 0)) (Row.nil _ _ _) (fun b e => by simp [Value.ownBlock] at e) rfl
        ⟨hN.out.1.ok.blocks, Nat.zero_le _, (fun p hp => by cases hp), hN.out.1.ok.left⟩
      rw [HF.out] at q1
      go_end0
      exact HR.out _ _ ⟨rfl, q1, hN.out.2.1.trans q2⟩
end Go.Proofs.YteppfjgglelpbaaGreat
/- A map of bools that a call made: what it has, of the numbers that were put. Plain. No program is in sight. -/
namespace Ks
open Go Go.RowKit Go.Maps
set_option linter.unusedVariables false
section
variable {H : Type} {P : Program}
theorem lookup_bool {k e t : TypeId} {w : World} {b n : Nat} {D : DataW H} (h : w.ownsMap P k (plainElem P e) b n D) (K : Keyed P k) (ht : P.underlying t = some (.map k e)) (he : P.underlying e = some .bool) (hz : (zeroValue e).run P w = .ok (.bool false) w)
    {key : Value} {kl : Lit} (hkey : keyOf P k key = some kl) (x : Bool) (hx : D.atKey kl (.lit (.bool false)) = .lit (.bool x)) : (Instr.lookup t (.map (some b)) key false).run P w = .ok (.bool x) w := by
  obtain ⟨v, ps, hrun, hv⟩ := h.lookup K ht hz (plainElem_bool he false) hkey
  rw [hx] at hv
  unfold plainElem at hv
  rw [he] at hv
  cases v <;> simp at hv
  obtain ⟨rfl, _⟩ := hv
  exact hrun
theorem wpList_lookup_own_bool (w : World) {ops : Array Oper} {rest : List Oper} {o : Oper} {a : Act} {Q : Exit → Act → World → Prop}
    (hg : o.guard = none) (m x : Operand) (t : TypeId) (hop : o.op = Op.lookup t m x false)
    (k e : TypeId) (K : Keyed P k) (ht : P.underlying t = some (.map k e)) (he : P.underlying e = some .bool) (hz : (zeroValue e).run P w = .ok (.bool false) w) (b n : Nat) (D : DataW H)
    (hm : a.eval m = .map (some b)) (hown : w.ownsMap P k (plainElem P e) b n D) (key : Value) (kl : Lit) (hx : a.eval x = key) (hkey : keyOf P k key = some kl) (c : Bool) (hc : D.atKey kl (.lit (.bool false)) = .lit (.bool c))
    (hK : wpList P ops Q rest (a.put o.dst (.bool c)) w) :
    wpList P ops Q (o :: rest) a w := by
  refine wpList_plain hg fun K' hK' => ?_
  have hrun := lookup_bool hown K ht he hz hkey c hc
  unfold Oper.wp
  simp [execOp, hop, hm, hx, hrun, Result.andThen]
  exact hK' _ _ hK
end
/-- the map of these numbers -/
def keepM (l : List Int) : DataW Unit := l.foldl (fun m x => m.put (.int .i64 x) (.lit (.bool true))) (.map [])
theorem keepM_snoc (l : List Int) (x : Int) : keepM (l ++ [x]) = (keepM l).put (.int .i64 x) (.lit (.bool true)) := by simp [keepM]
theorem keepM_map (l : List Int) : IsMap (keepM l) := by
  have key : ∀ (l : List Int) (m : DataW Unit), IsMap m → IsMap (l.foldl (fun m x => m.put (.int .i64 x) (.lit (.bool true))) m) := by
    intro l
    induction l with
    | nil => intro m h; exact h
    | cons x l ih => intro m h; exact ih _ (h.put _ _)
  exact key l _ isMap_empty
theorem keepM_at (l : List Int) (x : Int) : (keepM l).atKey (.int .i64 x) (.lit (.bool false)) = .lit (.bool (decide (x ∈ l))) := by
  have key : ∀ (l : List Int) (m : DataW Unit) (d : List Int), IsMap m → m.atKey (.int .i64 x) (.lit (.bool false)) = .lit (.bool (decide (x ∈ d))) → (l.foldl (fun m y => m.put (.int .i64 y) (.lit (.bool true))) m).atKey (.int .i64 x) (.lit (.bool false)) = .lit (.bool (decide (x ∈ d ++ l))) := by
    intro l
    induction l with
    | nil => intro m d hm h; simpa using h
    | cons y l ih =>
      intro m d hm h
      have := ih (m.put (.int .i64 y) (.lit (.bool true))) (d ++ [y]) (hm.put _ _) ?_
      · simpa using this
      · by_cases e : x = y
        · subst e
          rw [atKey_put_same hm (by trivial)]
          simp
        · rw [atKey_put_other (by simp [e]), h]
          simp [e]
  have := key l (.map []) [] isMap_empty (by rfl)
  rw [List.nil_append] at this
  exact this
end Ks
/- The program's disk: flush and crash. -/
set_option maxRecDepth 100000
namespace Ks
open Go Go.RowKit
set_option linter.unusedVariables false
theorem RdI.nth {w : World} {a : Option Addr} {n cap : Nat} {l : List Int} (h : RdI w (.slice a n cap) l) (i : Nat) (hi : i < l.length) : ∃ b off, a = some ⟨b, off, none⟩ ∧ b < w.heap.size ∧ w.cell? ⟨b, off + i, none⟩ = some (.int .i64 l[i]) ∧ -9223372036854775808 ≤ l[i] ∧ l[i] ≤ 9223372036854775807 := by
  obtain ⟨b, o, h1, h2, h3⟩ := h.cell i hi
  exact ⟨b, o, h1, h2, h3, h.range i hi⟩
end Ks
namespace Go.Proofs.YteppfjgglelpbaaGreat
open Go.RowKit Ks
set_option linter.unusedVariables false
variable {n : Nat} {vb vc : Value} {s : DS}

theorem flush1_any (k : Int) (w : World) : Calls Tryz.prog 73 #[.int .i64 k] w fun e w' => e = .returned (.bool true) ∧ Below w.heap.size w w' := by
  go_enter Tryz.func73, Tryz.ntmps73
  go_wp2
  go_ret
  exact ⟨rfl, Below.refl _ _⟩

set_option maxHeartbeats 1000000 in
theorem dflush_any (w : World) (h : DkAt w n vb vc s) : Calls Tryz.prog 41 #[.pointer (some ⟨n, 0, none⟩)] w fun e w' => ∃ vc', e = .returned (.int .i64 (flushE s)) ∧ DkAt w' n vb vc' (flushD s) ∧ Turn w w' (DF n vb vc) (DF n vb vc') := by
  refine calls_by fun R HR => ?_
  have HM := Lib.hid (dmay_any w h)
  have HH := Lib.hid h
  cases hd : s.down
  · have HM2 := Lib.hid (show mayN s = 0 by rw [mayN, hd]; rfl)
    have HS := Lib.hid (dstep_any w h hd)
    cases hs : (stepD s).down
    · have HV := Lib.hid (show flushE s = 0 ∧ flushD s = { stepD s with blocks := s.cache.foldl putC s.blocks, cache := [] } by simp [flushE, flushD, hd, hs])
      rw [hs] at HS
      clear h hd hs
      go_enter Tryz.func41, Tryz.ntmps41
      go_wp2_with fail
      refine HM.out.mono ?_
      rintro e w1 ⟨rfl, rfl⟩
      rw [HM2.out]
      go_wp2_with fail
      refine HS.out.mono ?_
      rintro e w2 ⟨rfl, hd2, ht2⟩
      have HD := Lib.hid (And.intro hd2 ht2)
      clear hd2 ht2
      go_wp2_with fail
      refine (ddo_any 73 #[] (fun _ _ => rfl) (fun _ => true) _ HD.out.1 (fun k wx _ _ => flush1_any k wx)).mono ?_
      rintro e w3 ⟨rfl, hd3, ht3⟩
      have HD3 := Lib.hid (And.intro hd3 ht3)
      clear hd3 ht3
      go_wp2
      refine HR.out _ _ ⟨.slice none 0 0, by rw [HV.out.1]; rfl, ?_, HD.out.2.trans HD3.out.2⟩
      have := HD3.out.1
      rw [putF_all, stepD_cache, stepD_blocks] at this
      rw [HV.out.2]; exact this
    · have HV := Lib.hid (show flushE s = 14 ∧ flushD s = stepD s by simp [flushE, flushD, hd, hs])
      rw [hs] at HS
      clear h hd hs
      go_enter Tryz.func41, Tryz.ntmps41
      go_wp2_with fail
      refine HM.out.mono ?_
      rintro e w1 ⟨rfl, rfl⟩
      rw [HM2.out]
      go_wp2_with fail
      refine HS.out.mono ?_
      rintro e w2 ⟨rfl, hd2, ht2⟩
      have HD := Lib.hid (And.intro hd2 ht2)
      clear hd2 ht2
      go_wp2
      exact HR.out _ _ ⟨vc, by rw [HV.out.1]; rfl, by rw [HV.out.2]; exact HD.out.1, HD.out.2⟩
  · have HM2 := Lib.hid (show mayN s = 14 by rw [mayN, hd]; rfl)
    have HV := Lib.hid (show flushE s = 14 ∧ flushD s = s by simp [flushE, flushD, hd])
    clear h hd
    go_enter Tryz.func41, Tryz.ntmps41
    go_wp2_with fail
    refine HM.out.mono ?_
    rintro e w1 ⟨rfl, rfl⟩
    rw [HM2.out]
    go_wp2
    exact HR.out _ _ ⟨vc, by rw [HV.out.1]; rfl, by rw [HV.out.2]; exact HH.out, Turn.refl _ _⟩

theorem zeroBool (w : World) : (zeroValue 4).run Tryz.prog w = .ok (.bool false) w := by kernel_rfl
theorem intKey : Go.Maps.Keyed Tryz.prog 3 := Go.Maps.int_keyed Tryz.underlying3
theorem crash1_any (k : Int) (keep : List Int) (m b c : Nat) (w : World) (hk : -9223372036854775808 ≤ k ∧ k ≤ 9223372036854775807) (hm : w.cell? ⟨m, 0, none⟩ = some (.map (some b))) (hb : w.ownsMap Tryz.prog 3 (plainElem Tryz.prog 4) b c (keepM keep)) :
    Calls Tryz.prog 59 #[.int .i64 k, .pointer (some ⟨m, 0, none⟩)] w fun e w' => e = .returned (.bool (decide (k ∈ keep))) ∧ Below w.heap.size w w' := by
  refine calls_by fun R HR => ?_
  have HB := Lib.hid hb
  have hwf : (Lit.int .i64 k).wf = true := by simp [Lit.wf, IntKind.min, IntKind.max, IntKind.signed, IntKind.bits]; omega
  have HKL := Lib.hid (Go.Maps.keyOf_int_mk (P := Tryz.prog) Tryz.underlying3 hwf)
  clear hb hwf
  go_enter Tryz.func59, Tryz.ntmps59
  go_wp2_with (at_lookup; refine wpList_lookup_own_bool _ rfl _ _ 93 rfl 3 4 intKey Tryz.underlying93 Tryz.underlying4 (zeroBool _) b c _ rfl HB.out _ _ rfl HKL.out _ (keepM_at keep k) ?_)
  exact HR.out _ _ ⟨rfl, Below.refl _ _⟩

set_option maxHeartbeats 2000000 in
theorem dcrash_any (kv : Value) (keep : List Int) (w : World) (h : DkAt w n vb vc s) (hkv : RdI w kv keep) (hkl : keep.length ≤ 9223372036854775807) : Calls Tryz.prog 21 #[.pointer (some ⟨n, 0, none⟩), kv] w fun e w' => ∃ vc', e = .returned (.int .i64 0) ∧ DkAt w' n vb vc' (crashD s keep) ∧ Turn w w' (DF n vb vc) (DF n vb vc') := by
  refine calls_by fun R HR => ?_
  obtain ⟨a, cap, hv, _⟩ := id hkv
  subst hv
  have HT := Lib.hid (dthere_yes n w h.cells.2.2.1)
  have HH := Lib.hid (And.intro h hkv)
  have hmm := @run_makeMap Tryz.prog
  rename_i hcapP
  clear h hkv hcapP
  go_enter Tryz.func21, Tryz.ntmps21
  go_wp2_with fail
  refine HT.out.mono ?_
  rintro e w1 ⟨rfl, rfl⟩
  go_wp2_with fail
  have hb0 : Below w1.heap.size w1 ((w1.alloc (.map #[] 0)).alloc (.cells #[.map (some w1.heap.size)] 93)) := (alloc_below w1 _).alloc (by simp) _
  have hm0 : ((w1.alloc (.map #[] 0)).alloc (.cells #[.map (some w1.heap.size)] 93)).ownsMap Tryz.prog 3 (plainElem Tryz.prog 4) w1.heap.size 0 (keepM []) := (World.ownsMap_made w1 Tryz.prog 3 _).alloc _
  have hc0 : ((w1.alloc (.map #[] 0)).alloc (.cells #[.map (some w1.heap.size)] 93)).heap[w1.heap.size + 1]? = some (.cells #[.map (some w1.heap.size)] 93 (0, 0)) := alloc_new2 _ _ _
  have HF := Lib.hid (And.intro hb0 (And.intro hm0 hc0))
  clear hb0 hm0 hc0 hmm
  generalize (w1.alloc (.map #[] 0)).alloc (.cells #[.map (some w1.heap.size)] 93) = W at *
  go_loopw [14] (fun i wx => ∃ k : Nat, k ≤ keep.length ∧ i = .int .i64 k ∧ Hid (Below w1.heap.size w1 wx ∧ wx.ownsMap Tryz.prog 3 (plainElem Tryz.prog 4) w1.heap.size k (keepM (keep.take k)) ∧ wx.heap[w1.heap.size + 1]? = some (.cells #[.map (some w1.heap.size)] 93 (0, 0)))) (fun i _ => keep.length - (intOf i).toNat)
  case atStart => exact ⟨0, by omega, rfl, HF⟩
  case round =>
    clear HF
    obtain ⟨k, hk, rfl, hN⟩ := hrel
    by_cases hlt : k < keep.length
    · have hrd : RdI wr (.slice a keep.length cap) keep := HH.out.2.below hN.out.1
      obtain ⟨b1, o1, rfl, hb1, d0, x1, x2⟩ := hrd.nth k hlt
      have HS := Lib.hid (show keepM (keep.take (k + 1)) = (keepM (keep.take k)).put (.int .i64 keep[k]) (.lit (.bool true)) by rw [List.take_succ_eq_append_getElem hlt, keepM_snoc])
      obtain ⟨x, hx⟩ : ∃ x, keep[k] = x := ⟨_, rfl⟩
      rw [hx] at d0 x1 x2 HS
      have hwf : (Lit.int .i64 x).wf = true := by simp [Lit.wf, IntKind.min, IntKind.max, IntKind.signed, IntKind.bits]; omega
      have HKL := Lib.hid (Go.Maps.keyOf_int_mk (P := Tryz.prog) Tryz.underlying3 hwf)
      have d1 : wr.cell? ⟨w1.heap.size + 1, 0, none⟩ = some (.map (some w1.heap.size)) := by rw [cell_of_row wr _ 0 _ _ _ hN.out.2.2]; rfl
      clear hrd hx hwf x1 x2
      go_wp2_with (at_mapUpdate; refine wpList_mapUpdate_own _ rfl _ _ _ 93 rfl 3 4 intKey Tryz.underlying93 _ w1.heap.size k _ rfl hN.out.2.1 (by unfold maxLen; omega) _ _ _ rfl rfl HKL.out _ [] (plainElem_bool Tryz.underlying4 true) ?_)
      intro w3 hown hgr
      have HM := Lib.hid (And.intro (hN.out.1.grown hgr hN.out.1.size (fun b e => by cases e; exact Nat.le_refl _)) (And.intro (show w3.ownsMap Tryz.prog 3 (plainElem Tryz.prog 4) w1.heap.size (k + 1) (keepM (keep.take (k + 1))) by rw [HS.out]; exact hown) ((hgr.block _ (lt_of_block hN.out.2.2) (by simp)).trans hN.out.2.2)))
      clear hown hgr hN d0 d1
      go_wp2_with fail
      go_roundw
      case rel => exact ⟨k + 1, by omega, by go_num, HM⟩
      case measure => simp [intOf]; omega
    · obtain rfl : k = keep.length := by omega
      have HK := Lib.hid (show keepM (keep.take keep.length) = keepM keep by rw [List.take_length])
      have HD := Lib.hid (HH.out.1.below hN.out.1)
      clear hlt hk
      go_wp2_with fail
      refine (ddo_any 59 #[.pointer (some ⟨w1.heap.size + 1, 0, none⟩)] (fun _ _ => rfl) (fun k => decide ((k : Int) ∈ keep)) _ HD.out (fun k wx hk hT => ?_)).mono ?_
      · have hlim := HD.out.ok.cache
        have hl1 := HH.out.1.lt
        have hblk := (hT.block (w1.heap.size + 1) (lt_of_block hN.out.2.2) (fun e => by have := hl1 _ e; omega)).trans hN.out.2.2
        refine crash1_any k keep (w1.heap.size + 1) w1.heap.size keep.length wx (by omega) (by rw [cell_of_row wx _ 0 _ _ _ hblk]; rfl) ?_
        have hmp := hN.out.2.1
        rw [HK.out] at hmp
        have hlm := hmp.lt
        obtain ⟨es, clock, q1, q2, q3, q4⟩ := hmp
        exact ⟨es, clock, (hT.block _ hlm (fun e => by have := hl1 _ e; omega)).trans q1, q2, q3, q4⟩
      rintro e w3 ⟨rfl, hd3, ht3⟩
      have HD3 := Lib.hid (And.intro hd3 ht3)
      clear hd3 ht3
      have c3 := HD3.out.1.cells.2.2.2.1
      have c4 := HD3.out.1.cells.2.2.2.2
      have f3 := HD3.out.1.froz 3
      have f4 := HD3.out.1.froz 4
      go_wp2
      obtain ⟨q1, q2⟩ := HD3.out.1.head ((Turn.cell1 w3 n 3 (.bool true)).trans (Turn.cell1 _ n 4 (.int .i64 0))) (crashD s keep) (set_blk (set_blk HD3.out.1.blk 3 (.bool true)) 4 (.int .i64 0)) (by rw [putF_kept]; rfl) rfl (crashD_ok HH.out.1.ok keep)
      exact HR.out _ _ ⟨_, rfl, q1, ((Turn.of_below _ hN.out.1).trans HD3.out.2).trans q2⟩
end Go.Proofs.YteppfjgglelpbaaGreat
/- A volume's shape: geom.Check, Data and the reference's Right, Data. -/
namespace Go.Proofs.YteppfjgglelpbaaGreat
open Go.RowKit Ks
set_option linter.unusedVariables false
abbrev geoV (b l f : Int) : Value := .agg #[.int .i64 b, .int .i64 l, .int .i64 f]
set_option maxHeartbeats 1000000 in
theorem gcheck_any (b l f : Int) (w : World) : Calls Tryz.prog 52 #[geoV b l f] w fun e w' => e = .returned (.int .i64 (geoE b l f)) ∧ Below w.heap.size w w' := by
  refine calls_by fun R HR => ?_
  have HB := Lib.hid (alloc_below w (.cells #[.int .i64 b, .int .i64 l, .int .i64 f] 27))
  rcases geo_cases b l f with ⟨h1, h⟩ | ⟨h1, h2, h⟩ | ⟨h1, h2, h3, h⟩ | ⟨h1, h2, h3, h4, h⟩ | ⟨h1, h2, h3, h4, h5, h⟩ | ⟨h1, h2, h3, h4, h5, h6, h⟩ | ⟨h1, h2, h3, h4, h5, h6, h⟩
  all_goals
    have HV : Hid (geoE b l f = (if geoOk b l f then 0 else 2)) := Lib.hid rfl
    rw [h] at HV
    clear h
    go_enter Tryz.func52, Tryz.ntmps52
    go_wp2
    exact HR.out _ _ ⟨by rw [HV.out] <;> rfl, HB.out⟩
theorem gdata_any (b l f : Int) (w : World) (hb : -9223372036854775808 ≤ b ∧ b ≤ 9223372036854775807) : Calls Tryz.prog 80 #[geoV b l f] w fun e w' => e = .returned (.int .i64 (geoD b l f)) ∧ Below w.heap.size w w' := by
  refine calls_by fun R HR => ?_
  have HC := Lib.hid (fun w => gcheck_any b l f w)
  obtain ⟨W, hW⟩ : ∃ W, w.alloc (.cells #[.int .i64 b, .int .i64 l, .int .i64 f] 27) = W := ⟨_, rfl⟩
  have HW := Lib.hid (And.intro (show Below w.heap.size w W by rw [← hW]; exact alloc_below w _) (show W.heap[w.heap.size]? = some (.cells #[.int .i64 b, .int .i64 l, .int .i64 f] 27 (0, 0)) by rw [← hW]; exact alloc_new w _))
  obtain ⟨c0, c1, c2, -, -, -⟩ := blk3 HW.out.2
  cases h : geoOk b l f
  · have HV := Lib.hid (geo_no h).2.2
    rw [(geo_no h).2.1] at HC
    clear h hb
    go_enter Tryz.func80, Tryz.ntmps80
    go_wp2_with fail
    refine (HC.out _).mono ?_
    rintro e w1 ⟨rfl, hb1⟩
    have H1 := Lib.hid (HW.out.1.trans (hb1.mono HW.out.1.size))
    clear hb1
    go_wp2
    exact HR.out _ _ ⟨by rw [HV.out] <;> rfl, H1.out⟩
  · have HV := Lib.hid (geo_yes h).2
    rw [(geo_yes h).1] at HC
    obtain ⟨g1, g2, -⟩ := geo_ok.1 h
    clear h hb
    go_enter Tryz.func80, Tryz.ntmps80
    go_wp2_with fail
    refine (HC.out _).mono ?_
    rintro e w1 ⟨rfl, hb1⟩
    have H1 := Lib.hid (And.intro (HW.out.1.trans (hb1.mono HW.out.1.size)) ((hb1.block _ (lt_of_block HW.out.2)).trans HW.out.2))
    clear hb1 c0 c1 c2
    obtain ⟨c0, c1, c2, -, -, -⟩ := blk3 H1.out.2
    go_wp2
    exact HR.out _ _ ⟨by rw [HV.out] <;> rfl, H1.out.1⟩
end Go.Proofs.YteppfjgglelpbaaGreat
/- strings.Builder at this program: copyCheck and WriteString (the shelf's own contracts of these two do not fit the newer loader's text), and what a builder in other worlds is. -/
namespace Go.Proofs.YteppfjgglelpbaaGreat
open Go.RowKit Ks
set_option linter.unusedVariables false

theorem Tryz.sizeBuilder : (Tryz.prog.info? 120).map (·.size) = some 2 := by kernel_rfl
theorem Tryz.liesBuilder : liesAt Tryz.prog Tryz.prog.depth 120 (2 / Tryz.prog.cellsOf 120) 0 120 1 = true := by kernel_rfl
theorem Tryz.infoByte' : (Tryz.prog.info? 5).map (fun i => (i.zero, i.size, i.bytes)) = some (some (.int .u8 0), 1, 1) := by kernel_rfl

set_option maxHeartbeats 1000000 in
set_option maxRecDepth 100000 in
theorem builder_check (B b : Nat) (bs : List Value) (w : World) (h : Lib.IsBuilder 120 5 B b bs w) :
    Calls Tryz.prog 104 #[.pointer (some ⟨b, 0, none⟩)] w fun e w' => e = .returned (.tuple #[]) ∧ (Lib.BuilderAt 120 5 B b (.pointer (some ⟨b, 0, none⟩)) bs w' ∧ Below B w w') := by
  obtain ⟨j, hj, hjs⟩ := Option.map_eq_some_iff.1 Tryz.sizeBuilder
  rcases h with h | h
  · have h0 := h.cell0
    have hsh := h.shape
    have hfz := h.frozen0
    have H := Lib.hid h
    clear h
    go_enter Tryz.func104, Tryz.ntmps104
    go_wp2
    rw [Lib.run_to_unsafe w ⟨b, 0, none⟩ Tryz.underlying117 Tryz.underlying155 hj (by rw [hjs]; decide) hsh (Nat.zero_lt_succ 1)]
    simp only [Result.andThen]
    rw [Oper.upon_value]
    go_wp2
    rw [run_callFunc_extern Tryz.func118 (by kernel_rfl) (by kernel_rfl) (by kernel_rfl) (e := Extern.AbiNoEscape.same) (by kernel_rfl)]
    rw [Lib.run_noEscape]
    simp only [Result.andThen]
    rw [Oper.upon_value]
    go_wp2
    rw [Lib.run_from_unsafe w ⟨b, 0, none⟩ Tryz.underlying155 Tryz.underlying117 hj hsh Tryz.liesBuilder]
    simp only [Result.andThen]
    rw [Oper.upon_value]
    go_wp2
    go_end0
    exact ⟨rfl, H.out.used _, (Below.refl B w).setCell (p := ⟨b, 0, none⟩) H.out.1 _⟩
  · have h0 := h.cell0
    have H := Lib.hid h
    clear h
    go_enter Tryz.func104, Tryz.ntmps104
    go_wp2
    rw [Lib.run_neq_ptr_same w _ Tryz.underlying117 hj]
    go_wp2
    go_end0
    exact ⟨rfl, H.out, Below.refl B _⟩

set_option maxHeartbeats 1000000 in
set_option maxRecDepth 100000 in
theorem builder_write (B b : Nat) (bs : List Value) (s : ByteArray) (w : World) (h : Lib.IsBuilder 120 5 B b bs w) (hlen : bs.length + s.size ≤ 140737488355328) (hBw : B ≤ w.heap.size) :
    Calls Tryz.prog 87 #[.pointer (some ⟨b, 0, none⟩), .string s] w fun e w' => e = .returned (.tuple #[.int .i64 s.size, .nilIface]) ∧ (Lib.BuilderAt 120 5 B b (.pointer (some ⟨b, 0, none⟩)) (bs ++ Lib.strCells s) w' ∧ Below B w w') := by
  obtain ⟨i0, hi, hz0, hz1, hz2⟩ := info_parts Tryz.infoByte'
  go_enter Tryz.func87, Tryz.ntmps87
  go_wp2_with (go_at_call 104; refine (builder_check B b bs _ h).mono ?_)
  rintro e w1 ⟨rfl, h1, hb1⟩
  obtain ⟨hB, v, hbk, hown, hne⟩ := h1
  have c0 : w1.cell? ⟨b, 0, none⟩ = some (.pointer (some ⟨b, 0, none⟩)) := by rw [Lib.cell_of_heap hbk]; rfl
  have c1 : w1.cell? ⟨b, 1, none⟩ = some v := by rw [Lib.cell_of_heap hbk]; rfl
  go_wp2_with (at_builtin; refine Lib.wpList_append_own_string _ rfl _ _ 118 9 rfl B 5 i0 Tryz.underlying118 Tryz.underlying9 hi hz0 hz1 hz2 _ _ _ rfl hown s rfl ?c3 ?c4 ?c5 ?_)
  case c3 => unfold maxLen; omega
  case c4 => omega
  case c5 => have := hb1.size; omega
  intro v' w2 hown' hgrow _
  have hlt : b < w1.heap.size := by
    rcases Nat.lt_or_ge b w1.heap.size with h' | h'
    · exact h'
    · simp [Array.getElem?_eq_none h'] at hbk
  have hb2 : w2.heap[b]? = some (.cells #[.pointer (some ⟨b, 0, none⟩), v] 120 (0, 0)) := by
    rw [hgrow.block b hlt (fun e => hne e.symm)]
    exact hbk
  have d0 : w2.cell? ⟨b, 0, none⟩ = some (.pointer (some ⟨b, 0, none⟩)) := by rw [Lib.cell_of_heap hb2]; rfl
  have d1 : w2.cell? ⟨b, 1, none⟩ = some v := by rw [Lib.cell_of_heap hb2]; rfl
  have f1 : w2.frozen? ⟨b, 1, none⟩ = false := Lib.frozen_of_heap hb2 1
  obtain ⟨ao, n', cap, rfl⟩ : ∃ ao n' cap, v' = .slice ao n' cap := by
    rcases hown'.2 with ⟨hv, _⟩ | ⟨g, cap, cur, hv, _⟩
    · exact ⟨_, _, _, hv⟩
    · exact ⟨_, _, _, hv⟩
  go_wp2
  go_ret2
  refine ⟨rfl, ?_, ?_⟩
  · exact Lib.BuilderAt.put (T := 120) (e := 5) hB hb2 (bs' := bs ++ Lib.strCells s) (by simpa [Lib.strCells_length] using hown') (by decide)
  · exact (hb1.grown hgrow (by have := hb1.size; omega) (fun k hk => (hown.lt k hk).1)).setCell (p := ⟨b, 1, none⟩) hB _

/-- a builder stays a builder where nothing that was there has turned -/
theorem builder_below {T e : TypeId} {B b : Nat} {p : Value} {bs : List Value} {w w' : World} (h : Lib.BuilderAt T e B b p bs w) (hb : Below w.heap.size w w') : Lib.BuilderAt T e B b p bs w' := by
  obtain ⟨hB, v, hbk, hown, hne⟩ := h
  have hlt : b < w.heap.size := Lib.BuilderAt.lt ⟨hB, v, hbk, hown, hne⟩
  exact ⟨hB, v, (hb.block b hlt).trans hbk, hown.kept (row := none) ⟨hb.os, hb.tape, hb.output, hb.size, fun k hk _ => hb.block k hk⟩ (by cases v.ownBlock <;> simp), hne⟩
theorem isBuilder_below {T e : TypeId} {B b : Nat} {bs : List Value} {w w' : World} (h : Lib.IsBuilder T e B b bs w) (hb : Below w.heap.size w w') : Lib.IsBuilder T e B b bs w' := by
  rcases h with h | h
  · exact .inl (builder_below h hb)
  · exact .inr (builder_below h hb)

end Go.Proofs.YteppfjgglelpbaaGreat
/- What octet.Put answers. -/
namespace Go.Proofs.YteppfjgglelpbaaGreat
open Go.RowKit Ks
set_option linter.unusedVariables false

theorem Tryz.infoByte : (Tryz.prog.info? 5).map (fun i => (i.zero, i.size, i.bytes)) = some (some (.int .u8 0), 1, 1) := by kernel_rfl

set_option maxHeartbeats 400000 in
theorem put_ok (n : Nat) (width : Nat) (w : World) (h1 : 1 ≤ width) (h2 : width ≤ 8) (h4 : n ≤ 9223372036854775807) (h5 : width < 8 → (n : Int) / 2 ^ (8 * width) ≤ 0) :
    Calls Tryz.prog 69 #[.int .i64 n, .int .i64 width] w fun e w' => e = .returned (.tuple #[.string ⟨(putL width n).toArray⟩, .int .i64 0]) ∧ Below w.heap.size w w' := by
  have hmk := fun w => run_make_row' (P := Tryz.prog) 118 5 (.int .u8 0) 1 Tryz.underlying118 Tryz.infoByte rfl .i64 .i64 width (by omega) (by omega) w
  have hcase : (width < 8 ∧ ¬ (0 < (n : Int) / 2 ^ (8 * width))) ∨ ¬ width < 8 := by
    by_cases h : width < 8
    · exact .inl ⟨h, by have := h5 h; omega⟩
    · exact .inr h
  clear h5
  rcases hcase with ⟨hA, hB⟩ | hA
  all_goals
    go_enter Tryz.func69, Tryz.ntmps69
    go_wp2
    go_loopw [32, 7] (fun i _ wr => ∃ k : Nat, k ≤ width ∧ i = .int .i64 k ∧ wr.rowIs w.heap.size 5 width (putCell n width k) ∧ Below w.heap.size w wr) (fun i _ _ => width - (intOf i).toNat)
    case atStart => exact ⟨0, by omega, rfl, (World.rowIs_made w (.int .u8 0) width 5).congr (by simp [putCell]), (Below.refl _ _).alloc (Nat.le_refl _) _⟩
    case round =>
      obtain ⟨k, hk, rfl, hrow, hbel⟩ := hrel
      by_cases hlt : k < width
      · have hcell : wr.cell? ⟨w.heap.size, width - 1 - k, none⟩ = some (putCell n width k (width - 1 - k)) := hrow.cell (by omega)
        have hfr := hrow.frozen (width - 1 - k)
        go_wp2
        go_roundw
        case rel => exact ⟨k + 1, by omega, by go_num, (hrow.set _ _).congr (fun j hj => putCell_succ n width k j hlt hj), hbel.setCell (Nat.le_refl _) _⟩
        case measure => simp [intOf]; omega
      · obtain rfl : k = width := by omega
        have hconv := conv_row (P := Tryz.prog) (src := 118) (dst := 9) (cap := k) (putL k n) Tryz.underlying118 Tryz.underlying5 Tryz.underlying9 hrow (by simp) (putCell_done n k)
        go_wp2
        go_ret2
        exact ⟨rfl, hbel⟩

set_option maxHeartbeats 400000 in
theorem put_err (n width : Int) (w : World) (h : width < 1 ∨ 8 < width ∨ n < 0 ∨ (1 ≤ width ∧ width < 8 ∧ 0 < n / 2 ^ (8 * width).toNat)) :
    Calls Tryz.prog 69 #[.int .i64 n, .int .i64 width] w fun e w' => e = .returned (.tuple #[.string ⟨#[]⟩, .int .i64 2]) ∧ w = w' := by
  rcases h with h | h | h | ⟨h1, h2, h3⟩
  · go_enter Tryz.func69, Tryz.ntmps69
    go_wp2
    go_ret2
    exact ⟨rfl, rfl⟩
  · go_enter Tryz.func69, Tryz.ntmps69
    go_wp2
    go_ret2
    exact ⟨rfl, rfl⟩
  · go_enter Tryz.func69, Tryz.ntmps69
    go_wp2
    all_goals first
      | (go_ret2; exact ⟨rfl, rfl⟩)
      | (exfalso; omega)
  · go_enter Tryz.func69, Tryz.ntmps69
    go_wp2
    all_goals first
      | (go_ret2; exact ⟨rfl, rfl⟩)
      | (go_ways; exfalso; omega)

theorem put_any (n width : Int) (w : World) (hn : n ≤ 9223372036854775807) :
    Calls Tryz.prog 69 #[.int .i64 n, .int .i64 width] w fun e w' => e = .returned (.tuple #[.string (putS n width), .int .i64 (putE n width)]) ∧ Below w.heap.size w w' := by
  unfold putS putE
  by_cases h : putOk n width = true
  · rw [if_pos h, if_pos h]
    simp only [putOk, decide_eq_true_eq] at h
    obtain ⟨h1, h2, h3, h4⟩ := h
    obtain ⟨n, rfl⟩ := Int.eq_ofNat_of_zero_le h3
    obtain ⟨width, rfl⟩ := Int.eq_ofNat_of_zero_le (show 0 ≤ width by omega)
    simp only [Int.toNat_natCast] at h4 ⊢
    refine put_ok n width w (by omega) (by omega) (by omega) (fun hw => ?_)
    have := h4 (by omega)
    have h2 : ((n / 2 ^ (8 * width) : Nat) : Int) = (n : Int) / 2 ^ (8 * width) := by simp
    omega
  · rw [if_neg h, if_neg h]
    simp only [putOk, decide_eq_true_eq] at h
    refine (put_err n width w ?_).mono fun e w' ⟨he, hw⟩ => ⟨he, hw ▸ Below.refl _ _⟩
    by_cases h1 : width < 1
    · exact .inl h1
    by_cases h2 : 8 < width
    · exact .inr (.inl h2)
    by_cases h3 : n < 0
    · exact .inr (.inr (.inl h3))
    refine .inr (.inr (.inr ?_))
    have h4 : ¬ (width < 8 → n.toNat / 2 ^ (8 * width.toNat) = 0) := fun hh => h ⟨by omega, by omega, by omega, hh⟩
    have h5 : width < 8 := by
      by_cases hh : width < 8
      · exact hh
      · exact absurd (fun x => absurd x hh) h4
    refine ⟨by omega, h5, ?_⟩
    have h6 : ¬ (n.toNat / 2 ^ (8 * width.toNat) = 0) := fun hh => h4 (fun _ => hh)
    obtain ⟨n, rfl⟩ := Int.eq_ofNat_of_zero_le (show 0 ≤ n by omega)
    obtain ⟨width, rfl⟩ := Int.eq_ofNat_of_zero_le (show 0 ≤ width by omega)
    have h2 : ((n / 2 ^ (8 * width) : Nat) : Int) = (n : Int) / 2 ^ (8 * width) := by simp
    rw [show (8 * (width : Int)).toNat = 8 * width by omega]
    rw [Int.toNat_natCast, Int.toNat_natCast] at h6
    rw [← h2]
    exact Int.natCast_pos.2 (Nat.pos_of_ne_zero h6)

end Go.Proofs.YteppfjgglelpbaaGreat
/- What octet.Pack and the reference's Pack answer. -/
namespace Go.Proofs.YteppfjgglelpbaaGreat
open Go.RowKit Ks
set_option linter.unusedVariables false

set_option maxHeartbeats 400000 in
theorem pack_any (wv lv : Value) (ws l : List Int) (w : World) (hw : RdI w wv ws) (hl : RdI w lv l) (hlen : l.length ≤ 1000000) :
    Calls Tryz.prog 94 #[wv, lv] w fun e w' => e = .returned (.tuple #[.string (packS ws l), .int .i64 (packE ws l)]) ∧ Below w.heap.size w w' := by
  refine calls_by fun R HR => ?_
  have Hw := Lib.hid hw
  have Hl := Lib.hid hl
  obtain ⟨aw, cw, rfl, -, -⟩ := hw
  obtain ⟨al, cl, rfl, -, -⟩ := hl
  by_cases hne : ws.length = l.length
  · have hb : ((l.length : Int) != (ws.length : Int)) = false := by simp [hne]
    have Hne := Lib.hid hne
    clear hne
    go_enter Tryz.func94, Tryz.ntmps94
    go_wp2
    go_loopw [18] (fun i wr => ∃ k : Nat, k ≤ l.length ∧ i = .int .i64 k ∧ Hid (∀ i, i < k → putOk (l.getD i 0) (ws.getD i 0) = true) ∧ Lib.IsBuilder 120 5 w.heap.size w.heap.size (Lib.byteCells (packTo ws l k)) wr ∧ Below w.heap.size w wr) (fun i _ => l.length - (intOf i).toNat)
    case atStart => exact ⟨0, by omega, rfl, Lib.hid (fun i hi => absurd hi (by omega)), Lib.fresh_isBuilder _ _ _, (Below.refl _ _).alloc (Nat.le_refl _) _⟩
    case round =>
      obtain ⟨k, hk, rfl, hok, hbu, hbel⟩ := hrel
      have Hbu := Lib.hid hbu
      clear hbu
      by_cases hlt : k < l.length
      · obtain ⟨bl, ol, rfl, hlb, hlc⟩ := Hl.out.cell k hlt
        obtain ⟨bw, ow, rfl, hwb, hwc⟩ := Hw.out.cell k (by have := Hne.out; omega)
        have hlc' := (hbel.cell (p := ⟨bl, ol + k, none⟩) hlb).trans hlc
        have hwc' := (hbel.cell (p := ⟨bw, ow + k, none⟩) hwb).trans hwc
        have hr := Hl.out.range k hlt
        have hkw : k < ws.length := by have := Hne.out; omega
        clear hlc hwc
        go_wp2_with fail
        refine (put_any _ _ _ (by omega)).mono ?_
        rintro e w1 ⟨rfl, hb1⟩
        by_cases hp : putOk l[k] ws[k] = true
        · have he : putE l[k] ws[k] = 0 := by unfold putE; rw [if_pos hp]
          have hs : putS l[k] ws[k] = ⟨(putL (ws.getD k 0).toNat (l.getD k 0).toNat).toArray⟩ := by
            unfold putS; rw [if_pos hp]; simp [hlt, hkw]
          have Hs := Lib.hid hs
          clear hs
          have Hp := Lib.hid hp
          clear hp
          go_wp2_with fail
          refine (builder_write w.heap.size w.heap.size (Lib.byteCells (packTo ws l k)) _ _ (isBuilder_below Hbu.out hb1) ?_ ?_).mono ?_
          · have h1 := packTo_length ws l k hok.out
            have h2 := putOk_width Hp.out
            rw [byteCells_length, Hs.out]
            have h3 : (⟨(putL (ws.getD k 0).toNat (l.getD k 0).toNat).toArray⟩ : ByteArray).size = (ws.getD k 0).toNat := by
              show (putL (ws.getD k 0).toNat (l.getD k 0).toNat).length = _
              simp
            have h4 : ws.getD k 0 = ws[k] := by simp [hkw]
            rw [h3, h4]
            omega
          · have := hbel.size; have := hb1.size; omega
          rintro e w2 ⟨rfl, hbu2, hb2⟩
          have Hbu2 := Lib.hid hbu2
          clear hbu2
          go_wp2
          go_roundw
          case rel =>
            refine ⟨k + 1, by omega, by go_num, ?_, ?_, ?_⟩
            · refine Lib.hid fun i hi => ?_
              by_cases hik : i = k
              · subst hik
                simpa [hlt, hkw] using Hp.out
              · exact hok.out i (by omega)
            · rw [Hs.out, strCells_mk, ← byteCells_append] at Hbu2
              exact .inr Hbu2.out
            · exact hbel.trans ((hb1.mono hbel.size).trans hb2)
          case measure => simp [intOf]; omega
        · have he : putE l[k] ws[k] = 2 := by unfold putE; rw [if_neg hp]
          have Hp := Lib.hid hp
          clear hp
          go_wp2
          refine HR.out _ _ ⟨?_, hbel.trans (hb1.mono hbel.size)⟩
          have hf : ¬ packOk ws l = true := by
            intro h
            simp only [packOk, decide_eq_true_eq] at h
            exact Hp.out (by simpa [hlt, hkw] using h.2 k hlt)
          rw [packS, packE, if_neg hf, if_neg hf]
          rfl
      · obtain rfl : k = l.length := by omega
        go_wp2_with fail
        refine (Tryz.Builder_String_any w.heap.size w.heap.size _ _ Hbu.out hbel.size).mono ?_
        rintro e w1 ⟨rfl, hb1⟩
        go_wp2
        refine HR.out _ _ ⟨?_, hbel.trans hb1⟩
        have hf : packOk ws l = true := by
          simp only [packOk, decide_eq_true_eq]
          exact ⟨Hne.out, hok.out⟩
        rw [packS, packE, if_pos hf, if_pos hf]
        rfl
  · have hb : ((l.length : Int) != (ws.length : Int)) = true := by simp; omega
    have Hne := Lib.hid hne
    clear hne
    go_enter Tryz.func94, Tryz.ntmps94
    go_wp2
    refine HR.out _ _ ⟨?_, Below.refl _ _⟩
    have hf : ¬ packOk ws l = true := by
      intro h
      simp only [packOk, decide_eq_true_eq] at h
      exact Hne.out h.1
    rw [packS, packE, if_neg hf, if_neg hf]
    rfl

end Go.Proofs.YteppfjgglelpbaaGreat
/- What octet.Get and the reference's Get answer. -/
namespace Go.Proofs.YteppfjgglelpbaaGreat
open Go.RowKit Ks
set_option linter.unusedVariables false

set_option maxHeartbeats 400000 in
theorem get_err (s : ByteArray) (w : World) (h : s.size = 0 ∨ 8 < s.size ∨ ∃ h : s.size = 8, 127 < (s[0]'(by omega)).toNat) :
    Calls Tryz.prog 116 #[.string s] w fun e w' => e = .returned (.tuple #[.int .i64 0, .int .i64 3]) ∧ w = w' := by
  refine calls_by fun R HR => ?_
  rcases h with h | h | ⟨h, h'⟩
  · obtain rfl := str_none s h
    go_enter Tryz.func116, Tryz.ntmps116
    go_wp2
    exact HR.out _ _ ⟨rfl, rfl⟩
  · obtain ⟨h1, h2⟩ := str_some s (by omega)
    go_enter Tryz.func116, Tryz.ntmps116
    go_wp2
    exact HR.out _ _ ⟨rfl, rfl⟩
  · obtain ⟨h1, h2⟩ := str_some s (by omega)
    go_enter Tryz.func116, Tryz.ntmps116
    go_wp2
    exact HR.out _ _ ⟨rfl, rfl⟩

set_option maxHeartbeats 400000 in
theorem get_ok (s : ByteArray) (w : World) (h : 0 < s.size) (hs : s.size < 8 ∨ ∃ h : s.size = 8, ¬ 127 < (s[0]'(by omega)).toNat) (hN : getN s.data.toList ≤ 9223372036854775807) :
    Calls Tryz.prog 116 #[.string s] w fun e w' => e = .returned (.tuple #[.int .i64 (getN s.data.toList), .int .i64 0]) ∧ w = w' := by
  refine calls_by fun R HR => ?_
  obtain ⟨h1, h2⟩ := str_some s (by omega)
  have h8 : ¬ 8 < (s.size : Int) := by rcases hs with hs | ⟨hs, _⟩ <;> omega
  have HS : Hid (∀ k, (hk : k < s.size) → getN (s.data.toList.take (k + 1)) = getN (s.data.toList.take k) * 256 + (s[k]).toNat) := by
    intro k hk; rw [take_snoc s k hk, getN_snoc]
  have HL : Hid (∀ k, getN (s.data.toList.take k) ≤ 9223372036854775807) := fun k => Nat.le_trans (getN_take_le _ _) hN
  have HE : Hid (getN (s.data.toList.take s.size) = getN s.data.toList) := Lib.hid (by rw [List.take_of_length_le (by rw [data_length]; omega)])
  clear hN
  rcases hs with hs | ⟨hs, hs'⟩
  all_goals
    go_enter Tryz.func116, Tryz.ntmps116
    go_wp2
    go_loop [4, 25, 5] (fun n i _ => ∃ k m : Nat, k ≤ s.size ∧ i = .int .i64 k ∧ n = .int .i64 m ∧ Hid (m = getN (s.data.toList.take k))) (fun _ i _ => s.size - (intOf i).toNat)
    case atStart => exact ⟨0, 0, by omega, rfl, rfl, Lib.hid (by simp [getN])⟩
    case round =>
      obtain ⟨k, m, hk, rfl, rfl, hm⟩ := hrel
      by_cases hlt : k < s.size
      · have hb := (s[k]).toNat_lt
        have hm1 : m * 256 + (s[k]).toNat ≤ 9223372036854775807 := by have a := HS.out k hlt; have b := HL.out (k + 1); rw [hm.out]; omega
        have hm2 : (m : Int) * 256 ≤ 9223372036854775807 := by omega
        have hor := or8 m (s[k]).toNat hm1 hb
        go_wp2
        go_round
        case rel => exact ⟨k + 1, m * 256 + (s[k]).toNat, by omega, by go_num, by go_num, Lib.hid (by rw [hm.out, HS.out k hlt])⟩
        case measure => simp [intOf]; omega
      · obtain rfl : k = s.size := by omega
        go_wp2
        refine HR.out _ _ ⟨?_, rfl⟩
        rw [hm.out, HE.out]

theorem get_any (s : ByteArray) (w : World) :
    Calls Tryz.prog 116 #[.string s] w fun e w' => e = .returned (.tuple #[.int .i64 (getV s), .int .i64 (getE s)]) ∧ w = w' := by
  unfold getV getE
  have hl := data_length s
  by_cases h : getOk s.data.toList = true
  · rw [if_pos h, if_pos h]
    simp only [getOk, decide_eq_true_eq, hl] at h
    refine get_ok s w (by omega) ?_ h.2.2
    by_cases h8 : s.size = 8
    · exact .inr ⟨h8, (getN_head s h8).1 h.2.2⟩
    · exact .inl (by omega)
  · rw [if_neg h, if_neg h]
    simp only [getOk, decide_eq_true_eq, hl] at h
    refine get_err s w ?_
    by_cases h0 : s.size = 0
    · exact .inl h0
    by_cases h8 : 8 < s.size
    · exact .inr (.inl h8)
    have hn : ¬ getN s.data.toList ≤ 9223372036854775807 := fun hh => h ⟨by omega, by omega, hh⟩
    by_cases h9 : s.size = 8
    · refine .inr (.inr ⟨h9, ?_⟩)
      have := mt (getN_head s h9).2 hn
      omega
    · exfalso
      have h1 := getN_lt s.data.toList
      have h2 : 256 ^ s.data.toList.length ≤ 256 ^ 7 := Nat.pow_le_pow_right (by omega) (by omega)
      have h7 : (256 : Nat) ^ 7 = 72057594037927936 := by decide
      omega

end Go.Proofs.YteppfjgglelpbaaGreat
