/- The program's disk: what stands of it; its small functions. -/
import Derived.Test.YtielmlnbjliacaaProg
import Derived.Test.YtielmlnbjliacaaFoot
import Derived.Test.YtielmlnbjliacaaDiskPlain
import Derived.Test.YtielmlnbjliacaaAfter
import Derived.Deep.LoopGhost
import Derived.Deep.QuietTactic
import Derived.BigQuiet
namespace Ks
open Go Go.RowKit
set_option linter.unusedVariables false
def pwE : Enc PutT := ⟨2, fun p => [.int .i64 p.1, .string p.2], fun _ => rfl, fun x u hu => by simp only [List.mem_cons, List.not_mem_nil, or_false] at hu; rcases hu with rfl | rfl <;> rfl, by decide⟩
theorem Rd.putAt {w : World} {a : Option Addr} {n c : Nat} {l : List PutT} (h : Rd pwE w (.slice a n c) l) (i : Nat) (x : PutT) (hx : l[i]? = some x) : ∃ b o, a = some ⟨b, o, none⟩ ∧ b < w.heap.size ∧ w.cell? ⟨b, o + i * 2, none⟩ = some (.int .i64 x.1) ∧ w.cell? ⟨b, o + i * 2 + 1, none⟩ = some (.string x.2) := by
  obtain ⟨b, o, h1, h2, h3⟩ := h.at i x hx
  exact ⟨b, o, h1, h2, h3 0 _ rfl, h3 1 _ rfl⟩
/-- a disk that was made -/
structure DiskAt (w : World) (TD TS TP : TypeId) (n : Nat) (vb vc : Value) (s : DS) : Prop where
  blk : w.heap[n]? = some (.cells #[vb, vc, .bool true, .bool s.down, .int .i64 (s.left : Int)] TD (0, 0))
  rb : Row strE w 0 TS vb s.blocks
  rc : Row pwE w 0 TP vc s.cache
  nb : vb.ownBlock ≠ some n
  nc : vc.ownBlock ≠ some n
  bc : ∀ b, vb.ownBlock = some b → vc.ownBlock ≠ some b
  ok : s.ok
/-- its blocks -/
def DF (n : Nat) (vb vc : Value) : Nat → Prop := fun k => k = n ∨ vb.ownBlock = some k ∨ vc.ownBlock = some k
variable {TD TS TP : TypeId} {n : Nat} {vb vc : Value} {s : DS}
theorem DiskAt.lt {w : World} (h : DiskAt w TD TS TP n vb vc s) : ∀ k, DF n vb vc k → k < w.heap.size := by
  rintro k (rfl | e | e)
  · exact lt_of_block h.blk
  · exact h.rb.own_lt e
  · exact h.rc.own_lt e
theorem DiskAt.keep {w w' : World} (h : DiskAt w TD TS TP n vb vc s) (hk : ∀ k, DF n vb vc k → w'.heap[k]? = w.heap[k]?) : DiskAt w' TD TS TP n vb vc s :=
  ⟨(hk n (Or.inl rfl)).trans h.blk, h.rb.keep fun b e => hk b (Or.inr (Or.inl e)), h.rc.keep fun b e => hk b (Or.inr (Or.inr e)), h.nb, h.nc, h.bc, h.ok⟩
theorem DiskAt.below {w w' : World} (h : DiskAt w TD TS TP n vb vc s) (hb : Below w.heap.size w w') : DiskAt w' TD TS TP n vb vc s := h.keep fun k hk => hb.block k (h.lt k hk)
theorem DiskAt.cells {w : World} (h : DiskAt w TD TS TP n vb vc s) : w.cell? ⟨n, 0, none⟩ = some vb ∧ w.cell? ⟨n, 1, none⟩ = some vc ∧ w.cell? ⟨n, 2, none⟩ = some (.bool true) ∧ w.cell? ⟨n, 3, none⟩ = some (.bool s.down) ∧ w.cell? ⟨n, 4, none⟩ = some (.int .i64 (s.left : Int)) := by
  refine ⟨?_, ?_, ?_, ?_, ?_⟩
  all_goals (rw [cell_of_row w n _ _ _ _ h.blk]; rfl)
theorem DiskAt.froz {w : World} (h : DiskAt w TD TS TP n vb vc s) (o : Nat) : w.frozen? ⟨n, o, none⟩ = false := frozen_of_row w n o _ _ h.blk
/-- only the head is turned -/
theorem DiskAt.head {w w' : World} (h : DiskAt w TD TS TP n vb vc s) {F' : Nat → Prop} (hT : Turn w w' (fun k => k = n) F') (s' : DS) (hb : w'.heap[n]? = some (.cells #[vb, vc, .bool true, .bool s'.down, .int .i64 (s'.left : Int)] TD (0, 0)))
    (e1 : s'.blocks = s.blocks) (e2 : s'.cache = s.cache) (hok : s'.ok) : DiskAt w' TD TS TP n vb vc s' ∧ Turn w w' (DF n vb vc) (DF n vb vc) := by
  refine ⟨⟨hb, ?_, ?_, h.nb, h.nc, h.bc, hok⟩, hT.wide (fun k hk => Or.inl hk) fun k hk => Or.inr (Or.inl hk)⟩
  · rw [e1]; exact h.rb.turn hT fun b e e2 => h.nb (e2 ▸ e)
  · rw [e2]; exact h.rc.turn hT fun b e e2 => h.nc (e2 ▸ e)
/-- the cache is another one -/
theorem DiskAt.cached {w w' : World} (h : DiskAt w TD TS TP n vb vc s) {F' : Nat → Prop} {vc' : Value} (s' : DS) (hT : Turn w w' (fun k => k = n ∨ vc.ownBlock = some k) F') (hb : w'.heap[n]? = some (.cells #[vb, vc', .bool true, .bool s'.down, .int .i64 (s'.left : Int)] TD (0, 0)))
    (hr : Row pwE w' 0 TP vc' s'.cache) (hv : ∀ b, vc'.ownBlock = some b → vc.ownBlock = some b ∨ w.heap.size ≤ b) (e1 : s'.blocks = s.blocks) (hok : s'.ok) : DiskAt w' TD TS TP n vb vc' s' ∧ Turn w w' (DF n vb vc) (DF n vb vc') := by
  have hn := lt_of_block h.blk
  refine ⟨⟨hb, ?_, hr, h.nb, fun e => ?_, fun b e e2 => ?_, hok⟩, hT.wide (fun k hk => ?_) fun k hk => ?_⟩
  · rw [e1]; exact h.rb.turn hT fun b e e2 => by
      rcases e2 with rfl | e2
      · exact h.nb e
      · exact h.bc b e e2
  · rcases hv n e with h1 | h1
    · exact h.nc h1
    · omega
  · rcases hv b e2 with h1 | h1
    · exact h.bc b e h1
    · have := h.rb.own_lt e; omega
  · rcases hk with rfl | hk
    · exact Or.inl rfl
    · exact Or.inr (Or.inr hk)
  · rcases hk with rfl | hk | hk
    · exact Or.inr (Or.inl (Or.inl rfl))
    · exact Or.inr (Or.inl (Or.inr (Or.inl hk)))
    · rcases hv k hk with h1 | h1
      · exact Or.inr (Or.inl (Or.inr (Or.inr h1)))
      · exact Or.inr (Or.inr h1)
/-- what is behind an append to the cache, and the store -/
theorem DiskAt.append {w w3 : World} (h : DiskAt w TD TS TP n vb vc s) (o : Obj) {v' : Value} {L : List PutT} (hG : Grew pwE (w.alloc o) w3 0 TP vc v' L) (hok : ({ s with cache := L } : DS).ok) :
    DiskAt (w3.setCell ⟨n, 1, none⟩ v') TD TS TP n vb v' { s with cache := L } ∧ Turn w (w3.setCell ⟨n, 1, none⟩ v') (DF n vb vc) (DF n vb v') := by
  have hn := lt_of_block h.blk
  have hb3 := hG.block (blk_keep h.blk o) h.nc
  have hv : ∀ b, v'.ownBlock = some b → vc.ownBlock = some b ∨ w.heap.size ≤ b := fun b hb => by
    rcases hG.foot b hb with h1 | h1
    · exact Or.inl h1
    · exact Or.inr (by simp at h1; omega)
  have hT : Turn w (w3.setCell ⟨n, 1, none⟩ v') (fun k => k = n ∨ vc.ownBlock = some k) (fun k => k = n ∨ vc.ownBlock = some k) :=
    ((Turn.of_below _ (alloc_below w o)).trans (hG.turn (F := fun k => k = n ∨ vc.ownBlock = some k) fun b e => Or.inr e)).trans (Turn.cell w3 n 1 v' (Or.inl rfl))
  refine h.cached { s with cache := L } hT (set_blk hb3 1 v') (hG.1.keep fun b e => set_ne v' fun e2 => ?_) hv rfl hok
  subst e2
  rcases hv b e with h1 | h1
  · exact h.nc h1
  · omega
/-- what is behind an append to the blocks, and the store -/
theorem DiskAt.appendB {w w3 : World} (h : DiskAt w TD TS TP n vb vc s) (o : Obj) {v' : Value} {L : List ByteArray} (hG : Grew strE (w.alloc o) w3 0 TS vb v' L) (hok : ({ s with blocks := L } : DS).ok) :
    DiskAt (w3.setCell ⟨n, 0, none⟩ v') TD TS TP n v' vc { s with blocks := L } ∧ Turn w (w3.setCell ⟨n, 0, none⟩ v') (DF n vb vc) (DF n v' vc) := by
  have hn := lt_of_block h.blk
  have hb3 := hG.block (blk_keep h.blk o) h.nb
  have hv : ∀ b, v'.ownBlock = some b → vb.ownBlock = some b ∨ w.heap.size ≤ b := fun b hb => by
    rcases hG.foot b hb with h1 | h1
    · exact Or.inl h1
    · exact Or.inr (by simp at h1; omega)
  have hT : Turn w (w3.setCell ⟨n, 0, none⟩ v') (fun k => k = n ∨ vb.ownBlock = some k) (fun k => k = n ∨ vb.ownBlock = some k) :=
    ((Turn.of_below _ (alloc_below w o)).trans (hG.turn (F := fun k => k = n ∨ vb.ownBlock = some k) fun b e => Or.inr e)).trans (Turn.cell w3 n 0 v' (Or.inl rfl))
  refine ⟨⟨set_blk hb3 0 v', hG.1.keep fun b e => set_ne v' fun e2 => ?_, h.rc.turn hT fun b e e2 => ?_, fun e => ?_, h.nc, fun b e e2 => ?_, hok⟩, hT.wide (fun k hk => ?_) fun k hk => ?_⟩
  · subst e2
    rcases hv b e with h1 | h1
    · exact h.nb h1
    · omega
  · rcases e2 with rfl | e2
    · exact h.nc e
    · exact h.bc b e2 e
  · rcases hv n e with h1 | h1
    · exact h.nb h1
    · omega
  · rcases hv b e with h1 | h1
    · exact h.bc b h1 e2
    · have := h.rc.own_lt e2; omega
  · rcases hk with rfl | hk
    · exact Or.inl rfl
    · exact Or.inr (Or.inl hk)
  · rcases hk with rfl | hk | hk
    · exact Or.inr (Or.inl (Or.inl rfl))
    · rcases hv k hk with h1 | h1
      · exact Or.inr (Or.inl (Or.inr (Or.inl h1)))
      · exact Or.inr (Or.inr h1)
    · exact Or.inr (Or.inl (Or.inr (Or.inr hk)))
/-- the blocks' row is written -/
theorem DiskAt.rows {w w' : World} (h : DiskAt w TD TS TP n vb vc s) {F' : Nat → Prop} (hT : Turn w w' (fun k => vb.ownBlock = some k) F') (bl : List ByteArray) (hr : Row strE w' 0 TS vb bl) (hok : ({ s with blocks := bl } : DS).ok) :
    DiskAt w' TD TS TP n vb vc { s with blocks := bl } ∧ Turn w w' (DF n vb vc) (DF n vb vc) :=
  ⟨⟨(hT.block n (lt_of_block h.blk) h.nb).trans h.blk, hr, h.rc.turn hT fun b e e2 => h.bc b e2 e, h.nb, h.nc, h.bc, hok⟩, hT.wide (fun k hk => Or.inr (Or.inl hk)) fun k hk => Or.inr (Or.inl hk)⟩
/-- a disk that is none, or that no call made -/
def DeadDisk (w : World) (v : Value) : Prop := v = .pointer none ∨ ∃ n, v = .pointer (some ⟨n, 0, none⟩) ∧ w.cell? ⟨n, 2, none⟩ = some (.bool false)
end Ks
namespace Go.Proofs.Ytielmlnbjliacaa
open Go.RowKit Ks
set_option linter.unusedVariables false
variable {n : Nat} {vb vc : Value} {s : DS}
abbrev DkAt (w : World) := DiskAt w 48 9 75

theorem dthere_yes (n : Nat) (w : World) (h0 : w.cell? ⟨n, 2, none⟩ = some (.bool true)) :
    Calls Try.prog 39 #[.pointer (some ⟨n, 0, none⟩)] w fun e w' => e = .returned (.bool true) ∧ w' = w := by
  go_enter Try.func39, Try.ntmps39
  go_wp2
  go_ret
  exact ⟨rfl, rfl⟩
theorem dthere_no (v : Value) (w : World) (hv : DeadDisk w v) :
    Calls Try.prog 39 #[v] w fun e w' => e = .returned (.bool false) ∧ w' = w := by
  rcases hv with rfl | ⟨b, rfl, h0⟩
  all_goals
    go_enter Try.func39, Try.ntmps39
    go_wp2
    go_ret
    exact ⟨rfl, rfl⟩
def mayN (s : DS) : Int := if s.down then 14 else 0
theorem dmay_any (w : World) (h : DkAt w n vb vc s) : Calls Try.prog 40 #[.pointer (some ⟨n, 0, none⟩)] w fun e w' => e = .returned (.int .i64 (mayN s)) ∧ w' = w := by
  refine calls_by fun R HR => ?_
  obtain ⟨c0, c1, c2, c3, c4⟩ := h.cells
  have HT := Lib.hid (dthere_yes n w c2)
  clear h c0 c1 c4
  rcases hd : s.down with _ | _
  · rw [hd] at c3
    have HM := Lib.hid (show mayN s = 0 by rw [mayN, hd]; rfl)
    clear hd
    go_enter Try.func40, Try.ntmps40
    go_wp2_with fail
    refine HT.out.mono ?_
    rintro e w1 ⟨rfl, rfl⟩
    go_wp2
    exact HR.out _ _ ⟨by rw [HM.out]; rfl, rfl⟩
  · rw [hd] at c3
    have HM := Lib.hid (show mayN s = 14 by rw [mayN, hd]; rfl)
    clear hd
    go_enter Try.func40, Try.ntmps40
    go_wp2_with fail
    refine HT.out.mono ?_
    rintro e w1 ⟨rfl, rfl⟩
    go_wp2
    exact HR.out _ _ ⟨by rw [HM.out]; rfl, rfl⟩
theorem dmay_no (v : Value) (w : World) (hv : DeadDisk w v) : Calls Try.prog 40 #[v] w fun e w' => e = .returned (.int .i64 1) ∧ w' = w := by
  have HT := Lib.hid (dthere_no v w hv)
  go_enter Try.func40, Try.ntmps40
  go_wp2_with fail
  refine HT.out.mono ?_
  rintro e w1 ⟨rfl, rfl⟩
  go_wp2
  go_ret
  exact ⟨rfl, rfl⟩
theorem dat_any (i : Int) (w : World) (h : DkAt w n vb vc s) : Calls Try.prog 49 #[.pointer (some ⟨n, 0, none⟩), .int .i64 i] w fun e w' => e = .returned (.bool (inD s i)) ∧ w' = w := by
  refine calls_by fun R HR => ?_
  obtain ⟨c0, c1, c2, c3, c4⟩ := h.cells
  obtain ⟨a, cap, rfl, _⟩ := h.rb.shape
  have HM : Hid (inD s i = decide (0 ≤ i ∧ i < (s.blocks.length : Int))) := Lib.hid rfl
  have HH := Lib.hid h
  clear h c1 c2 c3 c4
  generalize s.blocks.length = m at *
  by_cases h0 : 0 ≤ i
  · by_cases h1 : i < (m : Int)
    · have HM2 := Lib.hid (show inD s i = true by rw [HM.out]; simp [h0, h1])
      go_enter Try.func49, Try.ntmps49
      go_wp2
      exact HR.out _ _ ⟨by rw [HM2.out] <;> rfl, rfl⟩
    · have HM2 := Lib.hid (show inD s i = false by rw [HM.out]; simp [h0, h1])
      go_enter Try.func49, Try.ntmps49
      go_wp2
      exact HR.out _ _ ⟨by rw [HM2.out] <;> rfl, rfl⟩
  · have HM2 := Lib.hid (show inD s i = false by rw [HM.out]; simp [h0])
    go_enter Try.func49, Try.ntmps49
    go_wp2
    exact HR.out _ _ ⟨by rw [HM2.out] <;> rfl, rfl⟩
theorem dplace_any (i : Int) (t : ByteArray) (w : World) (h : DkAt w n vb vc s) : Calls Try.prog 46 #[.pointer (some ⟨n, 0, none⟩), .int .i64 i, .string t] w fun e w' => e = .returned (.int .i64 (placeE s i t)) ∧ w' = w := by
  refine calls_by fun R HR => ?_
  have HT := Lib.hid (dat_any i w h)
  have HM : Hid (placeE s i t = if inD s i then (if t.size = 4096 then 0 else 2) else 4) := Lib.hid rfl
  clear h
  generalize placeE s i t = pe at *
  cases hi : inD s i
  · rw [hi] at HT HM
    go_enter Try.func46, Try.ntmps46
    go_wp2_with fail
    refine HT.out.mono ?_
    rintro e w1 ⟨rfl, rfl⟩
    go_wp2
    exact HR.out _ _ ⟨by rw [HM.out]; rfl, rfl⟩
  · rw [hi] at HT HM
    clear hi
    by_cases ht : t.size = 4096
    · have hb : ((t.size : Int) != 4096) = false := by rw [ht]; rfl
      have HT2 := Lib.hid ht
      clear ht
      go_enter Try.func46, Try.ntmps46
      go_wp2_with fail
      refine HT.out.mono ?_
      rintro e w1 ⟨rfl, rfl⟩
      go_wp2
      exact HR.out _ _ ⟨by rw [HM.out, if_pos HT2.out]; simp, rfl⟩
    · have hb : ((t.size : Int) != 4096) = true := by rw [bne_iff_ne]; omega
      have HT2 := Lib.hid ht
      clear ht
      go_enter Try.func46, Try.ntmps46
      go_wp2_with fail
      refine HT.out.mono ?_
      rintro e w1 ⟨rfl, rfl⟩
      go_wp2
      exact HR.out _ _ ⟨by rw [HM.out, if_neg HT2.out]; simp, rfl⟩
theorem dstep_any (w : World) (h : DkAt w n vb vc s) (hd : s.down = false) : Calls Try.prog 41 #[.pointer (some ⟨n, 0, none⟩)] w fun e w' => e = .returned (.bool (stepD s).down) ∧ DkAt w' n vb vc (stepD s) ∧ Turn w w' (DF n vb vc) (DF n vb vc) := by
  refine calls_by fun R HR => ?_
  obtain ⟨c0, c1, c2, c3, c4⟩ := h.cells
  have f3 := h.froz 3
  have f4 := h.froz 4
  have HH := Lib.hid h
  rw [hd] at c3
  clear h c0 c1 c2
  obtain ⟨m, hm⟩ : ∃ m, s.left = m := ⟨_, rfl⟩
  rw [hm] at c4
  by_cases h0 : m = 0
  · subst h0
    have HM := Lib.hid (show stepD s = s by rw [stepD, if_pos hm])
    have HD := Lib.hid hd
    clear hd hm
    go_enter Try.func41, Try.ntmps41
    go_wp2
    exact HR.out _ _ ⟨by rw [HM.out, HD.out]; rfl, by rw [HM.out]; exact HH.out, Turn.refl _ _⟩
  · have HM := Lib.hid (show stepD s = { s with left := m - 1, down := decide (m - 1 = 0) } by rw [stepD, hm, if_neg h0])
    have HD := Lib.hid hd
    have hpos : 0 < (m : Int) := by omega
    have hml : m ≤ 9223372036854775807 := by have := HH.out.ok.left; omega
    have HML := Lib.hid hm
    clear hd hm
    go_enter Try.func41, Try.ntmps41
    go_wp2
    rw [show ((m : Int) - 1) = ((m - 1 : Nat) : Int) by omega]
    rw [show ((((m - 1 : Nat) : Int)) == 0) = decide (m - 1 = 0) by rw [Bool.eq_iff_iff, beq_iff_eq, decide_eq_true_iff]; omega]
    have hblk : ((w.setCell ⟨n, 4, none⟩ (.int .i64 ((m - 1 : Nat) : Int))).setCell ⟨n, 3, none⟩ (.bool (decide (m - 1 = 0)))).heap[n]? = some (.cells #[vb, vc, .bool true, .bool (decide (m - 1 = 0)), .int .i64 ((m - 1 : Nat) : Int)] 48 (0, 0)) := by
      exact set_blk (set_blk HH.out.blk 4 (.int .i64 ((m - 1 : Nat) : Int))) 3 (.bool (decide (m - 1 = 0)))
    have hT := (Turn.cell1 w n 4 (.int .i64 ((m - 1 : Nat) : Int))).trans (Turn.cell1 (w.setCell ⟨n, 4, none⟩ (.int .i64 ((m - 1 : Nat) : Int))) n 3 (.bool (decide (m - 1 = 0))))
    have := HH.out.head hT (stepD s) (by rw [HM.out]; exact hblk) (stepD_blocks s) (stepD_cache s) (stepD_ok HH.out.ok)
    exact HR.out _ _ ⟨by rw [HM.out]; rfl, this.1, this.2⟩
end Go.Proofs.Ytielmlnbjliacaa
