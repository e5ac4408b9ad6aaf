/- The reference's disk: what stands of it. -/
import Derived.Test.YtielmlnbjliacaaDiskObj
namespace Ks
open Go Go.RowKit
set_option linter.unusedVariables false
/-- a disk that was made -/
structure RDiskAt (w : World) (TD TS TP : TypeId) (n : Nat) (vb vc : Value) (s : DS) : Prop where
  blk : w.heap[n]? = some (.cells #[vb, vc, .bool s.down, .int .i64 (s.left : Int)] TD (0, 0))
  rb : Row strE w 0 TS vb s.blocks
  rc : Row pwE w 0 TP vc s.cache
  nb : vb.ownBlock ≠ some n
  nc : vc.ownBlock ≠ some n
  bc : ∀ b, vb.ownBlock = some b → vc.ownBlock ≠ some b
  ok : s.ok
variable {TD TS TP : TypeId} {n : Nat} {vb vc : Value} {s : DS}
theorem RDiskAt.lt {w : World} (h : RDiskAt w TD TS TP n vb vc s) : ∀ k, DF n vb vc k → k < w.heap.size := by
  rintro k (rfl | e | e)
  · exact lt_of_block h.blk
  · exact h.rb.own_lt e
  · exact h.rc.own_lt e
theorem RDiskAt.keep {w w' : World} (h : RDiskAt w TD TS TP n vb vc s) (hk : ∀ k, DF n vb vc k → w'.heap[k]? = w.heap[k]?) : RDiskAt w' TD TS TP n vb vc s :=
  ⟨(hk n (Or.inl rfl)).trans h.blk, h.rb.keep fun b e => hk b (Or.inr (Or.inl e)), h.rc.keep fun b e => hk b (Or.inr (Or.inr e)), h.nb, h.nc, h.bc, h.ok⟩
theorem RDiskAt.below {w w' : World} (h : RDiskAt w TD TS TP n vb vc s) (hb : Below w.heap.size w w') : RDiskAt w' TD TS TP n vb vc s := h.keep fun k hk => hb.block k (h.lt k hk)
theorem RDiskAt.cells {w : World} (h : RDiskAt w TD TS TP n vb vc s) : w.cell? ⟨n, 0, none⟩ = some vb ∧ w.cell? ⟨n, 1, none⟩ = some vc ∧ w.cell? ⟨n, 2, none⟩ = some (.bool s.down) ∧ w.cell? ⟨n, 3, none⟩ = some (.int .i64 (s.left : Int)) := by
  refine ⟨?_, ?_, ?_, ?_⟩
  all_goals (rw [cell_of_row w n _ _ _ _ h.blk]; rfl)
theorem RDiskAt.froz {w : World} (h : RDiskAt w TD TS TP n vb vc s) (o : Nat) : w.frozen? ⟨n, o, none⟩ = false := frozen_of_row w n o _ _ h.blk
/-- only the head is turned -/
theorem RDiskAt.head {w w' : World} (h : RDiskAt w TD TS TP n vb vc s) {F' : Nat → Prop} (hT : Turn w w' (fun k => k = n) F') (s' : DS) (hb : w'.heap[n]? = some (.cells #[vb, vc, .bool s'.down, .int .i64 (s'.left : Int)] TD (0, 0)))
    (e1 : s'.blocks = s.blocks) (e2 : s'.cache = s.cache) (hok : s'.ok) : RDiskAt w' TD TS TP n vb vc s' ∧ Turn w w' (DF n vb vc) (DF n vb vc) := by
  refine ⟨⟨hb, ?_, ?_, h.nb, h.nc, h.bc, hok⟩, hT.wide (fun k hk => Or.inl hk) fun k hk => Or.inr (Or.inl hk)⟩
  · rw [e1]; exact h.rb.turn hT fun b e e2 => h.nb (e2 ▸ e)
  · rw [e2]; exact h.rc.turn hT fun b e e2 => h.nc (e2 ▸ e)
/-- the cache is another one -/
theorem RDiskAt.cached {w w' : World} (h : RDiskAt w TD TS TP n vb vc s) {F' : Nat → Prop} {vc' : Value} (s' : DS) (hT : Turn w w' (fun k => k = n ∨ vc.ownBlock = some k) F') (hb : w'.heap[n]? = some (.cells #[vb, vc', .bool s'.down, .int .i64 (s'.left : Int)] TD (0, 0)))
    (hr : Row pwE w' 0 TP vc' s'.cache) (hv : ∀ b, vc'.ownBlock = some b → vc.ownBlock = some b ∨ w.heap.size ≤ b) (e1 : s'.blocks = s.blocks) (hok : s'.ok) : RDiskAt w' TD TS TP n vb vc' s' ∧ Turn w w' (DF n vb vc) (DF n vb vc') := by
  have hn := lt_of_block h.blk
  refine ⟨⟨hb, ?_, hr, h.nb, fun e => ?_, fun b e e2 => ?_, hok⟩, hT.wide (fun k hk => ?_) fun k hk => ?_⟩
  · rw [e1]; exact h.rb.turn hT fun b e e2 => by
      rcases e2 with rfl | e2
      · exact h.nb e
      · exact h.bc b e e2
  · rcases hv n e with h1 | h1
    · exact h.nc h1
    · omega
  · rcases hv b e2 with h1 | h1
    · exact h.bc b e h1
    · have := h.rb.own_lt e; omega
  · rcases hk with rfl | hk
    · exact Or.inl rfl
    · exact Or.inr (Or.inr hk)
  · rcases hk with rfl | hk | hk
    · exact Or.inr (Or.inl (Or.inl rfl))
    · exact Or.inr (Or.inl (Or.inr (Or.inl hk)))
    · rcases hv k hk with h1 | h1
      · exact Or.inr (Or.inl (Or.inr (Or.inr h1)))
      · exact Or.inr (Or.inr h1)
/-- what is behind an append to the cache, and the store -/
theorem RDiskAt.append {w w3 : World} (h : RDiskAt w TD TS TP n vb vc s) (o : Obj) {v' : Value} {L : List PutT} (hG : Grew pwE (w.alloc o) w3 0 TP vc v' L) (hok : ({ s with cache := L } : DS).ok) :
    RDiskAt (w3.setCell ⟨n, 1, none⟩ v') TD TS TP n vb v' { s with cache := L } ∧ Turn w (w3.setCell ⟨n, 1, none⟩ v') (DF n vb vc) (DF n vb v') := by
  have hn := lt_of_block h.blk
  have hb3 := hG.block (blk_keep h.blk o) h.nc
  have hv : ∀ b, v'.ownBlock = some b → vc.ownBlock = some b ∨ w.heap.size ≤ b := fun b hb => by
    rcases hG.foot b hb with h1 | h1
    · exact Or.inl h1
    · exact Or.inr (by simp at h1; omega)
  have hT : Turn w (w3.setCell ⟨n, 1, none⟩ v') (fun k => k = n ∨ vc.ownBlock = some k) (fun k => k = n ∨ vc.ownBlock = some k) :=
    ((Turn.of_below _ (alloc_below w o)).trans (hG.turn (F := fun k => k = n ∨ vc.ownBlock = some k) fun b e => Or.inr e)).trans (Turn.cell w3 n 1 v' (Or.inl rfl))
  refine h.cached { s with cache := L } hT (set_blk hb3 1 v') (hG.1.keep fun b e => set_ne v' fun e2 => ?_) hv rfl hok
  subst e2
  rcases hv b e with h1 | h1
  · exact h.nc h1
  · omega
/-- what is behind an append to the blocks, and the store -/
theorem RDiskAt.appendB {w w3 : World} (h : RDiskAt w TD TS TP n vb vc s) (o : Obj) {v' : Value} {L : List ByteArray} (hG : Grew strE (w.alloc o) w3 0 TS vb v' L) (hok : ({ s with blocks := L } : DS).ok) :
    RDiskAt (w3.setCell ⟨n, 0, none⟩ v') TD TS TP n v' vc { s with blocks := L } ∧ Turn w (w3.setCell ⟨n, 0, none⟩ v') (DF n vb vc) (DF n v' vc) := by
  have hn := lt_of_block h.blk
  have hb3 := hG.block (blk_keep h.blk o) h.nb
  have hv : ∀ b, v'.ownBlock = some b → vb.ownBlock = some b ∨ w.heap.size ≤ b := fun b hb => by
    rcases hG.foot b hb with h1 | h1
    · exact Or.inl h1
    · exact Or.inr (by simp at h1; omega)
  have hT : Turn w (w3.setCell ⟨n, 0, none⟩ v') (fun k => k = n ∨ vb.ownBlock = some k) (fun k => k = n ∨ vb.ownBlock = some k) :=
    ((Turn.of_below _ (alloc_below w o)).trans (hG.turn (F := fun k => k = n ∨ vb.ownBlock = some k) fun b e => Or.inr e)).trans (Turn.cell w3 n 0 v' (Or.inl rfl))
  refine ⟨⟨set_blk hb3 0 v', hG.1.keep fun b e => set_ne v' fun e2 => ?_, h.rc.turn hT fun b e e2 => ?_, fun e => ?_, h.nc, fun b e e2 => ?_, hok⟩, hT.wide (fun k hk => ?_) fun k hk => ?_⟩
  · subst e2
    rcases hv b e with h1 | h1
    · exact h.nb h1
    · omega
  · rcases e2 with rfl | e2
    · exact h.nc e
    · exact h.bc b e2 e
  · rcases hv n e with h1 | h1
    · exact h.nb h1
    · omega
  · rcases hv b e with h1 | h1
    · exact h.bc b h1 e2
    · have := h.rc.own_lt e2; omega
  · rcases hk with rfl | hk
    · exact Or.inl rfl
    · exact Or.inr (Or.inl hk)
  · rcases hk with rfl | hk | hk
    · exact Or.inr (Or.inl (Or.inl rfl))
    · rcases hv k hk with h1 | h1
      · exact Or.inr (Or.inl (Or.inr (Or.inl h1)))
      · exact Or.inr (Or.inr h1)
    · exact Or.inr (Or.inl (Or.inr (Or.inr hk)))
/-- the blocks' row is written -/
theorem RDiskAt.rows {w w' : World} (h : RDiskAt w TD TS TP n vb vc s) {F' : Nat → Prop} (hT : Turn w w' (fun k => vb.ownBlock = some k) F') (bl : List ByteArray) (hr : Row strE w' 0 TS vb bl) (hok : ({ s with blocks := bl } : DS).ok) :
    RDiskAt w' TD TS TP n vb vc { s with blocks := bl } ∧ Turn w w' (DF n vb vc) (DF n vb vc) :=
  ⟨⟨(hT.block n (lt_of_block h.blk) h.nb).trans h.blk, hr, h.rc.turn hT fun b e e2 => h.bc b e2 e, h.nb, h.nc, h.bc, hok⟩, hT.wide (fun k hk => Or.inr (Or.inl hk)) fun k hk => Or.inr (Or.inl hk)⟩
end Ks
