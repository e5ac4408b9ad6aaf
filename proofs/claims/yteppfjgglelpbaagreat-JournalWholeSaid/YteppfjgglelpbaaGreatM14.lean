/- Texts that the claim rests on, part 14: RDiskObj, RDiskActs, RDiskFlush, RDiskSame, Open, FrameStep. -/
import Derived.Deep.Slices
import Derived.Test.YteppfjgglelpbaaGreatM13
/- The reference's disk: what stands of it. -/
namespace Ks
open Go Go.RowKit
set_option linter.unusedVariables false
/-- a disk that was made -/
structure RDiskAt (w : World) (TD TS TP : TypeId) (n : Nat) (vb vc : Value) (s : DS) : Prop where
  blk : w.heap[n]? = some (.cells #[vb, vc, .bool s.down, .int .i64 (s.left : Int)] TD (0, 0))
  rb : Row strE w 0 TS vb s.blocks
  rc : Row pwE w 0 TP vc s.cache
  nb : vb.ownBlock ≠ some n
  nc : vc.ownBlock ≠ some n
  bc : ∀ b, vb.ownBlock = some b → vc.ownBlock ≠ some b
  ok : s.ok
variable {TD TS TP : TypeId} {n : Nat} {vb vc : Value} {s : DS}
theorem RDiskAt.lt {w : World} (h : RDiskAt w TD TS TP n vb vc s) : ∀ k, DF n vb vc k → k < w.heap.size := by
  rintro k (rfl | e | e)
  · exact lt_of_block h.blk
  · exact h.rb.own_lt e
  · exact h.rc.own_lt e
theorem RDiskAt.keep {w w' : World} (h : RDiskAt w TD TS TP n vb vc s) (hk : ∀ k, DF n vb vc k → w'.heap[k]? = w.heap[k]?) : RDiskAt w' TD TS TP n vb vc s :=
  ⟨(hk n (Or.inl rfl)).trans h.blk, h.rb.keep fun b e => hk b (Or.inr (Or.inl e)), h.rc.keep fun b e => hk b (Or.inr (Or.inr e)), h.nb, h.nc, h.bc, h.ok⟩
theorem RDiskAt.below {w w' : World} (h : RDiskAt w TD TS TP n vb vc s) (hb : Below w.heap.size w w') : RDiskAt w' TD TS TP n vb vc s := h.keep fun k hk => hb.block k (h.lt k hk)
theorem RDiskAt.cells {w : World} (h : RDiskAt w TD TS TP n vb vc s) : w.cell? ⟨n, 0, none⟩ = some vb ∧ w.cell? ⟨n, 1, none⟩ = some vc ∧ w.cell? ⟨n, 2, none⟩ = some (.bool s.down) ∧ w.cell? ⟨n, 3, none⟩ = some (.int .i64 (s.left : Int)) := by
  refine ⟨?_, ?_, ?_, ?_⟩
  all_goals (rw [cell_of_row w n _ _ _ _ h.blk]; rfl)
theorem RDiskAt.froz {w : World} (h : RDiskAt w TD TS TP n vb vc s) (o : Nat) : w.frozen? ⟨n, o, none⟩ = false := frozen_of_row w n o _ _ h.blk
/-- only the head is turned -/
theorem RDiskAt.head {w w' : World} (h : RDiskAt w TD TS TP n vb vc s) {F' : Nat → Prop} (hT : Turn w w' (fun k => k = n) F') (s' : DS) (hb : w'.heap[n]? = some (.cells #[vb, vc, .bool s'.down, .int .i64 (s'.left : Int)] TD (0, 0)))
    (e1 : s'.blocks = s.blocks) (e2 : s'.cache = s.cache) (hok : s'.ok) : RDiskAt w' TD TS TP n vb vc s' ∧ Turn w w' (DF n vb vc) (DF n vb vc) := by
  refine ⟨⟨hb, ?_, ?_, h.nb, h.nc, h.bc, hok⟩, hT.wide (fun k hk => Or.inl hk) fun k hk => Or.inr (Or.inl hk)⟩
  · rw [e1]; exact h.rb.turn hT fun b e e2 => h.nb (e2 ▸ e)
  · rw [e2]; exact h.rc.turn hT fun b e e2 => h.nc (e2 ▸ e)
/-- the cache is another one -/
theorem RDiskAt.cached {w w' : World} (h : RDiskAt w TD TS TP n vb vc s) {F' : Nat → Prop} {vc' : Value} (s' : DS) (hT : Turn w w' (fun k => k = n ∨ vc.ownBlock = some k) F') (hb : w'.heap[n]? = some (.cells #[vb, vc', .bool s'.down, .int .i64 (s'.left : Int)] TD (0, 0)))
    (hr : Row pwE w' 0 TP vc' s'.cache) (hv : ∀ b, vc'.ownBlock = some b → vc.ownBlock = some b ∨ w.heap.size ≤ b) (e1 : s'.blocks = s.blocks) (hok : s'.ok) : RDiskAt w' TD TS TP n vb vc' s' ∧ Turn w w' (DF n vb vc) (DF n vb vc') := by
  have hn := lt_of_block h.blk
  refine ⟨⟨hb, ?_, hr, h.nb, fun e => ?_, fun b e e2 => ?_, hok⟩, hT.wide (fun k hk => ?_) fun k hk => ?_⟩
  · rw [e1]; exact h.rb.turn hT fun b e e2 => by
      rcases e2 with rfl | e2
      · exact h.nb e
      · exact h.bc b e e2
  · rcases hv n e with h1 | h1
    · exact h.nc h1
    · omega
  · rcases hv b e2 with h1 | h1
    · exact h.bc b e h1
    · have := h.rb.own_lt e; omega
  · rcases hk with rfl | hk
    · exact Or.inl rfl
    · exact Or.inr (Or.inr hk)
  · rcases hk with rfl | hk | hk
    · exact Or.inr (Or.inl (Or.inl rfl))
    · exact Or.inr (Or.inl (Or.inr (Or.inl hk)))
    · rcases hv k hk with h1 | h1
      · exact Or.inr (Or.inl (Or.inr (Or.inr h1)))
      · exact Or.inr (Or.inr h1)
/-- what is behind an append to the cache, and the store -/
theorem RDiskAt.append {w w3 : World} (h : RDiskAt w TD TS TP n vb vc s) (o : Obj) {v' : Value} {L : List PutT} (hG : Grew pwE (w.alloc o) w3 0 TP vc v' L) (hok : ({ s with cache := L } : DS).ok) :
    RDiskAt (w3.setCell ⟨n, 1, none⟩ v') TD TS TP n vb v' { s with cache := L } ∧ Turn w (w3.setCell ⟨n, 1, none⟩ v') (DF n vb vc) (DF n vb v') := by
  have hn := lt_of_block h.blk
  have hb3 := hG.block (blk_keep h.blk o) h.nc
  have hv : ∀ b, v'.ownBlock = some b → vc.ownBlock = some b ∨ w.heap.size ≤ b := fun b hb => by
    rcases hG.foot b hb with h1 | h1
    · exact Or.inl h1
    · exact Or.inr (by simp at h1; omega)
  have hT : Turn w (w3.setCell ⟨n, 1, none⟩ v') (fun k => k = n ∨ vc.ownBlock = some k) (fun k => k = n ∨ vc.ownBlock = some k) :=
    ((Turn.of_below _ (alloc_below w o)).trans (hG.turn (F := fun k => k = n ∨ vc.ownBlock = some k) fun b e => Or.inr e)).trans (Turn.cell w3 n 1 v' (Or.inl rfl))
  refine h.cached { s with cache := L } hT (set_blk hb3 1 v') (hG.1.keep fun b e => set_ne v' fun e2 => ?_) hv rfl hok
  subst e2
  rcases hv b e with h1 | h1
  · exact h.nc h1
  · omega
/-- what is behind an append to the blocks, and the store -/
theorem RDiskAt.appendB {w w3 : World} (h : RDiskAt w TD TS TP n vb vc s) (o : Obj) {v' : Value} {L : List ByteArray} (hG : Grew strE (w.alloc o) w3 0 TS vb v' L) (hok : ({ s with blocks := L } : DS).ok) :
    RDiskAt (w3.setCell ⟨n, 0, none⟩ v') TD TS TP n v' vc { s with blocks := L } ∧ Turn w (w3.setCell ⟨n, 0, none⟩ v') (DF n vb vc) (DF n v' vc) := by
  have hn := lt_of_block h.blk
  have hb3 := hG.block (blk_keep h.blk o) h.nb
  have hv : ∀ b, v'.ownBlock = some b → vb.ownBlock = some b ∨ w.heap.size ≤ b := fun b hb => by
    rcases hG.foot b hb with h1 | h1
    · exact Or.inl h1
    · exact Or.inr (by simp at h1; omega)
  have hT : Turn w (w3.setCell ⟨n, 0, none⟩ v') (fun k => k = n ∨ vb.ownBlock = some k) (fun k => k = n ∨ vb.ownBlock = some k) :=
    ((Turn.of_below _ (alloc_below w o)).trans (hG.turn (F := fun k => k = n ∨ vb.ownBlock = some k) fun b e => Or.inr e)).trans (Turn.cell w3 n 0 v' (Or.inl rfl))
  refine ⟨⟨set_blk hb3 0 v', hG.1.keep fun b e => set_ne v' fun e2 => ?_, h.rc.turn hT fun b e e2 => ?_, fun e => ?_, h.nc, fun b e e2 => ?_, hok⟩, hT.wide (fun k hk => ?_) fun k hk => ?_⟩
  · subst e2
    rcases hv b e with h1 | h1
    · exact h.nb h1
    · omega
  · rcases e2 with rfl | e2
    · exact h.nc e
    · exact h.bc b e2 e
  · rcases hv n e with h1 | h1
    · exact h.nb h1
    · omega
  · rcases hv b e with h1 | h1
    · exact h.bc b h1 e2
    · have := h.rc.own_lt e2; omega
  · rcases hk with rfl | hk
    · exact Or.inl rfl
    · exact Or.inr (Or.inl hk)
  · rcases hk with rfl | hk | hk
    · exact Or.inr (Or.inl (Or.inl rfl))
    · rcases hv k hk with h1 | h1
      · exact Or.inr (Or.inl (Or.inr (Or.inl h1)))
      · exact Or.inr (Or.inr h1)
    · exact Or.inr (Or.inl (Or.inr (Or.inr hk)))
/-- the blocks' row is written -/
theorem RDiskAt.rows {w w' : World} (h : RDiskAt w TD TS TP n vb vc s) {F' : Nat → Prop} (hT : Turn w w' (fun k => vb.ownBlock = some k) F') (bl : List ByteArray) (hr : Row strE w' 0 TS vb bl) (hok : ({ s with blocks := bl } : DS).ok) :
    RDiskAt w' TD TS TP n vb vc { s with blocks := bl } ∧ Turn w w' (DF n vb vc) (DF n vb vc) :=
  ⟨⟨(hT.block n (lt_of_block h.blk) h.nb).trans h.blk, hr, h.rc.turn hT fun b e e2 => h.bc b e2 e, h.nb, h.nc, h.bc, hok⟩, hT.wide (fun k hk => Or.inr (Or.inl hk)) fun k hk => Or.inr (Or.inl hk)⟩
end Ks
/- The reference's disk: its functions. -/
set_option maxRecDepth 100000
namespace Ks
open Go Go.RowKit
set_option linter.unusedVariables false
theorem showC_fwd (b : List ByteArray) (c : List PutT) (k : Nat) (i : Int) (x : PutT) (hx : c[k]? = some x) : showC b (c.take (k + 1)) i = if x.1 = i then x.2 else showC b (c.take k) i := by
  by_cases h : x.1 = i
  · rw [if_pos h]; exact showC_hit b c k i x hx h
  · rw [if_neg h]; exact showC_miss b c k i x hx h
def showTo (b : List ByteArray) (c : List PutT) (k : Nat) : List ByteArray := (List.range b.length).map fun (j : Nat) => if j < k then showC b c (j : Int) else b.getD j ⟨#[]⟩
theorem showTo_length (b : List ByteArray) (c : List PutT) (k : Nat) : (showTo b c k).length = b.length := by simp [showTo]
theorem showTo_zero (b : List ByteArray) (c : List PutT) : showTo b c 0 = b := by
  refine List.ext_getElem (by simp [showTo]) fun i h1 h2 => ?_
  simp [showTo, h2]
theorem showTo_get (b : List ByteArray) (c : List PutT) (k : Nat) (hk : k < b.length) : (showTo b c k).getD k ⟨#[]⟩ = b.getD k ⟨#[]⟩ := by simp [showTo, hk]
theorem showTo_show (b : List ByteArray) (c d : List PutT) (k : Nat) (hk : k < b.length) : showC (showTo b c k) d k = showC b d k := by
  unfold showC
  rw [Int.toNat_natCast, showTo_get b c k hk]
theorem showTo_set (b : List ByteArray) (c : List PutT) (k : Nat) (hk : k < b.length) : (showTo b c k).set k (showC b c k) = showTo b c (k + 1) := by
  refine List.ext_getElem (by simp [showTo]) fun i h1 h2 => ?_
  rw [List.getElem_set]
  simp only [showTo, List.getElem_map, List.getElem_range]
  by_cases e : k = i
  · subst e; simp
  · rw [if_neg e]
    by_cases h : i < k
    · rw [if_pos h, if_pos (by omega)]
    · rw [if_neg h, if_neg (by omega)]
theorem showTo_all (b : List ByteArray) (c : List PutT) (hc : ∀ p ∈ c, 0 ≤ p.1) : showTo b c b.length = c.foldl putC b := by
  rw [puts_all b c hc, showTo]
  refine List.map_congr_left fun j hj => ?_
  rw [if_pos (List.mem_range.1 hj)]
end Ks
namespace Go.Proofs.YteppfjgglelpbaaGreat
open Go.RowKit Ks
set_option linter.unusedVariables false
variable {n : Nat} {vb vc : Value} {s : DS}
/-- is a place one of the disk's? as the reference asks it -/
theorem in_cases (s : DS) (i : Int) : (inD s i = true ∧ ¬ i < 0 ∧ ¬ (s.blocks.length : Int) ≤ i) ∨ (inD s i = false ∧ i < 0) ∨ (inD s i = false ∧ ¬ i < 0 ∧ (s.blocks.length : Int) ≤ i) := by
  unfold inD
  by_cases h1 : i < 0
  · right; left; exact ⟨by simp; omega, h1⟩
  · by_cases h2 : (s.blocks.length : Int) ≤ i
    · right; right; exact ⟨by simp; omega, h1, h2⟩
    · left; exact ⟨by simp; omega, h1, h2⟩

/-- what the reference asks of a place and a text -/
theorem place_cases (s : DS) (i : Int) (t : ByteArray) : (placeE s i t = 4 ∧ i < 0) ∨ (placeE s i t = 4 ∧ ¬ i < 0 ∧ (s.blocks.length : Int) ≤ i) ∨ (placeE s i t = 2 ∧ ¬ i < 0 ∧ ¬ (s.blocks.length : Int) ≤ i ∧ ((t.size : Int) != 4096) = true) ∨ (placeE s i t = 0 ∧ ¬ i < 0 ∧ ¬ (s.blocks.length : Int) ≤ i ∧ ((t.size : Int) != 4096) = false ∧ t.size = 4096) := by
  unfold placeE
  rcases in_cases s i with ⟨q1, q2, q3⟩ | ⟨q1, q2⟩ | ⟨q1, q2, q3⟩
  · rw [q1]
    by_cases ht : t.size = 4096
    · right; right; right
      exact ⟨by simp [ht], q2, q3, by rw [ht]; rfl, ht⟩
    · right; right; left
      exact ⟨by simp [ht], q2, q3, by rw [bne_iff_ne]; omega⟩
  · left; exact ⟨by simp [q1], q2⟩
  · right; left; exact ⟨by simp [q1], q2, q3⟩

end Go.Proofs.YteppfjgglelpbaaGreat
/- The reference's disk: flush and crash. -/
set_option maxRecDepth 100000
namespace Go.Proofs.YteppfjgglelpbaaGreat
open Go.RowKit Ks
set_option linter.unusedVariables false
variable {n : Nat} {vb vc : Value} {s : DS}

end Go.Proofs.YteppfjgglelpbaaGreat
/- The reference's: are two rows of texts the same? are two images? -/
set_option maxRecDepth 100000
namespace Go.Proofs.YteppfjgglelpbaaGreat
open Go.RowKit Ks
set_option linter.unusedVariables false
set_option maxRecDepth 20000 in
set_option maxHeartbeats 4000000 in
theorem rsame_any (va vc ua uc : Value) (A B : List ByteArray) (C D : List PutT) (w : World) (ha : Rd strE w va A) (hc : Rd pwE w vc C) (hb : Rd strE w ua B) (hd : Rd pwE w uc D) (hA : A.length ≤ maxLen) (hB : B.length ≤ maxLen) (hC : C.length ≤ maxLen) (hD : D.length ≤ maxLen) :
    Calls Tryz.prog 30 #[.agg #[va, vc], .agg #[ua, uc]] w fun e w' => ∃ b, e = .returned (.bool b) ∧ (b = true ↔ A = B ∧ C = D) ∧ Below w.heap.size w w' := by
  refine calls_by fun R HR => ?_
  have HT := Lib.hid (fun (W : World) (h : Below w.heap.size w W) => texts_any va ua A B W (ha.below h) (hb.below h) hA hB)
  unfold maxLen at hC hD
  obtain ⟨ac, cc, hvc, _⟩ := hc.shape
  obtain ⟨ad, cd, hvd, _⟩ := hd.shape
  have HH := Lib.hid (And.intro hc hd)
  subst hvc hvd
  clear ha hb hc hd hA hB
  go_enter Tryz.func30, Tryz.ntmps30
  go_wp2_with fail
  have hb0 : Below w.heap.size w ((w.alloc (.cells #[va, .slice ac C.length cc] 55)).alloc (.cells #[ua, .slice ad D.length cd] 55)) := (alloc_below w _).alloc (by simp) _
  have hk1 := (alloc2_heap w (.cells #[va, .slice ac C.length cc] 55) (.cells #[ua, .slice ad D.length cd] 55)).1
  have hk2 := (alloc2_heap w (.cells #[va, .slice ac C.length cc] 55) (.cells #[ua, .slice ad D.length cd] 55)).2
  have HW := Lib.hid (And.intro hb0 (And.intro hk1 hk2))
  clear hb0 hk1 hk2
  generalize (w.alloc (.cells #[va, .slice ac C.length cc] 55)).alloc (.cells #[ua, .slice ad D.length cd] 55) = W at *
  refine (HT.out W HW.out.1).mono ?_
  rintro e w1 ⟨b0, rfl, hb0, hb1⟩
  have HW1 := Lib.hid (And.intro (HW.out.1.trans (hb1.mono HW.out.1.size)) (And.intro (blk_on hb1 HW.out.2.1) (blk_on hb1 HW.out.2.2)))
  have HB0 := Lib.hid hb0
  obtain ⟨c0, c1, -, -⟩ := blk2 HW1.out.2.1
  obtain ⟨d0, d1, -, -⟩ := blk2 HW1.out.2.2
  clear hb1 hb0
  cases b0
  · have hno := Lib.hid (show ¬ (A = B ∧ C = D) from fun h => by have := HB0.out.2 h.1; cases this)
    go_wp2
    exact HR.out _ _ ⟨false, rfl, by simp; exact fun h1 h2 => hno.out ⟨h1, h2⟩, HW1.out.1⟩
  · by_cases hl : C.length = D.length
    · obtain ⟨ln, hln⟩ : ∃ ln, C.length = ln := ⟨_, rfl⟩
      have HL := Lib.hid (And.intro hln (hl.symm.trans hln))
      rw [hln] at c1 hC
      rw [← hl, hln] at d1
      clear hl hln hD
      go_wp2_with fail
      go_loopw [5] (fun i wx => ∃ k : Nat, k ≤ ln ∧ i = .int .i64 k ∧ Hid (C.take k = D.take k ∧ Below w1.heap.size w1 wx)) (fun i _ => ln - (intOf i).toNat)
      case atStart => exact ⟨0, by omega, rfl, Lib.hid ⟨by simp, Below.refl _ _⟩⟩
      case round =>
        obtain ⟨k, hk, rfl, hN⟩ := hrel
        clear c0 c1 d0 d1
        obtain ⟨c0, c1, -, -⟩ := blk2 (blk_on hN.out.2 HW1.out.2.1)
        obtain ⟨d0, d1, -, -⟩ := blk2 (blk_on hN.out.2 HW1.out.2.2)
        rw [HL.out.1] at c1
        rw [HL.out.2] at d1
        by_cases hlt : k < ln
        · have h1 : k < C.length := by rw [HL.out.1]; exact hlt
          have h2 : k < D.length := by rw [HL.out.2]; exact hlt
          have ra : Rd pwE wr (.slice ac C.length cc) C := (HH.out.1.below HW1.out.1).below hN.out.2
          have rb : Rd pwE wr (.slice ad D.length cd) D := (HH.out.2.below HW1.out.1).below hN.out.2
          obtain ⟨p, hp⟩ : ∃ p, C[k]? = some p := ⟨_, List.getElem?_eq_getElem h1⟩
          obtain ⟨q, hq⟩ : ∃ q, D[k]? = some q := ⟨_, List.getElem?_eq_getElem h2⟩
          obtain ⟨b1, o1, rfl, hb1, x0, x1⟩ := ra.putAt k p hp
          obtain ⟨b2, o2, rfl, hb2, y0, y1⟩ := rb.putAt k q hq
          have T1 := Lib.hid (show C.take (k + 1) = C.take k ++ [p] by rw [List.take_succ_eq_append_getElem h1, (List.getElem?_eq_some_iff.1 hp).2])
          have T2 := Lib.hid (show D.take (k + 1) = D.take k ++ [q] by rw [List.take_succ_eq_append_getElem h2, (List.getElem?_eq_some_iff.1 hq).2])
          have NE := Lib.hid (show p ≠ q → C ≠ D from fun h e => h (by subst e; rw [hp] at hq; exact Option.some.inj hq))
          obtain ⟨pa, pd⟩ := p
          obtain ⟨qa, qd⟩ := q
          simp only at x0 x1 y0 y1
          have hki : (k : Int) < (ln : Int) := by omega
          have HBB := Lib.hid (fun q => below_drewN hN.out.2 q)
          clear ra rb hb1 hb2 h1 h2 hp hq
          by_cases ha : pa = qa
          · subst ha
            by_cases hd : pd = qd
            · subst hd
              have HQ := Lib.hid (show C.take (k + 1) = D.take (k + 1) by rw [T1.out, T2.out, hN.out.1])
              go_wp2_with fail
              go_quiet (fail)
              go_wp2_with fail
              go_roundw
              case rel => exact ⟨k + 1, by omega, by go_num, Lib.hid ⟨HQ.out, HBB.out _⟩⟩
              case measure => simp [intOf]; omega
            · have hno := Lib.hid (NE.out fun e => hd (Prod.mk.inj e).2)
              have hne := text_ne hd
              clear hd
              go_wp2
              go_quiet (fail)
              go_wp2
              exact HR.out _ _ ⟨false, rfl, by simp; exact fun _ => hno.out, HW1.out.1.trans ((HBB.out _).mono HW1.out.1.size)⟩
          · have hno := Lib.hid (NE.out fun e => ha (Prod.mk.inj e).1)
            have hne : (pa == qa) = false := by rw [beq_eq_false_iff_ne]; exact ha
            clear ha
            go_wp2
            go_quiet (fail)
            go_wp2
            exact HR.out _ _ ⟨false, rfl, by simp; exact fun _ => hno.out, HW1.out.1.trans ((HBB.out _).mono HW1.out.1.size)⟩
        · obtain rfl : k = ln := by omega
          have HE := Lib.hid (show C = D by have := hN.out.1; rwa [List.take_of_length_le (by rw [HL.out.1]; exact Nat.le_refl _), List.take_of_length_le (by rw [HL.out.2]; exact Nat.le_refl _)] at this)
          go_wp2
          exact HR.out _ _ ⟨true, rfl, by simp; exact ⟨by first | exact HB0.out.1 rfl | exact HB0.out.1 trivial | (simpa using HB0.out), HE.out⟩, HW1.out.1.trans (hN.out.2.mono HW1.out.1.size)⟩
    · have hne : ((C.length : Int) != (D.length : Int)) = true := by simp; omega
      have hno := Lib.hid (fun (e : C = D) => hl (by rw [e]))
      clear hl
      go_wp2
      exact HR.out _ _ ⟨false, rfl, by simp; exact fun _ h => hno.out h, HW1.out.1⟩
end Go.Proofs.YteppfjgglelpbaaGreat
/- Slices among a law's arguments, of whatever elements: what they read as. No program is in sight. -/
namespace Ks
open Go Go.RowKit Go.ChangeShapes Go.WideShapes Go.ChangeAt
set_option linter.unusedVariables false

section
variable {α : Type} {E : Enc α} {H : Type} {enc : TypeId × Value → H} {P : Program} {W : World}

theorem cells_at {w : World} {base : Nat} {a : Addr} {k : Nat} {cs : List Value} (h : w.cells? base a k = some cs) : cs.length = k ∧ ∀ j u, cs[j]? = some u → w.cell? (a.add j) = some u := by
  obtain ⟨_, h2, h3⟩ := World.cells?_some h
  refine ⟨h2, fun j u hj => ?_⟩
  have hlt : j < k := by have := (List.getElem?_eq_some_iff.1 hj).1; omega
  have := h3 j hlt
  rw [hj] at this
  exact this

theorem rd_opens {T e : TypeId} {fuel : Nat} {cs : List Value} {d : DataW H × List MemPlace} (hT : P.underlying T = some (.slice e)) (hc : P.cellsOf e = E.k) (G : α → Prop)
    (hE : ∀ n cs d, DataW.trod enc P W 0 (fun _ => true) true n e cs = some d → cs.length = E.k → ∃ x, cs = E.enc x ∧ G x)
    (h : DataW.trod enc P W 0 (fun _ => true) true fuel T cs = some d) : ∃ v l, cs = [v] ∧ v.oneCell' = true ∧ Rd E W v l ∧ l.length ≤ maxLen ∧ ∀ x ∈ l, G x := by
  rcases Go.Deep.open_slice hT h with ⟨rfl, _⟩ | ⟨a, len, cap, m, n, D, Pl, rfl, _, hl, hm, hmm, _, hxx⟩
  · exact ⟨_, [], rfl, rfl, Rd.nil W, by simp, fun x hx => by simp at hx⟩
  · simp only [if_true] at hmm
    have hall : ∀ i, i < len → ∃ x : α, G x ∧ ∀ j u, (E.enc x)[j]? = some u → W.cell? ((a.add (i * E.k)).add j) = some u := by
      intro i hi
      obtain ⟨cs', h1, h2⟩ := hxx i (by omega)
      rw [hc] at h1
      obtain ⟨h3, h4⟩ := cells_at h1
      obtain ⟨x, rfl, hG⟩ := hE _ _ _ h2 h3
      exact ⟨x, hG, h4⟩
    have key : ∀ k, k ≤ len → ∃ l : List α, l.length = k ∧ (∀ x ∈ l, G x) ∧ ∀ i x, l[i]? = some x → ∀ j u, (E.enc x)[j]? = some u → W.cell? ((a.add (i * E.k)).add j) = some u := by
      intro k
      induction k with
      | zero => exact fun _ => ⟨[], rfl, fun x hx => by simp at hx, fun i x hx => by simp at hx⟩
      | succ k ih =>
        intro hk
        obtain ⟨l, h1, h2, h3⟩ := ih (by omega)
        obtain ⟨x, hG, hc⟩ := hall k (by omega)
        refine ⟨l ++ [x], by simp [h1], fun y hy => ?_, fun i y hy => ?_⟩
        · rcases List.mem_append.1 hy with h | h
          · exact h2 y h
          · simp at h; subst h; exact hG
        · by_cases hi : i < l.length
          · rw [List.getElem?_append_left hi] at hy
            exact h3 i y hy
          · have hik : i = k := by have := (List.getElem?_eq_some_iff.1 hy).1; simp at this; omega
            subst hik
            rw [List.getElem?_append_right (by omega), h1, Nat.sub_self] at hy
            simp at hy
            subst hy
            exact hc
    obtain ⟨l, hlen, hG, hcell⟩ := key len (Nat.le_refl _)
    subst hlen
    refine ⟨_, l, rfl, rfl, ⟨some a, cap, rfl, hl, fun e => by simp at e, fun i x hx => ?_⟩, by omega, hG⟩
    have h0 : 0 < (E.enc x).length := by rw [E.len]; exact E.pos
    have hlt : 0 < l.length := by have := (List.getElem?_eq_some_iff.1 hx).1; omega
    have h00 : 0 < (E.enc l[0]).length := by rw [E.len]; exact E.pos
    have hc0 := hcell 0 l[0] (List.getElem?_eq_getElem hlt) 0 _ (List.getElem?_eq_getElem h00)
    obtain ⟨b, o, s⟩ := a
    have ha : ((⟨b, o, s⟩ : Addr).add (0 * E.k)).add 0 = ⟨b, o, s⟩ := by simp [Addr.add]
    rw [ha] at hc0
    have hs : s = none := spot_none hc0
    subst hs
    refine ⟨b, o, rfl, ?_, fun j u hu => ?_⟩
    · exact World.block_lt_of_cell? _ _ hc0
    · have := hcell i x hx j u hu
      rwa [add_place, add_place] at this

theorem rd_open {T e : TypeId} {base : Nat} {v : Value} {d : DataW H} {ps : List MemPlace} (hT : P.underlying T = some (.slice e)) (hc : P.cellsOf e = E.k) (G : α → Prop)
    (hE : ∀ n cs d, DataW.trod enc P W 0 (fun _ => true) true n e cs = some d → cs.length = E.k → ∃ x, cs = E.enc x ∧ G x)
    (hok : Value.okWide P W .any base T v) (h : DataW.Trod enc P W 0 (fun _ => true) true T v d ps) : ∃ l, Rd E W v l ∧ l.length ≤ maxLen ∧ ∀ x ∈ l, G x := by
  obtain ⟨a0, len, cap, rfl⟩ := okWide_slice hT hok
  obtain ⟨fuel, hf⟩ := h
  obtain ⟨v', l, e, _, h1, h2, h3⟩ := rd_opens (E := E) hT hc G hE hf
  simp only [Value.cells, List.cons.injEq, and_true] at e
  subst e
  exact ⟨l, h1, h2, h3⟩
end

theorem choose_list {α β : Type} {p : α → β → Prop} : ∀ (l : List α), (∀ x ∈ l, ∃ y, p x y) → ∃ l' : List β, l'.length = l.length ∧ ∀ (i : Nat) (x : α) (y : β), l[i]? = some x → l'[i]? = some y → p x y
  | [], _ => ⟨[], rfl, fun i x y hx => by simp at hx⟩
  | x :: l, h => by
    obtain ⟨y, hy⟩ := h x (by simp)
    obtain ⟨l', h1, h2⟩ := choose_list l fun z hz => h z (by simp [hz])
    refine ⟨y :: l', by simp [h1], fun i a b ha hb => ?_⟩
    match i, ha, hb with
    | 0, ha, hb => simp at ha hb; subst ha hb; exact hy
    | i + 1, ha, hb => exact h2 i a b (by simpa using ha) (by simpa using hb)

/-- a slice's head, as data -/
abbrev Hdr := Option Addr × Nat × Nat
abbrev hdrV (h : Hdr) : Value := .slice h.1 h.2.1 h.2.2
end Ks
/- Steps of a script among a law's arguments. -/
namespace Go.Proofs.YteppfjgglelpbaaGreat
open Go Go.RowKit Go.ChangeShapes Go.WideShapes Go.ChangeAt Ks
set_option linter.unusedVariables false
theorem cellsStep : Tryz.prog.cellsOf 64 = 3 := by kernel_rfl
theorem cellsIntS : Tryz.prog.cellsOf 3 = 1 := by kernel_rfl
theorem cellsStringS : Tryz.prog.cellsOf 9 = 1 := by kernel_rfl
set_option maxRecDepth 100000 in
theorem step_of {H : Type} {enc : TypeId × Value → H} {W : World} (n : Nat) (cs : List Value) (d : DataW H × List MemPlace) (h : DataW.trod enc Tryz.prog W 0 (fun _ => true) true n 64 cs = some d) (hl : cs.length = stpE3.k) :
    ∃ x : StepT, cs = stpE3.enc x ∧ StepG x := by
  obtain ⟨xs, n, _, _, hl, hlen, hF⟩ := DataW.trod_struct Tryz.underlying64 h
  rw [cellsStep] at hl
  match cs, hl, xs, hlen with
  | [c0, c1, c2], _, [x0, x1, x2], _ =>
    have t0 := hF 0 _ rfl
    have t1 := hF 1 _ rfl
    have t2 := hF 2 _ rfl
    simp [cellsIntS, cellsStringS] at t0 t1 t2
    obtain ⟨e0, h0, _, s0⟩ := DataW.trod_int Tryz.underlying3 t0
    obtain ⟨e1, h1, _, s1⟩ := DataW.trod_int Tryz.underlying3 t1
    obtain ⟨e2, h2, _, s2⟩ := DataW.trod_string Tryz.underlying9 t2
    simp at h0 h1 h2
    subst h0 h1 h2
    exact ⟨⟨e0, e1, e2⟩, rfl, i64_range s1, s2⟩
set_option maxRecDepth 100000 in
theorem open_steps {H : Type} {enc : TypeId × Value → H} {W : World} {base : Nat} {v : Value} {d : DataW H} {ps : List MemPlace}
    (hok : Value.okWide Tryz.prog W .any base 59 v) (h : DataW.Trod enc Tryz.prog W 0 (fun _ => true) true 59 v d ps) : ∃ l, Rd stpE3 W v l ∧ l.length ≤ maxLen ∧ ∀ x ∈ l, StepG x :=
  rd_open (E := stpE3) Tryz.underlying59 cellsStep _ step_of hok h
end Go.Proofs.YteppfjgglelpbaaGreat
