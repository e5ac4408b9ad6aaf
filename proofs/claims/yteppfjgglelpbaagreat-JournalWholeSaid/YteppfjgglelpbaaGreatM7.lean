/- Texts that the claim rests on, part 7: ShaSum, OctetFillP, SlotPut, StepCall, JrnObj, JrnSteps, Moved, MovedMore, SeqFull, JrnCls. -/
import Derived.Test.YteppfjgglelpbaaGreatProg
import Derived.Test.YteppfjgglelpbaaGreatShelf
import Derived.Deep.DeepCutAuto
import Derived.BigQuiet
import Derived.ArgAppend
import Derived.Test.YteppfjgglelpbaaGreatM6
/- A sum as a string: of one text, of two, of none. -/
namespace Ks
open Go Go.RowKit
set_option linter.unusedVariables false
/-- a text's sum, as a string -/
def shaS (l : List UInt8) : ByteArray := ⟨(shaL l).toArray⟩
theorem shaS_eq (l : List UInt8) : (⟨(shaL l).toArray⟩ : ByteArray) = shaS l := rfl
theorem shaS_data (l : List UInt8) : (shaS l).data.toList = shaL l := rfl
theorem shaS_size (l : List UInt8) : (shaS l).size = 32 := by show (shaL l).toArray.size = 32; simp [shaL_length]
theorem join_one (s : ByteArray) : joinL [s] = s.data.toList := by simp [joinL]
theorem join_two (s t : ByteArray) : joinL [s, t] = s.data.toList ++ t.data.toList := by simp [joinL]
theorem Rd.one (w : World) (s : ByteArray) (T : TypeId) : Rd strE (w.alloc (.cells #[.string s] T)) (.slice (some ⟨w.heap.size, 0, none⟩) 1 1) [s] :=
  Rd.single s (alloc_new w _) rfl
end Ks
namespace Go.Proofs.YteppfjgglelpbaaGreat
open Go.RowKit Ks
set_option linter.unusedVariables false
/-- the sum of one text, that lies in a new block -/
theorem sum1_any (s : ByteArray) (T : TypeId) (w : World) (h : s.size ≤ 50000000000) :
    Calls Tryz.prog 71 #[.slice (some ⟨w.heap.size, 0, none⟩) 1 1] (w.alloc (.cells #[.string s] T)) fun e w' => e = .returned (.string (shaS s.data.toList)) ∧ Below w.heap.size w w' :=
  (sumv_any [s] _ _ (Rd.one w s T) (by rw [join_one, data_length]; exact h) (by simp)).mono fun e w' ⟨h1, h2⟩ => ⟨by rw [h1, join_one, shaS_eq], (alloc_below w _).trans (h2.mono (by simp))⟩
theorem sum2_any (s t : ByteArray) (T : TypeId) (w : World) (h : s.size ≤ 10000000000) (h2 : t.size ≤ 10000000000) :
    Calls Tryz.prog 71 #[.slice (some ⟨w.heap.size, 0, none⟩) 2 2] (w.alloc (.cells #[.string s, .string t] T)) fun e w' => e = .returned (.string (shaS (s.data.toList ++ t.data.toList))) ∧ Below w.heap.size w w' :=
  (sumv_any [s, t] _ _ (Rd.block (alloc_new w _) rfl) (by rw [join_two, List.length_append, data_length, data_length]; omega) (by simp)).mono fun e w' ⟨h1, h2⟩ => ⟨by rw [h1, join_two, shaS_eq], (alloc_below w _).trans (h2.mono (by simp))⟩
theorem sum0_any (w : World) : Calls Tryz.prog 71 #[.slice none 0 0] w fun e w' => e = .returned (.string (shaS [])) ∧ Below w.heap.size w w' :=
  (sumv_any [] _ _ (Rd.nil w) (by decide) (by decide)).mono fun e w' ⟨h1, h2⟩ => ⟨by rw [h1]; rfl, h2⟩
end Go.Proofs.YteppfjgglelpbaaGreat
/- What octet.Fill answers. -/
namespace Go.Proofs.YteppfjgglelpbaaGreat
open Go.RowKit Ks
set_option linter.unusedVariables false

set_option maxHeartbeats 400000 in
theorem fill_any (s : ByteArray) (n : Int) (w : World) :
    Calls Tryz.prog 70 #[.string s, .int .i64 n] w fun e w' => e = .returned (.tuple #[.string (fillS s n), .int .i64 (fillE s n)]) ∧ Below w.heap.size w w' := by
  refine calls_by fun R HR => ?_
  by_cases h : (s.size : Int) ≤ n ∧ n ≤ 65536
  · obtain ⟨n, rfl⟩ := Int.eq_ofNat_of_zero_le (show 0 ≤ n by omega)
    obtain ⟨h1, h2⟩ := h
    obtain ⟨m, rfl⟩ : ∃ m, n = s.size + m := ⟨n - s.size, by omega⟩
    go_enter Tryz.func70, Tryz.ntmps70
    go_wp2_with fail
    rw [show ((s.size : Int) + (m : Int) - (s.size : Int)) = (m : Int) by omega]
    refine (Tryz.strings_Repeat ⟨#[0]⟩ m _ (by omega) (by show 1 * m ≤ _; omega)).mono ?_
    rintro e w1 ⟨rfl, hb1⟩
    rw [repeat_zeros]
    have hz : (zerosS m).size = m := zerosS_size m
    go_wp2
    refine HR.out _ _ ⟨?_, hb1⟩
    have hf : fillOk s (s.size + m : Nat) = true := by simp only [fillOk, decide_eq_true_eq]; omega
    rw [fillS, fillE, if_pos hf, if_pos hf, show (((s.size + m : Nat) : Int) - (s.size : Int)) = (m : Int) by omega]
    rfl
  · go_enter Tryz.func70, Tryz.ntmps70
    go_wp2
    all_goals
      refine HR.out _ _ ⟨?_, Below.refl _ _⟩
      have hf : ¬ fillOk s n = true := by simpa only [fillOk, decide_eq_true_eq] using h
      rw [fillS, fillE, if_neg hf, if_neg hf]
      try rfl

end Go.Proofs.YteppfjgglelpbaaGreat
/- A key's block: slots.Put and the reference's. -/
namespace Ks
open Go Go.RowKit
set_option linter.unusedVariables false
theorem putE4 (n : Int) : (putE n 4 = 0 ∧ 0 ≤ n ∧ n ≤ 4294967295) ∨ (putE n 4 = 2 ∧ (n < 0 ∨ 4294967295 < n)) := by
  by_cases h : 0 ≤ n ∧ n ≤ 4294967295
  · left; exact ⟨by rw [putE, if_pos (putOk4 n h.1 h.2)], h⟩
  · right
    refine ⟨?_, by omega⟩
    rw [putE, if_neg]
    intro hp
    simp only [putOk, decide_eq_true_eq] at hp
    obtain ⟨_, _, h3, h4⟩ := hp
    have h5 := h4 (by omega)
    have e : (2 : Nat) ^ (8 * (4 : Int).toNat) = 4294967296 := by decide
    rw [e] at h5
    have : n.toNat < 4294967296 := by
      rcases Nat.lt_or_ge n.toNat 4294967296 with h | h
      · exact h
      · have := Nat.div_pos h (by decide : 0 < 4294967296); omega
    omega
theorem putS4_size (n : Int) (h0 : 0 ≤ n) (h : n ≤ 4294967295) : (putS n 4).size = 4 := by
  rw [putS4 n h0 h]; exact putL_length 4 _
theorem slot_no {n : Int} {k : ByteArray} (h : ¬ slotOk n k = true) : slotS n k = ⟨#[]⟩ ∧ slotE n k = 2 := by rw [slotS, slotE, if_neg h, if_neg h]; exact ⟨rfl, rfl⟩
end Ks
namespace Go.Proofs.YteppfjgglelpbaaGreat
open Go.RowKit Ks
set_option linter.unusedVariables false
set_option maxRecDepth 100000 in
set_option maxHeartbeats 1000000 in
theorem slput_any (n : Int) (k : ByteArray) (w : World) (hn : n ≤ 9223372036854775807) : Calls Tryz.prog 39 #[.int .i64 n, .string k] w fun e w' => e = .returned (.tuple #[.string (slotS n k), .int .i64 (slotE n k)]) ∧ Below w.heap.size w w' := by
  refine calls_by fun R HR => ?_
  rcases putE4 n with ⟨h1, h2, h3⟩ | ⟨h1, h2⟩
  · have hz := putS4_size n h2 h3
    by_cases hk : k.size = 32
    · have hok := slot_ok.2 ⟨h2, h3, hk⟩
      have HC := Lib.hid (slot_cat n k hok)
      have HV := Lib.hid (show slotE n k = 0 by rw [slotE, if_pos hok])
      have hkb : ((k.size : Int) != 32) = false := by rw [hk]; rfl
      have HN := Lib.hid hn
      clear hok hn
      go_enter Tryz.func39, Tryz.ntmps39
      go_wp2_with fail
      refine (put_any n 4 _ HN.out).mono ?_
      rintro e w1 ⟨rfl, hb1⟩
      rw [h1]
      have H1 := Lib.hid hb1
      clear hb1
      go_wp2_with fail
      refine (sum1_any _ _ w1 (by simp [hz, hk]; decide)).mono ?_
      rintro e w2 ⟨rfl, hb2⟩
      have H2 := Lib.hid (H1.out.trans (hb2.mono H1.out.size))
      clear hb2
      obtain ⟨Z, hZ⟩ : ∃ Z, shaS (ByteArray.mk #[107, 101, 121] ++ putS n 4 ++ k).data.toList = Z := ⟨_, rfl⟩
      have hZz : Z.size = 32 := by rw [← hZ]; exact shaS_size _
      rw [hZ]
      have HZ := Lib.hid hZ
      clear hZ
      go_wp2_with fail
      refine (fill_any _ _ _).mono ?_
      rintro e w3 ⟨rfl, hb3⟩
      have hc := HC.out
      rw [show (⟨(shaL (slotH n k).data.toList).toArray⟩ : ByteArray) = Z from HZ.out] at hc
      rw [show fillS (ByteArray.mk #[107, 101, 121] ++ putS n 4 ++ k ++ Z) 4096 = slotS n k from hc.2.2.1, show fillE (ByteArray.mk #[107, 101, 121] ++ putS n 4 ++ k ++ Z) 4096 = 0 from hc.2.2.2.1]
      have H3 := Lib.hid (H2.out.trans (hb3.mono H2.out.size))
      clear hb3 hc
      go_wp2
      exact HR.out _ _ ⟨by rw [HV.out] <;> rfl, H3.out⟩
    · have hkb : ((k.size : Int) != 32) = true := by rw [bne_iff_ne]; omega
      have HV := Lib.hid (slot_no (n := n) (k := k) fun h => hk (slot_ok.1 h).2.2)
      have HN := Lib.hid hn
      clear hn hk
      go_enter Tryz.func39, Tryz.ntmps39
      go_wp2_with fail
      refine (put_any n 4 _ HN.out).mono ?_
      rintro e w1 ⟨rfl, hb1⟩
      rw [h1]
      have H1 := Lib.hid hb1
      clear hb1
      go_wp2
      exact HR.out _ _ ⟨by rw [HV.out.1, HV.out.2] <;> rfl, H1.out⟩
  · have HV := Lib.hid (slot_no (n := n) (k := k) fun h => by have := slot_ok.1 h; omega)
    have HN := Lib.hid hn
    clear hn h2
    go_enter Tryz.func39, Tryz.ntmps39
    go_wp2_with fail
    refine (put_any n 4 _ HN.out).mono ?_
    rintro e w1 ⟨rfl, hb1⟩
    rw [h1]
    have H1 := Lib.hid hb1
    clear hb1
    go_wp2
    exact HR.out _ _ ⟨by rw [HV.out.1, HV.out.2] <;> rfl, H1.out⟩

theorem slmay_any (n : Int) (w : World) : Calls Tryz.prog 98 #[.int .i64 n] w fun e w' => e = .returned (.bool (epOk n)) ∧ w' = w := by
  refine calls_by fun R HR => ?_
  by_cases h0 : 0 ≤ n
  · by_cases h1 : n ≤ 4294967295
    · have HV := Lib.hid (show epOk n = true by simp [epOk, h0, h1])
      go_enter Tryz.func98, Tryz.ntmps98
      go_wp2
      exact HR.out _ _ ⟨by rw [HV.out] <;> rfl, rfl⟩
    · have HV := Lib.hid (show epOk n = false by simp [epOk, h0, h1])
      go_enter Tryz.func98, Tryz.ntmps98
      go_wp2
      exact HR.out _ _ ⟨by rw [HV.out] <;> rfl, rfl⟩
  · have HV := Lib.hid (show epOk n = false by simp [epOk, h0])
    go_enter Tryz.func98, Tryz.ntmps98
    go_wp2
    exact HR.out _ _ ⟨by rw [HV.out] <;> rfl, rfl⟩

end Go.Proofs.YteppfjgglelpbaaGreat
/- A call of a function at a step of a region that draws its order, by its contract. Plain. No program is in sight. -/
namespace Ks
open Go Go.RowKit
set_option linter.unusedVariables false
theorem step_call {P : Program} {ops : Array Oper} {o : Oper} {a : Act} {w : World} {K : Act → World → Prop} {Q : Exit → Act → World → Prop} {F : Prop} (hg : o.guard = none) (f : FuncId) (xs : Array Operand) (ts : Array TypeId)
    (hop : o.op = Op.call { callee := Callee.value (.func f), args := xs, argTypes := ts }) (eg : ∀ args w, (callFunc f args).run P w = .ok (.enter f args) w) (args : Array Value) (hargs : xs.toList.map a.eval = args.toList)
    {Φ : Value → World → Prop} (hc : Calls P f args w fun e w' => ∃ v, e = .returned v ∧ Φ v w') (hK : ∀ v w', Φ v w' → K (a.put o.dst v) w') : if Region.wanted o (yielded ops a.tmps) = true then Oper.wp P o a w K Q else F := by
  have hw : Region.wanted o (yielded ops a.tmps) = true := by simp [Region.wanted, hg]
  rw [if_pos hw]
  have hrun : (execOp a.eval o).run P w = .ok (.enter f args) w := by
    have h : xs.map a.eval = args := Array.toList_inj.1 (by simpa using hargs)
    simp [execOp, hop, resolve, Deferred.ofValue, Act.eval, invoke, eg, ← h]
  unfold Oper.wp
  rw [hrun, Oper.upon_enter]
  exact hc.mono fun e w' ⟨v, he, h⟩ => by subst he; exact hK v w' h
/-- a cell that was there, behind a callee that turned nothing -/
theorem cell_on {w w1 : World} {n o : Nat} {v : Value} (hb : Below w.heap.size w w1) (h : w.cell? ⟨n, o, none⟩ = some v) : w1.cell? ⟨n, o, none⟩ = some v ∧ ∀ ob, (w1.alloc ob).cell? ⟨n, o, none⟩ = some v := by
  have hlt : n < w.heap.size := World.block_lt_of_cell? w _ h
  have h1 := (hb.cell (p := ⟨n, o, none⟩) hlt).trans h
  exact ⟨h1, fun ob => (((Below.refl w1.heap.size w1).alloc (Nat.le_refl _) ob).cell (p := ⟨n, o, none⟩) (Nat.lt_of_lt_of_le hlt hb.size)).trans h1⟩
theorem blk_on {w w1 : World} {b : Nat} {o : Obj} (hb : Below w.heap.size w w1) (h : w.heap[b]? = some o) : w1.heap[b]? = some o := (hb.block b (Array.getElem?_eq_some_iff.1 h).1).trans h
end Ks
/- A journal in memory: what stands of it; the steps that it hands its disk. -/
set_option maxRecDepth 100000
namespace Go.Proofs.YteppfjgglelpbaaGreat
open Go.RowKit Ks
set_option linter.unusedVariables false
set_option linter.unusedSimpArgs false
abbrev jrnC (spv : Value) (dn : Nat) (s : SupT) (br : Bool) : Array Value := #[spv, .pointer (some ⟨dn, 0, none⟩), .int .i64 s.gen, .int .i64 s.tail, .int .i64 s.epoch, .int .i64 s.clock, .int .i64 s.b, .int .i64 s.l, .int .i64 s.f, .bool br]
/-- a journal's block, and its disk -/
structure JHd (w : World) (jn : Nat) (spv : Value) (dn : Nat) (vb vc : Value) (s : SupT) (br : Bool) (d : DS) : Prop where
  blk : w.heap[jn]? = some (.cells (jrnC spv dn s br) 31 (0, 0))
  dsk : DkAt w dn vb vc d
  ne : ¬ DF dn vb vc jn
/-- its blocks -/
def FJ (jn dn : Nat) (vb vc : Value) (k : Nat) : Prop := k = jn ∨ DF dn vb vc k
section
variable {w w' : World} {jn dn : Nat} {spv vb vc : Value} {s : SupT} {br : Bool} {d : DS}
theorem JHd.lt (h : JHd w jn spv dn vb vc s br d) : ∀ k, FJ jn dn vb vc k → k < w.heap.size := by
  rintro k (rfl | q)
  · exact lt_of_block h.blk
  · exact h.dsk.lt k q
theorem JHd.keep (h : JHd w jn spv dn vb vc s br d) (hk : ∀ k, FJ jn dn vb vc k → w'.heap[k]? = w.heap[k]?) : JHd w' jn spv dn vb vc s br d :=
  ⟨(hk jn (Or.inl rfl)).trans h.blk, h.dsk.keep fun k q => hk k (Or.inr q), h.ne⟩
theorem JHd.below (h : JHd w jn spv dn vb vc s br d) (hb : Below w.heap.size w w') : JHd w' jn spv dn vb vc s br d := h.keep fun k q => hb.block k (h.lt k q)
/-- the disk is turned -/
theorem JHd.disk {vb' vc' : Value} {d' : DS} (h : JHd w jn spv dn vb vc s br d) (hd : DkAt w' dn vb' vc' d') (ht : Turn w w' (DF dn vb vc) (DF dn vb' vc')) : JHd w' jn spv dn vb' vc' s br d' ∧ Turn w w' (FJ jn dn vb vc) (FJ jn dn vb' vc') := by
  have hlt := lt_of_block h.blk
  refine ⟨⟨(ht.block jn hlt h.ne).trans h.blk, hd, fun q => ?_⟩, ht.wide (fun k q => Or.inr q) fun k q => ?_⟩
  · rcases ht.foot jn q with q | q
    · exact h.ne q
    · omega
  · rcases q with q | q
    · exact Or.inr (Or.inl (Or.inl q))
    · rcases ht.foot k q with q | q
      · exact Or.inr (Or.inl (Or.inr q))
      · exact Or.inr (Or.inr q)
/-- the head is turned -/
theorem JHd.set (h : JHd w jn spv dn vb vc s br d) {s' : SupT} {br' : Bool} (hb : w'.heap[jn]? = some (.cells (jrnC spv dn s' br') 31 (0, 0))) (ht : Turn w w' (fun k => k = jn) (fun k => k = jn)) : JHd w' jn spv dn vb vc s' br' d ∧ Turn w w' (FJ jn dn vb vc) (FJ jn dn vb vc) :=
  ⟨⟨hb, h.dsk.keep fun k q => ht.block k (h.dsk.lt k q) (fun e => h.ne (e ▸ q)), h.ne⟩, ht.wide (fun k q => Or.inl q) fun k q => Or.inr (Or.inl q)⟩
end
theorem blkJ {w : World} {b : Nat} {c0 c1 c2 c3 c4 c5 c6 c7 c8 c9 : Value} {T : TypeId} (h : w.heap[b]? = some (.cells #[c0, c1, c2, c3, c4, c5, c6, c7, c8, c9] T (0, 0))) : (w.cell? ⟨b, 0, none⟩ = some c0 ∧ w.cell? ⟨b, 1, none⟩ = some c1 ∧ w.cell? ⟨b, 2, none⟩ = some c2 ∧ w.cell? ⟨b, 3, none⟩ = some c3 ∧ w.cell? ⟨b, 4, none⟩ = some c4 ∧ w.cell? ⟨b, 5, none⟩ = some c5 ∧ w.cell? ⟨b, 6, none⟩ = some c6 ∧ w.cell? ⟨b, 7, none⟩ = some c7 ∧ w.cell? ⟨b, 8, none⟩ = some c8 ∧ w.cell? ⟨b, 9, none⟩ = some c9) ∧ ∀ o, w.frozen? ⟨b, o, none⟩ = false :=
  ⟨⟨by rw [cell_of_row w b 0 _ _ _ h]; rfl, by rw [cell_of_row w b 1 _ _ _ h]; rfl, by rw [cell_of_row w b 2 _ _ _ h]; rfl, by rw [cell_of_row w b 3 _ _ _ h]; rfl, by rw [cell_of_row w b 4 _ _ _ h]; rfl, by rw [cell_of_row w b 5 _ _ _ h]; rfl, by rw [cell_of_row w b 6 _ _ _ h]; rfl, by rw [cell_of_row w b 7 _ _ _ h]; rfl, by rw [cell_of_row w b 8 _ _ _ h]; rfl, by rw [cell_of_row w b 9 _ _ _ h]; rfl⟩, fun o => frozen_of_row w b o _ _ h⟩
/-- a step as a value: a closure over its boxes, or the disk's flushing -/
def StpV (w : World) (F : Nat → Prop) (jn dn : Nat) (v : Value) : Stp → Prop
  | .wr i t => ∃ b0 b1 b2, v = .func (.func 64) #[] #[.pointer (some ⟨b0, 0, none⟩), .pointer (some ⟨b1, 0, none⟩), .pointer (some ⟨b2, 0, none⟩)] ∧ (¬ F b0 ∧ w.heap[b0]? = some (.cells #[.pointer (some ⟨jn, 0, none⟩)] 23 (0, 0))) ∧ (¬ F b1 ∧ w.heap[b1]? = some (.cells #[.int .i64 i] 3 (0, 0))) ∧ ¬ F b2 ∧ w.heap[b2]? = some (.cells #[.string t] 9 (0, 0))
  | .fl => v = .func (.func 41) #[.pointer (some ⟨dn, 0, none⟩)] #[]
theorem StpV.turn {w w' : World} {F F' : Nat → Prop} {jn dn : Nat} {v : Value} {x : Stp} (h : StpV w F jn dn v x) (ht : Turn w w' F F') : StpV w' F' jn dn v x := by
  have key : ∀ {b : Nat} {o : Obj}, ¬ F b ∧ w.heap[b]? = some o → ¬ F' b ∧ w'.heap[b]? = some o := fun {b o} h => by
    have hlt := lt_of_block h.2
    refine ⟨fun q => ?_, (ht.block b hlt h.1).trans h.2⟩
    rcases ht.foot b q with q | q
    · exact h.1 q
    · omega
  cases x with
  | fl => exact h
  | wr i t =>
    obtain ⟨b0, b1, b2, e, h0, h1, h2⟩ := h
    exact ⟨b0, b1, b2, e, key h0, key h1, key h2⟩
theorem StpV.below {w w' : World} {F : Nat → Prop} {jn dn : Nat} {v : Value} {x : Stp} (h : StpV w F jn dn v x) (hb : Below w.heap.size w w') : StpV w' F jn dn v x := h.turn (Turn.of_below F hb)
theorem jwrite_any (jn : Nat) (i : Int) (t : ByteArray) (w : World) : Calls Tryz.prog 34 #[.pointer (some ⟨jn, 0, none⟩), .int .i64 i, .string t] w fun e w' =>
    e = .returned (.func (.func 64) #[] #[.pointer (some ⟨w.heap.size, 0, none⟩), .pointer (some ⟨w.heap.size + 1, 0, none⟩), .pointer (some ⟨w.heap.size + 2, 0, none⟩)]) ∧ Below w.heap.size w w' ∧ w'.heap.size = w.heap.size + 3 ∧
    w'.heap[w.heap.size]? = some (.cells #[.pointer (some ⟨jn, 0, none⟩)] 23 (0, 0)) ∧ w'.heap[w.heap.size + 1]? = some (.cells #[.int .i64 i] 3 (0, 0)) ∧ w'.heap[w.heap.size + 2]? = some (.cells #[.string t] 9 (0, 0)) := by
  refine calls_by fun R HR => ?_
  obtain ⟨W1, hW1⟩ : ∃ W, w.alloc (.cells #[.pointer (some ⟨jn, 0, none⟩)] 23) = W := ⟨_, rfl⟩
  have b1 : Below w.heap.size w W1 := by rw [← hW1]; exact alloc_below _ _
  have n1 : W1.heap[w.heap.size]? = some (.cells #[.pointer (some ⟨jn, 0, none⟩)] 23 (0, 0)) := by rw [← hW1]; exact alloc_new _ _
  have s1 : W1.heap.size = w.heap.size + 1 := by rw [← hW1]; simp
  obtain ⟨W2, hW2⟩ : ∃ W, W1.alloc (.cells #[.int .i64 i] 3) = W := ⟨_, rfl⟩
  have b2 : Below W1.heap.size W1 W2 := by rw [← hW2]; exact alloc_below _ _
  have n2 : W2.heap[W1.heap.size]? = some (.cells #[.int .i64 i] 3 (0, 0)) := by rw [← hW2]; exact alloc_new _ _
  have s2 : W2.heap.size = w.heap.size + 2 := by rw [← hW2]; simp [s1]
  obtain ⟨W3, hW3⟩ : ∃ W, W2.alloc (.cells #[.string t] 9) = W := ⟨_, rfl⟩
  have b3 : Below W2.heap.size W2 W3 := by rw [← hW3]; exact alloc_below _ _
  have n3 : W3.heap[W2.heap.size]? = some (.cells #[.string t] 9 (0, 0)) := by rw [← hW3]; exact alloc_new _ _
  have s3 : W3.heap.size = w.heap.size + 3 := by rw [← hW3]; simp [s2]
  rw [s1] at n2
  rw [s2] at n3
  have H := Lib.hid (And.intro ((b1.trans (b2.mono b1.size)).trans (b3.mono (b1.trans (b2.mono b1.size)).size)) (And.intro s3 (And.intro (blk_on b3 (blk_on b2 n1)) (And.intro (blk_on b3 n2) n3))))
  clear b1 b2 b3 n1 n2 n3 s3
  go_enter Tryz.func34, Tryz.ntmps34
  go_wp2
  exact HR.out _ _ ⟨rfl, H.out⟩
theorem blk1j {w : World} {b : Nat} {c : Value} {T : TypeId} (h : w.heap[b]? = some (.cells #[c] T (0, 0))) : w.cell? ⟨b, 0, none⟩ = some c := by rw [cell_of_row w b 0 _ _ _ h]; rfl
end Go.Proofs.YteppfjgglelpbaaGreat
/- Steps of the disk, up to the first one that is refused: of the program's journal. -/
set_option maxRecDepth 100000
namespace Go.Proofs.YteppfjgglelpbaaGreat
open Go.RowKit Ks
set_option linter.unusedVariables false
set_option linter.unusedSimpArgs false
set_option maxRecDepth 100000 in
set_option maxHeartbeats 4000000 in
theorem jwrote_any {jn dn : Nat} {spv vb vc : Value} {s : SupT} {br : Bool} {d : DS} (b0 b1 b2 : Nat) (i : Int) (t : ByteArray) (w : World) (h : JHd w jn spv dn vb vc s br d) (h0 : w.heap[b0]? = some (.cells #[.pointer (some ⟨jn, 0, none⟩)] 23 (0, 0))) (h1 : w.heap[b1]? = some (.cells #[.int .i64 i] 3 (0, 0))) (h2 : w.heap[b2]? = some (.cells #[.string t] 9 (0, 0))) :
    Calls Tryz.prog 64 #[.pointer (some ⟨b0, 0, none⟩), .pointer (some ⟨b1, 0, none⟩), .pointer (some ⟨b2, 0, none⟩)] w fun e w' => ∃ vc', e = .returned (.int .i64 (writeE d i t)) ∧ JHd w' jn spv dn vb vc' s br (writeD d i t) ∧ Turn w w' (FJ jn dn vb vc) (FJ jn dn vb vc') := by
  refine calls_by fun R HR => ?_
  have HD := Lib.hid h
  have HW := Lib.hid (fun w' (hb : Below w.heap.size w w') => dwrite_any i t w' (h.below hb).dsk)
  have c0 := blk1j h0
  have c1 := blk1j h1
  have c2 := blk1j h2
  obtain ⟨⟨z0, z1, z2, z3, z4, z5, z6, z7, z8, z9⟩, -⟩ := blkJ h.blk
  clear h h0 h1 h2 z2 z3 z4 z5 z6 z7 z8 z9
  go_enter Tryz.func64, Tryz.ntmps64
  go_upto_region 1 with fail
  have g0 := fun p => after_cell c0 p
  have g1 := fun p => after_cell c1 p
  have g2 := fun p => after_cell c2 p
  have gz := fun p => after_cell z1 p
  have gy := fun p => after_cell z0 p
  refine wp_region_after_tail 6 (by kernel_rfl) (by kernel_rfl) ?_
  simp only [List.take_succ_cons, List.take_zero, List.drop_succ_cons, List.drop_zero]
  repeat (go_big_quiet_step (fail))
  refine wpQuiet_nil ?_
  rintro q1 ⟨p9, rfl⟩
  have hb := after_below w p9
  have HB := Lib.hid hb
  generalize After w p9 = q1 at *
  clear hb g0 g1 g2 gz gy c0 c1 c2 z0 z1
  go_wp2_with fail
  refine (HW.out _ HB.out).mono ?_
  rintro en v1 ⟨vc', rfl, hd, ht⟩
  have H1 := Lib.hid ((HD.out.below HB.out).disk hd ht)
  clear hd ht
  go_wp2
  exact HR.out _ _ ⟨vc', rfl, H1.out.1, (Turn.of_below _ HB.out).trans H1.out.2⟩
theorem stp_any {jn dn : Nat} {spv vb vc : Value} {s : SupT} {br : Bool} {d : DS} (x : Stp) (w : World) (h : JHd w jn spv dn vb vc s br d) {v : Value} (hv : StpV w (FJ jn dn vb vc) jn dn v x) : ∃ f bs cs, v = .func (.func f) bs cs ∧ (∀ args w, (callFunc f args).run Tryz.prog w = .ok (.enter f args) w) ∧
    Calls Tryz.prog f (bs ++ cs) w fun e w' => ∃ vc', e = .returned (.int .i64 (stpE d x)) ∧ JHd w' jn spv dn vb vc' s br (stpD d x) ∧ Turn w w' (FJ jn dn vb vc) (FJ jn dn vb vc') := by
  cases x with
  | wr i t =>
    obtain ⟨b0, b1, b2, rfl, h0, h1, h2⟩ := hv
    exact ⟨_, _, _, rfl, fun _ _ => rfl, jwrote_any b0 b1 b2 i t w h h0.2 h1.2 h2.2⟩
  | fl =>
    obtain rfl := hv
    refine ⟨_, _, _, rfl, fun _ _ => rfl, (dflush_any w h.dsk).mono ?_⟩
    rintro e w' ⟨vc', rfl, hd, ht⟩
    exact ⟨vc', rfl, h.disk hd ht⟩
/-- a row of steps -/
def StpL (w : World) (F : Nat → Prop) (jn dn b o : Nat) (l : List Stp) : Prop := ¬ F b ∧ b < w.heap.size ∧ ∀ k x, l[k]? = some x → ∃ v, w.cell? ⟨b, o + k, none⟩ = some v ∧ StpV w F jn dn v x
theorem StpL.turn {w w' : World} {F F' : Nat → Prop} {jn dn b o : Nat} {l : List Stp} (h : StpL w F jn dn b o l) (ht : Turn w w' F F') : StpL w' F' jn dn b o l := by
  obtain ⟨h1, h2, h3⟩ := h
  refine ⟨fun q => ?_, Nat.lt_of_lt_of_le h2 ht.size, fun k x hx => ?_⟩
  · rcases ht.foot b q with q | q
    · exact h1 q
    · omega
  · obtain ⟨v, hc, hv⟩ := h3 k x hx
    exact ⟨v, (World.cell?_of_block (ht.block b h2 h1)).trans hc, hv.turn ht⟩
set_option maxRecDepth 100000 in
set_option maxHeartbeats 8000000 in
theorem jsteps_any {jn dn : Nat} {spv vb vc : Value} {s : SupT} {br : Bool} {d : DS} (l : List Stp) (b o cap : Nat) (w : World) (h : JHd w jn spv dn vb vc s br d) (hs : StpL w (FJ jn dn vb vc) jn dn b o l) (hl : l.length ≤ 1000) (hc : l.length ≤ cap) :
    Calls Tryz.prog 33 #[.pointer (some ⟨jn, 0, none⟩), .slice (some ⟨b, o, none⟩) l.length cap] w fun e w' =>
      e = .returned (.int .i64 (stepsE d l)) ∧ ∃ vc', JHd w' jn spv dn vb vc' s (br || decide (stepsE d l ≠ 0)) (stepsD d l) ∧ Turn w w' (FJ jn dn vb vc) (FJ jn dn vb vc') := by
  refine calls_by fun R HR => ?_
  have hli : (l.length : Int) ≤ 1000 := by omega
  have HE : Hid (stepsE d l = stepsE d l) := Lib.hid rfl
  generalize hSE : stepsE d l = SE at *
  generalize hSD : stepsD d l = SD at *
  have H0 := Lib.hid (And.intro h (And.intro hs (And.intro hSE hSD)))
  clear h hs hSE hSD hl hc HE
  go_enter Tryz.func33, Tryz.ntmps33
  go_wp2_with fail
  go_loopw [10] (fun i wx => ∃ (k : Nat), k ≤ l.length ∧ i = .int .i64 k ∧ Hid (∃ vc1 d1, JHd wx jn spv dn vb vc1 s br d1 ∧ StpL wx (FJ jn dn vb vc1) jn dn b o l ∧ stepsE d1 (l.drop k) = SE ∧ stepsD d1 (l.drop k) = SD ∧ Turn w wx (FJ jn dn vb vc) (FJ jn dn vb vc1))) (fun i _ => l.length - (intOf i).toNat)
  case atStart => exact ⟨0, Nat.zero_le _, rfl, Lib.hid ⟨vc, d, H0.out.1, H0.out.2.1, H0.out.2.2.1, H0.out.2.2.2, Turn.of_below _ (Below.refl _ _)⟩⟩
  case round =>
    obtain ⟨k, hk, rfl, hN⟩ := hrel
    by_cases hlt : k < l.length
    · have hki : (k : Int) < (l.length : Int) := by omega
      obtain ⟨x, hx⟩ : ∃ x, l[k]? = some x := ⟨_, List.getElem?_eq_getElem hlt⟩
      obtain ⟨vc1, d1, h1, h2, h3, h4, h5⟩ := hN.out
      obtain ⟨v, hcv, hv⟩ := h2.2.2 k x hx
      have hdr : l.drop k = x :: l.drop (k + 1) := by
        obtain ⟨q1, q2⟩ := List.getElem?_eq_some_iff.1 hx
        rw [List.drop_eq_getElem_cons q1, q2]
      rw [hdr] at h3 h4
      obtain ⟨f, bs, cs, rfl, eg, hcall⟩ := stp_any x wr h1 hv
      have HC := Lib.hid hcall
      have H9 := Lib.hid (And.intro h1 (And.intro h2 (And.intro h3 (And.intro h4 h5))))
      clear hcall h1 h2 h3 h4 h5 hv hdr hN hx
      go_wp2_with fail
      refine HC.out.mono ?_
      rintro en v1 ⟨vc2, rfl, hd, ht⟩
      have HA := Lib.hid (And.intro hd (And.intro (H9.out.2.1.turn ht) (H9.out.2.2.2.2.trans ht)))
      have HSt := Lib.hid (And.intro H9.out.2.2.1 H9.out.2.2.2.1)
      clear hd ht HC hcv H9
      unfold stepsE stepsD at HSt
      generalize stpE d1 x = SX at *
      generalize stpD d1 x = DX at *
      by_cases hx0 : SX = 0
      · subst hx0
        have HS2 := Lib.hid (show stepsE DX (l.drop (k + 1)) = SE ∧ stepsD DX (l.drop (k + 1)) = SD from ⟨by have := HSt.out.1; simpa using this, by have := HSt.out.2; simpa using this⟩)
        clear HSt
        go_wp2_with fail
        go_roundw
        case rel => exact ⟨k + 1, by omega, by go_num, Lib.hid ⟨vc2, DX, HA.out.1, HA.out.2.1, HS2.out.1, HS2.out.2, HA.out.2.2⟩⟩
        case measure => first | (simp [intOf]; done) | (simp [intOf]; omega)
      · have hxb : (SX != 0) = true := by simpa using hx0
        have HS2 := Lib.hid (show SX = SE ∧ DX = SD from ⟨by have := HSt.out.1; simpa [hx0] using this, by have := HSt.out.2; simpa [hx0] using this⟩)
        have HX0 := Lib.hid hx0
        clear HSt hx0
        obtain ⟨⟨z0, z1, z2, z3, z4, z5, z6, z7, z8, z9⟩, fz⟩ := blkJ HA.out.1.blk
        have fz9 := fz 9
        clear fz
        obtain ⟨P, hP⟩ : ∃ W, v1.setCell ⟨jn, 9, none⟩ (.bool true) = W := ⟨_, rfl⟩
        have HP := Lib.hid (show JHd P jn spv dn vb vc2 s true DX ∧ Turn v1 P (FJ jn dn vb vc2) (FJ jn dn vb vc2) by rw [← hP]; exact HA.out.1.set (set_blk HA.out.1.blk 9 _) (Turn.cell _ jn 9 _ rfl))
        go_wp2
        refine HR.out _ _ ⟨by rw [HS2.out.1] <;> rfl, vc2, ?_, HA.out.2.2.trans HP.out.2⟩
        rw [decide_eq_true (show SE ≠ 0 by rw [← HS2.out.1]; exact HX0.out), Bool.or_true, ← HS2.out.2]
        exact HP.out.1
    · obtain rfl : k = l.length := by omega
      have hki : ¬ (l.length : Int) < (l.length : Int) := by omega
      obtain ⟨vc1, d1, h1, h2, h3, h4, h5⟩ := hN.out
      rw [List.drop_length] at h3 h4
      have H9 := Lib.hid (And.intro h1 (And.intro h3 (And.intro h4 h5)))
      clear h1 h2 h3 h4 h5
      go_wp2
      refine HR.out _ _ ⟨by rw [← H9.out.2.1] <;> rfl, vc1, ?_, H9.out.2.2.2⟩
      rw [← H9.out.2.1, ← H9.out.2.2.1, decide_eq_false (show ¬ stepsE d1 [] ≠ 0 from fun q => q rfl), Bool.or_false]
      exact H9.out.1
end Go.Proofs.YteppfjgglelpbaaGreat
/- A region that draws its order, some of whose calls turn what was there, each at most once: walked once. The class of worlds goes by what was done, and what it yielded. Plain. No program is in sight. -/
namespace Ks
open Go Go.RowKit
set_option linter.unusedVariables false

abbrev Told := Nat → Option Value
def upd (f : Told) (k : Nat) (v : Value) : Told := fun j => bif Nat.beq j k then some v else f j
theorem beq_ne {j k : Nat} (h : j ≠ k) : Nat.beq j k = false := by rw [← Bool.not_eq_true]; exact fun e => h (Nat.eq_of_beq_eq_true e)
theorem beq_self (k : Nat) : Nat.beq k k = true := Nat.beq_refl k
theorem upd_self (f : Told) (k : Nat) (v : Value) : upd f k v k = some v := by unfold upd; rw [beq_self]; rfl
theorem upd_ne (f : Told) {j k : Nat} (v : Value) (h : j ≠ k) : upd f k v j = f j := by unfold upd; rw [beq_ne h]; rfl
theorem upd_comm (f : Told) {i j : Nat} (u v : Value) (h : i ≠ j) : upd (upd f i u) j v = upd (upd f j v) i u := by
  funext k
  by_cases e : k = i
  · subst e; rw [upd_ne _ _ h, upd_self, upd_self]
  · by_cases e2 : k = j
    · subst e2; rw [upd_self, upd_ne _ _ e, upd_self]
    · rw [upd_ne _ _ e2, upd_ne _ _ e, upd_ne _ _ e, upd_ne _ _ e2]

section
variable {P : Program} {ops : Array Oper} {md : Region.Mode} {C : Told → World → Prop}

def movesUpon (P : Program) (D : Value → World → Prop) : Result Next → Prop
  | .ok (.value u) w' => D u w'
  | .ok .skip w' => D undef w'
  | .ok (.enter f args) w' => Calls P f args w' (fun e w'' => ∃ v, e = .returned v ∧ D v w'')
  | _ => False
/-- what it waits for yielded the same -/
def agree (md : Region.Mode) (o : Oper) (f g : Told) : Prop := ∀ e ∈ o.after, Region.binds md e = true → g e.on = f e.on

theorem agree_on {o : Oper} {f g : Told} (i : Nat) (h : agree md o f g) (hb : (o.after.any fun e => Nat.beq e.on i && Region.binds md e) = true) : g i = f i := by
  obtain ⟨e, he, h2⟩ : ∃ e, e ∈ o.after ∧ (Nat.beq e.on i && Region.binds md e) = true := by simpa using Array.any_eq_true'.1 hb
  simp only [Bool.and_eq_true] at h2
  have h3 := h e he h2.2
  rwa [Nat.eq_of_beq_eq_true h2.1] at h3

/-- wherever it is done, and whatever else was done, it yields one of these -/
def Moves (P : Program) (md : Region.Mode) (ops : Array Oper) (C : Told → World → Prop) (o : Oper) (k : Nat) (V : Value → Prop) (f : Told) (a : Act) : Prop :=
  (Region.wanted o (yielded ops a.tmps) = true ∧ ∀ g w, agree md o f g → g k = none → C g w → movesUpon P (fun v w' => V v ∧ C (upd g k v) w') ((execOp a.eval o).run P w)) ∨
  (Region.wanted o (yielded ops a.tmps) = false ∧ V undef ∧ ∀ g w, agree md o f g → g k = none → C g w → C (upd g k undef) w)

def mOp (P : Program) (md : Region.Mode) (ops : Array Oper) (C : Told → World → Prop) (i : Nat) (K : Told → Act → Prop) (f : Told) (a : Act) : Prop :=
  match ops[i]? with
  | none => False
  | some o => ∃ V, Moves P md ops C o i V f a ∧ ∀ v, V v → K (upd f i v) (a.put o.dst v)
theorem mOp_mono {i : Nat} {f : Told} {a : Act} {K K' : Told → Act → Prop} (h : ∀ f a, K f a → K' f a) (hh : mOp P md ops C i K f a) : mOp P md ops C i K' f a := by
  unfold mOp at *
  split
  · rename_i ho; simp only [ho] at hh
  · rename_i o ho
    simp only [ho] at hh
    obtain ⟨V, h1, h2⟩ := hh
    exact ⟨V, h1, fun v hv => h _ _ (h2 v hv)⟩

def wpAnyM (P : Program) (md : Region.Mode) (ops : Array Oper) (C : Told → World → Prop) (Q : Told → Act → Prop) : Nat → Array Bool → Told → Act → Prop
  | 0, listed, f, a => Region.ready md ops listed = [] ∧ Q f a
  | fuel + 1, listed, f, a => Region.ready md ops listed ≠ [] ∧ ∀ i ∈ Region.ready md ops listed, mOp P md ops C i (wpAnyM P md ops C Q fuel (listed.setIfInBounds i true)) f a

theorem wpOp_of_mOp {i : Nat} {f : Told} {a : Act} {K : Told → Act → Prop} {K' : Act → World → Prop} {Q' : Exit → Act → World → Prop} {w : World} (hf : f i = none) (hC : C f w) (h : ∀ v a w', C (upd f i v) w' → K (upd f i v) a → K' a w') (hh : mOp P md ops C i K f a) : wpOp P ops Q' i K' a w := by
  unfold mOp at hh
  unfold wpOp
  split
  · rename_i ho; simp only [ho] at hh
  · rename_i o ho
    simp only [ho] at hh
    obtain ⟨V, h1, h2⟩ := hh
    rcases h1 with ⟨hw, h1⟩ | ⟨hw, hV, h1⟩
    · rw [if_pos hw]
      refine .inl ?_
      have h3 := h1 f w (fun _ _ _ => rfl) hf hC
      unfold Oper.wp
      generalize (execOp a.eval o).run P w = r at *
      cases r with
      | ok n w' =>
        cases n <;> simp only [movesUpon] at h3 <;> simp only [Oper.upon]
        case value u => exact h _ _ _ h3.2 (h2 _ h3.1)
        case skip => exact h _ _ _ h3.2 (h2 _ h3.1)
        case enter g args => exact h3.mono fun e w'' ⟨v, he, hv, hw''⟩ => by subst he; exact h _ _ _ hw'' (h2 _ hv)
      | halt x w' => simp only [movesUpon] at h3
    · rw [if_neg (by simp [hw])]
      exact h _ _ _ (h1 f w (fun _ _ _ => rfl) hf hC) (h2 _ hV)

theorem wpAny_of_moved {Q : Told → Act → Prop} {Q' : Exit → Act → World → Prop} (hQ : ∀ f a w, C f w → Q f a → Q' .normal a w) : ∀ (fuel : Nat) (listed : Array Bool) (f : Told) (a : Act) (w : World), (∀ i, listed.getD i true = false → f i = none) → C f w →
    wpAnyM P md ops C Q fuel listed f a → wpAny P md ops Q' fuel listed a w
  | 0, _, _, _, _, _, hw, h => ⟨h.1, hQ _ _ _ hw h.2⟩
  | fuel + 1, listed, f, _, _, hi, hw, h => ⟨fun h0 => absurd h0 h.1, fun i hr => by
      have h0 := (mem_ready.1 hr).1
      refine wpOp_of_mOp (hi i h0) hw (fun v a' w' hw' => wpAny_of_moved hQ fuel _ _ a' w' (fun j hj => ?_) hw') (h.2 i hr)
      by_cases e : j = i
      · subst e
        have hlt : j < listed.size := by
          rcases Nat.lt_or_ge j listed.size with h' | h'
          · exact h'
          · simp [Array.getElem?_eq_none h'] at h0
        simp [hlt] at hj
      · rw [getD_set_ne true (Ne.symm e)] at hj
        rw [upd_ne _ _ e]; exact hi j hj⟩

theorem Moves.mOp {i : Nat} {o : Oper} {V : Value → Prop} {f : Told} {a : Act} (hi : ops[i]? = some o) (hy : Moves P md ops C o i V f a) {K : Told → Act → Prop} (h : ∀ v, V v → K (upd f i v) (a.put o.dst v)) : mOp P md ops C i K f a := by
  unfold Ks.mOp
  simp only [hi]
  exact ⟨V, hy, h⟩
theorem Moves.of_same {o : Oper} {i : Nat} {V : Value → Prop} {f f' : Told} {a a' : Act} (hy : Moves P md ops C o i V f a) (hf : ∀ e ∈ o.after, Region.binds md e = true → f' e.on = f e.on) (he : execOp a'.eval o = execOp a.eval o)
    (hw : Region.wanted o (yielded ops a'.tmps) = Region.wanted o (yielded ops a.tmps)) : Moves P md ops C o i V f' a' := by
  unfold Moves at *
  rw [he, hw]
  rcases hy with ⟨h1, h2⟩ | ⟨h1, h2, h3⟩
  · exact .inl ⟨h1, fun g w ha => h2 g w fun e hm hb => (ha e hm hb).trans (hf e hm hb)⟩
  · exact .inr ⟨h1, h2, fun g w ha => h3 g w fun e hm hb => (ha e hm hb).trans (hf e hm hb)⟩
theorem mOp_put {i j : Nat} {oi oj : Oper} {u : Value} (hij : i ≠ j) (hj : ops[j]? = some oj) (hap : oi.apart ops oj = true)
    (hsi : ∀ cs b, oi.op ≠ .select cs b) (hsj : ∀ cs b, oj.op ≠ .select cs b) {K : Told → Act → Prop} {f : Told} {a : Act}
    (hai : ∀ e ∈ oi.after, Region.binds md e = true → e.on ≠ j) (haj : ∀ e ∈ oj.after, Region.binds md e = true → e.on ≠ i)
    (hy : Moves P md ops C oi i (fun v => v = u) f a) (h : mOp P md ops C j K (upd f i u) (a.put oi.dst u)) :
    mOp P md ops C j (fun f' a' => Moves P md ops C oi i (fun v => v = u) f' a' ∧ K (upd f' i u) (a'.put oi.dst u)) f a := by
  obtain ⟨h1, h2, h3⟩ := Oper.apart_spec hap
  have keep : ∀ v, Moves P md ops C oi i (fun v => v = u) (upd f j v) (a.put oj.dst v) := fun v =>
    hy.of_same (fun e he hb => upd_ne _ _ (hai e he hb)) (execOp_put oi hsi a oj.dst v h3) (wanted_put oi a oj.dst v h3)
  unfold mOp at *
  simp only [hj] at *
  obtain ⟨V, hV, hn⟩ := h
  refine ⟨V, ?_, fun v hv => ⟨keep v, ?_⟩⟩
  · exact hV.of_same (fun e he hb => (upd_ne _ _ (haj e he hb)).symm) (execOp_put oj hsj a oi.dst u h1).symm (wanted_put oj a oi.dst u h1).symm
  · rw [← Act.put_comm a u v h2, ← upd_comm f u v hij]
    exact hn v hv

theorem wpAnyM_first {Q : Told → Act → Prop} {i : Nat} {oi : Oper} {u : Value} (hi : ops[i]? = some oi) (hsel : ∀ (j : Nat) (o : Oper) cs b, ops[j]? = some o → o.op ≠ .select cs b) :
    ∀ (fuel : Nat) (listed : Array Bool) (f : Told) (a : Act),
      (∀ j oj, ops[j]? = some oj → j ≠ i → listed.getD j true = false → (∀ e ∈ oj.after, Region.binds md e = true → e.on ≠ i) → oi.apart ops oj = true) →
      i ∈ Region.ready md ops listed → Moves P md ops C oi i (fun v => v = u) f a →
      wpAnyM P md ops C Q fuel (listed.setIfInBounds i true) (upd f i u) (a.put oi.dst u) → wpAnyM P md ops C Q (fuel + 1) listed f a := by
  intro fuel
  induction fuel with
  | zero =>
    intro listed f a _ hr hy H
    refine ⟨fun h => (by rw [h] at hr; cases hr), fun j hj => ?_⟩
    by_cases hji : j = i
    · subst hji; exact hy.mOp hi (fun v hv => by subst hv; exact H)
    · have := ready_mono hj hji
      rw [H.1] at this
      cases this
  | succ fuel ih =>
    intro listed f a hfree hr hy H
    refine ⟨fun h => (by rw [h] at hr; cases hr), fun j hj => ?_⟩
    by_cases hji : j = i
    · subst hji; exact hy.mOp hi (fun v hv => by subst hv; exact H)
    · have h1 := H.2 j (ready_mono hj hji)
      obtain ⟨hjun, oj, hoj, hall⟩ := mem_ready.1 hj
      have both : ∀ {k : Nat} {b : Bool}, listed.getD k true = false → listed.getD k false = b → b = false := fun {k b} h0 hb => by
        rcases Nat.lt_or_ge k listed.size with h' | h'
        · simp [h'] at h0 hb; rw [h0] at hb; exact hb.symm
        · simp [Array.getElem?_eq_none h'] at h0
      have hnot : ∀ e ∈ oj.after, Region.binds md e = true → e.on ≠ i := fun e he hb heq => by
        have h1 := hall e he hb
        rw [heq] at h1
        exact Bool.noConfusion (both (mem_ready.1 hr).1 h1)
      have hnoti : ∀ e ∈ oi.after, Region.binds md e = true → e.on ≠ j := fun e he hb heq => by
        obtain ⟨_, o', ho', hall'⟩ := mem_ready.1 hr
        rw [hi] at ho'
        cases ho'
        have h1 := hall' e he hb
        rw [heq] at h1
        exact Bool.noConfusion (both hjun h1)
      have h2 := mOp_put (Ne.symm hji) hoj (hfree j oj hoj hji hjun hnot) (fun cs b => hsel i oi cs b hi) (fun cs b => hsel j oj cs b hoj) hnoti hnot hy h1
      have hfree' : ∀ k ok, ops[k]? = some ok → k ≠ i → (listed.setIfInBounds j true).getD k true = false →
          (∀ e ∈ ok.after, Region.binds md e = true → e.on ≠ i) → oi.apart ops ok = true := fun k ok hk hki hun hno => by
        refine hfree k ok hk hki ?_ hno
        by_cases hjk : j = k
        · subst hjk; exact hjun
        · rw [getD_set_ne true hjk] at hun; exact hun
      refine mOp_mono (fun f' a' h3 => ih (listed.setIfInBounds j true) f' a' hfree' (ready_mono hr (Ne.symm hji)) h3.1 ?_) h2
      rw [Array.setIfInBounds_comm _ _ hji]
      exact h3.2

theorem wp_region_mv {id : Nat} {Q : Exit → Act → World → Prop} {a : Act} {w : World} {l : List Oper} (C : Told → World → Prop) (hm : P.follows .mixedOrders = true) (hC : C (fun _ => none) w.drew)
    (h : wpAnyM P .any l.toArray C (fun f a' => ∀ w', C f w' → Q .normal a' w') l.length (Array.replicate l.length false) (fun _ => none) a) : (Code.region id l.toArray true).wp P Q a w :=
  wp_region_any hm (wpAny_of_moved (C := C) (Q := fun f a => ∀ w', C f w' → Q .normal a w') (fun f a w hw h => h w hw) _ _ (fun _ => none) _ _ (fun _ _ => rfl) hC (by simpa using h))
theorem mv_end {Q : Told → Act → Prop} {listed : Array Bool} {f : Told} {a : Act} (h0 : Region.ready md ops listed = []) (h : Q f a) : wpAnyM P md ops C Q 0 listed f a := ⟨h0, h⟩

/-- all worlds of the class, by a name -/
theorem moved_class (C : Told → World → Prop) : ∃ (S : Type) (F : S → World), (∀ f w, C f w → ∃ s, w = F s) ∧ ∀ s, ∃ f, C f (F s) :=
  ⟨{ x : Told × World // C x.1 x.2 }, fun s => s.1.2, fun f w h => ⟨⟨(f, w), h⟩, rfl⟩, fun s => ⟨s.1.1, s.2⟩⟩
/-- what is read, or reckoned, in all of them: taken first -/
theorem mv_read {Q : Told → Act → Prop} {fuel : Nat} {listed : Array Bool} {f : Told} {a : Act} (i : Nat) {o : Oper} {S : Type} {F : S → World} (hF : ∀ f w, C f w → ∃ s, w = F s) (hm : ∀ f w v, C f w → C (upd f i v) w)
    (ho : ops[i]? = some o) (hs : Region.noSelect ops = true) (hfree : Region.free md ops listed i = true) (hr : (Region.ready md ops listed).contains i = true)
    (h : ∀ K : Value → Act → Prop, (∀ v a, wpAnyM P md ops C Q fuel (listed.setIfInBounds i true) (upd f i v) a → K v a) → if Region.wanted o (yielded ops a.tmps) then ∃ v, (∀ s, Oper.quietUpon P (fun w' => w' = F s) (F s) v ((execOp a.eval o).run P (F s))) ∧ K v (a.put o.dst v) else K undef (a.put o.dst undef)) :
    wpAnyM P md ops C Q (fuel + 1) listed f a := by
  have h := h (fun v a => wpAnyM P md ops C Q fuel (listed.setIfInBounds i true) (upd f i v) a) fun _ _ h => h
  have key : ∀ u, Moves P md ops C o i (fun v => v = u) f a → wpAnyM P md ops C Q fuel (listed.setIfInBounds i true) (upd f i u) (a.put o.dst u) → wpAnyM P md ops C Q (fuel + 1) listed f a := fun u h1 h2 =>
    wpAnyM_first ho (Region.noSelect_spec hs) fuel listed f a (Region.free_spec ho hfree) (by simpa using hr) h1 h2
  split at h
  · rename_i hw
    obtain ⟨v, h1, h2⟩ := h
    refine key v (.inl ⟨hw, fun g w _ hn hC => ?_⟩) h2
    obtain ⟨s, rfl⟩ := hF g w hC
    have h3 := h1 s
    generalize (execOp a.eval o).run P (F s) = r at *
    cases r with
    | ok n w' =>
      cases n <;> simp only [Oper.quietUpon] at h3 <;> simp only [movesUpon]
      case value u => obtain ⟨rfl, rfl⟩ := h3; exact ⟨rfl, hm _ _ _ hC⟩
      case skip => obtain ⟨rfl, rfl⟩ := h3; exact ⟨rfl, hm _ _ _ hC⟩
      case enter g args =>
        obtain ⟨rfl, h4⟩ := h3
        exact h4.mono fun e w'' ⟨he, hw''⟩ => by subst hw''; exact ⟨v, he, rfl, hm _ _ _ hC⟩
    | halt x w' => simp only [Oper.quietUpon] at h3
  · rename_i hw
    exact key undef (.inr ⟨by simpa using hw, rfl, fun g w _ _ hC => hm _ _ _ hC⟩) h
/-- a call that yields one value, wherever it is done: taken first -/
theorem mv_call1 {Q : Told → Act → Prop} {fuel : Nat} {listed : Array Bool} {F : Told} {a : Act} (i : Nat) {o : Oper} (f : FuncId) {xs : Array Operand} {ts : Array TypeId}
    (ho : ops[i]? = some o) (hs : Region.noSelect ops = true) (hfree : Region.free md ops listed i = true) (hr : (Region.ready md ops listed).contains i = true) (hw : Region.wanted o (yielded ops a.tmps) = true)
    (hop : o.op = Op.call { callee := Callee.value (.func f), args := xs, argTypes := ts }) (eg : ∀ args w, (callFunc f args).run P w = .ok (.enter f args) w) {args : Array Value} (hargs : xs.toList.map a.eval = args.toList)
    {u : Value} (hc : ∀ g w, agree md o F g → g i = none → C g w → Calls P f args w fun e w' => e = .returned u ∧ C (upd g i u) w')
    (hK : wpAnyM P md ops C Q fuel (listed.setIfInBounds i true) (upd F i u) (a.put o.dst u)) : wpAnyM P md ops C Q (fuel + 1) listed F a := by
  refine wpAnyM_first (u := u) ho (Region.noSelect_spec hs) fuel listed F a (Region.free_spec ho hfree) (by simpa using hr) (.inl ⟨hw, fun g w h0 h1 h2 => ?_⟩) hK
  have hrun : (execOp a.eval o).run P w = .ok (.enter f args) w := by
    have h : xs.map a.eval = args := Array.toList_inj.1 (by simpa using hargs)
    simp [execOp, hop, resolve, Deferred.ofValue, Act.eval, invoke, eg, ← h]
  rw [hrun]
  exact (hc g w h0 h1 h2).mono fun e w' ⟨h1, h2⟩ => ⟨u, h1, rfl, h2⟩
/-- a call that alone may be done now -/
theorem mv_call {Q : Told → Act → Prop} {fuel : Nat} {listed : Array Bool} {F : Told} {a : Act} (i : Nat) {o : Oper} (f : FuncId) {xs : Array Operand} {ts : Array TypeId}
    (ho : ops[i]? = some o) (hr : Region.ready md ops listed = [i]) (hw : Region.wanted o (yielded ops a.tmps) = true)
    (hop : o.op = Op.call { callee := Callee.value (.func f), args := xs, argTypes := ts }) (eg : ∀ args w, (callFunc f args).run P w = .ok (.enter f args) w) {args : Array Value} (hargs : xs.toList.map a.eval = args.toList)
    (V : Value → Prop) (hc : ∀ g w, agree md o F g → g i = none → C g w → Calls P f args w fun e w' => ∃ v, e = .returned v ∧ V v ∧ C (upd g i v) w')
    (hK : ∀ v, V v → wpAnyM P md ops C Q fuel (listed.setIfInBounds i true) (upd F i v) (a.put o.dst v)) : wpAnyM P md ops C Q (fuel + 1) listed F a := by
  refine ⟨by rw [hr]; simp, fun j hj => ?_⟩
  rw [hr] at hj
  obtain rfl : j = i := by simpa using hj
  refine Moves.mOp (V := V) ho (.inl ⟨hw, fun g w h0 h1 h2 => ?_⟩) hK
  have hrun : (execOp a.eval o).run P w = .ok (.enter f args) w := by
    have h : xs.map a.eval = args := Array.toList_inj.1 (by simpa using hargs)
    simp [execOp, hop, resolve, Deferred.ofValue, Act.eval, invoke, eg, ← h]
  rw [hrun]
  exact hc g w h0 h1 h2
end
end Ks
/- A region that draws its order, some of whose steps turn what was there: an operation that alone may be done now; an append. Plain. No program is in sight. -/
namespace Ks
open Go Go.RowKit
set_option linter.unusedVariables false
section
variable {P : Program} {ops : Array Oper} {md : Region.Mode} {C : Told → World → Prop}
/-- an operation that alone may be done now -/
theorem mv_alone {Q : Told → Act → Prop} {fuel : Nat} {listed : Array Bool} {F : Told} {a : Act} (i : Nat) {o : Oper}
    (ho : ops[i]? = some o) (hr : Region.ready md ops listed = [i]) (hw : Region.wanted o (yielded ops a.tmps) = true) (V : Value → Prop)
    (hc : ∀ g w, agree md o F g → g i = none → C g w → ∀ D : Value → World → Prop, (∀ v w', V v → C (upd g i v) w' → D v w') → movesUpon P D ((execOp a.eval o).run P w))
    (hK : ∀ v, V v → wpAnyM P md ops C Q fuel (listed.setIfInBounds i true) (upd F i v) (a.put o.dst v)) : wpAnyM P md ops C Q (fuel + 1) listed F a := by
  refine ⟨by rw [hr]; simp, fun j hj => ?_⟩
  rw [hr] at hj
  obtain rfl : j = i := by simpa using hj
  exact Moves.mOp (V := V) ho (.inl ⟨hw, fun g w h0 h1 h2 => hc g w h0 h1 h2 _ fun v w' a b => ⟨a, b⟩⟩) hK
/-- an append that alone may be done now -/
theorem mv_append {α : Type} {E : Enc α} {Q : Told → Act → Prop} {fuel : Nat} {listed : Array Bool} {F : Told} {a : Act} (i : Nat) {o : Oper}
    (ho : ops[i]? = some o) (hr : Region.ready md ops listed = [i]) (hg : o.guard = none) (s x : Operand) (t : TypeId)
    (hop : o.op = .call { callee := .builtin .append, args := #[s, x], argTypes := #[t, t] }) {e : TypeId} {bytes : Nat} (T : ElemT P t e E.k bytes) (B : Nat)
    (v lv : Value) (L l : List α) (hs : a.eval s = v) (hx : a.eval x = lv) (b1 : L.length + l.length ≤ 140000000) (b2 : bytes ≤ 1000)
    (hrow : ∀ g w, agree md o F g → g i = none → C g w → Row E w B e v L ∧ Rd E w lv l ∧ B ≤ w.heap.size)
    (V : Value → Prop) (hV : ∀ g w v' w', agree md o F g → g i = none → C g w → Grew E w w' B e v v' (L ++ l) → V v' ∧ C (upd g i v') w')
    (hK : ∀ v', V v' → wpAnyM P md ops C Q fuel (listed.setIfInBounds i true) (upd F i v') (a.put o.dst v')) : wpAnyM P md ops C Q (fuel + 1) listed F a := by
  refine mv_alone i ho hr (by simp [Region.wanted, hg]) V (fun g w h0 h1 h2 D hD => ?_) hK
  obtain ⟨r1, r2, r3⟩ := hrow g w h0 h1 h2
  obtain ⟨v', w', hrun, r⟩ := run_append_row (P := P) (t := t) (ty := o.type) T w B v lv L l r1 r2 r3 b1 b2
  simp [execOp, hop, resolve, invoke, builtin, hs, hx, hrun, Result.andThen, movesUpon]
  exact hD _ _ (hV g w v' w' h0 h1 h2 r).1 (hV g w v' w' h0 h1 h2 r).2
end
/-- what is read, or reckoned, wherever it was not yet -/
theorem mv_readN {P : Program} {ops : Array Oper} {md : Region.Mode} {C : Told → World → Prop} {Q : Told → Act → Prop} {fuel : Nat} {listed : Array Bool} {f : Told} {a : Act} (i : Nat) {o : Oper} {S : Type} {F : S → World} (hF : ∀ f w, f i = none → C f w → ∃ s, w = F s) (hm : ∀ f w v, f i = none → C f w → C (upd f i v) w)
    (ho : ops[i]? = some o) (hs : Region.noSelect ops = true) (hfree : Region.free md ops listed i = true) (hr : (Region.ready md ops listed).contains i = true)
    (h : ∀ K : Value → Act → Prop, (∀ v a, wpAnyM P md ops C Q fuel (listed.setIfInBounds i true) (upd f i v) a → K v a) → if Region.wanted o (yielded ops a.tmps) then ∃ v, (∀ s, Oper.quietUpon P (fun w' => w' = F s) (F s) v ((execOp a.eval o).run P (F s))) ∧ K v (a.put o.dst v) else K undef (a.put o.dst undef)) :
    wpAnyM P md ops C Q (fuel + 1) listed f a := by
  have h := h (fun v a => wpAnyM P md ops C Q fuel (listed.setIfInBounds i true) (upd f i v) a) fun _ _ h => h
  have key : ∀ u, Moves P md ops C o i (fun v => v = u) f a → wpAnyM P md ops C Q fuel (listed.setIfInBounds i true) (upd f i u) (a.put o.dst u) → wpAnyM P md ops C Q (fuel + 1) listed f a := fun u h1 h2 =>
    wpAnyM_first ho (Region.noSelect_spec hs) fuel listed f a (Region.free_spec ho hfree) (by simpa using hr) h1 h2
  split at h
  · rename_i hw
    obtain ⟨v, h1, h2⟩ := h
    refine key v (.inl ⟨hw, fun g w _ hn hC => ?_⟩) h2
    obtain ⟨s, rfl⟩ := hF g w hn hC
    have h3 := h1 s
    generalize (execOp a.eval o).run P (F s) = r at *
    cases r with
    | ok n w' =>
      cases n <;> simp only [Oper.quietUpon] at h3 <;> simp only [movesUpon]
      case value u => obtain ⟨rfl, rfl⟩ := h3; exact ⟨rfl, hm _ _ _ hn hC⟩
      case skip => obtain ⟨rfl, rfl⟩ := h3; exact ⟨rfl, hm _ _ _ hn hC⟩
      case enter g args =>
        obtain ⟨rfl, h4⟩ := h3
        exact h4.mono fun e w'' ⟨he, hw''⟩ => by subst hw''; exact ⟨v, he, rfl, hm _ _ _ hn hC⟩
    | halt x w' => simp only [Oper.quietUpon] at h3
  · rename_i hw
    exact key undef (.inr ⟨by simpa using hw, rfl, fun g w _ hn hC => hm _ _ _ hn hC⟩) h
theorem moved_classN (C : Told → World → Prop) (i : Nat) : ∃ (S : Type) (F : S → World), (∀ f w, f i = none → C f w → ∃ s, w = F s) ∧ ∀ s, ∃ f, f i = none ∧ C f (F s) :=
  ⟨{ x : Told × World // x.1 i = none ∧ C x.1 x.2 }, fun s => s.1.2, fun f w h1 h => ⟨⟨(f, w), h1, h⟩, rfl⟩, fun s => ⟨s.1.1, s.2⟩⟩
theorem grown_trans {w w1 w2 : World} {r : Option Nat} (h : w.grownBy w1 r) (k : Below w1.heap.size w1 w2) : w.grownBy w2 r :=
  ⟨k.os.trans h.os, k.tape.trans h.tape, k.output.trans h.output, Nat.le_trans h.size k.size, fun j hj hr => (k.block j (Nat.lt_of_lt_of_le hj h.size)).trans (h.block j hj hr)⟩
theorem below_grown {w w1 w2 : World} {r : Option Nat} (h : Below w.heap.size w w1) (k : w1.grownBy w2 r) : w.grownBy w2 r :=
  ⟨k.os.trans h.os, k.tape.trans h.tape, k.output.trans h.output, Nat.le_trans h.size k.size, fun j hj hr => (k.block j (Nat.lt_of_lt_of_le hj h.size) hr).trans (h.block j hj)⟩
theorem grown_of {w w1 : World} (h : Below w.heap.size w w1) (r : Option Nat) : w.grownBy w1 r := below_grown h (World.grownBy.refl w1 r)
/-- a class of worlds behind one, where an own row grows: s is what is appended, u the row that it becomes -/
def Appends {α : Type} (E : Enc α) (B : Nat) (w0 : World) (T : TypeId) (v : Value) (L l : List α) (s u : Option Value) (w : World) : Prop :=
  match u with
  | none => Below w0.heap.size w0 w ∧ Row E w B T v L ∧ ∀ x, s = some x → Rd E w x l
  | some u => w0.grownBy w v.ownBlock ∧ (u.ownBlock = v.ownBlock ∨ ∀ b, u.ownBlock = some b → w0.heap.size ≤ b) ∧ Row E w B T u (L ++ l)
section
variable {α : Type} {E : Enc α} {B : Nat} {w0 w w' : World} {T : TypeId} {v : Value} {L l : List α} {s u : Option Value}
theorem Appends.start (h : Row E w0 B T v L) (hb : Below w0.heap.size w0 w) : Appends E B w0 T v L l none none w := ⟨hb, h.below hb, fun x hx => by cases hx⟩
theorem Appends.on (h : Appends E B w0 T v L l s u w) (hb : Below w.heap.size w w') : Appends E B w0 T v L l s u w' := by
  cases u with
  | none => exact ⟨h.1.trans (hb.mono h.1.size), h.2.1.below hb, fun x hx => (h.2.2 x hx).below hb⟩
  | some u => exact ⟨grown_trans h.1 hb, h.2.1, h.2.2.below hb⟩
theorem Appends.size (h : Appends E B w0 T v L l s u w) : w0.heap.size ≤ w.heap.size := by
  cases u with
  | none => exact h.1.size
  | some u => exact h.1.size
theorem Appends.grown (h : Appends E B w0 T v L l s u w) : w0.grownBy w v.ownBlock := by
  cases u with
  | none => exact grown_of h.1 _
  | some u => exact h.1
theorem Appends.cell {a : Addr} {x : Value} (h : Appends E B w0 T v L l s u w) (hc : w0.cell? a = some x) (hne : v.ownBlock ≠ some a.block) : w.cell? a = some x :=
  h.grown.cell hc fun e => hne e.symm
theorem Appends.block {b : Nat} {o : Obj} (h : Appends E B w0 T v L l s u w) (hc : w0.heap[b]? = some o) (hne : v.ownBlock ≠ some b) : w.heap[b]? = some o :=
  (h.grown.block b (lt_of_block hc) fun e => hne e.symm).trans hc
/-- what is appended, in a new block -/
theorem Appends.made (h : Appends E B w0 T v L l s u w) (cs : Array Value) (e : cs.toList = E.cs l) (fr : Nat × Nat := (0, 0)) : Appends E B w0 T v L l (some (.slice (some ⟨w.heap.size, 0, none⟩) l.length l.length)) u (w.alloc (.cells cs T fr)) := by
  have hb := alloc_below w (.cells cs T fr)
  cases u with
  | none => exact ⟨h.1.trans (hb.mono h.1.size), h.2.1.below hb, fun x hx => by cases hx; exact Rd.block (alloc_new w _) e⟩
  | some u => exact ⟨grown_trans h.1 hb, h.2.1, h.2.2.below hb⟩
theorem Appends.grew {v' : Value} (h : Appends E B w0 T v L l s none w) (hG : Grew E w w' B T v v' (L ++ l)) : Appends E B w0 T v L l s (some v') w' :=
  ⟨below_grown h.1 hG.2.1, hG.2.2.1.imp id fun hh b e => Nat.le_trans h.1.size (hh b e), hG.1⟩
theorem Appends.rows {lv : Value} (h : Appends E B w0 T v L l (some lv) none w) (hB : B ≤ w0.heap.size) : Row E w B T v L ∧ Rd E w lv l ∧ B ≤ w.heap.size := ⟨h.2.1, h.2.2 lv rfl, Nat.le_trans hB h.1.size⟩
end
/-- the same, where the row lies in a box: a: what was read of it, z: that it was stored -/
def AppStore {α : Type} (E : Enc α) (B : Nat) (w0 : World) (T : TypeId) (v : Value) (L l : List α) (bo : Nat) (a s u z : Option Value) (w : World) : Prop :=
  match z with
  | none => Appends E B w0 T v L l s u w ∧ (u ≠ none → a ≠ none ∧ s ≠ none)
  | some _ => (a ≠ none ∧ s ≠ none) ∧ ∃ u' w1, u = some u' ∧ Appends E B w0 T v L l s (some u') w1 ∧ w = w1.setCell ⟨bo, 0, none⟩ u'
section
variable {α : Type} {E : Enc α} {B bo : Nat} {w0 w w' : World} {T : TypeId} {v : Value} {L l : List α} {a s u z : Option Value}
theorem AppStore.start (h : Row E w0 B T v L) (hb : Below w0.heap.size w0 w) : AppStore E B w0 T v L l bo none none none none w := ⟨Appends.start h hb, fun h => absurd rfl h⟩
theorem AppStore.read (x : Value) (h : AppStore E B w0 T v L l bo a s u z w) : AppStore E B w0 T v L l bo (some x) s u z w := by
  cases z with
  | none => exact ⟨h.1, fun hu => ⟨(fun e => by cases e), (h.2 hu).2⟩⟩
  | some z => exact ⟨⟨(fun e => by cases e), h.1.2⟩, h.2⟩
/-- what was there stands, but for the row and its box -/
theorem AppStore.cell {ad : Addr} {x : Value} (h : AppStore E B w0 T v L l bo a s u z w) (hc : w0.cell? ad = some x) (hne : v.ownBlock ≠ some ad.block) (hbo : ad.block ≠ bo) : w.cell? ad = some x := by
  cases z with
  | none => exact h.1.cell hc hne
  | some z =>
    obtain ⟨_, u', w1, _, h1, rfl⟩ := h
    have hfar : (w1.setCell ⟨bo, 0, none⟩ u').cell? ad = w1.cell? ad := World.cell?_of_block (Below.heap_setCell _ _ _ _ hbo)
    rw [hfar]
    exact h1.cell hc hne
/-- the box, ahead of its reading -/
theorem AppStore.box {x : Value} (h : AppStore E B w0 T v L l bo none s u z w) (hc : w0.cell? ⟨bo, 0, none⟩ = some x) (hne : v.ownBlock ≠ some bo) : w.cell? ⟨bo, 0, none⟩ = some x := by
  cases z with
  | none => exact h.1.cell hc hne
  | some z => exact absurd rfl h.1.1
theorem AppStore.unread (h : AppStore E B w0 T v L l bo a s u none w) : Appends E B w0 T v L l s u w := h.1
theorem AppStore.early (h : AppStore E B w0 T v L l bo a none u z w) : u = none ∧ z = none := by
  cases z with
  | none =>
    cases u with
    | none => exact ⟨rfl, rfl⟩
    | some u => exact absurd rfl (h.2 (fun e => by cases e)).2
  | some z => exact absurd rfl h.1.2
theorem AppStore.mid (h : AppStore E B w0 T v L l bo a s none z w) : z = none := by
  cases z with
  | none => rfl
  | some z => obtain ⟨_, u', w1, e, _⟩ := h; cases e
theorem AppStore.made (h : AppStore E B w0 T v L l bo a none u z w) (cs : Array Value) (e : cs.toList = E.cs l) (fr : Nat × Nat := (0, 0)) : AppStore E B w0 T v L l bo a (some (.slice (some ⟨w.heap.size, 0, none⟩) l.length l.length)) u z (w.alloc (.cells cs T fr)) := by
  obtain ⟨rfl, rfl⟩ := h.early
  exact ⟨h.1.made cs e fr, fun h => absurd rfl h⟩
theorem AppStore.rows {lv : Value} (h : AppStore E B w0 T v L l bo a (some lv) none z w) (hB : B ≤ w0.heap.size) : Row E w B T v L ∧ Rd E w lv l ∧ B ≤ w.heap.size := by
  obtain rfl := h.mid
  exact h.1.rows hB
theorem AppStore.grew {v' : Value} {x y : Value} (h : AppStore E B w0 T v L l bo (some x) (some y) none z w) (hG : Grew E w w' B T v v' (L ++ l)) : AppStore E B w0 T v L l bo (some x) (some y) (some v') z w' := by
  obtain rfl := h.mid
  exact ⟨h.1.grew hG, fun _ => ⟨(fun e => by cases e), (fun e => by cases e)⟩⟩
theorem AppStore.stored {v' y : Value} (h : AppStore E B w0 T v L l bo a s (some v') none w) : AppStore E B w0 T v L l bo a s (some v') (some y) (w.setCell ⟨bo, 0, none⟩ v') :=
  ⟨h.2 (fun e => by cases e), v', w, rfl, h.1, rfl⟩
theorem AppStore.done {u' y : Value} (h : AppStore E B w0 T v L l bo a s (some u') (some y) w) : ∃ w1, w0.grownBy w1 v.ownBlock ∧ Row E w1 B T u' (L ++ l) ∧ w = w1.setCell ⟨bo, 0, none⟩ u' := by
  obtain ⟨_, u2, w1, e, h1, rfl⟩ := h
  cases e
  exact ⟨w1, h1.1, h1.2.2, rfl⟩
theorem Appends.frozen {ad : Addr} {x : Value} (h : Appends E B w0 T v L l s u w) (hc : w0.cell? ad = some x) (hf : w0.frozen? ad = false) (hne : v.ownBlock ≠ some ad.block) : w.frozen? ad = false := by
  rw [World.frozen?_of_block (h.grown.block ad.block (World.block_lt_of_cell? _ _ hc) fun e => hne e.symm)]
  exact hf
end
end Ks
/- Append to a slice that is full makes a new row; such an append in a region that draws its order, and the store of it. Plain. No program is in sight. -/
namespace Ks
open Go Go.RowKit
set_option linter.unusedVariables false
section
variable {α : Type} {E : Enc α}
theorem run_append_full {P : Program} {t ty e : TypeId} {bytes : Nat} (T : ElemT P t e E.k bytes) (w : World) (a : Option Addr) (lv : Value) (L l : List α) (hL : Rd E w (.slice a L.length L.length) L) (hl : Rd E w lv l) (hne : l ≠ []) (b1 : L.length + l.length ≤ 140000000) (b2 : bytes ≤ 1000) :
    ∃ v' w', (Builtin.append_ #[t, t] ty #[.slice a L.length L.length, lv]).run P w = .ok v' w' ∧ Row E w' w.heap.size e v' (L ++ l) ∧ Below w.heap.size w w' := by
  obtain ⟨h1, i, z, h2, h3, h4, h5, h6⟩ := T
  have hmax : L.length + l.length ≤ maxLen := by unfold maxLen; omega
  have hby : (L.length + l.length) * bytes ≤ 140737488355328 := by
    have : (L.length + l.length) * bytes ≤ 140000000 * 1000 := Nat.mul_le_mul b1 b2
    omega
  have hpos : 0 < l.length := List.length_pos_iff.2 hne
  obtain ⟨a2, c2, rfl, _, _⟩ := hl.shape
  obtain ⟨b, o, rfl, _⟩ := hl.at 0 l[0] (List.getElem?_eq_getElem hpos)
  have hsrc : ∀ j u, (E.cs l)[j]? = some u → w.cell? ((⟨b, o, none⟩ : Addr).add j) = some u := fun j u hj => by rw [Addr.add_lit]; exact hl.cells.2 j u hj
  have hlen2 : (L ++ l).length = L.length + l.length := List.length_append
  cases a with
  | none =>
    obtain ⟨a3, c3, e3, _, hz⟩ := hL.shape
    simp only [Value.slice.injEq] at e3
    have hc : c3 = 0 := hz e3.1.symm
    have h0 : L.length = 0 := by omega
    obtain rfl : L = [] := List.length_eq_zero_iff.1 h0
    obtain ⟨v', w', hrun, r1, r2, _⟩ := run_append_own (P := P) w w.heap.size t ty e i z E.k bytes h1 h2 h3 h4 h5 h6 E.pos (.slice none 0 0) 0 [] (World.ownsRow_nil w _ e E.k) ⟨b, o, none⟩ l.length c2 (E.cs l) (E.cs_length l) hsrc (E.cs_one l) (by simpa using hmax) (by simpa using hby) (Nat.le_refl _)
    rw [Nat.zero_add, List.nil_append] at r1
    exact ⟨v', w', hrun, r1, r2.os, r2.tape, r2.output, r2.size, fun k hk => r2.block k hk (by simp [Value.ownBlock])⟩
  | some ad =>
    have hold : ∀ j u, (E.cs L)[j]? = some u → w.cell? (ad.add j) = some u := by
      intro j u hj
      obtain ⟨i', x, j', hx, _, _, _⟩ := E.cs_cell L j u hj
      obtain ⟨b', o', e', _⟩ := hL.at i' x hx
      cases e'
      rw [Addr.add_lit]
      exact hL.cells.2 j u hj
    obtain ⟨v', w', hrun, r1, r2⟩ := run_append_arg_grows (P := P) w t ty e i z E.k bytes h1 h2 h3 h4 h5 h6 E.pos ad L.length L.length (E.cs L) (E.cs_length L) hold ⟨b, o, none⟩ l.length c2 (E.cs l) (E.cs_length l) hsrc (by omega) hmax hby
    refine ⟨v', w', hrun, ?_, r2.os, r2.tape, r2.output, r2.size, fun k hk => r2.block k hk (by simp)⟩
    show w'.ownsRow _ e E.k _ (L ++ l).length (E.cs (L ++ l))
    rw [hlen2, E.cs_append]
    exact r1
variable {P : Program} {ops : Array Oper} {md : Region.Mode} {C : Told → World → Prop}
theorem mv_append_full {Q : Told → Act → Prop} {fuel : Nat} {listed : Array Bool} {F : Told} {a : Act} (i : Nat) {o : Oper}
    (ho : ops[i]? = some o) (hr : Region.ready md ops listed = [i]) (hg : o.guard = none) (s x : Operand) (t : TypeId)
    (hop : o.op = .call { callee := .builtin .append, args := #[s, x], argTypes := #[t, t] }) {e : TypeId} {bytes : Nat} (T : ElemT P t e E.k bytes)
    (ad : Option Addr) (n : Nat) (lv : Value) (L l : List α) (hs : a.eval s = .slice ad n n) (hn : n = L.length) (hx : a.eval x = lv) (hne : l ≠ []) (b1 : L.length + l.length ≤ 140000000) (b2 : bytes ≤ 1000)
    (hrow : ∀ g w, agree md o F g → g i = none → C g w → Rd E w (.slice ad n n) L ∧ Rd E w lv l)
    (V : Value → Prop) (hV : ∀ g w v' w', agree md o F g → g i = none → C g w → Row E w' w.heap.size e v' (L ++ l) → Below w.heap.size w w' → V v' ∧ C (upd g i v') w')
    (hK : ∀ v', V v' → wpAnyM P md ops C Q fuel (listed.setIfInBounds i true) (upd F i v') (a.put o.dst v')) : wpAnyM P md ops C Q (fuel + 1) listed F a := by
  subst hn
  refine mv_alone i ho hr (by simp [Region.wanted, hg]) V (fun g w h0 h1 h2 D hD => ?_) hK
  obtain ⟨r1, r2⟩ := hrow g w h0 h1 h2
  obtain ⟨v', w', hrun, r, rb⟩ := run_append_full (P := P) (t := t) (ty := o.type) T w ad lv L l r1 r2 hne b1 b2
  simp [execOp, hop, resolve, invoke, builtin, hs, hx, hrun, Result.andThen, movesUpon]
  exact hD _ _ (hV g w v' w' h0 h1 h2 r rb).1 (hV g w v' w' h0 h1 h2 r rb).2
end
/-- a class of worlds behind one, where something is read thrice of a cell, what is made of it is joined to others as a new row, and stored into that cell -/
def FullStore {α : Type} (E : Enc α) (w0 : World) (T : TypeId) (R l : List α) (bo co : Nat) (r1 r2 r3 s u z : Option Value) (w : World) : Prop :=
  match z with
  | none => Below w0.heap.size w0 w ∧ (∀ x, s = some x → Rd E w x l) ∧ (∀ x, u = some x → (r1 ≠ none ∧ r2 ≠ none ∧ r3 ≠ none ∧ s ≠ none) ∧ Row E w w0.heap.size T x R)
  | some _ => (r1 ≠ none ∧ r2 ≠ none ∧ r3 ≠ none ∧ s ≠ none) ∧ ∃ u' w1, u = some u' ∧ Below w0.heap.size w0 w1 ∧ Row E w1 w0.heap.size T u' R ∧ w = w1.setCell ⟨bo, co, none⟩ u'
section
variable {α : Type} {E : Enc α} {bo co : Nat} {w0 w w' : World} {T : TypeId} {R l : List α} {r1 r2 r3 s u z : Option Value}
theorem FullStore.start (hb : Below w0.heap.size w0 w) : FullStore E w0 T R l bo co none none none none none none w := ⟨hb, (fun v h => by cases h), (fun v h => by cases h)⟩
theorem FullStore.told (h : FullStore E w0 T R l bo co r1 r2 r3 s u z w) {q1 q2 q3 : Option Value} (h1 : r1 ≠ none → q1 ≠ none) (h2 : r2 ≠ none → q2 ≠ none) (h3 : r3 ≠ none → q3 ≠ none) : FullStore E w0 T R l bo co q1 q2 q3 s u z w := by
  cases z with
  | none => exact ⟨h.1, h.2.1, fun x hx => ⟨⟨h1 (h.2.2 x hx).1.1, h2 (h.2.2 x hx).1.2.1, h3 (h.2.2 x hx).1.2.2.1, (h.2.2 x hx).1.2.2.2⟩, (h.2.2 x hx).2⟩⟩
  | some z => exact ⟨⟨h1 h.1.1, h2 h.1.2.1, h3 h.1.2.2.1, h.1.2.2.2⟩, h.2⟩
theorem FullStore.yet (h : FullStore E w0 T R l bo co r1 r2 r3 s u none w) : Below w0.heap.size w0 w := h.1
theorem FullStore.un1 (h : FullStore E w0 T R l bo co none r2 r3 s u z w) : z = none ∧ u = none := by
  cases z with
  | none =>
    refine ⟨rfl, ?_⟩
    cases u with
    | none => rfl
    | some u => exact absurd rfl (h.2.2 u rfl).1.1
  | some z => exact absurd rfl h.1.1
theorem FullStore.un2 (h : FullStore E w0 T R l bo co r1 none r3 s u z w) : z = none ∧ u = none := by
  cases z with
  | none =>
    refine ⟨rfl, ?_⟩
    cases u with
    | none => rfl
    | some u => exact absurd rfl (h.2.2 u rfl).1.2.1
  | some z => exact absurd rfl h.1.2.1
theorem FullStore.un3 (h : FullStore E w0 T R l bo co r1 r2 none s u z w) : z = none ∧ u = none := by
  cases z with
  | none =>
    refine ⟨rfl, ?_⟩
    cases u with
    | none => rfl
    | some u => exact absurd rfl (h.2.2 u rfl).1.2.2.1
  | some z => exact absurd rfl h.1.2.2.1
theorem FullStore.un4 (h : FullStore E w0 T R l bo co r1 r2 r3 none u z w) : z = none ∧ u = none := by
  cases z with
  | none =>
    refine ⟨rfl, ?_⟩
    cases u with
    | none => rfl
    | some u => exact absurd rfl (h.2.2 u rfl).1.2.2.2
  | some z => exact absurd rfl h.1.2.2.2
theorem FullStore.un5 (h : FullStore E w0 T R l bo co r1 r2 r3 s none z w) : z = none := by
  cases z with
  | none => rfl
  | some z => obtain ⟨_, _, _, e, _⟩ := h; cases e
/-- what was there stands, but for the block that is stored into -/
theorem FullStore.cell {ad : Addr} {x : Value} (h : FullStore E w0 T R l bo co r1 r2 r3 s u z w) (hc : w0.cell? ad = some x) (hbo : ad.block ≠ bo) : w.cell? ad = some x := by
  cases z with
  | none => exact (h.1.cell (p := ad) (World.block_lt_of_cell? _ _ hc)).trans hc
  | some z =>
    obtain ⟨_, u', w1, _, h1, _, rfl⟩ := h
    have hfar : (w1.setCell ⟨bo, co, none⟩ u').cell? ad = w1.cell? ad := World.cell?_of_block (Below.heap_setCell _ _ _ _ hbo)
    rw [hfar]
    exact (h1.cell (p := ad) (World.block_lt_of_cell? _ _ hc)).trans hc
theorem FullStore.on (h : FullStore E w0 T R l bo co r1 r2 r3 none u z w) (hb : Below w.heap.size w w') : FullStore E w0 T R l bo co r1 r2 r3 none u z w' := by
  obtain ⟨rfl, rfl⟩ := h.un4
  exact ⟨h.1.trans (hb.mono h.1.size), (fun v e => by cases e), (fun v e => by cases e)⟩
theorem FullStore.made (h : FullStore E w0 T R l bo co r1 r2 r3 none u z w) (cs : Array Value) (e : cs.toList = E.cs l) (fr : Nat × Nat := (0, 0)) (T' : TypeId) : FullStore E w0 T R l bo co r1 r2 r3 (some (.slice (some ⟨w.heap.size, 0, none⟩) l.length l.length)) u z (w.alloc (.cells cs T' fr)) := by
  obtain ⟨rfl, rfl⟩ := h.un4
  have hb := alloc_below w (.cells cs T' fr)
  exact ⟨h.1.trans (hb.mono h.1.size), (fun x e2 => by cases e2; exact Rd.block (alloc_new w _) e), (fun v e => by cases e)⟩
theorem FullStore.grew {x1 x2 x3 x4 v' : Value} (h : FullStore E w0 T R l bo co (some x1) (some x2) (some x3) (some x4) none z w) (hr : Row E w' w.heap.size T v' R) (hb : Below w.heap.size w w') : FullStore E w0 T R l bo co (some x1) (some x2) (some x3) (some x4) (some v') z w' := by
  obtain rfl := h.un5
  refine ⟨h.1.trans (hb.mono h.1.size), (fun x e => (h.2.1 x e).below hb), fun x e => ?_⟩
  cases e
  exact ⟨⟨(fun e => by cases e), (fun e => by cases e), (fun e => by cases e), (fun e => by cases e)⟩, hr.down h.1.size⟩
theorem FullStore.stored {v' y : Value} (h : FullStore E w0 T R l bo co r1 r2 r3 s (some v') none w) : FullStore E w0 T R l bo co r1 r2 r3 s (some v') (some y) (w.setCell ⟨bo, co, none⟩ v') :=
  ⟨(h.2.2 v' rfl).1, v', w, rfl, h.1, (h.2.2 v' rfl).2, rfl⟩
theorem FullStore.done {u' y : Value} (h : FullStore E w0 T R l bo co r1 r2 r3 s (some u') (some y) w) : ∃ w1, Below w0.heap.size w0 w1 ∧ Row E w1 w0.heap.size T u' R ∧ w = w1.setCell ⟨bo, co, none⟩ u' := by
  obtain ⟨_, u2, w1, e, h1, h2, rfl⟩ := h
  cases e
  exact ⟨w1, h1, h2, rfl⟩
end
/-- an append to a full slice at a step of a region that draws its order -/
theorem step_append_full {P : Program} {ops : Array Oper} {o : Oper} {a : Act} {w : World} {K : Act → World → Prop} {Q : Exit → Act → World → Prop} {F : Prop} {α : Type} {E : Enc α} (hg : o.guard = none) (s x : Operand) (t : TypeId)
    (hop : o.op = Op.call { callee := Callee.builtin Builtin.append, args := #[s, x], argTypes := #[t, t] }) {e : TypeId} {bytes : Nat} (T : ElemT P t e E.k bytes)
    (ad : Option Addr) (n : Nat) (lv : Value) (L l : List α) (hn : n = L.length) (hs : a.eval s = .slice ad n n) (hx : a.eval x = lv) (hL : Rd E w (.slice ad n n) L) (hl : Rd E w lv l) (hne : l ≠ []) (b1 : L.length + l.length ≤ 140000000) (b2 : bytes ≤ 1000)
    (hK : ∀ v' w', Row E w' w.heap.size e v' (L ++ l) → Below w.heap.size w w' → K (a.put o.dst v') w') : if Region.wanted o (yielded ops a.tmps) = true then Oper.wp P o a w K Q else F := by
  subst hn
  obtain ⟨v', w', hrun, r, rb⟩ := run_append_full (P := P) (t := t) (ty := o.type) T w ad lv L l hL hl hne b1 b2
  exact step_append_of hg s x t hop hrun hs hx (hK v' w' r rb)
/-- what is read, or reckoned: what it waits for was told -/
theorem mv_readA {P : Program} {ops : Array Oper} {md : Region.Mode} {C : Told → World → Prop} {Q : Told → Act → Prop} {fuel : Nat} {listed : Array Bool} {f : Told} {a : Act} (i : Nat) {o : Oper} {S : Type} {F : S → World} (hF : ∀ f w, C f w → ∃ s, w = F s) (hm : ∀ g w v, agree md o f g → g i = none → C g w → C (upd g i v) w)
    (ho : ops[i]? = some o) (hs : Region.noSelect ops = true) (hfree : Region.free md ops listed i = true) (hr : (Region.ready md ops listed).contains i = true)
    (h : ∀ K : Value → Act → Prop, (∀ v a, wpAnyM P md ops C Q fuel (listed.setIfInBounds i true) (upd f i v) a → K v a) → if Region.wanted o (yielded ops a.tmps) then ∃ v, (∀ s, Oper.quietUpon P (fun w' => w' = F s) (F s) v ((execOp a.eval o).run P (F s))) ∧ K v (a.put o.dst v) else K undef (a.put o.dst undef)) :
    wpAnyM P md ops C Q (fuel + 1) listed f a := by
  have h := h (fun v a => wpAnyM P md ops C Q fuel (listed.setIfInBounds i true) (upd f i v) a) fun _ _ h => h
  have key : ∀ u, Moves P md ops C o i (fun v => v = u) f a → wpAnyM P md ops C Q fuel (listed.setIfInBounds i true) (upd f i u) (a.put o.dst u) → wpAnyM P md ops C Q (fuel + 1) listed f a := fun u h1 h2 =>
    wpAnyM_first ho (Region.noSelect_spec hs) fuel listed f a (Region.free_spec ho hfree) (by simpa using hr) h1 h2
  split at h
  · rename_i hw
    obtain ⟨v, h1, h2⟩ := h
    refine key v (.inl ⟨hw, fun g w ha hn hC => ?_⟩) h2
    obtain ⟨s, rfl⟩ := hF g w hC
    have h3 := h1 s
    generalize (execOp a.eval o).run P (F s) = r at *
    cases r with
    | ok n w' =>
      cases n <;> simp only [Oper.quietUpon] at h3 <;> simp only [movesUpon]
      case value u => obtain ⟨rfl, rfl⟩ := h3; exact ⟨rfl, hm _ _ _ ha hn hC⟩
      case skip => obtain ⟨rfl, rfl⟩ := h3; exact ⟨rfl, hm _ _ _ ha hn hC⟩
      case enter g args =>
        obtain ⟨rfl, h4⟩ := h3
        exact h4.mono fun e w'' ⟨he, hw''⟩ => by subst hw''; exact ⟨v, he, rfl, hm _ _ _ ha hn hC⟩
    | halt x w' => simp only [Oper.quietUpon] at h3
  · rename_i hw
    exact key undef (.inr ⟨by simpa using hw, rfl, fun g w ha hn hC => hm _ _ _ ha hn hC⟩) h
theorem told_self (f : Told) (k : Nat) (v : Value) : upd f k v k ≠ none := by rw [upd_self]; exact fun e => by cases e
theorem told_by {g F : Told} {k : Nat} {v : Value} (h : g k = F k) (h2 : F k = some v) : g k ≠ none := by rw [h, h2]; exact fun e => by cases e
theorem FullStore.grew2 {α : Type} {E : Enc α} {bo co : Nat} {w0 w w' : World} {T : TypeId} {R l : List α} {r1 r2 r3 s z : Option Value} {v' : Value} (h : FullStore E w0 T R l bo co r1 r2 r3 s none z w) (k : r1 ≠ none ∧ r2 ≠ none ∧ r3 ≠ none ∧ s ≠ none) (hr : Row E w' w.heap.size T v' R) (hb : Below w.heap.size w w') : FullStore E w0 T R l bo co r1 r2 r3 s (some v') z w' := by
  obtain rfl := h.un5
  refine ⟨h.1.trans (hb.mono h.1.size), (fun x e => (h.2.1 x e).below hb), fun x e => ?_⟩
  cases e
  exact ⟨k, hr.down h.1.size⟩
end Ks
/- A drawn region that hands steps to a journal: its class of worlds. -/
set_option maxRecDepth 100000
namespace Go.Proofs.YteppfjgglelpbaaGreat
open Go.RowKit Ks
set_option linter.unusedVariables false
theorem eg_jwrite : ∀ args w, (callFunc 34 args).run Tryz.prog w = .ok (.enter 34 args) w := fun _ _ => rfl
theorem eg_jsteps : ∀ args w, (callFunc 33 args).run Tryz.prog w = .ok (.enter 33 args) w := fun _ _ => rfl
def wrV (b0 b1 b2 : Nat) : Value := .func (.func 64) #[] #[.pointer (some ⟨b0, 0, none⟩), .pointer (some ⟨b1, 0, none⟩), .pointer (some ⟨b2, 0, none⟩)]
/-- ahead of the steps: what was made -/
structure StpC (W : World) (F : Nat → Prop) (jn dn : Nat) (x1 x2 : Stp) (l : List Stp) (a1 a2 c : Option Value) (w : World) : Prop where
  bl : Below W.heap.size W w
  s1 : ∀ v, a1 = some v → StpV w F jn dn v x1
  s2 : ∀ v, a2 = some v → StpV w F jn dn v x2
  row : ∀ v, c = some v → ∃ b, v = .slice (some ⟨b, 0, none⟩) l.length l.length ∧ StpL w F jn dn b 0 l
/-- behind them: what they did -/
def StpP (W : World) (jn : Nat) (spv : Value) (dn : Nat) (vb vc : Value) (s : SupT) (br : Bool) (d : DS) (l : List Stp) (w : World) : Prop :=
  ∃ vc', JHd w jn spv dn vb vc' s (br || decide (stepsE d l ≠ 0)) (stepsD d l) ∧ Turn W w (FJ jn dn vb vc) (FJ jn dn vb vc')
def StpQ (W : World) (jn : Nat) (spv : Value) (dn : Nat) (vb vc : Value) (s : SupT) (br : Bool) (d : DS) (x1 x2 : Stp) (l : List Stp) (a1 a2 c e : Option Value) (w : World) : Prop :=
  match e with
  | none => StpC W (FJ jn dn vb vc) jn dn x1 x2 l a1 a2 c w
  | some _ => StpP W jn spv dn vb vc s br d l w
section
variable {W w w' : World} {F : Nat → Prop} {jn dn : Nat} {spv vb vc : Value} {s : SupT} {br : Bool} {d : DS} {x1 x2 : Stp} {l : List Stp} {a1 a2 c e : Option Value}
theorem StpC.start (hF : ∀ k, F k → k < W.heap.size) : StpC W F jn dn x1 x2 l none none none W.drew := ⟨drew_below W, (fun v e => by cases e), (fun v e => by cases e), (fun v e => by cases e)⟩
theorem StpC.on (h : StpC W F jn dn x1 x2 l a1 a2 c w) (hb : Below w.heap.size w w') : StpC W F jn dn x1 x2 l a1 a2 c w' :=
  ⟨h.bl.trans (hb.mono h.bl.size), fun v e => (h.s1 v e).below hb, fun v e => (h.s2 v e).below hb, fun v e => by
    obtain ⟨b, h1, h2⟩ := h.row v e
    exact ⟨b, h1, h2.turn (Turn.of_below F hb)⟩⟩
/-- a new closure is a step -/
theorem stp_new {i : Int} {t : ByteArray} (hF : ∀ k, F k → k < w.heap.size) (h0 : w'.heap[w.heap.size]? = some (.cells #[.pointer (some ⟨jn, 0, none⟩)] 23 (0, 0))) (h1 : w'.heap[w.heap.size + 1]? = some (.cells #[.int .i64 i] 3 (0, 0))) (h2 : w'.heap[w.heap.size + 2]? = some (.cells #[.string t] 9 (0, 0))) :
    StpV w' F jn dn (wrV w.heap.size (w.heap.size + 1) (w.heap.size + 2)) (.wr i t) :=
  ⟨_, _, _, rfl, ⟨fun q => by have := hF _ q; omega, h0⟩, ⟨fun q => by have := hF _ q; omega, h1⟩, fun q => by have := hF _ q; omega, h2⟩
theorem StpC.one {v : Value} (h : StpC W F jn dn x1 x2 l none a2 c w) (hb : Below w.heap.size w w') (hv : StpV w' F jn dn v x1) : StpC W F jn dn x1 x2 l (some v) a2 c w' := by
  have h9 := h.on hb
  exact ⟨h9.bl, (fun v e => by cases e; exact hv), h9.s2, h9.row⟩
theorem StpC.two {v : Value} (h : StpC W F jn dn x1 x2 l a1 none c w) (hb : Below w.heap.size w w') (hv : StpV w' F jn dn v x2) : StpC W F jn dn x1 x2 l a1 (some v) c w' := by
  have h9 := h.on hb
  exact ⟨h9.bl, h9.s1, (fun v e => by cases e; exact hv), h9.row⟩
theorem stpL_new {C : Array Value} {T : TypeId} (hF : ∀ k, F k → k < w.heap.size) (hC : ∀ (k : Nat) (x : Stp), l[k]? = some x → ∃ v : Value, C[k]? = some v ∧ StpV w F jn dn v x) : StpL (w.alloc (.cells C T)) F jn dn w.heap.size 0 l := by
  refine ⟨fun q => by have := hF _ q; omega, by simp, fun k x hx => ?_⟩
  obtain ⟨v, h1, h2⟩ := hC k x hx
  refine ⟨v, ?_, h2.below (alloc_below w _)⟩
  rw [cell_of_row _ _ _ _ _ _ (alloc_new w (.cells C T)), Nat.zero_add]
  exact h1
theorem StpC.built {C : Array Value} {T : TypeId} (h : StpC W F jn dn x1 x2 l a1 a2 none w) (hF : ∀ k, F k → k < W.heap.size) (hC : ∀ (k : Nat) (x : Stp), l[k]? = some x → ∃ v : Value, C[k]? = some v ∧ StpV w F jn dn v x) : StpC W F jn dn x1 x2 l a1 a2 (some (.slice (some ⟨w.heap.size, 0, none⟩) l.length l.length)) (w.alloc (.cells C T)) := by
  have hb := alloc_below w (.cells C T)
  have h9 := h.on hb
  exact ⟨h9.bl, h9.s1, h9.s2, fun v e => by cases e; exact ⟨_, rfl, stpL_new (fun k q => Nat.lt_of_lt_of_le (hF k q) h.bl.size) hC⟩⟩
theorem StpQ.start (h : JHd W jn spv dn vb vc s br d) : StpQ W jn spv dn vb vc s br d x1 x2 l none none none none W.drew := StpC.start h.lt
/-- what is none of the journal's own stands -/
theorem StpQ.blk {b : Nat} {o : Obj} (h : StpQ W jn spv dn vb vc s br d x1 x2 l a1 a2 c e w) (hb : ¬ FJ jn dn vb vc b) (ho : W.heap[b]? = some o) : w.heap[b]? = some o := by
  cases e with
  | none => exact ((StpC.bl h).block _ (lt_of_block ho)).trans ho
  | some e =>
    obtain ⟨vc', h1, h2⟩ := h
    exact (h2.block _ (lt_of_block ho) hb).trans ho
theorem StpQ.cell {b o : Nat} {v : Value} (h : StpQ W jn spv dn vb vc s br d x1 x2 l a1 a2 c e w) (hb : ¬ FJ jn dn vb vc b) (hl : b < W.heap.size) (ho : W.cell? ⟨b, o, none⟩ = some v) : w.cell? ⟨b, o, none⟩ = some v := by
  have h2 : w.heap[b]? = W.heap[b]? := by
    have e2 := Array.getElem?_eq_getElem hl
    rw [e2]; exact h.blk hb e2
  exact (World.cell?_of_block h2).trans ho
theorem StpQ.dsk (hJ : JHd W jn spv dn vb vc s br d) (h : StpQ W jn spv dn vb vc s br d x1 x2 l a1 a2 c e w) : w.cell? ⟨jn, 1, none⟩ = some (.pointer (some ⟨dn, 0, none⟩)) ∧ w.cell? ⟨jn, 0, none⟩ = some spv := by
  have key : ∀ {vc' : Value} {br' : Bool} {d' : DS}, JHd w jn spv dn vb vc' s br' d' → w.cell? ⟨jn, 1, none⟩ = some (.pointer (some ⟨dn, 0, none⟩)) ∧ w.cell? ⟨jn, 0, none⟩ = some spv := fun h =>
    ⟨(blkJ h.blk).1.2.1, (blkJ h.blk).1.1⟩
  cases e with
  | none => exact key (hJ.below (StpC.bl h))
  | some e =>
    obtain ⟨vc', h1, h2⟩ := h
    exact key h1
theorem StpQ.not (h : StpQ W jn spv dn vb vc s br d x1 x2 l a1 a2 c none w) : StpC W (FJ jn dn vb vc) jn dn x1 x2 l a1 a2 c w := h
theorem StpQ.done {v : Value} (h : StpQ W jn spv dn vb vc s br d x1 x2 l a1 a2 c (some v) w) : StpP W jn spv dn vb vc s br d l w := h
theorem StpQ.jhd (hJ : JHd W jn spv dn vb vc s br d) (h : StpQ W jn spv dn vb vc s br d x1 x2 l a1 a2 c e w) : W.heap.size ≤ w.heap.size ∧ ∃ vc' br' d', JHd w jn spv dn vb vc' s br' d' := by
  cases e with
  | none => exact ⟨(StpC.bl h).size, _, _, _, hJ.below (StpC.bl h)⟩
  | some e =>
    obtain ⟨vc', h1, h2⟩ := h
    exact ⟨h2.size, _, _, _, h1⟩
theorem StpQ.on (h : StpQ W jn spv dn vb vc s br d x1 x2 l a1 a2 c e w) (hb : Below w.heap.size w w') : StpQ W jn spv dn vb vc s br d x1 x2 l a1 a2 c e w' := by
  cases e with
  | none => exact StpC.on h hb
  | some e =>
    obtain ⟨vc', h1, h2⟩ := h
    exact ⟨vc', h1.below hb, h2.trans (Turn.of_below _ hb)⟩
theorem StpQ.one {v : Value} (h : StpQ W jn spv dn vb vc s br d x1 x2 l none a2 c e w) (hb : Below w.heap.size w w') (hv : StpV w' (FJ jn dn vb vc) jn dn v x1) : StpQ W jn spv dn vb vc s br d x1 x2 l (some v) a2 c e w' := by
  have h9 := h.on hb
  cases e with
  | none => exact StpC.one h hb hv
  | some e => exact h9
theorem StpQ.two {v : Value} (h : StpQ W jn spv dn vb vc s br d x1 x2 l a1 none c e w) (hb : Below w.heap.size w w') (hv : StpV w' (FJ jn dn vb vc) jn dn v x2) : StpQ W jn spv dn vb vc s br d x1 x2 l a1 (some v) c e w' := by
  have h9 := h.on hb
  cases e with
  | none => exact StpC.two h hb hv
  | some e => exact h9
theorem StpQ.built {C : Array Value} {T : TypeId} (hJ : JHd W jn spv dn vb vc s br d) (h : StpQ W jn spv dn vb vc s br d x1 x2 l a1 a2 none e w) (hC : StpC W (FJ jn dn vb vc) jn dn x1 x2 l a1 a2 none w → ∀ (k : Nat) (x : Stp), l[k]? = some x → ∃ v : Value, C[k]? = some v ∧ StpV w (FJ jn dn vb vc) jn dn v x) :
    StpQ W jn spv dn vb vc s br d x1 x2 l a1 a2 (some (.slice (some ⟨w.heap.size, 0, none⟩) l.length l.length)) e (w.alloc (.cells C T)) := by
  cases e with
  | none => exact StpC.built h hJ.lt (hC h)
  | some e =>
    obtain ⟨vc', h1, h2⟩ := h
    have hb := alloc_below w (.cells C T)
    exact ⟨vc', h1.below hb, h2.trans (Turn.of_below _ hb)⟩
theorem StpQ.wr {i : Int} {t : ByteArray} (hJ : JHd W jn spv dn vb vc s br d) (h : StpQ W jn spv dn vb vc s br d x1 x2 l a1 a2 c e w) (h0 : w'.heap[w.heap.size]? = some (.cells #[.pointer (some ⟨jn, 0, none⟩)] 23 (0, 0))) (h1 : w'.heap[w.heap.size + 1]? = some (.cells #[.int .i64 i] 3 (0, 0))) (h2 : w'.heap[w.heap.size + 2]? = some (.cells #[.string t] 9 (0, 0))) :
    StpV w' (FJ jn dn vb vc) jn dn (wrV w.heap.size (w.heap.size + 1) (w.heap.size + 2)) (.wr i t) :=
  stp_new (fun k q => Nat.lt_of_lt_of_le (hJ.lt k q) (h.jhd hJ).1) h0 h1 h2
theorem StpQ.steps {v : Value} (hJ : JHd W jn spv dn vb vc s br d) (h : StpQ W jn spv dn vb vc s br d x1 x2 l a1 a2 (some v) none w) (hl : l.length ≤ 1000) : Calls Tryz.prog 33 #[.pointer (some ⟨jn, 0, none⟩), v] w fun en w' => en = .returned (.int .i64 (stepsE d l)) ∧ StpP W jn spv dn vb vc s br d l w' := by
  obtain ⟨b, rfl, hr⟩ := (StpQ.not h).row v rfl
  refine (jsteps_any l b 0 l.length w (hJ.below (StpC.bl h)) hr hl (Nat.le_refl _)).mono ?_
  rintro en w' ⟨rfl, vc', h1, h2⟩
  exact ⟨rfl, vc', h1, (Turn.of_below _ (StpC.bl h)).trans h2⟩
end
end Go.Proofs.YteppfjgglelpbaaGreat
