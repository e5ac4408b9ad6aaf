/- Texts that the claim rests on, part 10: ProofUnlike, MerkleRHalf, MovedFork, MerkleRPath. -/
import Derived.Test.YtelmcoedmkhkjaaM9
/- Two unlike texts with one sum, where a leaf stands proved at a place at which there is another one: proof.unlike. -/
namespace Go.Proofs.Ytelmcoedmkhkjaa
open Go.RowKit Ks
set_option linter.unusedVariables false
theorem eg_hashes : ∀ args w, (callFunc 28 args).run Try.prog w = .ok (.enter 28 args) w := fun _ _ => rfl
theorem eg_clash : ∀ args w, (callFunc 58 args).run Try.prog w = .ok (.enter 58 args) w := fun _ _ => rfl
theorem drewn_under (w : World) (n : Nat) : Below w.heap.size w (w.drewN n) := ⟨rfl, rfl, rfl, Nat.le_refl _, fun _ _ => rfl⟩
theorem drewn_on {w w1 : World} {n : Nat} (h : Below w.heap.size w w1) : Below w.heap.size w (w1.drewN n) := h.trans ((drewn_under w1 n).mono h.size)
theorem unlike_ahead {a b : ByteArray} (h : a ≠ b) (hs : shaS (0 :: a.data.toList) = shaS (0 :: b.data.toList)) (ha : a.size ≤ 36) (hb : b.size ≤ 36) : Unlike (ByteArray.mk #[0] ++ a) (ByteArray.mk #[0] ++ b) := by
  have e1 : ∀ a : ByteArray, (ByteArray.mk #[0] ++ a).data.toList = 0 :: a.data.toList := fun a => by simp
  refine ⟨fun e => h ?_, by rw [e1, e1]; exact hs, by rw [ByteArray.size_append]; show 1 + a.size ≤ 1000; omega, by rw [ByteArray.size_append]; show 1 + b.size ≤ 1000; omega⟩
  have e2 := congrArg (fun s : ByteArray => s.data.toList) e
  simp only [e1] at e2
  rcases a with ⟨⟨a⟩⟩
  rcases b with ⟨⟨b⟩⟩
  have e3 : a = b := (List.cons.inj e2).2
  rw [e3]
set_option maxRecDepth 100000 in
set_option maxHeartbeats 4000000 in
theorem unlike_out (lv : Value) (l : List LeafT) (i : Int) (x : LeafT) (pv : Value) (ps : List ByteArray) (w : World) (hl : Rd leafE w lv l) (hp : Rd strE w pv ps) (hlen : l.length ≤ 1000000) (hpn : ps.length ≤ 100000000) (hi : i < 0 ∨ (l.length : Int) ≤ i) :
    Calls Try.prog 40 #[lv, .int .i64 i, leafV x, pv] w fun e w' => clashN e ∧ Below w.heap.size w w' := by
  refine calls_by fun R HR => ?_
  have HD := Lib.hid (And.intro hl hp)
  obtain ⟨a, cap, rfl, -⟩ := hl.shape
  obtain ⟨pa, pc, rfl, -⟩ := hp.shape
  obtain ⟨n, s⟩ := x
  rcases (by omega : i < 0 ∨ (¬ i < 0 ∧ (l.length : Int) ≤ i)) with h1 | ⟨h1, h2⟩
  · clear hl hp hi
    have H1 := Lib.hid (And.intro (Below.refl w.heap.size w) (And.intro (HD.out.1) (HD.out.2)))
    obtain ⟨W1, hW1⟩ : ∃ W1, w.alloc (.cells #[.int .i64 n, .string s] 25) = W1 := ⟨_, rfl⟩
    have hbW1 : Below w.heap.size w W1 := by rw [← hW1]; exact alloc_below w _
    have kW1 : W1.heap[w.heap.size]? = some (.cells #[.int .i64 n, .string s] 25 (0, 0)) := by rw [← hW1]; exact alloc_new w _
    have H2 := Lib.hid (And.intro (H1.out.1.trans (hbW1.mono H1.out.1.size)) (And.intro (H1.out.2.1.below hbW1) (And.intro (H1.out.2.2.below hbW1) (kW1))))
    clear hbW1 kW1
    obtain ⟨z0, z1, fzx0, fzx1⟩ := blk2 H2.out.2.2.2
    go_enter Try.func40, Try.ntmps40
    go_wp2_with fail
    go_quiet (fail)
    go_wp2
    go_ret3
    exact HR.out _ _ ⟨rfl, (drewn_on H2.out.1)⟩
  · clear hl hp hi
    have H1 := Lib.hid (And.intro (Below.refl w.heap.size w) (And.intro (HD.out.1) (HD.out.2)))
    obtain ⟨W1, hW1⟩ : ∃ W1, w.alloc (.cells #[.int .i64 n, .string s] 25) = W1 := ⟨_, rfl⟩
    have hbW1 : Below w.heap.size w W1 := by rw [← hW1]; exact alloc_below w _
    have kW1 : W1.heap[w.heap.size]? = some (.cells #[.int .i64 n, .string s] 25 (0, 0)) := by rw [← hW1]; exact alloc_new w _
    have H2 := Lib.hid (And.intro (H1.out.1.trans (hbW1.mono H1.out.1.size)) (And.intro (H1.out.2.1.below hbW1) (And.intro (H1.out.2.2.below hbW1) (kW1))))
    clear hbW1 kW1
    obtain ⟨z0, z1, fzx0, fzx1⟩ := blk2 H2.out.2.2.2
    go_enter Try.func40, Try.ntmps40
    go_wp2_with fail
    go_quiet (fail)
    go_wp2
    go_ret3
    exact HR.out _ _ ⟨rfl, (drewn_on H2.out.1)⟩
set_option maxRecDepth 100000 in
set_option maxHeartbeats 4000000 in
theorem unlike_same (lv : Value) (l : List LeafT) (j : Nat) (x : LeafT) (pv : Value) (ps : List ByteArray) (w : World) (hl : Rd leafE w lv l) (hp : Rd strE w pv ps) (hlen : l.length ≤ 1000000) (hpn : ps.length ≤ 100000000) (hj : j < l.length) (hy : l[j]? = some x) :
    Calls Try.prog 40 #[lv, .int .i64 (j : Nat), leafV x, pv] w fun e w' => clashN e ∧ Below w.heap.size w w' := by
  refine calls_by fun R HR => ?_
  have HD := Lib.hid (And.intro hl hp)
  obtain ⟨a, cap, rfl, -⟩ := hl.shape
  obtain ⟨pa, pc, rfl, -⟩ := hp.shape
  obtain ⟨n, s⟩ := x
  have h1 : ¬ (j : Int) < 0 := by omega
  have h2 : ¬ (l.length : Int) ≤ (j : Int) := by omega
  have h2' : (j : Int) < (l.length : Int) := by omega
  obtain ⟨b, o, rfl, hb0, dd⟩ := hl.at j _ hy
  have HY := Lib.hid (fun (w1 : World) (h : Below w.heap.size w w1) => And.intro ((h.cell (p := ⟨b, o + j * 2, none⟩) hb0).trans (dd 0 _ rfl)) ((h.cell (p := ⟨b, o + j * 2 + 1, none⟩) hb0).trans (dd 1 _ rfl)))
  clear dd hb0
  have H1 := Lib.hid (And.intro (Below.refl w.heap.size w) (And.intro (HD.out.1) (HD.out.2)))
  obtain ⟨W1, hW1⟩ : ∃ W1, w.alloc (.cells #[.int .i64 n, .string s] 25) = W1 := ⟨_, rfl⟩
  have hbW1 : Below w.heap.size w W1 := by rw [← hW1]; exact alloc_below w _
  have kW1 : W1.heap[w.heap.size]? = some (.cells #[.int .i64 n, .string s] 25 (0, 0)) := by rw [← hW1]; exact alloc_new w _
  have H2 := Lib.hid (And.intro (H1.out.1.trans (hbW1.mono H1.out.1.size)) (And.intro (H1.out.2.1.below hbW1) (And.intro (H1.out.2.2.below hbW1) (kW1))))
  clear hbW1 kW1
  obtain ⟨z0, z1, fzx0, fzx1⟩ := blk2 H2.out.2.2.2
  obtain ⟨d0, d1⟩ := HY.out _ H2.out.1
  change W1.cell? ⟨b, o + j * 2, none⟩ = some (.int .i64 n) at d0
  change W1.cell? ⟨b, o + j * 2 + 1, none⟩ = some (.string s) at d1
  clear hl hp hy
  go_enter Try.func40, Try.ntmps40
  go_wp2_with fail
  go_quiet (fail)
  go_wp2
  go_ret3
  exact HR.out _ _ ⟨rfl, (drewn_on H2.out.1)⟩
theorem leaf_ne {m n : Int} {r s : ByteArray} (h : ((m, r) : LeafT) ≠ (n, s)) : (¬ m = n) ∨ (m = n ∧ ¬ r = s) := by
  by_cases h1 : m = n
  · right
    exact ⟨h1, fun h2 => h (by rw [h1, h2])⟩
  · exact .inl h1
set_option maxRecDepth 100000 in
set_option maxHeartbeats 4000000 in
theorem unlike_said (lv : Value) (l : List LeafT) (j : Nat) (x : LeafT) (pv : Value) (ps : List ByteArray) (w : World) (hl : Rd leafE w lv l) (hp : Rd strE w pv ps) (hlen : l.length ≤ 1000000) (hpn : ps.length ≤ 100000000) (hj : j < l.length) (y : LeafT) (hy : l[j]? = some y) (hyx : y ≠ x) (hh : hashS y = hashS x) (hm : mayLeaf y) :
    Calls Try.prog 40 #[lv, .int .i64 (j : Nat), leafV x, pv] w fun e w' => clashY e ∧ Below w.heap.size w w' := by
  refine calls_by fun R HR => ?_
  have HD := Lib.hid (And.intro hl hp)
  obtain ⟨a, cap, rfl, -⟩ := hl.shape
  obtain ⟨pa, pc, rfl, -⟩ := hp.shape
  obtain ⟨n, s⟩ := x
  have h1 : ¬ (j : Int) < 0 := by omega
  have h2 : ¬ (l.length : Int) ≤ (j : Int) := by omega
  have h2' : (j : Int) < (l.length : Int) := by omega
  obtain ⟨b, o, rfl, hb0, dd⟩ := hl.at j _ hy
  obtain ⟨m, r⟩ := y
  have HY := Lib.hid (fun (w1 : World) (h : Below w.heap.size w w1) => And.intro ((h.cell (p := ⟨b, o + j * 2, none⟩) hb0).trans (dd 0 _ rfl)) ((h.cell (p := ⟨b, o + j * 2 + 1, none⟩) hb0).trans (dd 1 _ rfl)))
  clear dd hb0
  have HHy := Lib.hid (fun w => hash_any (m, r) w)
  have HHx := Lib.hid (fun w => hash_any (n, s) w)
  rw [hh] at HHy
  have HSy := Lib.hid (fun w => said_any (m, r) w)
  have HSx := Lib.hid (fun w => said_any (n, s) w)
  have hz1 := said_le (m, r)
  have hz2 := said_le (n, s)
  have hsz := said_size hm
  have hun : saidS (m, r) ≠ saidS (n, s) := fun e => by
    by_cases h : mayLeaf (n, s)
    · exact hyx (said_inj hm h e)
    · rw [said_no h] at e
      rw [e] at hsz
      exact absurd hsz (by decide)
  have hs9 : shaS (0 :: (saidS (m, r)).data.toList) = shaS (0 :: (saidS (n, s)).data.toList) := hh
  have HU := Lib.hid (show Unlike (ByteArray.mk #[0] ++ saidS (m, r)) (ByteArray.mk #[0] ++ saidS (n, s)) from unlike_ahead hun hs9 hz1 hz2)
  generalize hashS (n, s) = hx at *
  generalize saidS (m, r) = sy at *
  generalize saidS (n, s) = sx at *
  have hy1 : ¬ 9223372036854775807 < 1 + sy.size := by omega
  have hx1 : ¬ 9223372036854775807 < 1 + sx.size := by omega
  clear hh hm hsz hun hs9 hz1 hz2
  rcases leaf_ne hyx with hne | ⟨rfl, hne⟩
  · have hq := (show (m == n) = false by simpa using hne)
    have H1 := Lib.hid (And.intro (Below.refl w.heap.size w) (And.intro (HD.out.1) (HD.out.2)))
    obtain ⟨W1, hW1⟩ : ∃ W1, w.alloc (.cells #[.int .i64 n, .string s] 25) = W1 := ⟨_, rfl⟩
    have hbW1 : Below w.heap.size w W1 := by rw [← hW1]; exact alloc_below w _
    have kW1 : W1.heap[w.heap.size]? = some (.cells #[.int .i64 n, .string s] 25 (0, 0)) := by rw [← hW1]; exact alloc_new w _
    have H2 := Lib.hid (And.intro (H1.out.1.trans (hbW1.mono H1.out.1.size)) (And.intro (H1.out.2.1.below hbW1) (And.intro (H1.out.2.2.below hbW1) (kW1))))
    clear hbW1 kW1
    obtain ⟨z0, z1, fzx0, fzx1⟩ := blk2 H2.out.2.2.2
    obtain ⟨d0, d1⟩ := HY.out _ H2.out.1
    change W1.cell? ⟨b, o + j * 2, none⟩ = some (.int .i64 m) at d0
    change W1.cell? ⟨b, o + j * 2 + 1, none⟩ = some (.string r) at d1
    clear hl hp hy hyx
    go_enter Try.func40, Try.ntmps40
    go_wp2_with fail
    go_quiet (fail)
    have hbd := drewn_under W1 nq
    have H3 := Lib.hid (And.intro (H2.out.1.trans (hbd.mono H2.out.1.size)) (And.intro (H2.out.2.1.below hbd) (And.intro (H2.out.2.2.1.below hbd) (blk_on hbd H2.out.2.2.2))))
    generalize W1.drewN nq = w5 at *
    clear hbd z0 z1 d0 d1 hW1
    obtain ⟨z0, z1, fzx0, fzx1⟩ := blk2 H3.out.2.2.2
    obtain ⟨d0, d1⟩ := HY.out _ H3.out.1
    change w5.cell? ⟨b, o + j * 2, none⟩ = some (.int .i64 m) at d0
    change w5.cell? ⟨b, o + j * 2 + 1, none⟩ = some (.string r) at d1
    have r0 := fun p => after_cell z0 p
    have r1 := fun p => after_cell z1 p
    have e0 := fun p => after_cell d0 p
    have e1 := fun p => after_cell d1 p
    have cS := Lib.hid (fun p => calls_after (p := p) (HHy.out (After w5 p)))
    have cT := Lib.hid (fun p => calls_after (p := p) (HHx.out (After w5 p)))
    go_wp2_with fail
    refine wp_region_after (by kernel_rfl) (by kernel_rfl) ?_
    repeat (go_big_quiet_step (fail))
    go_big_quiet_step (exact cS.out _)
    repeat (go_big_quiet_step (fail))
    go_big_quiet_step (exact cT.out _)
    repeat (go_big_quiet_step (fail))
    refine wpQuiet_nil ?_
    rintro w6 ⟨q, rfl⟩
    have hb5 := after_below w5 q
    have H4 := Lib.hid (And.intro (H3.out.1.trans (hb5.mono H3.out.1.size)) (And.intro (H3.out.2.1.below hb5) (And.intro (H3.out.2.2.1.below hb5) (blk_on hb5 H3.out.2.2.2))))
    generalize After w5 q = w6 at *
    clear hb5 cS cT r0 r1 e0 e1 z0 z1 d0 d1
    obtain ⟨z0, z1, fzx0, fzx1⟩ := blk2 H4.out.2.2.2
    obtain ⟨d0, d1⟩ := HY.out _ H4.out.1
    change w6.cell? ⟨b, o + j * 2, none⟩ = some (.int .i64 m) at d0
    change w6.cell? ⟨b, o + j * 2 + 1, none⟩ = some (.string r) at d1
    have r0 := fun p => after_cell z0 p
    have r1 := fun p => after_cell z1 p
    have e0 := fun p => after_cell d0 p
    have e1 := fun p => after_cell d1 p
    have cS := Lib.hid (fun p => calls_after (p := p) (HSy.out (After w6 p)))
    have cT := Lib.hid (fun p => calls_after (p := p) (HSx.out (After w6 p)))
    go_wp2_with fail
    refine wp_region_after (by kernel_rfl) (by kernel_rfl) ?_
    repeat (go_big_quiet_step (fail))
    go_big_quiet_step (exact cS.out _)
    repeat (go_big_quiet_step (fail))
    go_big_quiet_step (exact cT.out _)
    repeat (go_big_quiet_step (fail))
    refine wpQuiet_nil ?_
    rintro w7 ⟨q, rfl⟩
    have hb5 := after_below w6 q
    have H5 := Lib.hid (And.intro (H4.out.1.trans (hb5.mono H4.out.1.size)) (And.intro (H4.out.2.1.below hb5) (And.intro (H4.out.2.2.1.below hb5) (blk_on hb5 H4.out.2.2.2))))
    generalize After w6 q = w7 at *
    clear hb5 cS cT r0 r1 e0 e1 z0 z1 d0 d1
    go_wp2
    go_ret3
    exact HR.out _ _ ⟨⟨_, _, rfl, HU.out⟩, H5.out.1⟩
  · have hq := text_ne hne
    have H1 := Lib.hid (And.intro (Below.refl w.heap.size w) (And.intro (HD.out.1) (HD.out.2)))
    obtain ⟨W1, hW1⟩ : ∃ W1, w.alloc (.cells #[.int .i64 m, .string s] 25) = W1 := ⟨_, rfl⟩
    have hbW1 : Below w.heap.size w W1 := by rw [← hW1]; exact alloc_below w _
    have kW1 : W1.heap[w.heap.size]? = some (.cells #[.int .i64 m, .string s] 25 (0, 0)) := by rw [← hW1]; exact alloc_new w _
    have H2 := Lib.hid (And.intro (H1.out.1.trans (hbW1.mono H1.out.1.size)) (And.intro (H1.out.2.1.below hbW1) (And.intro (H1.out.2.2.below hbW1) (kW1))))
    clear hbW1 kW1
    obtain ⟨z0, z1, fzx0, fzx1⟩ := blk2 H2.out.2.2.2
    obtain ⟨d0, d1⟩ := HY.out _ H2.out.1
    change W1.cell? ⟨b, o + j * 2, none⟩ = some (.int .i64 m) at d0
    change W1.cell? ⟨b, o + j * 2 + 1, none⟩ = some (.string r) at d1
    clear hl hp hy hyx
    go_enter Try.func40, Try.ntmps40
    go_wp2_with fail
    go_quiet (fail)
    have hbd := drewn_under W1 nq
    have H3 := Lib.hid (And.intro (H2.out.1.trans (hbd.mono H2.out.1.size)) (And.intro (H2.out.2.1.below hbd) (And.intro (H2.out.2.2.1.below hbd) (blk_on hbd H2.out.2.2.2))))
    generalize W1.drewN nq = w5 at *
    clear hbd z0 z1 d0 d1 hW1
    obtain ⟨z0, z1, fzx0, fzx1⟩ := blk2 H3.out.2.2.2
    obtain ⟨d0, d1⟩ := HY.out _ H3.out.1
    change w5.cell? ⟨b, o + j * 2, none⟩ = some (.int .i64 m) at d0
    change w5.cell? ⟨b, o + j * 2 + 1, none⟩ = some (.string r) at d1
    have r0 := fun p => after_cell z0 p
    have r1 := fun p => after_cell z1 p
    have e0 := fun p => after_cell d0 p
    have e1 := fun p => after_cell d1 p
    have cS := Lib.hid (fun p => calls_after (p := p) (HHy.out (After w5 p)))
    have cT := Lib.hid (fun p => calls_after (p := p) (HHx.out (After w5 p)))
    go_wp2_with fail
    refine wp_region_after (by kernel_rfl) (by kernel_rfl) ?_
    repeat (go_big_quiet_step (fail))
    go_big_quiet_step (exact cS.out _)
    repeat (go_big_quiet_step (fail))
    go_big_quiet_step (exact cT.out _)
    repeat (go_big_quiet_step (fail))
    refine wpQuiet_nil ?_
    rintro w6 ⟨q, rfl⟩
    have hb5 := after_below w5 q
    have H4 := Lib.hid (And.intro (H3.out.1.trans (hb5.mono H3.out.1.size)) (And.intro (H3.out.2.1.below hb5) (And.intro (H3.out.2.2.1.below hb5) (blk_on hb5 H3.out.2.2.2))))
    generalize After w5 q = w6 at *
    clear hb5 cS cT r0 r1 e0 e1 z0 z1 d0 d1
    obtain ⟨z0, z1, fzx0, fzx1⟩ := blk2 H4.out.2.2.2
    obtain ⟨d0, d1⟩ := HY.out _ H4.out.1
    change w6.cell? ⟨b, o + j * 2, none⟩ = some (.int .i64 m) at d0
    change w6.cell? ⟨b, o + j * 2 + 1, none⟩ = some (.string r) at d1
    have r0 := fun p => after_cell z0 p
    have r1 := fun p => after_cell z1 p
    have e0 := fun p => after_cell d0 p
    have e1 := fun p => after_cell d1 p
    have cS := Lib.hid (fun p => calls_after (p := p) (HSy.out (After w6 p)))
    have cT := Lib.hid (fun p => calls_after (p := p) (HSx.out (After w6 p)))
    go_wp2_with fail
    refine wp_region_after (by kernel_rfl) (by kernel_rfl) ?_
    repeat (go_big_quiet_step (fail))
    go_big_quiet_step (exact cS.out _)
    repeat (go_big_quiet_step (fail))
    go_big_quiet_step (exact cT.out _)
    repeat (go_big_quiet_step (fail))
    refine wpQuiet_nil ?_
    rintro w7 ⟨q, rfl⟩
    have hb5 := after_below w6 q
    have H5 := Lib.hid (And.intro (H4.out.1.trans (hb5.mono H4.out.1.size)) (And.intro (H4.out.2.1.below hb5) (And.intro (H4.out.2.2.1.below hb5) (blk_on hb5 H4.out.2.2.2))))
    generalize After w6 q = w7 at *
    clear hb5 cS cT r0 r1 e0 e1 z0 z1 d0 d1
    go_wp2
    go_ret3
    exact HR.out _ _ ⟨⟨_, _, rfl, HU.out⟩, H5.out.1⟩
set_option maxRecDepth 100000 in
set_option maxHeartbeats 4000000 in
theorem unlike_tree (lv : Value) (l : List LeafT) (j : Nat) (x : LeafT) (pv : Value) (ps : List ByteArray) (w : World) (hl : Rd leafE w lv l) (hp : Rd strE w pv ps) (hlen : l.length ≤ 1000000) (hpn : ps.length ≤ 100000000) (hj : j < l.length) (y : LeafT) (hy : l[j]? = some y) (hyx : y ≠ x) (hh : hashS y ≠ hashS x) (hc : isV (rootL (hashL l)) l.length j (hashS x) ps = true) :
    Calls Try.prog 40 #[lv, .int .i64 (j : Nat), leafV x, pv] w fun e w' => clashY e ∧ Below w.heap.size w w' := by
  refine calls_by fun R HR => ?_
  have HD := Lib.hid (And.intro hl hp)
  obtain ⟨a, cap, rfl, -⟩ := hl.shape
  obtain ⟨pa, pc, rfl, -⟩ := hp.shape
  obtain ⟨n, s⟩ := x
  have h1 : ¬ (j : Int) < 0 := by omega
  have h2 : ¬ (l.length : Int) ≤ (j : Int) := by omega
  have h2' : (j : Int) < (l.length : Int) := by omega
  obtain ⟨b, o, rfl, hb0, dd⟩ := hl.at j _ hy
  obtain ⟨m, r⟩ := y
  have HY := Lib.hid (fun (w1 : World) (h : Below w.heap.size w w1) => And.intro ((h.cell (p := ⟨b, o + j * 2, none⟩) hb0).trans (dd 0 _ rfl)) ((h.cell (p := ⟨b, o + j * 2 + 1, none⟩) hb0).trans (dd 1 _ rfl)))
  clear dd hb0
  have HHy := Lib.hid (fun w => hash_any (m, r) w)
  have HHx := Lib.hid (fun w => hash_any (n, s) w)
  have HHs := Lib.hid (fun w h => hashes_any (.slice (some ⟨b, o, none⟩) l.length cap) l w h hlen)
  have hcl : ∀ v w, Rd strE w v (hashL l) → Rd strE w (.slice pa ps.length pc) ps → l.length ≤ 1048576 → Calls Try.prog 58 #[v, .int .i64 (j : Nat), .string (hashS (n, s)), .slice pa ps.length pc] w fun e w' => clashY e ∧ Below w.heap.size w w' := fun v w h1 h2 h3 => by
    have h := clash_any v (hashL l) (j : Nat) (hashS (n, s)) _ ps w h1 h2 (by rw [hashL_length]; exact h3) hpn
    rw [hashL_length] at h
    refine h.mono fun e w' hq => ?_
    rw [if_pos ⟨hashL_whole l, by omega, by omega, by rw [Int.toNat_natCast, hashL, List.getElem?_map, hy]; exact fun e => hh (Option.some.inj e), hc⟩] at hq; exact hq
  have HC := Lib.hid (fun v w h1 h2 => hcl v w h1 h2 (by omega))
  have hnh := text_ne hh
  generalize hashS (m, r) = hY at *
  generalize hashS (n, s) = hX at *
  clear hh hc hcl
  rcases leaf_ne hyx with hne | ⟨rfl, hne⟩
  · have hq := (show (m == n) = false by simpa using hne)
    have H1 := Lib.hid (And.intro (Below.refl w.heap.size w) (And.intro (HD.out.1) (HD.out.2)))
    obtain ⟨W1, hW1⟩ : ∃ W1, w.alloc (.cells #[.int .i64 n, .string s] 25) = W1 := ⟨_, rfl⟩
    have hbW1 : Below w.heap.size w W1 := by rw [← hW1]; exact alloc_below w _
    have kW1 : W1.heap[w.heap.size]? = some (.cells #[.int .i64 n, .string s] 25 (0, 0)) := by rw [← hW1]; exact alloc_new w _
    have H2 := Lib.hid (And.intro (H1.out.1.trans (hbW1.mono H1.out.1.size)) (And.intro (H1.out.2.1.below hbW1) (And.intro (H1.out.2.2.below hbW1) (kW1))))
    clear hbW1 kW1
    obtain ⟨z0, z1, fzx0, fzx1⟩ := blk2 H2.out.2.2.2
    obtain ⟨d0, d1⟩ := HY.out _ H2.out.1
    change W1.cell? ⟨b, o + j * 2, none⟩ = some (.int .i64 m) at d0
    change W1.cell? ⟨b, o + j * 2 + 1, none⟩ = some (.string r) at d1
    clear hl hp hy hyx
    go_enter Try.func40, Try.ntmps40
    go_wp2_with fail
    go_quiet (fail)
    have hbd := drewn_under W1 nq
    have H3 := Lib.hid (And.intro (H2.out.1.trans (hbd.mono H2.out.1.size)) (And.intro (H2.out.2.1.below hbd) (And.intro (H2.out.2.2.1.below hbd) (blk_on hbd H2.out.2.2.2))))
    generalize W1.drewN nq = w5 at *
    clear hbd z0 z1 d0 d1 hW1
    obtain ⟨z0, z1, fzx0, fzx1⟩ := blk2 H3.out.2.2.2
    obtain ⟨d0, d1⟩ := HY.out _ H3.out.1
    change w5.cell? ⟨b, o + j * 2, none⟩ = some (.int .i64 m) at d0
    change w5.cell? ⟨b, o + j * 2 + 1, none⟩ = some (.string r) at d1
    have r0 := fun p => after_cell z0 p
    have r1 := fun p => after_cell z1 p
    have e0 := fun p => after_cell d0 p
    have e1 := fun p => after_cell d1 p
    have cS := Lib.hid (fun p => calls_after (p := p) (HHy.out (After w5 p)))
    have cT := Lib.hid (fun p => calls_after (p := p) (HHx.out (After w5 p)))
    go_wp2_with fail
    refine wp_region_after (by kernel_rfl) (by kernel_rfl) ?_
    repeat (go_big_quiet_step (fail))
    go_big_quiet_step (exact cS.out _)
    repeat (go_big_quiet_step (fail))
    go_big_quiet_step (exact cT.out _)
    repeat (go_big_quiet_step (fail))
    refine wpQuiet_nil ?_
    rintro w6 ⟨q, rfl⟩
    have hb5 := after_below w5 q
    have H4 := Lib.hid (And.intro (H3.out.1.trans (hb5.mono H3.out.1.size)) (And.intro (H3.out.2.1.below hb5) (And.intro (H3.out.2.2.1.below hb5) (blk_on hb5 H3.out.2.2.2))))
    generalize After w5 q = w6 at *
    clear hb5 cS cT r0 r1 e0 e1 z0 z1 d0 d1
    obtain ⟨z0, z1, fzx0, fzx1⟩ := blk2 H4.out.2.2.2
    have HWL := Lib.hid (And.intro H4.out.2.1 H4.out.2.2.1)
    go_wp2_with fail
    refine wp_region_mv (fun f v => Below w6.heap.size w6 v ∧ ∀ u, f 1 = some u → Rd strE v u (hashL l)) (by kernel_rfl) ⟨drew_below w6, fun u h => by cases h⟩ ?_
    obtain ⟨S, F, hF, hFC⟩ := moved_class (fun (f : Ks.Told) v => Below w6.heap.size w6 v ∧ ∀ u, f 1 = some u → Rd strE v u (hashL l))
    have k0 : ∀ s9, (F s9).cell? ⟨w.heap.size, 0, none⟩ = some (.int .i64 n) := fun s9 => ((hFC s9).choose_spec.1.cell (World.block_lt_of_cell? _ _ z0)).trans z0
    have k1 : ∀ s9, (F s9).cell? ⟨w.heap.size, 1, none⟩ = some (.string s) := fun s9 => ((hFC s9).choose_spec.1.cell (World.block_lt_of_cell? _ _ z1)).trans z1
    show wpAnyM _ _ _ _ _ 13 (Array.replicate 13 false) _ _
    refine mv_readN 0 (F := F) (fun f w _ h => hF f w h) (fun f w v h0 h => ⟨h.1, fun u e => h.2 u (by first | exact e | (rw [upd_ne _ _ (by decide)] at e; exact e))⟩) rfl (by kernel_rfl) (by kernel_rfl) (by kernel_rfl) (fun K hK => ?_)
    go_simp
    first | refine ⟨_, fun _ => rfl, hK _ _ ?_⟩ | refine hK _ _ ?_
    clear hK K
    refine mv_readN 2 (F := F) (fun f w _ h => hF f w h) (fun f w v h0 h => ⟨h.1, fun u e => h.2 u (by first | exact e | (rw [upd_ne _ _ (by decide)] at e; exact e))⟩) rfl (by kernel_rfl) (by kernel_rfl) (by kernel_rfl) (fun K hK => ?_)
    go_simp
    first | refine ⟨_, fun _ => rfl, hK _ _ ?_⟩ | refine hK _ _ ?_
    clear hK K
    refine mv_readN 3 (F := F) (fun f w _ h => hF f w h) (fun f w v h0 h => ⟨h.1, fun u e => h.2 u (by first | exact e | (rw [upd_ne _ _ (by decide)] at e; exact e))⟩) rfl (by kernel_rfl) (by kernel_rfl) (by kernel_rfl) (fun K hK => ?_)
    go_simp
    first | refine ⟨_, fun _ => rfl, hK _ _ ?_⟩ | refine hK _ _ ?_
    clear hK K
    refine mv_readN 5 (F := F) (fun f w _ h => hF f w h) (fun f w v h0 h => ⟨h.1, fun u e => h.2 u (by first | exact e | (rw [upd_ne _ _ (by decide)] at e; exact e))⟩) rfl (by kernel_rfl) (by kernel_rfl) (by kernel_rfl) (fun K hK => ?_)
    go_simp
    first | refine ⟨_, fun _ => rfl, hK _ _ ?_⟩ | refine hK _ _ ?_
    clear hK K
    refine mv_call 1 28 rfl (by kernel_rfl) rfl rfl eg_hashes (args := #[.slice (some ⟨b, o, none⟩) l.length cap]) rfl (fun v => ∃ a k c, v = .slice a k c) (fun g w2 ha h0 h => (HHs.out w2 (HWL.out.1.below h.1)).mono fun e w3 ⟨v', h1, h2, h3⟩ => by
        obtain ⟨a, c, e1, -⟩ := h2.shape
        exact ⟨v', h1, ⟨a, _, c, e1⟩, h.1.trans (h3.mono h.1.size), fun u e2 => by rw [upd_self] at e2; cases e2; exact h2.rd⟩) ?_
    rintro _ ⟨ha9, hk9, hc9, rfl⟩
    refine mv_call1 4 53 rfl (by kernel_rfl) (by kernel_rfl) (by kernel_rfl) rfl rfl eg_hash (args := #[.agg #[.int .i64 n, .string s]]) rfl (u := .string hX) (fun g w2 ha h0 h => (HHx.out w2).mono fun e w3 ⟨h1, h2⟩ => ⟨h1, h.1.trans (h2.mono h.1.size), fun u e2 => (h.2 u (by rw [upd_ne _ _ (by decide)] at e2; exact e2)).below h2⟩) ?_
    refine mv_call 6 58 rfl (by kernel_rfl) rfl rfl eg_clash (args := #[.slice ha9 hk9 hc9, .int .i64 (j : Nat), .string hX, .slice pa ps.length pc]) rfl (fun v => ∃ a b : ByteArray, v = .tuple #[.string a, .string b, .bool true] ∧ Unlike a b) (fun g w2 ha h0 h => by
        have e1 : g 1 = some (.slice ha9 hk9 hc9) := (agree_on 1 ha (by kernel_rfl)).trans rfl
        refine (HC.out _ w2 (h.2 _ e1) (HWL.out.2.below h.1)).mono fun e w3 ⟨h1, h2⟩ => ?_
        obtain ⟨a1, b1, e9, hu⟩ := h1
        exact ⟨_, e9, ⟨a1, b1, rfl, hu⟩, h.1.trans (h2.mono h.1.size), fun u e2 => (h.2 u (by rw [upd_ne _ _ (by decide)] at e2; exact e2)).below h2⟩) ?_
    rintro _ ⟨a1, b1, rfl, hu⟩
    refine mv_readN 7 (F := F) (fun f w _ h => hF f w h) (fun f w v h0 h => ⟨h.1, fun u e => h.2 u (by rw [upd_ne _ _ (by decide)] at e; exact e)⟩) rfl (by kernel_rfl) (by kernel_rfl) (by kernel_rfl) (fun K hK => ?_)
    go_simp
    first | refine ⟨_, fun _ => rfl, hK _ _ ?_⟩ | refine hK _ _ ?_
    clear hK K
    refine mv_readN 8 (F := F) (fun f w _ h => hF f w h) (fun f w v h0 h => ⟨h.1, fun u e => h.2 u (by rw [upd_ne _ _ (by decide)] at e; exact e)⟩) rfl (by kernel_rfl) (by kernel_rfl) (by kernel_rfl) (fun K hK => ?_)
    go_simp
    first | refine ⟨_, fun _ => rfl, hK _ _ ?_⟩ | refine hK _ _ ?_
    clear hK K
    refine mv_readN 9 (F := F) (fun f w _ h => hF f w h) (fun f w v h0 h => ⟨h.1, fun u e => h.2 u (by rw [upd_ne _ _ (by decide)] at e; exact e)⟩) rfl (by kernel_rfl) (by kernel_rfl) (by kernel_rfl) (fun K hK => ?_)
    go_simp
    first | refine ⟨_, fun _ => rfl, hK _ _ ?_⟩ | refine hK _ _ ?_
    clear hK K
    refine mv_readN 10 (F := F) (fun f w _ h => hF f w h) (fun f w v h0 h => ⟨h.1, fun u e => h.2 u (by rw [upd_ne _ _ (by decide)] at e; exact e)⟩) rfl (by kernel_rfl) (by kernel_rfl) (by kernel_rfl) (fun K hK => ?_)
    go_simp
    first | refine ⟨_, fun _ => rfl, hK _ _ ?_⟩ | refine hK _ _ ?_
    clear hK K
    refine mv_readN 11 (F := F) (fun f w _ h => hF f w h) (fun f w v h0 h => ⟨h.1, fun u e => h.2 u (by rw [upd_ne _ _ (by decide)] at e; exact e)⟩) rfl (by kernel_rfl) (by kernel_rfl) (by kernel_rfl) (fun K hK => ?_)
    go_simp
    first | refine ⟨_, fun _ => rfl, hK _ _ ?_⟩ | refine hK _ _ ?_
    clear hK K
    refine mv_readN 12 (F := F) (fun f w _ h => hF f w h) (fun f w v h0 h => ⟨h.1, fun u e => h.2 u (by rw [upd_ne _ _ (by decide)] at e; exact e)⟩) rfl (by kernel_rfl) (by kernel_rfl) (by kernel_rfl) (fun K hK => ?_)
    go_simp
    first | refine ⟨_, fun _ => rfl, hK _ _ ?_⟩ | refine hK _ _ ?_
    clear hK K
    refine mv_end (by kernel_rfl) ?_
    intro w7 hw7
    have hb7 := hw7.1
    have H5 := Lib.hid (And.intro (H4.out.1.trans (hb7.mono H4.out.1.size)) (And.intro (H4.out.2.1.below hb7) (And.intro (H4.out.2.2.1.below hb7) (blk_on hb7 H4.out.2.2.2))))
    clear hw7 hF hFC k0 k1 z0 z1 hb7
    go_wp2
    go_ret3
    exact HR.out _ _ ⟨⟨_, _, rfl, hu⟩, H5.out.1⟩
  · have hq := text_ne hne
    have H1 := Lib.hid (And.intro (Below.refl w.heap.size w) (And.intro (HD.out.1) (HD.out.2)))
    obtain ⟨W1, hW1⟩ : ∃ W1, w.alloc (.cells #[.int .i64 m, .string s] 25) = W1 := ⟨_, rfl⟩
    have hbW1 : Below w.heap.size w W1 := by rw [← hW1]; exact alloc_below w _
    have kW1 : W1.heap[w.heap.size]? = some (.cells #[.int .i64 m, .string s] 25 (0, 0)) := by rw [← hW1]; exact alloc_new w _
    have H2 := Lib.hid (And.intro (H1.out.1.trans (hbW1.mono H1.out.1.size)) (And.intro (H1.out.2.1.below hbW1) (And.intro (H1.out.2.2.below hbW1) (kW1))))
    clear hbW1 kW1
    obtain ⟨z0, z1, fzx0, fzx1⟩ := blk2 H2.out.2.2.2
    obtain ⟨d0, d1⟩ := HY.out _ H2.out.1
    change W1.cell? ⟨b, o + j * 2, none⟩ = some (.int .i64 m) at d0
    change W1.cell? ⟨b, o + j * 2 + 1, none⟩ = some (.string r) at d1
    clear hl hp hy hyx
    go_enter Try.func40, Try.ntmps40
    go_wp2_with fail
    go_quiet (fail)
    have hbd := drewn_under W1 nq
    have H3 := Lib.hid (And.intro (H2.out.1.trans (hbd.mono H2.out.1.size)) (And.intro (H2.out.2.1.below hbd) (And.intro (H2.out.2.2.1.below hbd) (blk_on hbd H2.out.2.2.2))))
    generalize W1.drewN nq = w5 at *
    clear hbd z0 z1 d0 d1 hW1
    obtain ⟨z0, z1, fzx0, fzx1⟩ := blk2 H3.out.2.2.2
    obtain ⟨d0, d1⟩ := HY.out _ H3.out.1
    change w5.cell? ⟨b, o + j * 2, none⟩ = some (.int .i64 m) at d0
    change w5.cell? ⟨b, o + j * 2 + 1, none⟩ = some (.string r) at d1
    have r0 := fun p => after_cell z0 p
    have r1 := fun p => after_cell z1 p
    have e0 := fun p => after_cell d0 p
    have e1 := fun p => after_cell d1 p
    have cS := Lib.hid (fun p => calls_after (p := p) (HHy.out (After w5 p)))
    have cT := Lib.hid (fun p => calls_after (p := p) (HHx.out (After w5 p)))
    go_wp2_with fail
    refine wp_region_after (by kernel_rfl) (by kernel_rfl) ?_
    repeat (go_big_quiet_step (fail))
    go_big_quiet_step (exact cS.out _)
    repeat (go_big_quiet_step (fail))
    go_big_quiet_step (exact cT.out _)
    repeat (go_big_quiet_step (fail))
    refine wpQuiet_nil ?_
    rintro w6 ⟨q, rfl⟩
    have hb5 := after_below w5 q
    have H4 := Lib.hid (And.intro (H3.out.1.trans (hb5.mono H3.out.1.size)) (And.intro (H3.out.2.1.below hb5) (And.intro (H3.out.2.2.1.below hb5) (blk_on hb5 H3.out.2.2.2))))
    generalize After w5 q = w6 at *
    clear hb5 cS cT r0 r1 e0 e1 z0 z1 d0 d1
    obtain ⟨z0, z1, fzx0, fzx1⟩ := blk2 H4.out.2.2.2
    have HWL := Lib.hid (And.intro H4.out.2.1 H4.out.2.2.1)
    go_wp2_with fail
    refine wp_region_mv (fun f v => Below w6.heap.size w6 v ∧ ∀ u, f 1 = some u → Rd strE v u (hashL l)) (by kernel_rfl) ⟨drew_below w6, fun u h => by cases h⟩ ?_
    obtain ⟨S, F, hF, hFC⟩ := moved_class (fun (f : Ks.Told) v => Below w6.heap.size w6 v ∧ ∀ u, f 1 = some u → Rd strE v u (hashL l))
    have k0 : ∀ s9, (F s9).cell? ⟨w.heap.size, 0, none⟩ = some (.int .i64 m) := fun s9 => ((hFC s9).choose_spec.1.cell (World.block_lt_of_cell? _ _ z0)).trans z0
    have k1 : ∀ s9, (F s9).cell? ⟨w.heap.size, 1, none⟩ = some (.string s) := fun s9 => ((hFC s9).choose_spec.1.cell (World.block_lt_of_cell? _ _ z1)).trans z1
    show wpAnyM _ _ _ _ _ 13 (Array.replicate 13 false) _ _
    refine mv_readN 0 (F := F) (fun f w _ h => hF f w h) (fun f w v h0 h => ⟨h.1, fun u e => h.2 u (by first | exact e | (rw [upd_ne _ _ (by decide)] at e; exact e))⟩) rfl (by kernel_rfl) (by kernel_rfl) (by kernel_rfl) (fun K hK => ?_)
    go_simp
    first | refine ⟨_, fun _ => rfl, hK _ _ ?_⟩ | refine hK _ _ ?_
    clear hK K
    refine mv_readN 2 (F := F) (fun f w _ h => hF f w h) (fun f w v h0 h => ⟨h.1, fun u e => h.2 u (by first | exact e | (rw [upd_ne _ _ (by decide)] at e; exact e))⟩) rfl (by kernel_rfl) (by kernel_rfl) (by kernel_rfl) (fun K hK => ?_)
    go_simp
    first | refine ⟨_, fun _ => rfl, hK _ _ ?_⟩ | refine hK _ _ ?_
    clear hK K
    refine mv_readN 3 (F := F) (fun f w _ h => hF f w h) (fun f w v h0 h => ⟨h.1, fun u e => h.2 u (by first | exact e | (rw [upd_ne _ _ (by decide)] at e; exact e))⟩) rfl (by kernel_rfl) (by kernel_rfl) (by kernel_rfl) (fun K hK => ?_)
    go_simp
    first | refine ⟨_, fun _ => rfl, hK _ _ ?_⟩ | refine hK _ _ ?_
    clear hK K
    refine mv_readN 5 (F := F) (fun f w _ h => hF f w h) (fun f w v h0 h => ⟨h.1, fun u e => h.2 u (by first | exact e | (rw [upd_ne _ _ (by decide)] at e; exact e))⟩) rfl (by kernel_rfl) (by kernel_rfl) (by kernel_rfl) (fun K hK => ?_)
    go_simp
    first | refine ⟨_, fun _ => rfl, hK _ _ ?_⟩ | refine hK _ _ ?_
    clear hK K
    refine mv_call 1 28 rfl (by kernel_rfl) rfl rfl eg_hashes (args := #[.slice (some ⟨b, o, none⟩) l.length cap]) rfl (fun v => ∃ a k c, v = .slice a k c) (fun g w2 ha h0 h => (HHs.out w2 (HWL.out.1.below h.1)).mono fun e w3 ⟨v', h1, h2, h3⟩ => by
        obtain ⟨a, c, e1, -⟩ := h2.shape
        exact ⟨v', h1, ⟨a, _, c, e1⟩, h.1.trans (h3.mono h.1.size), fun u e2 => by rw [upd_self] at e2; cases e2; exact h2.rd⟩) ?_
    rintro _ ⟨ha9, hk9, hc9, rfl⟩
    refine mv_call1 4 53 rfl (by kernel_rfl) (by kernel_rfl) (by kernel_rfl) rfl rfl eg_hash (args := #[.agg #[.int .i64 m, .string s]]) rfl (u := .string hX) (fun g w2 ha h0 h => (HHx.out w2).mono fun e w3 ⟨h1, h2⟩ => ⟨h1, h.1.trans (h2.mono h.1.size), fun u e2 => (h.2 u (by rw [upd_ne _ _ (by decide)] at e2; exact e2)).below h2⟩) ?_
    refine mv_call 6 58 rfl (by kernel_rfl) rfl rfl eg_clash (args := #[.slice ha9 hk9 hc9, .int .i64 (j : Nat), .string hX, .slice pa ps.length pc]) rfl (fun v => ∃ a b : ByteArray, v = .tuple #[.string a, .string b, .bool true] ∧ Unlike a b) (fun g w2 ha h0 h => by
        have e1 : g 1 = some (.slice ha9 hk9 hc9) := (agree_on 1 ha (by kernel_rfl)).trans rfl
        refine (HC.out _ w2 (h.2 _ e1) (HWL.out.2.below h.1)).mono fun e w3 ⟨h1, h2⟩ => ?_
        obtain ⟨a1, b1, e9, hu⟩ := h1
        exact ⟨_, e9, ⟨a1, b1, rfl, hu⟩, h.1.trans (h2.mono h.1.size), fun u e2 => (h.2 u (by rw [upd_ne _ _ (by decide)] at e2; exact e2)).below h2⟩) ?_
    rintro _ ⟨a1, b1, rfl, hu⟩
    refine mv_readN 7 (F := F) (fun f w _ h => hF f w h) (fun f w v h0 h => ⟨h.1, fun u e => h.2 u (by rw [upd_ne _ _ (by decide)] at e; exact e)⟩) rfl (by kernel_rfl) (by kernel_rfl) (by kernel_rfl) (fun K hK => ?_)
    go_simp
    first | refine ⟨_, fun _ => rfl, hK _ _ ?_⟩ | refine hK _ _ ?_
    clear hK K
    refine mv_readN 8 (F := F) (fun f w _ h => hF f w h) (fun f w v h0 h => ⟨h.1, fun u e => h.2 u (by rw [upd_ne _ _ (by decide)] at e; exact e)⟩) rfl (by kernel_rfl) (by kernel_rfl) (by kernel_rfl) (fun K hK => ?_)
    go_simp
    first | refine ⟨_, fun _ => rfl, hK _ _ ?_⟩ | refine hK _ _ ?_
    clear hK K
    refine mv_readN 9 (F := F) (fun f w _ h => hF f w h) (fun f w v h0 h => ⟨h.1, fun u e => h.2 u (by rw [upd_ne _ _ (by decide)] at e; exact e)⟩) rfl (by kernel_rfl) (by kernel_rfl) (by kernel_rfl) (fun K hK => ?_)
    go_simp
    first | refine ⟨_, fun _ => rfl, hK _ _ ?_⟩ | refine hK _ _ ?_
    clear hK K
    refine mv_readN 10 (F := F) (fun f w _ h => hF f w h) (fun f w v h0 h => ⟨h.1, fun u e => h.2 u (by rw [upd_ne _ _ (by decide)] at e; exact e)⟩) rfl (by kernel_rfl) (by kernel_rfl) (by kernel_rfl) (fun K hK => ?_)
    go_simp
    first | refine ⟨_, fun _ => rfl, hK _ _ ?_⟩ | refine hK _ _ ?_
    clear hK K
    refine mv_readN 11 (F := F) (fun f w _ h => hF f w h) (fun f w v h0 h => ⟨h.1, fun u e => h.2 u (by rw [upd_ne _ _ (by decide)] at e; exact e)⟩) rfl (by kernel_rfl) (by kernel_rfl) (by kernel_rfl) (fun K hK => ?_)
    go_simp
    first | refine ⟨_, fun _ => rfl, hK _ _ ?_⟩ | refine hK _ _ ?_
    clear hK K
    refine mv_readN 12 (F := F) (fun f w _ h => hF f w h) (fun f w v h0 h => ⟨h.1, fun u e => h.2 u (by rw [upd_ne _ _ (by decide)] at e; exact e)⟩) rfl (by kernel_rfl) (by kernel_rfl) (by kernel_rfl) (fun K hK => ?_)
    go_simp
    first | refine ⟨_, fun _ => rfl, hK _ _ ?_⟩ | refine hK _ _ ?_
    clear hK K
    refine mv_end (by kernel_rfl) ?_
    intro w7 hw7
    have hb7 := hw7.1
    have H5 := Lib.hid (And.intro (H4.out.1.trans (hb7.mono H4.out.1.size)) (And.intro (H4.out.2.1.below hb7) (And.intro (H4.out.2.2.1.below hb7) (blk_on hb7 H4.out.2.2.2))))
    clear hw7 hF hFC k0 k1 z0 z1 hb7
    go_wp2
    go_ret3
    exact HR.out _ _ ⟨⟨_, _, rfl, hu⟩, H5.out.1⟩
set_option maxRecDepth 100000 in
set_option maxHeartbeats 4000000 in
theorem unlike_no (lv : Value) (l : List LeafT) (j : Nat) (x : LeafT) (pv : Value) (ps : List ByteArray) (w : World) (hl : Rd leafE w lv l) (hp : Rd strE w pv ps) (hlen : l.length ≤ 1000000) (hpn : ps.length ≤ 100000000) (hj : j < l.length) (y : LeafT) (hy : l[j]? = some y) (hyx : y ≠ x) (hh : hashS y ≠ hashS x) (hc : isV (rootL (hashL l)) l.length j (hashS x) ps = false) :
    Calls Try.prog 40 #[lv, .int .i64 (j : Nat), leafV x, pv] w fun e w' => clashN e ∧ Below w.heap.size w w' := by
  refine calls_by fun R HR => ?_
  have HD := Lib.hid (And.intro hl hp)
  obtain ⟨a, cap, rfl, -⟩ := hl.shape
  obtain ⟨pa, pc, rfl, -⟩ := hp.shape
  obtain ⟨n, s⟩ := x
  have h1 : ¬ (j : Int) < 0 := by omega
  have h2 : ¬ (l.length : Int) ≤ (j : Int) := by omega
  have h2' : (j : Int) < (l.length : Int) := by omega
  obtain ⟨b, o, rfl, hb0, dd⟩ := hl.at j _ hy
  obtain ⟨m, r⟩ := y
  have HY := Lib.hid (fun (w1 : World) (h : Below w.heap.size w w1) => And.intro ((h.cell (p := ⟨b, o + j * 2, none⟩) hb0).trans (dd 0 _ rfl)) ((h.cell (p := ⟨b, o + j * 2 + 1, none⟩) hb0).trans (dd 1 _ rfl)))
  clear dd hb0
  have HHy := Lib.hid (fun w => hash_any (m, r) w)
  have HHx := Lib.hid (fun w => hash_any (n, s) w)
  have HHs := Lib.hid (fun w h => hashes_any (.slice (some ⟨b, o, none⟩) l.length cap) l w h hlen)
  have hcl : ∀ v w, Rd strE w v (hashL l) → Rd strE w (.slice pa ps.length pc) ps → l.length ≤ 1048576 → Calls Try.prog 58 #[v, .int .i64 (j : Nat), .string (hashS (n, s)), .slice pa ps.length pc] w fun e w' => clashN e ∧ Below w.heap.size w w' := fun v w h1 h2 h3 => by
    have h := clash_any v (hashL l) (j : Nat) (hashS (n, s)) _ ps w h1 h2 (by rw [hashL_length]; exact h3) hpn
    rw [hashL_length] at h
    refine h.mono fun e w' hq => ?_
    rw [if_neg (fun q => by rw [hc] at q; cases q.2.2.2.2)] at hq; exact hq
  have HC := Lib.hid (fun v w h1 h2 => hcl v w h1 h2 (by omega))
  have hnh := text_ne hh
  generalize hashS (m, r) = hY at *
  generalize hashS (n, s) = hX at *
  clear hh hc hcl
  rcases leaf_ne hyx with hne | ⟨rfl, hne⟩
  · have hq := (show (m == n) = false by simpa using hne)
    have H1 := Lib.hid (And.intro (Below.refl w.heap.size w) (And.intro (HD.out.1) (HD.out.2)))
    obtain ⟨W1, hW1⟩ : ∃ W1, w.alloc (.cells #[.int .i64 n, .string s] 25) = W1 := ⟨_, rfl⟩
    have hbW1 : Below w.heap.size w W1 := by rw [← hW1]; exact alloc_below w _
    have kW1 : W1.heap[w.heap.size]? = some (.cells #[.int .i64 n, .string s] 25 (0, 0)) := by rw [← hW1]; exact alloc_new w _
    have H2 := Lib.hid (And.intro (H1.out.1.trans (hbW1.mono H1.out.1.size)) (And.intro (H1.out.2.1.below hbW1) (And.intro (H1.out.2.2.below hbW1) (kW1))))
    clear hbW1 kW1
    obtain ⟨z0, z1, fzx0, fzx1⟩ := blk2 H2.out.2.2.2
    obtain ⟨d0, d1⟩ := HY.out _ H2.out.1
    change W1.cell? ⟨b, o + j * 2, none⟩ = some (.int .i64 m) at d0
    change W1.cell? ⟨b, o + j * 2 + 1, none⟩ = some (.string r) at d1
    clear hl hp hy hyx
    go_enter Try.func40, Try.ntmps40
    go_wp2_with fail
    go_quiet (fail)
    have hbd := drewn_under W1 nq
    have H3 := Lib.hid (And.intro (H2.out.1.trans (hbd.mono H2.out.1.size)) (And.intro (H2.out.2.1.below hbd) (And.intro (H2.out.2.2.1.below hbd) (blk_on hbd H2.out.2.2.2))))
    generalize W1.drewN nq = w5 at *
    clear hbd z0 z1 d0 d1 hW1
    obtain ⟨z0, z1, fzx0, fzx1⟩ := blk2 H3.out.2.2.2
    obtain ⟨d0, d1⟩ := HY.out _ H3.out.1
    change w5.cell? ⟨b, o + j * 2, none⟩ = some (.int .i64 m) at d0
    change w5.cell? ⟨b, o + j * 2 + 1, none⟩ = some (.string r) at d1
    have r0 := fun p => after_cell z0 p
    have r1 := fun p => after_cell z1 p
    have e0 := fun p => after_cell d0 p
    have e1 := fun p => after_cell d1 p
    have cS := Lib.hid (fun p => calls_after (p := p) (HHy.out (After w5 p)))
    have cT := Lib.hid (fun p => calls_after (p := p) (HHx.out (After w5 p)))
    go_wp2_with fail
    refine wp_region_after (by kernel_rfl) (by kernel_rfl) ?_
    repeat (go_big_quiet_step (fail))
    go_big_quiet_step (exact cS.out _)
    repeat (go_big_quiet_step (fail))
    go_big_quiet_step (exact cT.out _)
    repeat (go_big_quiet_step (fail))
    refine wpQuiet_nil ?_
    rintro w6 ⟨q, rfl⟩
    have hb5 := after_below w5 q
    have H4 := Lib.hid (And.intro (H3.out.1.trans (hb5.mono H3.out.1.size)) (And.intro (H3.out.2.1.below hb5) (And.intro (H3.out.2.2.1.below hb5) (blk_on hb5 H3.out.2.2.2))))
    generalize After w5 q = w6 at *
    clear hb5 cS cT r0 r1 e0 e1 z0 z1 d0 d1
    obtain ⟨z0, z1, fzx0, fzx1⟩ := blk2 H4.out.2.2.2
    have HWL := Lib.hid (And.intro H4.out.2.1 H4.out.2.2.1)
    go_wp2_with fail
    refine wp_region_mv (fun f v => Below w6.heap.size w6 v ∧ ∀ u, f 1 = some u → Rd strE v u (hashL l)) (by kernel_rfl) ⟨drew_below w6, fun u h => by cases h⟩ ?_
    obtain ⟨S, F, hF, hFC⟩ := moved_class (fun (f : Ks.Told) v => Below w6.heap.size w6 v ∧ ∀ u, f 1 = some u → Rd strE v u (hashL l))
    have k0 : ∀ s9, (F s9).cell? ⟨w.heap.size, 0, none⟩ = some (.int .i64 n) := fun s9 => ((hFC s9).choose_spec.1.cell (World.block_lt_of_cell? _ _ z0)).trans z0
    have k1 : ∀ s9, (F s9).cell? ⟨w.heap.size, 1, none⟩ = some (.string s) := fun s9 => ((hFC s9).choose_spec.1.cell (World.block_lt_of_cell? _ _ z1)).trans z1
    show wpAnyM _ _ _ _ _ 13 (Array.replicate 13 false) _ _
    refine mv_readN 0 (F := F) (fun f w _ h => hF f w h) (fun f w v h0 h => ⟨h.1, fun u e => h.2 u (by first | exact e | (rw [upd_ne _ _ (by decide)] at e; exact e))⟩) rfl (by kernel_rfl) (by kernel_rfl) (by kernel_rfl) (fun K hK => ?_)
    go_simp
    first | refine ⟨_, fun _ => rfl, hK _ _ ?_⟩ | refine hK _ _ ?_
    clear hK K
    refine mv_readN 2 (F := F) (fun f w _ h => hF f w h) (fun f w v h0 h => ⟨h.1, fun u e => h.2 u (by first | exact e | (rw [upd_ne _ _ (by decide)] at e; exact e))⟩) rfl (by kernel_rfl) (by kernel_rfl) (by kernel_rfl) (fun K hK => ?_)
    go_simp
    first | refine ⟨_, fun _ => rfl, hK _ _ ?_⟩ | refine hK _ _ ?_
    clear hK K
    refine mv_readN 3 (F := F) (fun f w _ h => hF f w h) (fun f w v h0 h => ⟨h.1, fun u e => h.2 u (by first | exact e | (rw [upd_ne _ _ (by decide)] at e; exact e))⟩) rfl (by kernel_rfl) (by kernel_rfl) (by kernel_rfl) (fun K hK => ?_)
    go_simp
    first | refine ⟨_, fun _ => rfl, hK _ _ ?_⟩ | refine hK _ _ ?_
    clear hK K
    refine mv_readN 5 (F := F) (fun f w _ h => hF f w h) (fun f w v h0 h => ⟨h.1, fun u e => h.2 u (by first | exact e | (rw [upd_ne _ _ (by decide)] at e; exact e))⟩) rfl (by kernel_rfl) (by kernel_rfl) (by kernel_rfl) (fun K hK => ?_)
    go_simp
    first | refine ⟨_, fun _ => rfl, hK _ _ ?_⟩ | refine hK _ _ ?_
    clear hK K
    refine mv_call 1 28 rfl (by kernel_rfl) rfl rfl eg_hashes (args := #[.slice (some ⟨b, o, none⟩) l.length cap]) rfl (fun v => ∃ a k c, v = .slice a k c) (fun g w2 ha h0 h => (HHs.out w2 (HWL.out.1.below h.1)).mono fun e w3 ⟨v', h1, h2, h3⟩ => by
        obtain ⟨a, c, e1, -⟩ := h2.shape
        exact ⟨v', h1, ⟨a, _, c, e1⟩, h.1.trans (h3.mono h.1.size), fun u e2 => by rw [upd_self] at e2; cases e2; exact h2.rd⟩) ?_
    rintro _ ⟨ha9, hk9, hc9, rfl⟩
    refine mv_call1 4 53 rfl (by kernel_rfl) (by kernel_rfl) (by kernel_rfl) rfl rfl eg_hash (args := #[.agg #[.int .i64 n, .string s]]) rfl (u := .string hX) (fun g w2 ha h0 h => (HHx.out w2).mono fun e w3 ⟨h1, h2⟩ => ⟨h1, h.1.trans (h2.mono h.1.size), fun u e2 => (h.2 u (by rw [upd_ne _ _ (by decide)] at e2; exact e2)).below h2⟩) ?_
    refine mv_call 6 58 rfl (by kernel_rfl) rfl rfl eg_clash (args := #[.slice ha9 hk9 hc9, .int .i64 (j : Nat), .string hX, .slice pa ps.length pc]) rfl (fun v => v = .tuple #[.string ⟨#[]⟩, .string ⟨#[]⟩, .bool false]) (fun g w2 ha h0 h => by
        have e1 : g 1 = some (.slice ha9 hk9 hc9) := (agree_on 1 ha (by kernel_rfl)).trans rfl
        refine (HC.out _ w2 (h.2 _ e1) (HWL.out.2.below h.1)).mono fun e w3 ⟨h1, h2⟩ => ?_
        exact ⟨_, h1, rfl, h.1.trans (h2.mono h.1.size), fun u e2 => (h.2 u (by rw [upd_ne _ _ (by decide)] at e2; exact e2)).below h2⟩) ?_
    rintro _ rfl
    refine mv_readN 7 (F := F) (fun f w _ h => hF f w h) (fun f w v h0 h => ⟨h.1, fun u e => h.2 u (by rw [upd_ne _ _ (by decide)] at e; exact e)⟩) rfl (by kernel_rfl) (by kernel_rfl) (by kernel_rfl) (fun K hK => ?_)
    go_simp
    first | refine ⟨_, fun _ => rfl, hK _ _ ?_⟩ | refine hK _ _ ?_
    clear hK K
    refine mv_readN 8 (F := F) (fun f w _ h => hF f w h) (fun f w v h0 h => ⟨h.1, fun u e => h.2 u (by rw [upd_ne _ _ (by decide)] at e; exact e)⟩) rfl (by kernel_rfl) (by kernel_rfl) (by kernel_rfl) (fun K hK => ?_)
    go_simp
    first | refine ⟨_, fun _ => rfl, hK _ _ ?_⟩ | refine hK _ _ ?_
    clear hK K
    refine mv_readN 9 (F := F) (fun f w _ h => hF f w h) (fun f w v h0 h => ⟨h.1, fun u e => h.2 u (by rw [upd_ne _ _ (by decide)] at e; exact e)⟩) rfl (by kernel_rfl) (by kernel_rfl) (by kernel_rfl) (fun K hK => ?_)
    go_simp
    first | refine ⟨_, fun _ => rfl, hK _ _ ?_⟩ | refine hK _ _ ?_
    clear hK K
    refine mv_readN 10 (F := F) (fun f w _ h => hF f w h) (fun f w v h0 h => ⟨h.1, fun u e => h.2 u (by rw [upd_ne _ _ (by decide)] at e; exact e)⟩) rfl (by kernel_rfl) (by kernel_rfl) (by kernel_rfl) (fun K hK => ?_)
    go_simp
    first | refine ⟨_, fun _ => rfl, hK _ _ ?_⟩ | refine hK _ _ ?_
    clear hK K
    refine mv_readN 11 (F := F) (fun f w _ h => hF f w h) (fun f w v h0 h => ⟨h.1, fun u e => h.2 u (by rw [upd_ne _ _ (by decide)] at e; exact e)⟩) rfl (by kernel_rfl) (by kernel_rfl) (by kernel_rfl) (fun K hK => ?_)
    go_simp
    first | refine ⟨_, fun _ => rfl, hK _ _ ?_⟩ | refine hK _ _ ?_
    clear hK K
    refine mv_readN 12 (F := F) (fun f w _ h => hF f w h) (fun f w v h0 h => ⟨h.1, fun u e => h.2 u (by rw [upd_ne _ _ (by decide)] at e; exact e)⟩) rfl (by kernel_rfl) (by kernel_rfl) (by kernel_rfl) (fun K hK => ?_)
    go_simp
    first | refine ⟨_, fun _ => rfl, hK _ _ ?_⟩ | refine hK _ _ ?_
    clear hK K
    refine mv_end (by kernel_rfl) ?_
    intro w7 hw7
    have hb7 := hw7.1
    have H5 := Lib.hid (And.intro (H4.out.1.trans (hb7.mono H4.out.1.size)) (And.intro (H4.out.2.1.below hb7) (And.intro (H4.out.2.2.1.below hb7) (blk_on hb7 H4.out.2.2.2))))
    clear hw7 hF hFC k0 k1 z0 z1 hb7
    go_wp2
    go_ret3
    exact HR.out _ _ ⟨rfl, H5.out.1⟩
  · have hq := text_ne hne
    have H1 := Lib.hid (And.intro (Below.refl w.heap.size w) (And.intro (HD.out.1) (HD.out.2)))
    obtain ⟨W1, hW1⟩ : ∃ W1, w.alloc (.cells #[.int .i64 m, .string s] 25) = W1 := ⟨_, rfl⟩
    have hbW1 : Below w.heap.size w W1 := by rw [← hW1]; exact alloc_below w _
    have kW1 : W1.heap[w.heap.size]? = some (.cells #[.int .i64 m, .string s] 25 (0, 0)) := by rw [← hW1]; exact alloc_new w _
    have H2 := Lib.hid (And.intro (H1.out.1.trans (hbW1.mono H1.out.1.size)) (And.intro (H1.out.2.1.below hbW1) (And.intro (H1.out.2.2.below hbW1) (kW1))))
    clear hbW1 kW1
    obtain ⟨z0, z1, fzx0, fzx1⟩ := blk2 H2.out.2.2.2
    obtain ⟨d0, d1⟩ := HY.out _ H2.out.1
    change W1.cell? ⟨b, o + j * 2, none⟩ = some (.int .i64 m) at d0
    change W1.cell? ⟨b, o + j * 2 + 1, none⟩ = some (.string r) at d1
    clear hl hp hy hyx
    go_enter Try.func40, Try.ntmps40
    go_wp2_with fail
    go_quiet (fail)
    have hbd := drewn_under W1 nq
    have H3 := Lib.hid (And.intro (H2.out.1.trans (hbd.mono H2.out.1.size)) (And.intro (H2.out.2.1.below hbd) (And.intro (H2.out.2.2.1.below hbd) (blk_on hbd H2.out.2.2.2))))
    generalize W1.drewN nq = w5 at *
    clear hbd z0 z1 d0 d1 hW1
    obtain ⟨z0, z1, fzx0, fzx1⟩ := blk2 H3.out.2.2.2
    obtain ⟨d0, d1⟩ := HY.out _ H3.out.1
    change w5.cell? ⟨b, o + j * 2, none⟩ = some (.int .i64 m) at d0
    change w5.cell? ⟨b, o + j * 2 + 1, none⟩ = some (.string r) at d1
    have r0 := fun p => after_cell z0 p
    have r1 := fun p => after_cell z1 p
    have e0 := fun p => after_cell d0 p
    have e1 := fun p => after_cell d1 p
    have cS := Lib.hid (fun p => calls_after (p := p) (HHy.out (After w5 p)))
    have cT := Lib.hid (fun p => calls_after (p := p) (HHx.out (After w5 p)))
    go_wp2_with fail
    refine wp_region_after (by kernel_rfl) (by kernel_rfl) ?_
    repeat (go_big_quiet_step (fail))
    go_big_quiet_step (exact cS.out _)
    repeat (go_big_quiet_step (fail))
    go_big_quiet_step (exact cT.out _)
    repeat (go_big_quiet_step (fail))
    refine wpQuiet_nil ?_
    rintro w6 ⟨q, rfl⟩
    have hb5 := after_below w5 q
    have H4 := Lib.hid (And.intro (H3.out.1.trans (hb5.mono H3.out.1.size)) (And.intro (H3.out.2.1.below hb5) (And.intro (H3.out.2.2.1.below hb5) (blk_on hb5 H3.out.2.2.2))))
    generalize After w5 q = w6 at *
    clear hb5 cS cT r0 r1 e0 e1 z0 z1 d0 d1
    obtain ⟨z0, z1, fzx0, fzx1⟩ := blk2 H4.out.2.2.2
    have HWL := Lib.hid (And.intro H4.out.2.1 H4.out.2.2.1)
    go_wp2_with fail
    refine wp_region_mv (fun f v => Below w6.heap.size w6 v ∧ ∀ u, f 1 = some u → Rd strE v u (hashL l)) (by kernel_rfl) ⟨drew_below w6, fun u h => by cases h⟩ ?_
    obtain ⟨S, F, hF, hFC⟩ := moved_class (fun (f : Ks.Told) v => Below w6.heap.size w6 v ∧ ∀ u, f 1 = some u → Rd strE v u (hashL l))
    have k0 : ∀ s9, (F s9).cell? ⟨w.heap.size, 0, none⟩ = some (.int .i64 m) := fun s9 => ((hFC s9).choose_spec.1.cell (World.block_lt_of_cell? _ _ z0)).trans z0
    have k1 : ∀ s9, (F s9).cell? ⟨w.heap.size, 1, none⟩ = some (.string s) := fun s9 => ((hFC s9).choose_spec.1.cell (World.block_lt_of_cell? _ _ z1)).trans z1
    show wpAnyM _ _ _ _ _ 13 (Array.replicate 13 false) _ _
    refine mv_readN 0 (F := F) (fun f w _ h => hF f w h) (fun f w v h0 h => ⟨h.1, fun u e => h.2 u (by first | exact e | (rw [upd_ne _ _ (by decide)] at e; exact e))⟩) rfl (by kernel_rfl) (by kernel_rfl) (by kernel_rfl) (fun K hK => ?_)
    go_simp
    first | refine ⟨_, fun _ => rfl, hK _ _ ?_⟩ | refine hK _ _ ?_
    clear hK K
    refine mv_readN 2 (F := F) (fun f w _ h => hF f w h) (fun f w v h0 h => ⟨h.1, fun u e => h.2 u (by first | exact e | (rw [upd_ne _ _ (by decide)] at e; exact e))⟩) rfl (by kernel_rfl) (by kernel_rfl) (by kernel_rfl) (fun K hK => ?_)
    go_simp
    first | refine ⟨_, fun _ => rfl, hK _ _ ?_⟩ | refine hK _ _ ?_
    clear hK K
    refine mv_readN 3 (F := F) (fun f w _ h => hF f w h) (fun f w v h0 h => ⟨h.1, fun u e => h.2 u (by first | exact e | (rw [upd_ne _ _ (by decide)] at e; exact e))⟩) rfl (by kernel_rfl) (by kernel_rfl) (by kernel_rfl) (fun K hK => ?_)
    go_simp
    first | refine ⟨_, fun _ => rfl, hK _ _ ?_⟩ | refine hK _ _ ?_
    clear hK K
    refine mv_readN 5 (F := F) (fun f w _ h => hF f w h) (fun f w v h0 h => ⟨h.1, fun u e => h.2 u (by first | exact e | (rw [upd_ne _ _ (by decide)] at e; exact e))⟩) rfl (by kernel_rfl) (by kernel_rfl) (by kernel_rfl) (fun K hK => ?_)
    go_simp
    first | refine ⟨_, fun _ => rfl, hK _ _ ?_⟩ | refine hK _ _ ?_
    clear hK K
    refine mv_call 1 28 rfl (by kernel_rfl) rfl rfl eg_hashes (args := #[.slice (some ⟨b, o, none⟩) l.length cap]) rfl (fun v => ∃ a k c, v = .slice a k c) (fun g w2 ha h0 h => (HHs.out w2 (HWL.out.1.below h.1)).mono fun e w3 ⟨v', h1, h2, h3⟩ => by
        obtain ⟨a, c, e1, -⟩ := h2.shape
        exact ⟨v', h1, ⟨a, _, c, e1⟩, h.1.trans (h3.mono h.1.size), fun u e2 => by rw [upd_self] at e2; cases e2; exact h2.rd⟩) ?_
    rintro _ ⟨ha9, hk9, hc9, rfl⟩
    refine mv_call1 4 53 rfl (by kernel_rfl) (by kernel_rfl) (by kernel_rfl) rfl rfl eg_hash (args := #[.agg #[.int .i64 m, .string s]]) rfl (u := .string hX) (fun g w2 ha h0 h => (HHx.out w2).mono fun e w3 ⟨h1, h2⟩ => ⟨h1, h.1.trans (h2.mono h.1.size), fun u e2 => (h.2 u (by rw [upd_ne _ _ (by decide)] at e2; exact e2)).below h2⟩) ?_
    refine mv_call 6 58 rfl (by kernel_rfl) rfl rfl eg_clash (args := #[.slice ha9 hk9 hc9, .int .i64 (j : Nat), .string hX, .slice pa ps.length pc]) rfl (fun v => v = .tuple #[.string ⟨#[]⟩, .string ⟨#[]⟩, .bool false]) (fun g w2 ha h0 h => by
        have e1 : g 1 = some (.slice ha9 hk9 hc9) := (agree_on 1 ha (by kernel_rfl)).trans rfl
        refine (HC.out _ w2 (h.2 _ e1) (HWL.out.2.below h.1)).mono fun e w3 ⟨h1, h2⟩ => ?_
        exact ⟨_, h1, rfl, h.1.trans (h2.mono h.1.size), fun u e2 => (h.2 u (by rw [upd_ne _ _ (by decide)] at e2; exact e2)).below h2⟩) ?_
    rintro _ rfl
    refine mv_readN 7 (F := F) (fun f w _ h => hF f w h) (fun f w v h0 h => ⟨h.1, fun u e => h.2 u (by rw [upd_ne _ _ (by decide)] at e; exact e)⟩) rfl (by kernel_rfl) (by kernel_rfl) (by kernel_rfl) (fun K hK => ?_)
    go_simp
    first | refine ⟨_, fun _ => rfl, hK _ _ ?_⟩ | refine hK _ _ ?_
    clear hK K
    refine mv_readN 8 (F := F) (fun f w _ h => hF f w h) (fun f w v h0 h => ⟨h.1, fun u e => h.2 u (by rw [upd_ne _ _ (by decide)] at e; exact e)⟩) rfl (by kernel_rfl) (by kernel_rfl) (by kernel_rfl) (fun K hK => ?_)
    go_simp
    first | refine ⟨_, fun _ => rfl, hK _ _ ?_⟩ | refine hK _ _ ?_
    clear hK K
    refine mv_readN 9 (F := F) (fun f w _ h => hF f w h) (fun f w v h0 h => ⟨h.1, fun u e => h.2 u (by rw [upd_ne _ _ (by decide)] at e; exact e)⟩) rfl (by kernel_rfl) (by kernel_rfl) (by kernel_rfl) (fun K hK => ?_)
    go_simp
    first | refine ⟨_, fun _ => rfl, hK _ _ ?_⟩ | refine hK _ _ ?_
    clear hK K
    refine mv_readN 10 (F := F) (fun f w _ h => hF f w h) (fun f w v h0 h => ⟨h.1, fun u e => h.2 u (by rw [upd_ne _ _ (by decide)] at e; exact e)⟩) rfl (by kernel_rfl) (by kernel_rfl) (by kernel_rfl) (fun K hK => ?_)
    go_simp
    first | refine ⟨_, fun _ => rfl, hK _ _ ?_⟩ | refine hK _ _ ?_
    clear hK K
    refine mv_readN 11 (F := F) (fun f w _ h => hF f w h) (fun f w v h0 h => ⟨h.1, fun u e => h.2 u (by rw [upd_ne _ _ (by decide)] at e; exact e)⟩) rfl (by kernel_rfl) (by kernel_rfl) (by kernel_rfl) (fun K hK => ?_)
    go_simp
    first | refine ⟨_, fun _ => rfl, hK _ _ ?_⟩ | refine hK _ _ ?_
    clear hK K
    refine mv_readN 12 (F := F) (fun f w _ h => hF f w h) (fun f w v h0 h => ⟨h.1, fun u e => h.2 u (by rw [upd_ne _ _ (by decide)] at e; exact e)⟩) rfl (by kernel_rfl) (by kernel_rfl) (by kernel_rfl) (fun K hK => ?_)
    go_simp
    first | refine ⟨_, fun _ => rfl, hK _ _ ?_⟩ | refine hK _ _ ?_
    clear hK K
    refine mv_end (by kernel_rfl) ?_
    intro w7 hw7
    have hb7 := hw7.1
    have H5 := Lib.hid (And.intro (H4.out.1.trans (hb7.mono H4.out.1.size)) (And.intro (H4.out.2.1.below hb7) (And.intro (H4.out.2.2.1.below hb7) (blk_on hb7 H4.out.2.2.2))))
    clear hw7 hF hFC k0 k1 z0 z1 hb7
    go_wp2
    go_ret3
    exact HR.out _ _ ⟨rfl, H5.out.1⟩
theorem unlike_any (lv : Value) (l : List LeafT) (i : Int) (x : LeafT) (pv : Value) (ps : List ByteArray) (w : World) (hl : Rd leafE w lv l) (hp : Rd strE w pv ps) (hlen : l.length ≤ 1000000) (hpn : ps.length ≤ 100000000) (hr : rightB l = true) :
    Calls Try.prog 40 #[lv, .int .i64 i, leafV x, pv] w fun e w' => (otherP l i x ps → clashY e) ∧ (¬ otherP l i x ps → clashN e) ∧ Below w.heap.size w w' := by
  by_cases hi : i < 0 ∨ (l.length : Int) ≤ i
  · have hn : ¬ otherP l i x ps := fun h => by have := h.1; have := h.2.1; omega
    exact (unlike_out lv l i x pv ps w hl hp hlen hpn hi).mono fun e w' q => ⟨fun h => absurd h hn, fun _ => q.1, q.2⟩
  obtain ⟨j, rfl⟩ : ∃ j : Nat, i = (j : Int) := ⟨i.toNat, by omega⟩
  have hj : j < l.length := by omega
  have hy : l[j]? = some l[j] := List.getElem?_eq_getElem hj
  by_cases he : l[j] = x
  · have hn : ¬ otherP l j x ps := fun h => h.2.2.1 (by rw [Int.toNat_natCast, hy, he])
    exact (unlike_same lv l j x pv ps w hl hp hlen hpn hj (by rw [hy, he])).mono fun e w' q => ⟨fun h => absurd h hn, fun _ => q.1, q.2⟩
  by_cases hh : hashS l[j] = hashS x
  · have hn : otherP l j x ps := ⟨by omega, by omega, by rw [Int.toNat_natCast, hy]; exact fun e => he (Option.some.inj e), .inl ⟨_, by rw [Int.toNat_natCast]; exact hy, hh⟩⟩
    exact (unlike_said lv l j x pv ps w hl hp hlen hpn hj _ hy he hh (((rightB_spec l).1 hr).1 _ (List.getElem_mem hj))).mono fun e w' q => ⟨fun _ => q.1, fun h => absurd hn h, q.2⟩
  cases hc : isV (rootL (hashL l)) l.length j (hashS x) ps
  · have hn : ¬ otherP l j x ps := fun h => by
      rcases h.2.2.2 with ⟨y, h1, h2⟩ | h1
      · rw [Int.toNat_natCast, hy] at h1; cases h1; exact hh h2
      · rw [hc] at h1; cases h1
    exact (unlike_no lv l j x pv ps w hl hp hlen hpn hj _ hy he hh hc).mono fun e w' q => ⟨fun h => absurd h hn, fun _ => q.1, q.2⟩
  · have hn : otherP l j x ps := ⟨by omega, by omega, by rw [Int.toNat_natCast, hy]; exact fun e => he (Option.some.inj e), .inr hc⟩
    exact (unlike_tree lv l j x pv ps w hl hp hlen hpn hj _ hy he hh hc).mono fun e w' q => ⟨fun _ => q.1, fun h => absurd hn h, q.2⟩
end Go.Proofs.Ytelmcoedmkhkjaa
/- The reference's trees of hashes: the half, a node, the root. -/
namespace Go.Proofs.Ytelmcoedmkhkjaa
open Go.RowKit Ks
set_option linter.unusedVariables false
theorem rhalf_any (n : Nat) (w : World) (h2 : 2 ≤ n) (hn : n ≤ 1000000000) : Calls Try.prog 36 #[.int .i64 (n : Nat)] w fun e w' => e = .returned (.int .i64 (halfN n : Nat)) ∧ w' = w := by
  refine calls_by fun R HR => ?_
  have hni : (n : Int) ≤ 1000000000 := by omega
  have H2 := Lib.hid h2
  clear h2 hn
  go_enter Try.func36, Try.ntmps36
  go_wp2
  go_loop [3] (fun i => ∃ k : Nat, i = .int .i64 k ∧ Hid (∃ j, k = 2 ^ j) ∧ Hid (k < n)) (fun i => n - (intOf i).toNat)
  case atStart => exact ⟨1, rfl, Lib.hid ⟨0, rfl⟩, Lib.hid (by have := H2.out; omega)⟩
  case round =>
    obtain ⟨k, rfl, hj, hkn⟩ := hrel
    have hki : (k : Int) < n := by have := hkn.out; omega
    have hmul : (2 : Int) * (k : Int) = ((2 * k : Nat) : Int) := by omega
    by_cases hlt : 2 * k < n
    · have hlti : (2 : Int) * (k : Int) < (n : Int) := by omega
      have HL := Lib.hid hlt
      clear hlt hmul
      go_wp2
      go_round
      case rel => exact ⟨2 * k, by go_num, Lib.hid (by obtain ⟨j, e⟩ := hj.out; exact ⟨j + 1, by rw [Nat.pow_succ]; omega⟩), Lib.hid HL.out⟩
      case measure =>
        have h1 := HL.out
        have h3 : 0 < k := by obtain ⟨j, e⟩ := hj.out; rw [e]; exact Nat.two_pow_pos j
        simp [intOf]; omega
    · have hlti : ¬ (2 : Int) * (k : Int) < (n : Int) := by omega
      have HH := Lib.hid (show halfN n = k by
        obtain ⟨j, e⟩ := hj.out
        rw [e]
        exact half_of n j (by have := hkn.out; omega) (by rw [Nat.pow_succ]; omega))
      clear hlt hmul
      go_wp2
      exact HR.out _ _ ⟨by rw [HH.out], rfl⟩
theorem rnode_any (x y : ByteArray) (w : World) (hx : x.size ≤ 100000000) (hy : y.size ≤ 100000000) : Calls Try.prog 26 #[.string (ByteArray.mk #[1] ++ x ++ y)] w fun e w' => e = .returned (.string (nodeS x y)) ∧ Below w.heap.size w w' := by
  rw [inside_cat]
  exact rsumS_any (insideS x y) w (by rw [inside_size]; omega)
set_option maxHeartbeats 2000000 in
theorem rroot_any : ∀ (n : Nat) (l : List ByteArray) (lv : Value) (w : World), l.length = n → n ≤ 100000000 → Rd strE w lv l → wholeL l = true →
    Calls Try.prog 17 #[lv] w fun e w' => e = .returned (.string (rootL l)) ∧ Below w.heap.size w w' := by
  intro n
  induction n using Nat.strongRecOn with
  | ind n ih =>
  intro l lv w hn hb hr hw
  refine calls_by fun R HR => ?_
  obtain ⟨a, cap, rfl, hcap, -⟩ := hr.shape
  by_cases h0 : n = 0
  · have hl0 : l = [] := List.length_eq_zero_iff.1 (by omega)
    subst hl0
    clear hr ih
    have HZ := Lib.hid (show rootL [] = shaS [] from root_nil)
    go_enter Try.func17, Try.ntmps17
    go_wp2_with fail
    refine (rsumS_any ⟨#[]⟩ _ (by decide)).mono ?_
    rintro e w1 ⟨rfl, hb⟩
    have HB := Lib.hid hb
    clear hb
    go_wp2
    exact HR.out _ _ ⟨by rw [HZ.out]; rfl, HB.out⟩
  by_cases h1 : n = 1
  · obtain ⟨b, o, rfl, hb1, c1⟩ := hr.str 0 (by omega)
    rw [Nat.add_zero] at c1
    have HZ := Lib.hid (show rootL l = l[0] by match l, hn, h1 with | [x], _, _ => exact root_one x)
    have hl1 : ((l.length : Int) == 0) = false := by rw [beq_eq_false_iff_ne]; omega
    have hl2 : ((l.length : Int) == 1) = true := by rw [beq_iff_eq]; omega
    have hl3 : (0 : Int) < (l.length : Int) := by omega
    generalize l[0] = x at *
    clear hr ih hn h0 h1
    go_enter Try.func17, Try.ntmps17
    go_wp2
    exact HR.out _ _ ⟨by rw [HZ.out]; rfl, Below.refl _ _⟩
  · obtain ⟨b, o, rfl, hb1, -⟩ := hr.str 0 (by omega)
    have hl1 : ((l.length : Int) == 0) = false := by rw [beq_eq_false_iff_ne]; omega
    have hl2 : ((l.length : Int) == 1) = false := by rw [beq_eq_false_iff_ne]; omega
    have hh := half_lt l.length (by omega)
    have HH := Lib.hid (rhalf_any l.length w (by omega) (by omega))
    have hw' : ∀ s ∈ l, s.size = 32 := by simpa [wholeL] using hw
    have w1 : wholeL (l.take (halfN l.length)) = true := by simp only [wholeL, List.all_eq_true, beq_iff_eq]; exact fun s hs => hw' s (List.mem_of_mem_take hs)
    have w2 : wholeL (l.drop (halfN l.length)) = true := by simp only [wholeL, List.all_eq_true, beq_iff_eq]; exact fun s hs => hw' s (List.mem_of_mem_drop hs)
    have s1 := (path_whole _ (l.take (halfN l.length)) 0 rfl w1 (by rw [List.length_take]; omega)).2
    have s2 := (path_whole _ (l.drop (halfN l.length)) 0 rfl w2 (by rw [List.length_drop]; omega)).2
    have HZ := Lib.hid (show rootL l = nodeS (rootL (l.take (halfN l.length))) (rootL (l.drop (halfN l.length))) from root_two l (by omega))
    have hT := hr.take (k := halfN l.length) (by omega) cap (by omega)
    have hD := hr.drop (k := halfN l.length) (by omega) (some ⟨b, o + halfN l.length, none⟩) (fun _ => by simp [strE]) (by simp) (cap - halfN l.length) (by omega)
    have cT := Lib.hid (fun p => calls_after (p := p) (ih (l.take (halfN l.length)).length (by rw [List.length_take]; omega) _ _ (After w p) rfl (by rw [List.length_take]; omega) (hT.below (after_below w p)) w1))
    have cD := Lib.hid (fun p => calls_after (p := p) (ih (l.drop (halfN l.length)).length (by rw [List.length_drop]; omega) _ _ (After w p) rfl (by rw [List.length_drop]; omega) (hD.below (after_below w p)) w2))
    generalize rootL (l.take (halfN l.length)) = x at *
    generalize rootL (l.drop (halfN l.length)) = y at *
    have cS := Lib.hid (fun p => calls_after (p := p) (rnode_any x y (After w p) (by omega) (by omega)))
    have hcat1 : ¬ 9223372036854775807 < 1 + x.size := by omega
    have hcat2 : ¬ 9223372036854775807 < 1 + x.size + y.size := by omega
    have hli : (l.length : Int) ≤ 100000000 := by omega
    have hk1 : ((halfN l.length : Nat) : Int) < (l.length : Int) := by omega
    have hk0 : (0 : Int) < ((halfN l.length : Nat) : Int) := by omega
    have hk2 : ((halfN l.length : Nat) : Int) ≤ (cap : Int) := by omega
    have hk3 : ¬ cap = halfN l.length := by omega
    have hk4 : ((halfN l.length : Nat) : Int) ≤ (l.length : Int) := by omega
    have hk5 : (l.length : Int) ≤ (cap : Int) := by omega
    have hx0 : x.size ≤ 10000000000 := by omega
    have hy0 : y.size ≤ 10000000000 := by omega
    generalize halfN l.length = k at *
    clear hr ih hn h0 h1 hw hw' w1 w2 s1 s2 hT hD hh
    go_enter Try.func17, Try.ntmps17
    go_wp2_with fail
    refine HH.out.mono ?_
    rintro e w3 ⟨rfl, rfl⟩
    go_wp2_with fail
    refine wp_region_after (by kernel_rfl) (by kernel_rfl) ?_
    quiet_step (fail)
    quiet_step (fail)
    quiet_step (fail)
    quiet_step (exact cT.out _)
    quiet_step (fail)
    quiet_step (fail)
    quiet_step (fail)
    quiet_step (fail)
    quiet_step (exact cD.out _)
    quiet_step (fail)
    quiet_step (exact cS.out _)
    quiet_step (fail)
    refine wpQuiet_nil ?_
    rintro w2 ⟨q, rfl⟩
    have H2 := Lib.hid (after_below w3 q)
    generalize After w3 q = w2 at *
    clear cT cD cS
    go_wp2
    exact HR.out _ _ ⟨by rw [HZ.out] <;> rfl, H2.out⟩
end Go.Proofs.Ytelmcoedmkhkjaa
/- A region that draws its order, where two steps may come either way round: a call that makes a row of its own, and what is appended to it. Plain. No program is in sight. -/
namespace Ks
open Go Go.RowKit
set_option linter.unusedVariables false
section
variable {P : Program} {ops : Array Oper} {md : Region.Mode} {C : Told → World → Prop}
theorem mOp_alone {K : Told → Act → Prop} {F : Told} {a : Act} (i : Nat) {o : Oper} (ho : ops[i]? = some o) (hw : Region.wanted o (yielded ops a.tmps) = true) (V : Value → Prop)
    (hc : ∀ g w, agree md o F g → g i = none → C g w → ∀ D : Value → World → Prop, (∀ v w', V v → C (upd g i v) w' → D v w') → movesUpon P D ((execOp a.eval o).run P w))
    (hK : ∀ v, V v → K (upd F i v) (a.put o.dst v)) : mOp P md ops C i K F a :=
  Moves.mOp (V := V) ho (.inl ⟨hw, fun g w h0 h1 h2 => hc g w h0 h1 h2 _ fun v w' a b => ⟨a, b⟩⟩) hK
theorem mOp_call {K : Told → Act → Prop} {F : Told} {a : Act} (i : Nat) {o : Oper} (f : FuncId) {xs : Array Operand} {ts : Array TypeId} (ho : ops[i]? = some o) (hw : Region.wanted o (yielded ops a.tmps) = true)
    (hop : o.op = Op.call { callee := Callee.value (.func f), args := xs, argTypes := ts }) (eg : ∀ args w, (callFunc f args).run P w = .ok (.enter f args) w) {args : Array Value} (hargs : xs.toList.map a.eval = args.toList)
    (V : Value → Prop) (hc : ∀ g w, agree md o F g → g i = none → C g w → Calls P f args w fun e w' => ∃ v, e = .returned v ∧ V v ∧ C (upd g i v) w')
    (hK : ∀ v, V v → K (upd F i v) (a.put o.dst v)) : mOp P md ops C i K F a := by
  refine Moves.mOp (V := V) ho (.inl ⟨hw, fun g w h0 h1 h2 => ?_⟩) hK
  have hrun : (execOp a.eval o).run P w = .ok (.enter f args) w := by
    have h : xs.map a.eval = args := Array.toList_inj.1 (by simpa using hargs)
    simp [execOp, hop, resolve, Deferred.ofValue, Act.eval, invoke, eg, ← h]
  rw [hrun]
  exact hc g w h0 h1 h2
theorem mv_fork {Q : Told → Act → Prop} {fuel : Nat} {listed : Array Bool} {F : Told} {a : Act} (i j : Nat) (hr : Region.ready md ops listed = [i, j])
    (h1 : mOp P md ops C i (wpAnyM P md ops C Q fuel (listed.setIfInBounds i true)) F a) (h2 : mOp P md ops C j (wpAnyM P md ops C Q fuel (listed.setIfInBounds j true)) F a) : wpAnyM P md ops C Q (fuel + 1) listed F a := by
  refine ⟨by rw [hr]; simp, fun k hk => ?_⟩
  rw [hr] at hk
  rcases List.mem_cons.1 hk with rfl | hk
  · exact h1
  · obtain rfl : k = j := by simpa using hk
    exact h2
end
/-- a class of worlds behind one, where a call makes a row of its own (p), a step makes what is appended (s), and a step appends it (u) -/
def Joins {α : Type} (E : Enc α) (w0 : World) (T : TypeId) (L l : List α) (p s u : Option Value) (w : World) : Prop :=
  Below w0.heap.size w0 w ∧ (match u with
  | none => (∀ v, p = some v → Row E w w0.heap.size T v L) ∧ (∀ x, s = some x → Rd E w x l)
  | some u => (p ≠ none ∧ s ≠ none) ∧ Row E w w0.heap.size T u (L ++ l))
section
variable {α : Type} {E : Enc α} {w0 w w' : World} {T : TypeId} {L l : List α} {p s u : Option Value}
theorem Joins.start (hb : Below w0.heap.size w0 w) : Joins E w0 T L l none none none w := ⟨hb, ⟨(fun v h => by cases h), (fun v h => by cases h)⟩⟩
theorem Joins.on (h : Joins E w0 T L l p s u w) (hb : Below w.heap.size w w') : Joins E w0 T L l p s u w' := by
  refine ⟨h.1.trans (hb.mono h.1.size), ?_⟩
  have h2 := h.2
  cases u with
  | none => exact ⟨fun v e => (h2.1 v e).below hb, fun x e => (h2.2 x e).below hb⟩
  | some u => exact ⟨h2.1, h2.2.below hb⟩
theorem Joins.early1 (h : Joins E w0 T L l none s u w) : u = none := by
  cases u with
  | none => rfl
  | some u => exact absurd rfl h.2.1.1
theorem Joins.early2 (h : Joins E w0 T L l p none u w) : u = none := by
  cases u with
  | none => rfl
  | some u => exact absurd rfl h.2.1.2
theorem Joins.path {v : Value} (h : Joins E w0 T L l none s u w) (hr : Row E w' w.heap.size T v L) (hb : Below w.heap.size w w') : Joins E w0 T L l (some v) s u w' := by
  obtain rfl := h.early1
  exact ⟨h.1.trans (hb.mono h.1.size), ⟨(fun v' e => by cases e; exact hr.down h.1.size), (fun x e => (h.2.2 x e).below hb)⟩⟩
theorem Joins.made (h : Joins E w0 T L l p none u w) (cs : Array Value) (e : cs.toList = E.cs l) (fr : Nat × Nat := (0, 0)) (T' : TypeId) : Joins E w0 T L l p (some (.slice (some ⟨w.heap.size, 0, none⟩) l.length l.length)) u (w.alloc (.cells cs T' fr)) := by
  obtain rfl := h.early2
  have hb := alloc_below w (.cells cs T' fr)
  exact ⟨h.1.trans (hb.mono h.1.size), ⟨(fun v e => (h.2.1 v e).below hb), (fun x e2 => by cases e2; exact Rd.block (alloc_new w _) e)⟩⟩
theorem Joins.rows {v x : Value} (h : Joins E w0 T L l (some v) (some x) none w) : Row E w w0.heap.size T v L ∧ Rd E w x l ∧ w0.heap.size ≤ w.heap.size := ⟨h.2.1 v rfl, h.2.2 x rfl, h.1.size⟩
theorem Joins.grew {v x v' : Value} (h : Joins E w0 T L l (some v) (some x) none w) (hG : Grew E w w' w0.heap.size T v v' (L ++ l)) : Joins E w0 T L l (some v) (some x) (some v') w' :=
  ⟨hG.below h.1 h.1.size (fun b e => ((h.2.1 v rfl).lt e).1), ⟨(fun e => by cases e), (fun e => by cases e)⟩, hG.1⟩
end
end Ks
/- The reference's trees of hashes: a leaf's path. -/
namespace Go.Proofs.Ytelmcoedmkhkjaa
open Go.RowKit Ks
set_option linter.unusedVariables false
theorem eg_rroot : ∀ args w, (callFunc 17 args).run Try.prog w = .ok (.enter 17 args) w := fun _ _ => rfl
theorem eg_rpath : ∀ args w, (callFunc 37 args).run Try.prog w = .ok (.enter 37 args) w := fun _ _ => rfl
theorem path_len : ∀ (n : Nat) (l : List ByteArray) (i : Nat), l.length = n → (pathL l i).length ≤ n := by
  intro n
  induction n using Nat.strongRecOn with
  | ind n ih =>
    intro l i hn
    by_cases h : 2 ≤ l.length
    · have hh := half_lt l.length h
      rw [path_two l i h]
      split
      · have := ih (halfN l.length) (by omega) (l.take (halfN l.length)) i (by rw [List.length_take]; omega)
        simp; omega
      · have := ih (l.length - halfN l.length) (by omega) (l.drop (halfN l.length)) (i - halfN l.length) (by rw [List.length_drop])
        simp; omega
    · rw [path_low l i h]; simp
set_option maxRecDepth 100000 in
set_option maxHeartbeats 4000000 in
theorem rpath_any : ∀ (n : Nat) (l : List ByteArray) (i : Nat) (lv : Value) (w : World), l.length = n → n ≤ 100000000 → i < n → Rd strE w lv l → wholeL l = true →
    Calls Try.prog 37 #[lv, .int .i64 (i : Nat)] w fun e w' => ∃ v, e = .returned v ∧ Row strE w' w.heap.size 9 v (pathL l i) ∧ Below w.heap.size w w' := by
  intro n
  induction n using Nat.strongRecOn with
  | ind n ih =>
  intro l i lv w hn hb hi hr hw
  refine calls_by fun R HR => ?_
  obtain ⟨a, cap, rfl, hcap, -⟩ := hr.shape
  by_cases h2 : 2 ≤ n
  · obtain ⟨b, o, rfl, hb1, -⟩ := hr.str 0 (by omega)
    have hn2 : ¬ (l.length : Int) < 2 := by omega
    have hh := half_lt l.length (by omega)
    have HH := Lib.hid (rhalf_any l.length w (by omega) (by omega))
    have hw' : ∀ s ∈ l, s.size = 32 := by simpa [wholeL] using hw
    have w1' : wholeL (l.take (halfN l.length)) = true := by simp only [wholeL, List.all_eq_true, beq_iff_eq]; exact fun s hs => hw' s (List.mem_of_mem_take hs)
    have w2 : wholeL (l.drop (halfN l.length)) = true := by simp only [wholeL, List.all_eq_true, beq_iff_eq]; exact fun s hs => hw' s (List.mem_of_mem_drop hs)
    have hT := hr.take (k := halfN l.length) (by omega) cap (by omega)
    have hD := hr.drop (k := halfN l.length) (by omega) (some ⟨b, o + halfN l.length, none⟩) (fun _ => by simp [strE]) (by simp) (cap - halfN l.length) (by omega)
    have hk1 : ((halfN l.length : Nat) : Int) < (l.length : Int) := by omega
    have hk0 : (0 : Int) < ((halfN l.length : Nat) : Int) := by omega
    have hk2 : ((halfN l.length : Nat) : Int) ≤ (cap : Int) := by omega
    have hk3 : ¬ cap = halfN l.length := by omega
    have hk4 : ((halfN l.length : Nat) : Int) ≤ (l.length : Int) := by omega
    have hk5 : (l.length : Int) ≤ (cap : Int) := by omega
    have hli : (l.length : Int) ≤ 100000000 := by omega
    by_cases hk : i < halfN l.length
    · have HZ := Lib.hid (show pathL l i = pathL (l.take (halfN l.length)) i ++ [rootL (l.drop (halfN l.length))] by rw [path_two l i (by omega), if_pos hk])
      have cR := Lib.hid (fun (w1 : World) (h : Below w.heap.size w w1) => rroot_any (l.drop (halfN l.length)).length (l.drop (halfN l.length)) _ w1 rfl (by rw [List.length_drop]; omega) (hD.below h) w2)
      have cP := Lib.hid (fun (w1 : World) (h : Below w.heap.size w w1) => ih (l.take (halfN l.length)).length (by rw [List.length_take]; omega) (l.take (halfN l.length)) i _ w1 rfl (by rw [List.length_take]; omega) (by rw [List.length_take]; omega) (hT.below h) w1')
      have hAL := Lib.hid (show (pathL (l.take (halfN l.length)) i).length ≤ 100000000 by have := path_len _ (l.take (halfN l.length)) i rfl; rw [List.length_take] at this; omega)
      have hki : (i : Int) < ((halfN l.length : Nat) : Int) := by omega
      generalize rootL (l.drop (halfN l.length)) = y at *
      generalize pathL (l.take (halfN l.length)) i = A at *
      generalize halfN l.length = k at *
      clear hr ih hn h2 hw hw' w1' w2 hT hD hh hk hi
      go_enter Try.func37, Try.ntmps37
      go_wp2_with fail
      refine HH.out.mono ?_
      rintro e w3 ⟨rfl, hw3⟩
      rw [hw3]
      clear hw3
      go_wp2_with fail
      refine wp_region_mv (fun f => Joins strE w 9 A [y] (f 4) (f 9) (f 10)) (by kernel_rfl) (Joins.start (drew_below w)) ?_
      obtain ⟨S, F, hF, hFC⟩ := moved_class (fun f => Joins strE w 9 A [y] (f 4) (f 9) (f 10))
      show wpAnyM _ _ _ _ _ 12 (Array.replicate 12 false) _ _
      refine mv_read 0 hF (fun _ _ _ h => h) rfl (by kernel_rfl) (by kernel_rfl) (by kernel_rfl) (fun K hK => ?_)
      go_simp
      first | refine ⟨_, fun _ => rfl, hK _ _ ?_⟩ | refine hK _ _ ?_
      clear hK K
      refine mv_read 1 hF (fun _ _ _ h => h) rfl (by kernel_rfl) (by kernel_rfl) (by kernel_rfl) (fun K hK => ?_)
      go_simp
      first | refine ⟨_, fun _ => rfl, hK _ _ ?_⟩ | refine hK _ _ ?_
      clear hK K
      refine mv_read 2 hF (fun _ _ _ h => h) rfl (by kernel_rfl) (by kernel_rfl) (by kernel_rfl) (fun K hK => ?_)
      go_simp
      first | refine ⟨_, fun _ => rfl, hK _ _ ?_⟩ | refine hK _ _ ?_
      clear hK K
      refine mv_read 3 hF (fun _ _ _ h => h) rfl (by kernel_rfl) (by kernel_rfl) (by kernel_rfl) (fun K hK => ?_)
      go_simp
      first | refine ⟨_, fun _ => rfl, hK _ _ ?_⟩ | refine hK _ _ ?_
      clear hK K
      refine mv_read 5 hF (fun _ _ _ h => h) rfl (by kernel_rfl) (by kernel_rfl) (by kernel_rfl) (fun K hK => ?_)
      go_simp
      first | refine ⟨_, fun _ => rfl, hK _ _ ?_⟩ | refine hK _ _ ?_
      clear hK K
      refine mv_read 6 hF (fun _ _ _ h => h) rfl (by kernel_rfl) (by kernel_rfl) (by kernel_rfl) (fun K hK => ?_)
      go_simp
      first | refine ⟨_, fun _ => rfl, hK _ _ ?_⟩ | refine hK _ _ ?_
      clear hK K
      refine mv_read 7 hF (fun _ _ _ h => h) rfl (by kernel_rfl) (by kernel_rfl) (by kernel_rfl) (fun K hK => ?_)
      go_simp
      first | refine ⟨_, fun _ => rfl, hK _ _ ?_⟩ | refine hK _ _ ?_
      clear hK K
      refine mv_call 4 37 rfl (by kernel_rfl) rfl rfl eg_rpath (args := #[.slice (some ⟨b, o, none⟩) k cap, .int .i64 (i : Nat)]) rfl (fun _ => True) (fun g w1 ha h0 h => by
          simp only [h0] at h
          exact (cP.out w1 h.1).mono fun e w' ⟨v', h1, h2, h3⟩ => ⟨v', h1, trivial, h.path h2 h3⟩) ?_
      rintro pv -
      refine mv_call1 8 17 rfl (by kernel_rfl) (by kernel_rfl) (by kernel_rfl) rfl rfl eg_rroot (args := #[.slice (some ⟨b, o + k, none⟩) (l.length - k) (cap - k)]) rfl (u := .string y) (fun g w1 _ _ h => (cR.out w1 h.1).mono fun e w' ⟨h1, h2⟩ => ⟨h1, h.on h2⟩) ?_
      refine mv_alone 9 rfl (by kernel_rfl) rfl (fun v => ∃ g, v = .slice (some ⟨g, 0, none⟩) 1 1) (fun g w1 ha h0 h D hD => by
          simp only [h0] at h
          have h8 := h.made #[.string y] rfl (T' := 9)
          clear h
          go_simp
          exact hD _ _ ⟨_, rfl⟩ h8) ?_
      rintro _ ⟨gs, rfl⟩
      refine mv_append 10 rfl (by kernel_rfl) rfl (.tmp 19) (.tmp 24) 26 rfl strT w.heap.size _ _ A [y] rfl rfl (by have := hAL.out; simp; omega) (by decide) (fun g w1 ha h0 h => ?_) (fun _ => True) (fun g w1 v' w' ha h0 h hG => ?_) ?_
      · have e1 : g 9 = some (.slice (some ⟨gs, 0, none⟩) 1 1) := (agree_on 9 ha (by kernel_rfl)).trans rfl
        have e2 : g 4 = some pv := (agree_on 4 ha (by kernel_rfl)).trans rfl
        simp only [e1, e2, h0] at h
        exact h.rows
      · have e1 : g 9 = some (.slice (some ⟨gs, 0, none⟩) 1 1) := (agree_on 9 ha (by kernel_rfl)).trans rfl
        have e2 : g 4 = some pv := (agree_on 4 ha (by kernel_rfl)).trans rfl
        simp only [e1, e2, h0] at h
        refine ⟨trivial, ?_⟩
        show Joins _ _ _ _ _ (g 4) (g 9) _ _
        rw [e1, e2]
        exact h.grew hG
      rintro vz -
      refine mv_read 11 hF (fun _ _ _ h => h) rfl (by kernel_rfl) (by kernel_rfl) (by kernel_rfl) (fun K hK => ?_)
      go_simp
      first | refine ⟨_, fun _ => rfl, hK _ _ ?_⟩ | refine hK _ _ ?_
      clear hK K
      refine mv_end (by kernel_rfl) ?_
      intro w2 hw2
      have HG : Joins strE w 9 A [y] (some pv) (some (.slice (some ⟨gs, 0, none⟩) 1 1)) (some vz) w2 := hw2
      have HG := Lib.hid HG
      clear hw2 hF hFC
      go_wp2
      exact HR.out _ _ ⟨vz, rfl, by rw [HZ.out]; exact HG.out.2.2, HG.out.1⟩
    · have HZ := Lib.hid (show pathL l i = pathL (l.drop (halfN l.length)) (i - halfN l.length) ++ [rootL (l.take (halfN l.length))] by rw [path_two l i (by omega), if_neg hk])
      have cR := Lib.hid (fun (w1 : World) (h : Below w.heap.size w w1) => rroot_any (l.take (halfN l.length)).length (l.take (halfN l.length)) _ w1 rfl (by rw [List.length_take]; omega) (hT.below h) w1')
      have cP := Lib.hid (fun (w1 : World) (h : Below w.heap.size w w1) => ih (l.drop (halfN l.length)).length (by rw [List.length_drop]; omega) (l.drop (halfN l.length)) (i - halfN l.length) _ w1 rfl (by rw [List.length_drop]; omega) (by rw [List.length_drop]; omega) (hD.below h) w2)
      have hAL := Lib.hid (show (pathL (l.drop (halfN l.length)) (i - halfN l.length)).length ≤ 100000000 by have := path_len _ (l.drop (halfN l.length)) (i - halfN l.length) rfl; rw [List.length_drop] at this; omega)
      have hki : ¬ (i : Int) < ((halfN l.length : Nat) : Int) := by omega
      have e2 : (i : Int) - ((halfN l.length : Nat) : Int) = ((i - halfN l.length : Nat) : Int) := by omega
      have hii : i - halfN l.length ≤ 100000000 := by omega
      generalize rootL (l.take (halfN l.length)) = y at *
      generalize pathL (l.drop (halfN l.length)) (i - halfN l.length) = A at *
      generalize i - halfN l.length = i2 at *
      generalize halfN l.length = k at *
      have wi2 : IntKind.i64.wrap ((i2 : Nat) : Int) = ((i2 : Nat) : Int) := by rw [IntKind.wrap_i64]; omega
      clear hr ih hn h2 hw hw' w1' w2 hT hD hh hk hi hii
      go_enter Try.func37, Try.ntmps37
      go_wp2_with fail
      refine HH.out.mono ?_
      rintro e w3 ⟨rfl, hw3⟩
      rw [hw3]
      clear hw3
      go_wp2_with fail
      refine wp_region_mv (fun f => Joins strE w 9 A [y] (f 6) (f 11) (f 12)) (by kernel_rfl) (Joins.start (drew_below w)) ?_
      obtain ⟨S, F, hF, hFC⟩ := moved_class (fun f => Joins strE w 9 A [y] (f 6) (f 11) (f 12))
      show wpAnyM _ _ _ _ _ 14 (Array.replicate 14 false) _ _
      refine mv_read 0 hF (fun _ _ _ h => h) rfl (by kernel_rfl) (by kernel_rfl) (by kernel_rfl) (fun K hK => ?_)
      go_simp
      first | refine ⟨_, fun _ => rfl, hK _ _ ?_⟩ | refine hK _ _ ?_
      clear hK K
      refine mv_read 1 hF (fun _ _ _ h => h) rfl (by kernel_rfl) (by kernel_rfl) (by kernel_rfl) (fun K hK => ?_)
      go_simp
      first | refine ⟨_, fun _ => rfl, hK _ _ ?_⟩ | refine hK _ _ ?_
      clear hK K
      refine mv_read 2 hF (fun _ _ _ h => h) rfl (by kernel_rfl) (by kernel_rfl) (by kernel_rfl) (fun K hK => ?_)
      go_simp
      first | refine ⟨_, fun _ => rfl, hK _ _ ?_⟩ | refine hK _ _ ?_
      clear hK K
      refine mv_read 3 hF (fun _ _ _ h => h) rfl (by kernel_rfl) (by kernel_rfl) (by kernel_rfl) (fun K hK => ?_)
      go_simp
      first | refine ⟨_, fun _ => rfl, hK _ _ ?_⟩ | refine hK _ _ ?_
      clear hK K
      refine mv_read 4 hF (fun _ _ _ h => h) rfl (by kernel_rfl) (by kernel_rfl) (by kernel_rfl) (fun K hK => ?_)
      go_simp
      first | refine ⟨_, fun _ => rfl, hK _ _ ?_⟩ | refine hK _ _ ?_
      clear hK K
      refine mv_read 5 hF (fun _ _ _ h => h) rfl (by kernel_rfl) (by kernel_rfl) (by kernel_rfl) (fun K hK => ?_)
      go_simp
      first | refine ⟨_, fun _ => rfl, hK _ _ ?_⟩ | refine hK _ _ ?_
      clear hK K
      refine mv_read 7 hF (fun _ _ _ h => h) rfl (by kernel_rfl) (by kernel_rfl) (by kernel_rfl) (fun K hK => ?_)
      go_simp
      first | refine ⟨_, fun _ => rfl, hK _ _ ?_⟩ | refine hK _ _ ?_
      clear hK K
      refine mv_read 8 hF (fun _ _ _ h => h) rfl (by kernel_rfl) (by kernel_rfl) (by kernel_rfl) (fun K hK => ?_)
      go_simp
      first | refine ⟨_, fun _ => rfl, hK _ _ ?_⟩ | refine hK _ _ ?_
      clear hK K
      refine mv_read 9 hF (fun _ _ _ h => h) rfl (by kernel_rfl) (by kernel_rfl) (by kernel_rfl) (fun K hK => ?_)
      go_simp
      first | refine ⟨_, fun _ => rfl, hK _ _ ?_⟩ | refine hK _ _ ?_
      clear hK K
      refine mv_call 6 37 rfl (by kernel_rfl) rfl rfl eg_rpath (args := #[.slice (some ⟨b, o + k, none⟩) (l.length - k) (cap - k), .int .i64 (i2 : Nat)]) rfl (fun _ => True) (fun g w1 ha h0 h => by
          simp only [h0] at h
          exact (cP.out w1 h.1).mono fun e w' ⟨v', h1, h2, h3⟩ => ⟨v', h1, trivial, h.path h2 h3⟩) ?_
      rintro pv -
      refine mv_call1 10 17 rfl (by kernel_rfl) (by kernel_rfl) (by kernel_rfl) rfl rfl eg_rroot (args := #[.slice (some ⟨b, o, none⟩) k cap]) rfl (u := .string y) (fun g w1 _ _ h => (cR.out w1 h.1).mono fun e w' ⟨h1, h2⟩ => ⟨h1, h.on h2⟩) ?_
      refine mv_alone 11 rfl (by kernel_rfl) rfl (fun v => ∃ g, v = .slice (some ⟨g, 0, none⟩) 1 1) (fun g w1 ha h0 h D hD => by
          simp only [h0] at h
          have h8 := h.made #[.string y] rfl (T' := 9)
          clear h
          go_simp
          exact hD _ _ ⟨_, rfl⟩ h8) ?_
      rintro _ ⟨gs, rfl⟩
      refine mv_append 12 rfl (by kernel_rfl) rfl (.tmp 32) (.tmp 37) 26 rfl strT w.heap.size _ _ A [y] rfl rfl (by have := hAL.out; simp; omega) (by decide) (fun g w1 ha h0 h => ?_) (fun _ => True) (fun g w1 v' w' ha h0 h hG => ?_) ?_
      · have e1 : g 11 = some (.slice (some ⟨gs, 0, none⟩) 1 1) := (agree_on 11 ha (by kernel_rfl)).trans rfl
        have e2 : g 6 = some pv := (agree_on 6 ha (by kernel_rfl)).trans rfl
        simp only [e1, e2, h0] at h
        exact h.rows
      · have e1 : g 11 = some (.slice (some ⟨gs, 0, none⟩) 1 1) := (agree_on 11 ha (by kernel_rfl)).trans rfl
        have e2 : g 6 = some pv := (agree_on 6 ha (by kernel_rfl)).trans rfl
        simp only [e1, e2, h0] at h
        refine ⟨trivial, ?_⟩
        show Joins _ _ _ _ _ (g 6) (g 11) _ _
        rw [e1, e2]
        exact h.grew hG
      rintro vz -
      refine mv_read 13 hF (fun _ _ _ h => h) rfl (by kernel_rfl) (by kernel_rfl) (by kernel_rfl) (fun K hK => ?_)
      go_simp
      first | refine ⟨_, fun _ => rfl, hK _ _ ?_⟩ | refine hK _ _ ?_
      clear hK K
      refine mv_end (by kernel_rfl) ?_
      intro w2 hw2
      have HG : Joins strE w 9 A [y] (some pv) (some (.slice (some ⟨gs, 0, none⟩) 1 1)) (some vz) w2 := hw2
      have HG := Lib.hid HG
      clear hw2 hF hFC
      go_wp2
      exact HR.out _ _ ⟨vz, rfl, by rw [HZ.out]; exact HG.out.2.2, HG.out.1⟩
  · have HZ := Lib.hid (path_low l i (by omega))
    have hn2 : (l.length : Int) < 2 := by omega
    clear ih hi hb h2 hr hw
    go_enter Try.func37, Try.ntmps37
    go_wp2
    exact HR.out _ _ ⟨_, rfl, by rw [HZ.out]; exact Row.nil _ _ _, Below.refl _ _⟩
end Go.Proofs.Ytelmcoedmkhkjaa
