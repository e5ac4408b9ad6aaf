/- The law's `does`: an act of both disks. -/
import Derived.Test.YtielmlnbjliacaaDiskBoth
import Derived.Test.YtielmlnbjliacaaDiskFlush
import Derived.Test.YtielmlnbjliacaaRDiskFlush
import Derived.Test.YtielmlnbjliacaaRDiskActs
namespace Go.Proofs.Ytielmlnbjliacaa
open Go.RowKit Ks
set_option linter.unusedVariables false
variable {n m : Nat} {vb vc ub uc : Value} {s t : DS}
theorem blk6 {w : World} {b : Nat} {c0 c1 c2 c3 c4 c5 : Value} {T : TypeId} (h : w.heap[b]? = some (.cells #[c0, c1, c2, c3, c4, c5] T (0, 0))) : w.cell? ⟨b, 0, none⟩ = some c0 ∧ w.cell? ⟨b, 1, none⟩ = some c1 ∧ w.cell? ⟨b, 2, none⟩ = some c2 ∧ w.cell? ⟨b, 3, none⟩ = some c3 ∧ w.cell? ⟨b, 4, none⟩ = some c4 ∧ w.cell? ⟨b, 5, none⟩ = some c5 := by
  refine ⟨?_, ?_, ?_, ?_, ?_, ?_⟩
  all_goals (rw [cell_of_row w b _ _ _ _ h]; rfl)
theorem eg_text : ∀ args w, (callFunc 17 args).run Try.prog w = .ok (.enter 17 args) w := fun _ _ => rfl
theorem eg_write : ∀ args w, (callFunc 16 args).run Try.prog w = .ok (.enter 16 args) w := fun _ _ => rfl
theorem eg_rwrite : ∀ args w, (callFunc 32 args).run Try.prog w = .ok (.enter 32 args) w := fun _ _ => rfl
theorem eg_over : ∀ args w, (callFunc 23 args).run Try.prog w = .ok (.enter 23 args) w := fun _ _ => rfl
theorem eg_rover : ∀ args w, (callFunc 38 args).run Try.prog w = .ok (.enter 38 args) w := fun _ _ => rfl
theorem eg_arm : ∀ args w, (callFunc 22 args).run Try.prog w = .ok (.enter 22 args) w := fun _ _ => rfl
theorem eg_rarm : ∀ args w, (callFunc 35 args).run Try.prog w = .ok (.enter 35 args) w := fun _ _ => rfl
theorem eg_seize : ∀ args w, (callFunc 15 args).run Try.prog w = .ok (.enter 15 args) w := fun _ _ => rfl
theorem eg_same : ∀ args w, (callFunc 19 args).run Try.prog w = .ok (.enter 19 args) w := fun _ _ => rfl
theorem eg_down : ∀ args w, (callFunc 20 args).run Try.prog w = .ok (.enter 20 args) w := fun _ _ => rfl
theorem eg_size : ∀ args w, (callFunc 24 args).run Try.prog w = .ok (.enter 24 args) w := fun _ _ => rfl

set_option maxHeartbeats 4000000 in
set_option maxRecDepth 100000 in
theorem does1 (at_ ib : Int) (tx : ByteArray) (raw : Bool) (ka : Option Addr) (kn kc : Nat) (w : World) (h : Both w n vb vc s m ub uc t) (T : ByteArray) (hT : T = if raw then tx else full4 tx) :
    Calls Try.prog 12 #[.pointer (some ⟨n, 0, none⟩), .pointer (some ⟨m, 0, none⟩), .agg #[.int .i64 1, .int .i64 at_, .int .i64 ib, .string tx, .bool raw, .slice ka kn kc]] w
      (Done w n vb vc s (writeD s at_ T) m ub uc t (writeD t at_ T)) := by
  refine calls_by fun R HR => ?_
  obtain ⟨W, hW⟩ : ∃ W, w.alloc (.cells #[.int .i64 1, .int .i64 at_, .int .i64 ib, .string tx, .bool raw, .slice ka kn kc] 33) = W := ⟨_, rfl⟩
  have hb : Below w.heap.size w W := by rw [← hW]; exact alloc_below w _
  have hk : W.heap[w.heap.size]? = some (.cells #[.int .i64 1, .int .i64 at_, .int .i64 ib, .string tx, .bool raw, .slice ka kn kc] 33 (0, 0)) := by rw [← hW]; exact alloc_new w _
  have hnF : ¬ FG n vb vc m ub uc w.heap.size := fun hk => Nat.lt_irrefl _ (h.lt _ hk)
  obtain ⟨c0, c1, c2, c3, c4, c5⟩ := blk6 hk
  have H := Lib.hid (And.intro hb (And.intro (h.below hb) (And.intro hnF hk)))
  have HT : Hid (actText ⟨1, at_, ib, tx, raw, []⟩ = T) := Lib.hid (by rw [hT]; rfl)
  clear hb hk h hnF hT
  go_enter Try.func12, Try.ntmps12
  go_wp2_with fail
  refine wp_region_mv (fun f => Stage W n vb vc s (writeD s at_ T) m ub uc t (writeD t at_ T) (f 5).isSome (f 11).isSome) (by kernel_rfl) ((Stage.start H.out.2.1).on (drew_below W)) ?_
  obtain ⟨S, F, hF, hFC⟩ := moved_class (fun f => Stage W n vb vc s (writeD s at_ T) m ub uc t (writeD t at_ T) (f 5).isSome (f 11).isSome)
  have k0 : ∀ s, (F s).cell? ⟨w.heap.size, 0, none⟩ = some (.int .i64 1) := fun s => (hFC s).choose_spec.cell c0 H.out.2.2.1
  have k1 : ∀ s, (F s).cell? ⟨w.heap.size, 1, none⟩ = some (.int .i64 at_) := fun s => (hFC s).choose_spec.cell c1 H.out.2.2.1
  have k2 : ∀ s, (F s).cell? ⟨w.heap.size, 2, none⟩ = some (.int .i64 ib) := fun s => (hFC s).choose_spec.cell c2 H.out.2.2.1
  have k3 : ∀ s, (F s).cell? ⟨w.heap.size, 3, none⟩ = some (.string tx) := fun s => (hFC s).choose_spec.cell c3 H.out.2.2.1
  have k4 : ∀ s, (F s).cell? ⟨w.heap.size, 4, none⟩ = some (.bool raw) := fun s => (hFC s).choose_spec.cell c4 H.out.2.2.1
  have k5 : ∀ s, (F s).cell? ⟨w.heap.size, 5, none⟩ = some (.slice ka kn kc) := fun s => (hFC s).choose_spec.cell c5 H.out.2.2.1
  clear c0 c1 c2 c3 c4 c5
  show wpAnyM _ _ _ _ _ 14 (Array.replicate 14 false) _ _
  refine mv_read 0 hF (fun _ _ _ h => h) rfl (by kernel_rfl) (by kernel_rfl) (by kernel_rfl) (fun K hK => ?_)
  go_simp
  first | refine ⟨_, fun _ => rfl, hK _ _ ?_⟩ | refine hK _ _ ?_
  clear hK K
  refine mv_read 1 hF (fun _ _ _ h => h) rfl (by kernel_rfl) (by kernel_rfl) (by kernel_rfl) (fun K hK => ?_)
  go_simp
  first | refine ⟨_, fun _ => rfl, hK _ _ ?_⟩ | refine hK _ _ ?_
  clear hK K
  refine mv_read 2 hF (fun _ _ _ h => h) rfl (by kernel_rfl) (by kernel_rfl) (by kernel_rfl) (fun K hK => ?_)
  go_simp
  first | refine ⟨_, fun _ => rfl, hK _ _ ?_⟩ | refine hK _ _ ?_
  clear hK K
  refine mv_read 3 hF (fun _ _ _ h => h) rfl (by kernel_rfl) (by kernel_rfl) (by kernel_rfl) (fun K hK => ?_)
  go_simp
  first | refine ⟨_, fun _ => rfl, hK _ _ ?_⟩ | refine hK _ _ ?_
  clear hK K
  refine mv_call1 4 17 rfl (by kernel_rfl) (by kernel_rfl) (by kernel_rfl) rfl rfl eg_text (args := #[.agg #[.int .i64 1, .int .i64 at_, .int .i64 ib, .string tx, .bool raw, .slice ka kn kc]]) rfl
    (u := .string T) (fun g w _ _ h => (acttext_any ⟨1, at_, ib, tx, raw, []⟩ (.slice ka kn kc) w).mono fun e w' ⟨h1, h2⟩ => ⟨by rw [h1, HT.out], h.on h2⟩) ?_
  refine mv_call1 5 16 rfl (by kernel_rfl) (by kernel_rfl) (by kernel_rfl) rfl rfl eg_write (args := #[.pointer (some ⟨n, 0, none⟩), .int .i64 at_, .string T]) rfl
    (u := .int .i64 (writeE s at_ T)) (fun g w _ h0 h => ?_) ?_
  · simp only [h0] at h
    exact h.left fun vb vc w hd => (dwrite_any at_ T w hd).mono fun e w' ⟨vc', h1, h2, h3⟩ => ⟨vb, vc', h1, h2, h3⟩
  refine mv_read 6 hF (fun _ _ _ h => h) rfl (by kernel_rfl) (by kernel_rfl) (by kernel_rfl) (fun K hK => ?_)
  go_simp
  first | refine ⟨_, fun _ => rfl, hK _ _ ?_⟩ | refine hK _ _ ?_
  clear hK K
  refine mv_read 7 hF (fun _ _ _ h => h) rfl (by kernel_rfl) (by kernel_rfl) (by kernel_rfl) (fun K hK => ?_)
  go_simp
  first | refine ⟨_, fun _ => rfl, hK _ _ ?_⟩ | refine hK _ _ ?_
  clear hK K
  refine mv_read 8 hF (fun _ _ _ h => h) rfl (by kernel_rfl) (by kernel_rfl) (by kernel_rfl) (fun K hK => ?_)
  go_simp
  first | refine ⟨_, fun _ => rfl, hK _ _ ?_⟩ | refine hK _ _ ?_
  clear hK K
  refine mv_read 9 hF (fun _ _ _ h => h) rfl (by kernel_rfl) (by kernel_rfl) (by kernel_rfl) (fun K hK => ?_)
  go_simp
  first | refine ⟨_, fun _ => rfl, hK _ _ ?_⟩ | refine hK _ _ ?_
  clear hK K
  refine mv_call1 10 17 rfl (by kernel_rfl) (by kernel_rfl) (by kernel_rfl) rfl rfl eg_text (args := #[.agg #[.int .i64 1, .int .i64 at_, .int .i64 ib, .string tx, .bool raw, .slice ka kn kc]]) rfl
    (u := .string T) (fun g w _ _ h => (acttext_any ⟨1, at_, ib, tx, raw, []⟩ (.slice ka kn kc) w).mono fun e w' ⟨h1, h2⟩ => ⟨by rw [h1, HT.out], h.on h2⟩) ?_
  refine mv_call1 11 32 rfl (by kernel_rfl) (by kernel_rfl) (by kernel_rfl) rfl rfl eg_rwrite (args := #[.pointer (some ⟨m, 0, none⟩), .int .i64 at_, .string T]) rfl
    (u := .int .i64 (writeE t at_ T)) (fun g w _ h0 h => ?_) ?_
  · simp only [h0] at h
    exact h.right fun ub uc w hd => (rwrite_any at_ T w hd).mono fun e w' ⟨uc', h1, h2, h3⟩ => ⟨ub, uc', h1, h2, h3⟩
  refine mv_read 12 hF (fun _ _ _ h => h) rfl (by kernel_rfl) (by kernel_rfl) (by kernel_rfl) (fun K hK => ?_)
  go_simp
  first | refine ⟨_, fun _ => rfl, hK _ _ ?_⟩ | refine hK _ _ ?_
  clear hK K
  refine mv_read 13 hF (fun _ _ _ h => h) rfl (by kernel_rfl) (by kernel_rfl) (by kernel_rfl) (fun K hK => ?_)
  go_simp
  first | refine ⟨_, fun _ => rfl, hK _ _ ?_⟩ | refine hK _ _ ?_
  clear hK K
  refine mv_end (by kernel_rfl) ?_
  intro w' hw'
  change Stage W n vb vc s (writeD s at_ T) m ub uc t (writeD t at_ T) true true w' at hw'
  have HW := Lib.hid hw'
  clear hw' hF hFC k0 k1 k2 k3 k4 k5
  go_wp2
  obtain ⟨a, b, c, d, h1, h2⟩ := HW.out
  exact HR.out _ _ ⟨_, rfl, (fun e => by subst e; simp), a, b, c, d, h1, (Turn.of_below _ H.out.1).trans h2⟩

set_option maxHeartbeats 4000000 in
set_option maxRecDepth 100000 in
theorem does7 (at_ ib : Int) (tx : ByteArray) (raw : Bool) (ka : Option Addr) (kn kc : Nat) (w : World) (h : Both w n vb vc s m ub uc t) (T : ByteArray) (hT : T = if raw then tx else full4 tx) :
    Calls Try.prog 12 #[.pointer (some ⟨n, 0, none⟩), .pointer (some ⟨m, 0, none⟩), .agg #[.int .i64 7, .int .i64 at_, .int .i64 ib, .string tx, .bool raw, .slice ka kn kc]] w
      (Done w n vb vc s (overD s at_ T) m ub uc t (overD t at_ T)) := by
  refine calls_by fun R HR => ?_
  obtain ⟨W, hW⟩ : ∃ W, w.alloc (.cells #[.int .i64 7, .int .i64 at_, .int .i64 ib, .string tx, .bool raw, .slice ka kn kc] 33) = W := ⟨_, rfl⟩
  have hb : Below w.heap.size w W := by rw [← hW]; exact alloc_below w _
  have hk : W.heap[w.heap.size]? = some (.cells #[.int .i64 7, .int .i64 at_, .int .i64 ib, .string tx, .bool raw, .slice ka kn kc] 33 (0, 0)) := by rw [← hW]; exact alloc_new w _
  have hnF : ¬ FG n vb vc m ub uc w.heap.size := fun hk => Nat.lt_irrefl _ (h.lt _ hk)
  obtain ⟨c0, c1, c2, c3, c4, c5⟩ := blk6 hk
  have H := Lib.hid (And.intro hb (And.intro (h.below hb) (And.intro hnF hk)))
  have HT : Hid (actText ⟨7, at_, ib, tx, raw, []⟩ = T) := Lib.hid (by rw [hT]; rfl)
  clear hb hk h hnF hT
  go_enter Try.func12, Try.ntmps12
  go_wp2_with fail
  refine wp_region_mv (fun f => Stage W n vb vc s (overD s at_ T) m ub uc t (overD t at_ T) (f 5).isSome (f 11).isSome) (by kernel_rfl) ((Stage.start H.out.2.1).on (drew_below W)) ?_
  obtain ⟨S, F, hF, hFC⟩ := moved_class (fun f => Stage W n vb vc s (overD s at_ T) m ub uc t (overD t at_ T) (f 5).isSome (f 11).isSome)
  have k0 : ∀ s, (F s).cell? ⟨w.heap.size, 0, none⟩ = some (.int .i64 7) := fun s => (hFC s).choose_spec.cell c0 H.out.2.2.1
  have k1 : ∀ s, (F s).cell? ⟨w.heap.size, 1, none⟩ = some (.int .i64 at_) := fun s => (hFC s).choose_spec.cell c1 H.out.2.2.1
  have k2 : ∀ s, (F s).cell? ⟨w.heap.size, 2, none⟩ = some (.int .i64 ib) := fun s => (hFC s).choose_spec.cell c2 H.out.2.2.1
  have k3 : ∀ s, (F s).cell? ⟨w.heap.size, 3, none⟩ = some (.string tx) := fun s => (hFC s).choose_spec.cell c3 H.out.2.2.1
  have k4 : ∀ s, (F s).cell? ⟨w.heap.size, 4, none⟩ = some (.bool raw) := fun s => (hFC s).choose_spec.cell c4 H.out.2.2.1
  have k5 : ∀ s, (F s).cell? ⟨w.heap.size, 5, none⟩ = some (.slice ka kn kc) := fun s => (hFC s).choose_spec.cell c5 H.out.2.2.1
  clear c0 c1 c2 c3 c4 c5
  show wpAnyM _ _ _ _ _ 14 (Array.replicate 14 false) _ _
  refine mv_read 0 hF (fun _ _ _ h => h) rfl (by kernel_rfl) (by kernel_rfl) (by kernel_rfl) (fun K hK => ?_)
  go_simp
  first | refine ⟨_, fun _ => rfl, hK _ _ ?_⟩ | refine hK _ _ ?_
  clear hK K
  refine mv_read 1 hF (fun _ _ _ h => h) rfl (by kernel_rfl) (by kernel_rfl) (by kernel_rfl) (fun K hK => ?_)
  go_simp
  first | refine ⟨_, fun _ => rfl, hK _ _ ?_⟩ | refine hK _ _ ?_
  clear hK K
  refine mv_read 2 hF (fun _ _ _ h => h) rfl (by kernel_rfl) (by kernel_rfl) (by kernel_rfl) (fun K hK => ?_)
  go_simp
  first | refine ⟨_, fun _ => rfl, hK _ _ ?_⟩ | refine hK _ _ ?_
  clear hK K
  refine mv_read 3 hF (fun _ _ _ h => h) rfl (by kernel_rfl) (by kernel_rfl) (by kernel_rfl) (fun K hK => ?_)
  go_simp
  first | refine ⟨_, fun _ => rfl, hK _ _ ?_⟩ | refine hK _ _ ?_
  clear hK K
  refine mv_call1 4 17 rfl (by kernel_rfl) (by kernel_rfl) (by kernel_rfl) rfl rfl eg_text (args := #[.agg #[.int .i64 7, .int .i64 at_, .int .i64 ib, .string tx, .bool raw, .slice ka kn kc]]) rfl
    (u := .string T) (fun g w _ _ h => (acttext_any ⟨7, at_, ib, tx, raw, []⟩ (.slice ka kn kc) w).mono fun e w' ⟨h1, h2⟩ => ⟨by rw [h1, HT.out], h.on h2⟩) ?_
  refine mv_call1 5 23 rfl (by kernel_rfl) (by kernel_rfl) (by kernel_rfl) rfl rfl eg_over (args := #[.pointer (some ⟨n, 0, none⟩), .int .i64 at_, .string T]) rfl
    (u := .int .i64 (placeE s at_ T)) (fun g w _ h0 h => ?_) ?_
  · simp only [h0] at h
    exact h.left fun vb vc w hd => (dover_any at_ T w hd).mono fun e w' ⟨h1, h2, h3⟩ => ⟨vb, vc, h1, h2, h3⟩
  refine mv_read 6 hF (fun _ _ _ h => h) rfl (by kernel_rfl) (by kernel_rfl) (by kernel_rfl) (fun K hK => ?_)
  go_simp
  first | refine ⟨_, fun _ => rfl, hK _ _ ?_⟩ | refine hK _ _ ?_
  clear hK K
  refine mv_read 7 hF (fun _ _ _ h => h) rfl (by kernel_rfl) (by kernel_rfl) (by kernel_rfl) (fun K hK => ?_)
  go_simp
  first | refine ⟨_, fun _ => rfl, hK _ _ ?_⟩ | refine hK _ _ ?_
  clear hK K
  refine mv_read 8 hF (fun _ _ _ h => h) rfl (by kernel_rfl) (by kernel_rfl) (by kernel_rfl) (fun K hK => ?_)
  go_simp
  first | refine ⟨_, fun _ => rfl, hK _ _ ?_⟩ | refine hK _ _ ?_
  clear hK K
  refine mv_read 9 hF (fun _ _ _ h => h) rfl (by kernel_rfl) (by kernel_rfl) (by kernel_rfl) (fun K hK => ?_)
  go_simp
  first | refine ⟨_, fun _ => rfl, hK _ _ ?_⟩ | refine hK _ _ ?_
  clear hK K
  refine mv_call1 10 17 rfl (by kernel_rfl) (by kernel_rfl) (by kernel_rfl) rfl rfl eg_text (args := #[.agg #[.int .i64 7, .int .i64 at_, .int .i64 ib, .string tx, .bool raw, .slice ka kn kc]]) rfl
    (u := .string T) (fun g w _ _ h => (acttext_any ⟨7, at_, ib, tx, raw, []⟩ (.slice ka kn kc) w).mono fun e w' ⟨h1, h2⟩ => ⟨by rw [h1, HT.out], h.on h2⟩) ?_
  refine mv_call1 11 38 rfl (by kernel_rfl) (by kernel_rfl) (by kernel_rfl) rfl rfl eg_rover (args := #[.pointer (some ⟨m, 0, none⟩), .int .i64 at_, .string T]) rfl
    (u := .int .i64 (placeE t at_ T)) (fun g w _ h0 h => ?_) ?_
  · simp only [h0] at h
    exact h.right fun ub uc w hd => (rover_any at_ T w hd).mono fun e w' ⟨h1, h2, h3⟩ => ⟨ub, uc, h1, h2, h3⟩
  refine mv_read 12 hF (fun _ _ _ h => h) rfl (by kernel_rfl) (by kernel_rfl) (by kernel_rfl) (fun K hK => ?_)
  go_simp
  first | refine ⟨_, fun _ => rfl, hK _ _ ?_⟩ | refine hK _ _ ?_
  clear hK K
  refine mv_read 13 hF (fun _ _ _ h => h) rfl (by kernel_rfl) (by kernel_rfl) (by kernel_rfl) (fun K hK => ?_)
  go_simp
  first | refine ⟨_, fun _ => rfl, hK _ _ ?_⟩ | refine hK _ _ ?_
  clear hK K
  refine mv_end (by kernel_rfl) ?_
  intro w' hw'
  change Stage W n vb vc s (overD s at_ T) m ub uc t (overD t at_ T) true true w' at hw'
  have HW := Lib.hid hw'
  clear hw' hF hFC k0 k1 k2 k3 k4 k5
  go_wp2
  obtain ⟨a, b, c, d, h1, h2⟩ := HW.out
  exact HR.out _ _ ⟨_, rfl, (fun e => by subst e; simp), a, b, c, d, h1, (Turn.of_below _ H.out.1).trans h2⟩

set_option maxHeartbeats 4000000 in
set_option maxRecDepth 100000 in
theorem does4 (at_ ib : Int) (tx : ByteArray) (raw : Bool) (ka : Option Addr) (kn kc : Nat) (w : World) (h : Both w n vb vc s m ub uc t) (hib : ib ≤ 9223372036854775807) :
    Calls Try.prog 12 #[.pointer (some ⟨n, 0, none⟩), .pointer (some ⟨m, 0, none⟩), .agg #[.int .i64 4, .int .i64 at_, .int .i64 ib, .string tx, .bool raw, .slice ka kn kc]] w
      (Done w n vb vc s (armD s ib) m ub uc t (armD t ib)) := by
  refine calls_by fun R HR => ?_
  obtain ⟨W, hW⟩ : ∃ W, w.alloc (.cells #[.int .i64 4, .int .i64 at_, .int .i64 ib, .string tx, .bool raw, .slice ka kn kc] 33) = W := ⟨_, rfl⟩
  have hb : Below w.heap.size w W := by rw [← hW]; exact alloc_below w _
  have hk : W.heap[w.heap.size]? = some (.cells #[.int .i64 4, .int .i64 at_, .int .i64 ib, .string tx, .bool raw, .slice ka kn kc] 33 (0, 0)) := by rw [← hW]; exact alloc_new w _
  have hnF : ¬ FG n vb vc m ub uc w.heap.size := fun hk => Nat.lt_irrefl _ (h.lt _ hk)
  obtain ⟨c0, c1, c2, c3, c4, c5⟩ := blk6 hk
  have H := Lib.hid (And.intro hb (And.intro (h.below hb) (And.intro hnF hk)))
  have HI := Lib.hid hib
  clear hb hk h hnF hib
  go_enter Try.func12, Try.ntmps12
  go_wp2_with fail
  refine wp_region_mv (fun f => Stage W n vb vc s (armD s ib) m ub uc t (armD t ib) (f 3).isSome (f 7).isSome) (by kernel_rfl) ((Stage.start H.out.2.1).on (drew_below W)) ?_
  obtain ⟨S, F, hF, hFC⟩ := moved_class (fun f => Stage W n vb vc s (armD s ib) m ub uc t (armD t ib) (f 3).isSome (f 7).isSome)
  have k0 : ∀ s, (F s).cell? ⟨w.heap.size, 0, none⟩ = some (.int .i64 4) := fun s => (hFC s).choose_spec.cell c0 H.out.2.2.1
  have k1 : ∀ s, (F s).cell? ⟨w.heap.size, 1, none⟩ = some (.int .i64 at_) := fun s => (hFC s).choose_spec.cell c1 H.out.2.2.1
  have k2 : ∀ s, (F s).cell? ⟨w.heap.size, 2, none⟩ = some (.int .i64 ib) := fun s => (hFC s).choose_spec.cell c2 H.out.2.2.1
  have k3 : ∀ s, (F s).cell? ⟨w.heap.size, 3, none⟩ = some (.string tx) := fun s => (hFC s).choose_spec.cell c3 H.out.2.2.1
  have k4 : ∀ s, (F s).cell? ⟨w.heap.size, 4, none⟩ = some (.bool raw) := fun s => (hFC s).choose_spec.cell c4 H.out.2.2.1
  have k5 : ∀ s, (F s).cell? ⟨w.heap.size, 5, none⟩ = some (.slice ka kn kc) := fun s => (hFC s).choose_spec.cell c5 H.out.2.2.1
  clear c0 c1 c2 c3 c4 c5
  show wpAnyM _ _ _ _ _ 10 (Array.replicate 10 false) _ _
  refine mv_read 0 hF (fun _ _ _ h => h) rfl (by kernel_rfl) (by kernel_rfl) (by kernel_rfl) (fun K hK => ?_)
  go_simp
  first | refine ⟨_, fun _ => rfl, hK _ _ ?_⟩ | refine hK _ _ ?_
  clear hK K
  refine mv_read 1 hF (fun _ _ _ h => h) rfl (by kernel_rfl) (by kernel_rfl) (by kernel_rfl) (fun K hK => ?_)
  go_simp
  first | refine ⟨_, fun _ => rfl, hK _ _ ?_⟩ | refine hK _ _ ?_
  clear hK K
  refine mv_read 2 hF (fun _ _ _ h => h) rfl (by kernel_rfl) (by kernel_rfl) (by kernel_rfl) (fun K hK => ?_)
  go_simp
  first | refine ⟨_, fun _ => rfl, hK _ _ ?_⟩ | refine hK _ _ ?_
  clear hK K
  refine mv_call1 3 22 rfl (by kernel_rfl) (by kernel_rfl) (by kernel_rfl) rfl rfl eg_arm (args := #[.pointer (some ⟨n, 0, none⟩), .int .i64 ib]) rfl
    (u := .int .i64 (armE s ib)) (fun g w _ h0 h => ?_) ?_
  · simp only [h0] at h
    exact h.left fun vb vc w hd => (darm_any ib w hd HI.out).mono fun e w' ⟨h1, h2, h3⟩ => ⟨vb, vc, h1, h2, h3⟩
  refine mv_read 4 hF (fun _ _ _ h => h) rfl (by kernel_rfl) (by kernel_rfl) (by kernel_rfl) (fun K hK => ?_)
  go_simp
  first | refine ⟨_, fun _ => rfl, hK _ _ ?_⟩ | refine hK _ _ ?_
  clear hK K
  refine mv_read 5 hF (fun _ _ _ h => h) rfl (by kernel_rfl) (by kernel_rfl) (by kernel_rfl) (fun K hK => ?_)
  go_simp
  first | refine ⟨_, fun _ => rfl, hK _ _ ?_⟩ | refine hK _ _ ?_
  clear hK K
  refine mv_read 6 hF (fun _ _ _ h => h) rfl (by kernel_rfl) (by kernel_rfl) (by kernel_rfl) (fun K hK => ?_)
  go_simp
  first | refine ⟨_, fun _ => rfl, hK _ _ ?_⟩ | refine hK _ _ ?_
  clear hK K
  refine mv_call1 7 35 rfl (by kernel_rfl) (by kernel_rfl) (by kernel_rfl) rfl rfl eg_rarm (args := #[.pointer (some ⟨m, 0, none⟩), .int .i64 ib]) rfl
    (u := .int .i64 (armE t ib)) (fun g w _ h0 h => ?_) ?_
  · simp only [h0] at h
    exact h.right fun ub uc w hd => (rarm_any ib w hd HI.out).mono fun e w' ⟨h1, h2, h3⟩ => ⟨ub, uc, h1, h2, h3⟩
  refine mv_read 8 hF (fun _ _ _ h => h) rfl (by kernel_rfl) (by kernel_rfl) (by kernel_rfl) (fun K hK => ?_)
  go_simp
  first | refine ⟨_, fun _ => rfl, hK _ _ ?_⟩ | refine hK _ _ ?_
  clear hK K
  refine mv_read 9 hF (fun _ _ _ h => h) rfl (by kernel_rfl) (by kernel_rfl) (by kernel_rfl) (fun K hK => ?_)
  go_simp
  first | refine ⟨_, fun _ => rfl, hK _ _ ?_⟩ | refine hK _ _ ?_
  clear hK K
  refine mv_end (by kernel_rfl) ?_
  intro w' hw'
  change Stage W n vb vc s (armD s ib) m ub uc t (armD t ib) true true w' at hw'
  have HW := Lib.hid hw'
  clear hw' hF hFC k0 k1 k2 k3 k4 k5
  go_wp2
  obtain ⟨a, b, c, d, h1, h2⟩ := HW.out
  exact HR.out _ _ ⟨_, rfl, (fun e => by subst e; simp), a, b, c, d, h1, (Turn.of_below _ H.out.1).trans h2⟩

set_option maxHeartbeats 4000000 in
set_option maxRecDepth 100000 in
theorem does2 (at_ ib : Int) (tx : ByteArray) (raw : Bool) (ka : Option Addr) (kn kc : Nat) (w : World) (h : Both w n vb vc s m ub uc t) :
    Calls Try.prog 12 #[.pointer (some ⟨n, 0, none⟩), .pointer (some ⟨m, 0, none⟩), .agg #[.int .i64 2, .int .i64 at_, .int .i64 ib, .string tx, .bool raw, .slice ka kn kc]] w
      (Done w n vb vc s s m ub uc t t) := by
  refine calls_by fun R HR => ?_
  obtain ⟨W, hW⟩ : ∃ W, w.alloc (.cells #[.int .i64 2, .int .i64 at_, .int .i64 ib, .string tx, .bool raw, .slice ka kn kc] 33) = W := ⟨_, rfl⟩
  have hb : Below w.heap.size w W := by rw [← hW]; exact alloc_below w _
  have hk : W.heap[w.heap.size]? = some (.cells #[.int .i64 2, .int .i64 at_, .int .i64 ib, .string tx, .bool raw, .slice ka kn kc] 33 (0, 0)) := by rw [← hW]; exact alloc_new w _
  have hnF : ¬ FG n vb vc m ub uc w.heap.size := fun hk => Nat.lt_irrefl _ (h.lt _ hk)
  obtain ⟨c0, c1, c2, c3, c4, c5⟩ := blk6 hk
  have H := Lib.hid (And.intro hb (And.intro (h.below hb) (And.intro hnF hk)))
  clear hb hk h hnF
  go_enter Try.func12, Try.ntmps12
  go_wp2_with fail
  refine (dread_any at_ _ H.out.2.1.p).mono ?_
  rintro e w1 ⟨rfl, rfl⟩
  go_wp2_with fail
  refine (rread_any at_ _ H.out.2.1.r).mono ?_
  rintro e w1 ⟨rfl, rfl⟩
  have hv : s = t → (readD s at_).1 = (readD t at_).1 ∧ (readD s at_).2 = (readD t at_).2 := fun e => by subst e; exact ⟨rfl, rfl⟩
  have HV := Lib.hid hv
  clear hv
  generalize (readD s at_).1 = x1 at *
  generalize (readD t at_).1 = x2 at *
  generalize (readD s at_).2 = y1 at *
  generalize (readD t at_).2 = y2 at *
  have fin : ∀ r, (s = t → r = true) → Done w n vb vc s s m ub uc t t (.returned (.bool r)) w1 := fun r hr => ⟨r, rfl, hr, _, _, _, _, H.out.2.1, Turn.of_below _ H.out.1⟩
  have FIN := Lib.hid fin
  clear fin
  by_cases hx : x1 = x2
  · subst hx
    go_wp2
    exact HR.out _ _ (FIN.out (y1 == y2) fun e => by rw [(HV.out e).2]; simp)
  · have hne := text_ne hx
    have HX := Lib.hid hx
    clear hx
    go_wp2
    exact HR.out _ _ (FIN.out false fun e => absurd (HV.out e).1 HX.out)

set_option maxHeartbeats 4000000 in
set_option maxRecDepth 100000 in
theorem does3 (at_ ib : Int) (tx : ByteArray) (raw : Bool) (ka : Option Addr) (kn kc : Nat) (w : World) (h : Both w n vb vc s m ub uc t) :
    Calls Try.prog 12 #[.pointer (some ⟨n, 0, none⟩), .pointer (some ⟨m, 0, none⟩), .agg #[.int .i64 3, .int .i64 at_, .int .i64 ib, .string tx, .bool raw, .slice ka kn kc]] w
      (Done w n vb vc s (flushD s) m ub uc t (flushD t)) := by
  refine calls_by fun R HR => ?_
  obtain ⟨W, hW⟩ : ∃ W, w.alloc (.cells #[.int .i64 3, .int .i64 at_, .int .i64 ib, .string tx, .bool raw, .slice ka kn kc] 33) = W := ⟨_, rfl⟩
  have hb : Below w.heap.size w W := by rw [← hW]; exact alloc_below w _
  have hk : W.heap[w.heap.size]? = some (.cells #[.int .i64 3, .int .i64 at_, .int .i64 ib, .string tx, .bool raw, .slice ka kn kc] 33 (0, 0)) := by rw [← hW]; exact alloc_new w _
  have hnF : ¬ FG n vb vc m ub uc w.heap.size := fun hk => Nat.lt_irrefl _ (h.lt _ hk)
  obtain ⟨c0, c1, c2, c3, c4, c5⟩ := blk6 hk
  have H := Lib.hid (And.intro hb (And.intro (h.below hb) (And.intro hnF hk)))
  clear hb hk h hnF
  go_enter Try.func12, Try.ntmps12
  go_wp2_with fail
  refine (dflush_any _ H.out.2.1.p).mono ?_
  rintro e w1 ⟨vc', rfl, hd1, ht1⟩
  obtain ⟨q1, q2⟩ := H.out.2.1.left hd1 ht1
  have H1 := Lib.hid (And.intro q1 q2)
  clear hd1 ht1 q1 q2 c0 c1 c2 c3 c4 c5
  go_wp2_with fail
  refine (rflush_any _ H1.out.1.r).mono ?_
  rintro e w2 ⟨uc', rfl, hd2, ht2⟩
  obtain ⟨q1, q2⟩ := H1.out.1.right hd2 ht2
  have H2 := Lib.hid (And.intro q1 (H1.out.2.trans q2))
  clear hd2 ht2 q1 q2
  go_wp2
  exact HR.out _ _ ⟨_, rfl, (fun e => by subst e; simp), _, _, _, _, H2.out.1, (Turn.of_below _ H.out.1).trans H2.out.2⟩

set_option maxHeartbeats 4000000 in
set_option maxRecDepth 100000 in
theorem does5 (at_ ib : Int) (tx : ByteArray) (raw : Bool) (ka : Option Addr) (kn kc : Nat) (w : World) (h : Both w n vb vc s m ub uc t) (keep : List Int) (hk : RdI w (.slice ka kn kc) keep) (hkl : keep.length ≤ 9223372036854775807) (hfar : keep ≠ [] → ∀ b o, ka = some ⟨b, o, none⟩ → ¬ DF m ub uc b) :
    Calls Try.prog 12 #[.pointer (some ⟨n, 0, none⟩), .pointer (some ⟨m, 0, none⟩), .agg #[.int .i64 5, .int .i64 at_, .int .i64 ib, .string tx, .bool raw, .slice ka kn kc]] w
      (Done w n vb vc s (crashD s keep) m ub uc t (crashD t keep)) := by
  refine calls_by fun R HR => ?_
  obtain ⟨W, hW⟩ : ∃ W, w.alloc (.cells #[.int .i64 5, .int .i64 at_, .int .i64 ib, .string tx, .bool raw, .slice ka kn kc] 33) = W := ⟨_, rfl⟩
  have hb : Below w.heap.size w W := by rw [← hW]; exact alloc_below w _
  have hkk : W.heap[w.heap.size]? = some (.cells #[.int .i64 5, .int .i64 at_, .int .i64 ib, .string tx, .bool raw, .slice ka kn kc] 33 (0, 0)) := by rw [← hW]; exact alloc_new w _
  have hnF : ¬ FG n vb vc m ub uc w.heap.size := fun hk => Nat.lt_irrefl _ (h.lt _ hk)
  obtain ⟨c0, c1, c2, c3, c4, c5⟩ := blk6 hkk
  have H := Lib.hid (And.intro hb (And.intro (h.below hb) (And.intro hnF hkk)))
  have HK := Lib.hid (And.intro (hk.below hb) (And.intro hkl hfar))
  clear hb hk h hnF hkk hkl hfar
  go_enter Try.func12, Try.ntmps12
  go_wp2_with fail
  refine (rcrash_any (.slice ka kn kc) keep _ H.out.2.1.r HK.out.1 HK.out.2.1 (fun h0 b o m' cap e => HK.out.2.2 h0 b o (by simp at e; exact e.1))).mono ?_
  rintro e w1 ⟨rfl, hd1, ht1⟩
  obtain ⟨q1, q2⟩ := H.out.2.1.right hd1 ht1
  have hbk := (ht1.block _ (lt_of_block H.out.2.2.2) (fun e => H.out.2.2.1 (Or.inr e))).trans H.out.2.2.2
  have hki : RdI w1 (.slice ka kn kc) keep := by
    obtain ⟨a', cap', e, hc, hh⟩ := HK.out.1
    cases e
    refine ⟨_, _, rfl, hc, fun i x hx => ?_⟩
    obtain ⟨⟨b, o, rfl, hlt, hcell⟩, hr⟩ := hh i x hx
    exact ⟨⟨b, o, rfl, Nat.lt_of_lt_of_le hlt ht1.size, (World.cell?_of_block (a := ⟨b, o + i, none⟩) (ht1.block b hlt (HK.out.2.2 (by rintro rfl; simp at hx) b o rfl))).trans hcell⟩, hr⟩
  have H1 := Lib.hid (And.intro q1 (And.intro q2 hki))
  clear hd1 ht1 q1 q2 hki c0 c1 c2 c3 c4 c5
  obtain ⟨c0, c1, c2, c3, c4, c5⟩ := blk6 hbk
  clear hbk
  go_wp2_with fail
  refine (dcrash_any (.slice ka kn kc) keep _ H1.out.1.p H1.out.2.2 HK.out.2.1).mono ?_
  rintro e w2 ⟨vc', rfl, hd2, ht2⟩
  obtain ⟨q1, q2⟩ := H1.out.1.left hd2 ht2
  have H2 := Lib.hid (And.intro q1 (H1.out.2.1.trans q2))
  clear hd2 ht2 q1 q2
  go_wp2
  exact HR.out _ _ ⟨_, rfl, (fun e => rfl), _, _, _, _, H2.out.1, (Turn.of_below _ H.out.1).trans H2.out.2⟩

set_option maxHeartbeats 4000000 in
set_option maxRecDepth 100000 in
theorem does6 (at_ ib : Int) (tx : ByteArray) (raw : Bool) (ka : Option Addr) (kn kc : Nat) (w : World) (h : Both w n vb vc s m ub uc t) :
    Calls Try.prog 12 #[.pointer (some ⟨n, 0, none⟩), .pointer (some ⟨m, 0, none⟩), .agg #[.int .i64 6, .int .i64 at_, .int .i64 ib, .string tx, .bool raw, .slice ka kn kc]] w
      (Done w n vb vc s (bootD s) m ub uc t (bootD t)) := by
  refine calls_by fun R HR => ?_
  obtain ⟨W, hW⟩ : ∃ W, w.alloc (.cells #[.int .i64 6, .int .i64 at_, .int .i64 ib, .string tx, .bool raw, .slice ka kn kc] 33) = W := ⟨_, rfl⟩
  have hb : Below w.heap.size w W := by rw [← hW]; exact alloc_below w _
  have hk : W.heap[w.heap.size]? = some (.cells #[.int .i64 6, .int .i64 at_, .int .i64 ib, .string tx, .bool raw, .slice ka kn kc] 33 (0, 0)) := by rw [← hW]; exact alloc_new w _
  have hnF : ¬ FG n vb vc m ub uc w.heap.size := fun hk => Nat.lt_irrefl _ (h.lt _ hk)
  obtain ⟨c0, c1, c2, c3, c4, c5⟩ := blk6 hk
  have H := Lib.hid (And.intro hb (And.intro (h.below hb) (And.intro hnF hk)))
  clear hb hk h hnF
  go_enter Try.func12, Try.ntmps12
  go_wp2_with fail
  refine (rboot_any _ H.out.2.1.r).mono ?_
  rintro e w1 ⟨rfl, hd1, ht1⟩
  obtain ⟨q1, q2⟩ := H.out.2.1.right hd1 ht1
  have H1 := Lib.hid (And.intro q1 q2)
  clear hd1 ht1 q1 q2 c0 c1 c2 c3 c4 c5
  go_wp2_with fail
  refine (dboot_any _ H1.out.1.p).mono ?_
  rintro e w2 ⟨rfl, hd2, ht2⟩
  obtain ⟨q1, q2⟩ := H1.out.1.left hd2 ht2
  have H2 := Lib.hid (And.intro q1 (H1.out.2.trans q2))
  clear hd2 ht2 q1 q2
  go_wp2
  exact HR.out _ _ ⟨_, rfl, (fun e => rfl), _, _, _, _, H2.out.1, (Turn.of_below _ H.out.1).trans H2.out.2⟩
end Go.Proofs.Ytielmlnbjliacaa
