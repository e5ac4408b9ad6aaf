/- Texts that the claim rests on, part 13: JrnOn, SeqBoth, Texts, RFull4, JrnLawP, JrnFormatNo, MovedStore, JrnPlay. -/
import Derived.Test.YteppfjgglelpbaaGreatProg
import Derived.BigQuiet
import Derived.Test.YteppfjgglelpbaaGreatM12
/- A journal and a disk of a law's own: what their calls leave, beside what the law holds. -/
set_option maxRecDepth 100000
namespace Go.Proofs.YteppfjgglelpbaaGreat
open Go.RowKit Ks
set_option linter.unusedVariables false
set_option linter.unusedSimpArgs false
/-- blocks, and more of them -/
def FG (F G : Nat → Prop) (k : Nat) : Prop := F k ∨ G k
theorem turn_more {w w' : World} {F F' : Nat → Prop} (G : Nat → Prop) (h : Turn w w' F F') : Turn w w' (FG F G) (FG F' G) :=
  h.wide (fun k q => Or.inl q) fun k q => by
    rcases q with q | q
    · rcases h.foot k q with q | q
      · exact Or.inr (Or.inl (Or.inl q))
      · exact Or.inr (Or.inr q)
    · exact Or.inr (Or.inl (Or.inr q))
/-- texts in a slice whose own block is none of those -/
structure RdO (w : World) (F : Nat → Prop) (v : Value) (l : List ByteArray) : Prop where
  rd : Rd strE w v l
  off : l ≠ [] → ∀ b, v.ownBlock = some b → ¬ F b
/-- a block known whole that is none of those -/
structure BlkO (w : World) (F : Nat → Prop) (b : Nat) (o : Obj) : Prop where
  blk : w.heap[b]? = some o
  off : ¬ F b
section
variable {w w' : World} {F F' : Nat → Prop} {v : Value} {l : List ByteArray} {b : Nat} {o : Obj}
theorem RdO.turn (h : RdO w F v l) (ht : Turn w w' F F') : RdO w' F' v l := by
  by_cases hl : l = []
  · subst hl
    obtain ⟨a, cap, e, hc, hn, -⟩ := h.rd
    exact ⟨⟨a, cap, e, hc, hn, fun i x hx => by simp at hx⟩, fun q => absurd rfl q⟩
  · exact ⟨h.rd.keep ht.size fun b hb => ht.block b (h.rd.lt' hl hb) (h.off hl b hb), fun _ b hb q => by
      rcases ht.foot b q with q | q
      · exact h.off hl b hb q
      · have := h.rd.lt' hl hb; omega⟩
theorem RdO.below (h : RdO w F v l) (hb : Below w.heap.size w w') : RdO w' F v l := h.turn (Turn.of_below F hb)
theorem RdO.nil (w : World) (F : Nat → Prop) : RdO w F (.slice none 0 0) [] := ⟨Rd.nil w, fun q => absurd rfl q⟩
theorem RdO.less (h : RdO w F v l) (hF : ∀ k, F' k → F k) : RdO w F' v l := ⟨h.rd, fun hl b hb q => h.off hl b hb (hF b q)⟩
theorem RdO.row {B : Nat} {T : TypeId} (h : Row strE w B T v l) (hF : ∀ k, F k → k < B) : RdO w F v l := ⟨h.rd, fun _ b hb q => by have := hF b q; have := (h.lt hb).1; omega⟩
theorem BlkO.turn (h : BlkO w F b o) (ht : Turn w w' F F') : BlkO w' F' b o := ⟨(ht.block b (lt_of_block h.blk) h.off).trans h.blk, fun q => by
  rcases ht.foot b q with q | q
  · exact h.off q
  · have := lt_of_block h.blk; omega⟩
theorem BlkO.below (h : BlkO w F b o) (hb : Below w.heap.size w w') : BlkO w' F b o := h.turn (Turn.of_below F hb)
theorem BlkO.less (h : BlkO w F b o) (hF : ∀ k, F' k → F k) : BlkO w F' b o := ⟨h.blk, fun q => h.off (hF b q)⟩
theorem BlkO.new (w : World) (F : Nat → Prop) (hF : ∀ k, F k → k < w.heap.size) (C : Array Value) (T : TypeId) : BlkO (w.alloc (.cells C T)) F w.heap.size (.cells C T (0, 0)) := ⟨alloc_new _ _, fun q => by have := hF _ q; omega⟩
end
/-- a journal of the law's own -/
structure OnJ (B : Nat) (w0 w : World) (jn sn dn : Nat) (vb vc : Value) (j : JrnT) : Prop where
  b : Below B w0 w
  hB : B ≤ w.heap.size
  jl : JLv w jn sn dn vb vc j
  lo : ∀ k, FL jn sn dn vb vc k → B ≤ k
/-- a disk of the law's own -/
structure OnD (B : Nat) (w0 w : World) (dn : Nat) (vb vc : Value) (d : DS) : Prop where
  b : Below B w0 w
  hB : B ≤ w.heap.size
  dk : DkAt w dn vb vc d
  lo : ∀ k, DF dn vb vc k → B ≤ k
section
variable {B : Nat} {w0 w w' : World} {jn sn dn : Nat} {vb vc vc' : Value} {j j' : JrnT} {d d' : DS}
theorem OnJ.on (h : OnJ B w0 w jn sn dn vb vc j) (h1 : JLv w' jn sn dn vb vc' j') (ht : Turn w w' (FL jn sn dn vb vc) (FL jn sn dn vb vc')) : OnJ B w0 w' jn sn dn vb vc' j' :=
  ⟨h.b.trans (ht.below h.lo h.hB), Nat.le_trans h.hB ht.size, h1, ht.low h.lo h.hB⟩
theorem OnJ.below (h : OnJ B w0 w jn sn dn vb vc j) (hb : Below w.heap.size w w') : OnJ B w0 w' jn sn dn vb vc j :=
  h.on (h.jl.below hb) (Turn.of_below _ hb)
theorem OnD.on (h : OnD B w0 w dn vb vc d) (h1 : DkAt w' dn vb vc' d') (ht : Turn w w' (DF dn vb vc) (DF dn vb vc')) : OnD B w0 w' dn vb vc' d' :=
  ⟨h.b.trans (ht.below h.lo h.hB), Nat.le_trans h.hB ht.size, h1, ht.low h.lo h.hB⟩
theorem OnD.below (h : OnD B w0 w dn vb vc d) (hb : Below w.heap.size w w') : OnD B w0 w' dn vb vc d :=
  h.on (h.dk.below hb) (Turn.of_below _ hb)
theorem OnD.lt (h : OnD B w0 w dn vb vc d) : ∀ k, DF dn vb vc k → k < w.heap.size := h.dk.lt
theorem OnJ.lt (h : OnJ B w0 w jn sn dn vb vc j) : ∀ k, FL jn sn dn vb vc k → k < w.heap.size := h.jl.lt
theorem OnJ.dsk (h : OnJ B w0 w jn sn dn vb vc j) : OnD B w0 w dn vb vc j.d := ⟨h.b, h.hB, h.jl.hd.dsk, fun k q => h.lo k (Or.inr (Or.inr q))⟩
theorem df_fl (jn sn : Nat) {dn : Nat} {vb vc : Value} (k : Nat) (q : DF dn vb vc k) : FL jn sn dn vb vc k := Or.inr (Or.inr q)
theorem OnJ.from (h : OnD B w0 w dn vb vc d) (h1 : JLv w' jn sn dn vb vc' j) (ht : Turn w w' (DF dn vb vc) (FL jn sn dn vb vc')) : OnJ B w0 w' jn sn dn vb vc' j :=
  ⟨h.b.trans (ht.below h.lo h.hB), Nat.le_trans h.hB ht.size, h1, ht.low h.lo h.hB⟩
/-- the disk under a journal is turned -/
theorem OnJ.disk (h : OnJ B w0 w jn sn dn vb vc j) {d' : DS} (hd : DkAt w' dn vb vc' d') (ht : Turn w w' (DF dn vb vc) (DF dn vb vc')) : OnJ B w0 w' jn sn dn vb vc' { j with d := d' } ∧ Turn w w' (FL jn sn dn vb vc) (FL jn sn dn vb vc') := by
  obtain ⟨h1, h2⟩ := h.jl.hd.disk hd ht
  obtain ⟨h3, h4⟩ := sp_hd h.jl.sp h.jl.ns h2
  exact ⟨h.on ⟨h1, h3, h4⟩ (turn_hd h2), turn_hd h2⟩
theorem ojarm_any (n : Int) (h : OnJ B w0 w jn sn dn vb vc j) (hn : n ≤ 9223372036854775807) : Calls Tryz.prog 19 #[.pointer (some ⟨dn, 0, none⟩), .int .i64 n] w fun e w' => e = .returned (.int .i64 (armE j.d n)) ∧ OnJ B w0 w' jn sn dn vb vc { j with d := armD j.d n } ∧ Turn w w' (FL jn sn dn vb vc) (FL jn sn dn vb vc) := by
  refine (darm_any n w h.jl.hd.dsk hn).mono ?_
  rintro e w' ⟨q1, q2, q3⟩
  exact ⟨q1, h.disk q2 q3⟩
theorem ojdown_any (h : OnJ B w0 w jn sn dn vb vc j) : Calls Tryz.prog 27 #[.pointer (some ⟨dn, 0, none⟩)] w fun e w' => e = .returned (.bool j.d.down) ∧ w' = w := ddown_any w h.jl.hd.dsk
section
variable {k : ByteArray} {A L : List ByteArray} {m : Nat}
theorem lives_b (hl : Lives j k A L m) : 0 < j.last.b ∧ j.last.b ≤ 9223372036854775807 := by have := sok hl.tells.ok; omega
theorem lives_u (hl : Lives j k A L m) : 0 ≤ j.used ∧ j.used ≤ 1000000 := by have := sok hl.tells.ok; have := hl.used; have := hl.le; omega
theorem ojappend_any (t : ByteArray) (h : OnJ B w0 w jn sn dn vb vc j) (hl : Lives j k A L m) : Calls Tryz.prog 7 #[.pointer (some ⟨jn, 0, none⟩), .string t] w fun e w' =>
    e = .returned (.tuple #[.int .i64 (appendI j t), .int .i64 (appendE j t)]) ∧ ∃ vc', OnJ B w0 w' jn sn dn vb vc' (appendJ j t) ∧ Turn w w' (FL jn sn dn vb vc) (FL jn sn dn vb vc') := by
  have hb := lives_b hl
  have hu := lives_u hl
  obtain ⟨d, s, u, br⟩ := j
  refine (jappend_any t w h.jl.hd h.jl.sp h.jl.ns hb hu).mono ?_
  rintro e w' ⟨q1, vc', q2, q3⟩
  exact ⟨q1, vc', h.on q2 q3, q3⟩
theorem ojclose_any (t k2 : ByteArray) (c : Int) (h : OnJ B w0 w jn sn dn vb vc j) (hl : Lives j k A L m) : Calls Tryz.prog 8 #[.pointer (some ⟨jn, 0, none⟩), .string t, .string k2, .int .i64 c] w fun e w' =>
    e = .returned (.tuple #[.int .i64 (shutI j t k2 c), .int .i64 (shutE j t k2 c)]) ∧ ∃ vc', OnJ B w0 w' jn sn dn vb vc' (shutJ j t k2 c) ∧ Turn w w' (FL jn sn dn vb vc) (FL jn sn dn vb vc') := by
  have hb := lives_b hl
  have hu := lives_u hl
  obtain ⟨d, s, u, br⟩ := j
  refine (jclose_any t k2 c w h.jl.hd h.jl.sp h.jl.ns hb hu).mono ?_
  rintro e w' ⟨q1, vc', q2, q3⟩
  exact ⟨q1, vc', h.on q2 q3, q3⟩
theorem ojcom_any (c : Int) (h : OnJ B w0 w jn sn dn vb vc j) (hl : Lives j k A L m) : Calls Tryz.prog 11 #[.pointer (some ⟨jn, 0, none⟩), .int .i64 c] w fun e w' =>
    e = .returned (.int .i64 (comE j c)) ∧ ∃ vc', OnJ B w0 w' jn sn dn vb vc' (comJ j c) ∧ Turn w w' (FL jn sn dn vb vc) (FL jn sn dn vb vc') := by
  have hb := lives_b hl
  obtain ⟨d, s, u, br⟩ := j
  refine (jcom_any c w h.jl.hd h.jl.sp h.jl.ns hb).mono ?_
  rintro e w' ⟨q1, vc', q2, q3⟩
  exact ⟨q1, vc', h.on q2 q3, q3⟩
theorem ojflush_any (h : OnJ B w0 w jn sn dn vb vc j) (hl : Lives j k A L m) : Calls Tryz.prog 13 #[.pointer (some ⟨jn, 0, none⟩)] w fun e w' =>
    e = .returned (.int .i64 (jflE2 j)) ∧ ∃ vc', OnJ B w0 w' jn sn dn vb vc' (jflJ2 j) ∧ Turn w w' (FL jn sn dn vb vc) (FL jn sn dn vb vc') := by
  have hb := lives_b hl
  obtain ⟨d, s, u, br⟩ := j
  refine (jflush_any w h.jl.hd h.jl.sp h.jl.ns hb).mono ?_
  rintro e w' ⟨q1, vc', q2, q3⟩
  exact ⟨q1, vc', h.on q2 q3, q3⟩
theorem ojsuper_any (h : OnJ B w0 w jn sn dn vb vc j) : Calls Tryz.prog 14 #[.pointer (some ⟨jn, 0, none⟩)] w fun e w' =>
    e = .returned (.agg #[.int .i64 j.last.gen, .int .i64 j.last.tail, .int .i64 j.last.epoch, .int .i64 j.last.clock, .int .i64 j.last.b, .int .i64 j.last.l, .int .i64 j.last.f]) ∧ Below w.heap.size w w' := jsuper_any w h.jl.hd
end
theorem odarm_any (n : Int) (h : OnD B w0 w dn vb vc d) (hn : n ≤ 9223372036854775807) : Calls Tryz.prog 19 #[.pointer (some ⟨dn, 0, none⟩), .int .i64 n] w fun e w' => e = .returned (.int .i64 (armE d n)) ∧ OnD B w0 w' dn vb vc (armD d n) ∧ Turn w w' (DF dn vb vc) (DF dn vb vc) := by
  refine (darm_any n w h.dk hn).mono ?_
  rintro e w' ⟨q1, q2, q3⟩
  exact ⟨q1, h.on q2 q3, q3⟩
theorem odcrash_any (kv : Value) (keep : List Int) (h : OnD B w0 w dn vb vc d) (hkv : RdI w kv keep) (hkl : keep.length ≤ 9223372036854775807) : Calls Tryz.prog 21 #[.pointer (some ⟨dn, 0, none⟩), kv] w fun e w' => e = .returned (.int .i64 0) ∧ ∃ vc', OnD B w0 w' dn vb vc' (crashD d keep) ∧ Turn w w' (DF dn vb vc) (DF dn vb vc') := by
  refine (dcrash_any kv keep w h.dk hkv hkl).mono ?_
  rintro e w' ⟨vc', q1, q2, q3⟩
  exact ⟨q1, vc', h.on q2 q3, q3⟩
theorem odboot_any (h : OnD B w0 w dn vb vc d) : Calls Tryz.prog 22 #[.pointer (some ⟨dn, 0, none⟩)] w fun e w' => e = .returned (.int .i64 0) ∧ ∃ vc', OnD B w0 w' dn vb vc' (bootD d) ∧ Turn w w' (DF dn vb vc) (DF dn vb vc') := by
  refine (dboot_any w h.dk).mono ?_
  rintro e w' ⟨q1, q2, q3⟩
  exact ⟨q1, _, h.on q2 q3, q3⟩
theorem rests_has {s : SupT} {k : ByteArray} {A : List ByteArray} (h : Rests d s k A) : Has d ∧ foundS d = s ∧ foundK d = k := by
  have hl := rests_len h
  obtain ⟨f1, f2⟩ := rests_found h
  obtain ⟨p1, p2⟩ := rests_pick h
  have r : ∀ n : Nat, n < 4 → (readD d n).2 = 0 := fun n hn => by rw [rests_read h n (by omega)]
  have z : ∀ n : Nat, n < 4 → (shows d n).size ≤ 4096 := fun n hn => by rw [rests_shows h n (by omega), h.tells.size n (by omega)]; exact Nat.le_refl _
  exact ⟨⟨h.up, r 0 (by omega), r 1 (by omega), r 2 (by omega), r 3 (by omega), by unfold chE; rw [if_pos f2], by rw [f1]; exact h.tells.len.symm, by rw [f1]; exact p1, z 2 (by omega), z 3 (by omega), by rw [f1]; exact h.tells.ok⟩, f1, p2⟩
/-- a disk that may be opened again, opened -/
theorem odopen_any {s : SupT} {k : ByteArray} {A : List ByteArray} (G : Nat → Prop) (h : OnD B w0 w dn vb vc d) (hr : Rests d s k A) (hG : ∀ q, G q → q < w.heap.size) : Calls Tryz.prog 10 #[.pointer (some ⟨dn, 0, none⟩)] w fun e w' =>
    (e = .returned (.tuple #[.pointer none, .slice none 0 0, .string ⟨#[]⟩, .int .i64 14]) ∧ d.left ≠ 0 ∧ ∃ vc' d', d'.down = true ∧ Kept (fun b => Tells b s k A) d' ∧ OnD B w0 w' dn vb vc' d' ∧ Turn w w' (DF dn vb vc) (DF dn vb vc')) ∨
    (∃ jn sn v vc' d', e = .returned (.tuple #[.pointer (some ⟨jn, 0, none⟩), v, .string k, .int .i64 0]) ∧ Ks.Clean d' s k A ∧ (rightL d s = [] → d' = d) ∧ OnJ B w0 w' jn sn dn vb vc' ⟨d', s, s.tail, false⟩ ∧ RdO w' (FG (FL jn sn dn vb vc') G) v A ∧ Turn w w' (DF dn vb vc) (FL jn sn dn vb vc')) := by
  obtain ⟨hh, hs, hk⟩ := rests_has hr
  refine (jopen_any w h.dk hh).mono ?_
  rintro e w' (⟨q1, rfl, vc', q2, q3⟩ | ⟨q1, jn, sn, vc', v, rfl, q2, q3, q4, q5⟩)
  · left
    rw [hs] at q1 q2 ⊢
    rcases right_cases hr with ⟨r1, r2, r3⟩ | ⟨r1, -⟩
    · rw [r1]
      exact ⟨rfl, (fun h0 => by rw [right_left h0 hr.up] at r2; cases r2), vc', _, r2, r3, h.on q2 q3, q3⟩
    · exact absurd r1 q1
  · right
    rw [hs] at q1 q2 q3
    rw [hk]
    rcases right_cases hr with ⟨r1, -⟩ | ⟨-, r2⟩
    · rw [r1] at q1; cases q1
    · rw [rests_blocks r2.rests] at q3
      refine ⟨jn, sn, v, vc', _, rfl, r2, fun hz => ?_, OnJ.from h q2 q4, ⟨q3, fun _ b hb q => ?_⟩, q4⟩
      · unfold rightD
        rw [hz]
        simp [zerosE]
      · obtain ⟨g1, g2⟩ := q5 b hb
        rcases q with q | q
        · exact g2 q
        · have := hG b q; omega
/-- a clean disk, opened: nothing is written -/
theorem odopen_clean {s : SupT} {k : ByteArray} {A : List ByteArray} (G : Nat → Prop) (h : OnD B w0 w dn vb vc d) (hr : Ks.Clean d s k A) (hG : ∀ q, G q → q < w.heap.size) : Calls Tryz.prog 10 #[.pointer (some ⟨dn, 0, none⟩)] w fun e w' =>
    ∃ jn sn v vc', e = .returned (.tuple #[.pointer (some ⟨jn, 0, none⟩), v, .string k, .int .i64 0]) ∧ OnJ B w0 w' jn sn dn vb vc' ⟨d, s, s.tail, false⟩ ∧ RdO w' (FG (FL jn sn dn vb vc') G) v A ∧ Turn w w' (DF dn vb vc) (FL jn sn dn vb vc') := by
  obtain ⟨hh, hs, hk⟩ := rests_has hr.rests
  obtain ⟨c1, c2, c3⟩ := clean_right hr
  refine (jopen_any w h.dk hh).mono ?_
  rintro e w' (⟨q1, rfl, vc', q2, q3⟩ | ⟨q1, jn, sn, vc', v, rfl, q2, q3, q4, q5⟩)
  · rw [hs, c2] at q1
    exact absurd rfl q1
  · rw [hs, c3] at q2 q3
    rw [rests_blocks hr.rests] at q3
    rw [hk]
    refine ⟨jn, sn, v, vc', rfl, OnJ.from h q2 q4, ⟨q3, fun _ b hb q => ?_⟩, q4⟩
    obtain ⟨g1, g2⟩ := q5 b hb
    rcases q with q | q
    · exact g2 q
    · have := hG b q; omega
/-- a new disk -/
theorem odnew_any (n : Nat) (w0 w : World) (B : Nat) (hb : Below B w0 w) (hB : B ≤ w.heap.size) (h8 : 8 ≤ n) (h1024 : n ≤ 1024) : Calls Tryz.prog 18 #[.int .i64 n] w fun e w' => ∃ dn vb, e = .returned (.tuple #[.pointer (some ⟨dn, 0, none⟩), .int .i64 0]) ∧ OnD B w0 w' dn vb (.slice none 0 0) (newD n) ∧ Below w.heap.size w w' ∧ ∀ k, DF dn vb (.slice none 0 0) k → w.heap.size ≤ k := by
  refine (dnew_any n w h8 h1024).mono ?_
  rintro e w' ⟨dn, vb, q1, q2, q3, q4⟩
  exact ⟨dn, vb, q1, ⟨hb.trans (q3.mono hB), Nat.le_trans hB q3.size, q2, fun k q => Nat.le_trans hB (q4 k q)⟩, q3, q4⟩
/-- a new disk formatted -/
theorem odformat_any (n : Nat) (l : Int) (k : ByteArray) (h : OnD B w0 w dn vb vc (newD n)) (hg : geoOk (n : Int) l 0 = true) (hk : k.size = 32) : Calls Tryz.prog 17 #[.pointer (some ⟨dn, 0, none⟩), geoV (n : Int) l 0, .string k] w fun e w' =>
    e = .returned (.int .i64 0) ∧ ∃ vc' d', OnD B w0 w' dn vb vc' d' ∧ Turn w w' (DF dn vb vc) (DF dn vb vc') ∧ Ks.Clean d' (formS (n : Int) l 0) k [] ∧ d'.left = 0 := by
  obtain ⟨f1, f2, f3, f4⟩ := formed n l k hg hk
  refine (jformat_any n l 0 k w h.dk hg hk f1).mono ?_
  rintro e w' ⟨q1, vc', q2, q3⟩
  rw [f2] at q1
  exact ⟨q1, vc', _, h.on q2 q3, q3, f3, f4⟩
end
end Go.Proofs.YteppfjgglelpbaaGreat
/- A row copied by append, and one more behind it, in a statement that draws its order: what each order runs to. Plain. No program is in sight. -/
namespace Ks
open Go Go.RowKit
set_option linter.unusedVariables false

variable {α : Type} {E : Enc α}

theorem alloc2_heap (w : World) (o o' : Obj) : ((w.alloc o).alloc o').heap[w.heap.size]? = some o ∧ ((w.alloc o).alloc o').heap[w.heap.size + 1]? = some o' := by
  refine ⟨by rw [Below.heap_alloc _ _ _ (by simp)]; exact heap_alloc_new w o, ?_⟩
  have := heap_alloc_new (w.alloc o) o'
  rw [show (w.alloc o).heap.size = w.heap.size + 1 by simp] at this
  exact this
theorem row_fresh {w : World} {B g : Nat} {e : TypeId} (h : w.heap[g]? = some (.cells #[] e (0, 0))) (hB : B ≤ g) : Row E w B e (.slice (some ⟨g, 0, none⟩) 0 0) [] :=
  ⟨by simp [Enc.cs_nil], Or.inr ⟨g, 0, #[], rfl, hB, h, Nat.le_refl _, Nat.zero_le _, by simp, by simp [Enc.cs_nil]⟩⟩

/-- what two appends leave -/
def Two {P : Program} (E : Enc α) (t e : TypeId) (w Wa : World) (s lv u : Value) (L : List α) (x : α) : Prop :=
  ∃ a1 n1 c1 w5 a2 n2 c2 w6, (Builtin.append_ #[t, t] t #[s, lv]).run P Wa = .ok (.slice a1 n1 c1) w5 ∧ (Builtin.append_ #[t, t] t #[.slice a1 n1 c1, u]).run P w5 = .ok (.slice a2 n2 c2) w6 ∧
    Row E w6 w.heap.size e (.slice a2 n2 c2) (L ++ [x]) ∧ Below w.heap.size w w5 ∧ Below w.heap.size w w6

theorem append_two {P : Program} {t e : TypeId} {bytes : Nat} (T : ElemT P t e E.k bytes) (w : World) (lv : Value) (L : List α) (x : α) (X : Array Value) (hX : X.toList = E.enc x) (hl : Rd E w lv L) (b1 : L.length ≤ 1000000) (b2 : bytes ≤ 1000) :
    (∃ a1 n1 c1 w5 a2 n2 c2 w6, (Builtin.append_ #[t, t] t #[.slice (some ⟨w.heap.size, 0, none⟩) 0 0, lv]).run P (w.alloc (.cells #[] e)) = .ok (.slice a1 n1 c1) w5 ∧
      (Builtin.append_ #[t, t] t #[.slice a1 n1 c1, .slice (some ⟨w5.heap.size, 0, none⟩) 1 1]).run P (w5.alloc (.cells X e)) = .ok (.slice a2 n2 c2) w6 ∧ Row E w6 w.heap.size e (.slice a2 n2 c2) (L ++ [x]) ∧ Below w.heap.size w w5 ∧ Below w.heap.size w w6) ∧
    Two (P := P) E t e w ((w.alloc (.cells #[] e)).alloc (.cells X e)) (.slice (some ⟨w.heap.size, 0, none⟩) 0 0) lv (.slice (some ⟨w.heap.size + 1, 0, none⟩) 1 1) L x ∧
    Two (P := P) E t e w ((w.alloc (.cells X e)).alloc (.cells #[] e)) (.slice (some ⟨w.heap.size + 1, 0, none⟩) 0 0) lv (.slice (some ⟨w.heap.size, 0, none⟩) 1 1) L x := by
  have hA := alloc_below w (.cells #[] e)
  have hAX : Below w.heap.size w ((w.alloc (.cells #[] e)).alloc (.cells X e)) := hA.alloc hA.size _
  have hX1 := alloc_below w (.cells X e)
  have hXA : Below w.heap.size w ((w.alloc (.cells X e)).alloc (.cells #[] e)) := hX1.alloc hX1.size _
  have shape : ∀ {w' : World} {B : Nat} {v : Value} {l : List α}, Row E w' B e v l → ∃ a n c, v = .slice a n c := fun h => by
    obtain ⟨a, c, e, _⟩ := h.shape
    exact ⟨a, _, c, e⟩
  refine ⟨?_, ?_, ?_⟩
  · obtain ⟨v1, w5, hr1, hG1⟩ := run_append_row (ty := t) T (w.alloc (.cells #[] e)) w.heap.size _ _ [] L (row_fresh (alloc_new w _) (Nat.le_refl _)) (hl.below hA) hA.size (by simp; omega) b2
    have hB5 : Below w.heap.size w w5 := hG1.below hA hA.size fun b hb => by simp [Value.ownBlock] at hb; omega
    have hX5 := alloc_below w5 (.cells X e)
    rw [List.nil_append] at hG1
    obtain ⟨v2, w6, hr2, hG2⟩ := run_append_row (ty := t) T (w5.alloc (.cells X e)) w.heap.size _ _ L [x] (hG1.1.below hX5) (Rd.single x (alloc_new w5 _) hX) (Nat.le_trans hB5.size hX5.size) (by simp; omega) b2
    obtain ⟨a1, n1, c1, rfl⟩ := shape hG1.1
    obtain ⟨a2, n2, c2, rfl⟩ := shape hG2.1
    exact ⟨a1, n1, c1, w5, a2, n2, c2, w6, hr1, hr2, hG2.1, hB5, hG2.below (hB5.trans (hX5.mono hB5.size)) (Nat.le_trans hB5.size hX5.size) fun b hb => (hG1.1.lt hb).1⟩
  · obtain ⟨k1, k2⟩ := alloc2_heap w (.cells #[] e) (.cells X e)
    obtain ⟨v1, w5, hr1, hG1⟩ := run_append_row (ty := t) T ((w.alloc (.cells #[] e)).alloc (.cells X e)) w.heap.size _ _ [] L (row_fresh k1 (Nat.le_refl _)) (hl.below hAX) hAX.size (by simp; omega) b2
    have hB5 : Below w.heap.size w w5 := hG1.below hAX hAX.size fun b hb => by simp [Value.ownBlock] at hb; omega
    rw [List.nil_append] at hG1
    have kx := hG1.block k2 (by simp [Value.ownBlock])
    obtain ⟨v2, w6, hr2, hG2⟩ := run_append_row (ty := t) T w5 w.heap.size _ _ L [x] hG1.1 (Rd.single x kx hX) hB5.size (by simp; omega) b2
    obtain ⟨a1, n1, c1, rfl⟩ := shape hG1.1
    obtain ⟨a2, n2, c2, rfl⟩ := shape hG2.1
    exact ⟨a1, n1, c1, w5, a2, n2, c2, w6, hr1, hr2, hG2.1, hB5, hG2.below hB5 hB5.size fun b hb => (hG1.1.lt hb).1⟩
  · obtain ⟨k1, k2⟩ := alloc2_heap w (.cells X e) (.cells #[] e)
    obtain ⟨v1, w5, hr1, hG1⟩ := run_append_row (ty := t) T ((w.alloc (.cells X e)).alloc (.cells #[] e)) w.heap.size _ _ [] L (row_fresh k2 (by omega)) (hl.below hXA) hXA.size (by simp; omega) b2
    have hB5 : Below w.heap.size w w5 := hG1.below hXA hXA.size fun b hb => by simp [Value.ownBlock] at hb; omega
    rw [List.nil_append] at hG1
    have kx := hG1.block k1 (by simp [Value.ownBlock])
    obtain ⟨v2, w6, hr2, hG2⟩ := run_append_row (ty := t) T w5 w.heap.size _ _ L [x] hG1.1 (Rd.single x kx hX) hB5.size (by simp; omega) b2
    obtain ⟨a1, n1, c1, rfl⟩ := shape hG1.1
    obtain ⟨a2, n2, c2, rfl⟩ := shape hG2.1
    exact ⟨a1, n1, c1, w5, a2, n2, c2, w6, hr1, hr2, hG2.1, hB5, hG2.below hB5 hB5.size fun b hb => (hG1.1.lt hb).1⟩
end Ks
/- Are two rows of texts the same? The reference's answer. -/
namespace Ks
open Go
theorem text_ne {a b : ByteArray} (h : a ≠ b) : (a.toList == b.toList) = false := by
  rw [beq_eq_false_iff_ne]
  intro e
  rw [ByteArray.toList_eq, ByteArray.toList_eq] at e
  apply h
  obtain ⟨⟨x⟩⟩ := a
  obtain ⟨⟨y⟩⟩ := b
  have : x = y := e
  rw [this]
end Ks
namespace Go.Proofs.YteppfjgglelpbaaGreat
open Go.RowKit Ks
set_option linter.unusedVariables false

set_option maxHeartbeats 1000000 in
theorem texts_any (va vb : Value) (A B : List ByteArray) (w : World) (ha : Rd strE w va A) (hb : Rd strE w vb B) (hA : A.length ≤ maxLen) (hB : B.length ≤ maxLen) :
    Calls Tryz.prog 29 #[va, vb] w fun e w' => ∃ b, e = .returned (.bool b) ∧ (b = true ↔ A = B) ∧ Below w.heap.size w w' := by
  unfold maxLen at hA hB
  refine calls_by fun R HR => ?_
  obtain ⟨aa, ca, hva, _⟩ := ha.shape
  obtain ⟨ab, cb, hvb, _⟩ := hb.shape
  have HH := Lib.hid (And.intro ha hb)
  subst hva hvb
  clear ha hb
  by_cases hl : A.length = B.length
  · obtain ⟨ln, hln⟩ : ∃ ln, A.length = ln := ⟨_, rfl⟩
    have HL := Lib.hid (And.intro hln (hl.symm.trans hln))
    rw [← hl, hln]
    rw [hln] at hA
    clear hl hln hB
    go_enter Tryz.func29, Tryz.ntmps29
    go_wp2_with fail
    go_loopw [5] (fun i wx => ∃ k : Nat, k ≤ ln ∧ i = .int .i64 k ∧ Hid (A.take k = B.take k ∧ Below w.heap.size w wx)) (fun i _ => ln - (intOf i).toNat)
    case atStart => exact ⟨0, by omega, rfl, Lib.hid ⟨by simp, Below.refl _ _⟩⟩
    case round =>
      obtain ⟨k, hk, rfl, hN⟩ := hrel
      by_cases hlt : k < ln
      · have h1 : k < A.length := by rw [HL.out.1]; exact hlt
        have h2 : k < B.length := by rw [HL.out.2]; exact hlt
        have ra : Rd strE wr (.slice aa A.length ca) A := HH.out.1.below hN.out.2
        have rb : Rd strE wr (.slice ab B.length cb) B := HH.out.2.below hN.out.2
        obtain ⟨b1, o1, rfl, hb1, d1⟩ := ra.str k h1
        obtain ⟨b2, o2, rfl, hb2, d2⟩ := rb.str k h2
        have T1 := Lib.hid (show A.take (k + 1) = A.take k ++ [A[k]] from List.take_succ_eq_append_getElem h1)
        have T2 := Lib.hid (show B.take (k + 1) = B.take k ++ [B[k]] from List.take_succ_eq_append_getElem h2)
        have NE := Lib.hid (fun (h : A[k] ≠ B[k]) (e : A = B) => h (by subst e; rfl))
        generalize A[k] = x at *
        generalize B[k] = y at *
        have hki : (k : Int) < (ln : Int) := by omega
        have HB := Lib.hid (fun q => below_drewN hN.out.2 q)
        clear ra rb hb1 hb2 h1 h2
        by_cases hxy : x = y
        · subst hxy
          have HQ := Lib.hid (show A.take (k + 1) = B.take (k + 1) by rw [T1.out, T2.out, hN.out.1])
          go_wp2_with fail
          go_quiet (fail)
          go_wp2_with fail
          go_roundw
          case rel => exact ⟨k + 1, by omega, by go_num, Lib.hid ⟨HQ.out, HB.out _⟩⟩
          case measure => simp [intOf]; omega
        · have hne := text_ne hxy
          have hno := Lib.hid (NE.out hxy)
          clear hxy
          go_wp2
          go_quiet (fail)
          go_wp2
          exact HR.out _ _ ⟨false, rfl, by simp; exact hno.out, HB.out _⟩
      · obtain rfl : k = ln := by omega
        have HE := Lib.hid (show A = B by have := hN.out.1; rwa [List.take_of_length_le (by rw [HL.out.1]; exact Nat.le_refl _), List.take_of_length_le (by rw [HL.out.2]; exact Nat.le_refl _)] at this)
        go_wp2
        exact HR.out _ _ ⟨true, rfl, by simp; exact HE.out, hN.out.2⟩
  · have hne : ((A.length : Int) != (B.length : Int)) = true := by simp; omega
    have hno := Lib.hid (fun (e : A = B) => hl (by rw [e]))
    clear hl
    go_enter Tryz.func29, Tryz.ntmps29
    go_wp2
    exact HR.out _ _ ⟨false, rfl, by simp; exact hno.out, Below.refl _ _⟩

end Go.Proofs.YteppfjgglelpbaaGreat
/- A text as a block: its first bytes, and noughts behind. -/
namespace Go.Proofs.YteppfjgglelpbaaGreat
open Go.RowKit Ks
set_option linter.unusedVariables false

/-- a text as a block -/
def full4 (s : ByteArray) : ByteArray := if 4096 < s.size then s.extract 0 4096 else s ++ zerosS (4096 - s.size)
set_option maxHeartbeats 1000000 in
theorem full4_any (t : ByteArray) (w : World) : Calls Tryz.prog 20 #[.string t] w fun e w' => e = .returned (.string (full4 t)) ∧ Below w.heap.size w w' := by
  refine calls_by fun R HR => ?_
  by_cases h : 4096 < t.size
  · have HV := Lib.hid (show full4 t = t.extract 0 4096 by rw [full4, if_pos h])
    have hi : (4096 : Int) < (t.size : Int) := by omega
    clear h
    go_enter Tryz.func20, Tryz.ntmps20
    go_wp2
    exact HR.out _ _ ⟨by rw [HV.out] <;> rfl, Below.refl _ _⟩
  · have HV := Lib.hid (show full4 t = t ++ zerosS (4096 - t.size) by rw [full4, if_neg h])
    have hi : ¬ (4096 : Int) < (t.size : Int) := by omega
    have HC : Hid (∀ w, Calls Tryz.prog 56 #[.int .i64 (4096 - t.size)] w fun e w' => e = .returned (.string (zerosS (4096 - t.size))) ∧ Below w.heap.size w w') := Lib.hid fun w => noughts_any _ w (by omega)
    have hcat : t.size + (zerosS (4096 - t.size)).size ≤ 9223372036854775807 := by
      have := zerosS_size (4096 - t.size)
      rw [show (((4096 - t.size : Nat)) : Int) = 4096 - (t.size : Int) by omega] at this
      omega
    generalize zerosS (4096 - t.size) = Z at *
    clear h
    go_enter Tryz.func20, Tryz.ntmps20
    go_wp2_with fail
    refine (HC.out _).mono ?_
    rintro e w1 ⟨rfl, hb⟩
    go_wp2
    exact HR.out _ _ ⟨by rw [HV.out] <;> rfl, hb⟩
end Go.Proofs.YteppfjgglelpbaaGreat
/- The functions of chapter 25's law: a few steps, a state that is had, a key within a block; the example. -/
set_option maxRecDepth 100000
namespace Go.Proofs.YteppfjgglelpbaaGreat
open Go.RowKit Ks
set_option linter.unusedVariables false
set_option linter.unusedSimpArgs false
/-- a step of a script -/
structure StepT where
  kind : Int
  n : Int
  text : ByteArray
def stpE3 : Enc StepT := ⟨3, fun x => [.int .i64 x.kind, .int .i64 x.n, .string x.text], fun _ => rfl, fun x u hu => by
  simp only [List.mem_cons, List.not_mem_nil, or_false] at hu
  rcases hu with rfl | rfl | rfl <;> rfl, by decide⟩
def StepG (x : StepT) : Prop := (-9223372036854775808 ≤ x.n ∧ x.n ≤ 9223372036854775807) ∧ x.text.size ≤ maxLen
def lawK : ByteArray := ⟨#[48, 49, 50, 51, 52, 53, 54, 55, 56, 57, 97, 98, 99, 100, 101, 102, 48, 49, 50, 51, 52, 53, 54, 55, 56, 57, 97, 98, 99, 100, 101, 102]⟩
theorem lawK_size : lawK.size = 32 := by decide
theorem full4_size (t : ByteArray) : (full4 t).size = 4096 := by
  unfold full4
  split
  · rw [ByteArray.size_extract]; omega
  · rename_i h
    have := zerosS_size (4096 - t.size)
    rw [show (((4096 - t.size : Nat)) : Int) = 4096 - (t.size : Int) by omega] at this
    rw [ByteArray.size_append, this]; omega
set_option maxRecDepth 100000 in
set_option maxHeartbeats 4000000 in
theorem short_any (lv : Value) (l : List StepT) (w : World) (hl : Rd stpE3 w lv l) :
    Calls Tryz.prog 25 #[lv] w fun e w' => ∃ b : Bool, e = .returned (.bool b) ∧ (b = true → l.length ≤ 40) ∧ Below w.heap.size w w' := by
  refine calls_by fun R HR => ?_
  have HL := Lib.hid hl
  obtain ⟨a, cap, rfl, -⟩ := hl.shape
  clear hl
  go_enter Tryz.func25, Tryz.ntmps25
  go_wp2_with fail
  go_loopw [3, 4] (fun n i wx => ∃ (k : Nat) (m : Int), k ≤ l.length ∧ n = .int .i64 m ∧ i = .int .i64 k ∧ Hid (Below w.heap.size w wx)) (fun _ i _ => l.length - (intOf i).toNat)
  case atStart => exact ⟨0, 0, Nat.zero_le _, rfl, rfl, Lib.hid (Below.refl _ _)⟩
  case round =>
    obtain ⟨k, m, hk, rfl, rfl, hN⟩ := hrel
    by_cases hlt : k < l.length
    · have hki : (k : Int) < (l.length : Int) := by omega
      by_cases h2 : k ≤ 40
      · have h2i : (k : Int) ≤ 40 := by omega
        obtain ⟨x, hx⟩ : ∃ x, l[k]? = some x := ⟨_, List.getElem?_eq_getElem hlt⟩
        obtain ⟨b, o, ha, hb0, dd⟩ := (HL.out.below hN.out).at k x hx
        cases ha
        have d2 : wr.cell? ⟨b, o + k * 3 + 2, none⟩ = some (.string x.text) := dd 2 _ rfl
        generalize x.text = s at *
        clear dd hx hb0
        have hcase : (s.size : Int) < 10000 ∨ ¬ (s.size : Int) < 10000 := by omega
        obtain h3 | h3 := hcase
        all_goals
          go_wp2_with fail
          go_roundw
          case rel => exact ⟨k + 1, _, by omega, rfl, by go_num, hN⟩
          case measure => simp [intOf]; omega
      · have h2i : ¬ (k : Int) ≤ 40 := by omega
        have h60i : ¬ (l.length : Int) ≤ 40 := by omega
        have h60d : decide ((l.length : Int) ≤ 40) = false := decide_eq_false h60i
        have h60e : decide (l.length ≤ 40) = false := decide_eq_false (by omega)
        go_wp2
        exact HR.out _ _ ⟨false, rfl, (fun h => by cases h), hN.out⟩
    · obtain rfl : k = l.length := by omega
      have hki : ¬ (l.length : Int) < (l.length : Int) := by omega
      by_cases h60 : l.length ≤ 40
      · have h60i : (l.length : Int) ≤ 40 := by omega
        go_wp2
        exact HR.out _ _ ⟨_, rfl, fun _ => h60, hN.out⟩
      · have h60i : ¬ (l.length : Int) ≤ 40 := by omega
        have h60d : decide ((l.length : Int) ≤ 40) = false := decide_eq_false h60i
        have h60e : decide (l.length ≤ 40) = false := decide_eq_false h60
        go_wp2
        exact HR.out _ _ ⟨false, rfl, (fun h => by cases h), hN.out⟩
/-- a field of a superblock -/
theorem supf (g t e c b l f : Int) (w : World) : (Instr.field 29 (.agg #[.int .i64 g, .int .i64 t, .int .i64 e, .int .i64 c, .int .i64 b, .int .i64 l, .int .i64 f]) 1).run Tryz.prog w = .ok (.int .i64 t) w ∧ (Instr.field 29 (.agg #[.int .i64 g, .int .i64 t, .int .i64 e, .int .i64 c, .int .i64 b, .int .i64 l, .int .i64 f]) 2).run Tryz.prog w = .ok (.int .i64 e) w ∧ (Instr.field 29 (.agg #[.int .i64 g, .int .i64 t, .int .i64 e, .int .i64 c, .int .i64 b, .int .i64 l, .int .i64 f]) 3).run Tryz.prog w = .ok (.int .i64 c) w :=
  ⟨by kernel_rfl, by kernel_rfl, by kernel_rfl⟩
set_option maxRecDepth 100000 in
set_option maxHeartbeats 4000000 in
theorem same25_any {B : Nat} {w0 w : World} {jn sn dn : Nat} {vb vc : Value} {j : JrnT} (h : OnJ B w0 w jn sn dn vb vc j) (va vl : Value) (A l : List ByteArray) (ep ck : Int) (hA : Rd strE w va A) (hl : Rd strE w vl l) (zA : A.length ≤ maxLen) (zl : l.length ≤ maxLen) :
    Calls Tryz.prog 28 #[.agg #[va, .int .i64 ep, .int .i64 ck], .pointer (some ⟨jn, 0, none⟩), vl] w fun e w' => ∃ b : Bool, e = .returned (.bool b) ∧ (A = l → j.last.epoch = ep → j.last.clock = ck → j.last.tail = (l.length : Int) → b = true) ∧ Below w.heap.size w w' := by
  refine calls_by fun R HR => ?_
  have HT := Lib.hid (fun (W : World) (h : Below w.heap.size w W) => (texts_any va vl A l W (hA.below h) (hl.below h) zA zl).mono (R' := fun e w' => e = .returned (.bool (decide (A = l))) ∧ Below W.heap.size W w') fun e w' ⟨b, h1, h2, h3⟩ => ⟨by rw [h1]; cases b with
    | true => rw [decide_eq_true (h2.1 rfl)]
    | false => rw [decide_eq_false (fun q => by cases h2.2 q)], h3⟩)
  have HS := Lib.hid (fun (W : World) (q : Below w.heap.size w W) => ojsuper_any (h.below q))
  obtain ⟨al, cl, rfl, -⟩ := hl.shape
  clear h hA hl zA zl
  have hf := supf j.last.gen j.last.tail j.last.epoch j.last.clock j.last.b j.last.l j.last.f
  generalize j.last = s at *
  obtain ⟨s1, s2, s3, s4, s5, s6, s7⟩ := s
  simp only at *
  have H1 := Lib.hid (Below.refl w.heap.size w)
  obtain ⟨W1, hW1⟩ : ∃ W1, w.alloc (.cells #[va, .int .i64 ep, .int .i64 ck] 62) = W1 := ⟨_, rfl⟩
  have hbW1 : Below w.heap.size w W1 := by rw [← hW1]; exact alloc_below w _
  have kW1 : W1.heap[w.heap.size]? = some (.cells #[va, .int .i64 ep, .int .i64 ck] 62 (0, 0)) := by rw [← hW1]; exact alloc_new w _
  have H2 := Lib.hid (And.intro (H1.out.trans (hbW1.mono H1.out.size)) (kW1))
  clear hbW1 kW1
  obtain ⟨x0, x1, x2, -, -, -⟩ := blk3 H2.out.2
  go_enter Tryz.func28, Tryz.ntmps28
  go_upto_region 1 with fail
  have gx0 := fun p => after_cell x0 p
  have gx1 := fun p => after_cell x1 p
  have gx2 := fun p => after_cell x2 p
  have f1 := fun w => (hf w).1
  have f2 := fun w => (hf w).2.1
  have f3 := fun w => (hf w).2.2
  clear hf
  have cT := Lib.hid (fun p => calls_after (p := p) (HT.out (After W1 p) (H2.out.1.trans ((after_below W1 p).mono H2.out.1.size))))
  have cS := Lib.hid (fun p => calls_after (p := p) (HS.out (After W1 p) (H2.out.1.trans ((after_below W1 p).mono H2.out.1.size))))
  clear HT HS hW1
  by_cases e1 : A = l
  case neg =>
    have d1 : decide (A = l) = false := decide_eq_false e1
    rw [d1] at cT
    refine wp_region_after (by kernel_rfl) (by kernel_rfl) ?_
    repeat (go_big_quiet_step (fail))
    go_big_quiet_step (exact cT.out _)
    repeat (go_big_quiet_step (fail))
    refine wpQuiet_nil ?_
    rintro q1 ⟨p9, rfl⟩
    have hb := after_below W1 p9
    have H9 := Lib.hid (H2.out.1.trans (hb.mono H2.out.1.size))
    generalize After W1 p9 = q1 at *
    clear hb
    go_wp2
    exact HR.out _ _ ⟨_, rfl, (fun q1 q2 q3 q4 => absurd q1 e1), H9.out⟩
  rw [decide_eq_true e1] at cT
  by_cases e2 : s3 = ep
  case neg =>
    have d2 : (s3 == ep) = false := by simpa using e2
    skip
    refine wp_region_after (by kernel_rfl) (by kernel_rfl) ?_
    repeat (go_big_quiet_step (fail))
    go_big_quiet_step (exact cT.out _)
    repeat (go_big_quiet_step (fail))
    go_big_quiet_step (exact cS.out _)
    repeat (go_big_quiet_step (fail))
    refine wpQuiet_nil ?_
    rintro q1 ⟨p9, rfl⟩
    have hb := after_below W1 p9
    have H9 := Lib.hid (H2.out.1.trans (hb.mono H2.out.1.size))
    generalize After W1 p9 = q1 at *
    clear hb
    go_wp2
    exact HR.out _ _ ⟨_, rfl, (fun q1 q2 q3 q4 => by have q5 := d2; simp [q2] at q5), H9.out⟩
  subst e2
  by_cases e3 : s4 = ck
  case neg =>
    have d3 : (s4 == ck) = false := by simpa using e3
    refine wp_region_after (by kernel_rfl) (by kernel_rfl) ?_
    repeat (go_big_quiet_step (fail))
    go_big_quiet_step (exact cT.out _)
    repeat (go_big_quiet_step (fail))
    go_big_quiet_step (exact cS.out _)
    repeat (go_big_quiet_step (fail))
    go_big_quiet_step (exact cS.out _)
    repeat (go_big_quiet_step (fail))
    refine wpQuiet_nil ?_
    rintro q1 ⟨p9, rfl⟩
    have hb := after_below W1 p9
    have H9 := Lib.hid (H2.out.1.trans (hb.mono H2.out.1.size))
    generalize After W1 p9 = q1 at *
    clear hb
    go_wp2
    exact HR.out _ _ ⟨_, rfl, (fun q1 q2 q3 q4 => by have q5 := d3; simp [q3] at q5), H9.out⟩
  subst e3
  by_cases e4 : s2 = (l.length : Int)
  case neg =>
    have d4 : (s2 == (l.length : Int)) = false := by simpa using e4
    refine wp_region_after (by kernel_rfl) (by kernel_rfl) ?_
    repeat (go_big_quiet_step (fail))
    go_big_quiet_step (exact cT.out _)
    repeat (go_big_quiet_step (fail))
    go_big_quiet_step (exact cS.out _)
    repeat (go_big_quiet_step (fail))
    go_big_quiet_step (exact cS.out _)
    repeat (go_big_quiet_step (fail))
    go_big_quiet_step (exact cS.out _)
    repeat (go_big_quiet_step (fail))
    refine wpQuiet_nil ?_
    rintro q1 ⟨p9, rfl⟩
    have hb := after_below W1 p9
    have H9 := Lib.hid (H2.out.1.trans (hb.mono H2.out.1.size))
    generalize After W1 p9 = q1 at *
    clear hb
    go_wp2
    exact HR.out _ _ ⟨_, rfl, (fun q1 q2 q3 q4 => by have q5 := d4; simp [q4] at q5), H9.out⟩
  subst e4
  refine wp_region_after (by kernel_rfl) (by kernel_rfl) ?_
  repeat (go_big_quiet_step (fail))
  go_big_quiet_step (exact cT.out _)
  repeat (go_big_quiet_step (fail))
  go_big_quiet_step (exact cS.out _)
  repeat (go_big_quiet_step (fail))
  go_big_quiet_step (exact cS.out _)
  repeat (go_big_quiet_step (fail))
  go_big_quiet_step (exact cS.out _)
  repeat (go_big_quiet_step (fail))
  refine wpQuiet_nil ?_
  rintro q1 ⟨p9, rfl⟩
  have hb := after_below W1 p9
  have H9 := Lib.hid (H2.out.1.trans (hb.mono H2.out.1.size))
  generalize After W1 p9 = q1 at *
  clear hb
  go_wp2
  exact HR.out _ _ ⟨_, rfl, (fun q1 q2 q3 q4 => by first | rfl | simp), H9.out⟩
/-- a key stands within a block -/
def withinB (s k : ByteArray) : Bool := decide (39 ≤ s.size ∧ s.extract 0 3 = keyM ∧ s.extract 7 39 = k)
theorem bytes_beq (a b : ByteArray) : (a.toList == b.toList) = decide (a = b) := by
  by_cases h : a = b
  · subst h; simp
  · rw [decide_eq_false h]; exact text_ne h
set_option maxRecDepth 100000 in
set_option maxHeartbeats 4000000 in
theorem within_any (s k : ByteArray) (w : World) : Calls Tryz.prog 24 #[.string s, .string k] w fun e w' => e = .returned (.bool (withinB s k)) ∧ w' = w := by
  refine calls_by fun R HR => ?_
  have HW : Hid (withinB s k = decide (39 ≤ s.size ∧ s.extract 0 3 = keyM ∧ s.extract 7 39 = k)) := Lib.hid rfl
  by_cases h1 : 39 ≤ s.size
  case neg =>
    have h1i : ¬ (39 : Int) ≤ (s.size : Int) := by omega
    have h1d : decide ((39 : Int) ≤ (s.size : Int)) = false := decide_eq_false h1i
    have HZ := Lib.hid (show withinB s k = false by rw [HW.out]; exact decide_eq_false (fun q => h1 q.1))
    clear h1 HW
    go_enter Tryz.func24, Tryz.ntmps24
    go_wp2
    exact HR.out _ _ ⟨by rw [HZ.out] <;> rfl, rfl⟩
  have h1i : (39 : Int) ≤ (s.size : Int) := by omega
  have h1d : decide ((39 : Int) ≤ (s.size : Int)) = true := decide_eq_true h1i
  have h3i : (3 : Int) ≤ (s.size : Int) := by omega
  have h7i : (7 : Int) ≤ 39 := by omega
  have kl : keyM.toList = [107, 101, 121] := by rw [ByteArray.toList_eq]; rfl
  by_cases h2 : s.extract 0 3 = keyM
  case neg =>
    have h2d : ((s.extract 0 3).toList == [107, 101, 121]) = false := by have q := text_ne h2; rwa [kl] at q
    have HZ := Lib.hid (show withinB s k = false by rw [HW.out]; exact decide_eq_false (fun q => h2 q.2.1))
    clear h1 HW h2
    go_enter Tryz.func24, Tryz.ntmps24
    go_wp2
    exact HR.out _ _ ⟨by rw [HZ.out] <;> rfl, rfl⟩
  have h2d : ((s.extract 0 3).toList == [107, 101, 121]) = true := by rw [h2, kl]; rfl
  by_cases h3 : s.extract 7 39 = k
  case neg =>
    have h3d : ((s.extract 7 39).toList == k.toList) = false := text_ne h3
    have HZ := Lib.hid (show withinB s k = false by rw [HW.out]; exact decide_eq_false (fun q => h3 q.2.2))
    clear h1 HW h2 h3 kl
    go_enter Tryz.func24, Tryz.ntmps24
    go_wp2
    exact HR.out _ _ ⟨by rw [HZ.out]; first | rfl | simp [h3d], rfl⟩
  have h3d : ((s.extract 7 39).toList == k.toList) = true := by rw [h3]; simp
  have HZ := Lib.hid (show withinB s k = true by rw [HW.out]; exact decide_eq_true ⟨h1, h2, h3⟩)
  clear h1 HW h2 h3 kl
  go_enter Tryz.func24, Tryz.ntmps24
  go_wp2
  exact HR.out _ _ ⟨by rw [HZ.out]; first | rfl | simp [h3d], rfl⟩
theorem within_zeros (k : ByteArray) : withinB (zerosS 4096) k = false := by
  refine decide_eq_false fun q => ?_
  have h := congrArg (fun b : ByteArray => b.data.toList) q.2.1
  simp only [data_extract] at h
  exact absurd h (by decide)
theorem within_slot (n : Int) (k k2 : ByteArray) (hok : slotOk n k = true) : withinB (slotS n k) k2 = decide (k = k2) := by
  obtain ⟨b1, b2, b3⟩ := slot_back n k hok
  have hz := slot_size n k hok
  have hd := slot_data n k hok
  have h1 : (slotS n k).extract 0 3 = keyM := by
    apply bytes_ext
    rw [data_extract, hd, slotB, keyL]
    rfl
  have h2 : (slotS n k).extract 7 39 = k := b3
  unfold withinB
  rw [h1, h2]
  by_cases h : k = k2
  · rw [decide_eq_true h]; exact decide_eq_true ⟨by omega, rfl, h⟩
  · rw [decide_eq_false h]; exact decide_eq_false fun q => h q.2.2
end Go.Proofs.YteppfjgglelpbaaGreat
/- Of no disk none is formatted: of the program's journal. -/
set_option maxRecDepth 100000
namespace Go.Proofs.YteppfjgglelpbaaGreat
open Go.RowKit Ks
set_option linter.unusedVariables false
set_option linter.unusedSimpArgs false
attribute [local go_sem] Oper.semAt_some
set_option maxRecDepth 100000 in
set_option maxHeartbeats 8000000 in
theorem jformat_no (n l f : Int) (k : ByteArray) (w : World) (hg : geoOk n l f = true) (hk : k.size = 32) :
    Calls Tryz.prog 17 #[.pointer none, geoV n l f, .string k] w fun e w' => e = .returned (.int .i64 2) ∧ Below w.heap.size w w' := by
  have hgo := geo_ok.1 hg
  have hkb : ((k.size : Int) != 32) = false := by rw [hk]; rfl
  have hnb : ((0 : Int) != n) = true := by rw [bne_iff_ne]; omega
  have HSz : Hid (∀ A, Calls Tryz.prog 47 #[.pointer none] A fun e w' => e = .returned (.int .i64 0) ∧ Below A.heap.size A w') := Lib.hid (fun A => (dsize_no _ A (Or.inl rfl)).mono fun e w' ⟨q1, q2⟩ => ⟨q1, by rw [q2]; exact Below.refl _ _⟩)
  have HCk : Hid (∀ A, Calls Tryz.prog 52 #[geoV n l f] A fun e w' => e = .returned (.int .i64 0) ∧ Below A.heap.size A w') := Lib.hid (fun A => (gcheck_any n l f A).mono fun e w' ⟨q1, q2⟩ => ⟨by rw [q1, (geo_yes hg).1], q2⟩)
  clear hgo hg
  obtain ⟨W1, hW1⟩ : ∃ W, w.alloc (.cells #[.int .i64 n, .int .i64 l, .int .i64 f] 27) = W := ⟨_, rfl⟩
  have b1 : Below w.heap.size w W1 := by rw [← hW1]; exact alloc_below _ _
  have n1 : W1.heap[w.heap.size]? = some (.cells #[.int .i64 n, .int .i64 l, .int .i64 f] 27 (0, 0)) := by rw [← hW1]; exact alloc_new _ _
  obtain ⟨W2, hW2⟩ : ∃ W, W1.alloc (.cells #[.int .i64 0] 32) = W := ⟨_, rfl⟩
  have b2 : Below W1.heap.size W1 W2 := by rw [← hW2]; exact alloc_below _ _
  have n2 : W2.heap[W1.heap.size]? = some (.cells #[.int .i64 0] 32 (0, 0)) := by rw [← hW2]; exact alloc_new _ _
  have H2 := Lib.hid (And.intro (b1.trans (b2.mono b1.size)) (And.intro (blk_on b2 n1) (And.intro n2 b1.size)))
  clear b1 b2 n1 n2
  obtain ⟨g0, g1, g2, -, -, -⟩ := blk3 H2.out.2.1
  have gg0 := fun p => after_cell g0 p
  have gg1 := fun p => after_cell g1 p
  have gg2 := fun p => after_cell g2 p
  have cc0 := Lib.hid (fun p => calls_after (p := p) (HCk.out (After W2 p)))
  have cc1 := Lib.hid (fun p => calls_after (p := p) (HSz.out (After W2 p)))
  refine (callsIn_wide (n := 5)).1 ?_
  refine callsIn_of_wp_marks Tryz.func17 rfl trivial ?_ rfl
  simp only [Tryz.ntmps17, List.size_toArray, List.length_cons, List.length_nil, Nat.reduceAdd, Nat.reduceSub, Array.replicate_succ, Array.replicate_zero, List.push_toArray, List.append_toArray, List.nil_append, List.cons_append]
  gi_wp2
  refine wpIn_wide.2 ?_
  refine wp_region_after (by kernel_rfl) (by kernel_rfl) ?_
  repeat (first | go_big_quiet_step (fail) | go_big_quiet_step (with_reducible exact cc0.out _) | go_big_quiet_step (with_reducible exact cc1.out _))
  refine wpQuiet_nil ?_
  rintro w1 ⟨p, rfl⟩
  have hb1 := after_below W2 p
  have H3 := Lib.hid (And.intro (H2.out.1.trans (hb1.mono H2.out.1.size)) (blk_on hb1 H2.out.2.2.1))
  have HLE := Lib.hid H2.out.2.2.2
  clear hb1 cc0 cc1 gg0 gg1 gg2 g0 g1 g2
  generalize After W2 p = w1 at *
  clear hW1 hW2 H2
  obtain ⟨c8, fc8⟩ := blk1 H3.out.2
  obtain ⟨P, hP⟩ : ∃ W, w1.setCell ⟨W1.heap.size, 0, none⟩ (.int .i64 2) = W := ⟨_, rfl⟩
  have kP : P.heap[W1.heap.size]? = some (.cells #[.int .i64 2] 32 (0, 0)) := by rw [← hP]; exact set_blk H3.out.2 0 _
  have HB := Lib.hid (show Below w.heap.size w P by rw [← hP]; exact H3.out.1.setCell (p := ⟨_, _, none⟩) HLE.out _)
  have HKP := Lib.hid kP
  have EP := Lib.hid hP
  clear hP kP
  gi_wp2
  rw [EP.out]
  obtain ⟨cz, -⟩ := blk1 HKP.out
  exact ⟨.int .i64 2, by simp [results, Tryz.results17, go_sem, cz], rfl, HB.out⟩
end Go.Proofs.YteppfjgglelpbaaGreat
/- A drawn region walked by its class: a struct's store onto a block known whole; a struct and another value returned. Plain. No program is in sight. -/
namespace Ks
open Go Go.RowKit
set_option linter.unusedVariables false
section
variable {P : Program} {ops : Array Oper} {md : Region.Mode} {C : Told → World → Prop}
theorem mv_store_blk {Q : Told → Act → Prop} {fuel : Nat} {listed : Array Bool} {F : Told} {a : Act} (i : Nat) {o : Oper}
    (ho : ops[i]? = some o) (hr : Region.ready md ops listed = [i]) (hg : o.guard = none) (ty : TypeId) (x y : Operand) (hop : o.op = .store ty x y) (b off : Nat) (D : Array Value)
    (hx : a.eval x = .pointer (some ⟨b, off, none⟩)) (hy : a.eval y = .agg D) (hi : (P.info? ty).map (·.size) = some D.size) (h1 : D.all (·.oneCell') = true)
    (hc : ∀ g w, agree md o F g → g i = none → C g w → ∃ E t, w.heap[b]? = some (.cells E t (0, 0)) ∧ off + D.size ≤ E.size ∧ C (upd g i undef) (w.setRow b (splice E off D)))
    (hK : wpAnyM P md ops C Q fuel (listed.setIfInBounds i true) (upd F i undef) (a.put o.dst undef)) : wpAnyM P md ops C Q (fuel + 1) listed F a := by
  refine mv_alone i ho hr (by simp [Region.wanted, hg]) (fun v => v = undef) (fun g w h0 h2 h3 D' hD => ?_) (fun v e => e ▸ hK)
  obtain ⟨E, t, hb, hfit, hC⟩ := hc g w h0 h2 h3
  have hth : w.there b off D.size := fun j hj => ⟨by rw [cell_of_row w b (off + j) E t (0, 0) hb, Array.getElem?_eq_getElem (by omega)]; rfl, frozen_of_row w b _ _ _ hb⟩
  have hrun := run_storeAt_mid (P := P) w b off ty D hth hi h1
  rw [setCells_row b t D.toList off w E hb (by simp; omega), Array.toArray_toList] at hrun
  simp [execOp, hop, hx, hy, hrun, Result.andThen, movesUpon]
  exact hD _ _ rfl hC
end
/-- worlds where a struct is returned: the result's block has what it had, or what was stored -/
structure RetCls (B : Nat) (w0 : World) (bx : Nat) (ox : Obj) (bo : Nat) (oo : Obj) (bz : Nat) (C E : Array Value) (t : TypeId) (r : Option Value) (w : World) : Prop where
  b : Below B w0 w
  x : w.heap[bx]? = some ox
  o : w.heap[bo]? = some oo
  z : w.heap[bz]? = some (.cells (match r with | none => C | some _ => E) t (0, 0))
section
variable {B : Nat} {w0 w : World} {bx bo bz : Nat} {ox oo : Obj} {C E : Array Value} {t : TypeId}
theorem RetCls.start (hb : Below B w0 w) (hB : B ≤ w.heap.size) (hx : w.heap[bx]? = some ox) (ho : w.heap[bo]? = some oo) (hz : w.heap[bz]? = some (.cells C t (0, 0))) : RetCls B w0 bx ox bo oo bz C E t none w.drew :=
  ⟨hb.trans ((drew_below w).mono hB), ((drew_below w).block _ (lt_of_block hx)).trans hx, ((drew_below w).block _ (lt_of_block ho)).trans ho, ((drew_below w).block _ (lt_of_block hz)).trans hz⟩
theorem RetCls.stored (h : RetCls B w0 bx ox bo oo bz C E t none w) (h1 : bx ≠ bz) (h2 : bo ≠ bz) (h3 : B ≤ bz) : RetCls B w0 bx ox bo oo bz C E t (some undef) (w.setRow bz E) :=
  ⟨below_setRow h.b h3 _, (setRow_other _ _ _ _ h1).trans h.x, (setRow_other _ _ _ _ h2).trans h.o, setRow_heap w _ _ _ _ _ h.z⟩
end
end Ks
/- A journal told a step of a script: the law's function play. -/
set_option maxRecDepth 100000
namespace Go.Proofs.YteppfjgglelpbaaGreat
open Go.RowKit Ks
set_option linter.unusedVariables false
set_option linter.unusedSimpArgs false
theorem turn_new {w w1 w2 : World} {F F' : Nat → Prop} (h : Turn w w1 F F') (hb : Below w.heap.size w1 w2) : Turn w w2 F F' :=
  ⟨hb.os.trans h.os, hb.tape.trans h.tape, hb.output.trans h.output, Nat.le_trans h.size hb.size, fun k q1 q2 => (hb.block k q1).trans (h.block k q1 q2), h.foot⟩
/-- worlds of a region that calls a journal, and stores a struct: what each told -/
structure JCls (B : Nat) (w0 w : World) (jn sn dn : Nat) (vb vc : Value) (j j2 : JrnT) (K : List (Nat × Obj)) (r : Nat) (C0 C1 : Array Value) (T : TypeId) (fc fs : Option Value) (y : World) : Prop where
  st : match fc with
    | none => OnJ B w0 y jn sn dn vb vc j ∧ Turn w y (FL jn sn dn vb vc) (FL jn sn dn vb vc)
    | some _ => ∃ vc', OnJ B w0 y jn sn dn vb vc' j2 ∧ Turn w y (FL jn sn dn vb vc) (FL jn sn dn vb vc') ∧ ¬ FL jn sn dn vb vc' r
  ks : ∀ p ∈ K, y.heap[p.1]? = some p.2 ∧ w.heap.size ≤ p.1 ∧ p.1 ≠ r
  z : y.heap[r]? = some (.cells (match fs with | none => C0 | some _ => C1) T (0, 0))
  hr : w.heap.size ≤ r
  hw : ∀ k, FL jn sn dn vb vc k → k < w.heap.size
section
variable {B : Nat} {w0 w y y' : World} {jn sn dn : Nat} {vb vc : Value} {j j2 : JrnT} {K : List (Nat × Obj)} {r : Nat} {C0 C1 : Array Value} {T : TypeId} {fs : Option Value}
theorem JCls.start (h : OnJ B w0 y jn sn dn vb vc j) (ht : Turn w y (FL jn sn dn vb vc) (FL jn sn dn vb vc)) (hk : ∀ p ∈ K, y.heap[p.1]? = some p.2 ∧ w.heap.size ≤ p.1 ∧ p.1 ≠ r) (hz : y.heap[r]? = some (.cells C0 T (0, 0))) (hr : w.heap.size ≤ r) (hw : ∀ k, FL jn sn dn vb vc k → k < w.heap.size) :
    JCls B w0 w jn sn dn vb vc j j2 K r C0 C1 T none none y.drew :=
  have hb := drew_below y
  ⟨⟨h.below hb, turn_new ht (hb.mono ht.size)⟩, fun p hp => ⟨blk_on hb (hk p hp).1, (hk p hp).2⟩, blk_on hb hz, hr, hw⟩
theorem JCls.cell {fc : Option Value} (h : JCls B w0 w jn sn dn vb vc j j2 K r C0 C1 T fc fs y) {b : Nat} {ob : Obj} (hb : (b, ob) ∈ K) : y.heap[b]? = some ob := (h.ks _ hb).1
theorem JCls.call (h : JCls B w0 w jn sn dn vb vc j j2 K r C0 C1 T none fs y) {vc' v : Value} (h1 : OnJ B w0 y' jn sn dn vb vc' j2) (ht : Turn y y' (FL jn sn dn vb vc) (FL jn sn dn vb vc')) : JCls B w0 w jn sn dn vb vc j j2 K r C0 C1 T (some v) fs y' := by
  obtain ⟨q1, q2⟩ := h.st
  have hne : ∀ b, w.heap.size ≤ b → ¬ FL jn sn dn vb vc b := fun b hb q => by have := h.hw b q; omega
  refine ⟨⟨vc', h1, q2.trans ht, fun q => ?_⟩, fun p hp => ⟨(ht.block _ (lt_of_block (h.ks p hp).1) (hne _ (h.ks p hp).2.1)).trans (h.ks p hp).1, (h.ks p hp).2⟩, (ht.block _ (lt_of_block h.z) (hne _ h.hr)).trans h.z, h.hr, h.hw⟩
  rcases ht.foot r q with q | q
  · exact hne r h.hr q
  · have := lt_of_block h.z; omega
theorem onj_row {vc : Value} {j : JrnT} (h : OnJ B w0 y jn sn dn vb vc j) (hn : ¬ FL jn sn dn vb vc r) (hB : B ≤ r) (C : Array Value) : OnJ B w0 (y.setRow r C) jn sn dn vb vc j :=
  have hb : Below B y (y.setRow r C) := below_setRow (Below.refl _ _) hB _
  ⟨h.b.trans hb, Nat.le_trans h.hB hb.size, h.jl.keep fun k q => setRow_other _ _ _ _ fun e => hn (e ▸ q), h.lo⟩
theorem JCls.stored {fc : Option Value} (h : JCls B w0 w jn sn dn vb vc j j2 K r C0 C1 T fc none y) (hB : B ≤ r) {v : Value} : JCls B w0 w jn sn dn vb vc j j2 K r C0 C1 T fc (some v) (y.setRow r C1) := by
  have hb : Below w.heap.size y (y.setRow r C1) := below_setRow (Below.refl _ _) h.hr _
  refine ⟨?_, fun p hp => ⟨(setRow_other _ _ _ _ (h.ks p hp).2.2).trans (h.ks p hp).1, (h.ks p hp).2⟩, setRow_heap _ _ _ _ _ _ h.z, h.hr, h.hw⟩
  have hst := h.st
  cases fc with
  | none => exact ⟨onj_row hst.1 (fun q => by have := h.hw r q; have := h.hr; omega) hB _, turn_new hst.2 hb⟩
  | some v =>
    obtain ⟨vc', q1, q2, q3⟩ := hst
    exact ⟨vc', onj_row q1 q3 hB _, turn_new q2 hb, q3⟩
end
theorem st_one (z : Option Addr) (k c : Nat) (a b : Int) : (#[.slice z k c, .int .i64 a, .int .i64 b] : Array Value).all (·.oneCell') = true := by simp [Value.oneCell']
theorem eg_jcom : ∀ args w, (callFunc 11 args).run Tryz.prog w = .ok (.enter 11 args) w := fun _ _ => rfl
theorem eg_jfl : ∀ args w, (callFunc 13 args).run Tryz.prog w = .ok (.enter 13 args) w := fun _ _ => rfl
/-- what a step of a script leaves -/
def PlayP (B : Nat) (w0 w : World) (jn sn dn : Nat) (vb vc : Value) (j : JrnT) (A : List ByteArray) (m : Nat) (G : Nat → Prop) (e : Ending) (w' : World) : Prop :=
  ∃ (v2 vm : Value) (ep2 ck2 er : Int) (A2 L2 : List ByteArray) (j2 : JrnT) (vc2 : Value), e = .returned (.tuple #[.agg #[v2, .int .i64 ep2, .int .i64 ck2], vm, .int .i64 er]) ∧ Did j lawK A ep2 ck2 lawK A2 L2 (m + 1) er j2 ∧
    OnJ B w0 w' jn sn dn vb vc2 j2 ∧ RdO w' (FG (FL jn sn dn vb vc2) G) v2 A2 ∧ (er = 0 → RdO w' (FG (FL jn sn dn vb vc2) G) vm L2) ∧ Turn w w' (FL jn sn dn vb vc) (FL jn sn dn vb vc2) ∧ A2.length ≤ 1100
set_option maxRecDepth 100000 in
set_option maxHeartbeats 8000000 in
theorem play_any {B : Nat} {w0 w : World} {jn sn dn : Nat} {vb vc : Value} {j : JrnT} {A L : List ByteArray} {m : Nat} (h : OnJ B w0 w jn sn dn vb vc j) (hl : Lives j lawK A L m) (hm : m < 3000) (G : Nat → Prop) (hG : ∀ k, G k → k < w.heap.size)
    (va vl : Value) (hA : RdO w (FG (FL jn sn dn vb vc) G) va A) (hL : RdO w (FG (FL jn sn dn vb vc) G) vl L) (x : StepT) (hx : StepG x) :
    Calls Tryz.prog 26 #[.pointer (some ⟨jn, 0, none⟩), .agg #[va, .int .i64 j.last.epoch, .int .i64 j.last.clock], vl, .agg #[.int .i64 x.kind, .int .i64 x.n, .string x.text]] w (PlayP B w0 w jn sn dn vb vc j A m G) := by
  refine calls_by fun R HR => ?_
  obtain ⟨kd, n, tx⟩ := x
  have HJ := Lib.hid (And.intro h (And.intro hl (And.intro hm hG)))
  have HA := Lib.hid hA
  have HL := Lib.hid hL
  have HF := Lib.hid h.lt
  have hso := sok hl.tells.ok
  have hle := hl.le
  have HZ := Lib.hid (show L.length ≤ 1020 ∧ A.length ≤ 1020 ∧ 0 ≤ j.last.epoch ∧ j.last.epoch ≤ 4294967295 by omega)
  have HE : Hid (∀ v2 vm ep2 ck2 er A2 L2 j2 vc2 w', Did j lawK A ep2 ck2 lawK A2 L2 (m + 1) er j2 → OnJ B w0 w' jn sn dn vb vc2 j2 → RdO w' (FG (FL jn sn dn vb vc2) G) v2 A2 → (er = 0 → RdO w' (FG (FL jn sn dn vb vc2) G) vm L2) → Turn w w' (FL jn sn dn vb vc) (FL jn sn dn vb vc2) → A2.length ≤ 1100 → R (.returned (.tuple #[.agg #[v2, .int .i64 ep2, .int .i64 ck2], vm, .int .i64 er])) w') :=
    Lib.hid fun v2 vm ep2 ck2 er A2 L2 j2 vc2 w' q1 q2 q3 q4 q5 q6 => HR.out _ _ ⟨v2, vm, ep2, ck2, er, A2, L2, j2, vc2, rfl, q1, q2, q3, q4, q5, q6⟩
  obtain ⟨aa, ca, rfl, -⟩ := hA.rd.shape
  obtain ⟨al, cl, rfl, -⟩ := hL.rd.shape
  clear h hl hm hG hA hL hso hle HR hx
  have H1 := Lib.hid (Below.refl w.heap.size w)
  obtain ⟨W1, hW1⟩ : ∃ W1, w.alloc (.cells #[.slice aa A.length ca, .int .i64 j.last.epoch, .int .i64 j.last.clock] 62) = W1 := ⟨_, rfl⟩
  have hbW1 : Below w.heap.size w W1 := by rw [← hW1]; exact alloc_below w _
  have kW1 : W1.heap[w.heap.size]? = some (.cells #[.slice aa A.length ca, .int .i64 j.last.epoch, .int .i64 j.last.clock] 62 (0, 0)) := by rw [← hW1]; exact alloc_new w _
  have H2 := Lib.hid (And.intro (H1.out.trans (hbW1.mono H1.out.size)) (kW1))
  clear hbW1 kW1
  obtain ⟨W2, hW2⟩ : ∃ W2, W1.alloc (.cells #[.int .i64 kd, .int .i64 n, .string tx] 64) = W2 := ⟨_, rfl⟩
  have hbW2 : Below W1.heap.size W1 W2 := by rw [← hW2]; exact alloc_below W1 _
  have kW2 : W2.heap[W1.heap.size]? = some (.cells #[.int .i64 kd, .int .i64 n, .string tx] 64 (0, 0)) := by rw [← hW2]; exact alloc_new W1 _
  have H3 := Lib.hid (And.intro (H2.out.1.trans (hbW2.mono H2.out.1.size)) (And.intro (blk_on hbW2 H2.out.2) (kW2)))
  clear hbW2 kW2
  obtain ⟨W3, hW3⟩ : ∃ W3, W2.alloc (.cells #[.slice none 0 0, .int .i64 0, .int .i64 0] 62) = W3 := ⟨_, rfl⟩
  have hbW3 : Below W2.heap.size W2 W3 := by rw [← hW3]; exact alloc_below W2 _
  have kW3 : W3.heap[W2.heap.size]? = some (.cells #[.slice none 0 0, .int .i64 0, .int .i64 0] 62 (0, 0)) := by rw [← hW3]; exact alloc_new W2 _
  have H4 := Lib.hid (And.intro (H3.out.1.trans (hbW3.mono H3.out.1.size)) (And.intro (blk_on hbW3 H3.out.2.1) (And.intro (blk_on hbW3 H3.out.2.2) (kW3))))
  clear hbW3 kW3
  have HN1 := Lib.hid (show W1.heap.size = w.heap.size + 1 by rw [← hW1]; simp)
  have HN2 := Lib.hid (show W2.heap.size = w.heap.size + 2 by rw [← hW2]; simp [HN1.out])
  obtain ⟨s0, s1, s2, -, -, -⟩ := blk3 H4.out.2.1
  obtain ⟨a0, a1, a2, -, -, -⟩ := blk3 H4.out.2.2.1
  obtain ⟨r0, r1, r2, fr0, fr1, fr2⟩ := blk3 H4.out.2.2.2
  go_enter Tryz.func26, Tryz.ntmps26
  go_wp2_with fail
  go_wp2_with fail
  refine (full4_any tx W3).mono ?_
  rintro en v1 ⟨rfl, hb⟩
  have H5 := Lib.hid (And.intro (H4.out.1.trans (hb.mono H4.out.1.size)) (And.intro (blk_on hb H4.out.2.1) (And.intro (blk_on hb H4.out.2.2.1) (blk_on hb H4.out.2.2.2))))
  clear hb
  clear s0 s1 s2 a0 a1 a2 r0 r1 r2 fr0 fr1 fr2
  clear hW1 hW2 hW3
  have ht4 := Lib.hid (full4_size tx)
  generalize full4 tx = F4 at *
  by_cases k1 : kd = 1
  case pos =>
    subst k1
    obtain ⟨s0, s1, s2, -, -, -⟩ := blk3 H5.out.2.1
    obtain ⟨a0, a1, a2, -, -, -⟩ := blk3 H5.out.2.2.1
    obtain ⟨r0, r1, r2, fr0, fr1, fr2⟩ := blk3 H5.out.2.2.2
    have HD := Lib.hid (append_did HJ.out.2.1 F4 ht4.out (by have := HJ.out.2.2.1; omega))
    have HI : Hid (appendE j F4 = 0 → appendI j F4 = (L.length : Int)) := Lib.hid HD.out.2
    have HAp := Lib.hid (ojappend_any F4 (HJ.out.1.below H5.out.1) HJ.out.2.1)
    generalize appendE j F4 = AE at *
    generalize appendI j F4 = AI at *
    generalize appendJ j F4 = AJ at *
    go_wp2_with fail
    refine HAp.out.mono ?_
    rintro en y1 ⟨rfl, vc2, hj, ht⟩
    have HT := Lib.hid (show OnJ B w0 y1 jn sn dn vb vc2 AJ ∧ Turn w y1 (FL jn sn dn vb vc) (FL jn sn dn vb vc2) ∧ w.heap.size ≤ y1.heap.size ∧ (∀ k, FL jn sn dn vb vc2 k → FL jn sn dn vb vc k ∨ v1.heap.size ≤ k) ∧ v1.heap.size ≤ y1.heap.size from ⟨hj, (Turn.of_below _ H5.out.1).trans ht, Nat.le_trans H5.out.1.size ht.size, ht.foot, ht.size⟩)
    have ks : y1.heap[w.heap.size]? = some (.cells #[.slice aa A.length ca, .int .i64 j.last.epoch, .int .i64 j.last.clock] 62 (0, 0)) := ((ht.block _ (lt_of_block H5.out.2.1) (fun q => by have := HF.out _ q; have := HN1.out; have := HN2.out; omega)).trans H5.out.2.1)
    have ka : y1.heap[W1.heap.size]? = some (.cells #[.int .i64 1, .int .i64 n, .string tx] 64 (0, 0)) := ((ht.block _ (lt_of_block H5.out.2.2.1) (fun q => by have := HF.out _ q; have := HN1.out; have := HN2.out; omega)).trans H5.out.2.2.1)
    have kr : y1.heap[W2.heap.size]? = some (.cells #[.slice none 0 0, .int .i64 0, .int .i64 0] 62 (0, 0)) := ((ht.block _ (lt_of_block H5.out.2.2.2) (fun q => by have := HF.out _ q; have := HN1.out; have := HN2.out; omega)).trans H5.out.2.2.2)
    have HB := Lib.hid (And.intro ks (And.intro ka kr))
    clear hj ht ks ka kr HAp
    clear s0 s1 s2 a0 a1 a2 r0 r1 r2 fr0 fr1 fr2
    have hnf : Hid (¬ FL jn sn dn vb vc2 W2.heap.size) := Lib.hid (fun q => by rcases HT.out.2.2.2.1 _ q with q | q; (· have := HF.out _ q; have := HN2.out; omega); (· have := lt_of_block H5.out.2.2.2; omega))
    obtain ⟨s0, s1, s2, -, -, -⟩ := blk3 HB.out.1
    obtain ⟨r0, r1, r2, fr0, fr1, fr2⟩ := blk3 HB.out.2.2
    by_cases he : AE = 0
    case pos =>
      subst he
      have hi := HI.out rfl
      subst hi
      obtain ⟨W4, hW4⟩ : ∃ W, y1.alloc (.cells #[] 9) = W := ⟨_, rfl⟩
      have hb4 : Below y1.heap.size y1 W4 := by rw [← hW4]; exact alloc_below _ _
      have hn4 : Row strE W4 y1.heap.size 9 (.slice (some ⟨y1.heap.size, 0, none⟩) 0 0) [] := by rw [← hW4]; exact Row.made y1 _ _ (Nat.le_refl _)
      have H4 := Lib.hid (And.intro hb4 (And.intro hn4 ((HL.out.turn (turn_more G HT.out.2.1)).rd.below hb4)))
      clear hb4 hn4
      go_wp2_with (at_builtin; refine wpList_append_row _ rfl _ _ 38 rfl strT y1.heap.size _ _ [] L rfl rfl H4.out.2.1 H4.out.2.2 H4.out.1.size (by have := HZ.out; simp; omega) (by decide) ?_)
      rintro v5 w5 hg5
      replace hg5 : Grew strE W4 w5 _ 9 _ v5 L := hg5
      have hb5 : Below y1.heap.size W4 w5 := hg5.below (Below.refl _ _) H4.out.1.size (fun b hb => (H4.out.2.1.lt hb).1)
      have H5 := Lib.hid (And.intro (H4.out.1.trans hb5) hg5.1)
      clear hg5 hb5 hW4 s0 s1 s2 r0 r1 r2 fr0 fr1 fr2
      go_wp2_with (at_builtin; refine wpList_append_row _ rfl _ _ 38 rfl strT y1.heap.size _ _ L [F4] rfl rfl (H5.out.2.below (alloc_below _ _)) (Rd.single (E := strE) F4 (alloc_new _ _) rfl) (by have := H5.out.1.size; simp; omega) (by have := HZ.out; simp; omega) (by decide) ?_)
      rintro v6 w6 hg6
      have hA5 := alloc_below w5 (.cells #[.string F4] 9)
      have hR5 := H5.out.2.below hA5
      have hS5 : y1.heap.size ≤ (w5.alloc (.cells #[.string F4] 9)).heap.size := Nat.le_trans H5.out.1.size hA5.size
      have hb6 : Below y1.heap.size w5 w6 := ((alloc_below w5 (.cells #[.string F4] 9)).mono H5.out.1.size).trans (hg6.below (Below.refl _ _) hS5 (fun b hb => (hR5.lt hb).1))
      have hb := H5.out.1.trans hb6
      have H6 := Lib.hid (And.intro hb (And.intro hg6.1 (And.intro (HT.out.1.below hb) (And.intro (turn_new HT.out.2.1 (hb.mono HT.out.2.2.1)) (And.intro (blk_on hb HB.out.1) (blk_on hb HB.out.2.2))))))
      clear hg6 hb6 hb hA5 hR5 hS5
      obtain ⟨s0, s1, s2, -, -, -⟩ := blk3 H6.out.2.2.2.2.1
      obtain ⟨r0, r1, r2, fr0, fr1, fr2⟩ := blk3 H6.out.2.2.2.2.2
      obtain ⟨WR, hWR⟩ : ∃ W, w6.setRow W2.heap.size #[.slice aa A.length ca, .int .i64 j.last.epoch, .int .i64 j.last.clock] = W := ⟨_, rfl⟩
      have KE := Lib.hid (show WR.heap[W2.heap.size]? = some (.cells #[.slice aa A.length ca, .int .i64 j.last.epoch, .int .i64 j.last.clock] 62 (0, 0)) by rw [← hWR]; exact setRow_heap _ _ _ _ _ _ H6.out.2.2.2.2.2)
      have KB := Lib.hid (show Below w.heap.size w6 WR by rw [← hWR]; exact below_setRow (Below.refl _ _) (by have := HN2.out; omega) _)
      have KO := Lib.hid (fun vcx jx (q : OnJ B w0 w6 jn sn dn vb vcx jx) (q2 : ¬ FL jn sn dn vb vcx W2.heap.size) => show OnJ B w0 WR jn sn dn vb vcx jx by rw [← hWR]; exact onj_row q q2 (by have := HN2.out; have := HJ.out.1.hB; omega) _)
      go_wp2_with (refine wpList_store_blk rfl 62 (.tmp 8) (.tmp 44) rfl W2.heap.size 0 3 rfl #[.slice none 0 0, .int .i64 0, .int .i64 0] #[.slice aa A.length ca, .int .i64 j.last.epoch, .int .i64 j.last.clock] #[.slice aa A.length ca, .int .i64 j.last.epoch, .int .i64 j.last.clock] rfl 62 H6.out.2.2.2.2.2 rfl (Nat.le_refl 3) (by kernel_rfl) (st_one _ _ _ _ _) (splice_all _ _ rfl) ?_; rw [hWR])
      obtain ⟨y0, y1', y2, -, -, -⟩ := blk3 KE.out
      have ht := turn_new H6.out.2.2.2.1 KB.out
      refine bodyPost_ret (v := .tuple #[.agg #[.slice aa A.length ca, .int .i64 j.last.epoch, .int .i64 j.last.clock], v6, .int .i64 0]) (by simp [results, Tryz.results26, go_sem, y0, y1', y2]) rfl ?_
      exact HE.out _ _ _ _ _ _ _ _ _ _ HD.out.1 (KO.out _ _ H6.out.2.2.1 hnf.out) (HA.out.turn (turn_more G ht)) (fun _ => RdO.row (H6.out.2.1.keep fun b hb => by rw [← hWR]; exact setRow_other _ _ _ _ (fun e => by have := (H6.out.2.1.lt hb).1; have := lt_of_block HB.out.2.2; omega)) (fun k q => by rcases q with q | q; (· exact HT.out.1.lt k q); (· have := HJ.out.2.2.2 k q; have := HT.out.2.2.1; omega))) ht (by have := HZ.out; omega)
    have heb : (AE == 0) = false := by simpa using he
    obtain ⟨WR, hWR⟩ : ∃ W, y1.setRow W2.heap.size #[.slice aa A.length ca, .int .i64 j.last.epoch, .int .i64 j.last.clock] = W := ⟨_, rfl⟩
    have KE := Lib.hid (show WR.heap[W2.heap.size]? = some (.cells #[.slice aa A.length ca, .int .i64 j.last.epoch, .int .i64 j.last.clock] 62 (0, 0)) by rw [← hWR]; exact setRow_heap _ _ _ _ _ _ HB.out.2.2)
    have KB := Lib.hid (show Below w.heap.size y1 WR by rw [← hWR]; exact below_setRow (Below.refl _ _) (by have := HN2.out; omega) _)
    have KO := Lib.hid (fun vcx jx (q : OnJ B w0 y1 jn sn dn vb vcx jx) (q2 : ¬ FL jn sn dn vb vcx W2.heap.size) => show OnJ B w0 WR jn sn dn vb vcx jx by rw [← hWR]; exact onj_row q q2 (by have := HN2.out; have := HJ.out.1.hB; omega) _)
    go_wp2_with (refine wpList_store_blk rfl 62 (.tmp 8) (.tmp 44) rfl W2.heap.size 0 3 rfl #[.slice none 0 0, .int .i64 0, .int .i64 0] #[.slice aa A.length ca, .int .i64 j.last.epoch, .int .i64 j.last.clock] #[.slice aa A.length ca, .int .i64 j.last.epoch, .int .i64 j.last.clock] rfl 62 HB.out.2.2 rfl (Nat.le_refl 3) (by kernel_rfl) (st_one _ _ _ _ _) (splice_all _ _ rfl) ?_; rw [hWR])
    obtain ⟨y0, y1', y2, -, -, -⟩ := blk3 KE.out
    have ht := turn_new HT.out.2.1 KB.out
    refine bodyPost_ret (v := .tuple #[.agg #[.slice aa A.length ca, .int .i64 j.last.epoch, .int .i64 j.last.clock], .slice al L.length cl, .int .i64 AE]) (by simp [results, Tryz.results26, go_sem, y0, y1', y2]) rfl ?_
    exact HE.out _ _ _ _ _ _ _ _ _ _ HD.out.1 (KO.out _ _ HT.out.1 hnf.out) (HA.out.turn (turn_more G ht)) (fun q => absurd q he) ht (by have := HZ.out; omega)
  have k1b : (kd == 1) = false := by simpa using k1
  by_cases k2 : kd = 2
  case pos =>
    subst k2
    have HD := Lib.hid ((com_did HJ.out.2.1 n).more (Nat.le_succ m))
    have HCm := Lib.hid (fun w9 (q : OnJ B w0 w9 jn sn dn vb vc j) => ojcom_any n q HJ.out.2.1)
    generalize comE j n = CE at *
    generalize comJ j n = CJ at *
    obtain ⟨s0, s1, s2, -, -, -⟩ := blk3 H5.out.2.1
    obtain ⟨a0, a1, a2, -, -, -⟩ := blk3 H5.out.2.2.1
    obtain ⟨r0, r1, r2, fr0, fr1, fr2⟩ := blk3 H5.out.2.2.2
    go_upto_region 9 with fail
    refine wp_region_mv (fun ft => JCls B w0 w jn sn dn vb vc j (CJ) [(w.heap.size, .cells #[.slice aa A.length ca, .int .i64 j.last.epoch, .int .i64 j.last.clock] 62 (0, 0)), (W1.heap.size, .cells #[.int .i64 2, .int .i64 n, .string tx] 64 (0, 0))] W2.heap.size #[.slice none 0 0, .int .i64 0, .int .i64 0] #[.slice al L.length cl, .int .i64 j.last.epoch, .int .i64 n] 62 (ft 10) (ft 11)) (by kernel_rfl) (JCls.start (HJ.out.1.below H5.out.1) (Turn.of_below _ H5.out.1) (fun p hp => by
      have e1 := HN1.out
      have e2 := HN2.out
      simp only [List.mem_cons, List.not_mem_nil, or_false] at hp
      rcases hp with rfl | rfl
      · exact ⟨H5.out.2.1, Nat.le_refl _, by show w.heap.size ≠ W2.heap.size; omega⟩
      · exact ⟨H5.out.2.2.1, by show w.heap.size ≤ W1.heap.size; omega, by show W1.heap.size ≠ W2.heap.size; omega⟩) H5.out.2.2.2 (by have := HN2.out; omega) HF.out) ?_
    obtain ⟨S, F, hF, hFC⟩ := moved_class (fun ft => JCls B w0 w jn sn dn vb vc j (CJ) [(w.heap.size, .cells #[.slice aa A.length ca, .int .i64 j.last.epoch, .int .i64 j.last.clock] 62 (0, 0)), (W1.heap.size, .cells #[.int .i64 2, .int .i64 n, .string tx] 64 (0, 0))] W2.heap.size #[.slice none 0 0, .int .i64 0, .int .i64 0] #[.slice al L.length cl, .int .i64 j.last.epoch, .int .i64 n] 62 (ft 10) (ft 11))
    have kS : ∀ s, (F s).heap[w.heap.size]? = some (.cells #[.slice aa A.length ca, .int .i64 j.last.epoch, .int .i64 j.last.clock] 62 (0, 0)) := fun s => (hFC s).choose_spec.cell (by simp)
    have kA : ∀ s, (F s).heap[W1.heap.size]? = some (.cells #[.int .i64 2, .int .i64 n, .string tx] 64 (0, 0)) := fun s => (hFC s).choose_spec.cell (by simp)
    have ks0 := fun s => (blk3 (kS s)).1
    have ks1 := fun s => (blk3 (kS s)).2.1
    have ks2 := fun s => (blk3 (kS s)).2.2.1
    have ka1 := fun s => (blk3 (kA s)).2.1
    clear kS kA
    clear s0 s1 s2 a0 a1 a2 r0 r1 r2 fr0 fr1 fr2
    show wpAnyM _ _ _ _ _ 14 (Array.replicate 14 false) _ _
    refine mv_read 0 hF (fun _ _ _ h => h) rfl (by kernel_rfl) (by kernel_rfl) (by kernel_rfl) (fun K hK => ?_)
    go_simp
    first | refine ⟨_, fun _ => rfl, hK _ _ ?_⟩ | refine hK _ _ ?_
    clear hK K
    refine mv_read 1 hF (fun _ _ _ h => h) rfl (by kernel_rfl) (by kernel_rfl) (by kernel_rfl) (fun K hK => ?_)
    go_simp
    first | refine ⟨_, fun _ => rfl, hK _ _ ?_⟩ | refine hK _ _ ?_
    clear hK K
    refine mv_read 2 hF (fun _ _ _ h => h) rfl (by kernel_rfl) (by kernel_rfl) (by kernel_rfl) (fun K hK => ?_)
    go_simp
    first | refine ⟨_, fun _ => rfl, hK _ _ ?_⟩ | refine hK _ _ ?_
    clear hK K
    refine mv_read 3 hF (fun _ _ _ h => h) rfl (by kernel_rfl) (by kernel_rfl) (by kernel_rfl) (fun K hK => ?_)
    go_simp
    first | refine ⟨_, fun _ => rfl, hK _ _ ?_⟩ | refine hK _ _ ?_
    clear hK K
    refine mv_read 4 hF (fun _ _ _ h => h) rfl (by kernel_rfl) (by kernel_rfl) (by kernel_rfl) (fun K hK => ?_)
    go_simp
    first | refine ⟨_, fun _ => rfl, hK _ _ ?_⟩ | refine hK _ _ ?_
    clear hK K
    refine mv_read 5 hF (fun _ _ _ h => h) rfl (by kernel_rfl) (by kernel_rfl) (by kernel_rfl) (fun K hK => ?_)
    go_simp
    first | refine ⟨_, fun _ => rfl, hK _ _ ?_⟩ | refine hK _ _ ?_
    clear hK K
    refine mv_read 6 hF (fun _ _ _ h => h) rfl (by kernel_rfl) (by kernel_rfl) (by kernel_rfl) (fun K hK => ?_)
    go_simp
    first | refine ⟨_, fun _ => rfl, hK _ _ ?_⟩ | refine hK _ _ ?_
    clear hK K
    refine mv_read 7 hF (fun _ _ _ h => h) rfl (by kernel_rfl) (by kernel_rfl) (by kernel_rfl) (fun K hK => ?_)
    go_simp
    first | refine ⟨_, fun _ => rfl, hK _ _ ?_⟩ | refine hK _ _ ?_
    clear hK K
    refine mv_read 8 hF (fun _ _ _ h => h) rfl (by kernel_rfl) (by kernel_rfl) (by kernel_rfl) (fun K hK => ?_)
    go_simp
    first | refine ⟨_, fun _ => rfl, hK _ _ ?_⟩ | refine hK _ _ ?_
    clear hK K
    refine mv_read 9 hF (fun _ _ _ h => h) rfl (by kernel_rfl) (by kernel_rfl) (by kernel_rfl) (fun K hK => ?_)
    go_simp
    first | refine ⟨_, fun _ => rfl, hK _ _ ?_⟩ | refine hK _ _ ?_
    clear hK K
    refine mv_call1 10 11 rfl (by kernel_rfl) (by kernel_rfl) (by kernel_rfl) rfl rfl eg_jcom (args := #[.pointer (some ⟨jn, 0, none⟩), .int .i64 n]) rfl (u := .int .i64 (CE)) (fun g w9 ha h0 h => ?_) ?_
    · simp only [h0] at h
      refine (HCm.out w9 h.st.1).mono ?_
      rintro en w8 ⟨q1, vc2, q2, q3⟩
      refine ⟨q1, ?_⟩
      show JCls _ _ _ _ _ _ _ _ _ _ _ _ _ _ _ (upd g 10 _ 10) (g 11) w8
      rw [upd_self]
      exact h.call q2 q3
    refine mv_store_blk 11 rfl (by kernel_rfl) rfl 62 (.tmp 8) (.tmp 54) rfl W2.heap.size 0 #[.slice al L.length cl, .int .i64 j.last.epoch, .int .i64 n] rfl rfl (by kernel_rfl) (st_one _ _ _ _ _) (fun g w9 ha h0 h => ?_) ?_
    · simp only [h0] at h
      refine ⟨#[.slice none 0 0, .int .i64 0, .int .i64 0], 62, h.z, Nat.le_refl 3, ?_⟩
      rw [splice_all #[.slice none 0 0, .int .i64 0, .int .i64 0] #[.slice al L.length cl, .int .i64 j.last.epoch, .int .i64 n] rfl]
      show JCls _ _ _ _ _ _ _ _ _ _ _ _ _ _ _ (g 10) (upd g 11 _ 11) _
      rw [upd_self]
      exact h.stored (by have := HN2.out; have := HJ.out.1.hB; omega)
    refine mv_read 12 hF (fun _ _ _ h => h) rfl (by kernel_rfl) (by kernel_rfl) (by kernel_rfl) (fun K hK => ?_)
    go_simp
    first | refine ⟨_, fun _ => rfl, hK _ _ ?_⟩ | refine hK _ _ ?_
    clear hK K
    refine mv_read 13 hF (fun _ _ _ h => h) rfl (by kernel_rfl) (by kernel_rfl) (by kernel_rfl) (fun K hK => ?_)
    go_simp
    first | refine ⟨_, fun _ => rfl, hK _ _ ?_⟩ | refine hK _ _ ?_
    clear hK K
    refine mv_end (by kernel_rfl) ?_
    intro y8 hy8
    have hst := hy8.st
    have KE := hy8.z
    obtain ⟨vc2, g1, g2, -⟩ : ∃ vc2, OnJ B w0 y8 jn sn dn vb vc2 (CJ) ∧ Turn w y8 (FL jn sn dn vb vc) (FL jn sn dn vb vc2) ∧ ¬ FL jn sn dn vb vc2 W2.heap.size := hst
    have KE2 : y8.heap[W2.heap.size]? = some (.cells #[.slice al L.length cl, .int .i64 j.last.epoch, .int .i64 n] 62 (0, 0)) := KE
    have H8 := Lib.hid (And.intro g1 (And.intro g2 KE2))
    clear KE g1 g2 KE2 hy8 hF hFC ks0 ks1 ks2 ka1
    obtain ⟨y0, y1', y2, -, -, -⟩ := blk3 H8.out.2.2
    go_wp2
    refine bodyPost_ret (v := .tuple #[.agg #[.slice al L.length cl, .int .i64 j.last.epoch, .int .i64 n], .slice al L.length cl, .int .i64 (CE)]) (by simp [results, Tryz.results26, go_sem, y0, y1', y2]) rfl ?_
    exact HE.out _ _ _ _ _ _ _ _ _ _ (HD.out) H8.out.1 (HL.out.turn (turn_more G H8.out.2.1)) (fun _ => (HL.out.turn (turn_more G H8.out.2.1))) H8.out.2.1 (by have := HZ.out; omega)
  have k2b : (kd == 2) = false := by simpa using k2
  by_cases k3 : kd = 3
  case pos =>
    subst k3
    obtain ⟨s0, s1, s2, -, -, -⟩ := blk3 H5.out.2.1
    obtain ⟨a0, a1, a2, -, -, -⟩ := blk3 H5.out.2.2.1
    obtain ⟨r0, r1, r2, fr0, fr1, fr2⟩ := blk3 H5.out.2.2.2
    have HD := Lib.hid ((shut_did HJ.out.2.1 F4 lawK n (by have := HJ.out.2.2.1; omega)).1.more (Nat.le_succ m))
    have HCm := Lib.hid (fun w9 (q : OnJ B w0 w9 jn sn dn vb vc j) => ojclose_any F4 lawK n q HJ.out.2.1)
    generalize shutE j F4 lawK n = CE at *
    generalize shutI j F4 lawK n = CI at *
    generalize shutJ j F4 lawK n = CJ at *
    obtain ⟨W4, hW4⟩ : ∃ W, v1.alloc (.cells #[] 9) = W := ⟨_, rfl⟩
    have hb4 : Below v1.heap.size v1 W4 := by rw [← hW4]; exact alloc_below _ _
    have hn4 : Row strE W4 v1.heap.size 9 (.slice (some ⟨v1.heap.size, 0, none⟩) 0 0) [] := by rw [← hW4]; exact Row.made v1 _ _ (Nat.le_refl _)
    have H4 := Lib.hid (And.intro hb4 (And.intro hn4 ((HL.out.rd.below H5.out.1).below hb4)))
    clear hb4 hn4
    go_wp2_with (at_builtin; refine wpList_append_row _ rfl _ _ 38 rfl strT v1.heap.size _ _ [] L rfl rfl H4.out.2.1 H4.out.2.2 H4.out.1.size (by have := HZ.out; simp; omega) (by decide) ?_)
    rintro v5 w5 hg5
    replace hg5 : Grew strE W4 w5 _ 9 _ v5 L := hg5
    have hb5 : Below v1.heap.size W4 w5 := hg5.below (Below.refl _ _) H4.out.1.size (fun b hb => (H4.out.2.1.lt hb).1)
    have H5 := Lib.hid (And.intro (H4.out.1.trans hb5) hg5.1)
    clear hg5 hb5 hW4
    clear s0 s1 s2 a0 a1 a2 r0 r1 r2 fr0 fr1 fr2
    go_wp2_with (at_builtin; refine wpList_append_row _ rfl _ _ 38 rfl strT v1.heap.size _ _ L [F4] rfl rfl (H5.out.2.below (alloc_below _ _)) (Rd.single (E := strE) F4 (alloc_new _ _) rfl) (by have := H5.out.1.size; simp; omega) (by have := HZ.out; simp; omega) (by decide) ?_)
    rintro v6 w6 hg6
    have hA5 := alloc_below w5 (.cells #[.string F4] 9)
    have hR5 := H5.out.2.below hA5
    have hS5 : v1.heap.size ≤ (w5.alloc (.cells #[.string F4] 9)).heap.size := Nat.le_trans H5.out.1.size hA5.size
    have hb6 : Below v1.heap.size w5 w6 := ((alloc_below w5 (.cells #[.string F4] 9)).mono H5.out.1.size).trans (hg6.below (Below.refl _ _) hS5 (fun b hb => (hR5.lt hb).1))
    have hb := H5.out.1.trans hb6
    have HV6 := Lib.hid hg6.1
    clear hg6 hb6 H4 H5 hA5 hR5 hS5
    have HS0 := Lib.hid (H5.out.1.size)
    have HS3 := Lib.hid (lt_of_block H5.out.2.2.2)
    have H6 := Lib.hid (And.intro (H5.out.1.trans (hb.mono H5.out.1.size)) (And.intro (blk_on hb H5.out.2.1) (And.intro (blk_on hb H5.out.2.2.1) (blk_on hb H5.out.2.2.2))))
    clear hb
    have HV := Lib.hid (show RdO w6 (FG (FL jn sn dn vb vc) G) v6 (L ++ [F4]) from RdO.row HV6.out (fun k q => by rcases q with q | q; (· have := HF.out k q; have := HS0.out; omega); (· have := HJ.out.2.2.2 k q; have := HS0.out; omega)))
    obtain ⟨s0, s1, s2, -, -, -⟩ := blk3 H6.out.2.1
    obtain ⟨a0, a1, a2, -, -, -⟩ := blk3 H6.out.2.2.1
    obtain ⟨r0, r1, r2, fr0, fr1, fr2⟩ := blk3 H6.out.2.2.2
    go_wp2_with fail
    refine (HCm.out w6 (HJ.out.1.below H6.out.1)).mono ?_
    rintro en y1 ⟨rfl, vc2, hj, ht⟩
    have HT := Lib.hid (show OnJ B w0 y1 jn sn dn vb vc2 CJ ∧ Turn w y1 (FL jn sn dn vb vc) (FL jn sn dn vb vc2) ∧ w.heap.size ≤ y1.heap.size ∧ (∀ k, FL jn sn dn vb vc2 k → FL jn sn dn vb vc k ∨ w6.heap.size ≤ k) ∧ Turn w6 y1 (FL jn sn dn vb vc) (FL jn sn dn vb vc2) from ⟨hj, (Turn.of_below _ H6.out.1).trans ht, Nat.le_trans H6.out.1.size ht.size, ht.foot, ht⟩)
    have ks : y1.heap[w.heap.size]? = some (.cells #[.slice aa A.length ca, .int .i64 j.last.epoch, .int .i64 j.last.clock] 62 (0, 0)) := ((ht.block _ (lt_of_block H6.out.2.1) (fun q => by have := HF.out _ q; have := HN1.out; have := HN2.out; omega)).trans H6.out.2.1)
    have ka : y1.heap[W1.heap.size]? = some (.cells #[.int .i64 3, .int .i64 n, .string tx] 64 (0, 0)) := ((ht.block _ (lt_of_block H6.out.2.2.1) (fun q => by have := HF.out _ q; have := HN1.out; have := HN2.out; omega)).trans H6.out.2.2.1)
    have kr : y1.heap[W2.heap.size]? = some (.cells #[.slice none 0 0, .int .i64 0, .int .i64 0] 62 (0, 0)) := ((ht.block _ (lt_of_block H6.out.2.2.2) (fun q => by have := HF.out _ q; have := HN1.out; have := HN2.out; omega)).trans H6.out.2.2.2)
    have HB := Lib.hid (And.intro ks (And.intro ka kr))
    clear hj ht ks ka kr HCm
    clear s0 s1 s2 a0 a1 a2 r0 r1 r2 fr0 fr1 fr2
    have hnf : Hid (¬ FL jn sn dn vb vc2 W2.heap.size) := Lib.hid (fun q => by rcases HT.out.2.2.2.1 _ q with q | q; (· have := HF.out _ q; have := HN2.out; omega); (· have := lt_of_block H6.out.2.2.2; omega))
    obtain ⟨s0, s1, s2, -, -, -⟩ := blk3 HB.out.1
    obtain ⟨a0, a1, a2, -, -, -⟩ := blk3 HB.out.2.1
    obtain ⟨r0, r1, r2, fr0, fr1, fr2⟩ := blk3 HB.out.2.2
    have hw64 : wrap64 (j.last.epoch + 1) = j.last.epoch + 1 := by have := HZ.out; unfold wrap64; omega
    have HV9 := HV.out.rd.shape
    obtain ⟨a6, c6, e6, -⟩ := HV9
    subst e6
    have hLFn := Lib.hid (show (L ++ [F4]).length ≤ 1100 by have := HZ.out; simp; omega)
    generalize hLF : L ++ [F4] = LF at *
    clear hLF
    obtain ⟨WR, hWR⟩ : ∃ W, y1.setRow W2.heap.size #[.slice a6 LF.length c6, .int .i64 (j.last.epoch + 1), .int .i64 n] = W := ⟨_, rfl⟩
    have KE := Lib.hid (show WR.heap[W2.heap.size]? = some (.cells #[.slice a6 LF.length c6, .int .i64 (j.last.epoch + 1), .int .i64 n] 62 (0, 0)) by rw [← hWR]; exact setRow_heap _ _ _ _ _ _ HB.out.2.2)
    have KB := Lib.hid (show Below w.heap.size y1 WR by rw [← hWR]; exact below_setRow (Below.refl _ _) (by have := HN2.out; omega) _)
    have KO := Lib.hid (fun vcx jx (q : OnJ B w0 y1 jn sn dn vb vcx jx) (q2 : ¬ FL jn sn dn vb vcx W2.heap.size) => show OnJ B w0 WR jn sn dn vb vcx jx by rw [← hWR]; exact onj_row q q2 (by have := HN2.out; have := HJ.out.1.hB; omega) _)
    go_wp2_with (refine wpList_store_blk rfl 62 (.tmp 8) (.tmp 82) rfl W2.heap.size 0 3 rfl #[.slice none 0 0, .int .i64 0, .int .i64 0] #[.slice a6 LF.length c6, .int .i64 (j.last.epoch + 1), .int .i64 n] #[.slice a6 LF.length c6, .int .i64 (j.last.epoch + 1), .int .i64 n] rfl 62 HB.out.2.2 rfl (Nat.le_refl 3) (by kernel_rfl) (st_one _ _ _ _ _) (splice_all _ _ rfl) ?_; rw [hWR])
    obtain ⟨y0, y1', y2, -, -, -⟩ := blk3 KE.out
    have ht := turn_new HT.out.2.1 KB.out
    have ht6 := Lib.hid (show Turn w w (FL jn sn dn vb vc) (FL jn sn dn vb vc) from Turn.refl _ _)
    have hV2 : RdO WR (FG (FL jn sn dn vb vc2) G) (.slice a6 LF.length c6) LF := by
      have q1 := HV.out.turn (turn_more G HT.out.2.2.2.2)
      by_cases hz : LF = []
      · subst hz; obtain ⟨a9, c9, e9, z9, z8, -⟩ := q1.rd; exact ⟨⟨a9, c9, e9, z9, z8, fun i x hx => by simp at hx⟩, fun q => absurd rfl q⟩
      · refine ⟨q1.rd.keep KB.out.size fun b hb => ?_, q1.off⟩
        rw [← hWR]
        exact setRow_other _ _ _ _ (fun e => by have q2 := (HV6.out.lt hb).1; have q3 := lt_of_block HB.out.2.2; have := HS0.out; subst e; have q4 := HS3.out; omega)
    refine bodyPost_ret (v := .tuple #[.agg #[.slice a6 LF.length c6, .int .i64 (j.last.epoch + 1), .int .i64 n], .slice a6 LF.length c6, .int .i64 CE]) (by simp [results, Tryz.results26, go_sem, y0, y1', y2]) rfl ?_
    exact HE.out _ _ _ _ _ _ _ _ _ _ HD.out (KO.out _ _ HT.out.1 hnf.out) hV2 (fun _ => hV2) ht hLFn.out
  have k3b : (kd == 3) = false := by simpa using k3
  have HD := Lib.hid ((flush_did HJ.out.2.1).more (Nat.le_succ m))
  have HCm := Lib.hid (fun w9 (q : OnJ B w0 w9 jn sn dn vb vc j) => ojflush_any q HJ.out.2.1)
  generalize jflE2 j = CE at *
  generalize jflJ2 j = CJ at *
  obtain ⟨s0, s1, s2, -, -, -⟩ := blk3 H5.out.2.1
  obtain ⟨a0, a1, a2, -, -, -⟩ := blk3 H5.out.2.2.1
  obtain ⟨r0, r1, r2, fr0, fr1, fr2⟩ := blk3 H5.out.2.2.2
  go_upto_region 14 with fail
  refine wp_region_mv (fun ft => JCls B w0 w jn sn dn vb vc j (CJ) [(w.heap.size, .cells #[.slice aa A.length ca, .int .i64 j.last.epoch, .int .i64 j.last.clock] 62 (0, 0)), (W1.heap.size, .cells #[.int .i64 kd, .int .i64 n, .string tx] 64 (0, 0))] W2.heap.size #[.slice none 0 0, .int .i64 0, .int .i64 0] #[.slice aa A.length ca, .int .i64 j.last.epoch, .int .i64 j.last.clock] 62 (ft 3) (ft 4)) (by kernel_rfl) (JCls.start (HJ.out.1.below H5.out.1) (Turn.of_below _ H5.out.1) (fun p hp => by
      have e1 := HN1.out
      have e2 := HN2.out
      simp only [List.mem_cons, List.not_mem_nil, or_false] at hp
      rcases hp with rfl | rfl
      · exact ⟨H5.out.2.1, Nat.le_refl _, by show w.heap.size ≠ W2.heap.size; omega⟩
      · exact ⟨H5.out.2.2.1, by show w.heap.size ≤ W1.heap.size; omega, by show W1.heap.size ≠ W2.heap.size; omega⟩) H5.out.2.2.2 (by have := HN2.out; omega) HF.out) ?_
  obtain ⟨S, F, hF, hFC⟩ := moved_class (fun ft => JCls B w0 w jn sn dn vb vc j (CJ) [(w.heap.size, .cells #[.slice aa A.length ca, .int .i64 j.last.epoch, .int .i64 j.last.clock] 62 (0, 0)), (W1.heap.size, .cells #[.int .i64 kd, .int .i64 n, .string tx] 64 (0, 0))] W2.heap.size #[.slice none 0 0, .int .i64 0, .int .i64 0] #[.slice aa A.length ca, .int .i64 j.last.epoch, .int .i64 j.last.clock] 62 (ft 3) (ft 4))
  have kS : ∀ s, (F s).heap[w.heap.size]? = some (.cells #[.slice aa A.length ca, .int .i64 j.last.epoch, .int .i64 j.last.clock] 62 (0, 0)) := fun s => (hFC s).choose_spec.cell (by simp)
  have kA : ∀ s, (F s).heap[W1.heap.size]? = some (.cells #[.int .i64 kd, .int .i64 n, .string tx] 64 (0, 0)) := fun s => (hFC s).choose_spec.cell (by simp)
  have ks0 := fun s => (blk3 (kS s)).1
  have ks1 := fun s => (blk3 (kS s)).2.1
  have ks2 := fun s => (blk3 (kS s)).2.2.1
  have ka1 := fun s => (blk3 (kA s)).2.1
  clear kS kA
  clear s0 s1 s2 a0 a1 a2 r0 r1 r2 fr0 fr1 fr2
  show wpAnyM _ _ _ _ _ 7 (Array.replicate 7 false) _ _
  refine mv_read 0 hF (fun _ _ _ h => h) rfl (by kernel_rfl) (by kernel_rfl) (by kernel_rfl) (fun K hK => ?_)
  go_simp
  first | refine ⟨_, fun _ => rfl, hK _ _ ?_⟩ | refine hK _ _ ?_
  clear hK K
  refine mv_read 1 hF (fun _ _ _ h => h) rfl (by kernel_rfl) (by kernel_rfl) (by kernel_rfl) (fun K hK => ?_)
  go_simp
  first | refine ⟨_, fun _ => rfl, hK _ _ ?_⟩ | refine hK _ _ ?_
  clear hK K
  refine mv_read 2 hF (fun _ _ _ h => h) rfl (by kernel_rfl) (by kernel_rfl) (by kernel_rfl) (fun K hK => ?_)
  go_simp
  first | refine ⟨_, fun _ => rfl, hK _ _ ?_⟩ | refine hK _ _ ?_
  clear hK K
  refine mv_call1 3 13 rfl (by kernel_rfl) (by kernel_rfl) (by kernel_rfl) rfl rfl eg_jfl (args := #[.pointer (some ⟨jn, 0, none⟩)]) rfl (u := .int .i64 (CE)) (fun g w9 ha h0 h => ?_) ?_
  · simp only [h0] at h
    refine (HCm.out w9 h.st.1).mono ?_
    rintro en w8 ⟨q1, vc2, q2, q3⟩
    refine ⟨q1, ?_⟩
    show JCls _ _ _ _ _ _ _ _ _ _ _ _ _ _ _ (upd g 3 _ 3) (g 4) w8
    rw [upd_self]
    exact h.call q2 q3
  refine mv_store_blk 4 rfl (by kernel_rfl) rfl 62 (.tmp 8) (.tmp 85) rfl W2.heap.size 0 #[.slice aa A.length ca, .int .i64 j.last.epoch, .int .i64 j.last.clock] rfl rfl (by kernel_rfl) (st_one _ _ _ _ _) (fun g w9 ha h0 h => ?_) ?_
  · simp only [h0] at h
    refine ⟨#[.slice none 0 0, .int .i64 0, .int .i64 0], 62, h.z, Nat.le_refl 3, ?_⟩
    rw [splice_all #[.slice none 0 0, .int .i64 0, .int .i64 0] #[.slice aa A.length ca, .int .i64 j.last.epoch, .int .i64 j.last.clock] rfl]
    show JCls _ _ _ _ _ _ _ _ _ _ _ _ _ _ _ (g 3) (upd g 4 _ 4) _
    rw [upd_self]
    exact h.stored (by have := HN2.out; have := HJ.out.1.hB; omega)
  refine mv_read 5 hF (fun _ _ _ h => h) rfl (by kernel_rfl) (by kernel_rfl) (by kernel_rfl) (fun K hK => ?_)
  go_simp
  first | refine ⟨_, fun _ => rfl, hK _ _ ?_⟩ | refine hK _ _ ?_
  clear hK K
  refine mv_read 6 hF (fun _ _ _ h => h) rfl (by kernel_rfl) (by kernel_rfl) (by kernel_rfl) (fun K hK => ?_)
  go_simp
  first | refine ⟨_, fun _ => rfl, hK _ _ ?_⟩ | refine hK _ _ ?_
  clear hK K
  refine mv_end (by kernel_rfl) ?_
  intro y8 hy8
  have hst := hy8.st
  have KE := hy8.z
  obtain ⟨vc2, g1, g2, -⟩ : ∃ vc2, OnJ B w0 y8 jn sn dn vb vc2 (CJ) ∧ Turn w y8 (FL jn sn dn vb vc) (FL jn sn dn vb vc2) ∧ ¬ FL jn sn dn vb vc2 W2.heap.size := hst
  have KE2 : y8.heap[W2.heap.size]? = some (.cells #[.slice aa A.length ca, .int .i64 j.last.epoch, .int .i64 j.last.clock] 62 (0, 0)) := KE
  have H8 := Lib.hid (And.intro g1 (And.intro g2 KE2))
  clear KE g1 g2 KE2 hy8 hF hFC ks0 ks1 ks2 ka1
  obtain ⟨y0, y1', y2, -, -, -⟩ := blk3 H8.out.2.2
  go_wp2
  refine bodyPost_ret (v := .tuple #[.agg #[.slice aa A.length ca, .int .i64 j.last.epoch, .int .i64 j.last.clock], .slice al L.length cl, .int .i64 (CE)]) (by simp [results, Tryz.results26, go_sem, y0, y1', y2]) rfl ?_
  exact HE.out _ _ _ _ _ _ _ _ _ _ (HD.out) H8.out.1 (HA.out.turn (turn_more G H8.out.2.1)) (fun _ => (HL.out.turn (turn_more G H8.out.2.1))) H8.out.2.1 (by have := HZ.out; omega)
end Go.Proofs.YteppfjgglelpbaaGreat
