/- Texts that the claim rests on, part 10: ModAlive, FrameCall, SeqFull, ModCopy, ModTwin. -/
import Derived.ArgAppend
import Derived.Laws.Externs
import Derived.MapKept
import Derived.Test.YtnkiokaeooopgaaM9
/- Few calls, the example: of the law. -/
set_option maxRecDepth 100000
namespace Ks
open Go Go.RowKit
set_option linter.unusedVariables false
/-- what a class says ahead of a call, and behind it -/
def Called (Pre Post : World → Prop) (u : Option Value) (w : World) : Prop := match u with | none => Pre w | some _ => Post w
def alK (k : Nat) : Int := if k < 4 then 1 else 5
def alW (k : Nat) : Int := if k = 3 then 5 else if k = 5 then 6 else 0
def alC (k : Nat) : CallT := ⟨alK k, 0, 0, 0, ⟨#[]⟩, ⟨#[]⟩⟩
def alM : Nat → ModT
  | 0 => newM ⟨8, 2, 0⟩
  | k + 1 => if k < 4 then writeM (alM k) (alC k) else closeM (alM k) (zerosS 32)
theorem writeM_geo (m : ModT) (c : CallT) : (writeM m c).geo = m.geo := by unfold writeM; split <;> rfl
theorem closeM_geo (m : ModT) (z : ByteArray) : (closeM m z).geo = m.geo := by unfold closeM applyM; split <;> rfl
theorem writeM_used (m : ModT) (c : CallT) : m.used ≤ (writeM m c).used ∧ (writeM m c).used ≤ m.used + 1 := by unfold writeM; split <;> constructor <;> first | omega | (show _ ≤ m.used + 1; omega) | (show m.used + 1 ≤ _; omega)
theorem closeM_used (m : ModT) (z : ByteArray) : m.used ≤ (closeM m z).used ∧ (closeM m z).used ≤ m.used + 1 := by unfold closeM applyM; split <;> constructor <;> first | omega | (show _ ≤ m.used + 1; omega) | (show m.used + 1 ≤ _; omega)
structure AlOk (m : ModT) (k : Nat) : Prop where
  geo : m.geo = ⟨8, 2, 0⟩
  u0 : 0 ≤ m.used
  u1 : m.used ≤ k
  vl : m.vers.length ≤ k
  rl : m.recs.length ≤ k
  hl : m.book.holds.length ≤ k
  vs : ∀ v ∈ m.vers, 0 ≤ v.1 ∧ v.1 < 4096
theorem al_ok : ∀ k, AlOk (alM k) k
  | 0 => ⟨rfl, Int.le_refl _, Int.le_refl _, Nat.le_refl _, Nat.le_refl _, Nat.le_refl _, fun v h => by cases h⟩
  | k + 1 => by
    obtain ⟨g, u0, u1, vl, rl, hl, vs⟩ := al_ok k
    show AlOk (if k < 4 then writeM (alM k) (alC k) else closeM (alM k) (zerosS 32)) (k + 1)
    split
    · have := writeM_used (alM k) (alC k)
      refine ⟨(writeM_geo _ _).trans g, by omega, by omega, ?_, ?_, ?_, ?_⟩
      · unfold writeM; split
        · show (_ ++ [_]).length ≤ _; rw [List.length_append]; simp only [List.length_cons, List.length_nil]; omega
        · omega
      · unfold writeM; split
        · show (alM k).recs.length ≤ _; omega
        · omega
      · unfold writeM; split
        · show (alM k).book.holds.length ≤ _; omega
        · omega
      · unfold writeM; split
        · intro v hv
          rcases List.mem_append.1 hv with h | h
          · exact vs v h
          · rw [List.mem_singleton] at h; subst h; exact ⟨Int.le_refl _, (by show (0 : Int) < 4096; decide)⟩
        · exact vs
    · have := closeM_used (alM k) (zerosS 32)
      refine ⟨(closeM_geo _ _).trans g, by omega, by omega, ?_, ?_, ?_, ?_⟩
      · unfold closeM applyM; split
        · show (alM k).vers.length ≤ _; omega
        · omega
      · unfold closeM applyM; split
        · show (_ ++ [_]).length ≤ _; rw [List.length_append]; simp only [List.length_cons, List.length_nil]; omega
        · omega
      · unfold closeM applyM; split
        · exact Nat.le_trans (apply_holds _ _) (by omega)
        · omega
      · unfold closeM applyM; split
        · exact vs
        · exact vs
theorem al_w0 : writeE (alM 0) (alC 0) = 0 := by rfl
theorem al_w1 : writeE (alM 1) (alC 1) = 0 := by rfl
theorem al_w2 : writeE (alM 2) (alC 2) = 0 := by rfl
theorem al_w3 : writeE (alM 3) (alC 3) = 5 := by rfl
theorem al_c4 : closeE (alM 4) = 0 := by rfl
theorem al_c5 : closeE (alM 5) = 6 := by
  have h : (alM 5).used = (alM 4).used + 1 := by
    show (closeM (alM 4) (zerosS 32)).used = _
    rw [closeM, if_pos al_c4]; rfl
  have h4 : (alM 4).used = 3 := by rfl
  have hg : geoData (alM 5).geo = 4 := by rw [(al_ok 5).geo]; rfl
  rw [closeE, if_pos (Or.inr (by omega))]
theorem al_write (k : Nat) (h : k < 4) : writeE (alM k) (alC k) = alW k ∧ alM (k + 1) = writeM (alM k) (alC k) :=
  ⟨match k, h with | 0, _ => al_w0 | 1, _ => al_w1 | 2, _ => al_w2 | 3, _ => al_w3, by show (if k < 4 then _ else _) = _; rw [if_pos h]⟩
theorem al_close (k : Nat) (h : ¬ k < 4) (h6 : k < 6) : closeE (alM k) = alW k ∧ alM (k + 1) = closeM (alM k) (zerosS 32) :=
  ⟨by rcases (show k = 4 ∨ k = 5 by omega) with rfl | rfl; exact al_c4; exact al_c5, by show (if k < 4 then _ else _) = _; rw [if_neg h]⟩
theorem al_kc {w : World} {b : Nat} {T : TypeId} (h : w.heap[b]? = some (.cells #[.int .i64 1, .int .i64 1, .int .i64 1, .int .i64 1, .int .i64 5, .int .i64 5] T (0, 0))) (k : Nat) (hk : k < 6) : w.cell? ⟨b, k, none⟩ = some (.int .i64 (alK k)) := by
  rw [cell_of_row w b k _ T (0, 0) h]
  match k, hk with
  | 0, _ => rfl
  | 1, _ => rfl
  | 2, _ => rfl
  | 3, _ => rfl
  | 4, _ => rfl
  | 5, _ => rfl
theorem al_wc {w : World} {b : Nat} {T : TypeId} (h : w.heap[b]? = some (.cells #[.int .i64 0, .int .i64 0, .int .i64 0, .int .i64 5, .int .i64 0, .int .i64 6] T (0, 0))) (k : Nat) (hk : k < 6) : w.cell? ⟨b, k, none⟩ = some (.int .i64 (alW k)) := by
  rw [cell_of_row w b k _ T (0, 0) h]
  match k, hk with
  | 0, _ => rfl
  | 1, _ => rfl
  | 2, _ => rfl
  | 3, _ => rfl
  | 4, _ => rfl
  | 5, _ => rfl
/-- a call and its slice -/
structure CallK where
  c : CallT
  a : Option Addr
  n : Nat
  k : Nat
def callE : Enc CallK := ⟨7, fun x => [.int .i64 x.c.kind, .int .i64 x.c.lba, .int .i64 x.c.epoch, .int .i64 x.c.time, .string x.c.data, .string x.c.name, .slice x.a x.n x.k], fun _ => rfl, fun x u hu => by simp only [List.mem_cons, List.not_mem_nil, or_false] at hu; rcases hu with rfl | rfl | rfl | rfl | rfl | rfl | rfl <;> rfl, by decide⟩
end Ks
namespace Go.Proofs.Ytnkiokaeooopgaa
open Go.RowKit Ks Go.Maps
set_option linter.unusedVariables false
set_option linter.unusedSimpArgs false
theorem eg_do24 : ∀ args w, (callFunc 11 args).run Try.prog w = .ok (.enter 11 args) w := fun _ _ => rfl
set_option maxRecDepth 100000 in
set_option maxHeartbeats 4000000 in
theorem few24_any (lv : Value) (l : List CallK) (w : World) (hl : Rd callE w lv l) :
    Calls Try.prog 8 #[lv] w fun e w' => ∃ b : Bool, e = .returned (.bool b) ∧ (b = true → l.length ≤ 60) ∧ Below w.heap.size w w' := by
  refine calls_by fun R HR => ?_
  have HL := Lib.hid hl
  obtain ⟨a, cap, rfl, -⟩ := hl.shape
  clear hl
  go_enter Try.func8, Try.ntmps8
  go_wp2_with fail
  go_loopw [3, 4] (fun n i wx => ∃ (k : Nat) (m : Int), k ≤ l.length ∧ n = .int .i64 m ∧ i = .int .i64 k ∧ Hid (Below w.heap.size w wx)) (fun _ i _ => l.length - (intOf i).toNat)
  case atStart => exact ⟨0, 0, Nat.zero_le _, rfl, rfl, Lib.hid (Below.refl _ _)⟩
  case round =>
    obtain ⟨k, m, hk, rfl, rfl, hN⟩ := hrel
    by_cases hlt : k < l.length
    · have hki : (k : Int) < (l.length : Int) := by omega
      by_cases h2 : k ≤ 60
      · have h2i : (k : Int) ≤ 60 := by omega
        have h2d : decide ((k : Int) ≤ 60) = true := decide_eq_true h2i
        obtain ⟨x, hx⟩ : ∃ x, l[k]? = some x := ⟨_, List.getElem?_eq_getElem hlt⟩
        obtain ⟨b, o, ha, hb0, dd⟩ := (HL.out.below hN.out).at k x hx
        cases ha
        have d4 : wr.cell? ⟨b, o + k * 7 + 4, none⟩ = some (.string x.c.data) := dd 4 _ rfl
        have d5 : wr.cell? ⟨b, o + k * 7 + 5, none⟩ = some (.string x.c.name) := dd 5 _ rfl
        have d6 : wr.cell? ⟨b, o + k * 7 + 6, none⟩ = some (.slice x.a x.n x.k) := dd 6 _ rfl
        generalize x.c.data = s at *
        generalize x.c.name = t at *
        generalize x.a = ka at *
        generalize x.n = kn at *
        generalize x.k = kc at *
        clear dd hx hb0
        have g4 := fun p => after_cell d4 p
        have g5 := fun p => after_cell d5 p
        have g6 := fun p => after_cell d6 p
        have hcase : ((s.size : Int) < 10000 ∨ ¬ (s.size : Int) < 10000) ∧ ((t.size : Int) < 10000 ∨ ¬ (t.size : Int) < 10000) ∧ ((kn : Int) < 10000 ∨ ¬ (kn : Int) < 10000) := ⟨by omega, by omega, by omega⟩
        obtain ⟨h3 | h3, h4 | h4, h5 | h5⟩ := hcase
        all_goals
          go_wp2_with fail
          refine wp_region_after (by kernel_rfl) (by kernel_rfl) ?_
          repeat (go_big_quiet_step (fail))
          refine wpQuiet_nil ?_
          rintro w5 ⟨q, rfl⟩
          have hb5 := after_below wr q
          have H5 := Lib.hid (hN.out.trans (hb5.mono hN.out.size))
          generalize After wr q = w5 at *
          clear hb5 g4 g5 g6 d4 d5 d6
          go_wp2_with fail
          go_roundw
          case rel => exact ⟨k + 1, _, by omega, rfl, by go_num, H5⟩
          case measure => simp [intOf]; omega
      · have h2i : ¬ (k : Int) ≤ 60 := by omega
        have h2d : decide ((k : Int) ≤ 60) = false := decide_eq_false h2i
        have h2e : decide (k ≤ 60) = false := decide_eq_false h2
        have h60i : ¬ (l.length : Int) ≤ 60 := by omega
        have h60d : decide ((l.length : Int) ≤ 60) = false := decide_eq_false h60i
        have h60e : decide (l.length ≤ 60) = false := decide_eq_false (by omega)
        go_wp2
        exact HR.out _ _ ⟨false, rfl, (fun h => by cases h), hN.out⟩
    · obtain rfl : k = l.length := by omega
      have hki : ¬ (l.length : Int) < (l.length : Int) := by omega
      by_cases h60 : l.length ≤ 60
      · have h60i : (l.length : Int) ≤ 60 := by omega
        have h60d : decide ((l.length : Int) ≤ 60) = true := decide_eq_true h60i
        go_wp2
        exact HR.out _ _ ⟨_, rfl, fun _ => h60, hN.out⟩
      · have h60i : ¬ (l.length : Int) ≤ 60 := by omega
        have h60d : decide ((l.length : Int) ≤ 60) = false := decide_eq_false h60i
        have h60e : decide (l.length ≤ 60) = false := decide_eq_false h60
        go_wp2
        exact HR.out _ _ ⟨false, rfl, (fun h => by cases h), hN.out⟩
/-- where the example stands, behind k calls -/
structure AlSt (B : Nat) (w0 : World) (n cc bn c mu mh mg wb kb : Nat) (k : Nat) (w : World) : Prop where
  b : Below B w0 w
  hw : w.heap[wb]? = some (.cells #[.int .i64 0, .int .i64 0, .int .i64 0, .int .i64 5, .int .i64 0, .int .i64 6] 3 (0, 0))
  hk : w.heap[kb]? = some (.cells #[.int .i64 1, .int .i64 1, .int .i64 1, .int .i64 1, .int .i64 5, .int .i64 5] 3 (0, 0))
  m : ∃ rv vv, ModAt w n cc bn c mu mh mg rv vv (alM k) ∧ ∀ j, FM n cc bn c mu mh mg rv vv j → B ≤ j ∧ j ≠ wb ∧ j ≠ kb
theorem AlSt.on {B : Nat} {w0 w w' : World} {n cc bn c mu mh mg wb kb k : Nat} (h : AlSt B w0 n cc bn c mu mh mg wb kb k w) (hB : B ≤ w.heap.size) (hb : Below w.heap.size w w') : AlSt B w0 n cc bn c mu mh mg wb kb k w' := by
  obtain ⟨rv, vv, hm, hf⟩ := h.m
  exact ⟨h.b.trans (hb.mono hB), blk_on hb h.hw, blk_on hb h.hk, rv, vv, hm.below hb, hf⟩
theorem AlSt.step {B : Nat} {w0 w : World} {n cc bn c mu mh mg wb kb k : Nat} (h : AlSt B w0 n cc bn c mu mh mg wb kb k w) (hB : B ≤ w.heap.size) (h7 : Seven n cc bn c mu mh mg) (hk : k < 6) :
    Calls Try.prog 11 #[.pointer (some ⟨n, 0, none⟩), .agg #[.int .i64 (alK k), .int .i64 0, .int .i64 0, .int .i64 0, .string ⟨#[]⟩, .string ⟨#[]⟩, .slice none 0 0]] w fun e w' => e = .returned (.agg #[.int .i64 (alW k), .string ⟨#[]⟩, .int .i64 0, .int .i64 0, .int .i64 0, .int .i64 0, .int .i64 0, .int .i64 0]) ∧ AlSt B w0 n cc bn c mu mh mg wb kb (k + 1) w' := by
  obtain ⟨rv, vv, hm, hf⟩ := h.m
  have ok := al_ok k
  have key : ∀ (w' : World) (rv' vv' : Value) (M : ModT), M = alM (k + 1) → ModAt w' n cc bn c mu mh mg rv' vv' M → Turn w w' (FM n cc bn c mu mh mg rv vv) (FM n cc bn c mu mh mg rv' vv') → AlSt B w0 n cc bn c mu mh mg wb kb (k + 1) w' := fun w' rv' vv' M hM hm' ht => by
    have h1 := lt_of_block h.hw
    have h2 := lt_of_block h.hk
    refine ⟨h.b.trans (ht.below (fun j q => (hf j q).1) hB), (ht.block _ h1 (fun q => (hf _ q).2.1 rfl)).trans h.hw, (ht.block _ h2 (fun q => (hf _ q).2.2 rfl)).trans h.hk, rv', vv', hM ▸ hm', fun j q => ?_⟩
    rcases ht.foot j q with q | q
    · exact hf j q
    · omega
  by_cases h4 : k < 4
  · refine (mdo_write (alC k) none 0 0 w hm (by show alK k = 1; rw [alK, if_pos h4]) h7 (by rw [ok.geo]; decide) ⟨ok.u0, by have := ok.u1; omega⟩ (by have := ok.vl; omega)).mono ?_
    rintro e w' ⟨rfl, vv', hm', ht⟩
    exact ⟨by rw [(al_write k h4).1], key w' rv vv' _ (al_write k h4).2.symm hm' ht⟩
  · refine (mdo_close (alC k) none 0 0 w hm (by show alK k = 5; rw [alK, if_neg h4]) h7 (by rw [ok.geo]; decide) (by have := ok.hl; omega) ⟨ok.u0, by have := ok.u1; omega⟩ (by have := ok.rl; omega) ok.vs (by have := ok.vl; omega)).mono ?_
    rintro e w' ⟨rfl, rv', hm', ht⟩
    exact ⟨by rw [(al_close k h4 hk).1], key w' rv' vv _ (al_close k h4 hk).2.symm hm' ht⟩
set_option maxRecDepth 100000 in
set_option maxHeartbeats 4000000 in
theorem alive24_any (w : World) : Calls Try.prog 10 #[] w fun e w' => e = .returned (.bool true) ∧ Below w.heap.size w w' := by
  refine calls_by fun R HR => ?_
  have HN := Lib.hid (fun w => mnew_any ⟨8, 2, 0⟩ w (by decide))
  go_enter Try.func10, Try.ntmps10
  go_wp2_with fail
  refine (HN.out _).mono ?_
  rintro en v1 ⟨n, cc, bn, c, mu, mh, mg, rfl, hm, h7, hb, hlow⟩
  have H0 := Lib.hid (And.intro hb (And.intro hm (And.intro h7 hlow)))
  clear hm h7 hb hlow
  obtain ⟨W1, hW1⟩ : ∃ W1, v1.alloc (.cells #[.int .i64 0, .int .i64 0, .int .i64 0, .int .i64 5, .int .i64 0, .int .i64 6] 3) = W1 := ⟨_, rfl⟩
  have hbW1 : Below v1.heap.size v1 W1 := by rw [← hW1]; exact alloc_below v1 _
  have kW1 : W1.heap[v1.heap.size]? = some (.cells #[.int .i64 0, .int .i64 0, .int .i64 0, .int .i64 5, .int .i64 0, .int .i64 6] 3 (0, 0)) := by rw [← hW1]; exact alloc_new v1 _
  have H1 := Lib.hid (And.intro (H0.out.1.trans (hbW1.mono H0.out.1.size)) (And.intro (H0.out.2.1.below hbW1) (And.intro H0.out.2.2.1 (And.intro H0.out.2.2.2 (kW1)))))
  clear hbW1 kW1
  have s1 : v1.heap.size < W1.heap.size := lt_of_block H1.out.2.2.2.2
  obtain ⟨W2, hW2⟩ : ∃ W2, W1.alloc (.cells #[.int .i64 1, .int .i64 1, .int .i64 1, .int .i64 1, .int .i64 5, .int .i64 5] 3) = W2 := ⟨_, rfl⟩
  have hbW2 : Below W1.heap.size W1 W2 := by rw [← hW2]; exact alloc_below W1 _
  have kW2 : W2.heap[W1.heap.size]? = some (.cells #[.int .i64 1, .int .i64 1, .int .i64 1, .int .i64 1, .int .i64 5, .int .i64 5] 3 (0, 0)) := by rw [← hW2]; exact alloc_new W1 _
  have H2 := Lib.hid (And.intro (H1.out.1.trans (hbW2.mono H1.out.1.size)) (And.intro (H1.out.2.1.below hbW2) (And.intro H1.out.2.2.1 (And.intro H1.out.2.2.2.1 (And.intro (blk_on hbW2 H1.out.2.2.2.2) (kW2))))))
  clear hbW2 kW2
  have HS := Lib.hid (show AlSt w.heap.size w n cc bn c mu mh mg v1.heap.size W1.heap.size 0 W2 from ⟨H2.out.1, H2.out.2.2.2.2.1, H2.out.2.2.2.2.2, _, _, H2.out.2.1, fun j q => ⟨H2.out.2.2.2.1 j q, by have := H0.out.2.1.ltF j q; constructor <;> omega⟩⟩)
  go_wp2_with fail
  clear hW1 hW2
  generalize v1.heap.size = wb at *
  generalize W1.heap.size = kb at *
  go_loopw [16] (fun i wx => ∃ (k : Nat), k ≤ 6 ∧ i = .int .i64 k ∧ Hid (AlSt w.heap.size w n cc bn c mu mh mg wb kb k wx)) (fun i _ => 6 - (intOf i).toNat)
  case atStart => exact ⟨0, Nat.zero_le _, rfl, HS⟩
  case round =>
    obtain ⟨k, hk, rfl, hN⟩ := hrel
    by_cases hlt : k < 6
    · have hki : (k : Int) < 6 := by omega
      have d0 := al_kc hN.out.hk k hlt
      have HB := Lib.hid (show w.heap.size ≤ wr.heap.size from hN.out.b.size)
      go_upto_region 8 with fail
      clear d0
      have HI := Lib.hid hki
      have HC := Lib.hid (fun w9 (h : AlSt w.heap.size w n cc bn c mu mh mg wb kb k w9) => h.step h.b.size H0.out.2.2.1 hlt)
      refine wp_region_mv (fun f => Called (AlSt w.heap.size w n cc bn c mu mh mg wb kb k) (AlSt w.heap.size w n cc bn c mu mh mg wb kb (k + 1)) (f 3)) (by kernel_rfl) (hN.out.on HB.out (drew_below wr)) ?_
      obtain ⟨S, F, hF, hFC⟩ := moved_class (fun f => Called (AlSt w.heap.size w n cc bn c mu mh mg wb kb k) (AlSt w.heap.size w n cc bn c mu mh mg wb kb (k + 1)) (f 3))
      have k0 : ∀ s, (F s).cell? ⟨wb, k, none⟩ = some (.int .i64 (alW k)) := fun s => by
        obtain ⟨f, hf⟩ := hFC s
        have h7 : Called (AlSt w.heap.size w n cc bn c mu mh mg wb kb k) (AlSt w.heap.size w n cc bn c mu mh mg wb kb (k + 1)) (f 3) (F s) := hf
        cases h3 : f 3 with
        | none => rw [h3] at h7; exact al_wc (AlSt.hw h7) k hlt
        | some v9 => rw [h3] at h7; exact al_wc (AlSt.hw h7) k hlt
      show wpAnyM _ _ _ _ _ 10 (Array.replicate 10 false) _ _
      refine mv_read 0 hF (fun _ _ _ h => h) rfl (by kernel_rfl) (by kernel_rfl) (by kernel_rfl) (fun K hK => ?_)
      go_simp
      first | refine ⟨_, fun _ => rfl, hK _ _ ?_⟩ | refine hK _ _ ?_
      clear hK K
      refine mv_read 1 hF (fun _ _ _ h => h) rfl (by kernel_rfl) (by kernel_rfl) (by kernel_rfl) (fun K hK => ?_)
      go_simp
      first | refine ⟨_, fun _ => rfl, hK _ _ ?_⟩ | refine hK _ _ ?_
      clear hK K
      refine mv_read 2 hF (fun _ _ _ h => h) rfl (by kernel_rfl) (by kernel_rfl) (by kernel_rfl) (fun K hK => ?_)
      go_simp
      first | refine ⟨_, fun _ => rfl, hK _ _ ?_⟩ | refine hK _ _ ?_
      clear hK K
      refine mv_call1 3 11 rfl (by kernel_rfl) (by kernel_rfl) (by kernel_rfl) rfl rfl eg_do24 (args := #[.pointer (some ⟨n, 0, none⟩), .agg #[.int .i64 (alK k), .int .i64 0, .int .i64 0, .int .i64 0, .string ⟨#[]⟩, .string ⟨#[]⟩, .slice none 0 0]]) rfl (u := .agg #[.int .i64 (alW k), .string ⟨#[]⟩, .int .i64 0, .int .i64 0, .int .i64 0, .int .i64 0, .int .i64 0, .int .i64 0]) (fun g w9 ha h9 h => ?_) ?_
      · have h7 : Called (AlSt w.heap.size w n cc bn c mu mh mg wb kb k) (AlSt w.heap.size w n cc bn c mu mh mg wb kb (k + 1)) (g 3) w9 := h
        rw [h9] at h7
        refine (HC.out w9 h7).mono ?_
        rintro en w8 ⟨q1, q2⟩
        exact ⟨q1, q2⟩
      have hfd : ∀ w : World, (Instr.field 37 (.agg #[.int .i64 (alW k), .string ⟨#[]⟩, .int .i64 0, .int .i64 0, .int .i64 0, .int .i64 0, .int .i64 0, .int .i64 0]) 0).run Try.prog w = .ok (.int .i64 (alW k)) w := fun _ => by kernel_rfl
      refine mv_read 4 hF (fun _ _ _ h => h) rfl (by kernel_rfl) (by kernel_rfl) (by kernel_rfl) (fun K hK => ?_)
      go_simp
      first | refine ⟨_, fun _ => rfl, hK _ _ ?_⟩ | refine hK _ _ ?_
      clear hK K
      refine mv_read 5 hF (fun _ _ _ h => h) rfl (by kernel_rfl) (by kernel_rfl) (by kernel_rfl) (fun K hK => ?_)
      go_simp
      first | refine ⟨_, fun _ => rfl, hK _ _ ?_⟩ | refine hK _ _ ?_
      clear hK K
      refine mv_read 6 hF (fun _ _ _ h => h) rfl (by kernel_rfl) (by kernel_rfl) (by kernel_rfl) (fun K hK => ?_)
      go_simp
      first | refine ⟨_, fun _ => rfl, hK _ _ ?_⟩ | refine hK _ _ ?_
      clear hK K
      refine mv_read 7 hF (fun _ _ _ h => h) rfl (by kernel_rfl) (by kernel_rfl) (by kernel_rfl) (fun K hK => ?_)
      go_simp
      first | refine ⟨_, fun _ => rfl, hK _ _ ?_⟩ | refine hK _ _ ?_
      clear hK K
      refine mv_read 8 hF (fun _ _ _ h => h) rfl (by kernel_rfl) (by kernel_rfl) (by kernel_rfl) (fun K hK => ?_)
      go_simp
      first | refine ⟨_, fun _ => rfl, hK _ _ ?_⟩ | refine hK _ _ ?_
      clear hK K
      refine mv_read 9 hF (fun _ _ _ h => h) rfl (by kernel_rfl) (by kernel_rfl) (by kernel_rfl) (fun K hK => ?_)
      go_simp
      first | refine ⟨_, fun _ => rfl, hK _ _ ?_⟩ | refine hK _ _ ?_
      clear hK K
      refine mv_end (by kernel_rfl) ?_
      intro w9 hw9
      have H3 := Lib.hid (show AlSt w.heap.size w n cc bn c mu mh mg wb kb (k + 1) w9 from hw9)
      clear hw9 hF hFC k0 hfd
      go_wp2_with fail
      go_roundw
      case rel => exact ⟨k + 1, by omega, by go_num, H3⟩
      case measure => first | (simp [intOf]; done) | (simp [intOf]; omega)
    · obtain rfl : k = 6 := by omega
      go_wp2
      exact HR.out _ _ ⟨rfl, hN.out.b⟩
end Go.Proofs.Ytnkiokaeooopgaa
/- Calls and shapes among a law's arguments. -/
namespace Go.Proofs.Ytnkiokaeooopgaa
open Go Go.RowKit Go.ChangeShapes Go.WideShapes Go.ChangeAt Ks
set_option linter.unusedVariables false
theorem cellsCall24 : Try.prog.cellsOf 32 = 7 := by kernel_rfl
theorem cellsGeo24 : Try.prog.cellsOf 23 = 3 := by kernel_rfl
theorem cellsInt24 : Try.prog.cellsOf 3 = 1 := by kernel_rfl
theorem cellsString24 : Try.prog.cellsOf 9 = 1 := by kernel_rfl
theorem cellsInts24 : Try.prog.cellsOf 30 = 1 := by kernel_rfl
def intE24 : Enc Int := ⟨1, fun x => [.int .i64 x], fun _ => rfl, fun x u hu => by simp only [List.mem_cons, List.not_mem_nil, or_false] at hu; rcases hu with rfl; rfl, by decide⟩
theorem int_of24 {H : Type} {enc : TypeId × Value → H} {W : World} (n : Nat) (cs : List Value) (d : DataW H × List MemPlace) (h : DataW.trod enc Try.prog W 0 (fun _ => true) true n 3 cs = some d) (hl : cs.length = intE24.k) :
    ∃ x : Int, cs = intE24.enc x ∧ True := by
  obtain ⟨e, h0, _, s0⟩ := DataW.trod_int Try.underlying3 h
  exact ⟨e, h0, trivial⟩
/-- a number that a word holds -/
def I64 (x : Int) : Prop := -9223372036854775808 ≤ x ∧ x ≤ 9223372036854775807
/-- what is known of a call among the arguments -/
def CallG (x : CallK) : Prop := I64 x.c.kind ∧ I64 x.c.lba ∧ I64 x.c.epoch ∧ I64 x.c.time ∧ x.c.data.size ≤ maxLen ∧ x.c.name.size ≤ maxLen
set_option maxRecDepth 100000 in
theorem call_of {H : Type} {enc : TypeId × Value → H} {W : World} (n : Nat) (cs : List Value) (d : DataW H × List MemPlace) (h : DataW.trod enc Try.prog W 0 (fun _ => true) true n 32 cs = some d) (hl : cs.length = callE.k) :
    ∃ x : CallK, cs = callE.enc x ∧ CallG x := by
  obtain ⟨xs, n, _, _, hl, hlen, hF⟩ := DataW.trod_struct Try.underlying32 h
  rw [cellsCall24] at hl
  match cs, hl, xs, hlen with
  | [c0, c1, c2, c3, c4, c5, c6], _, [x0, x1, x2, x3, x4, x5, x6], _ =>
    have t0 := hF 0 _ rfl
    have t1 := hF 1 _ rfl
    have t2 := hF 2 _ rfl
    have t3 := hF 3 _ rfl
    have t4 := hF 4 _ rfl
    have t5 := hF 5 _ rfl
    have t6 := hF 6 _ rfl
    simp [cellsInt24, cellsString24, cellsInts24] at t0 t1 t2 t3 t4 t5 t6
    obtain ⟨e0, h0, _, s0⟩ := DataW.trod_int Try.underlying3 t0
    obtain ⟨e1, h1, _, s1⟩ := DataW.trod_int Try.underlying3 t1
    obtain ⟨e2, h2, _, s2⟩ := DataW.trod_int Try.underlying3 t2
    obtain ⟨e3, h3, _, s3⟩ := DataW.trod_int Try.underlying3 t3
    obtain ⟨e4, h4, _, s4⟩ := DataW.trod_string Try.underlying9 t4
    obtain ⟨e5, h5, _, s5⟩ := DataW.trod_string Try.underlying9 t5
    obtain ⟨v, l, h6, _, hr, hm, hG⟩ := rd_opens (E := intE24) Try.underlying30 cellsInt24 _ int_of24 t6
    simp at h0 h1 h2 h3 h4 h5 h6
    subst h0 h1 h2 h3 h4 h5 h6
    obtain ⟨a, c, rfl, _⟩ := hr.shape
    exact ⟨⟨⟨e0, e1, e2, e3, e4, e5⟩, a, l.length, c⟩, rfl, i64_range s0, i64_range s1, i64_range s2, i64_range s3, s4, s5⟩
set_option maxRecDepth 100000 in
theorem open_calls {H : Type} {enc : TypeId × Value → H} {W : World} {base : Nat} {v : Value} {d : DataW H} {ps : List MemPlace}
    (hok : Value.okWide Try.prog W .any base 24 v) (h : DataW.Trod enc Try.prog W 0 (fun _ => true) true 24 v d ps) : ∃ l, Rd callE W v l ∧ l.length ≤ maxLen ∧ ∀ x ∈ l, CallG x :=
  rd_open (E := callE) Try.underlying24 cellsCall24 _ call_of hok h
set_option maxRecDepth 100000 in
theorem open_call {H : Type} {enc : TypeId × Value → H} {W : World} {base : Nat} {v : Value} {d : DataW H} {ps : List MemPlace}
    (hok : Value.okWide Try.prog W .any base 32 v) (h : DataW.Trod enc Try.prog W 0 (fun _ => true) true 32 v d ps) :
    ∃ (x : CallT) (a : Option Addr) (n k : Nat), v = callV x a n k ∧ CallG ⟨x, a, n, k⟩ := by
  obtain ⟨fuel, hf⟩ := h
  have hv : ∃ cs, v = .agg cs := by
    have h0 := hok
    unfold Value.okWide at h0
    rw [Try.underlying32] at h0
    obtain ⟨cs, h1, _⟩ := h0
    exact ⟨cs, h1⟩
  obtain ⟨⟨cs⟩, rfl⟩ := hv
  have hl : cs.length = 7 := by
    obtain ⟨xs, n, _, _, hl, _, _⟩ := DataW.trod_struct Try.underlying32 hf
    rw [cellsCall24] at hl
    simpa [Value.cells] using hl
  obtain ⟨x, hx, hg⟩ := call_of _ _ _ hf hl
  obtain ⟨x, a, n, k⟩ := x
  refine ⟨x, a, n, k, ?_, hg⟩
  simp only [Value.cells] at hx
  subst hx
  rfl
set_option maxRecDepth 100000 in
theorem open_geo {H : Type} {enc : TypeId × Value → H} {W : World} {base : Nat} {v : Value} {d : DataW H} {ps : List MemPlace}
    (hok : Value.okWide Try.prog W .any base 23 v) (h : DataW.Trod enc Try.prog W 0 (fun _ => true) true 23 v d ps) :
    ∃ g : GeoD, v = geoV g ∧ I64 g.blocks ∧ I64 g.lbas ∧ I64 g.first := by
  obtain ⟨fuel, hf⟩ := h
  have hv : ∃ cs, v = .agg cs := by
    have h0 := hok
    unfold Value.okWide at h0
    rw [Try.underlying23] at h0
    obtain ⟨cs, h1, _⟩ := h0
    exact ⟨cs, h1⟩
  obtain ⟨⟨cs⟩, rfl⟩ := hv
  obtain ⟨xs, n, _, _, hl, hlen, hF⟩ := DataW.trod_struct Try.underlying23 hf
  rw [cellsGeo24] at hl
  simp only [Value.cells] at hl hF
  match cs, hl, xs, hlen with
  | [c0, c1, c2], _, [x0, x1, x2], _ =>
    have t0 := hF 0 _ rfl
    have t1 := hF 1 _ rfl
    have t2 := hF 2 _ rfl
    simp [cellsInt24] at t0 t1 t2
    obtain ⟨e0, h0, _, s0⟩ := DataW.trod_int Try.underlying3 t0
    obtain ⟨e1, h1, _, s1⟩ := DataW.trod_int Try.underlying3 t1
    obtain ⟨e2, h2, _, s2⟩ := DataW.trod_int Try.underlying3 t2
    simp at h0 h1 h2
    subst h0 h1 h2
    exact ⟨⟨e0, e1, e2⟩, rfl, i64_range s0, i64_range s1, i64_range s2⟩
end Go.Proofs.Ytnkiokaeooopgaa
/- Append to a slice that is full makes a new row; such an append in a region that draws its order, and the store of it. Plain. No program is in sight. -/
namespace Ks
open Go Go.RowKit
set_option linter.unusedVariables false
section
variable {α : Type} {E : Enc α}
theorem run_append_full {P : Program} {t ty e : TypeId} {bytes : Nat} (T : ElemT P t e E.k bytes) (w : World) (a : Option Addr) (lv : Value) (L l : List α) (hL : Rd E w (.slice a L.length L.length) L) (hl : Rd E w lv l) (hne : l ≠ []) (b1 : L.length + l.length ≤ 140000000) (b2 : bytes ≤ 1000) :
    ∃ v' w', (Builtin.append_ #[t, t] ty #[.slice a L.length L.length, lv]).run P w = .ok v' w' ∧ Row E w' w.heap.size e v' (L ++ l) ∧ Below w.heap.size w w' := by
  obtain ⟨h1, i, z, h2, h3, h4, h5, h6⟩ := T
  have hmax : L.length + l.length ≤ maxLen := by unfold maxLen; omega
  have hby : (L.length + l.length) * bytes ≤ 140737488355328 := by
    have : (L.length + l.length) * bytes ≤ 140000000 * 1000 := Nat.mul_le_mul b1 b2
    omega
  have hpos : 0 < l.length := List.length_pos_iff.2 hne
  obtain ⟨a2, c2, rfl, _, _⟩ := hl.shape
  obtain ⟨b, o, rfl, _⟩ := hl.at 0 l[0] (List.getElem?_eq_getElem hpos)
  have hsrc : ∀ j u, (E.cs l)[j]? = some u → w.cell? ((⟨b, o, none⟩ : Addr).add j) = some u := fun j u hj => by rw [Addr.add_lit]; exact hl.cells.2 j u hj
  have hlen2 : (L ++ l).length = L.length + l.length := List.length_append
  cases a with
  | none =>
    obtain ⟨a3, c3, e3, _, hz⟩ := hL.shape
    simp only [Value.slice.injEq] at e3
    have hc : c3 = 0 := hz e3.1.symm
    have h0 : L.length = 0 := by omega
    obtain rfl : L = [] := List.length_eq_zero_iff.1 h0
    obtain ⟨v', w', hrun, r1, r2, _⟩ := run_append_own (P := P) w w.heap.size t ty e i z E.k bytes h1 h2 h3 h4 h5 h6 E.pos (.slice none 0 0) 0 [] (World.ownsRow_nil w _ e E.k) ⟨b, o, none⟩ l.length c2 (E.cs l) (E.cs_length l) hsrc (E.cs_one l) (by simpa using hmax) (by simpa using hby) (Nat.le_refl _)
    rw [Nat.zero_add, List.nil_append] at r1
    exact ⟨v', w', hrun, r1, r2.os, r2.tape, r2.output, r2.size, fun k hk => r2.block k hk (by simp [Value.ownBlock])⟩
  | some ad =>
    have hold : ∀ j u, (E.cs L)[j]? = some u → w.cell? (ad.add j) = some u := by
      intro j u hj
      obtain ⟨i', x, j', hx, _, _, _⟩ := E.cs_cell L j u hj
      obtain ⟨b', o', e', _⟩ := hL.at i' x hx
      cases e'
      rw [Addr.add_lit]
      exact hL.cells.2 j u hj
    obtain ⟨v', w', hrun, r1, r2⟩ := run_append_arg_grows (P := P) w t ty e i z E.k bytes h1 h2 h3 h4 h5 h6 E.pos ad L.length L.length (E.cs L) (E.cs_length L) hold ⟨b, o, none⟩ l.length c2 (E.cs l) (E.cs_length l) hsrc (by omega) hmax hby
    refine ⟨v', w', hrun, ?_, r2.os, r2.tape, r2.output, r2.size, fun k hk => r2.block k hk (by simp)⟩
    show w'.ownsRow _ e E.k _ (L ++ l).length (E.cs (L ++ l))
    rw [hlen2, E.cs_append]
    exact r1
variable {P : Program} {ops : Array Oper} {md : Region.Mode} {C : Told → World → Prop}
theorem mv_append_full {Q : Told → Act → Prop} {fuel : Nat} {listed : Array Bool} {F : Told} {a : Act} (i : Nat) {o : Oper}
    (ho : ops[i]? = some o) (hr : Region.ready md ops listed = [i]) (hg : o.guard = none) (s x : Operand) (t : TypeId)
    (hop : o.op = .call { callee := .builtin .append, args := #[s, x], argTypes := #[t, t] }) {e : TypeId} {bytes : Nat} (T : ElemT P t e E.k bytes)
    (ad : Option Addr) (n : Nat) (lv : Value) (L l : List α) (hs : a.eval s = .slice ad n n) (hn : n = L.length) (hx : a.eval x = lv) (hne : l ≠ []) (b1 : L.length + l.length ≤ 140000000) (b2 : bytes ≤ 1000)
    (hrow : ∀ g w, agree md o F g → g i = none → C g w → Rd E w (.slice ad n n) L ∧ Rd E w lv l)
    (V : Value → Prop) (hV : ∀ g w v' w', agree md o F g → g i = none → C g w → Row E w' w.heap.size e v' (L ++ l) → Below w.heap.size w w' → V v' ∧ C (upd g i v') w')
    (hK : ∀ v', V v' → wpAnyM P md ops C Q fuel (listed.setIfInBounds i true) (upd F i v') (a.put o.dst v')) : wpAnyM P md ops C Q (fuel + 1) listed F a := by
  subst hn
  refine mv_alone i ho hr (by simp [Region.wanted, hg]) V (fun g w h0 h1 h2 D hD => ?_) hK
  obtain ⟨r1, r2⟩ := hrow g w h0 h1 h2
  obtain ⟨v', w', hrun, r, rb⟩ := run_append_full (P := P) (t := t) (ty := o.type) T w ad lv L l r1 r2 hne b1 b2
  simp [execOp, hop, resolve, invoke, builtin, hs, hx, hrun, Result.andThen, movesUpon]
  exact hD _ _ (hV g w v' w' h0 h1 h2 r rb).1 (hV g w v' w' h0 h1 h2 r rb).2
end
/-- a class of worlds behind one, where something is read thrice of a cell, what is made of it is joined to others as a new row, and stored into that cell -/
def FullStore {α : Type} (E : Enc α) (w0 : World) (T : TypeId) (R l : List α) (bo co : Nat) (r1 r2 r3 s u z : Option Value) (w : World) : Prop :=
  match z with
  | none => Below w0.heap.size w0 w ∧ (∀ x, s = some x → Rd E w x l) ∧ (∀ x, u = some x → (r1 ≠ none ∧ r2 ≠ none ∧ r3 ≠ none ∧ s ≠ none) ∧ Row E w w0.heap.size T x R)
  | some _ => (r1 ≠ none ∧ r2 ≠ none ∧ r3 ≠ none ∧ s ≠ none) ∧ ∃ u' w1, u = some u' ∧ Below w0.heap.size w0 w1 ∧ Row E w1 w0.heap.size T u' R ∧ w = w1.setCell ⟨bo, co, none⟩ u'
section
variable {α : Type} {E : Enc α} {bo co : Nat} {w0 w w' : World} {T : TypeId} {R l : List α} {r1 r2 r3 s u z : Option Value}
theorem FullStore.start (hb : Below w0.heap.size w0 w) : FullStore E w0 T R l bo co none none none none none none w := ⟨hb, (fun v h => by cases h), (fun v h => by cases h)⟩
theorem FullStore.told (h : FullStore E w0 T R l bo co r1 r2 r3 s u z w) {q1 q2 q3 : Option Value} (h1 : r1 ≠ none → q1 ≠ none) (h2 : r2 ≠ none → q2 ≠ none) (h3 : r3 ≠ none → q3 ≠ none) : FullStore E w0 T R l bo co q1 q2 q3 s u z w := by
  cases z with
  | none => exact ⟨h.1, h.2.1, fun x hx => ⟨⟨h1 (h.2.2 x hx).1.1, h2 (h.2.2 x hx).1.2.1, h3 (h.2.2 x hx).1.2.2.1, (h.2.2 x hx).1.2.2.2⟩, (h.2.2 x hx).2⟩⟩
  | some z => exact ⟨⟨h1 h.1.1, h2 h.1.2.1, h3 h.1.2.2.1, h.1.2.2.2⟩, h.2⟩
theorem FullStore.yet (h : FullStore E w0 T R l bo co r1 r2 r3 s u none w) : Below w0.heap.size w0 w := h.1
theorem FullStore.un1 (h : FullStore E w0 T R l bo co none r2 r3 s u z w) : z = none ∧ u = none := by
  cases z with
  | none =>
    refine ⟨rfl, ?_⟩
    cases u with
    | none => rfl
    | some u => exact absurd rfl (h.2.2 u rfl).1.1
  | some z => exact absurd rfl h.1.1
theorem FullStore.un2 (h : FullStore E w0 T R l bo co r1 none r3 s u z w) : z = none ∧ u = none := by
  cases z with
  | none =>
    refine ⟨rfl, ?_⟩
    cases u with
    | none => rfl
    | some u => exact absurd rfl (h.2.2 u rfl).1.2.1
  | some z => exact absurd rfl h.1.2.1
theorem FullStore.un3 (h : FullStore E w0 T R l bo co r1 r2 none s u z w) : z = none ∧ u = none := by
  cases z with
  | none =>
    refine ⟨rfl, ?_⟩
    cases u with
    | none => rfl
    | some u => exact absurd rfl (h.2.2 u rfl).1.2.2.1
  | some z => exact absurd rfl h.1.2.2.1
theorem FullStore.un4 (h : FullStore E w0 T R l bo co r1 r2 r3 none u z w) : z = none ∧ u = none := by
  cases z with
  | none =>
    refine ⟨rfl, ?_⟩
    cases u with
    | none => rfl
    | some u => exact absurd rfl (h.2.2 u rfl).1.2.2.2
  | some z => exact absurd rfl h.1.2.2.2
theorem FullStore.un5 (h : FullStore E w0 T R l bo co r1 r2 r3 s none z w) : z = none := by
  cases z with
  | none => rfl
  | some z => obtain ⟨_, _, _, e, _⟩ := h; cases e
/-- what was there stands, but for the block that is stored into -/
theorem FullStore.cell {ad : Addr} {x : Value} (h : FullStore E w0 T R l bo co r1 r2 r3 s u z w) (hc : w0.cell? ad = some x) (hbo : ad.block ≠ bo) : w.cell? ad = some x := by
  cases z with
  | none => exact (h.1.cell (p := ad) (World.block_lt_of_cell? _ _ hc)).trans hc
  | some z =>
    obtain ⟨_, u', w1, _, h1, _, rfl⟩ := h
    have hfar : (w1.setCell ⟨bo, co, none⟩ u').cell? ad = w1.cell? ad := World.cell?_of_block (Below.heap_setCell _ _ _ _ hbo)
    rw [hfar]
    exact (h1.cell (p := ad) (World.block_lt_of_cell? _ _ hc)).trans hc
theorem FullStore.on (h : FullStore E w0 T R l bo co r1 r2 r3 none u z w) (hb : Below w.heap.size w w') : FullStore E w0 T R l bo co r1 r2 r3 none u z w' := by
  obtain ⟨rfl, rfl⟩ := h.un4
  exact ⟨h.1.trans (hb.mono h.1.size), (fun v e => by cases e), (fun v e => by cases e)⟩
theorem FullStore.made (h : FullStore E w0 T R l bo co r1 r2 r3 none u z w) (cs : Array Value) (e : cs.toList = E.cs l) (fr : Nat × Nat := (0, 0)) (T' : TypeId) : FullStore E w0 T R l bo co r1 r2 r3 (some (.slice (some ⟨w.heap.size, 0, none⟩) l.length l.length)) u z (w.alloc (.cells cs T' fr)) := by
  obtain ⟨rfl, rfl⟩ := h.un4
  have hb := alloc_below w (.cells cs T' fr)
  exact ⟨h.1.trans (hb.mono h.1.size), (fun x e2 => by cases e2; exact Rd.block (alloc_new w _) e), (fun v e => by cases e)⟩
theorem FullStore.grew {x1 x2 x3 x4 v' : Value} (h : FullStore E w0 T R l bo co (some x1) (some x2) (some x3) (some x4) none z w) (hr : Row E w' w.heap.size T v' R) (hb : Below w.heap.size w w') : FullStore E w0 T R l bo co (some x1) (some x2) (some x3) (some x4) (some v') z w' := by
  obtain rfl := h.un5
  refine ⟨h.1.trans (hb.mono h.1.size), (fun x e => (h.2.1 x e).below hb), fun x e => ?_⟩
  cases e
  exact ⟨⟨(fun e => by cases e), (fun e => by cases e), (fun e => by cases e), (fun e => by cases e)⟩, hr.down h.1.size⟩
theorem FullStore.stored {v' y : Value} (h : FullStore E w0 T R l bo co r1 r2 r3 s (some v') none w) : FullStore E w0 T R l bo co r1 r2 r3 s (some v') (some y) (w.setCell ⟨bo, co, none⟩ v') :=
  ⟨(h.2.2 v' rfl).1, v', w, rfl, h.1, (h.2.2 v' rfl).2, rfl⟩
theorem FullStore.done {u' y : Value} (h : FullStore E w0 T R l bo co r1 r2 r3 s (some u') (some y) w) : ∃ w1, Below w0.heap.size w0 w1 ∧ Row E w1 w0.heap.size T u' R ∧ w = w1.setCell ⟨bo, co, none⟩ u' := by
  obtain ⟨_, u2, w1, e, h1, h2, rfl⟩ := h
  cases e
  exact ⟨w1, h1, h2, rfl⟩
end
/-- an append to a full slice at a step of a region that draws its order -/
theorem step_append_full {P : Program} {ops : Array Oper} {o : Oper} {a : Act} {w : World} {K : Act → World → Prop} {Q : Exit → Act → World → Prop} {F : Prop} {α : Type} {E : Enc α} (hg : o.guard = none) (s x : Operand) (t : TypeId)
    (hop : o.op = Op.call { callee := Callee.builtin Builtin.append, args := #[s, x], argTypes := #[t, t] }) {e : TypeId} {bytes : Nat} (T : ElemT P t e E.k bytes)
    (ad : Option Addr) (n : Nat) (lv : Value) (L l : List α) (hn : n = L.length) (hs : a.eval s = .slice ad n n) (hx : a.eval x = lv) (hL : Rd E w (.slice ad n n) L) (hl : Rd E w lv l) (hne : l ≠ []) (b1 : L.length + l.length ≤ 140000000) (b2 : bytes ≤ 1000)
    (hK : ∀ v' w', Row E w' w.heap.size e v' (L ++ l) → Below w.heap.size w w' → K (a.put o.dst v') w') : if Region.wanted o (yielded ops a.tmps) = true then Oper.wp P o a w K Q else F := by
  subst hn
  obtain ⟨v', w', hrun, r, rb⟩ := run_append_full (P := P) (t := t) (ty := o.type) T w ad lv L l hL hl hne b1 b2
  exact step_append_of hg s x t hop hrun hs hx (hK v' w' r rb)
/-- what is read, or reckoned: what it waits for was told -/
theorem mv_readA {P : Program} {ops : Array Oper} {md : Region.Mode} {C : Told → World → Prop} {Q : Told → Act → Prop} {fuel : Nat} {listed : Array Bool} {f : Told} {a : Act} (i : Nat) {o : Oper} {S : Type} {F : S → World} (hF : ∀ f w, C f w → ∃ s, w = F s) (hm : ∀ g w v, agree md o f g → g i = none → C g w → C (upd g i v) w)
    (ho : ops[i]? = some o) (hs : Region.noSelect ops = true) (hfree : Region.free md ops listed i = true) (hr : (Region.ready md ops listed).contains i = true)
    (h : ∀ K : Value → Act → Prop, (∀ v a, wpAnyM P md ops C Q fuel (listed.setIfInBounds i true) (upd f i v) a → K v a) → if Region.wanted o (yielded ops a.tmps) then ∃ v, (∀ s, Oper.quietUpon P (fun w' => w' = F s) (F s) v ((execOp a.eval o).run P (F s))) ∧ K v (a.put o.dst v) else K undef (a.put o.dst undef)) :
    wpAnyM P md ops C Q (fuel + 1) listed f a := by
  have h := h (fun v a => wpAnyM P md ops C Q fuel (listed.setIfInBounds i true) (upd f i v) a) fun _ _ h => h
  have key : ∀ u, Moves P md ops C o i (fun v => v = u) f a → wpAnyM P md ops C Q fuel (listed.setIfInBounds i true) (upd f i u) (a.put o.dst u) → wpAnyM P md ops C Q (fuel + 1) listed f a := fun u h1 h2 =>
    wpAnyM_first ho (Region.noSelect_spec hs) fuel listed f a (Region.free_spec ho hfree) (by simpa using hr) h1 h2
  split at h
  · rename_i hw
    obtain ⟨v, h1, h2⟩ := h
    refine key v (.inl ⟨hw, fun g w ha hn hC => ?_⟩) h2
    obtain ⟨s, rfl⟩ := hF g w hC
    have h3 := h1 s
    generalize (execOp a.eval o).run P (F s) = r at *
    cases r with
    | ok n w' =>
      cases n <;> simp only [Oper.quietUpon] at h3 <;> simp only [movesUpon]
      case value u => obtain ⟨rfl, rfl⟩ := h3; exact ⟨rfl, hm _ _ _ ha hn hC⟩
      case skip => obtain ⟨rfl, rfl⟩ := h3; exact ⟨rfl, hm _ _ _ ha hn hC⟩
      case enter g args =>
        obtain ⟨rfl, h4⟩ := h3
        exact h4.mono fun e w'' ⟨he, hw''⟩ => by subst hw''; exact ⟨v, he, rfl, hm _ _ _ ha hn hC⟩
    | halt x w' => simp only [Oper.quietUpon] at h3
  · rename_i hw
    exact key undef (.inr ⟨by simpa using hw, rfl, fun g w ha hn hC => hm _ _ _ ha hn hC⟩) h
theorem told_self (f : Told) (k : Nat) (v : Value) : upd f k v k ≠ none := by rw [upd_self]; exact fun e => by cases e
theorem told_by {g F : Told} {k : Nat} {v : Value} (h : g k = F k) (h2 : F k = some v) : g k ≠ none := by rw [h, h2]; exact fun e => by cases e
theorem FullStore.grew2 {α : Type} {E : Enc α} {bo co : Nat} {w0 w w' : World} {T : TypeId} {R l : List α} {r1 r2 r3 s z : Option Value} {v' : Value} (h : FullStore E w0 T R l bo co r1 r2 r3 s none z w) (k : r1 ≠ none ∧ r2 ≠ none ∧ r3 ≠ none ∧ s ≠ none) (hr : Row E w' w.heap.size T v' R) (hb : Below w.heap.size w w') : FullStore E w0 T R l bo co r1 r2 r3 s (some v') z w' := by
  obtain rfl := h.un5
  refine ⟨h.1.trans (hb.mono h.1.size), (fun x e => (h.2.1 x e).below hb), fun x e => ?_⟩
  cases e
  exact ⟨k, hr.down h.1.size⟩
end Ks
/- Copies: of rows, of maps, of a book, of a model: of the program. -/
set_option maxRecDepth 100000
namespace Ks
open Go Go.RowKit
set_option linter.unusedVariables false
/-- a block is made, if it was -/
def allocT (W : World) (o : Obj) : Option Value → World
  | none => W
  | some _ => W.alloc o
theorem allocT_below (W : World) (o : Obj) (t : Option Value) : Below W.heap.size W (allocT W o t) := by
  cases t with
  | none => exact Below.refl _ _
  | some u => exact (Below.refl _ W).alloc (Nat.le_refl _) o
/-- worlds where four blocks are made, one behind the other -/
def Allocs4 (W : World) (o1 o2 o3 o4 : Obj) (a b c d : Option Value) (w : World) : Prop :=
  w = allocT (allocT (allocT (allocT W.drew o1 a) o2 b) o3 c) o4 d ∧ (b ≠ none → a ≠ none) ∧ (c ≠ none → b ≠ none) ∧ (d ≠ none → c ≠ none)
section
variable {W w : World} {o1 o2 o3 o4 : Obj} {a b c d : Option Value}
theorem none_of {x y : Option Value} (h : x ≠ none → y ≠ none) (hy : y = none) : x = none := Classical.byContradiction fun q => h q hy
theorem Allocs4.start : Allocs4 W o1 o2 o3 o4 none none none none W.drew := ⟨rfl, fun h => absurd rfl h, fun h => absurd rfl h, fun h => absurd rfl h⟩
theorem Allocs4.below (h : Allocs4 W o1 o2 o3 o4 a b c d w) : Below W.heap.size W w := by
  rw [h.1]
  have b1 : Below W.heap.size W (allocT W.drew o1 a) := (drew_below W).trans (show Below W.heap.size W.drew _ from allocT_below W.drew o1 a)
  have b2 := b1.trans ((allocT_below _ o2 b).mono b1.size)
  have b3 := b2.trans ((allocT_below _ o3 c).mono b2.size)
  exact b3.trans ((allocT_below _ o4 d).mono b3.size)
theorem Allocs4.one {v : Value} (h : Allocs4 W o1 o2 o3 o4 none b c d w) : w.heap.size = W.heap.size ∧ Allocs4 W o1 o2 o3 o4 (some v) b c d (w.alloc o1) := by
  have hb := none_of h.2.1 rfl
  have hc := none_of h.2.2.1 hb
  have hd := none_of h.2.2.2 hc
  subst hb hc hd
  have e : w = W.drew := h.1
  exact ⟨by rw [e]; rfl, by rw [e]; rfl, fun h => absurd rfl h, fun h => absurd rfl h, fun h => absurd rfl h⟩
theorem Allocs4.two {v x : Value} (h : Allocs4 W o1 o2 o3 o4 (some x) none c d w) : w.heap.size = W.heap.size + 1 ∧ Allocs4 W o1 o2 o3 o4 (some x) (some v) c d (w.alloc o2) := by
  have hc := none_of h.2.2.1 rfl
  have hd := none_of h.2.2.2 hc
  subst hc hd
  have e : w = W.drew.alloc o1 := h.1
  exact ⟨by rw [e]; simp, by rw [e]; rfl, (fun _ h => by cases h), fun h => absurd rfl h, fun h => absurd rfl h⟩
theorem Allocs4.three {v x y : Value} (h : Allocs4 W o1 o2 o3 o4 (some x) (some y) none d w) : w.heap.size = W.heap.size + 2 ∧ Allocs4 W o1 o2 o3 o4 (some x) (some y) (some v) d (w.alloc o3) := by
  have hd := none_of h.2.2.2 rfl
  subst hd
  have e : w = (W.drew.alloc o1).alloc o2 := h.1
  exact ⟨by rw [e]; simp, by rw [e]; rfl, (fun _ h => by cases h), (fun _ h => by cases h), fun h => absurd rfl h⟩
theorem Allocs4.four {v x y z : Value} (h : Allocs4 W o1 o2 o3 o4 (some x) (some y) (some z) none w) : w.heap.size = W.heap.size + 3 ∧ Allocs4 W o1 o2 o3 o4 (some x) (some y) (some z) (some v) (w.alloc o4) := by
  have e : w = ((W.drew.alloc o1).alloc o2).alloc o3 := h.1
  exact ⟨by rw [e]; simp, by rw [e]; rfl, (fun _ h => by cases h), (fun _ h => by cases h), (fun _ h => by cases h)⟩
theorem Allocs4.end {v x y z : Value} (h : Allocs4 W o1 o2 o3 o4 (some x) (some y) (some z) (some v) w) : w.heap.size = W.heap.size + 4 ∧ w.heap[W.heap.size]? = some o1 ∧ w.heap[W.heap.size + 1]? = some o2 ∧ w.heap[W.heap.size + 2]? = some o3 ∧ w.heap[W.heap.size + 3]? = some o4 := by
  have e : w = (((W.drew.alloc o1).alloc o2).alloc o3).alloc o4 := h.1
  have s0 : W.drew.heap.size = W.heap.size := rfl
  have n1 := (MapKept.heap_alloc W.drew o1).1
  have n2 := (MapKept.heap_alloc (W.drew.alloc o1) o2).1
  have n3 := (MapKept.heap_alloc ((W.drew.alloc o1).alloc o2) o3).1
  have n4 := (MapKept.heap_alloc (((W.drew.alloc o1).alloc o2).alloc o3) o4).1
  simp only [World.size_alloc, s0] at n1 n2 n3 n4
  have k : ∀ (A : World) (o : Obj) (j : Nat), j < A.heap.size → (A.alloc o).heap[j]? = A.heap[j]? := fun A o j hj => Below.heap_alloc A o j hj
  rw [e]
  refine ⟨by simp, ?_, ?_, ?_, n4⟩
  · rw [k _ _ _ (by simp; omega), k _ _ _ (by simp; omega), k _ _ _ (by simp)]; exact n1
  · rw [k _ _ _ (by simp), k _ _ _ (by simp)]; exact n2
  · rw [k _ _ _ (by simp)]; exact n3
end
section
variable {P : Program} (w : World)
/-- a map held against nil -/
theorem equalIn_map_nil (d : Nat) (t k e : TypeId) (p : Option Nat) (h : P.underlying t = some (.map k e)) : (Op.equalIn (d + 1) t (.map p) (.map none)).run P w = .ok p.isNone w := by
  cases p <;> simp [Op.equalIn, run_underlying h]
theorem eql_map_nil (t k e : TypeId) (p : Option Nat) (h : P.underlying t = some (.map k e)) : (binOp .eql t (.map p) (.map none)).run P w = .ok (.bool p.isNone) w := by
  simp only [binOp]
  simp [show Op.equal t (.map p) (.map none) = Op.equalIn (9999 + 1) t (.map p) (.map none) from rfl, equalIn_map_nil w 9999 t k e p h]
theorem assert_map (t xT k e : TypeId) (v : Value) (h : P.underlying t = some (.map k e)) : (Instr.typeAssert (.iface t v) xT t false).run P w = .ok v w := by
  simp [Instr.typeAssert, run_underlying h, go_sem, Result.andThen]
theorem clone_map {r : Nat} {es : Array MapEntry} {clock : Nat} (t : TypeId) (hb : w.heap[r]? = some (.map es clock)) :
    (Extern.MapsClone.clone #[.iface t (.map (some r))]).run P w = .ok (.iface t (.map (some w.heap.size))) (w.alloc (.map es clock)) := by
  have e : Extern.MapsClone.clone #[.iface t (.map (some r))] = (getObj r >>= fun o => match o with
      | .map entries clock => (newObj (.map entries clock) >>= fun n => pure (.iface t (.map (some n))))
      | _ => stuck "maps.clone: a map expected") := rfl
  rw [e]
  simp [MapKept.run_getObj_map hb, Result.andThen, go_sem]
end
end Ks
namespace Go.Proofs.Ytnkiokaeooopgaa
open Go.RowKit Ks Go.Maps
set_option linter.unusedVariables false
set_option linter.unusedSimpArgs false
theorem eg_mcii : ∀ args w, (callFunc 50 args).run Try.prog w = .ok (.enter 50 args) w := fun _ _ => rfl
theorem mclone_ii (b : Nat) (es : Array MapEntry) (clock : Nat) (w : World) (hb : w.heap[b]? = some (.map es clock)) : Calls Try.prog 50 #[.map (some b)] w fun e w' => e = .returned (.map (some w.heap.size)) ∧ w' = w.alloc (.map es clock) := by
  refine calls_by fun R HR => ?_
  have hq := fun w => eql_map_nil w 77 _ _ (some b) Try.underlying77
  go_enter Try.func50, Try.ntmps50
  go_wp2
  rw [run_callFunc_extern (fn := Try.f69) rfl (by kernel_rfl) (by kernel_rfl) (by kernel_rfl) (e := Extern.MapsClone.clone) (by kernel_rfl), clone_map w 77 hb]
  simp only [Result.andThen]
  rw [Oper.upon_value]
  go_wp2
  rw [assert_map _ 77 _ _ _ _ Try.underlying77]
  simp only [Result.andThen]
  rw [Oper.upon_value]
  go_wp2
  exact HR.out _ _ ⟨rfl, rfl⟩
theorem eg_mcsi : ∀ args w, (callFunc 51 args).run Try.prog w = .ok (.enter 51 args) w := fun _ _ => rfl
theorem mclone_si (b : Nat) (es : Array MapEntry) (clock : Nat) (w : World) (hb : w.heap[b]? = some (.map es clock)) : Calls Try.prog 51 #[.map (some b)] w fun e w' => e = .returned (.map (some w.heap.size)) ∧ w' = w.alloc (.map es clock) := by
  refine calls_by fun R HR => ?_
  have hq := fun w => eql_map_nil w 78 _ _ (some b) Try.underlying78
  go_enter Try.func51, Try.ntmps51
  go_wp2
  rw [run_callFunc_extern (fn := Try.f69) rfl (by kernel_rfl) (by kernel_rfl) (by kernel_rfl) (e := Extern.MapsClone.clone) (by kernel_rfl), clone_map w 78 hb]
  simp only [Result.andThen]
  rw [Oper.upon_value]
  go_wp2
  rw [assert_map _ 78 _ _ _ _ Try.underlying78]
  simp only [Result.andThen]
  rw [Oper.upon_value]
  go_wp2
  exact HR.out _ _ ⟨rfl, rfl⟩
theorem eg_mcib : ∀ args w, (callFunc 52 args).run Try.prog w = .ok (.enter 52 args) w := fun _ _ => rfl
theorem mclone_ib (b : Nat) (es : Array MapEntry) (clock : Nat) (w : World) (hb : w.heap[b]? = some (.map es clock)) : Calls Try.prog 52 #[.map (some b)] w fun e w' => e = .returned (.map (some w.heap.size)) ∧ w' = w.alloc (.map es clock) := by
  refine calls_by fun R HR => ?_
  have hq := fun w => eql_map_nil w 79 _ _ (some b) Try.underlying79
  go_enter Try.func52, Try.ntmps52
  go_wp2
  rw [run_callFunc_extern (fn := Try.f69) rfl (by kernel_rfl) (by kernel_rfl) (by kernel_rfl) (e := Extern.MapsClone.clone) (by kernel_rfl), clone_map w 79 hb]
  simp only [Result.andThen]
  rw [Oper.upon_value]
  go_wp2
  rw [assert_map _ 79 _ _ _ _ Try.underlying79]
  simp only [Result.andThen]
  rw [Oper.upon_value]
  go_wp2
  exact HR.out _ _ ⟨rfl, rfl⟩

set_option maxHeartbeats 1000000 in
theorem rclone_any (lv : Value) (l : List RecT) (w : World) (hl : Rd recE w lv l) (hlen : l.length ≤ 1000000) :
    Calls Try.prog 34 #[lv] w fun e w' => ∃ v', e = .returned v' ∧ Row recE w' w.heap.size 69 v' l ∧ Below w.heap.size w w' := by
  refine calls_by fun R HR => ?_
  have HL := Lib.hid hl
  have q22 : ∀ (w : World) (a : Option Addr) (n c n' c' : Nat), (binOp .eql 46 (.slice a n c) (.slice none n' c')).run Try.prog w = .ok (.bool a.isNone) w := fun w a n c n' c' => Lib.run_eql_slice_nil w _ _ a n c n' c' Try.underlying46
  obtain ⟨a, cap, rfl, hcap, hnone⟩ := hl.shape
  cases a with
  | none =>
    have hc0 := hnone rfl
    have : l = [] := List.length_eq_zero_iff.1 (by omega)
    subst this
    clear hnone hl
    subst hc0
    go_enter Try.func34, Try.ntmps34
    go_wp2
    exact HR.out _ _ ⟨_, rfl, Row.nil _ _ _, Below.refl _ _⟩
  | some ad =>
    clear hnone hl
    obtain ⟨W1, hW1⟩ : ∃ W1, w.alloc (.cells #[] 69) = W1 := ⟨_, rfl⟩
    have hb1 : Below w.heap.size w W1 := by rw [← hW1]; exact alloc_below w _
    have hrow : Row recE W1 w.heap.size 69 (.slice (some ⟨w.heap.size, 0, none⟩) 0 0) [] := by rw [← hW1]; exact Row.made w _ _ (Nat.le_refl _)
    have H1 := Lib.hid (And.intro hb1 (And.intro hrow (HL.out.below hb1)))
    clear hb1 hrow
    go_enter Try.func34, Try.ntmps34
    go_wp2_with (at_builtin; refine wpList_append_row _ rfl _ _ 46 rfl recT24 w.heap.size _ _ [] l rfl rfl H1.out.2.1 H1.out.2.2 H1.out.1.size (by simp; omega) (by decide) ?_)
    intro v' w2 hG
    have HG := Lib.hid hG
    clear hG
    go_wp2
    exact HR.out _ _ ⟨v', rfl, HG.out.1, HG.out.below H1.out.1 H1.out.1.size (fun b hb => by simp [Value.ownBlock] at hb; omega)⟩
theorem eg_rclone_any : ∀ args w, (callFunc 34 args).run Try.prog w = .ok (.enter 34 args) w := fun _ _ => rfl

set_option maxHeartbeats 1000000 in
theorem vclone_any (lv : Value) (l : List VerD) (w : World) (hl : Rd verD w lv l) (hlen : l.length ≤ 1000000) :
    Calls Try.prog 29 #[lv] w fun e w' => ∃ v', e = .returned v' ∧ Row verD w' w.heap.size 66 v' l ∧ Below w.heap.size w w' := by
  refine calls_by fun R HR => ?_
  have HL := Lib.hid hl
  have q22 : ∀ (w : World) (a : Option Addr) (n c n' c' : Nat), (binOp .eql 47 (.slice a n c) (.slice none n' c')).run Try.prog w = .ok (.bool a.isNone) w := fun w a n c n' c' => Lib.run_eql_slice_nil w _ _ a n c n' c' Try.underlying47
  obtain ⟨a, cap, rfl, hcap, hnone⟩ := hl.shape
  cases a with
  | none =>
    have hc0 := hnone rfl
    have : l = [] := List.length_eq_zero_iff.1 (by omega)
    subst this
    clear hnone hl
    subst hc0
    go_enter Try.func29, Try.ntmps29
    go_wp2
    exact HR.out _ _ ⟨_, rfl, Row.nil _ _ _, Below.refl _ _⟩
  | some ad =>
    clear hnone hl
    obtain ⟨W1, hW1⟩ : ∃ W1, w.alloc (.cells #[] 66) = W1 := ⟨_, rfl⟩
    have hb1 : Below w.heap.size w W1 := by rw [← hW1]; exact alloc_below w _
    have hrow : Row verD W1 w.heap.size 66 (.slice (some ⟨w.heap.size, 0, none⟩) 0 0) [] := by rw [← hW1]; exact Row.made w _ _ (Nat.le_refl _)
    have H1 := Lib.hid (And.intro hb1 (And.intro hrow (HL.out.below hb1)))
    clear hb1 hrow
    go_enter Try.func29, Try.ntmps29
    go_wp2_with (at_builtin; refine wpList_append_row _ rfl _ _ 47 rfl verT24 w.heap.size _ _ [] l rfl rfl H1.out.2.1 H1.out.2.2 H1.out.1.size (by simp; omega) (by decide) ?_)
    intro v' w2 hG
    have HG := Lib.hid hG
    clear hG
    go_wp2
    exact HR.out _ _ ⟨v', rfl, HG.out.1, HG.out.below H1.out.1 H1.out.1.size (fun b hb => by simp [Value.ownBlock] at hb; omega)⟩
theorem eg_vclone_any : ∀ args w, (callFunc 29 args).run Try.prog w = .ok (.enter 29 args) w := fun _ _ => rfl
theorem cnew_any (t : Int) (w : World) (h0 : 0 ≤ t) (h1 : t ≤ 1099511627776) : Calls Try.prog 26 #[.int .i64 t] w fun e w' => e = .returned (.tuple #[.pointer (some ⟨w.heap.size, 0, none⟩), .int .i64 0]) ∧ w' = w.alloc (.cells #[.bool true, .int .i64 t] 84) := by
  refine calls_by fun R HR => ?_
  have hd0 : decide (0 ≤ t) = true := decide_eq_true h0
  have hd1 : decide (t ≤ 1099511627776) = true := decide_eq_true h1
  have hmay : Calls Try.prog 48 #[.int .i64 t] w fun e w' => e = .returned (.bool true) ∧ w' = w := by
    refine calls_by fun R HR => ?_
    go_enter Try.func48, Try.ntmps48
    go_wp2
    exact HR.out _ _ ⟨rfl, rfl⟩
  clear h0 h1 hd0 hd1
  go_enter Try.func26, Try.ntmps26
  go_wp2_with fail
  refine hmay.mono ?_
  rintro e w1 ⟨rfl, hw⟩
  rw [hw]
  clear hw hmay
  go_wp2
  all_goals exact HR.out _ _ ⟨rfl, rfl⟩
set_option maxRecDepth 100000 in
set_option maxHeartbeats 4000000 in
theorem bcopy_any {n c mu mh mg : Nat} {b : BookT} (w : World) (h : BookAt w n c mu mh mg b) (h0 : 0 ≤ b.now) (h1 : b.now ≤ 1099511627776) :
    Calls Try.prog 28 #[.pointer (some ⟨n, 0, none⟩)] w fun e w' => e = .returned (.pointer (some ⟨w.heap.size + 4, 0, none⟩)) ∧ BookAt w' (w.heap.size + 4) w.heap.size (w.heap.size + 1) (w.heap.size + 2) (w.heap.size + 3) b ∧ Below w.heap.size w w' ∧ w'.heap.size = w.heap.size + 5 := by
  refine calls_by fun R HR => ?_
  have HB := Lib.hid h
  have HT := Lib.hid (bthere_yes w h)
  have HN := Lib.hid (bnow_any w h)
  have HC := Lib.hid (cnew_any b.now w h0 h1)
  obtain ⟨es1, ck1, m1, r1⟩ := h.till
  obtain ⟨es2, ck2, m2, r2⟩ := h.holds
  obtain ⟨es3, ck3, m3, r3⟩ := h.gone
  have HR1 := Lib.hid r1
  have HR2 := Lib.hid r2
  have HR3 := Lib.hid r3
  have HMs := Lib.hid (And.intro m1 (And.intro m2 m3))
  clear h h0 h1 r1 r2 r3 m1 m2 m3
  obtain ⟨W1, hW1⟩ : ∃ W, w.alloc (.cells #[.bool true, .int .i64 b.now] 84) = W := ⟨_, rfl⟩
  have hb1 : Below w.heap.size w W1 := by rw [← hW1]; exact alloc_below _ _
  have n1 : W1.heap[w.heap.size]? = some (.cells #[.bool true, .int .i64 b.now] 84 (0, 0)) := by rw [← hW1]; exact alloc_new _ _
  have s1 : W1.heap.size = w.heap.size + 1 := by rw [← hW1]; simp
  have H1 := Lib.hid (And.intro hb1 (And.intro n1 s1))
  clear hb1 n1 s1
  go_enter Try.func28, Try.ntmps28
  go_wp2_with fail
  refine HT.out.mono ?_
  rintro en y9 ⟨rfl, hw⟩
  rw [hw]
  clear hw y9
  go_wp2_with fail
  refine HN.out.mono ?_
  rintro en y9 ⟨rfl, hw⟩
  rw [hw]
  clear hw y9
  go_wp2_with fail
  refine HC.out.mono ?_
  rintro en y9 ⟨rfl, hw⟩
  rw [hw, hW1]
  clear hw y9 hW1
  go_upto_region 4 with fail
  obtain ⟨⟨z0, z1, z2, z3, z4, z5⟩, -⟩ := blk6 (HB.out.below H1.out.1).blk
  refine wp_region_mv (fun f w9 => Allocs4 W1 (.map es1 ck1) (.map es2 ck2) (.map es3 ck3) (.cells #[.pointer (some ⟨w.heap.size, 0, none⟩), .int .i64 b.first, .int .i64 b.epoch, .map (some (w.heap.size + 1)), .map (some (w.heap.size + 2)), .map (some (w.heap.size + 3))] 81) (f 13) (f 18) (f 23) (f 25) w9 ∧ (f 24 ≠ none → f 23 ≠ none)) (by kernel_rfl) ⟨Allocs4.start, fun h => absurd rfl h⟩ ?_
  obtain ⟨S, F, hF, hFC⟩ := moved_class (fun f w9 => Allocs4 W1 (.map es1 ck1) (.map es2 ck2) (.map es3 ck3) (.cells #[.pointer (some ⟨w.heap.size, 0, none⟩), .int .i64 b.first, .int .i64 b.epoch, .map (some (w.heap.size + 1)), .map (some (w.heap.size + 2)), .map (some (w.heap.size + 3))] 81) (f 13) (f 18) (f 23) (f 25) w9 ∧ (f 24 ≠ none → f 23 ≠ none))
  have kz0 : ∀ s, (F s).cell? ⟨n, 0, none⟩ = some (.pointer (some ⟨c, 0, none⟩)) := fun s => (cell_on (hFC s).choose_spec.1.below z0).1
  have kz1 : ∀ s, (F s).cell? ⟨n, 1, none⟩ = some (.int .i64 b.first) := fun s => (cell_on (hFC s).choose_spec.1.below z1).1
  have kz2 : ∀ s, (F s).cell? ⟨n, 2, none⟩ = some (.int .i64 b.epoch) := fun s => (cell_on (hFC s).choose_spec.1.below z2).1
  have kz3 : ∀ s, (F s).cell? ⟨n, 3, none⟩ = some (.map (some mu)) := fun s => (cell_on (hFC s).choose_spec.1.below z3).1
  have kz4 : ∀ s, (F s).cell? ⟨n, 4, none⟩ = some (.map (some mh)) := fun s => (cell_on (hFC s).choose_spec.1.below z4).1
  have kz5 : ∀ s, (F s).cell? ⟨n, 5, none⟩ = some (.map (some mg)) := fun s => (cell_on (hFC s).choose_spec.1.below z5).1
  show wpAnyM _ _ _ _ _ 27 (Array.replicate 27 false) _ _
  refine mv_read 0 hF (fun _ _ _ h => h) rfl (by kernel_rfl) (by kernel_rfl) (by kernel_rfl) (fun K hK => ?_)
  go_simp
  first | refine ⟨_, fun _ => rfl, hK _ _ ?_⟩ | refine hK _ _ ?_
  clear hK K
  refine mv_read 1 hF (fun _ _ _ h => h) rfl (by kernel_rfl) (by kernel_rfl) (by kernel_rfl) (fun K hK => ?_)
  go_simp
  first | refine ⟨_, fun _ => rfl, hK _ _ ?_⟩ | refine hK _ _ ?_
  clear hK K
  refine mv_read 2 hF (fun _ _ _ h => h) rfl (by kernel_rfl) (by kernel_rfl) (by kernel_rfl) (fun K hK => ?_)
  go_simp
  first | refine ⟨_, fun _ => rfl, hK _ _ ?_⟩ | refine hK _ _ ?_
  clear hK K
  refine mv_read 3 hF (fun _ _ _ h => h) rfl (by kernel_rfl) (by kernel_rfl) (by kernel_rfl) (fun K hK => ?_)
  go_simp
  first | refine ⟨_, fun _ => rfl, hK _ _ ?_⟩ | refine hK _ _ ?_
  clear hK K
  refine mv_read 4 hF (fun _ _ _ h => h) rfl (by kernel_rfl) (by kernel_rfl) (by kernel_rfl) (fun K hK => ?_)
  go_simp
  first | refine ⟨_, fun _ => rfl, hK _ _ ?_⟩ | refine hK _ _ ?_
  clear hK K
  refine mv_read 5 hF (fun _ _ _ h => h) rfl (by kernel_rfl) (by kernel_rfl) (by kernel_rfl) (fun K hK => ?_)
  go_simp
  first | refine ⟨_, fun _ => rfl, hK _ _ ?_⟩ | refine hK _ _ ?_
  clear hK K
  refine mv_read 6 hF (fun _ _ _ h => h) rfl (by kernel_rfl) (by kernel_rfl) (by kernel_rfl) (fun K hK => ?_)
  go_simp
  first | refine ⟨_, fun _ => rfl, hK _ _ ?_⟩ | refine hK _ _ ?_
  clear hK K
  refine mv_read 7 hF (fun _ _ _ h => h) rfl (by kernel_rfl) (by kernel_rfl) (by kernel_rfl) (fun K hK => ?_)
  go_simp
  first | refine ⟨_, fun _ => rfl, hK _ _ ?_⟩ | refine hK _ _ ?_
  clear hK K
  refine mv_read 8 hF (fun _ _ _ h => h) rfl (by kernel_rfl) (by kernel_rfl) (by kernel_rfl) (fun K hK => ?_)
  go_simp
  first | refine ⟨_, fun _ => rfl, hK _ _ ?_⟩ | refine hK _ _ ?_
  clear hK K
  refine mv_read 9 hF (fun _ _ _ h => h) rfl (by kernel_rfl) (by kernel_rfl) (by kernel_rfl) (fun K hK => ?_)
  go_simp
  first | refine ⟨_, fun _ => rfl, hK _ _ ?_⟩ | refine hK _ _ ?_
  clear hK K
  refine mv_read 10 hF (fun _ _ _ h => h) rfl (by kernel_rfl) (by kernel_rfl) (by kernel_rfl) (fun K hK => ?_)
  go_simp
  first | refine ⟨_, fun _ => rfl, hK _ _ ?_⟩ | refine hK _ _ ?_
  clear hK K
  refine mv_read 11 hF (fun _ _ _ h => h) rfl (by kernel_rfl) (by kernel_rfl) (by kernel_rfl) (fun K hK => ?_)
  go_simp
  first | refine ⟨_, fun _ => rfl, hK _ _ ?_⟩ | refine hK _ _ ?_
  clear hK K
  refine mv_read 12 hF (fun _ _ _ h => h) rfl (by kernel_rfl) (by kernel_rfl) (by kernel_rfl) (fun K hK => ?_)
  go_simp
  first | refine ⟨_, fun _ => rfl, hK _ _ ?_⟩ | refine hK _ _ ?_
  clear hK K
  refine mv_call1 13 50 rfl (by kernel_rfl) (by kernel_rfl) (by kernel_rfl) rfl rfl eg_mcii (args := #[.map (some mu)]) rfl (u := .map (some (w.heap.size + 1))) (fun g w9 ha h0 h => ?_) ?_
  · obtain ⟨h, hm⟩ := h
    simp only [h0] at h
    have hs := (h.one (v := undef)).1
    refine (mclone_ii mu _ _ w9 ((h.below.block mu (Nat.lt_of_lt_of_le (lt_of_block HMs.out.1) H1.out.1.size)).trans ((H1.out.1.block mu (lt_of_block HMs.out.1)).trans HMs.out.1))).mono ?_
    rintro en w8 ⟨rfl, rfl⟩
    rw [show w9.heap.size = w.heap.size + 1 by have := H1.out.2.2; omega]
    refine ⟨rfl, ?_⟩
    show Allocs4 _ _ _ _ _ (upd g 13 _ 13) (g 18) (g 23) (g 25) _ ∧ _
    rw [upd_self]
    exact ⟨(h.one).2, hm⟩
  refine mv_read 14 hF (fun _ _ _ h => h) rfl (by kernel_rfl) (by kernel_rfl) (by kernel_rfl) (fun K hK => ?_)
  go_simp
  first | refine ⟨_, fun _ => rfl, hK _ _ ?_⟩ | refine hK _ _ ?_
  clear hK K
  refine mv_read 15 hF (fun _ _ _ h => h) rfl (by kernel_rfl) (by kernel_rfl) (by kernel_rfl) (fun K hK => ?_)
  go_simp
  first | refine ⟨_, fun _ => rfl, hK _ _ ?_⟩ | refine hK _ _ ?_
  clear hK K
  refine mv_read 16 hF (fun _ _ _ h => h) rfl (by kernel_rfl) (by kernel_rfl) (by kernel_rfl) (fun K hK => ?_)
  go_simp
  first | refine ⟨_, fun _ => rfl, hK _ _ ?_⟩ | refine hK _ _ ?_
  clear hK K
  refine mv_read 17 hF (fun _ _ _ h => h) rfl (by kernel_rfl) (by kernel_rfl) (by kernel_rfl) (fun K hK => ?_)
  go_simp
  first | refine ⟨_, fun _ => rfl, hK _ _ ?_⟩ | refine hK _ _ ?_
  clear hK K
  refine mv_call1 18 51 rfl (by kernel_rfl) (by kernel_rfl) (by kernel_rfl) rfl rfl eg_mcsi (args := #[.map (some mh)]) rfl (u := .map (some (w.heap.size + 2))) (fun g w9 ha h0 h => ?_) ?_
  · obtain ⟨h, hm⟩ := h
    have e13 : g 13 = some (.map (some (w.heap.size + 1))) := by have e := agree_on 13 ha (by kernel_rfl); exact e.trans rfl
    simp only [h0, e13] at h
    have hs := (h.two (v := undef)).1
    refine (mclone_si mh _ _ w9 ((h.below.block mh (Nat.lt_of_lt_of_le (lt_of_block HMs.out.2.1) H1.out.1.size)).trans ((H1.out.1.block mh (lt_of_block HMs.out.2.1)).trans HMs.out.2.1))).mono ?_
    rintro en w8 ⟨rfl, rfl⟩
    rw [show w9.heap.size = w.heap.size + 2 by have := H1.out.2.2; omega]
    refine ⟨rfl, ?_⟩
    show Allocs4 _ _ _ _ _ (g 13) (upd g 18 _ 18) (g 23) (g 25) _ ∧ _
    rw [upd_self, e13]
    exact ⟨(h.two).2, hm⟩
  refine mv_read 19 hF (fun _ _ _ h => h) rfl (by kernel_rfl) (by kernel_rfl) (by kernel_rfl) (fun K hK => ?_)
  go_simp
  first | refine ⟨_, fun _ => rfl, hK _ _ ?_⟩ | refine hK _ _ ?_
  clear hK K
  refine mv_read 20 hF (fun _ _ _ h => h) rfl (by kernel_rfl) (by kernel_rfl) (by kernel_rfl) (fun K hK => ?_)
  go_simp
  first | refine ⟨_, fun _ => rfl, hK _ _ ?_⟩ | refine hK _ _ ?_
  clear hK K
  refine mv_read 21 hF (fun _ _ _ h => h) rfl (by kernel_rfl) (by kernel_rfl) (by kernel_rfl) (fun K hK => ?_)
  go_simp
  first | refine ⟨_, fun _ => rfl, hK _ _ ?_⟩ | refine hK _ _ ?_
  clear hK K
  refine mv_read 22 hF (fun _ _ _ h => h) rfl (by kernel_rfl) (by kernel_rfl) (by kernel_rfl) (fun K hK => ?_)
  go_simp
  first | refine ⟨_, fun _ => rfl, hK _ _ ?_⟩ | refine hK _ _ ?_
  clear hK K
  refine mv_call1 23 52 rfl (by kernel_rfl) (by kernel_rfl) (by kernel_rfl) rfl rfl eg_mcib (args := #[.map (some mg)]) rfl (u := .map (some (w.heap.size + 3))) (fun g w9 ha h0 h => ?_) ?_
  · obtain ⟨h, hm⟩ := h
    have e18 : g 18 = some (.map (some (w.heap.size + 2))) := by have e := agree_on 18 ha (by kernel_rfl); exact e.trans rfl
    obtain ⟨x13, e13⟩ : ∃ x, g 13 = some x := by
      cases q : g 13 with
      | none => exact absurd q (h.2.1 (by rw [e18]; exact fun q => by cases q))
      | some x => exact ⟨x, rfl⟩
    simp only [h0, e13, e18] at h
    have hs := (h.three (v := undef)).1
    refine (mclone_ib mg _ _ w9 ((h.below.block mg (Nat.lt_of_lt_of_le (lt_of_block HMs.out.2.2) H1.out.1.size)).trans ((H1.out.1.block mg (lt_of_block HMs.out.2.2)).trans HMs.out.2.2))).mono ?_
    rintro en w8 ⟨rfl, rfl⟩
    rw [show w9.heap.size = w.heap.size + 3 by have := H1.out.2.2; omega]
    refine ⟨rfl, ?_⟩
    show Allocs4 _ _ _ _ _ (g 13) (g 18) (upd g 23 _ 23) (g 25) _ ∧ _
    rw [upd_self, e13, e18]
    exact ⟨(h.three).2, fun _ e => by cases e⟩
  refine mv_readA 24 hF (fun g w v ha _ h => ⟨h.1, fun _ => by have e := agree_on 23 ha (by kernel_rfl); exact told_by e rfl⟩) rfl (by kernel_rfl) (by kernel_rfl) (by kernel_rfl) (fun K hK => ?_)
  go_simp
  first | refine ⟨_, fun _ => rfl, hK _ _ ?_⟩ | refine hK _ _ ?_
  clear hK K
  refine mv_alone 25 rfl (by kernel_rfl) rfl (fun v => v = .pointer (some ⟨w.heap.size + 4, 0, none⟩)) (fun g w9 ha h0 h D hD => ?_) ?_
  · obtain ⟨h, hm⟩ := h
    have e24 : g 24 ≠ none := by have e := agree_on 24 ha (by kernel_rfl); exact told_by e rfl
    obtain ⟨x23, e23⟩ : ∃ x, g 23 = some x := Option.ne_none_iff_exists'.1 (hm e24)
    obtain ⟨x18, e18⟩ : ∃ x, g 18 = some x := Option.ne_none_iff_exists'.1 (h.2.2.1 (by rw [e23]; exact fun q => by cases q))
    obtain ⟨x13, e13⟩ : ∃ x, g 13 = some x := Option.ne_none_iff_exists'.1 (h.2.1 (by rw [e18]; exact fun q => by cases q))
    simp only [h0, e13, e18, e23] at h
    have hs := (h.four (v := undef)).1
    have h8 := h.four (v := .pointer (some ⟨w9.heap.size, 0, none⟩))
    have hD2 := hD (.pointer (some ⟨w9.heap.size, 0, none⟩)) _ (by rw [show w9.heap.size = w.heap.size + 4 by have := H1.out.2.2; omega]) (show Allocs4 _ _ _ _ _ (g 13) (g 18) (g 23) (upd g 25 _ 25) _ ∧ _ by rw [upd_self, e13, e18, e23]; exact ⟨h8.2, fun _ q => by cases e23.symm.trans q⟩)
    clear hD h h8 hs
    go_simp
    exact hD2
  rintro v rfl
  refine mv_read 26 hF (fun _ _ _ h => h) rfl (by kernel_rfl) (by kernel_rfl) (by kernel_rfl) (fun K hK => ?_)
  go_simp
  first | refine ⟨_, fun _ => rfl, hK _ _ ?_⟩ | refine hK _ _ ?_
  clear hK K
  refine mv_end (by kernel_rfl) ?_
  intro y2 hy2
  have hE := Allocs4.end hy2.1
  have hBl := Allocs4.below hy2.1
  have HE := Lib.hid (And.intro hBl hE)
  clear hy2 hE hBl hF hFC kz0 kz1 kz2 kz3 kz4 kz5 z0 z1 z2 z3 z4 z5
  have sz := H1.out.2.2
  rw [H1.out.2.2] at HE
  go_wp2
  refine HR.out _ _ ⟨rfl, ⟨HE.out.2.2.2.2.2, (HE.out.1.block _ (by have := H1.out.2.2; omega)).trans H1.out.2.1, ⟨es1, ck1, HE.out.2.2.1, HR1.out⟩, ⟨es2, ck2, HE.out.2.2.2.1, HR2.out⟩, ⟨es3, ck3, HE.out.2.2.2.2.1, HR3.out⟩⟩, H1.out.1.trans (HE.out.1.mono (by have := H1.out.2.2; omega)), by have := HE.out.2.1; omega⟩
end Go.Proofs.Ytnkiokaeooopgaa
/- The copy of a model, its records: of the program. -/
set_option maxRecDepth 100000
namespace Go.Proofs.Ytnkiokaeooopgaa
open Go.RowKit Ks Go.Maps
set_option linter.unusedVariables false
set_option linter.unusedSimpArgs false
theorem eg_bcopy : ∀ args w, (callFunc 28 args).run Try.prog w = .ok (.enter 28 args) w := fun _ _ => rfl
theorem eg_mrecords : ∀ args w, (callFunc 16 args).run Try.prog w = .ok (.enter 16 args) w := fun _ _ => rfl
theorem mrecords_any {n cc bn c mu mh mg : Nat} {rv vv : Value} {m : ModT} (w : World) (h : ModAt w n cc bn c mu mh mg rv vv m) (hn : m.recs.length ≤ 1000000) : Calls Try.prog 16 #[.pointer (some ⟨n, 0, none⟩)] w fun e w' => ∃ v', e = .returned v' ∧ Row recE w' w.heap.size 69 v' m.recs ∧ Below w.heap.size w w' := by
  refine calls_by fun R HR => ?_
  have HT := Lib.hid (mthere_yes w h)
  have HC := Lib.hid (rclone_any _ _ w h.recs.rd hn)
  obtain ⟨⟨z0, z1, z2, z3, z4, z5, z6, z7⟩, -⟩ := blkR h.blk
  clear h hn
  go_enter Try.func16, Try.ntmps16
  go_wp2_with fail
  refine HT.out.mono ?_
  rintro en y9 ⟨rfl, hw⟩
  rw [hw]
  clear hw y9
  go_wp2_with fail
  refine HC.out.mono ?_
  rintro en v1 ⟨v', rfl, h1, h2⟩
  have H1 := Lib.hid (And.intro h1 h2)
  clear h1 h2
  go_wp2
  exact HR.out _ _ ⟨v', rfl, H1.out⟩
/-- worlds where a model is copied: a: the book, b, c: its rows, d: the model -/
structure CopyC (W1 : World) (m : ModT) (cn : Nat) (a b c d : Option Value) (w : World) : Prop where
  no : a = none → w = W1.drew
  ab : b ≠ none → a ≠ none
  bc : c ≠ none → b ≠ none
  cd : d ≠ none → c ≠ none
  bl : Below W1.heap.size W1 w
  book : a ≠ none → BookAt w (W1.heap.size + 4) W1.heap.size (W1.heap.size + 1) (W1.heap.size + 2) (W1.heap.size + 3) m.book ∧ W1.heap.size + 5 ≤ w.heap.size
  recs : ∀ v, b = some v → Row recE w (W1.heap.size + 5) 69 v m.recs
  vers : ∀ v, c = some v → Row verD w (W1.heap.size + 5) 66 v m.vers ∧ ∀ x k, b = some x → x.ownBlock = some k → v.ownBlock ≠ some k
  mod : ∀ v, d = some v → ∃ n', v = .pointer (some ⟨n', 0, none⟩) ∧ W1.heap.size + 5 ≤ n' ∧ ∀ x y, b = some x → c = some y → w.heap[n']? = some (.cells #[.int .i64 m.geo.blocks, .int .i64 m.geo.lbas, .int .i64 m.geo.first, .int .i64 m.used, .pointer (some ⟨cn, 0, none⟩), .pointer (some ⟨W1.heap.size + 4, 0, none⟩), x, y] 49 (0, 0)) ∧ x.ownBlock ≠ some n' ∧ y.ownBlock ≠ some n'
section
variable {W1 w w' : World} {m : ModT} {cn : Nat} {a b c d : Option Value}
theorem CopyC.start (cn : Nat) : CopyC W1 m cn none none none none W1.drew :=
  ⟨fun _ => rfl, fun h => absurd rfl h, fun h => absurd rfl h, fun h => absurd rfl h, drew_below W1, fun h => absurd rfl h, (fun v e => by cases e), (fun v e => by cases e), (fun v e => by cases e)⟩
theorem CopyC.one {v : Value} (h : CopyC W1 m cn none b c d w) (hb : BookAt w' (W1.heap.size + 4) W1.heap.size (W1.heap.size + 1) (W1.heap.size + 2) (W1.heap.size + 3) m.book) (hs : w'.heap.size = W1.heap.size + 5) (hbl : Below w.heap.size w w') : CopyC W1 m cn (some v) b c d w' := by
  have e1 := none_of h.ab rfl
  have e2 := none_of h.bc e1
  have e3 := none_of h.cd e2
  subst e1 e2 e3
  have e := h.no rfl
  exact ⟨(fun q => by cases q), (fun q => absurd rfl q), (fun q => absurd rfl q), (fun q => absurd rfl q), h.bl.trans (hbl.mono h.bl.size), fun _ => ⟨hb, by omega⟩, (fun v e => by cases e), (fun v e => by cases e), (fun v e => by cases e)⟩
theorem CopyC.two {x v : Value} (h : CopyC W1 m cn (some x) none c d w) (hr : Row recE w' w.heap.size 69 v m.recs) (hbl : Below w.heap.size w w') : CopyC W1 m cn (some x) (some v) c d w' := by
  have e2 := none_of h.bc rfl
  have e3 := none_of h.cd e2
  subst e2 e3
  have hb := h.book (fun q => by cases q)
  exact ⟨(fun q => by cases q), (fun _ q => by cases q), (fun q => absurd rfl q), (fun q => absurd rfl q), h.bl.trans (hbl.mono h.bl.size), fun _ => ⟨hb.1.below hbl, Nat.le_trans hb.2 hbl.size⟩, (fun v e => by cases e; exact hr.down hb.2), (fun v e => by cases e), (fun v e => by cases e)⟩
theorem CopyC.three {x y v : Value} (h : CopyC W1 m cn (some x) (some y) none d w) (hr : Row verD w' w.heap.size 66 v m.vers) (hbl : Below w.heap.size w w') : CopyC W1 m cn (some x) (some y) (some v) d w' := by
  have e3 := none_of h.cd rfl
  subst e3
  have hb := h.book (fun q => by cases q)
  have h1 := h.recs y rfl
  exact ⟨(fun q => by cases q), (fun _ q => by cases q), (fun _ q => by cases q), (fun q => absurd rfl q), h.bl.trans (hbl.mono h.bl.size), fun _ => ⟨hb.1.below hbl, Nat.le_trans hb.2 hbl.size⟩, (fun v e => by cases e; exact h1.below hbl),
    (fun v e => by cases e; exact ⟨hr.down hb.2, fun x k e ex e2 => by cases e; have := (h1.lt ex).2; have := (hr.lt e2).1; omega⟩), (fun v e => by cases e)⟩
theorem CopyC.four {x y z : Value} (h : CopyC W1 m cn (some x) (some y) (some z) none w) :
    CopyC W1 m cn (some x) (some y) (some z) (some (.pointer (some ⟨w.heap.size, 0, none⟩))) (w.alloc (.cells #[.int .i64 m.geo.blocks, .int .i64 m.geo.lbas, .int .i64 m.geo.first, .int .i64 m.used, .pointer (some ⟨cn, 0, none⟩), .pointer (some ⟨W1.heap.size + 4, 0, none⟩), y, z] 49)) := by
  have hbl := alloc_below w (.cells #[.int .i64 m.geo.blocks, .int .i64 m.geo.lbas, .int .i64 m.geo.first, .int .i64 m.used, .pointer (some ⟨cn, 0, none⟩), .pointer (some ⟨W1.heap.size + 4, 0, none⟩), y, z] 49)
  have hb := h.book (fun q => by cases q)
  have h1 := h.recs y rfl
  have h2 := h.vers z rfl
  exact ⟨(fun q => by cases q), (fun _ q => by cases q), (fun _ q => by cases q), (fun _ q => by cases q), h.bl.trans (hbl.mono h.bl.size), fun _ => ⟨hb.1.below hbl, Nat.le_trans hb.2 hbl.size⟩, (fun v e => by cases e; exact h1.below hbl),
    (fun v e => by cases e; exact ⟨h2.1.below hbl, h2.2⟩), fun v e => by cases e; exact ⟨_, rfl, hb.2, fun x' y' e1 e2 => by cases e1; cases e2; exact ⟨alloc_new _ _, fun e => by have := (h1.lt e).2; omega, fun e => by have := (h2.1.lt e).2; omega⟩⟩⟩
end
set_option maxRecDepth 100000 in
set_option maxHeartbeats 8000000 in
theorem mcopy_any {n cc bn c mu mh mg : Nat} {rv vv : Value} {m : ModT} (w : World) (h : ModAt w n cc bn c mu mh mg rv vv m) (hi : ModI m) :
    Calls Try.prog 12 #[.pointer (some ⟨n, 0, none⟩)] w fun e w' => ∃ n' cc' bn' c' mu' mh' mg' rv' vv', e = .returned (.pointer (some ⟨n', 0, none⟩)) ∧ ModAt w' n' cc' bn' c' mu' mh' mg' rv' vv' m ∧ Seven n' cc' bn' c' mu' mh' mg' ∧ (∀ k, FM n' cc' bn' c' mu' mh' mg' rv' vv' k → w.heap.size ≤ k) ∧ Below w.heap.size w w' := by
  have hu0 := hi.used
  have hd := hi.data
  have hn : m.recs.length ≤ 1000000 := by have := hi.rlen; omega
  have hl : m.vers.length ≤ 1000000 := by have := hi.vlen; omega
  have hbn := hi.bnow
  have hnow := hi.now
  refine calls_by fun R HR => ?_
  have HD := Lib.hid h
  have HT := Lib.hid (mthere_yes w h)
  have HN := Lib.hid (cnow_any cc m.now w h.clk)
  have HC := Lib.hid (cnew_any m.now w hnow.1 hnow.2)
  have HB := Lib.hid (fun w (h : BookAt w bn c mu mh mg m.book) => bcopy_any w h hbn.1 (Int.le_trans hbn.2 hnow.2))
  have HRc := Lib.hid (fun w (h : ModAt w n cc bn c mu mh mg rv vv m) => mrecords_any w h hn)
  have HVc := Lib.hid (fun w lv (h : Rd verD w lv m.vers) => vclone_any lv m.vers w h hl)
  obtain ⟨vva, vvc, hvs, -⟩ := h.vers.shape
  subst hvs
  clear h hi hu0 hd hn hl hbn hnow
  have H1 := Lib.hid (And.intro (Below.refl w.heap.size w) (HD.out))
  obtain ⟨W1, hW1⟩ : ∃ W1, w.alloc (.cells #[.bool true, .int .i64 m.now] 84) = W1 := ⟨_, rfl⟩
  have hbW1 : Below w.heap.size w W1 := by rw [← hW1]; exact alloc_below w _
  have kW1 : W1.heap[w.heap.size]? = some (.cells #[.bool true, .int .i64 m.now] 84 (0, 0)) := by rw [← hW1]; exact alloc_new w _
  have H2 := Lib.hid (And.intro (H1.out.1.trans (hbW1.mono H1.out.1.size)) (And.intro (H1.out.2.below hbW1) (kW1)))
  clear hbW1 kW1
  go_enter Try.func12, Try.ntmps12
  go_wp2_with fail
  refine (HT.out).mono ?_
  rintro en y9 ⟨rfl, hw⟩
  rw [hw]
  clear hw y9
  obtain ⟨⟨z0, z1, z2, z3, z4, z5, z6, z7⟩, -⟩ := blkR HD.out.blk
  go_wp2_with fail
  refine (HN.out).mono ?_
  rintro en y9 ⟨rfl, hw⟩
  rw [hw]
  clear hw y9
  go_wp2_with fail
  refine (HC.out).mono ?_
  rintro en y9 ⟨rfl, hw⟩
  rw [hw, hW1]
  clear hw y9
  clear hW1 z0 z1 z2 z3 z4 z5 z6 z7
  obtain ⟨⟨z0, z1, z2, z3, z4, z5, z6, z7⟩, -⟩ := blkR H2.out.2.1.blk
  go_upto_region 4 with fail
  refine wp_region_mv (fun f w9 => CopyC W1 m w.heap.size (f 13) (f 15) (f 20) (f 22) w9 ∧ (∀ v, f 21 = some v → ∃ x y, f 15 = some x ∧ f 20 = some y ∧ v = .agg #[.int .i64 m.geo.blocks, .int .i64 m.geo.lbas, .int .i64 m.geo.first, .int .i64 m.used, .pointer (some ⟨w.heap.size, 0, none⟩), .pointer (some ⟨W1.heap.size + 4, 0, none⟩), x, y])) (by kernel_rfl) ⟨CopyC.start _, fun v h => by cases h⟩ ?_
  obtain ⟨S, F, hF, hFC⟩ := moved_class (fun f w9 => CopyC W1 m w.heap.size (f 13) (f 15) (f 20) (f 22) w9 ∧ (∀ v, f 21 = some v → ∃ x y, f 15 = some x ∧ f 20 = some y ∧ v = .agg #[.int .i64 m.geo.blocks, .int .i64 m.geo.lbas, .int .i64 m.geo.first, .int .i64 m.used, .pointer (some ⟨w.heap.size, 0, none⟩), .pointer (some ⟨W1.heap.size + 4, 0, none⟩), x, y]))
  have kz0 : ∀ s, (F s).cell? ⟨n, 0, none⟩ = some (.int .i64 m.geo.blocks) := fun s => (cell_on (hFC s).choose_spec.1.bl z0).1
  have kz1 : ∀ s, (F s).cell? ⟨n, 1, none⟩ = some (.int .i64 m.geo.lbas) := fun s => (cell_on (hFC s).choose_spec.1.bl z1).1
  have kz2 : ∀ s, (F s).cell? ⟨n, 2, none⟩ = some (.int .i64 m.geo.first) := fun s => (cell_on (hFC s).choose_spec.1.bl z2).1
  have kz3 : ∀ s, (F s).cell? ⟨n, 3, none⟩ = some (.int .i64 m.used) := fun s => (cell_on (hFC s).choose_spec.1.bl z3).1
  have kz5 : ∀ s, (F s).cell? ⟨n, 5, none⟩ = some (.pointer (some ⟨bn, 0, none⟩)) := fun s => (cell_on (hFC s).choose_spec.1.bl z5).1
  have kz7 : ∀ s, (F s).cell? ⟨n, 7, none⟩ = some (.slice vva m.vers.length vvc) := fun s => (cell_on (hFC s).choose_spec.1.bl z7).1
  show wpAnyM _ _ _ _ _ 24 (Array.replicate 24 false) _ _
  refine mv_read 0 hF (fun _ _ _ h => h) rfl (by kernel_rfl) (by kernel_rfl) (by kernel_rfl) (fun K hK => ?_)
  go_simp
  first | refine ⟨_, fun _ => rfl, hK _ _ ?_⟩ | refine hK _ _ ?_
  clear hK K
  refine mv_read 1 hF (fun _ _ _ h => h) rfl (by kernel_rfl) (by kernel_rfl) (by kernel_rfl) (fun K hK => ?_)
  go_simp
  first | refine ⟨_, fun _ => rfl, hK _ _ ?_⟩ | refine hK _ _ ?_
  clear hK K
  refine mv_read 2 hF (fun _ _ _ h => h) rfl (by kernel_rfl) (by kernel_rfl) (by kernel_rfl) (fun K hK => ?_)
  go_simp
  first | refine ⟨_, fun _ => rfl, hK _ _ ?_⟩ | refine hK _ _ ?_
  clear hK K
  refine mv_read 3 hF (fun _ _ _ h => h) rfl (by kernel_rfl) (by kernel_rfl) (by kernel_rfl) (fun K hK => ?_)
  go_simp
  first | refine ⟨_, fun _ => rfl, hK _ _ ?_⟩ | refine hK _ _ ?_
  clear hK K
  refine mv_read 4 hF (fun _ _ _ h => h) rfl (by kernel_rfl) (by kernel_rfl) (by kernel_rfl) (fun K hK => ?_)
  go_simp
  first | refine ⟨_, fun _ => rfl, hK _ _ ?_⟩ | refine hK _ _ ?_
  clear hK K
  refine mv_read 5 hF (fun _ _ _ h => h) rfl (by kernel_rfl) (by kernel_rfl) (by kernel_rfl) (fun K hK => ?_)
  go_simp
  first | refine ⟨_, fun _ => rfl, hK _ _ ?_⟩ | refine hK _ _ ?_
  clear hK K
  refine mv_read 6 hF (fun _ _ _ h => h) rfl (by kernel_rfl) (by kernel_rfl) (by kernel_rfl) (fun K hK => ?_)
  go_simp
  first | refine ⟨_, fun _ => rfl, hK _ _ ?_⟩ | refine hK _ _ ?_
  clear hK K
  refine mv_read 7 hF (fun _ _ _ h => h) rfl (by kernel_rfl) (by kernel_rfl) (by kernel_rfl) (fun K hK => ?_)
  go_simp
  first | refine ⟨_, fun _ => rfl, hK _ _ ?_⟩ | refine hK _ _ ?_
  clear hK K
  refine mv_read 8 hF (fun _ _ _ h => h) rfl (by kernel_rfl) (by kernel_rfl) (by kernel_rfl) (fun K hK => ?_)
  go_simp
  first | refine ⟨_, fun _ => rfl, hK _ _ ?_⟩ | refine hK _ _ ?_
  clear hK K
  refine mv_read 9 hF (fun _ _ _ h => h) rfl (by kernel_rfl) (by kernel_rfl) (by kernel_rfl) (fun K hK => ?_)
  go_simp
  first | refine ⟨_, fun _ => rfl, hK _ _ ?_⟩ | refine hK _ _ ?_
  clear hK K
  refine mv_read 10 hF (fun _ _ _ h => h) rfl (by kernel_rfl) (by kernel_rfl) (by kernel_rfl) (fun K hK => ?_)
  go_simp
  first | refine ⟨_, fun _ => rfl, hK _ _ ?_⟩ | refine hK _ _ ?_
  clear hK K
  refine mv_read 11 hF (fun _ _ _ h => h) rfl (by kernel_rfl) (by kernel_rfl) (by kernel_rfl) (fun K hK => ?_)
  go_simp
  first | refine ⟨_, fun _ => rfl, hK _ _ ?_⟩ | refine hK _ _ ?_
  clear hK K
  refine mv_read 12 hF (fun _ _ _ h => h) rfl (by kernel_rfl) (by kernel_rfl) (by kernel_rfl) (fun K hK => ?_)
  go_simp
  first | refine ⟨_, fun _ => rfl, hK _ _ ?_⟩ | refine hK _ _ ?_
  clear hK K
  refine mv_read 14 hF (fun _ _ _ h => h) rfl (by kernel_rfl) (by kernel_rfl) (by kernel_rfl) (fun K hK => ?_)
  go_simp
  first | refine ⟨_, fun _ => rfl, hK _ _ ?_⟩ | refine hK _ _ ?_
  clear hK K
  refine mv_read 16 hF (fun _ _ _ h => h) rfl (by kernel_rfl) (by kernel_rfl) (by kernel_rfl) (fun K hK => ?_)
  go_simp
  first | refine ⟨_, fun _ => rfl, hK _ _ ?_⟩ | refine hK _ _ ?_
  clear hK K
  refine mv_read 17 hF (fun _ _ _ h => h) rfl (by kernel_rfl) (by kernel_rfl) (by kernel_rfl) (fun K hK => ?_)
  go_simp
  first | refine ⟨_, fun _ => rfl, hK _ _ ?_⟩ | refine hK _ _ ?_
  clear hK K
  refine mv_read 18 hF (fun _ _ _ h => h) rfl (by kernel_rfl) (by kernel_rfl) (by kernel_rfl) (fun K hK => ?_)
  go_simp
  first | refine ⟨_, fun _ => rfl, hK _ _ ?_⟩ | refine hK _ _ ?_
  clear hK K
  refine mv_read 19 hF (fun _ _ _ h => h) rfl (by kernel_rfl) (by kernel_rfl) (by kernel_rfl) (fun K hK => ?_)
  go_simp
  first | refine ⟨_, fun _ => rfl, hK _ _ ?_⟩ | refine hK _ _ ?_
  clear hK K
  refine mv_call1 13 28 rfl (by kernel_rfl) (by kernel_rfl) (by kernel_rfl) rfl rfl eg_bcopy (args := #[.pointer (some ⟨bn, 0, none⟩)]) rfl (u := .pointer (some ⟨W1.heap.size + 4, 0, none⟩)) (fun g w9 ha h0 h => ?_) ?_
  · obtain ⟨h, hm⟩ := h
    simp only [h0] at h
    have hw9 := h.no rfl
    have hz : w9.heap.size = W1.heap.size := by rw [hw9]; rfl
    refine (HB.out w9 (H2.out.2.1.book.below h.bl)).mono ?_
    rintro en w8 ⟨rfl, q1, q2, q3⟩
    rw [hz] at q1 q3 ⊢
    refine ⟨rfl, ?_⟩
    show CopyC _ _ _ (upd g 13 _ 13) (g 15) (g 20) (g 22) _ ∧ _
    rw [upd_self]
    exact ⟨h.one q1 q3 q2, hm⟩
  refine mv_call 15 16 rfl (by kernel_rfl) rfl rfl eg_mrecords (args := #[.pointer (some ⟨n, 0, none⟩)]) rfl (fun v => ∃ a c, v = .slice a m.recs.length c) (fun g w9 ha h0 h => ?_) ?_
  · obtain ⟨h, hm⟩ := h
    have e13 : g 13 = some (.pointer (some ⟨W1.heap.size + 4, 0, none⟩)) := by have e := agree_on 13 ha (by kernel_rfl); exact e.trans rfl
    simp only [h0, e13] at h
    refine (HRc.out w9 (H2.out.2.1.below h.bl)).mono ?_
    rintro en w8 ⟨v', rfl, q1, q2⟩
    obtain ⟨a9, c9, e9, -⟩ := q1.shape
    refine ⟨v', rfl, ⟨a9, c9, e9⟩, ?_⟩
    show CopyC _ _ _ (g 13) (upd g 15 _ 15) (g 20) (g 22) _ ∧ _
    rw [upd_self, e13]
    exact ⟨h.two q1 q2, fun v e => by obtain ⟨x, y, q3, q4, q5⟩ := hm v e; cases h0.symm.trans q3⟩
  rintro _ ⟨ra, rc, rfl⟩
  refine mv_call 20 29 rfl (by kernel_rfl) rfl rfl eg_vclone_any (args := #[.slice vva m.vers.length vvc]) rfl (fun v => ∃ a c, v = .slice a m.vers.length c) (fun g w9 ha h0 h => ?_) ?_
  · obtain ⟨h, hm⟩ := h
    have e15 : g 15 = some (.slice ra m.recs.length rc) := by have e := agree_on 15 ha (by kernel_rfl); exact e.trans rfl
    obtain ⟨x13, e13⟩ : ∃ x, g 13 = some x := Option.ne_none_iff_exists'.1 (h.ab (by rw [e15]; exact fun q => by cases q))
    simp only [h0, e13, e15] at h
    refine (HVc.out w9 _ (H2.out.2.1.below h.bl).vers.rd).mono ?_
    rintro en w8 ⟨v', rfl, q1, q2⟩
    obtain ⟨a9, c9, e9, -⟩ := q1.shape
    refine ⟨v', rfl, ⟨a9, c9, e9⟩, ?_⟩
    show CopyC _ _ _ (g 13) (g 15) (upd g 20 _ 20) (g 22) _ ∧ _
    rw [upd_self, e13, e15]
    exact ⟨h.three q1 q2, fun v e => by obtain ⟨x, y, q3, q4, q5⟩ := hm v e; cases h0.symm.trans q4⟩
  rintro _ ⟨va, vc, rfl⟩
  refine mv_alone 21 rfl (by kernel_rfl) rfl (fun v => v = .agg #[.int .i64 m.geo.blocks, .int .i64 m.geo.lbas, .int .i64 m.geo.first, .int .i64 m.used, .pointer (some ⟨w.heap.size, 0, none⟩), .pointer (some ⟨W1.heap.size + 4, 0, none⟩), .slice ra m.recs.length rc, .slice va m.vers.length vc]) (fun g w9 ha h0 h D hD => ?_) ?_
  · obtain ⟨h, hm⟩ := h
    have e15 : g 15 = some (.slice ra m.recs.length rc) := by have e := agree_on 15 ha (by kernel_rfl); exact e.trans rfl
    have e20 : g 20 = some (.slice va m.vers.length vc) := by have e := agree_on 20 ha (by kernel_rfl); exact e.trans rfl
    have hD2 := hD (.agg #[.int .i64 m.geo.blocks, .int .i64 m.geo.lbas, .int .i64 m.geo.first, .int .i64 m.used, .pointer (some ⟨w.heap.size, 0, none⟩), .pointer (some ⟨W1.heap.size + 4, 0, none⟩), .slice ra m.recs.length rc, .slice va m.vers.length vc]) w9 rfl (show CopyC _ _ _ (g 13) (g 15) (g 20) (g 22) _ ∧ _ from ⟨h, fun v e => ⟨_, _, e15, e20, by have e2 : upd g 21 (.agg #[.int .i64 m.geo.blocks, .int .i64 m.geo.lbas, .int .i64 m.geo.first, .int .i64 m.used, .pointer (some ⟨w.heap.size, 0, none⟩), .pointer (some ⟨W1.heap.size + 4, 0, none⟩), .slice ra m.recs.length rc, .slice va m.vers.length vc]) 21 = some v := e; rw [upd_self] at e2; cases e2; rfl⟩⟩)
    clear hD h hm
    go_simp
    exact hD2
  rintro _ rfl
  refine mv_alone 22 rfl (by kernel_rfl) rfl (fun v => ∃ b, v = .pointer (some ⟨b, 0, none⟩)) (fun g w9 ha h0 h D hD => ?_) ?_
  · obtain ⟨h, hm⟩ := h
    have e21 : g 21 = some (.agg #[.int .i64 m.geo.blocks, .int .i64 m.geo.lbas, .int .i64 m.geo.first, .int .i64 m.used, .pointer (some ⟨w.heap.size, 0, none⟩), .pointer (some ⟨W1.heap.size + 4, 0, none⟩), .slice ra m.recs.length rc, .slice va m.vers.length vc]) := by have e := agree_on 21 ha (by kernel_rfl); exact e.trans rfl
    obtain ⟨x, y, e15, e20, hv⟩ := hm _ e21
    injection hv with hv
    obtain ⟨rfl, rfl⟩ : x = .slice ra m.recs.length rc ∧ y = .slice va m.vers.length vc := by injection hv with hv; simp only [List.cons.injEq, and_true] at hv; exact ⟨hv.2.2.2.2.2.2.1.symm, hv.2.2.2.2.2.2.2.symm⟩
    obtain ⟨x13, e13⟩ : ∃ x, g 13 = some x := Option.ne_none_iff_exists'.1 (h.ab (by rw [e15]; exact fun q => by cases q))
    simp only [h0, e13, e15, e20] at h
    have hD2 := hD _ _ ⟨_, rfl⟩ (show CopyC _ _ _ (g 13) (g 15) (g 20) (upd g 22 _ 22) _ ∧ _ by rw [upd_self, e13, e15, e20]; exact ⟨h.four, hm⟩)
    clear hD h hm
    go_simp
    exact hD2
  rintro _ ⟨nb, rfl⟩
  refine mv_read 23 hF (fun _ _ _ h => h) rfl (by kernel_rfl) (by kernel_rfl) (by kernel_rfl) (fun K hK => ?_)
  go_simp
  first | refine ⟨_, fun _ => rfl, hK _ _ ?_⟩ | refine hK _ _ ?_
  clear hK K
  refine mv_end (by kernel_rfl) ?_
  intro y2 hy2
  have hy3 : CopyC W1 m w.heap.size (some (.pointer (some ⟨W1.heap.size + 4, 0, none⟩))) (some (.slice ra m.recs.length rc)) (some (.slice va m.vers.length vc)) (some (.pointer (some ⟨nb, 0, none⟩))) y2 := hy2.1
  have HY := Lib.hid hy3
  clear hy2 hy3 hF hFC kz0 kz1 kz2 kz3 kz5 kz7 z0 z1 z2 z3 z4 z5 z6 z7
  go_wp2
  obtain ⟨hb1, hb2⟩ := HY.out.book (fun q => by cases q)
  have hr := HY.out.recs _ rfl
  obtain ⟨hv1, hv2⟩ := HY.out.vers _ rfl
  obtain ⟨n9, e9, hn9, hm9⟩ := HY.out.mod _ rfl
  cases e9
  obtain ⟨k1, k2, k3⟩ := hm9 _ _ rfl rfl
  have sz : w.heap.size < W1.heap.size := lt_of_block H2.out.2.2
  have far : ∀ k, W1.heap.size + 5 ≤ k → k ≠ nb → Far nb w.heap.size (W1.heap.size + 4) W1.heap.size (W1.heap.size + 1) (W1.heap.size + 2) (W1.heap.size + 3) k := fun k h1 h2 => ⟨h2, by omega, fun q => by unfold FB at q; omega⟩
  refine HR.out _ _ ⟨nb, w.heap.size, W1.heap.size + 4, W1.heap.size, W1.heap.size + 1, W1.heap.size + 2, W1.heap.size + 3, .slice ra m.recs.length rc, .slice va m.vers.length vc, rfl, ⟨k1, (HY.out.bl.block _ sz).trans H2.out.2.2, hb1, hr.down (Nat.zero_le _), hv1.down (Nat.zero_le _), fun k e => hv2 _ k rfl e, fun k e => e.elim (fun e => far k (hr.lt e).1 (fun q => k2 (q ▸ e))) (fun e => far k (hv1.lt e).1 (fun q => k3 (q ▸ e)))⟩, ⟨?_, by omega, fun k q => by unfold FB at q; omega⟩, ?_, H2.out.1.trans (HY.out.bl.mono (Nat.le_of_lt sz))⟩
  · unfold Five; omega
  · rintro k (rfl | rfl | q | q | q)
    · omega
    · exact Nat.le_refl _
    · unfold FB at q; omega
    · have := (hr.lt q).1; omega
    · have := (hv1.lt q).1; omega
end Go.Proofs.Ytnkiokaeooopgaa
