/- Texts that the claim rests on, part 10: ModAlive, FrameCall. -/
import Derived.Test.YtnkiokaeooopgaaM9
/- Few calls, the example: of the law. -/
set_option maxRecDepth 100000
namespace Ks
open Go Go.RowKit
set_option linter.unusedVariables false
/-- what a class says ahead of a call, and behind it -/
def Called (Pre Post : World → Prop) (u : Option Value) (w : World) : Prop := match u with | none => Pre w | some _ => Post w
def alK (k : Nat) : Int := if k < 4 then 1 else 5
def alW (k : Nat) : Int := if k = 3 then 5 else if k = 5 then 6 else 0
def alC (k : Nat) : CallT := ⟨alK k, 0, 0, 0, ⟨#[]⟩, ⟨#[]⟩⟩
def alM : Nat → ModT
  | 0 => newM ⟨8, 2, 0⟩
  | k + 1 => if k < 4 then writeM (alM k) (alC k) else closeM (alM k) (zerosS 32)
theorem writeM_geo (m : ModT) (c : CallT) : (writeM m c).geo = m.geo := by unfold writeM; split <;> rfl
theorem closeM_geo (m : ModT) (z : ByteArray) : (closeM m z).geo = m.geo := by unfold closeM applyM; split <;> rfl
theorem writeM_used (m : ModT) (c : CallT) : m.used ≤ (writeM m c).used ∧ (writeM m c).used ≤ m.used + 1 := by unfold writeM; split <;> constructor <;> first | omega | (show _ ≤ m.used + 1; omega) | (show m.used + 1 ≤ _; omega)
theorem closeM_used (m : ModT) (z : ByteArray) : m.used ≤ (closeM m z).used ∧ (closeM m z).used ≤ m.used + 1 := by unfold closeM applyM; split <;> constructor <;> first | omega | (show _ ≤ m.used + 1; omega) | (show m.used + 1 ≤ _; omega)
structure AlOk (m : ModT) (k : Nat) : Prop where
  geo : m.geo = ⟨8, 2, 0⟩
  u0 : 0 ≤ m.used
  u1 : m.used ≤ k
  vl : m.vers.length ≤ k
  rl : m.recs.length ≤ k
  hl : m.book.holds.length ≤ k
  vs : ∀ v ∈ m.vers, 0 ≤ v.1 ∧ v.1 < 4096
theorem al_ok : ∀ k, AlOk (alM k) k
  | 0 => ⟨rfl, Int.le_refl _, Int.le_refl _, Nat.le_refl _, Nat.le_refl _, Nat.le_refl _, fun v h => by cases h⟩
  | k + 1 => by
    obtain ⟨g, u0, u1, vl, rl, hl, vs⟩ := al_ok k
    show AlOk (if k < 4 then writeM (alM k) (alC k) else closeM (alM k) (zerosS 32)) (k + 1)
    split
    · have := writeM_used (alM k) (alC k)
      refine ⟨(writeM_geo _ _).trans g, by omega, by omega, ?_, ?_, ?_, ?_⟩
      · unfold writeM; split
        · show (_ ++ [_]).length ≤ _; rw [List.length_append]; simp only [List.length_cons, List.length_nil]; omega
        · omega
      · unfold writeM; split
        · show (alM k).recs.length ≤ _; omega
        · omega
      · unfold writeM; split
        · show (alM k).book.holds.length ≤ _; omega
        · omega
      · unfold writeM; split
        · intro v hv
          rcases List.mem_append.1 hv with h | h
          · exact vs v h
          · rw [List.mem_singleton] at h; subst h; exact ⟨Int.le_refl _, (by show (0 : Int) < 4096; decide)⟩
        · exact vs
    · have := closeM_used (alM k) (zerosS 32)
      refine ⟨(closeM_geo _ _).trans g, by omega, by omega, ?_, ?_, ?_, ?_⟩
      · unfold closeM applyM; split
        · show (alM k).vers.length ≤ _; omega
        · omega
      · unfold closeM applyM; split
        · show (_ ++ [_]).length ≤ _; rw [List.length_append]; simp only [List.length_cons, List.length_nil]; omega
        · omega
      · unfold closeM applyM; split
        · exact Nat.le_trans (apply_holds _ _) (by omega)
        · omega
      · unfold closeM applyM; split
        · exact vs
        · exact vs
theorem al_w0 : writeE (alM 0) (alC 0) = 0 := by rfl
theorem al_w1 : writeE (alM 1) (alC 1) = 0 := by rfl
theorem al_w2 : writeE (alM 2) (alC 2) = 0 := by rfl
theorem al_w3 : writeE (alM 3) (alC 3) = 5 := by rfl
theorem al_c4 : closeE (alM 4) = 0 := by rfl
theorem al_c5 : closeE (alM 5) = 6 := by
  have h : (alM 5).used = (alM 4).used + 1 := by
    show (closeM (alM 4) (zerosS 32)).used = _
    rw [closeM, if_pos al_c4]; rfl
  have h4 : (alM 4).used = 3 := by rfl
  have hg : geoData (alM 5).geo = 4 := by rw [(al_ok 5).geo]; rfl
  rw [closeE, if_pos (Or.inr (by omega))]
theorem al_write (k : Nat) (h : k < 4) : writeE (alM k) (alC k) = alW k ∧ alM (k + 1) = writeM (alM k) (alC k) :=
  ⟨match k, h with | 0, _ => al_w0 | 1, _ => al_w1 | 2, _ => al_w2 | 3, _ => al_w3, by show (if k < 4 then _ else _) = _; rw [if_pos h]⟩
theorem al_close (k : Nat) (h : ¬ k < 4) (h6 : k < 6) : closeE (alM k) = alW k ∧ alM (k + 1) = closeM (alM k) (zerosS 32) :=
  ⟨by rcases (show k = 4 ∨ k = 5 by omega) with rfl | rfl; exact al_c4; exact al_c5, by show (if k < 4 then _ else _) = _; rw [if_neg h]⟩
theorem al_kc {w : World} {b : Nat} {T : TypeId} (h : w.heap[b]? = some (.cells #[.int .i64 1, .int .i64 1, .int .i64 1, .int .i64 1, .int .i64 5, .int .i64 5] T (0, 0))) (k : Nat) (hk : k < 6) : w.cell? ⟨b, k, none⟩ = some (.int .i64 (alK k)) := by
  rw [cell_of_row w b k _ T (0, 0) h]
  match k, hk with
  | 0, _ => rfl
  | 1, _ => rfl
  | 2, _ => rfl
  | 3, _ => rfl
  | 4, _ => rfl
  | 5, _ => rfl
theorem al_wc {w : World} {b : Nat} {T : TypeId} (h : w.heap[b]? = some (.cells #[.int .i64 0, .int .i64 0, .int .i64 0, .int .i64 5, .int .i64 0, .int .i64 6] T (0, 0))) (k : Nat) (hk : k < 6) : w.cell? ⟨b, k, none⟩ = some (.int .i64 (alW k)) := by
  rw [cell_of_row w b k _ T (0, 0) h]
  match k, hk with
  | 0, _ => rfl
  | 1, _ => rfl
  | 2, _ => rfl
  | 3, _ => rfl
  | 4, _ => rfl
  | 5, _ => rfl
/-- a call and its slice -/
structure CallK where
  c : CallT
  a : Option Addr
  n : Nat
  k : Nat
def callE : Enc CallK := ⟨7, fun x => [.int .i64 x.c.kind, .int .i64 x.c.lba, .int .i64 x.c.epoch, .int .i64 x.c.time, .string x.c.data, .string x.c.name, .slice x.a x.n x.k], fun _ => rfl, fun x u hu => by simp only [List.mem_cons, List.not_mem_nil, or_false] at hu; rcases hu with rfl | rfl | rfl | rfl | rfl | rfl | rfl <;> rfl, by decide⟩
end Ks
namespace Go.Proofs.Ytnkiokaeooopgaa
open Go.RowKit Ks Go.Maps
set_option linter.unusedVariables false
set_option linter.unusedSimpArgs false
theorem eg_do24 : ∀ args w, (callFunc 11 args).run Try.prog w = .ok (.enter 11 args) w := fun _ _ => rfl
set_option maxRecDepth 100000 in
set_option maxHeartbeats 4000000 in
theorem few24_any (lv : Value) (l : List CallK) (w : World) (hl : Rd callE w lv l) :
    Calls Try.prog 8 #[lv] w fun e w' => ∃ b : Bool, e = .returned (.bool b) ∧ (b = true → l.length ≤ 60) ∧ Below w.heap.size w w' := by
  refine calls_by fun R HR => ?_
  have HL := Lib.hid hl
  obtain ⟨a, cap, rfl, -⟩ := hl.shape
  clear hl
  go_enter Try.func8, Try.ntmps8
  go_wp2_with fail
  go_loopw [3, 4] (fun n i wx => ∃ (k : Nat) (m : Int), k ≤ l.length ∧ n = .int .i64 m ∧ i = .int .i64 k ∧ Hid (Below w.heap.size w wx)) (fun _ i _ => l.length - (intOf i).toNat)
  case atStart => exact ⟨0, 0, Nat.zero_le _, rfl, rfl, Lib.hid (Below.refl _ _)⟩
  case round =>
    obtain ⟨k, m, hk, rfl, rfl, hN⟩ := hrel
    by_cases hlt : k < l.length
    · have hki : (k : Int) < (l.length : Int) := by omega
      by_cases h2 : k ≤ 60
      · have h2i : (k : Int) ≤ 60 := by omega
        have h2d : decide ((k : Int) ≤ 60) = true := decide_eq_true h2i
        obtain ⟨x, hx⟩ : ∃ x, l[k]? = some x := ⟨_, List.getElem?_eq_getElem hlt⟩
        obtain ⟨b, o, ha, hb0, dd⟩ := (HL.out.below hN.out).at k x hx
        cases ha
        have d4 : wr.cell? ⟨b, o + k * 7 + 4, none⟩ = some (.string x.c.data) := dd 4 _ rfl
        have d5 : wr.cell? ⟨b, o + k * 7 + 5, none⟩ = some (.string x.c.name) := dd 5 _ rfl
        have d6 : wr.cell? ⟨b, o + k * 7 + 6, none⟩ = some (.slice x.a x.n x.k) := dd 6 _ rfl
        generalize x.c.data = s at *
        generalize x.c.name = t at *
        generalize x.a = ka at *
        generalize x.n = kn at *
        generalize x.k = kc at *
        clear dd hx hb0
        have g4 := fun p => after_cell d4 p
        have g5 := fun p => after_cell d5 p
        have g6 := fun p => after_cell d6 p
        have hcase : ((s.size : Int) < 10000 ∨ ¬ (s.size : Int) < 10000) ∧ ((t.size : Int) < 10000 ∨ ¬ (t.size : Int) < 10000) ∧ ((kn : Int) < 10000 ∨ ¬ (kn : Int) < 10000) := ⟨by omega, by omega, by omega⟩
        obtain ⟨h3 | h3, h4 | h4, h5 | h5⟩ := hcase
        all_goals
          go_wp2_with fail
          refine wp_region_after (by kernel_rfl) (by kernel_rfl) ?_
          repeat (go_big_quiet_step (fail))
          refine wpQuiet_nil ?_
          rintro w5 ⟨q, rfl⟩
          have hb5 := after_below wr q
          have H5 := Lib.hid (hN.out.trans (hb5.mono hN.out.size))
          generalize After wr q = w5 at *
          clear hb5 g4 g5 g6 d4 d5 d6
          go_wp2_with fail
          go_roundw
          case rel => exact ⟨k + 1, _, by omega, rfl, by go_num, H5⟩
          case measure => simp [intOf]; omega
      · have h2i : ¬ (k : Int) ≤ 60 := by omega
        have h2d : decide ((k : Int) ≤ 60) = false := decide_eq_false h2i
        have h2e : decide (k ≤ 60) = false := decide_eq_false h2
        have h60i : ¬ (l.length : Int) ≤ 60 := by omega
        have h60d : decide ((l.length : Int) ≤ 60) = false := decide_eq_false h60i
        have h60e : decide (l.length ≤ 60) = false := decide_eq_false (by omega)
        go_wp2
        exact HR.out _ _ ⟨false, rfl, (fun h => by cases h), hN.out⟩
    · obtain rfl : k = l.length := by omega
      have hki : ¬ (l.length : Int) < (l.length : Int) := by omega
      by_cases h60 : l.length ≤ 60
      · have h60i : (l.length : Int) ≤ 60 := by omega
        have h60d : decide ((l.length : Int) ≤ 60) = true := decide_eq_true h60i
        go_wp2
        exact HR.out _ _ ⟨_, rfl, fun _ => h60, hN.out⟩
      · have h60i : ¬ (l.length : Int) ≤ 60 := by omega
        have h60d : decide ((l.length : Int) ≤ 60) = false := decide_eq_false h60i
        have h60e : decide (l.length ≤ 60) = false := decide_eq_false h60
        go_wp2
        exact HR.out _ _ ⟨false, rfl, (fun h => by cases h), hN.out⟩
/-- where the example stands, behind k calls -/
structure AlSt (B : Nat) (w0 : World) (n cc bn c mu mh mg wb kb : Nat) (k : Nat) (w : World) : Prop where
  b : Below B w0 w
  hw : w.heap[wb]? = some (.cells #[.int .i64 0, .int .i64 0, .int .i64 0, .int .i64 5, .int .i64 0, .int .i64 6] 3 (0, 0))
  hk : w.heap[kb]? = some (.cells #[.int .i64 1, .int .i64 1, .int .i64 1, .int .i64 1, .int .i64 5, .int .i64 5] 3 (0, 0))
  m : ∃ rv vv, ModAt w n cc bn c mu mh mg rv vv (alM k) ∧ ∀ j, FM n cc bn c mu mh mg rv vv j → B ≤ j ∧ j ≠ wb ∧ j ≠ kb
theorem AlSt.on {B : Nat} {w0 w w' : World} {n cc bn c mu mh mg wb kb k : Nat} (h : AlSt B w0 n cc bn c mu mh mg wb kb k w) (hB : B ≤ w.heap.size) (hb : Below w.heap.size w w') : AlSt B w0 n cc bn c mu mh mg wb kb k w' := by
  obtain ⟨rv, vv, hm, hf⟩ := h.m
  exact ⟨h.b.trans (hb.mono hB), blk_on hb h.hw, blk_on hb h.hk, rv, vv, hm.below hb, hf⟩
theorem AlSt.step {B : Nat} {w0 w : World} {n cc bn c mu mh mg wb kb k : Nat} (h : AlSt B w0 n cc bn c mu mh mg wb kb k w) (hB : B ≤ w.heap.size) (h7 : Seven n cc bn c mu mh mg) (hk : k < 6) :
    Calls Try.prog 11 #[.pointer (some ⟨n, 0, none⟩), .agg #[.int .i64 (alK k), .int .i64 0, .int .i64 0, .int .i64 0, .string ⟨#[]⟩, .string ⟨#[]⟩, .slice none 0 0]] w fun e w' => e = .returned (.agg #[.int .i64 (alW k), .string ⟨#[]⟩, .int .i64 0, .int .i64 0, .int .i64 0, .int .i64 0, .int .i64 0, .int .i64 0]) ∧ AlSt B w0 n cc bn c mu mh mg wb kb (k + 1) w' := by
  obtain ⟨rv, vv, hm, hf⟩ := h.m
  have ok := al_ok k
  have key : ∀ (w' : World) (rv' vv' : Value) (M : ModT), M = alM (k + 1) → ModAt w' n cc bn c mu mh mg rv' vv' M → Turn w w' (FM n cc bn c mu mh mg rv vv) (FM n cc bn c mu mh mg rv' vv') → AlSt B w0 n cc bn c mu mh mg wb kb (k + 1) w' := fun w' rv' vv' M hM hm' ht => by
    have h1 := lt_of_block h.hw
    have h2 := lt_of_block h.hk
    refine ⟨h.b.trans (ht.below (fun j q => (hf j q).1) hB), (ht.block _ h1 (fun q => (hf _ q).2.1 rfl)).trans h.hw, (ht.block _ h2 (fun q => (hf _ q).2.2 rfl)).trans h.hk, rv', vv', hM ▸ hm', fun j q => ?_⟩
    rcases ht.foot j q with q | q
    · exact hf j q
    · omega
  by_cases h4 : k < 4
  · refine (mdo_write (alC k) none 0 0 w hm (by show alK k = 1; rw [alK, if_pos h4]) h7 (by rw [ok.geo]; decide) ⟨ok.u0, by have := ok.u1; omega⟩ (by have := ok.vl; omega)).mono ?_
    rintro e w' ⟨rfl, vv', hm', ht⟩
    exact ⟨by rw [(al_write k h4).1], key w' rv vv' _ (al_write k h4).2.symm hm' ht⟩
  · refine (mdo_close (alC k) none 0 0 w hm (by show alK k = 5; rw [alK, if_neg h4]) h7 (by rw [ok.geo]; decide) (by have := ok.hl; omega) ⟨ok.u0, by have := ok.u1; omega⟩ (by have := ok.rl; omega) ok.vs (by have := ok.vl; omega)).mono ?_
    rintro e w' ⟨rfl, rv', hm', ht⟩
    exact ⟨by rw [(al_close k h4 hk).1], key w' rv' vv _ (al_close k h4 hk).2.symm hm' ht⟩
set_option maxRecDepth 100000 in
set_option maxHeartbeats 4000000 in
theorem alive24_any (w : World) : Calls Try.prog 10 #[] w fun e w' => e = .returned (.bool true) ∧ Below w.heap.size w w' := by
  refine calls_by fun R HR => ?_
  have HN := Lib.hid (fun w => mnew_any ⟨8, 2, 0⟩ w (by decide))
  go_enter Try.func10, Try.ntmps10
  go_wp2_with fail
  refine (HN.out _).mono ?_
  rintro en v1 ⟨n, cc, bn, c, mu, mh, mg, rfl, hm, h7, hb, hlow⟩
  have H0 := Lib.hid (And.intro hb (And.intro hm (And.intro h7 hlow)))
  clear hm h7 hb hlow
  obtain ⟨W1, hW1⟩ : ∃ W1, v1.alloc (.cells #[.int .i64 0, .int .i64 0, .int .i64 0, .int .i64 5, .int .i64 0, .int .i64 6] 3) = W1 := ⟨_, rfl⟩
  have hbW1 : Below v1.heap.size v1 W1 := by rw [← hW1]; exact alloc_below v1 _
  have kW1 : W1.heap[v1.heap.size]? = some (.cells #[.int .i64 0, .int .i64 0, .int .i64 0, .int .i64 5, .int .i64 0, .int .i64 6] 3 (0, 0)) := by rw [← hW1]; exact alloc_new v1 _
  have H1 := Lib.hid (And.intro (H0.out.1.trans (hbW1.mono H0.out.1.size)) (And.intro (H0.out.2.1.below hbW1) (And.intro H0.out.2.2.1 (And.intro H0.out.2.2.2 (kW1)))))
  clear hbW1 kW1
  have s1 : v1.heap.size < W1.heap.size := lt_of_block H1.out.2.2.2.2
  obtain ⟨W2, hW2⟩ : ∃ W2, W1.alloc (.cells #[.int .i64 1, .int .i64 1, .int .i64 1, .int .i64 1, .int .i64 5, .int .i64 5] 3) = W2 := ⟨_, rfl⟩
  have hbW2 : Below W1.heap.size W1 W2 := by rw [← hW2]; exact alloc_below W1 _
  have kW2 : W2.heap[W1.heap.size]? = some (.cells #[.int .i64 1, .int .i64 1, .int .i64 1, .int .i64 1, .int .i64 5, .int .i64 5] 3 (0, 0)) := by rw [← hW2]; exact alloc_new W1 _
  have H2 := Lib.hid (And.intro (H1.out.1.trans (hbW2.mono H1.out.1.size)) (And.intro (H1.out.2.1.below hbW2) (And.intro H1.out.2.2.1 (And.intro H1.out.2.2.2.1 (And.intro (blk_on hbW2 H1.out.2.2.2.2) (kW2))))))
  clear hbW2 kW2
  have HS := Lib.hid (show AlSt w.heap.size w n cc bn c mu mh mg v1.heap.size W1.heap.size 0 W2 from ⟨H2.out.1, H2.out.2.2.2.2.1, H2.out.2.2.2.2.2, _, _, H2.out.2.1, fun j q => ⟨H2.out.2.2.2.1 j q, by have := H0.out.2.1.ltF j q; constructor <;> omega⟩⟩)
  go_wp2_with fail
  clear hW1 hW2
  generalize v1.heap.size = wb at *
  generalize W1.heap.size = kb at *
  go_loopw [16] (fun i wx => ∃ (k : Nat), k ≤ 6 ∧ i = .int .i64 k ∧ Hid (AlSt w.heap.size w n cc bn c mu mh mg wb kb k wx)) (fun i _ => 6 - (intOf i).toNat)
  case atStart => exact ⟨0, Nat.zero_le _, rfl, HS⟩
  case round =>
    obtain ⟨k, hk, rfl, hN⟩ := hrel
    by_cases hlt : k < 6
    · have hki : (k : Int) < 6 := by omega
      have d0 := al_kc hN.out.hk k hlt
      have HB := Lib.hid (show w.heap.size ≤ wr.heap.size from hN.out.b.size)
      go_upto_region 8 with fail
      clear d0
      have HI := Lib.hid hki
      have HC := Lib.hid (fun w9 (h : AlSt w.heap.size w n cc bn c mu mh mg wb kb k w9) => h.step h.b.size H0.out.2.2.1 hlt)
      refine wp_region_mv (fun f => Called (AlSt w.heap.size w n cc bn c mu mh mg wb kb k) (AlSt w.heap.size w n cc bn c mu mh mg wb kb (k + 1)) (f 3)) (by kernel_rfl) (hN.out.on HB.out (drew_below wr)) ?_
      obtain ⟨S, F, hF, hFC⟩ := moved_class (fun f => Called (AlSt w.heap.size w n cc bn c mu mh mg wb kb k) (AlSt w.heap.size w n cc bn c mu mh mg wb kb (k + 1)) (f 3))
      have k0 : ∀ s, (F s).cell? ⟨wb, k, none⟩ = some (.int .i64 (alW k)) := fun s => by
        obtain ⟨f, hf⟩ := hFC s
        have h7 : Called (AlSt w.heap.size w n cc bn c mu mh mg wb kb k) (AlSt w.heap.size w n cc bn c mu mh mg wb kb (k + 1)) (f 3) (F s) := hf
        cases h3 : f 3 with
        | none => rw [h3] at h7; exact al_wc (AlSt.hw h7) k hlt
        | some v9 => rw [h3] at h7; exact al_wc (AlSt.hw h7) k hlt
      show wpAnyM _ _ _ _ _ 10 (Array.replicate 10 false) _ _
      refine mv_read 0 hF (fun _ _ _ h => h) rfl (by kernel_rfl) (by kernel_rfl) (by kernel_rfl) (fun K hK => ?_)
      go_simp
      first | refine ⟨_, fun _ => rfl, hK _ _ ?_⟩ | refine hK _ _ ?_
      clear hK K
      refine mv_read 1 hF (fun _ _ _ h => h) rfl (by kernel_rfl) (by kernel_rfl) (by kernel_rfl) (fun K hK => ?_)
      go_simp
      first | refine ⟨_, fun _ => rfl, hK _ _ ?_⟩ | refine hK _ _ ?_
      clear hK K
      refine mv_read 2 hF (fun _ _ _ h => h) rfl (by kernel_rfl) (by kernel_rfl) (by kernel_rfl) (fun K hK => ?_)
      go_simp
      first | refine ⟨_, fun _ => rfl, hK _ _ ?_⟩ | refine hK _ _ ?_
      clear hK K
      refine mv_call1 3 11 rfl (by kernel_rfl) (by kernel_rfl) (by kernel_rfl) rfl rfl eg_do24 (args := #[.pointer (some ⟨n, 0, none⟩), .agg #[.int .i64 (alK k), .int .i64 0, .int .i64 0, .int .i64 0, .string ⟨#[]⟩, .string ⟨#[]⟩, .slice none 0 0]]) rfl (u := .agg #[.int .i64 (alW k), .string ⟨#[]⟩, .int .i64 0, .int .i64 0, .int .i64 0, .int .i64 0, .int .i64 0, .int .i64 0]) (fun g w9 ha h9 h => ?_) ?_
      · have h7 : Called (AlSt w.heap.size w n cc bn c mu mh mg wb kb k) (AlSt w.heap.size w n cc bn c mu mh mg wb kb (k + 1)) (g 3) w9 := h
        rw [h9] at h7
        refine (HC.out w9 h7).mono ?_
        rintro en w8 ⟨q1, q2⟩
        exact ⟨q1, q2⟩
      have hfd : ∀ w : World, (Instr.field 37 (.agg #[.int .i64 (alW k), .string ⟨#[]⟩, .int .i64 0, .int .i64 0, .int .i64 0, .int .i64 0, .int .i64 0, .int .i64 0]) 0).run Try.prog w = .ok (.int .i64 (alW k)) w := fun _ => by kernel_rfl
      refine mv_read 4 hF (fun _ _ _ h => h) rfl (by kernel_rfl) (by kernel_rfl) (by kernel_rfl) (fun K hK => ?_)
      go_simp
      first | refine ⟨_, fun _ => rfl, hK _ _ ?_⟩ | refine hK _ _ ?_
      clear hK K
      refine mv_read 5 hF (fun _ _ _ h => h) rfl (by kernel_rfl) (by kernel_rfl) (by kernel_rfl) (fun K hK => ?_)
      go_simp
      first | refine ⟨_, fun _ => rfl, hK _ _ ?_⟩ | refine hK _ _ ?_
      clear hK K
      refine mv_read 6 hF (fun _ _ _ h => h) rfl (by kernel_rfl) (by kernel_rfl) (by kernel_rfl) (fun K hK => ?_)
      go_simp
      first | refine ⟨_, fun _ => rfl, hK _ _ ?_⟩ | refine hK _ _ ?_
      clear hK K
      refine mv_read 7 hF (fun _ _ _ h => h) rfl (by kernel_rfl) (by kernel_rfl) (by kernel_rfl) (fun K hK => ?_)
      go_simp
      first | refine ⟨_, fun _ => rfl, hK _ _ ?_⟩ | refine hK _ _ ?_
      clear hK K
      refine mv_read 8 hF (fun _ _ _ h => h) rfl (by kernel_rfl) (by kernel_rfl) (by kernel_rfl) (fun K hK => ?_)
      go_simp
      first | refine ⟨_, fun _ => rfl, hK _ _ ?_⟩ | refine hK _ _ ?_
      clear hK K
      refine mv_read 9 hF (fun _ _ _ h => h) rfl (by kernel_rfl) (by kernel_rfl) (by kernel_rfl) (fun K hK => ?_)
      go_simp
      first | refine ⟨_, fun _ => rfl, hK _ _ ?_⟩ | refine hK _ _ ?_
      clear hK K
      refine mv_end (by kernel_rfl) ?_
      intro w9 hw9
      have H3 := Lib.hid (show AlSt w.heap.size w n cc bn c mu mh mg wb kb (k + 1) w9 from hw9)
      clear hw9 hF hFC k0 hfd
      go_wp2_with fail
      go_roundw
      case rel => exact ⟨k + 1, by omega, by go_num, H3⟩
      case measure => first | (simp [intOf]; done) | (simp [intOf]; omega)
    · obtain rfl : k = 6 := by omega
      go_wp2
      exact HR.out _ _ ⟨rfl, hN.out.b⟩
end Go.Proofs.Ytnkiokaeooopgaa
/- Calls and shapes among a law's arguments. -/
namespace Go.Proofs.Ytnkiokaeooopgaa
open Go Go.RowKit Go.ChangeShapes Go.WideShapes Go.ChangeAt Ks
set_option linter.unusedVariables false
theorem cellsCall24 : Try.prog.cellsOf 32 = 7 := by kernel_rfl
theorem cellsGeo24 : Try.prog.cellsOf 23 = 3 := by kernel_rfl
theorem cellsInt24 : Try.prog.cellsOf 3 = 1 := by kernel_rfl
theorem cellsString24 : Try.prog.cellsOf 9 = 1 := by kernel_rfl
theorem cellsInts24 : Try.prog.cellsOf 30 = 1 := by kernel_rfl
def intE24 : Enc Int := ⟨1, fun x => [.int .i64 x], fun _ => rfl, fun x u hu => by simp only [List.mem_cons, List.not_mem_nil, or_false] at hu; rcases hu with rfl; rfl, by decide⟩
theorem int_of24 {H : Type} {enc : TypeId × Value → H} {W : World} (n : Nat) (cs : List Value) (d : DataW H × List MemPlace) (h : DataW.trod enc Try.prog W 0 (fun _ => true) true n 3 cs = some d) (hl : cs.length = intE24.k) :
    ∃ x : Int, cs = intE24.enc x ∧ True := by
  obtain ⟨e, h0, _, s0⟩ := DataW.trod_int Try.underlying3 h
  exact ⟨e, h0, trivial⟩
/-- a number that a word holds -/
def I64 (x : Int) : Prop := -9223372036854775808 ≤ x ∧ x ≤ 9223372036854775807
/-- what is known of a call among the arguments -/
def CallG (x : CallK) : Prop := I64 x.c.kind ∧ I64 x.c.lba ∧ I64 x.c.epoch ∧ I64 x.c.time ∧ x.c.data.size ≤ maxLen ∧ x.c.name.size ≤ maxLen
set_option maxRecDepth 100000 in
theorem call_of {H : Type} {enc : TypeId × Value → H} {W : World} (n : Nat) (cs : List Value) (d : DataW H × List MemPlace) (h : DataW.trod enc Try.prog W 0 (fun _ => true) true n 32 cs = some d) (hl : cs.length = callE.k) :
    ∃ x : CallK, cs = callE.enc x ∧ CallG x := by
  obtain ⟨xs, n, _, _, hl, hlen, hF⟩ := DataW.trod_struct Try.underlying32 h
  rw [cellsCall24] at hl
  match cs, hl, xs, hlen with
  | [c0, c1, c2, c3, c4, c5, c6], _, [x0, x1, x2, x3, x4, x5, x6], _ =>
    have t0 := hF 0 _ rfl
    have t1 := hF 1 _ rfl
    have t2 := hF 2 _ rfl
    have t3 := hF 3 _ rfl
    have t4 := hF 4 _ rfl
    have t5 := hF 5 _ rfl
    have t6 := hF 6 _ rfl
    simp [cellsInt24, cellsString24, cellsInts24] at t0 t1 t2 t3 t4 t5 t6
    obtain ⟨e0, h0, _, s0⟩ := DataW.trod_int Try.underlying3 t0
    obtain ⟨e1, h1, _, s1⟩ := DataW.trod_int Try.underlying3 t1
    obtain ⟨e2, h2, _, s2⟩ := DataW.trod_int Try.underlying3 t2
    obtain ⟨e3, h3, _, s3⟩ := DataW.trod_int Try.underlying3 t3
    obtain ⟨e4, h4, _, s4⟩ := DataW.trod_string Try.underlying9 t4
    obtain ⟨e5, h5, _, s5⟩ := DataW.trod_string Try.underlying9 t5
    obtain ⟨v, l, h6, _, hr, hm, hG⟩ := rd_opens (E := intE24) Try.underlying30 cellsInt24 _ int_of24 t6
    simp at h0 h1 h2 h3 h4 h5 h6
    subst h0 h1 h2 h3 h4 h5 h6
    obtain ⟨a, c, rfl, _⟩ := hr.shape
    exact ⟨⟨⟨e0, e1, e2, e3, e4, e5⟩, a, l.length, c⟩, rfl, i64_range s0, i64_range s1, i64_range s2, i64_range s3, s4, s5⟩
set_option maxRecDepth 100000 in
theorem open_calls {H : Type} {enc : TypeId × Value → H} {W : World} {base : Nat} {v : Value} {d : DataW H} {ps : List MemPlace}
    (hok : Value.okWide Try.prog W .any base 24 v) (h : DataW.Trod enc Try.prog W 0 (fun _ => true) true 24 v d ps) : ∃ l, Rd callE W v l ∧ l.length ≤ maxLen ∧ ∀ x ∈ l, CallG x :=
  rd_open (E := callE) Try.underlying24 cellsCall24 _ call_of hok h
set_option maxRecDepth 100000 in
theorem open_call {H : Type} {enc : TypeId × Value → H} {W : World} {base : Nat} {v : Value} {d : DataW H} {ps : List MemPlace}
    (hok : Value.okWide Try.prog W .any base 32 v) (h : DataW.Trod enc Try.prog W 0 (fun _ => true) true 32 v d ps) :
    ∃ (x : CallT) (a : Option Addr) (n k : Nat), v = callV x a n k ∧ CallG ⟨x, a, n, k⟩ := by
  obtain ⟨fuel, hf⟩ := h
  have hv : ∃ cs, v = .agg cs := by
    have h0 := hok
    unfold Value.okWide at h0
    rw [Try.underlying32] at h0
    obtain ⟨cs, h1, _⟩ := h0
    exact ⟨cs, h1⟩
  obtain ⟨⟨cs⟩, rfl⟩ := hv
  have hl : cs.length = 7 := by
    obtain ⟨xs, n, _, _, hl, _, _⟩ := DataW.trod_struct Try.underlying32 hf
    rw [cellsCall24] at hl
    simpa [Value.cells] using hl
  obtain ⟨x, hx, hg⟩ := call_of _ _ _ hf hl
  obtain ⟨x, a, n, k⟩ := x
  refine ⟨x, a, n, k, ?_, hg⟩
  simp only [Value.cells] at hx
  subst hx
  rfl
set_option maxRecDepth 100000 in
theorem open_geo {H : Type} {enc : TypeId × Value → H} {W : World} {base : Nat} {v : Value} {d : DataW H} {ps : List MemPlace}
    (hok : Value.okWide Try.prog W .any base 23 v) (h : DataW.Trod enc Try.prog W 0 (fun _ => true) true 23 v d ps) :
    ∃ g : GeoD, v = geoV g ∧ I64 g.blocks ∧ I64 g.lbas ∧ I64 g.first := by
  obtain ⟨fuel, hf⟩ := h
  have hv : ∃ cs, v = .agg cs := by
    have h0 := hok
    unfold Value.okWide at h0
    rw [Try.underlying23] at h0
    obtain ⟨cs, h1, _⟩ := h0
    exact ⟨cs, h1⟩
  obtain ⟨⟨cs⟩, rfl⟩ := hv
  obtain ⟨xs, n, _, _, hl, hlen, hF⟩ := DataW.trod_struct Try.underlying23 hf
  rw [cellsGeo24] at hl
  simp only [Value.cells] at hl hF
  match cs, hl, xs, hlen with
  | [c0, c1, c2], _, [x0, x1, x2], _ =>
    have t0 := hF 0 _ rfl
    have t1 := hF 1 _ rfl
    have t2 := hF 2 _ rfl
    simp [cellsInt24] at t0 t1 t2
    obtain ⟨e0, h0, _, s0⟩ := DataW.trod_int Try.underlying3 t0
    obtain ⟨e1, h1, _, s1⟩ := DataW.trod_int Try.underlying3 t1
    obtain ⟨e2, h2, _, s2⟩ := DataW.trod_int Try.underlying3 t2
    simp at h0 h1 h2
    subst h0 h1 h2
    exact ⟨⟨e0, e1, e2⟩, rfl, i64_range s0, i64_range s1, i64_range s2⟩
end Go.Proofs.Ytnkiokaeooopgaa
