/- What is stale: slots.Stale and the reference's. -/
import Derived.Test.YtedjngljblhmpaaSlotPick
import Derived.BigQuiet
namespace Go.Proofs.Ytedjngljblhmpaa
open Go.RowKit Ks
set_option linter.unusedVariables false
theorem infoInt11 : (Try.prog.info? 3).map (fun i => (i.zero, i.size, i.bytes)) = some (some (.int .i64 0), numE.k, 8) := by kernel_rfl
theorem intT11 : ElemT Try.prog 39 3 numE.k 8 := elemT_of Try.underlying39 infoInt11 rfl
theorem set_blk1 {w : World} {b : Nat} {x : Value} {t : TypeId} (h : w.heap[b]? = some (.cells #[x] t (0, 0))) (v : Value) : (w.setCell ⟨b, 0, none⟩ v).heap[b]? = some (.cells #[v] t (0, 0)) := by
  simp [World.setCell, Array.getElem?_modify, h]
theorem num_range (i : Int) (h : i = 0 ∨ i = 1) : ∀ x ∈ [i], -9223372036854775808 ≤ x ∧ x ≤ 9223372036854775807 := by
  intro x hx
  simp only [List.mem_singleton] at hx
  omega
/-- the closure: where nothing is to be put -/
theorem put_no (i : Int) (x : ByteArray) (ep : Int) (e o : Nat) (w : World) (h0 : 0 ≤ ep) (he : w.cell? ⟨e, 0, none⟩ = some (.int .i64 ep)) (h : i = ep % 2) :
    Calls Try.prog 33 #[.int .i64 i, .string x, .pointer (some ⟨e, 0, none⟩), .pointer (some ⟨o, 0, none⟩)] w fun en w' => en = .returned (.tuple #[]) ∧ w' = w := by
  refine calls_by fun R HR => ?_
  have hT := tmod2 ep h0
  have hb : (i != ep.tmod 2) = false := by rw [hT, h]; simp
  go_enter Try.func33, Try.ntmps33
  go_wp2
  go_end0
  exact HR.out _ _ ⟨rfl, rfl⟩
theorem put_same (i : Int) (x : ByteArray) (ep : Int) (e o : Nat) (w : World) (h0 : 0 ≤ ep) (he : w.cell? ⟨e, 0, none⟩ = some (.int .i64 ep)) (h : i ≠ ep % 2) (hx : x = zerosS 4096) :
    Calls Try.prog 33 #[.int .i64 i, .string x, .pointer (some ⟨e, 0, none⟩), .pointer (some ⟨o, 0, none⟩)] w fun en w' => en = .returned (.tuple #[]) ∧ Below w.heap.size w w' := by
  refine calls_by fun R HR => ?_
  have hT := tmod2 ep h0
  have hb : (i != ep.tmod 2) = true := by rw [hT, bne_iff_ne]; exact h
  have HE := Lib.hid (slempty_any w)
  rw [← hx] at HE
  clear hx
  go_enter Try.func33, Try.ntmps33
  go_wp2_with fail
  refine HE.out.mono ?_
  rintro en w1 ⟨rfl, hb1⟩
  have H1 := Lib.hid hb1
  clear hb1
  go_wp2
  go_end0
  exact HR.out _ _ ⟨rfl, H1.out⟩
set_option maxRecDepth 100000 in
set_option maxHeartbeats 1000000 in
theorem put_yes (i : Int) (x : ByteArray) (ep : Int) (e o : Nat) (w : World) (h0 : 0 ≤ ep) (he : w.cell? ⟨e, 0, none⟩ = some (.int .i64 ep)) (hi : i = 0 ∨ i = 1) (h : i ≠ ep % 2) (hx : x ≠ zerosS 4096) (ho : w.heap[o]? = some (.cells #[.slice none 0 0] 39 (0, 0))) :
    Calls Try.prog 33 #[.int .i64 i, .string x, .pointer (some ⟨e, 0, none⟩), .pointer (some ⟨o, 0, none⟩)] w fun en w' => en = .returned (.tuple #[]) ∧ ∃ v w1, Below w.heap.size w w1 ∧ w' = w1.setCell ⟨o, 0, none⟩ v ∧ RdI w1 v [i] ∧ (∀ b, v.ownBlock = some b → w.heap.size ≤ b) ∧ ∃ a n c, v = .slice a n c := by
  refine calls_by fun R HR => ?_
  have hT := tmod2 ep h0
  have hb : (i != ep.tmod 2) = true := by rw [hT, bne_iff_ne]; exact h
  have HE := Lib.hid (slempty_any w)
  have hne := str_neq hx
  obtain ⟨Z, hZ⟩ : ∃ Z, zerosS 4096 = Z := ⟨_, rfl⟩
  rw [hZ] at hne HE
  have HO := Lib.hid ho
  have HI := Lib.hid hi
  clear hx hZ ho hi
  go_enter Try.func33, Try.ntmps33
  go_wp2_with fail
  refine HE.out.mono ?_
  rintro en w1 ⟨rfl, hb1⟩
  have H1 := Lib.hid (And.intro hb1 (blk_below hb1 HO.out))
  clear hb1
  obtain ⟨c0, f0⟩ := blk1 H1.out.2
  go_wp2_with (at_builtin; refine wpList_append_row _ rfl _ _ 39 rfl intT11 w1.heap.size _ _ [] [i] rfl rfl (Row.nil _ _ _) (Rd.single (E := numE) i (alloc_new _ _) rfl) (by simp) (by simp) (by decide) ?_)
  intro v' w3 hG
  have hB3 : Below w1.heap.size w1 w3 := hG.below (alloc_below w1 _) (by simp) (fun b hb => by simp [Value.ownBlock] at hb)
  have hl := hG.low (B0 := w1.heap.size) (by simp) (fun b hb => by simp [Value.ownBlock] at hb)
  have HG := Lib.hid (And.intro hB3 (And.intro (rdI_num hG.1.rd (num_range i HI.out)) hl))
  obtain ⟨a2, n2, cap2, rfl⟩ := hG.1.any
  have k3 := blk_below hB3 H1.out.2
  obtain ⟨d0, g0⟩ := blk1 k3
  clear hG hB3 hl k3 c0 f0
  go_wp2
  go_end0
  exact HR.out _ _ ⟨rfl, _, w3, H1.out.1.trans (HG.out.1.mono H1.out.1.size), rfl, HG.out.2.1, fun b hb => Nat.le_trans H1.out.1.size (HG.out.2.2 b hb), _, _, _, rfl⟩

def staleTo (a b : ByteArray) (ep : Int) (k : Nat) : List Int :=
  if k = 0 then [] else if k = 1 then (if ep % 2 = 1 then (if a = zerosS 4096 then [] else [0]) else []) else (if ep % 2 = 1 then (if a = zerosS 4096 then [] else [0]) else (if b = zerosS 4096 then [] else [1]))
/-- what stands behind so many rounds -/
def StInv (w wr : World) (a b : ByteArray) (ep : Int) (k : Nat) : Prop :=
  Below w.heap.size w wr ∧ wr.heap[w.heap.size]? = some (.cells #[.int .i64 ep] 3 (0, 0)) ∧ ∃ p n c, wr.heap[w.heap.size + 1]? = some (.cells #[.slice p n c] 39 (0, 0)) ∧ RdI wr (.slice p n c) (staleTo a b ep k) ∧ (staleTo a b ep k = [] → Value.slice p n c = .slice none 0 0)
theorem StInv.same {w wr w' : World} {a b : ByteArray} {ep : Int} {k k' : Nat} (h : StInv w wr a b ep k) (hb : Below wr.heap.size wr w') (e : staleTo a b ep k' = staleTo a b ep k) : StInv w w' a b ep k' := by
  obtain ⟨h1, h2, p, n, c, h3, h4, h5⟩ := h
  exact ⟨h1.trans (hb.mono h1.size), blk_below hb h2, p, n, c, blk_below hb h3, by rw [e]; exact h4.below hb, by rw [e]; exact h5⟩
theorem stale_step (w wr : World) (a b : ByteArray) (ep : Int) (h0 : 0 ≤ ep) (k : Nat) (x : ByteArray) (hk : (k = 0 ∧ x = a) ∨ (k = 1 ∧ x = b)) (h : StInv w wr a b ep k) :
    Calls Try.prog 33 #[.int .i64 (k : Int), .string x, .pointer (some ⟨w.heap.size, 0, none⟩), .pointer (some ⟨w.heap.size + 1, 0, none⟩)] wr fun en w' => en = .returned (.tuple #[]) ∧ StInv w w' a b ep (k + 1) := by
  have hh := h
  obtain ⟨h1, h2, p, n, c, h3, h4, h5⟩ := h
  have he : wr.cell? ⟨w.heap.size, 0, none⟩ = some (.int .i64 ep) := (blk1 h2).1
  by_cases hi : (k : Int) = ep % 2
  · refine (put_no k x ep _ _ wr h0 he hi).mono ?_
    rintro en w' ⟨rfl, rfl⟩
    refine ⟨rfl, hh.same (Below.refl _ _) ?_⟩
    rcases hk with ⟨rfl, rfl⟩ | ⟨rfl, rfl⟩
    · have : ep % 2 = 0 := by omega
      simp [staleTo, this]
    · have : ep % 2 = 1 := by omega
      simp [staleTo, this]
  · by_cases hx : x = zerosS 4096
    · refine (put_same k x ep _ _ wr h0 he hi hx).mono ?_
      rintro en w' ⟨rfl, hb⟩
      refine ⟨rfl, hh.same hb ?_⟩
      rcases hk with ⟨rfl, rfl⟩ | ⟨rfl, rfl⟩
      · have : ep % 2 = 1 := by omega
        simp [staleTo, this, hx]
      · have : ep % 2 = 0 := by omega
        simp [staleTo, this, hx]
    · have hnil : staleTo a b ep k = [] := by
        rcases hk with ⟨rfl, rfl⟩ | ⟨rfl, rfl⟩
        · rfl
        · have : ep % 2 = 0 := by omega
          simp [staleTo, this]
      have e := h5 hnil
      cases e
      refine (put_yes k x ep _ _ wr h0 he (by omega) hi hx h3).mono ?_
      rintro en w' ⟨rfl, v, w1, hb, rfl, hr, hl, a2, n2, c2, rfl⟩
      have hsz : w.heap.size + 1 < wr.heap.size := lt_of_block h3
      have hO := blk_below hb h3
      have hnew : staleTo a b ep (k + 1) = [(k : Int)] := by
        rcases hk with ⟨rfl, rfl⟩ | ⟨rfl, rfl⟩
        · have : ep % 2 = 1 := by omega
          simp [staleTo, this, hx]
        · have : ep % 2 = 0 := by omega
          simp [staleTo, this, hx]
      have hB : Below w.heap.size w1 (w1.setCell ⟨w.heap.size + 1, 0, none⟩ (.slice a2 n2 c2)) := (Below.refl _ _).setCell (Nat.le_succ _) _
      refine ⟨rfl, (h1.trans (hb.mono h1.size)).trans hB, ?_, a2, n2, c2, ?_, ?_, ?_⟩
      · rw [set_ne _ (by omega)]; exact blk_below hb h2
      · exact set_blk1 hO _
      · rw [hnew]
        obtain ⟨q, cap, e, hc, hh⟩ := hr
        cases e
        refine ⟨_, _, rfl, hc, fun i y hy => ?_⟩
        obtain ⟨⟨b1, o1, hq, hlt, hcell⟩, hr⟩ := hh i y hy
        refine ⟨⟨b1, o1, hq, by simpa using hlt, ?_⟩, hr⟩
        have hge := hl b1 (by subst hq; rfl)
        rw [World.cell?_of_block (a := ⟨b1, o1 + i, none⟩) (set_ne _ (by show b1 ≠ w.heap.size + 1; omega))]
        exact hcell
      · rw [hnew]; intro e; cases e

set_option maxRecDepth 100000 in
set_option maxHeartbeats 1000000 in
theorem slstale_any (a b : ByteArray) (ep : Int) (w : World) : Calls Try.prog 17 #[.string a, .string b, .int .i64 ep] w fun e w' => ∃ v, e = .returned v ∧ RdI w' v (staleL a b ep) ∧ Below w.heap.size w w' := by
  refine calls_by fun R HR => ?_
  obtain ⟨W1, hW1⟩ : ∃ W1, w.alloc (.cells #[.int .i64 ep] 3) = W1 := ⟨_, rfl⟩
  have hb1 : Below w.heap.size w W1 := by rw [← hW1]; exact alloc_below w _
  have k1 : W1.heap[w.heap.size]? = some (.cells #[.int .i64 ep] 3 (0, 0)) := by rw [← hW1]; exact alloc_new w _
  have hs1 : W1.heap.size = w.heap.size + 1 := by rw [← hW1]; simp
  obtain ⟨W2, hW2⟩ : ∃ W2, W1.alloc (.cells #[.slice none 0 0] 39) = W2 := ⟨_, rfl⟩
  have hb2 : Below W1.heap.size W1 W2 := by rw [← hW2]; exact alloc_below W1 _
  have k2 : W2.heap[w.heap.size + 1]? = some (.cells #[.slice none 0 0] 39 (0, 0)) := by rw [← hW2, ← hs1]; exact alloc_new W1 _
  have hI : StInv w W2 a b ep 0 := ⟨hb1.trans (hb2.mono hb1.size), blk_below hb2 k1, _, _, _, k2, RdI.nil _, fun _ => rfl⟩
  have H1 := Lib.hid hI
  have HM := Lib.hid (slmay_any ep W2)
  obtain ⟨c0, -⟩ := blk1 hI.2.1
  obtain ⟨d0, -⟩ := blk1 k2
  have q0 := idx2_0
  have q1 := idx2_1
  clear hb1 k1 hb2 k2 hI
  by_cases hep : epOk ep = true
  · rw [hep] at HM
    have HE := Lib.hid (And.intro (ep_ok.1 hep) hep)
    clear hep
    go_enter Try.func17, Try.ntmps17
    go_wp2_with fail
    refine HM.out.mono ?_
    rintro e w3 ⟨rfl, rfl⟩
    clear c0 d0 hW1 hW2
    go_wp2_with fail
    go_loopg [19] 2 (fun g i wr => ∃ (k : Nat), k + g = 2 ∧ i = .int .i64 k ∧ Hid (StInv w wr a b ep k))
    case atStart => exact ⟨0, rfl, rfl, H1⟩
    case round =>
      obtain ⟨k, hk, rfl, hN⟩ := hrel
      have hk3 : k = 0 ∨ k = 1 ∨ k = 2 := by omega
      rcases hk3 with rfl | rfl | rfl
      · have TC := Lib.hid (stale_step w wr a b ep HE.out.1.1 0 a (Or.inl ⟨rfl, rfl⟩) hN.out)
        clear hN
        go_wp2_with fail
        refine TC.out.mono ?_
        rintro e w4 ⟨rfl, hI⟩
        have HI := Lib.hid hI
        clear hI TC
        go_wp2_with fail
        go_roundg (gk - 1)
        case rel => exact ⟨1, by omega, by go_num, HI⟩
        case measure => omega
      · have TC := Lib.hid (stale_step w wr a b ep HE.out.1.1 1 b (Or.inr ⟨rfl, rfl⟩) hN.out)
        clear hN
        go_wp2_with fail
        refine TC.out.mono ?_
        rintro e w4 ⟨rfl, hI⟩
        have HI := Lib.hid hI
        clear hI TC
        go_wp2_with fail
        go_roundg (gk - 1)
        case rel => exact ⟨2, by omega, by go_num, HI⟩
        case measure => omega
      · obtain ⟨h1, h2, p, n, c, h3, h4, h5⟩ := hN.out
        have HV := Lib.hid (And.intro h1 (show RdI wr (.slice p n c) (staleL a b ep) by
          have e : staleL a b ep = staleTo a b ep 2 := by rw [staleL, if_pos HE.out.2]; rfl
          rw [e]; exact h4))
        obtain ⟨d0, -⟩ := blk1 h3
        clear h1 h2 h3 h4 h5 hN hk
        go_wp2
        exact HR.out _ _ ⟨_, rfl, HV.out.2, HV.out.1⟩
  · have hf : epOk ep = false := by simpa using hep
    rw [hf] at HM
    have HV := Lib.hid (show staleL a b ep = [] by rw [staleL, if_neg hep])
    clear hep hf
    go_enter Try.func17, Try.ntmps17
    go_wp2_with fail
    refine HM.out.mono ?_
    rintro e w3 ⟨rfl, rfl⟩
    go_wp2
    exact HR.out _ _ ⟨_, rfl, by rw [HV.out]; exact RdI.nil _, H1.out.1⟩

theorem stale_cases (a b : ByteArray) (ep : Int) : (epOk ep = false ∧ staleL a b ep = []) ∨ (epOk ep = true ∧ ep % 2 = 1 ∧ a = zerosS 4096 ∧ staleL a b ep = []) ∨ (epOk ep = true ∧ ep % 2 = 1 ∧ a ≠ zerosS 4096 ∧ staleL a b ep = [0]) ∨
    (epOk ep = true ∧ ep % 2 = 0 ∧ b = zerosS 4096 ∧ staleL a b ep = []) ∨ (epOk ep = true ∧ ep % 2 = 0 ∧ b ≠ zerosS 4096 ∧ staleL a b ep = [1]) := by
  unfold staleL
  by_cases h : epOk ep = true
  · rw [if_pos h]
    have hm : ep % 2 = 0 ∨ ep % 2 = 1 := by omega
    rcases hm with hm | hm
    · rw [if_neg (by omega)]
      by_cases hb : b = zerosS 4096
      · rw [if_pos hb]; exact Or.inr (Or.inr (Or.inr (Or.inl ⟨h, hm, hb, rfl⟩)))
      · rw [if_neg hb]; exact Or.inr (Or.inr (Or.inr (Or.inr ⟨h, hm, hb, rfl⟩)))
    · rw [if_pos hm]
      by_cases ha : a = zerosS 4096
      · rw [if_pos ha]; exact Or.inr (Or.inl ⟨h, hm, ha, rfl⟩)
      · rw [if_neg ha]; exact Or.inr (Or.inr (Or.inl ⟨h, hm, ha, rfl⟩))
  · rw [if_neg h]; exact Or.inl ⟨by simpa using h, rfl⟩
/-- append of one number to none -/
theorem grew_one {w w3 : World} {o : Obj} {i : Int} {v' : Value} (hi : i = 0 ∨ i = 1) (hG : Grew numE (w.alloc o) w3 w.heap.size 3 (.slice none 0 0) v' ([] ++ [i])) : Below w.heap.size w w3 ∧ RdI w3 v' [i] :=
  ⟨hG.below (alloc_below w _) (by simp) (fun b hb => by simp [Value.ownBlock] at hb), rdI_num hG.1.rd (num_range i hi)⟩
set_option maxRecDepth 100000 in
set_option maxHeartbeats 2000000 in
theorem rslstale_any (a b : ByteArray) (ep : Int) (w : World) : Calls Try.prog 18 #[.string a, .string b, .int .i64 ep] w fun e w' => ∃ v, e = .returned v ∧ RdI w' v (staleL a b ep) ∧ Below w.heap.size w w' := by
  refine calls_by fun R HR => ?_
  have HM := Lib.hid (fun w => slright_any ep w)
  have HN := Lib.hid (fun w => noughts_any 4096 w (by decide))
  rcases stale_cases a b ep with ⟨h1, hV⟩ | ⟨h1, hm, hz, hV⟩ | ⟨h1, hm, hz, hV⟩ | ⟨h1, hm, hz, hV⟩ | ⟨h1, hm, hz, hV⟩
  · have HV := Lib.hid hV
    simp only [h1] at HM
    clear h1 hV
    go_enter Try.func18, Try.ntmps18
    go_wp2_with fail
    refine (HM.out _).mono ?_
    rintro e w1 ⟨rfl, rfl⟩
    go_wp2_with fail
    refine (HM.out _).mono ?_
    rintro e w1 ⟨rfl, rfl⟩
    go_wp2
    exact HR.out _ _ ⟨_, rfl, by rw [HV.out]; exact RdI.nil _, Below.refl _ _⟩
  · have HV := Lib.hid hV
    have hT := tmod2 ep (ep_ok.1 h1).1
    rw [hm] at hT
    simp only [h1] at HM
    rw [← hz] at HN
    clear h1 hV hm hz
    go_enter Try.func18, Try.ntmps18
    go_wp2_with fail
    refine (HM.out _).mono ?_
    rintro e w1 ⟨rfl, rfl⟩
    go_wp2_with fail
    refine (HN.out _).mono ?_
    rintro e w2 ⟨rfl, hb2⟩
    have H2 := Lib.hid hb2
    clear hb2
    go_wp2_with fail
    refine (HM.out _).mono ?_
    rintro e w3 ⟨rfl, rfl⟩
    go_wp2
    exact HR.out _ _ ⟨_, rfl, by rw [HV.out]; exact RdI.nil _, H2.out⟩
  · have HV := Lib.hid hV
    have hT := tmod2 ep (ep_ok.1 h1).1
    have hne := str_neq hz
    obtain ⟨Z, hZ⟩ : ∃ Z, zerosS 4096 = Z := ⟨_, rfl⟩
    rw [hZ] at hne HN
    rw [hm] at hT
    simp only [h1] at HM
    clear h1 hV hm hz hZ
    go_enter Try.func18, Try.ntmps18
    go_wp2_with fail
    refine (HM.out _).mono ?_
    rintro e w1 ⟨rfl, rfl⟩
    go_wp2_with fail
    refine (HN.out _).mono ?_
    rintro e w2 ⟨rfl, hb2⟩
    have H2 := Lib.hid hb2
    clear hb2
    go_wp2_with (at_builtin; refine wpList_append_row _ rfl _ _ 39 rfl intT11 w2.heap.size _ _ [] [0] rfl rfl (Row.nil _ _ _) (Rd.single (E := numE) 0 (alloc_new _ _) rfl) (by simp) (by simp) (by decide) ?_)
    intro v' w3 hG
    obtain ⟨q1, q2⟩ := grew_one (Or.inl rfl) hG
    have HG := Lib.hid (And.intro (H2.out.trans (q1.mono H2.out.size)) q2)
    obtain ⟨a2, n2, cap2, rfl⟩ := hG.1.any
    clear hG q1 q2
    go_wp2_with fail
    refine (HM.out _).mono ?_
    rintro e w4 ⟨rfl, rfl⟩
    go_wp2
    exact HR.out _ _ ⟨_, rfl, by rw [HV.out]; exact HG.out.2, HG.out.1⟩
  · have HV := Lib.hid hV
    have hT := tmod2 ep (ep_ok.1 h1).1
    rw [hm] at hT
    simp only [h1] at HM
    rw [← hz] at HN
    clear h1 hV hm hz
    go_enter Try.func18, Try.ntmps18
    go_wp2_with fail
    refine (HM.out _).mono ?_
    rintro e w1 ⟨rfl, rfl⟩
    go_wp2_with fail
    refine (HM.out _).mono ?_
    rintro e w1 ⟨rfl, rfl⟩
    go_wp2_with fail
    refine (HN.out _).mono ?_
    rintro e w2 ⟨rfl, hb2⟩
    have H2 := Lib.hid hb2
    clear hb2
    go_wp2
    exact HR.out _ _ ⟨_, rfl, by rw [HV.out]; exact RdI.nil _, H2.out⟩
  · have HV := Lib.hid hV
    have hT := tmod2 ep (ep_ok.1 h1).1
    have hne := str_neq hz
    obtain ⟨Z, hZ⟩ : ∃ Z, zerosS 4096 = Z := ⟨_, rfl⟩
    rw [hZ] at hne HN
    rw [hm] at hT
    simp only [h1] at HM
    clear h1 hV hm hz hZ
    go_enter Try.func18, Try.ntmps18
    go_wp2_with fail
    refine (HM.out _).mono ?_
    rintro e w1 ⟨rfl, rfl⟩
    go_wp2_with fail
    refine (HM.out _).mono ?_
    rintro e w1 ⟨rfl, rfl⟩
    go_wp2_with fail
    refine (HN.out _).mono ?_
    rintro e w2 ⟨rfl, hb2⟩
    have H2 := Lib.hid hb2
    clear hb2
    go_wp2_with (at_builtin; refine wpList_append_row _ rfl _ _ 39 rfl intT11 w2.heap.size _ _ [] [1] rfl rfl (Row.nil _ _ _) (Rd.single (E := numE) 1 (alloc_new _ _) rfl) (by simp) (by simp) (by decide) ?_)
    intro v' w3 hG
    obtain ⟨q1, q2⟩ := grew_one (Or.inr rfl) hG
    have HG := Lib.hid (And.intro (H2.out.trans (q1.mono H2.out.size)) q2)
    obtain ⟨a2, n2, cap2, rfl⟩ := hG.1.any
    clear hG q1 q2
    go_wp2
    exact HR.out _ _ ⟨_, rfl, by rw [HV.out]; exact HG.out.2, HG.out.1⟩
end Go.Proofs.Ytedjngljblhmpaa
