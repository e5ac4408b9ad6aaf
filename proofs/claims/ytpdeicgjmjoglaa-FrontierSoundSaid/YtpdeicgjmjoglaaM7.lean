/- Texts that the claim rests on, part 7: Alive36, Open, FrameStr, MerkleRef, MovedFork, FrontRPeaks, FrontRGrow, FrontTree, FrontLong. -/
import Derived.Deep.Slices
import Derived.Test.YtpdeicgjmjoglaaProg
import Derived.StillTailTactics
import Derived.Test.YtpdeicgjmjoglaaM6
/- The chapter's example; so few hashes. -/
namespace Ks
open Go
theorem alive36 (a b c : ByteArray) (ha : a.size = 32) (hb : b.size = 32) (hc : c.size = 32) : growV [a, b, c] 2 = [c] ∧ growE [a, b, c] 2 = 0 ∧ peaksB [a, b, c] = [nodeS a b, c] := by
  have hw : wholeL [a, b, c] = true := by simp [wholeL, ha, hb, hc]
  have h3 : halfN 3 = 2 := by decide
  have g3 : growL [a, b, c] 2 true = [c] := by
    rw [grow_left _ _ _ (by simp) (by simp) (by show 2 ≤ halfN 3; omega)]
    show growL (List.take (halfN 3) [a, b, c]) 2 true ++ [rootL (List.drop (halfN 3) [a, b, c])] = _
    rw [h3]
    show growL [a, b] [a, b].length true ++ [rootL [c]] = _
    rw [grow_all, root_one]; rfl
  refine ⟨?_, ?_, ?_⟩
  · rw [growV, if_pos ⟨hw, by decide, by simp⟩]; exact g3
  · rw [growE, if_pos ⟨hw, by decide, by simp⟩]
  · have e1 := peaks_odd [a, b] c (by simp)
    have e2 := peaks_pair [] a b rfl
    rw [show ([a, b] ++ [c] : List ByteArray) = [a, b, c] from rfl] at e1
    rw [show ([] ++ [a] ++ [b] : List ByteArray) = [a, b] from rfl, show (aboveL [] ++ [nodeS a b] : List ByteArray) = [] ++ [nodeS a b] from rfl, peaks_odd [] _ rfl, peaks_nil] at e2
    rw [e1, e2]; rfl
end Ks
namespace Go.Proofs.Ytpdeicgjmjoglaa
open Go.RowKit Ks
set_option linter.unusedVariables false
theorem few_any (l : List ByteArray) (v : Value) (w : World) (hv : Rd strE w v l) : Calls Try.prog 9 #[v] w fun e w' => (e = .returned (.bool (decide (l.length ≤ 70 ∧ bytesN l ≤ 5000)))) ∧ w' = w := by
  refine calls_by fun R HR => ?_
  have HB := Lib.hid (bytes_any l v w hv)
  obtain ⟨a, cap, rfl, -⟩ := hv.shape
  by_cases h1 : l.length ≤ 70
  · have h1i : (l.length : Int) ≤ 70 := by omega
    obtain ⟨q, hq⟩ : ∃ q, bytesN l = q := ⟨_, rfl⟩
    rw [hq] at HB
    have hd : decide (l.length ≤ 70 ∧ bytesN l ≤ 5000) = decide ((q : Int) ≤ 5000) := by rw [hq, decide_eq_decide]; omega
    have HD := Lib.hid hd
    clear hd hq hv h1
    go_enter Try.func9, Try.ntmps9
    go_wp2_with fail
    refine HB.out.mono ?_
    rintro e w1 ⟨rfl, hw⟩
    subst hw
    go_wp2
    exact HR.out _ _ ⟨by rw [HD.out]; rfl, rfl⟩
  · have h1i : ¬ (l.length : Int) ≤ 70 := by omega
    have HD := Lib.hid (show decide (l.length ≤ 70 ∧ bytesN l ≤ 5000) = false from decide_eq_false fun h => h1 h.1)
    clear hv h1
    go_enter Try.func9, Try.ntmps9
    go_wp2
    exact HR.out _ _ ⟨by rw [HD.out], rfl⟩
theorem eg_alive : ∀ args w, (callFunc 10 args).run Try.prog w = .ok (.enter 10 args) w := fun _ _ => rfl
set_option maxRecDepth 100000 in
set_option maxHeartbeats 4000000 in
theorem alive_any (w : World) : Calls Try.prog 10 #[] w fun e w' => e = .returned (.bool true) ∧ Below w.heap.size w w' := by
  refine calls_by fun R HR => ?_
  obtain ⟨A, hA⟩ : ∃ A, leafS ⟨#[97]⟩ = A := ⟨_, rfl⟩
  obtain ⟨B, hB⟩ : ∃ B, leafS ⟨#[98]⟩ = B := ⟨_, rfl⟩
  obtain ⟨C, hC⟩ : ∃ C, leafS ⟨#[99]⟩ = C := ⟨_, rfl⟩
  have zA : A.size = 32 := by rw [← hA]; exact leafS_size _
  have zB : B.size = 32 := by rw [← hB]; exact leafS_size _
  have zC : C.size = 32 := by rw [← hC]; exact leafS_size _
  have HA := Lib.hid (fun w => leaf_any ⟨#[97]⟩ w (by decide))
  have HB := Lib.hid (fun w => leaf_any ⟨#[98]⟩ w (by decide))
  have HC := Lib.hid (fun w => leaf_any ⟨#[99]⟩ w (by decide))
  have HN := Lib.hid (fun w => node_any A B w (by omega) (by omega))
  simp only [hA] at HA
  simp only [hB] at HB
  simp only [hC] at HC
  have HRo := Lib.hid (alive36 A B C zA zB zC)
  have HZ := Lib.hid (And.intro zA (And.intro zB zC))
  clear hA hB hC zA zB zC
  go_enter Try.func10, Try.ntmps10
  go_wp2_with fail
  refine (HA.out _).mono ?_
  rintro e w1 ⟨rfl, hb1⟩
  have H1 := Lib.hid hb1
  clear hb1
  go_wp2_with fail
  refine (HB.out _).mono ?_
  rintro e w2 ⟨rfl, hb⟩
  have H2 := Lib.hid (H1.out.trans (hb.mono H1.out.size))
  clear hb
  go_wp2_with fail
  refine (HC.out _).mono ?_
  rintro e w3 ⟨rfl, hb⟩
  have H3 := Lib.hid (H2.out.trans (hb.mono H2.out.size))
  clear hb
  go_wp2_with fail
  refine (fnew_any _).mono ?_
  rintro e w4 ⟨rfl, hf, hb⟩
  obtain ⟨n, hn⟩ : ∃ n, w3.heap.size = n := ⟨_, rfl⟩
  have hge : w.heap.size ≤ n := by rw [← hn]; exact H3.out.size
  have hbb := H3.out.trans (hb.mono H3.out.size)
  rw [hn] at hf ⊢
  have H4 := Lib.hid (And.intro hf (And.intro hbb hge))
  clear hf hb hbb hge hn
  go_wp2_with fail
  refine (fadd_any n _ [] A _ H4.out.1 HZ.out.1 (by decide)).mono ?_
  rintro e w5 ⟨rfl, v5, hf, hs, -⟩
  have H5 := Lib.hid (And.intro hf (H4.out.2.1.trans (hs.below H4.out.2.2 H4.out.2.1.size)))
  clear hf hs
  go_wp2_with fail
  refine (fadd_any n _ [A] B _ H5.out.1 HZ.out.2.1 (by simp)).mono ?_
  rintro e w6 ⟨rfl, v6, hf, hs, -⟩
  have H6 := Lib.hid (And.intro hf (H5.out.2.trans (hs.below H4.out.2.2 H5.out.2.size)))
  clear hf hs
  go_wp2_with fail
  refine (fadd_any n _ [A, B] C _ H6.out.1 HZ.out.2.2 (by simp)).mono ?_
  rintro e w7 ⟨rfl, v7, hf, hs, -⟩
  have hb7 := H6.out.2.trans (hs.below H4.out.2.2 H6.out.2.size)
  obtain ⟨W, hW⟩ : ∃ W, w7.alloc (.cells #[.string A, .string B, .string C] 9) = W := ⟨_, rfl⟩
  have hbW : Below w7.heap.size w7 W := by rw [← hW]; exact alloc_below w7 _
  have kW : W.heap[w7.heap.size]? = some (.cells #[.string A, .string B, .string C] 9 (0, 0)) := by rw [← hW]; exact alloc_new w7 _
  have H7 := Lib.hid (And.intro (hf.keep hbW) (And.intro (hb7.trans (hbW.mono hb7.size)) (Rd.block (E := strE) (l := [A, B, C]) kW rfl)))
  clear hf hs hb7 hbW kW
  go_wp2_with fail
  refine (fgrow_any _ [A, B, C] 2 _ H7.out.2.2 (by simp)).mono ?_
  rintro e w8 ⟨pv, rfl, hrow, hb⟩
  rw [HRo.out.1] at hrow
  rw [HRo.out.2.1]
  obtain ⟨W2, hW2⟩ : ∃ W2, w8.alloc (.cells #[.string C] 9) = W2 := ⟨_, rfl⟩
  have hbW : Below w8.heap.size w8 W2 := by rw [← hW2]; exact alloc_below w8 _
  have kW : W2.heap[w8.heap.size]? = some (.cells #[.string C] 9 (0, 0)) := by rw [← hW2]; exact alloc_new w8 _
  have H8 := Lib.hid (And.intro ((H7.out.1.keep hb).keep hbW) (And.intro ((H7.out.2.1.trans (hb.mono H7.out.2.1.size)).trans (hbW.mono (Nat.le_trans H7.out.2.1.size hb.size))) (And.intro (hrow.rd.below hbW) (Rd.single (E := strE) C kW rfl))))
  obtain ⟨pa, pc, rfl, -⟩ := hrow.shape
  clear hrow hb hbW kW hW
  go_wp2_with fail
  refine (texts_any _ _ [C] [C] _ H8.out.2.2.1 H8.out.2.2.2 (by simp [maxLen]) (by simp [maxLen])).mono ?_
  rintro e w9 ⟨bb, rfl, hbb, hb⟩
  obtain rfl : bb = true := hbb.2 rfl
  have H9 := Lib.hid (And.intro (H8.out.1.keep hb) (H8.out.2.1.trans (hb.mono H8.out.2.1.size)))
  clear hbb hb hW2
  go_wp2_with fail
  refine (fpeaks_live n _ _ _ H9.out.1).mono ?_
  rintro e w10 ⟨qv, rfl, hrow, hb⟩
  have hrow2 : Row strE w10 w9.heap.size 9 qv [nodeS A B, C] := by rw [← HRo.out.2.2]; exact hrow
  have H10 := Lib.hid (And.intro hrow2 (H9.out.2.trans (hb.mono H9.out.2.size)))
  obtain ⟨qa, qc, rfl, -⟩ := hrow2.shape
  clear hrow hrow2 hb
  go_wp2_with fail
  refine (HN.out _).mono ?_
  rintro e w11 ⟨rfl, hb⟩
  obtain ⟨W3, hW3⟩ : ∃ W3, w11.alloc (.cells #[.string (nodeS A B), .string C] 9) = W3 := ⟨_, rfl⟩
  have hbW : Below w11.heap.size w11 W3 := by rw [← hW3]; exact alloc_below w11 _
  have kW : W3.heap[w11.heap.size]? = some (.cells #[.string (nodeS A B), .string C] 9 (0, 0)) := by rw [← hW3]; exact alloc_new w11 _
  have H11 := Lib.hid (And.intro ((H10.out.1.rd.below hb).below hbW) (And.intro ((H10.out.2.trans (hb.mono H10.out.2.size)).trans (hbW.mono (Nat.le_trans H10.out.2.size hb.size))) (Rd.block (E := strE) (l := [nodeS A B, C]) kW rfl)))
  clear hb hbW kW
  go_wp2_with fail
  refine (texts_any _ _ [nodeS A B, C] [nodeS A B, C] _ H11.out.1 H11.out.2.2 (by simp [maxLen]) (by simp [maxLen])).mono ?_
  rintro e w12 ⟨bb, rfl, hbb, hb⟩
  obtain rfl : bb = true := hbb.2 rfl
  have H12 := Lib.hid (H11.out.2.1.trans (hb.mono H11.out.2.1.size))
  clear hbb hb hW3
  go_wp2
  exact HR.out _ _ ⟨rfl, H12.out⟩
end Go.Proofs.Ytpdeicgjmjoglaa
/- Slices among a law's arguments, of whatever elements: what they read as. No program is in sight. -/
namespace Ks
open Go Go.RowKit Go.ChangeShapes Go.WideShapes Go.ChangeAt
set_option linter.unusedVariables false

section
variable {α : Type} {E : Enc α} {H : Type} {enc : TypeId × Value → H} {P : Program} {W : World}

theorem cells_at {w : World} {base : Nat} {a : Addr} {k : Nat} {cs : List Value} (h : w.cells? base a k = some cs) : cs.length = k ∧ ∀ j u, cs[j]? = some u → w.cell? (a.add j) = some u := by
  obtain ⟨_, h2, h3⟩ := World.cells?_some h
  refine ⟨h2, fun j u hj => ?_⟩
  have hlt : j < k := by have := (List.getElem?_eq_some_iff.1 hj).1; omega
  have := h3 j hlt
  rw [hj] at this
  exact this

theorem rd_opens {T e : TypeId} {fuel : Nat} {cs : List Value} {d : DataW H × List MemPlace} (hT : P.underlying T = some (.slice e)) (hc : P.cellsOf e = E.k) (G : α → Prop)
    (hE : ∀ n cs d, DataW.trod enc P W 0 (fun _ => true) true n e cs = some d → cs.length = E.k → ∃ x, cs = E.enc x ∧ G x)
    (h : DataW.trod enc P W 0 (fun _ => true) true fuel T cs = some d) : ∃ v l, cs = [v] ∧ v.oneCell' = true ∧ Rd E W v l ∧ l.length ≤ maxLen ∧ ∀ x ∈ l, G x := by
  rcases Go.Deep.open_slice hT h with ⟨rfl, _⟩ | ⟨a, len, cap, m, n, D, Pl, rfl, _, hl, hm, hmm, _, hxx⟩
  · exact ⟨_, [], rfl, rfl, Rd.nil W, by simp, fun x hx => by simp at hx⟩
  · simp only [if_true] at hmm
    have hall : ∀ i, i < len → ∃ x : α, G x ∧ ∀ j u, (E.enc x)[j]? = some u → W.cell? ((a.add (i * E.k)).add j) = some u := by
      intro i hi
      obtain ⟨cs', h1, h2⟩ := hxx i (by omega)
      rw [hc] at h1
      obtain ⟨h3, h4⟩ := cells_at h1
      obtain ⟨x, rfl, hG⟩ := hE _ _ _ h2 h3
      exact ⟨x, hG, h4⟩
    have key : ∀ k, k ≤ len → ∃ l : List α, l.length = k ∧ (∀ x ∈ l, G x) ∧ ∀ i x, l[i]? = some x → ∀ j u, (E.enc x)[j]? = some u → W.cell? ((a.add (i * E.k)).add j) = some u := by
      intro k
      induction k with
      | zero => exact fun _ => ⟨[], rfl, fun x hx => by simp at hx, fun i x hx => by simp at hx⟩
      | succ k ih =>
        intro hk
        obtain ⟨l, h1, h2, h3⟩ := ih (by omega)
        obtain ⟨x, hG, hc⟩ := hall k (by omega)
        refine ⟨l ++ [x], by simp [h1], fun y hy => ?_, fun i y hy => ?_⟩
        · rcases List.mem_append.1 hy with h | h
          · exact h2 y h
          · simp at h; subst h; exact hG
        · by_cases hi : i < l.length
          · rw [List.getElem?_append_left hi] at hy
            exact h3 i y hy
          · have hik : i = k := by have := (List.getElem?_eq_some_iff.1 hy).1; simp at this; omega
            subst hik
            rw [List.getElem?_append_right (by omega), h1, Nat.sub_self] at hy
            simp at hy
            subst hy
            exact hc
    obtain ⟨l, hlen, hG, hcell⟩ := key len (Nat.le_refl _)
    subst hlen
    refine ⟨_, l, rfl, rfl, ⟨some a, cap, rfl, hl, fun e => by simp at e, fun i x hx => ?_⟩, by omega, hG⟩
    have h0 : 0 < (E.enc x).length := by rw [E.len]; exact E.pos
    have hlt : 0 < l.length := by have := (List.getElem?_eq_some_iff.1 hx).1; omega
    have h00 : 0 < (E.enc l[0]).length := by rw [E.len]; exact E.pos
    have hc0 := hcell 0 l[0] (List.getElem?_eq_getElem hlt) 0 _ (List.getElem?_eq_getElem h00)
    obtain ⟨b, o, s⟩ := a
    have ha : ((⟨b, o, s⟩ : Addr).add (0 * E.k)).add 0 = ⟨b, o, s⟩ := by simp [Addr.add]
    rw [ha] at hc0
    have hs : s = none := spot_none hc0
    subst hs
    refine ⟨b, o, rfl, ?_, fun j u hu => ?_⟩
    · exact World.block_lt_of_cell? _ _ hc0
    · have := hcell i x hx j u hu
      rwa [add_place, add_place] at this

theorem rd_open {T e : TypeId} {base : Nat} {v : Value} {d : DataW H} {ps : List MemPlace} (hT : P.underlying T = some (.slice e)) (hc : P.cellsOf e = E.k) (G : α → Prop)
    (hE : ∀ n cs d, DataW.trod enc P W 0 (fun _ => true) true n e cs = some d → cs.length = E.k → ∃ x, cs = E.enc x ∧ G x)
    (hok : Value.okWide P W .any base T v) (h : DataW.Trod enc P W 0 (fun _ => true) true T v d ps) : ∃ l, Rd E W v l ∧ l.length ≤ maxLen ∧ ∀ x ∈ l, G x := by
  obtain ⟨a0, len, cap, rfl⟩ := okWide_slice hT hok
  obtain ⟨fuel, hf⟩ := h
  obtain ⟨v', l, e, _, h1, h2, h3⟩ := rd_opens (E := E) hT hc G hE hf
  simp only [Value.cells, List.cons.injEq, and_true] at e
  subst e
  exact ⟨l, h1, h2, h3⟩
end

theorem choose_list {α β : Type} {p : α → β → Prop} : ∀ (l : List α), (∀ x ∈ l, ∃ y, p x y) → ∃ l' : List β, l'.length = l.length ∧ ∀ (i : Nat) (x : α) (y : β), l[i]? = some x → l'[i]? = some y → p x y
  | [], _ => ⟨[], rfl, fun i x y hx => by simp at hx⟩
  | x :: l, h => by
    obtain ⟨y, hy⟩ := h x (by simp)
    obtain ⟨l', h1, h2⟩ := choose_list l fun z hz => h z (by simp [hz])
    refine ⟨y :: l', by simp [h1], fun i a b ha hb => ?_⟩
    match i, ha, hb with
    | 0, ha, hb => simp at ha hb; subst ha hb; exact hy
    | i + 1, ha, hb => exact h2 i a b (by simpa using ha) (by simpa using hb)

/-- a slice's head, as data -/
abbrev Hdr := Option Addr × Nat × Nat
abbrev hdrV (h : Hdr) : Value := .slice h.1 h.2.1 h.2.2
end Ks
/- Texts among a law's arguments. -/
namespace Go.Proofs.Ytpdeicgjmjoglaa
open Go Go.RowKit Go.ChangeShapes Go.WideShapes Go.ChangeAt Ks
set_option linter.unusedVariables false
theorem cellsStrS : Try.prog.cellsOf 9 = 1 := by kernel_rfl
theorem str_of {H : Type} {enc : TypeId × Value → H} {W : World} (n : Nat) (cs : List Value) (d : DataW H × List MemPlace) (h : DataW.trod enc Try.prog W 0 (fun _ => true) true n 9 cs = some d) (hl : cs.length = strE.k) :
    ∃ x : ByteArray, cs = strE.enc x ∧ x.size ≤ maxLen := by
  obtain ⟨t, h1, _, s1⟩ := DataW.trod_string Try.underlying9 h
  exact ⟨t, h1, s1⟩
set_option maxRecDepth 100000 in
theorem open_strs {H : Type} {enc : TypeId × Value → H} {W : World} {base : Nat} {v : Value} {d : DataW H} {ps : List MemPlace}
    (hok : Value.okWide Try.prog W .any base 22 v) (h : DataW.Trod enc Try.prog W 0 (fun _ => true) true 22 v d ps) : ∃ l, Rd strE W v l ∧ l.length ≤ maxLen ∧ ∀ x ∈ l, x.size ≤ maxLen :=
  rd_open (E := strE) Try.underlying22 cellsStrS _ str_of hok h
end Go.Proofs.Ytpdeicgjmjoglaa
/- The reference's trees of hashes: are all hashes, the half, the root, how long a path is, where a path leads. -/
namespace Go.Proofs.Ytpdeicgjmjoglaa
open Go.RowKit Ks
set_option linter.unusedVariables false
theorem rwhole_any (lv : Value) (l : List ByteArray) (w : World) (hl : Rd strE w lv l) (hlen : l.length ≤ 1000000000) :
    Calls Try.prog 24 #[lv] w fun e w' => e = .returned (.bool (wholeL l)) ∧ w' = w := by
  refine calls_by fun R HR => ?_
  obtain ⟨a, cap, rfl, hcap, -⟩ := hl.shape
  have HL := Lib.hid hl
  have hli : (l.length : Int) ≤ 1000000000 := by omega
  clear hl hlen
  go_enter Try.func24, Try.ntmps24
  go_wp2
  go_loop [3] (fun i => ∃ k : Nat, k ≤ l.length ∧ i = .int .i64 k ∧ Hid (∀ (i : Nat), i < k → ∀ (y : ByteArray), l[i]? = some y → y.size = 32)) (fun i => l.length - (intOf i).toNat)
  case atStart => exact ⟨0, by omega, rfl, Lib.hid (fun i hi => absurd hi (by omega))⟩
  case round =>
    obtain ⟨k, hk, rfl, hno⟩ := hrel
    by_cases hlt : k < l.length
    · have hki : (k : Int) < (l.length : Int) := by omega
      obtain ⟨b, o, rfl, hb, c1⟩ := HL.out.str k hlt
      have hx := Lib.hid (List.getElem?_eq_getElem hlt)
      generalize l[k] = x at c1 hx
      by_cases hz : x.size = 32
      · have hzb : ((x.size : Int) != 32) = false := by rw [hz]; rfl
        have HZ := Lib.hid hz
        clear hz
        go_wp2
        go_round
        case rel =>
          refine ⟨k + 1, by omega, by go_num, Lib.hid fun i hi y hy => ?_⟩
          by_cases e : i = k
          · subst e; rw [hx.out] at hy; cases hy; exact HZ.out
          · exact hno.out i (by omega) y hy
        case measure => simp [intOf]; omega
      · have hzb : ((x.size : Int) != 32) = true := by rw [bne_iff_ne]; omega
        have HW := Lib.hid (show wholeL l = false by
          rw [← Bool.not_eq_true]
          intro h
          exact hz (whole_get h k x hx.out))
        clear hz
        go_wp2
        exact HR.out _ _ ⟨by rw [HW.out], rfl⟩
    · obtain rfl : k = l.length := by omega
      have HW := Lib.hid (show wholeL l = true by
        simp only [wholeL, List.all_eq_true, beq_iff_eq]
        intro x hx
        obtain ⟨i, hi, rfl⟩ := List.getElem_of_mem hx
        exact hno.out i hi _ (List.getElem?_eq_getElem hi))
      go_wp2
      exact HR.out _ _ ⟨by rw [HW.out], rfl⟩
theorem rhalf_any (n : Nat) (w : World) (h2 : 2 ≤ n) (hn : n ≤ 1000000000) : Calls Try.prog 36 #[.int .i64 (n : Nat)] w fun e w' => e = .returned (.int .i64 (halfN n : Nat)) ∧ w' = w := by
  refine calls_by fun R HR => ?_
  have hni : (n : Int) ≤ 1000000000 := by omega
  have H2 := Lib.hid h2
  clear h2 hn
  go_enter Try.func36, Try.ntmps36
  go_wp2
  go_loop [3] (fun i => ∃ k : Nat, i = .int .i64 k ∧ Hid (∃ j, k = 2 ^ j) ∧ Hid (k < n)) (fun i => n - (intOf i).toNat)
  case atStart => exact ⟨1, rfl, Lib.hid ⟨0, rfl⟩, Lib.hid (by have := H2.out; omega)⟩
  case round =>
    obtain ⟨k, rfl, hj, hkn⟩ := hrel
    have hki : (k : Int) < n := by have := hkn.out; omega
    have hmul : (2 : Int) * (k : Int) = ((2 * k : Nat) : Int) := by omega
    by_cases hlt : 2 * k < n
    · have hlti : (2 : Int) * (k : Int) < (n : Int) := by omega
      have HL := Lib.hid hlt
      clear hlt hmul
      go_wp2
      go_round
      case rel => exact ⟨2 * k, by go_num, Lib.hid (by obtain ⟨j, e⟩ := hj.out; exact ⟨j + 1, by rw [Nat.pow_succ]; omega⟩), Lib.hid HL.out⟩
      case measure =>
        have h1 := HL.out
        have h3 : 0 < k := by obtain ⟨j, e⟩ := hj.out; rw [e]; exact Nat.two_pow_pos j
        simp [intOf]; omega
    · have hlti : ¬ (2 : Int) * (k : Int) < (n : Int) := by omega
      have HH := Lib.hid (show halfN n = k by
        obtain ⟨j, e⟩ := hj.out
        rw [e]
        exact half_of n j (by have := hkn.out; omega) (by rw [Nat.pow_succ]; omega))
      clear hlt hmul
      go_wp2
      exact HR.out _ _ ⟨by rw [HH.out], rfl⟩
theorem rnode_any (x y : ByteArray) (w : World) (hx : x.size ≤ 100000000) (hy : y.size ≤ 100000000) : Calls Try.prog 35 #[.string (ByteArray.mk #[1] ++ x ++ y)] w fun e w' => e = .returned (.string (nodeS x y)) ∧ Below w.heap.size w w' := by
  rw [inside_cat]
  exact rsumS_any (insideS x y) w (by rw [inside_size]; omega)
set_option maxHeartbeats 2000000 in
theorem rroot_any : ∀ (n : Nat) (l : List ByteArray) (lv : Value) (w : World), l.length = n → n ≤ 100000000 → Rd strE w lv l → wholeL l = true →
    Calls Try.prog 18 #[lv] w fun e w' => e = .returned (.string (rootL l)) ∧ Below w.heap.size w w' := by
  intro n
  induction n using Nat.strongRecOn with
  | ind n ih =>
  intro l lv w hn hb hr hw
  refine calls_by fun R HR => ?_
  obtain ⟨a, cap, rfl, hcap, -⟩ := hr.shape
  by_cases h0 : n = 0
  · have hl0 : l = [] := List.length_eq_zero_iff.1 (by omega)
    subst hl0
    clear hr ih
    have HZ := Lib.hid (show rootL [] = shaS [] from root_nil)
    go_enter Try.func18, Try.ntmps18
    go_wp2_with fail
    refine (rsumS_any ⟨#[]⟩ _ (by decide)).mono ?_
    rintro e w1 ⟨rfl, hb⟩
    have HB := Lib.hid hb
    clear hb
    go_wp2
    exact HR.out _ _ ⟨by rw [HZ.out]; rfl, HB.out⟩
  by_cases h1 : n = 1
  · obtain ⟨b, o, rfl, hb1, c1⟩ := hr.str 0 (by omega)
    rw [Nat.add_zero] at c1
    have HZ := Lib.hid (show rootL l = l[0] by match l, hn, h1 with | [x], _, _ => exact root_one x)
    have hl1 : ((l.length : Int) == 0) = false := by rw [beq_eq_false_iff_ne]; omega
    have hl2 : ((l.length : Int) == 1) = true := by rw [beq_iff_eq]; omega
    have hl3 : (0 : Int) < (l.length : Int) := by omega
    generalize l[0] = x at *
    clear hr ih hn h0 h1
    go_enter Try.func18, Try.ntmps18
    go_wp2
    exact HR.out _ _ ⟨by rw [HZ.out]; rfl, Below.refl _ _⟩
  · obtain ⟨b, o, rfl, hb1, -⟩ := hr.str 0 (by omega)
    have hl1 : ((l.length : Int) == 0) = false := by rw [beq_eq_false_iff_ne]; omega
    have hl2 : ((l.length : Int) == 1) = false := by rw [beq_eq_false_iff_ne]; omega
    have hh := half_lt l.length (by omega)
    have HH := Lib.hid (rhalf_any l.length w (by omega) (by omega))
    have hw' : ∀ s ∈ l, s.size = 32 := by simpa [wholeL] using hw
    have w1 : wholeL (l.take (halfN l.length)) = true := by simp only [wholeL, List.all_eq_true, beq_iff_eq]; exact fun s hs => hw' s (List.mem_of_mem_take hs)
    have w2 : wholeL (l.drop (halfN l.length)) = true := by simp only [wholeL, List.all_eq_true, beq_iff_eq]; exact fun s hs => hw' s (List.mem_of_mem_drop hs)
    have s1 := (path_whole _ (l.take (halfN l.length)) 0 rfl w1 (by rw [List.length_take]; omega)).2
    have s2 := (path_whole _ (l.drop (halfN l.length)) 0 rfl w2 (by rw [List.length_drop]; omega)).2
    have HZ := Lib.hid (show rootL l = nodeS (rootL (l.take (halfN l.length))) (rootL (l.drop (halfN l.length))) from root_two l (by omega))
    have hT := hr.take (k := halfN l.length) (by omega) cap (by omega)
    have hD := hr.drop (k := halfN l.length) (by omega) (some ⟨b, o + halfN l.length, none⟩) (fun _ => by simp [strE]) (by simp) (cap - halfN l.length) (by omega)
    have cT := Lib.hid (fun p => calls_after (p := p) (ih (l.take (halfN l.length)).length (by rw [List.length_take]; omega) _ _ (After w p) rfl (by rw [List.length_take]; omega) (hT.below (after_below w p)) w1))
    have cD := Lib.hid (fun p => calls_after (p := p) (ih (l.drop (halfN l.length)).length (by rw [List.length_drop]; omega) _ _ (After w p) rfl (by rw [List.length_drop]; omega) (hD.below (after_below w p)) w2))
    generalize rootL (l.take (halfN l.length)) = x at *
    generalize rootL (l.drop (halfN l.length)) = y at *
    have cS := Lib.hid (fun p => calls_after (p := p) (rnode_any x y (After w p) (by omega) (by omega)))
    have hcat1 : ¬ 9223372036854775807 < 1 + x.size := by omega
    have hcat2 : ¬ 9223372036854775807 < 1 + x.size + y.size := by omega
    have hli : (l.length : Int) ≤ 100000000 := by omega
    have hk1 : ((halfN l.length : Nat) : Int) < (l.length : Int) := by omega
    have hk0 : (0 : Int) < ((halfN l.length : Nat) : Int) := by omega
    have hk2 : ((halfN l.length : Nat) : Int) ≤ (cap : Int) := by omega
    have hk3 : ¬ cap = halfN l.length := by omega
    have hk4 : ((halfN l.length : Nat) : Int) ≤ (l.length : Int) := by omega
    have hk5 : (l.length : Int) ≤ (cap : Int) := by omega
    have hx0 : x.size ≤ 10000000000 := by omega
    have hy0 : y.size ≤ 10000000000 := by omega
    generalize halfN l.length = k at *
    clear hr ih hn h0 h1 hw hw' w1 w2 s1 s2 hT hD hh
    go_enter Try.func18, Try.ntmps18
    go_wp2_with fail
    refine HH.out.mono ?_
    rintro e w3 ⟨rfl, rfl⟩
    go_wp2_with fail
    refine wp_region_after (by kernel_rfl) (by kernel_rfl) ?_
    quiet_step (fail)
    quiet_step (fail)
    quiet_step (fail)
    quiet_step (exact cT.out _)
    quiet_step (fail)
    quiet_step (fail)
    quiet_step (fail)
    quiet_step (fail)
    quiet_step (exact cD.out _)
    quiet_step (fail)
    quiet_step (exact cS.out _)
    quiet_step (fail)
    refine wpQuiet_nil ?_
    rintro w2 ⟨q, rfl⟩
    have H2 := Lib.hid (after_below w3 q)
    generalize After w3 q = w2 at *
    clear cT cD cS
    go_wp2
    exact HR.out _ _ ⟨by rw [HZ.out] <;> rfl, H2.out⟩
end Go.Proofs.Ytpdeicgjmjoglaa
/- A region that draws its order, where two steps may come either way round: a call that makes a row of its own, and what is appended to it. Plain. No program is in sight. -/
namespace Ks
open Go Go.RowKit
set_option linter.unusedVariables false
section
variable {P : Program} {ops : Array Oper} {md : Region.Mode} {C : Told → World → Prop}
theorem mOp_alone {K : Told → Act → Prop} {F : Told} {a : Act} (i : Nat) {o : Oper} (ho : ops[i]? = some o) (hw : Region.wanted o (yielded ops a.tmps) = true) (V : Value → Prop)
    (hc : ∀ g w, agree md o F g → g i = none → C g w → ∀ D : Value → World → Prop, (∀ v w', V v → C (upd g i v) w' → D v w') → movesUpon P D ((execOp a.eval o).run P w))
    (hK : ∀ v, V v → K (upd F i v) (a.put o.dst v)) : mOp P md ops C i K F a :=
  Moves.mOp (V := V) ho (.inl ⟨hw, fun g w h0 h1 h2 => hc g w h0 h1 h2 _ fun v w' a b => ⟨a, b⟩⟩) hK
theorem mOp_call {K : Told → Act → Prop} {F : Told} {a : Act} (i : Nat) {o : Oper} (f : FuncId) {xs : Array Operand} {ts : Array TypeId} (ho : ops[i]? = some o) (hw : Region.wanted o (yielded ops a.tmps) = true)
    (hop : o.op = Op.call { callee := Callee.value (.func f), args := xs, argTypes := ts }) (eg : ∀ args w, (callFunc f args).run P w = .ok (.enter f args) w) {args : Array Value} (hargs : xs.toList.map a.eval = args.toList)
    (V : Value → Prop) (hc : ∀ g w, agree md o F g → g i = none → C g w → Calls P f args w fun e w' => ∃ v, e = .returned v ∧ V v ∧ C (upd g i v) w')
    (hK : ∀ v, V v → K (upd F i v) (a.put o.dst v)) : mOp P md ops C i K F a := by
  refine Moves.mOp (V := V) ho (.inl ⟨hw, fun g w h0 h1 h2 => ?_⟩) hK
  have hrun : (execOp a.eval o).run P w = .ok (.enter f args) w := by
    have h : xs.map a.eval = args := Array.toList_inj.1 (by simpa using hargs)
    simp [execOp, hop, resolve, Deferred.ofValue, Act.eval, invoke, eg, ← h]
  rw [hrun]
  exact hc g w h0 h1 h2
theorem mv_fork {Q : Told → Act → Prop} {fuel : Nat} {listed : Array Bool} {F : Told} {a : Act} (i j : Nat) (hr : Region.ready md ops listed = [i, j])
    (h1 : mOp P md ops C i (wpAnyM P md ops C Q fuel (listed.setIfInBounds i true)) F a) (h2 : mOp P md ops C j (wpAnyM P md ops C Q fuel (listed.setIfInBounds j true)) F a) : wpAnyM P md ops C Q (fuel + 1) listed F a := by
  refine ⟨by rw [hr]; simp, fun k hk => ?_⟩
  rw [hr] at hk
  rcases List.mem_cons.1 hk with rfl | hk
  · exact h1
  · obtain rfl : k = j := by simpa using hk
    exact h2
end
/-- a class of worlds behind one, where a call makes a row of its own (p), a step makes what is appended (s), and a step appends it (u) -/
def Joins {α : Type} (E : Enc α) (w0 : World) (T : TypeId) (L l : List α) (p s u : Option Value) (w : World) : Prop :=
  Below w0.heap.size w0 w ∧ (match u with
  | none => (∀ v, p = some v → Row E w w0.heap.size T v L) ∧ (∀ x, s = some x → Rd E w x l)
  | some u => (p ≠ none ∧ s ≠ none) ∧ Row E w w0.heap.size T u (L ++ l))
section
variable {α : Type} {E : Enc α} {w0 w w' : World} {T : TypeId} {L l : List α} {p s u : Option Value}
theorem Joins.start (hb : Below w0.heap.size w0 w) : Joins E w0 T L l none none none w := ⟨hb, ⟨(fun v h => by cases h), (fun v h => by cases h)⟩⟩
theorem Joins.on (h : Joins E w0 T L l p s u w) (hb : Below w.heap.size w w') : Joins E w0 T L l p s u w' := by
  refine ⟨h.1.trans (hb.mono h.1.size), ?_⟩
  have h2 := h.2
  cases u with
  | none => exact ⟨fun v e => (h2.1 v e).below hb, fun x e => (h2.2 x e).below hb⟩
  | some u => exact ⟨h2.1, h2.2.below hb⟩
theorem Joins.early1 (h : Joins E w0 T L l none s u w) : u = none := by
  cases u with
  | none => rfl
  | some u => exact absurd rfl h.2.1.1
theorem Joins.early2 (h : Joins E w0 T L l p none u w) : u = none := by
  cases u with
  | none => rfl
  | some u => exact absurd rfl h.2.1.2
theorem Joins.path {v : Value} (h : Joins E w0 T L l none s u w) (hr : Row E w' w.heap.size T v L) (hb : Below w.heap.size w w') : Joins E w0 T L l (some v) s u w' := by
  obtain rfl := h.early1
  exact ⟨h.1.trans (hb.mono h.1.size), ⟨(fun v' e => by cases e; exact hr.down h.1.size), (fun x e => (h.2.2 x e).below hb)⟩⟩
theorem Joins.made (h : Joins E w0 T L l p none u w) (cs : Array Value) (e : cs.toList = E.cs l) (fr : Nat × Nat := (0, 0)) (T' : TypeId) : Joins E w0 T L l p (some (.slice (some ⟨w.heap.size, 0, none⟩) l.length l.length)) u (w.alloc (.cells cs T' fr)) := by
  obtain rfl := h.early2
  have hb := alloc_below w (.cells cs T' fr)
  exact ⟨h.1.trans (hb.mono h.1.size), ⟨(fun v e => (h.2.1 v e).below hb), (fun x e2 => by cases e2; exact Rd.block (alloc_new w _) e)⟩⟩
theorem Joins.rows {v x : Value} (h : Joins E w0 T L l (some v) (some x) none w) : Row E w w0.heap.size T v L ∧ Rd E w x l ∧ w0.heap.size ≤ w.heap.size := ⟨h.2.1 v rfl, h.2.2 x rfl, h.1.size⟩
theorem Joins.grew {v x v' : Value} (h : Joins E w0 T L l (some v) (some x) none w) (hG : Grew E w w' w0.heap.size T v v' (L ++ l)) : Joins E w0 T L l (some v) (some x) (some v') w' :=
  ⟨hG.below h.1 h.1.size (fun b e => ((h.2.1 v rfl).lt e).1), ⟨(fun e => by cases e), (fun e => by cases e)⟩, hG.1⟩
end
end Ks
/- The reference's peaks, from above. -/
namespace Ks
open Go Go.RowKit
set_option linter.unusedVariables false
section
variable {α : Type} {E : Enc α} {w0 w w' : World} {T : TypeId} {L l : List α} {p s u : Option Value}
theorem Row.block {w : World} {B b : Nat} {l : List α} {T : TypeId} {cs : Array Value} (h : w.heap[b]? = some (.cells cs T (0, 0))) (e : cs.toList = E.cs l) (hB : B ≤ b) (hm : l.length ≤ maxLen) : Row E w B T (.slice (some ⟨b, 0, none⟩) l.length l.length) l := by
  have hs : cs.size = l.length * E.k := by rw [← Array.length_toList, e, E.cs_length]
  refine ⟨E.cs_length l, Or.inr ⟨b, l.length, cs, rfl, hB, h, Nat.le_refl _, hm, hs, ?_⟩⟩
  rw [e, List.take_of_length_le (by rw [E.cs_length]; exact Nat.le_refl _)]
theorem Joins.called {x : Value} (h : Joins E w0 T L l p none u w) (hr : Rd E w' x l) (hb : Below w.heap.size w w') : Joins E w0 T L l p (some x) u w' := by
  obtain rfl := h.early2
  exact ⟨h.1.trans (hb.mono h.1.size), ⟨(fun v e => (h.2.1 v e).below hb), (fun x' e => by cases e; exact hr)⟩⟩
theorem Joins.fresh (h : Joins E w0 T L l none s u w) (hm : L.length ≤ maxLen) (cs : Array Value) (e : cs.toList = E.cs L) : Joins E w0 T L l (some (.slice (some ⟨w.heap.size, 0, none⟩) L.length L.length)) s u (w.alloc (.cells cs T)) := by
  obtain rfl := h.early1
  have hb := alloc_below w (.cells cs T)
  exact ⟨h.1.trans (hb.mono h.1.size), ⟨(fun v e2 => by cases e2; exact Row.block (alloc_new w _) e h.1.size hm), (fun x e => (h.2.2 x e).below hb)⟩⟩
end
end Ks
namespace Go.Proofs.Ytpdeicgjmjoglaa
open Go.RowKit Ks
set_option linter.unusedVariables false
theorem eg_rroot : ∀ args w, (callFunc 18 args).run Try.prog w = .ok (.enter 18 args) w := fun _ _ => rfl
theorem eg_rpeaks : ∀ args w, (callFunc 20 args).run Try.prog w = .ok (.enter 20 args) w := fun _ _ => rfl
set_option maxRecDepth 100000 in
set_option maxHeartbeats 8000000 in
theorem rpeaks_any : ∀ (n : Nat) (l : List ByteArray) (lv : Value) (w : World), l.length = n → n ≤ 1000000 → Rd strE w lv l → wholeL l = true →
    Calls Try.prog 20 #[lv] w fun e w' => ∃ v, e = .returned v ∧ Row strE w' w.heap.size 9 v (peaksB l) ∧ Below w.heap.size w w' := by
  intro n
  induction n using Nat.strongRecOn with
  | ind n ih =>
  intro l lv w hn hb hr hw
  refine calls_by fun R HR => ?_
  obtain ⟨a, cap, rfl, hcap, -⟩ := hr.shape
  by_cases h0 : l = []
  · subst h0
    have HZ := Lib.hid peaks_nil
    clear ih hw hr hn hb
    go_enter Try.func20, Try.ntmps20
    go_wp2
    exact HR.out _ _ ⟨_, rfl, by rw [HZ.out]; exact Row.nil _ _ _, Below.refl _ _⟩
  · have hpos := List.length_pos_iff.2 h0
    obtain ⟨b, o, rfl, hb1, -⟩ := hr.str 0 (by omega)
    have hln : ((l.length : Int) == 0) = false := by simp [h0]
    have hli : (l.length : Int) ≤ 1000000 := by omega
    subst hn
    have HH := Lib.hid (And.intro hr (And.intro hw (And.intro hb (And.intro hpos (And.intro hcap hb1)))))
    have IH := Lib.hid ih
    clear ih hr hw hb hpos hcap hb1 h0
    go_enter Try.func20, Try.ntmps20
    go_wp2_with fail
    go_loop [3] (fun i => ∃ k : Nat, i = .int .i64 k ∧ Hid (∃ j, k = 2 ^ j) ∧ Hid (k ≤ l.length)) (fun i => l.length - (intOf i).toNat)
    case atStart => exact ⟨1, rfl, Lib.hid ⟨0, rfl⟩, Lib.hid (by have := HH.out.2.2.2.1; omega)⟩
    case round =>
      obtain ⟨k, rfl, hj, hkn⟩ := hrel
      have hmul : (2 : Int) * (k : Int) = ((2 * k : Nat) : Int) := by omega
      have hki : (k : Int) ≤ 1000000 := by have := hkn.out; omega
      by_cases hlt : 2 * k ≤ l.length
      · have hlti : (2 : Int) * (k : Int) ≤ (l.length : Int) := by omega
        have HL := Lib.hid hlt
        clear hlt hmul
        go_wp2
        go_round
        case rel => exact ⟨2 * k, by go_num, Lib.hid (by obtain ⟨j, e⟩ := hj.out; exact ⟨j + 1, by rw [Nat.pow_succ]; omega⟩), Lib.hid HL.out⟩
        case measure =>
          have h1 := HL.out
          have h3 : 0 < k := by obtain ⟨j, e⟩ := hj.out; rw [e]; exact Nat.two_pow_pos j
          simp [intOf]; omega
      · have hlti : ¬ (2 : Int) * (k : Int) ≤ (l.length : Int) := by omega
        obtain ⟨j, hkj⟩ := hj.out
        have h3 : 0 < k := by rw [hkj]; exact Nat.two_pow_pos j
        have hkl := hkn.out
        have HZ := Lib.hid (show peaksB l = [rootL (l.take k)] ++ peaksB (l.drop k) by
          subst hkj
          exact peaks_above j l hkl (by rw [Nat.pow_succ]; omega))
        have hT := HH.out.1.take (k := k) hkl cap (by have := HH.out.2.2.2.2.1; omega)
        have hk1 : (k : Int) ≤ (l.length : Int) := by omega
        have hk0 : (0 : Int) ≤ (k : Int) := by omega
        have hk2 : (k : Int) ≤ (cap : Int) := by have := HH.out.2.2.2.2.1; omega
        have hk5 : (l.length : Int) ≤ (cap : Int) := by have := HH.out.2.2.2.2.1; omega
        have hw' : ∀ s ∈ l, s.size = 32 := by simpa [wholeL] using HH.out.2.1
        have w1' : wholeL (l.take k) = true := by simp only [wholeL, List.all_eq_true, beq_iff_eq]; exact fun s hs => hw' s (List.mem_of_mem_take hs)
        have w2' : wholeL (l.drop k) = true := by simp only [wholeL, List.all_eq_true, beq_iff_eq]; exact fun s hs => hw' s (List.mem_of_mem_drop hs)
        have cR := Lib.hid (fun (w1 : World) (h : Below w.heap.size w w1) => rroot_any (l.take k).length (l.take k) _ w1 rfl (by have := HH.out.2.2.1; rw [List.length_take]; omega) (hT.below h) w1')
        have hAL : (peaksB (l.drop k)).length ≤ 1000000 := by have h1 := peaks_le (l.drop k); have h2 := HH.out.2.2.1; rw [List.length_drop] at h1; omega
        have HAL := Lib.hid hAL
        by_cases hkc : cap = k
        · have hD := HH.out.1.drop (k := k) hkl (some ⟨b, o, none⟩) (fun h => by have := HH.out.2.2.2.2.1; omega) (by simp) 0 (by have := HH.out.2.2.2.2.1; omega)
          rw [hkc] at cR
          have cP := Lib.hid (fun (w1 : World) (h : Below w.heap.size w w1) => IH.out (l.drop k).length (by rw [List.length_drop]; omega) (l.drop k) _ w1 rfl (by have := HH.out.2.2.1; rw [List.length_drop]; omega) (hD.below h) w2')
          generalize rootL (l.take k) = y at *
          generalize peaksB (l.drop k) = A at *
          clear hT hD w1' w2' hw' h3 hmul hlt hAL hkj
          go_wp2_with fail
          refine wp_region_mv (fun f => Joins strE w 9 [y] A (f 4) (f 8) (f 9)) (by kernel_rfl) (Joins.start (drew_below w)) ?_
          obtain ⟨S, F, hF, hFC⟩ := moved_class (fun f => Joins strE w 9 [y] A (f 4) (f 8) (f 9))
          show wpAnyM _ _ _ _ _ 11 (Array.replicate 11 false) _ _
          refine mv_read 0 hF (fun _ _ _ h => h) rfl (by kernel_rfl) (by kernel_rfl) (by kernel_rfl) (fun K hK => ?_)
          go_simp
          first | refine ⟨_, fun _ => rfl, hK _ _ ?_⟩ | refine hK _ _ ?_
          clear hK K
          refine mv_read 1 hF (fun _ _ _ h => h) rfl (by kernel_rfl) (by kernel_rfl) (by kernel_rfl) (fun K hK => ?_)
          go_simp
          first | refine ⟨_, fun _ => rfl, hK _ _ ?_⟩ | refine hK _ _ ?_
          clear hK K
          refine mv_read 2 hF (fun _ _ _ h => h) rfl (by kernel_rfl) (by kernel_rfl) (by kernel_rfl) (fun K hK => ?_)
          go_simp
          first | refine ⟨_, fun _ => rfl, hK _ _ ?_⟩ | refine hK _ _ ?_
          clear hK K
          refine mv_read 5 hF (fun _ _ _ h => h) rfl (by kernel_rfl) (by kernel_rfl) (by kernel_rfl) (fun K hK => ?_)
          go_simp
          first | refine ⟨_, fun _ => rfl, hK _ _ ?_⟩ | refine hK _ _ ?_
          clear hK K
          refine mv_read 6 hF (fun _ _ _ h => h) rfl (by kernel_rfl) (by kernel_rfl) (by kernel_rfl) (fun K hK => ?_)
          go_simp
          first | refine ⟨_, fun _ => rfl, hK _ _ ?_⟩ | refine hK _ _ ?_
          clear hK K
          refine mv_read 7 hF (fun _ _ _ h => h) rfl (by kernel_rfl) (by kernel_rfl) (by kernel_rfl) (fun K hK => ?_)
          go_simp
          first | refine ⟨_, fun _ => rfl, hK _ _ ?_⟩ | refine hK _ _ ?_
          clear hK K
          refine mv_call1 3 18 rfl (by kernel_rfl) (by kernel_rfl) (by kernel_rfl) rfl rfl eg_rroot (args := #[.slice (some ⟨b, o, none⟩) k k]) rfl (u := .string y) (fun g w1 _ _ h => (cR.out w1 h.1).mono fun e w' ⟨h1, h2⟩ => ⟨h1, h.on h2⟩) ?_
          refine mv_fork 4 8 (by kernel_rfl) (mOp_alone 4 rfl rfl (fun v => ∃ g, v = .slice (some ⟨g, 0, none⟩) 1 1) (fun g w1 ha h0 h D hD => by
              simp only [h0] at h
              have h8 := h.fresh (by simp [maxLen]) #[.string y] rfl
              clear h
              go_simp
              exact hD _ _ ⟨_, rfl⟩ h8) ?_) (mOp_call 8 20 rfl rfl rfl eg_rpeaks (args := #[.slice (some ⟨b, o, none⟩) (l.length - k) 0]) rfl (fun _ => True) (fun g w1 ha h0 h => by
              simp only [h0] at h
              exact (cP.out w1 h.1).mono fun e w' ⟨v', h1, h2, h3⟩ => ⟨v', h1, trivial, h.called h2.rd h3⟩) ?_)
          · rintro _ ⟨gs, rfl⟩
            refine mv_call 8 20 rfl (by kernel_rfl) rfl rfl eg_rpeaks (args := #[.slice (some ⟨b, o, none⟩) (l.length - k) 0]) rfl (fun _ => True) (fun g w1 ha h0 h => by
                simp only [h0] at h
                exact (cP.out w1 h.1).mono fun e w' ⟨v', h1, h2, h3⟩ => ⟨v', h1, trivial, h.called h2.rd h3⟩) ?_
            rintro pv -
            refine mv_append 9 rfl (by kernel_rfl) rfl (.tmp 18) (.tmp 22) 22 rfl strT w.heap.size _ _ [y] A rfl rfl (by have := HAL.out; simp; omega) (by decide) (fun g w1 ha h0 h => ?_) (fun _ => True) (fun g w1 v' w' ha h0 h hG => ?_) ?_
            · have e1 : g 4 = some (.slice (some ⟨gs, 0, none⟩) 1 1) := (agree_on 4 ha (by kernel_rfl)).trans rfl
              have e2 : g 8 = some pv := (agree_on 8 ha (by kernel_rfl)).trans rfl
              simp only [e1, e2, h0] at h
              exact h.rows
            · have e1 : g 4 = some (.slice (some ⟨gs, 0, none⟩) 1 1) := (agree_on 4 ha (by kernel_rfl)).trans rfl
              have e2 : g 8 = some pv := (agree_on 8 ha (by kernel_rfl)).trans rfl
              simp only [e1, e2, h0] at h
              refine ⟨trivial, ?_⟩
              show Joins _ _ _ _ _ (g 4) (g 8) _ _
              rw [e1, e2]
              exact h.grew hG
            rintro vz -
            refine mv_read 10 hF (fun _ _ _ h => h) rfl (by kernel_rfl) (by kernel_rfl) (by kernel_rfl) (fun K hK => ?_)
            go_simp
            first | refine ⟨_, fun _ => rfl, hK _ _ ?_⟩ | refine hK _ _ ?_
            clear hK K
            refine mv_end (by kernel_rfl) ?_
            intro w2 hw2
            have HG : Joins strE w 9 [y] A (some (.slice (some ⟨gs, 0, none⟩) 1 1)) (some pv) (some vz) w2 := hw2
            have HG := Lib.hid HG
            clear hw2 hF hFC
            go_wp2
            exact HR.out _ _ ⟨vz, rfl, by rw [HZ.out]; exact HG.out.2.2, HG.out.1⟩
          · rintro pv -
            refine mv_alone 4 rfl (by kernel_rfl) rfl (fun v => ∃ g, v = .slice (some ⟨g, 0, none⟩) 1 1) (fun g w1 ha h0 h D hD => by
                simp only [h0] at h
                have h8 := h.fresh (by simp [maxLen]) #[.string y] rfl
                clear h
                go_simp
                exact hD _ _ ⟨_, rfl⟩ h8) ?_
            rintro _ ⟨gs, rfl⟩
            refine mv_append 9 rfl (by kernel_rfl) rfl (.tmp 18) (.tmp 22) 22 rfl strT w.heap.size _ _ [y] A rfl rfl (by have := HAL.out; simp; omega) (by decide) (fun g w1 ha h0 h => ?_) (fun _ => True) (fun g w1 v' w' ha h0 h hG => ?_) ?_
            · have e1 : g 4 = some (.slice (some ⟨gs, 0, none⟩) 1 1) := (agree_on 4 ha (by kernel_rfl)).trans rfl
              have e2 : g 8 = some pv := (agree_on 8 ha (by kernel_rfl)).trans rfl
              simp only [e1, e2, h0] at h
              exact h.rows
            · have e1 : g 4 = some (.slice (some ⟨gs, 0, none⟩) 1 1) := (agree_on 4 ha (by kernel_rfl)).trans rfl
              have e2 : g 8 = some pv := (agree_on 8 ha (by kernel_rfl)).trans rfl
              simp only [e1, e2, h0] at h
              refine ⟨trivial, ?_⟩
              show Joins _ _ _ _ _ (g 4) (g 8) _ _
              rw [e1, e2]
              exact h.grew hG
            rintro vz -
            refine mv_read 10 hF (fun _ _ _ h => h) rfl (by kernel_rfl) (by kernel_rfl) (by kernel_rfl) (fun K hK => ?_)
            go_simp
            first | refine ⟨_, fun _ => rfl, hK _ _ ?_⟩ | refine hK _ _ ?_
            clear hK K
            refine mv_end (by kernel_rfl) ?_
            intro w2 hw2
            have HG : Joins strE w 9 [y] A (some (.slice (some ⟨gs, 0, none⟩) 1 1)) (some pv) (some vz) w2 := hw2
            have HG := Lib.hid HG
            clear hw2 hF hFC
            go_wp2
            exact HR.out _ _ ⟨vz, rfl, by rw [HZ.out]; exact HG.out.2.2, HG.out.1⟩
        · have hD := HH.out.1.drop (k := k) hkl (some ⟨b, o + k, none⟩) (fun h => by simp [strE]) (by simp) (cap - k) (by omega)
          have cP := Lib.hid (fun (w1 : World) (h : Below w.heap.size w w1) => IH.out (l.drop k).length (by rw [List.length_drop]; omega) (l.drop k) _ w1 rfl (by have := HH.out.2.2.1; rw [List.length_drop]; omega) (hD.below h) w2')
          generalize rootL (l.take k) = y at *
          generalize peaksB (l.drop k) = A at *
          clear hT hD w1' w2' hw' h3 hmul hlt hAL hkj
          go_wp2_with fail
          refine wp_region_mv (fun f => Joins strE w 9 [y] A (f 4) (f 8) (f 9)) (by kernel_rfl) (Joins.start (drew_below w)) ?_
          obtain ⟨S, F, hF, hFC⟩ := moved_class (fun f => Joins strE w 9 [y] A (f 4) (f 8) (f 9))
          show wpAnyM _ _ _ _ _ 11 (Array.replicate 11 false) _ _
          refine mv_read 0 hF (fun _ _ _ h => h) rfl (by kernel_rfl) (by kernel_rfl) (by kernel_rfl) (fun K hK => ?_)
          go_simp
          first | refine ⟨_, fun _ => rfl, hK _ _ ?_⟩ | refine hK _ _ ?_
          clear hK K
          refine mv_read 1 hF (fun _ _ _ h => h) rfl (by kernel_rfl) (by kernel_rfl) (by kernel_rfl) (fun K hK => ?_)
          go_simp
          first | refine ⟨_, fun _ => rfl, hK _ _ ?_⟩ | refine hK _ _ ?_
          clear hK K
          refine mv_read 2 hF (fun _ _ _ h => h) rfl (by kernel_rfl) (by kernel_rfl) (by kernel_rfl) (fun K hK => ?_)
          go_simp
          first | refine ⟨_, fun _ => rfl, hK _ _ ?_⟩ | refine hK _ _ ?_
          clear hK K
          refine mv_read 5 hF (fun _ _ _ h => h) rfl (by kernel_rfl) (by kernel_rfl) (by kernel_rfl) (fun K hK => ?_)
          go_simp
          first | refine ⟨_, fun _ => rfl, hK _ _ ?_⟩ | refine hK _ _ ?_
          clear hK K
          refine mv_read 6 hF (fun _ _ _ h => h) rfl (by kernel_rfl) (by kernel_rfl) (by kernel_rfl) (fun K hK => ?_)
          go_simp
          first | refine ⟨_, fun _ => rfl, hK _ _ ?_⟩ | refine hK _ _ ?_
          clear hK K
          refine mv_read 7 hF (fun _ _ _ h => h) rfl (by kernel_rfl) (by kernel_rfl) (by kernel_rfl) (fun K hK => ?_)
          go_simp
          first | refine ⟨_, fun _ => rfl, hK _ _ ?_⟩ | refine hK _ _ ?_
          clear hK K
          refine mv_call1 3 18 rfl (by kernel_rfl) (by kernel_rfl) (by kernel_rfl) rfl rfl eg_rroot (args := #[.slice (some ⟨b, o, none⟩) k cap]) rfl (u := .string y) (fun g w1 _ _ h => (cR.out w1 h.1).mono fun e w' ⟨h1, h2⟩ => ⟨h1, h.on h2⟩) ?_
          refine mv_fork 4 8 (by kernel_rfl) (mOp_alone 4 rfl rfl (fun v => ∃ g, v = .slice (some ⟨g, 0, none⟩) 1 1) (fun g w1 ha h0 h D hD => by
              simp only [h0] at h
              have h8 := h.fresh (by simp [maxLen]) #[.string y] rfl
              clear h
              go_simp
              exact hD _ _ ⟨_, rfl⟩ h8) ?_) (mOp_call 8 20 rfl rfl rfl eg_rpeaks (args := #[.slice (some ⟨b, o + k, none⟩) (l.length - k) (cap - k)]) rfl (fun _ => True) (fun g w1 ha h0 h => by
              simp only [h0] at h
              exact (cP.out w1 h.1).mono fun e w' ⟨v', h1, h2, h3⟩ => ⟨v', h1, trivial, h.called h2.rd h3⟩) ?_)
          · rintro _ ⟨gs, rfl⟩
            refine mv_call 8 20 rfl (by kernel_rfl) rfl rfl eg_rpeaks (args := #[.slice (some ⟨b, o + k, none⟩) (l.length - k) (cap - k)]) rfl (fun _ => True) (fun g w1 ha h0 h => by
                simp only [h0] at h
                exact (cP.out w1 h.1).mono fun e w' ⟨v', h1, h2, h3⟩ => ⟨v', h1, trivial, h.called h2.rd h3⟩) ?_
            rintro pv -
            refine mv_append 9 rfl (by kernel_rfl) rfl (.tmp 18) (.tmp 22) 22 rfl strT w.heap.size _ _ [y] A rfl rfl (by have := HAL.out; simp; omega) (by decide) (fun g w1 ha h0 h => ?_) (fun _ => True) (fun g w1 v' w' ha h0 h hG => ?_) ?_
            · have e1 : g 4 = some (.slice (some ⟨gs, 0, none⟩) 1 1) := (agree_on 4 ha (by kernel_rfl)).trans rfl
              have e2 : g 8 = some pv := (agree_on 8 ha (by kernel_rfl)).trans rfl
              simp only [e1, e2, h0] at h
              exact h.rows
            · have e1 : g 4 = some (.slice (some ⟨gs, 0, none⟩) 1 1) := (agree_on 4 ha (by kernel_rfl)).trans rfl
              have e2 : g 8 = some pv := (agree_on 8 ha (by kernel_rfl)).trans rfl
              simp only [e1, e2, h0] at h
              refine ⟨trivial, ?_⟩
              show Joins _ _ _ _ _ (g 4) (g 8) _ _
              rw [e1, e2]
              exact h.grew hG
            rintro vz -
            refine mv_read 10 hF (fun _ _ _ h => h) rfl (by kernel_rfl) (by kernel_rfl) (by kernel_rfl) (fun K hK => ?_)
            go_simp
            first | refine ⟨_, fun _ => rfl, hK _ _ ?_⟩ | refine hK _ _ ?_
            clear hK K
            refine mv_end (by kernel_rfl) ?_
            intro w2 hw2
            have HG : Joins strE w 9 [y] A (some (.slice (some ⟨gs, 0, none⟩) 1 1)) (some pv) (some vz) w2 := hw2
            have HG := Lib.hid HG
            clear hw2 hF hFC
            go_wp2
            exact HR.out _ _ ⟨vz, rfl, by rw [HZ.out]; exact HG.out.2.2, HG.out.1⟩
          · rintro pv -
            refine mv_alone 4 rfl (by kernel_rfl) rfl (fun v => ∃ g, v = .slice (some ⟨g, 0, none⟩) 1 1) (fun g w1 ha h0 h D hD => by
                simp only [h0] at h
                have h8 := h.fresh (by simp [maxLen]) #[.string y] rfl
                clear h
                go_simp
                exact hD _ _ ⟨_, rfl⟩ h8) ?_
            rintro _ ⟨gs, rfl⟩
            refine mv_append 9 rfl (by kernel_rfl) rfl (.tmp 18) (.tmp 22) 22 rfl strT w.heap.size _ _ [y] A rfl rfl (by have := HAL.out; simp; omega) (by decide) (fun g w1 ha h0 h => ?_) (fun _ => True) (fun g w1 v' w' ha h0 h hG => ?_) ?_
            · have e1 : g 4 = some (.slice (some ⟨gs, 0, none⟩) 1 1) := (agree_on 4 ha (by kernel_rfl)).trans rfl
              have e2 : g 8 = some pv := (agree_on 8 ha (by kernel_rfl)).trans rfl
              simp only [e1, e2, h0] at h
              exact h.rows
            · have e1 : g 4 = some (.slice (some ⟨gs, 0, none⟩) 1 1) := (agree_on 4 ha (by kernel_rfl)).trans rfl
              have e2 : g 8 = some pv := (agree_on 8 ha (by kernel_rfl)).trans rfl
              simp only [e1, e2, h0] at h
              refine ⟨trivial, ?_⟩
              show Joins _ _ _ _ _ (g 4) (g 8) _ _
              rw [e1, e2]
              exact h.grew hG
            rintro vz -
            refine mv_read 10 hF (fun _ _ _ h => h) rfl (by kernel_rfl) (by kernel_rfl) (by kernel_rfl) (fun K hK => ?_)
            go_simp
            first | refine ⟨_, fun _ => rfl, hK _ _ ?_⟩ | refine hK _ _ ?_
            clear hK K
            refine mv_end (by kernel_rfl) ?_
            intro w2 hw2
            have HG : Joins strE w 9 [y] A (some (.slice (some ⟨gs, 0, none⟩) 1 1)) (some pv) (some vz) w2 := hw2
            have HG := Lib.hid HG
            clear hw2 hF hFC
            go_wp2
            exact HR.out _ _ ⟨vz, rfl, by rw [HZ.out]; exact HG.out.2.2, HG.out.1⟩
end Go.Proofs.Ytpdeicgjmjoglaa
/- How the first leaves grow to all: of the reference. -/
namespace Go.Proofs.Ytpdeicgjmjoglaa
open Go.RowKit Ks
set_option linter.unusedVariables false
theorem eg_rgrow : ∀ args w, (callFunc 25 args).run Try.prog w = .ok (.enter 25 args) w := fun _ _ => rfl
set_option maxRecDepth 100000 in
set_option maxHeartbeats 4000000 in
theorem rgrow_any : ∀ (n : Nat) (l : List ByteArray) (m : Nat) (first : Bool) (lv : Value) (w : World), l.length = n → n ≤ 1000000 → 1 ≤ m → m ≤ n → Rd strE w lv l → wholeL l = true →
    Calls Try.prog 25 #[lv, .int .i64 (m : Nat), .bool first] w fun e w' => ∃ v, e = .returned v ∧ Row strE w' w.heap.size 9 v (growL l m first) ∧ Below w.heap.size w w' := by
  intro n
  induction n using Nat.strongRecOn with
  | ind n ih =>
  intro l m first lv w hn hb h1 hmn hr hw
  refine calls_by fun R HR => ?_
  obtain ⟨a, cap, rfl, hcap, -⟩ := hr.shape
  by_cases e : m = n
  · subst e
    subst hn
    cases first with
    | true =>
      have HZ := Lib.hid (show growL l l.length true = [] by rw [grow_all]; rfl)
      clear ih hb h1 hmn hr hw hcap
      go_enter Try.func25, Try.ntmps25
      go_wp2
      exact HR.out _ _ ⟨_, rfl, by rw [HZ.out]; exact Row.nil _ _ _, Below.refl _ _⟩
    | false =>
      have HZ := Lib.hid (show growL l l.length false = [rootL l] by rw [grow_all]; rfl)
      have cR := Lib.hid (rroot_any l.length l _ w rfl (by omega) hr hw)
      clear ih hb h1 hmn hr hw hcap
      generalize rootL l = y at *
      go_enter Try.func25, Try.ntmps25
      go_wp2_with fail
      refine cR.out.mono ?_
      rintro e w1 ⟨rfl, hb1⟩
      have H1 := Lib.hid hb1
      clear hb1
      go_wp2
      exact HR.out _ _ ⟨_, rfl, by rw [HZ.out]; exact Row.block (l := [y]) (alloc_new w1 _) rfl H1.out.size (by simp [maxLen]), H1.out.trans ((alloc_below w1 _).mono H1.out.size)⟩
  · have h2 : 2 ≤ n := by omega
    obtain ⟨b, o, rfl, hb1, -⟩ := hr.str 0 (by omega)
    have hh := half_lt l.length (by omega)
    have HH := Lib.hid (rhalf_any l.length w (by omega) (by omega))
    have hw' : ∀ s ∈ l, s.size = 32 := by simpa [wholeL] using hw
    have w1' : wholeL (l.take (halfN l.length)) = true := by simp only [wholeL, List.all_eq_true, beq_iff_eq]; exact fun s hs => hw' s (List.mem_of_mem_take hs)
    have w2' : wholeL (l.drop (halfN l.length)) = true := by simp only [wholeL, List.all_eq_true, beq_iff_eq]; exact fun s hs => hw' s (List.mem_of_mem_drop hs)
    have hT := hr.take (k := halfN l.length) (by omega) cap (by omega)
    have hD := hr.drop (k := halfN l.length) (by omega) (some ⟨b, o + halfN l.length, none⟩) (fun _ => by simp [strE]) (by simp) (cap - halfN l.length) (by omega)
    have hk1 : ((halfN l.length : Nat) : Int) < (l.length : Int) := by omega
    have hk0 : (0 : Int) < ((halfN l.length : Nat) : Int) := by omega
    have hk2 : ((halfN l.length : Nat) : Int) ≤ (cap : Int) := by omega
    have hk3 : ¬ cap = halfN l.length := by omega
    have hk4 : ((halfN l.length : Nat) : Int) ≤ (l.length : Int) := by omega
    have hk5 : (l.length : Int) ≤ (cap : Int) := by omega
    have hli : (l.length : Int) ≤ 100000000 := by omega
    have hme : ((m : Int) == (l.length : Int)) = false := by simp; omega
    by_cases hk : m ≤ halfN l.length
    · have HZ := Lib.hid (show growL l m first = growL (l.take (halfN l.length)) m first ++ [rootL (l.drop (halfN l.length))] by rw [grow_left l m first (by omega) (by omega) hk])
      have cR := Lib.hid (fun (w1 : World) (h : Below w.heap.size w w1) => rroot_any (l.drop (halfN l.length)).length (l.drop (halfN l.length)) _ w1 rfl (by rw [List.length_drop]; omega) (hD.below h) w2')
      have cP := Lib.hid (fun (w1 : World) (h : Below w.heap.size w w1) => ih (l.take (halfN l.length)).length (by rw [List.length_take]; omega) (l.take (halfN l.length)) m first _ w1 rfl (by rw [List.length_take]; omega) h1 (by rw [List.length_take]; omega) (hT.below h) w1')
      have hAL := Lib.hid (show (growL (l.take (halfN l.length)) m first).length ≤ 1000001 by have := grow_le _ (l.take (halfN l.length)) m first rfl; rw [List.length_take] at this; omega)
      have hki : (m : Int) ≤ ((halfN l.length : Nat) : Int) := by omega
      generalize rootL (l.drop (halfN l.length)) = y at *
      generalize growL (l.take (halfN l.length)) m first = A at *
      generalize halfN l.length = k at *
      clear hr ih hn h2 hw hw' w1' w2' hT hD hh hk hb h1 hmn e
      go_enter Try.func25, Try.ntmps25
      go_wp2_with fail
      refine HH.out.mono ?_
      rintro e w3 ⟨rfl, hw3⟩
      rw [hw3]
      clear hw3
      go_wp2_with fail
      refine wp_region_mv (fun f => Joins strE w 9 A [y] (f 5) (f 10) (f 11)) (by kernel_rfl) (Joins.start (drew_below w)) ?_
      obtain ⟨S, F, hF, hFC⟩ := moved_class (fun f => Joins strE w 9 A [y] (f 5) (f 10) (f 11))
      show wpAnyM _ _ _ _ _ 13 (Array.replicate 13 false) _ _
      refine mv_read 0 hF (fun _ _ _ h => h) rfl (by kernel_rfl) (by kernel_rfl) (by kernel_rfl) (fun K hK => ?_)
      go_simp
      first | refine ⟨_, fun _ => rfl, hK _ _ ?_⟩ | refine hK _ _ ?_
      clear hK K
      refine mv_read 1 hF (fun _ _ _ h => h) rfl (by kernel_rfl) (by kernel_rfl) (by kernel_rfl) (fun K hK => ?_)
      go_simp
      first | refine ⟨_, fun _ => rfl, hK _ _ ?_⟩ | refine hK _ _ ?_
      clear hK K
      refine mv_read 2 hF (fun _ _ _ h => h) rfl (by kernel_rfl) (by kernel_rfl) (by kernel_rfl) (fun K hK => ?_)
      go_simp
      first | refine ⟨_, fun _ => rfl, hK _ _ ?_⟩ | refine hK _ _ ?_
      clear hK K
      refine mv_read 3 hF (fun _ _ _ h => h) rfl (by kernel_rfl) (by kernel_rfl) (by kernel_rfl) (fun K hK => ?_)
      go_simp
      first | refine ⟨_, fun _ => rfl, hK _ _ ?_⟩ | refine hK _ _ ?_
      clear hK K
      refine mv_read 4 hF (fun _ _ _ h => h) rfl (by kernel_rfl) (by kernel_rfl) (by kernel_rfl) (fun K hK => ?_)
      go_simp
      first | refine ⟨_, fun _ => rfl, hK _ _ ?_⟩ | refine hK _ _ ?_
      clear hK K
      refine mv_read 6 hF (fun _ _ _ h => h) rfl (by kernel_rfl) (by kernel_rfl) (by kernel_rfl) (fun K hK => ?_)
      go_simp
      first | refine ⟨_, fun _ => rfl, hK _ _ ?_⟩ | refine hK _ _ ?_
      clear hK K
      refine mv_read 7 hF (fun _ _ _ h => h) rfl (by kernel_rfl) (by kernel_rfl) (by kernel_rfl) (fun K hK => ?_)
      go_simp
      first | refine ⟨_, fun _ => rfl, hK _ _ ?_⟩ | refine hK _ _ ?_
      clear hK K
      refine mv_read 8 hF (fun _ _ _ h => h) rfl (by kernel_rfl) (by kernel_rfl) (by kernel_rfl) (fun K hK => ?_)
      go_simp
      first | refine ⟨_, fun _ => rfl, hK _ _ ?_⟩ | refine hK _ _ ?_
      clear hK K
      refine mv_call 5 25 rfl (by kernel_rfl) rfl rfl eg_rgrow (args := #[.slice (some ⟨b, o, none⟩) k cap, .int .i64 (m : Nat), .bool first]) rfl (fun _ => True) (fun g w1 ha h0 h => by
          simp only [h0] at h
          exact (cP.out w1 h.1).mono fun e w' ⟨v', h1, h2, h3⟩ => ⟨v', h1, trivial, h.path h2 h3⟩) ?_
      rintro pv -
      refine mv_call1 9 18 rfl (by kernel_rfl) (by kernel_rfl) (by kernel_rfl) rfl rfl eg_rroot (args := #[.slice (some ⟨b, o + k, none⟩) (l.length - k) (cap - k)]) rfl (u := .string y) (fun g w1 _ _ h => (cR.out w1 h.1).mono fun e w' ⟨h1, h2⟩ => ⟨h1, h.on h2⟩) ?_
      refine mv_alone 10 rfl (by kernel_rfl) rfl (fun v => ∃ g, v = .slice (some ⟨g, 0, none⟩) 1 1) (fun g w1 ha h0 h D hD => by
          simp only [h0] at h
          have h8 := h.made #[.string y] rfl (T' := 9)
          clear h
          go_simp
          exact hD _ _ ⟨_, rfl⟩ h8) ?_
      rintro _ ⟨gs, rfl⟩
      refine mv_append 11 rfl (by kernel_rfl) rfl (.tmp 33) (.tmp 38) 22 rfl strT w.heap.size _ _ A [y] rfl rfl (by have := hAL.out; simp; omega) (by decide) (fun g w1 ha h0 h => ?_) (fun _ => True) (fun g w1 v' w' ha h0 h hG => ?_) ?_
      · have e1 : g 10 = some (.slice (some ⟨gs, 0, none⟩) 1 1) := (agree_on 10 ha (by kernel_rfl)).trans rfl
        have e2 : g 5 = some pv := (agree_on 5 ha (by kernel_rfl)).trans rfl
        simp only [e1, e2, h0] at h
        exact h.rows
      · have e1 : g 10 = some (.slice (some ⟨gs, 0, none⟩) 1 1) := (agree_on 10 ha (by kernel_rfl)).trans rfl
        have e2 : g 5 = some pv := (agree_on 5 ha (by kernel_rfl)).trans rfl
        simp only [e1, e2, h0] at h
        refine ⟨trivial, ?_⟩
        show Joins _ _ _ _ _ (g 5) (g 10) _ _
        rw [e1, e2]
        exact h.grew hG
      rintro vz -
      refine mv_read 12 hF (fun _ _ _ h => h) rfl (by kernel_rfl) (by kernel_rfl) (by kernel_rfl) (fun K hK => ?_)
      go_simp
      first | refine ⟨_, fun _ => rfl, hK _ _ ?_⟩ | refine hK _ _ ?_
      clear hK K
      refine mv_end (by kernel_rfl) ?_
      intro w2 hw2
      have HG : Joins strE w 9 A [y] (some pv) (some (.slice (some ⟨gs, 0, none⟩) 1 1)) (some vz) w2 := hw2
      have HG := Lib.hid HG
      clear hw2 hF hFC
      go_wp2
      exact HR.out _ _ ⟨vz, rfl, by rw [HZ.out]; exact HG.out.2.2, HG.out.1⟩
    · have HZ := Lib.hid (show growL l m first = growL (l.drop (halfN l.length)) (m - halfN l.length) false ++ [rootL (l.take (halfN l.length))] by rw [grow_right l m first (by omega) (by omega) hk])
      have cR := Lib.hid (fun (w1 : World) (h : Below w.heap.size w w1) => rroot_any (l.take (halfN l.length)).length (l.take (halfN l.length)) _ w1 rfl (by rw [List.length_take]; omega) (hT.below h) w1')
      have cP := Lib.hid (fun (w1 : World) (h : Below w.heap.size w w1) => ih (l.drop (halfN l.length)).length (by rw [List.length_drop]; omega) (l.drop (halfN l.length)) (m - halfN l.length) false _ w1 rfl (by rw [List.length_drop]; omega) (by omega) (by rw [List.length_drop]; omega) (hD.below h) w2')
      have hAL := Lib.hid (show (growL (l.drop (halfN l.length)) (m - halfN l.length) false).length ≤ 1000001 by have := grow_le _ (l.drop (halfN l.length)) (m - halfN l.length) false rfl; rw [List.length_drop] at this; omega)
      have hki : ¬ (m : Int) ≤ ((halfN l.length : Nat) : Int) := by omega
      have e2 : (m : Int) - ((halfN l.length : Nat) : Int) = ((m - halfN l.length : Nat) : Int) := by omega
      have hii : m - halfN l.length ≤ 100000000 := by omega
      generalize rootL (l.take (halfN l.length)) = y at *
      generalize growL (l.drop (halfN l.length)) (m - halfN l.length) false = A at *
      generalize m - halfN l.length = i2 at *
      generalize halfN l.length = k at *
      have wi2 : IntKind.i64.wrap ((i2 : Nat) : Int) = ((i2 : Nat) : Int) := by rw [IntKind.wrap_i64]; omega
      clear hr ih hn h2 hw hw' w1' w2' hT hD hh hk hii hb h1 hmn e
      go_enter Try.func25, Try.ntmps25
      go_wp2_with fail
      refine HH.out.mono ?_
      rintro e w3 ⟨rfl, hw3⟩
      rw [hw3]
      clear hw3
      go_wp2_with fail
      refine wp_region_mv (fun f => Joins strE w 9 A [y] (f 6) (f 11) (f 12)) (by kernel_rfl) (Joins.start (drew_below w)) ?_
      obtain ⟨S, F, hF, hFC⟩ := moved_class (fun f => Joins strE w 9 A [y] (f 6) (f 11) (f 12))
      show wpAnyM _ _ _ _ _ 14 (Array.replicate 14 false) _ _
      refine mv_read 0 hF (fun _ _ _ h => h) rfl (by kernel_rfl) (by kernel_rfl) (by kernel_rfl) (fun K hK => ?_)
      go_simp
      first | refine ⟨_, fun _ => rfl, hK _ _ ?_⟩ | refine hK _ _ ?_
      clear hK K
      refine mv_read 1 hF (fun _ _ _ h => h) rfl (by kernel_rfl) (by kernel_rfl) (by kernel_rfl) (fun K hK => ?_)
      go_simp
      first | refine ⟨_, fun _ => rfl, hK _ _ ?_⟩ | refine hK _ _ ?_
      clear hK K
      refine mv_read 2 hF (fun _ _ _ h => h) rfl (by kernel_rfl) (by kernel_rfl) (by kernel_rfl) (fun K hK => ?_)
      go_simp
      first | refine ⟨_, fun _ => rfl, hK _ _ ?_⟩ | refine hK _ _ ?_
      clear hK K
      refine mv_read 3 hF (fun _ _ _ h => h) rfl (by kernel_rfl) (by kernel_rfl) (by kernel_rfl) (fun K hK => ?_)
      go_simp
      first | refine ⟨_, fun _ => rfl, hK _ _ ?_⟩ | refine hK _ _ ?_
      clear hK K
      refine mv_read 4 hF (fun _ _ _ h => h) rfl (by kernel_rfl) (by kernel_rfl) (by kernel_rfl) (fun K hK => ?_)
      go_simp
      first | refine ⟨_, fun _ => rfl, hK _ _ ?_⟩ | refine hK _ _ ?_
      clear hK K
      refine mv_read 5 hF (fun _ _ _ h => h) rfl (by kernel_rfl) (by kernel_rfl) (by kernel_rfl) (fun K hK => ?_)
      go_simp
      first | refine ⟨_, fun _ => rfl, hK _ _ ?_⟩ | refine hK _ _ ?_
      clear hK K
      refine mv_read 7 hF (fun _ _ _ h => h) rfl (by kernel_rfl) (by kernel_rfl) (by kernel_rfl) (fun K hK => ?_)
      go_simp
      first | refine ⟨_, fun _ => rfl, hK _ _ ?_⟩ | refine hK _ _ ?_
      clear hK K
      refine mv_read 8 hF (fun _ _ _ h => h) rfl (by kernel_rfl) (by kernel_rfl) (by kernel_rfl) (fun K hK => ?_)
      go_simp
      first | refine ⟨_, fun _ => rfl, hK _ _ ?_⟩ | refine hK _ _ ?_
      clear hK K
      refine mv_read 9 hF (fun _ _ _ h => h) rfl (by kernel_rfl) (by kernel_rfl) (by kernel_rfl) (fun K hK => ?_)
      go_simp
      first | refine ⟨_, fun _ => rfl, hK _ _ ?_⟩ | refine hK _ _ ?_
      clear hK K
      refine mv_call 6 25 rfl (by kernel_rfl) rfl rfl eg_rgrow (args := #[.slice (some ⟨b, o + k, none⟩) (l.length - k) (cap - k), .int .i64 (i2 : Nat), .bool false]) rfl (fun _ => True) (fun g w1 ha h0 h => by
          simp only [h0] at h
          exact (cP.out w1 h.1).mono fun e w' ⟨v', h1, h2, h3⟩ => ⟨v', h1, trivial, h.path h2 h3⟩) ?_
      rintro pv -
      refine mv_call1 10 18 rfl (by kernel_rfl) (by kernel_rfl) (by kernel_rfl) rfl rfl eg_rroot (args := #[.slice (some ⟨b, o, none⟩) k cap]) rfl (u := .string y) (fun g w1 _ _ h => (cR.out w1 h.1).mono fun e w' ⟨h1, h2⟩ => ⟨h1, h.on h2⟩) ?_
      refine mv_alone 11 rfl (by kernel_rfl) rfl (fun v => ∃ g, v = .slice (some ⟨g, 0, none⟩) 1 1) (fun g w1 ha h0 h D hD => by
          simp only [h0] at h
          have h8 := h.made #[.string y] rfl (T' := 9)
          clear h
          go_simp
          exact hD _ _ ⟨_, rfl⟩ h8) ?_
      rintro _ ⟨gs, rfl⟩
      refine mv_append 12 rfl (by kernel_rfl) rfl (.tmp 46) (.tmp 51) 22 rfl strT w.heap.size _ _ A [y] rfl rfl (by have := hAL.out; simp; omega) (by decide) (fun g w1 ha h0 h => ?_) (fun _ => True) (fun g w1 v' w' ha h0 h hG => ?_) ?_
      · have e1 : g 11 = some (.slice (some ⟨gs, 0, none⟩) 1 1) := (agree_on 11 ha (by kernel_rfl)).trans rfl
        have e2 : g 6 = some pv := (agree_on 6 ha (by kernel_rfl)).trans rfl
        simp only [e1, e2, h0] at h
        exact h.rows
      · have e1 : g 11 = some (.slice (some ⟨gs, 0, none⟩) 1 1) := (agree_on 11 ha (by kernel_rfl)).trans rfl
        have e2 : g 6 = some pv := (agree_on 6 ha (by kernel_rfl)).trans rfl
        simp only [e1, e2, h0] at h
        refine ⟨trivial, ?_⟩
        show Joins _ _ _ _ _ (g 6) (g 11) _ _
        rw [e1, e2]
        exact h.grew hG
      rintro vz -
      refine mv_read 13 hF (fun _ _ _ h => h) rfl (by kernel_rfl) (by kernel_rfl) (by kernel_rfl) (fun K hK => ?_)
      go_simp
      first | refine ⟨_, fun _ => rfl, hK _ _ ?_⟩ | refine hK _ _ ?_
      clear hK K
      refine mv_end (by kernel_rfl) ?_
      intro w2 hw2
      have HG : Joins strE w 9 A [y] (some pv) (some (.slice (some ⟨gs, 0, none⟩) 1 1)) (some vz) w2 := hw2
      have HG := Lib.hid HG
      clear hw2 hF hFC
      go_wp2
      exact HR.out _ _ ⟨vz, rfl, by rw [HZ.out]; exact HG.out.2.2, HG.out.1⟩
end Go.Proofs.Ytpdeicgjmjoglaa
/- A tree that a path tells, in memory; the path's hashes taken from its front. -/
namespace Ks
open Go Go.RowKit
set_option linter.unusedVariables false
def TreeAt (w : World) (TN : TypeId) : Value → Tr → Prop
  | v, .leaf r b => ∃ n, v = .pointer (some ⟨n, 0, none⟩) ∧ w.heap[n]? = some (.cells #[.string r, .string b, .pointer none, .pointer none] TN (0, 0))
  | v, .node r b x y => ∃ n vx vy, v = .pointer (some ⟨n, 0, none⟩) ∧ w.heap[n]? = some (.cells #[.string r, .string b, vx, vy] TN (0, 0)) ∧ TreeAt w TN vx x ∧ TreeAt w TN vy y
theorem TreeAt.keep {w w' : World} {TN : TypeId} (hb : ∀ (k : Nat) (o : Array Value), w.heap[k]? = some (Obj.cells o TN (0, 0)) → w'.heap[k]? = some (Obj.cells o TN (0, 0))) : ∀ {t : Tr} {v : Value}, TreeAt w TN v t → TreeAt w' TN v t
  | .leaf r b, v, ⟨n, e, h⟩ => ⟨n, e, hb _ _ h⟩
  | .node r b x y, v, ⟨n, vx, vy, e, h, hx, hy⟩ => ⟨n, vx, vy, e, hb _ _ h, TreeAt.keep hb hx, TreeAt.keep hb hy⟩
theorem TreeAt.below {w w' : World} {TN : TypeId} {t : Tr} {v : Value} (h : TreeAt w TN v t) (hb : Below w.heap.size w w') : TreeAt w' TN v t :=
  h.keep fun k o e => (hb.block k (lt_of_block e)).trans e
theorem TreeAt.solo {w w' : World} {TN TP : TypeId} {t : Tr} {v : Value} {n : Nat} {cs : Array Value} (h : TreeAt w TN v t) (hs : Solo w w' n) (hn : w.heap[n]? = some (.cells cs TP (0, 0))) (hne : TP ≠ TN) : TreeAt w' TN v t :=
  h.keep fun k o e => (hs.block k (lt_of_block e) fun e2 => by subst e2; rw [hn] at e; cases e; exact hne rfl).trans e
/-- the node itself -/
theorem TreeAt.top {w : World} {TN : TypeId} {t : Tr} {v : Value} (h : TreeAt w TN v t) : ∃ n vx vy, v = .pointer (some ⟨n, 0, none⟩) ∧ w.heap[n]? = some (.cells #[.string t.root, .string t.start, vx, vy] TN (0, 0)) := by
  cases t with
  | leaf r b => obtain ⟨n, e, h⟩ := h; exact ⟨n, _, _, e, h⟩
  | node r b x y => obtain ⟨n, vx, vy, e, h, -, -⟩ := h; exact ⟨n, vx, vy, e, h⟩
theorem blk4 {w : World} {b : Nat} {c0 c1 c2 c3 : Value} {T : TypeId} (h : w.heap[b]? = some (.cells #[c0, c1, c2, c3] T (0, 0))) : w.cell? ⟨b, 0, none⟩ = some c0 ∧ w.cell? ⟨b, 1, none⟩ = some c1 ∧ w.cell? ⟨b, 2, none⟩ = some c2 ∧ w.cell? ⟨b, 3, none⟩ = some c3 :=
  ⟨by rw [cell_of_row w b 0 _ _ _ h]; rfl, by rw [cell_of_row w b 1 _ _ _ h]; rfl, by rw [cell_of_row w b 2 _ _ _ h]; rfl, by rw [cell_of_row w b 3 _ _ _ h]; rfl⟩
theorem set_at0 {w : World} {n : Nat} {c0 : Value} {T : TypeId} (u : Value) (h : w.heap[n]? = some (.cells #[c0] T (0, 0))) : (w.setCell ⟨n, 0, none⟩ u).heap[n]? = some (.cells #[u] T (0, 0)) := by
  simp [World.setCell, Array.getElem?_modify, h]
/-- a box with the path that is left -/
structure PathAt (w : World) (TP : TypeId) (pb : Nat) (v : Value) (p : List ByteArray) : Prop where
  blk : w.heap[pb]? = some (.cells #[v] TP (0, 0))
  row : Rd strE w v p
  ne : p ≠ [] → v.ownBlock ≠ some pb
theorem PathAt.keep {w w' : World} {TP : TypeId} {pb : Nat} {v : Value} {p : List ByteArray} (h : PathAt w TP pb v p) (hb : Below w.heap.size w w') : PathAt w' TP pb v p :=
  ⟨(hb.block pb (lt_of_block h.blk)).trans h.blk, h.row.below hb, h.ne⟩
end Ks
namespace Go.Proofs.Ytpdeicgjmjoglaa
open Go.RowKit Ks
set_option linter.unusedVariables false
set_option maxHeartbeats 2000000 in
set_option maxRecDepth 100000 in
theorem ftake_any (bx pb : Nat) (v : Value) (z : ByteArray) (p : List ByteArray) (w : World) (hx : w.heap[bx]? = some (.cells #[.pointer (some ⟨pb, 0, none⟩)] 81 (0, 0))) (hp : PathAt w 41 pb v (z :: p)) (hl : p.length ≤ 1000000000) :
    Calls Try.prog 69 #[.pointer (some ⟨bx, 0, none⟩)] w fun e w' => e = .returned (.string z) ∧ ∃ v', PathAt w' 41 pb v' p ∧ Solo w w' pb := by
  refine calls_by fun R HR => ?_
  obtain ⟨x0, -⟩ := blk1 hx
  obtain ⟨c0, f0⟩ := blk1 hp.blk
  have hne : bx ≠ pb := fun e => by
    have h1 := hp.blk
    rw [← e, hx] at h1
    cases h1
  obtain ⟨ln, hln⟩ : ∃ ln, (z :: p).length = ln := ⟨_, rfl⟩
  have hl1 : ln = p.length + 1 := by rw [← hln]; rfl
  obtain ⟨a, cap, rfl, hcap, -⟩ := hp.row.shape
  obtain ⟨b, o, rfl, hb1, cz⟩ := hp.row.str 0 (by simp)
  rw [hln] at hcap c0 hp
  simp only [List.getElem_cons_zero, Nat.add_zero] at cz
  have HP := Lib.hid (And.intro hp (And.intro hln hcap))
  have hbp : b ≠ pb := fun e => hp.ne (by simp) (by simp [Value.ownBlock, e])
  have hi1 : (0 : Int) < (ln : Int) := by omega
  have hi2 : (1 : Int) ≤ (ln : Int) := by omega
  have hi3 : (ln : Int) ≤ (cap : Int) := by omega
  have hi4 : (1 : Int) ≤ (cap : Int) := by omega
  have HN := Lib.hid (And.intro hne hbp)
  have HL := Lib.hid (And.intro hl hl1)
  clear hp hcap hln hx hne hbp hl hl1
  by_cases hc1 : cap = 1
  · have hD := HP.out.1.row.drop (k := 1) (by simp) (some ⟨b, o, none⟩) (fun h => by have := HP.out.2.1; have := HP.out.2.2; omega) (by simp) 0 (by have := HP.out.2.1; have := HP.out.2.2; omega)
    go_enter Try.func69, Try.ntmps69
    go_wp2_with fail
    refine wp_region_still_tail 6 (by kernel_rfl) (by kernel_rfl) ?_
    simp only [List.take_succ_cons, List.take_zero, List.drop_succ_cons, List.drop_zero]
    repeat still_step
    refine wpStill_nil ?_
    change wpList _ _ _ _ _ w.drew
    go_wp2
    refine HR.out _ _ ⟨rfl, .slice (some ⟨b, o, none⟩) (ln - 1) 0, ⟨?_, ?_, ?_⟩, (Solo.set w pb 0 _).then (Solo.of_below (drew_below _))⟩
    · have hk := HP.out.1.blk
      exact set_at0 _ hk
    · have h := hD
      rw [HP.out.2.1] at h
      exact ((Solo.set w pb 0 _).rd h (by simp [Value.ownBlock]; exact HN.out.2)).below (drew_below _)
    · intro _; simp [Value.ownBlock]; exact HN.out.2
  · have hD := HP.out.1.row.drop (k := 1) (by simp) (some ⟨b, o + 1, none⟩) (fun h => by simp [strE]) (by simp) (cap - 1) (by have := HP.out.2.1; have := HP.out.2.2; omega)
    go_enter Try.func69, Try.ntmps69
    go_wp2_with fail
    refine wp_region_still_tail 6 (by kernel_rfl) (by kernel_rfl) ?_
    simp only [List.take_succ_cons, List.take_zero, List.drop_succ_cons, List.drop_zero]
    repeat still_step
    refine wpStill_nil ?_
    change wpList _ _ _ _ _ w.drew
    go_wp2
    refine HR.out _ _ ⟨rfl, .slice (some ⟨b, o + 1, none⟩) (ln - 1) (cap - 1), ⟨?_, ?_, ?_⟩, (Solo.set w pb 0 _).then (Solo.of_below (drew_below _))⟩
    · have hk := HP.out.1.blk
      exact set_at0 _ hk
    · have h := hD
      rw [HP.out.2.1] at h
      exact ((Solo.set w pb 0 _).rd h (by simp [Value.ownBlock]; exact HN.out.2)).below (drew_below _)
    · intro _; simp [Value.ownBlock]; exact HN.out.2
end Go.Proofs.Ytpdeicgjmjoglaa
/- How many hashes tell how so many grow: of the program and of the reference. -/
namespace Ks
open Go
theorem long_le : ∀ (n m : Nat) (first : Bool), longN m n first ≤ n + 1 := by
  intro n
  induction n using Nat.strongRecOn with
  | ind n ih =>
    intro m first
    rw [longN]
    split
    · split <;> omega
    · split
      · rename_i h
        have hh := half_lt n h
        split
        · have := ih (halfN n) hh.2 m first; omega
        · have := ih (n - halfN n) (by omega) (m - halfN n) false; omega
      · omega
end Ks
namespace Go.Proofs.Ytpdeicgjmjoglaa
open Go.RowKit Ks
set_option linter.unusedVariables false
set_option maxHeartbeats 2000000 in
theorem flong_any : ∀ (n m : Nat) (first : Bool) (w : World), 1 ≤ m → m ≤ n → n ≤ 1048576 → Calls Try.prog 56 #[.int .i64 (m : Nat), .int .i64 (n : Nat), .bool first] w fun e w' => e = .returned (.int .i64 (longN m n first : Nat)) ∧ w' = w := by
  intro n
  induction n using Nat.strongRecOn with
  | ind n ih =>
  intro m first w h1 hmn hn
  refine calls_by fun R HR => ?_
  by_cases e : m = n
  · subst e
    have HZ := Lib.hid (long_all m first)
    clear ih hmn
    cases first with
    | true =>
      go_enter Try.func56, Try.ntmps56
      go_wp2
      exact HR.out _ _ ⟨by rw [HZ.out]; rfl, rfl⟩
    | false =>
      go_enter Try.func56, Try.ntmps56
      go_wp2
      exact HR.out _ _ ⟨by rw [HZ.out]; rfl, rfl⟩
  · have h2 : 2 ≤ n := by omega
    have hh := half_lt n h2
    have HH := Lib.hid (fhalf_any n w h2 (by omega))
    have hme : ((m : Int) == (n : Int)) = false := by simp; omega
    by_cases hm : m ≤ halfN n
    · have HZ := Lib.hid (long_left m n first e h2 hm)
      have HI := Lib.hid (ih (halfN n) hh.2 m first w h1 hm (by omega))
      have hmk : (m : Int) ≤ ((halfN n : Nat) : Int) := by omega
      have hq : longN m (halfN n) first ≤ 2000000 := by have := long_le (halfN n) m first; omega
      generalize longN m (halfN n) first = q at *
      generalize halfN n = k at *
      clear ih hh hm h2 e h1 hmn hn
      go_enter Try.func56, Try.ntmps56
      go_wp2_with fail
      refine HH.out.mono ?_
      rintro e w3 ⟨rfl, hw3⟩
      rw [hw3]
      clear hw3
      go_wp2_with fail
      refine HI.out.mono ?_
      rintro e w3 ⟨rfl, hw3⟩
      rw [hw3]
      clear hw3
      go_wp2
      exact HR.out _ _ ⟨by rw [HZ.out]; rfl, rfl⟩
    · have HZ := Lib.hid (long_right m n first e h2 hm)
      have HI := Lib.hid (ih (n - halfN n) (by omega) (m - halfN n) false w (by omega) (by omega) (by omega))
      have hmk : ¬ (m : Int) ≤ ((halfN n : Nat) : Int) := by omega
      have hq : longN (m - halfN n) (n - halfN n) false ≤ 2000000 := by have := long_le (n - halfN n) (m - halfN n) false; omega
      have e1 : (m : Int) - ((halfN n : Nat) : Int) = ((m - halfN n : Nat) : Int) := by omega
      have e2 : (n : Int) - ((halfN n : Nat) : Int) = ((n - halfN n : Nat) : Int) := by omega
      have w1 : m - halfN n ≤ 2000000 := by omega
      have w2 : n - halfN n ≤ 2000000 := by omega
      generalize longN (m - halfN n) (n - halfN n) false = q at *
      generalize m - halfN n = i at *
      generalize n - halfN n = j at *
      generalize halfN n = k at *
      clear ih hh hm h2 e h1 hmn hn
      go_enter Try.func56, Try.ntmps56
      go_wp2_with fail
      refine HH.out.mono ?_
      rintro e w3 ⟨rfl, hw3⟩
      rw [hw3]
      clear hw3
      go_wp2_with fail
      refine HI.out.mono ?_
      rintro e w3 ⟨rfl, hw3⟩
      rw [hw3]
      clear hw3
      go_wp2
      exact HR.out _ _ ⟨by rw [HZ.out]; rfl, rfl⟩
set_option maxHeartbeats 2000000 in
theorem rlong_any36 : ∀ (n m : Nat) (first : Bool) (w : World), 1 ≤ m → m ≤ n → n ≤ 1048576 → Calls Try.prog 41 #[.int .i64 (m : Nat), .int .i64 (n : Nat), .bool first] w fun e w' => e = .returned (.int .i64 (longN m n first : Nat)) ∧ w' = w := by
  intro n
  induction n using Nat.strongRecOn with
  | ind n ih =>
  intro m first w h1 hmn hn
  refine calls_by fun R HR => ?_
  by_cases e : m = n
  · subst e
    have HZ := Lib.hid (long_all m first)
    clear ih hmn
    cases first with
    | true =>
      go_enter Try.func41, Try.ntmps41
      go_wp2
      exact HR.out _ _ ⟨by rw [HZ.out]; rfl, rfl⟩
    | false =>
      go_enter Try.func41, Try.ntmps41
      go_wp2
      exact HR.out _ _ ⟨by rw [HZ.out]; rfl, rfl⟩
  · have h2 : 2 ≤ n := by omega
    have hh := half_lt n h2
    have HH := Lib.hid (rhalf_any n w h2 (by omega))
    have hme : ((m : Int) == (n : Int)) = false := by simp; omega
    by_cases hm : m ≤ halfN n
    · have HZ := Lib.hid (long_left m n first e h2 hm)
      have HI := Lib.hid (ih (halfN n) hh.2 m first w h1 hm (by omega))
      have hmk : (m : Int) ≤ ((halfN n : Nat) : Int) := by omega
      have hq : longN m (halfN n) first ≤ 2000000 := by have := long_le (halfN n) m first; omega
      generalize longN m (halfN n) first = q at *
      generalize halfN n = k at *
      clear ih hh hm h2 e h1 hmn hn
      go_enter Try.func41, Try.ntmps41
      go_wp2_with fail
      refine HH.out.mono ?_
      rintro e w3 ⟨rfl, hw3⟩
      rw [hw3]
      clear hw3
      go_wp2_with fail
      refine HI.out.mono ?_
      rintro e w3 ⟨rfl, hw3⟩
      rw [hw3]
      clear hw3
      go_wp2
      exact HR.out _ _ ⟨by rw [HZ.out]; rfl, rfl⟩
    · have HZ := Lib.hid (long_right m n first e h2 hm)
      have HI := Lib.hid (ih (n - halfN n) (by omega) (m - halfN n) false w (by omega) (by omega) (by omega))
      have hmk : ¬ (m : Int) ≤ ((halfN n : Nat) : Int) := by omega
      have hq : longN (m - halfN n) (n - halfN n) false ≤ 2000000 := by have := long_le (n - halfN n) (m - halfN n) false; omega
      have e1 : (m : Int) - ((halfN n : Nat) : Int) = ((m - halfN n : Nat) : Int) := by omega
      have e2 : (n : Int) - ((halfN n : Nat) : Int) = ((n - halfN n : Nat) : Int) := by omega
      have w1 : m - halfN n ≤ 2000000 := by omega
      have w2 : n - halfN n ≤ 2000000 := by omega
      generalize longN (m - halfN n) (n - halfN n) false = q at *
      generalize m - halfN n = i at *
      generalize n - halfN n = j at *
      generalize halfN n = k at *
      clear ih hh hm h2 e h1 hmn hn
      go_enter Try.func41, Try.ntmps41
      go_wp2_with fail
      refine HH.out.mono ?_
      rintro e w3 ⟨rfl, hw3⟩
      rw [hw3]
      clear hw3
      go_wp2_with fail
      refine HI.out.mono ?_
      rintro e w3 ⟨rfl, hw3⟩
      rw [hw3]
      clear hw3
      go_wp2
      exact HR.out _ _ ⟨by rw [HZ.out]; rfl, rfl⟩
end Go.Proofs.Ytpdeicgjmjoglaa
