/- Trees of hashes: a leaf's and a node's hash; whether all are hashes; the level above. -/
import Derived.Test.YtophfeapmmfppaaShaSum
import Derived.Test.YtophfeapmmfppaaMerkleNode
import Derived.Test.YtophfeapmmfppaaSeqObj
import Derived.Test.YtophfeapmmfppaaMovedMore
import Derived.Shelf.Abstract
namespace Ks
open Go Go.RowKit
set_option linter.unusedVariables false
theorem leafS_eq (s : ByteArray) : shaS (0 :: s.data.toList) = leafS s := rfl
theorem nodeS_eq (a b : ByteArray) : shaS (insideL a b) = nodeS a b := rfl
theorem inside_cat (a b : ByteArray) : (ByteArray.mk #[1] ++ a ++ b) = insideS a b := by
  cases a with | mk a => cases b with | mk b => cases a with | mk a => cases b with | mk b => simp [insideS, insideL, ByteArray.mk_append_mk]
theorem inside_size (a b : ByteArray) : (insideS a b).size = 1 + a.size + b.size := by
  rw [← data_length]
  show (insideL a b).length = _
  rw [insideL, List.length_cons, List.length_append, data_length, data_length]; omega
theorem leafS_size (a : ByteArray) : (leafS a).size = 32 := sha1_size _
/-- the first that is not so -/
def idxS (p : ByteArray → Bool) : List ByteArray → Int
  | [] => -1
  | x :: l => if p x then 0 else (if idxS p l = -1 then -1 else idxS p l + 1)
theorem idxS_low (p : ByteArray → Bool) (l : List ByteArray) : -1 ≤ idxS p l := by
  induction l with
  | nil => exact Int.le_refl _
  | cons x l ih => rw [idxS]; split <;> (try split) <;> omega
theorem idxS_none (p : ByteArray → Bool) (l : List ByteArray) (h : ∀ x ∈ l, p x = false) : idxS p l = -1 := by
  induction l with
  | nil => rfl
  | cons x l ih => rw [idxS, h x (by simp), ih fun y hy => h y (by simp [hy])]; rfl
theorem idxS_hit (p : ByteArray → Bool) (l : List ByteArray) (k : Nat) (x : ByteArray) (hx : l[k]? = some x) (hq : p x = true) (hno : ∀ i, i < k → ∀ y, l[i]? = some y → p y = false) : idxS p l = k := by
  induction l generalizing k with
  | nil => simp at hx
  | cons a l ih =>
    cases k with
    | zero => simp at hx; subst hx; rw [idxS, hq]; rfl
    | succ k =>
      have h1 := hno 0 (by omega) a rfl
      have h2 := ih k (by simpa using hx) fun i hi y hy => hno (i + 1) (by omega) y (by simpa using hy)
      rw [idxS, h1, h2]
      rw [if_neg (by simp), if_neg (by omega)]
      omega
theorem idxS_any (p : ByteArray → Bool) (l : List ByteArray) : decide (0 ≤ idxS p l) = l.any p := by
  induction l with
  | nil => rfl
  | cons x l ih =>
    have := idxS_low p l
    rw [idxS, List.any_cons, ← ih]
    cases p x with
    | true => simp
    | false =>
      rw [if_neg (by simp), Bool.false_or]
      split
      · rename_i h; rw [h]
      · rw [decide_eq_decide]; omega
theorem whole_any' (l : List ByteArray) : (l.any fun s => (s.size : Int) != 32) = !wholeL l := by
  unfold wholeL
  rw [List.not_all_eq_any_not]
  congr 1
  funext s
  rw [Bool.eq_iff_iff]; simp [bne_iff_ne]; omega
theorem above_get (l : List ByteArray) (k : Nat) (h : 2 * k + 1 < l.length) : aboveL (l.take (2 * k + 2)) = aboveL (l.take (2 * k)) ++ [nodeS (l[2 * k]'(by omega)) l[2 * k + 1]] := by
  have e : l.take (2 * k + 2) = l.take (2 * k) ++ [l[2 * k]'(by omega), l[2 * k + 1]] := by
    rw [List.take_succ_eq_append_getElem (by omega), List.take_succ_eq_append_getElem (by omega), List.append_assoc]; rfl
  rw [e, above_append k _ _ (by rw [List.length_take]; omega)]
  rfl
theorem above_last (l : List ByteArray) (k : Nat) (h : 2 * k + 1 = l.length) : aboveL l = aboveL (l.take (2 * k)) ++ [l[2 * k]'(by omega)] := by
  have e : l = l.take (2 * k) ++ [l[2 * k]'(by omega)] := by
    conv => lhs; rw [← List.take_of_length_le (show l.length ≤ 2 * k + 1 by omega)]
    rw [List.take_succ_eq_append_getElem (by omega)]
  conv => lhs; rw [e]
  rw [above_append k _ _ (by rw [List.length_take]; omega)]
  rfl
end Ks
namespace Go.Proofs.Ytophfeapmmfppaa
open Go.RowKit Ks
set_option linter.unusedVariables false
theorem Try.infoS : (Try.prog.info? 9).map (fun i => (i.zero, i.size, i.bytes)) = some (some (.string ⟨#[]⟩), 1, 16) := by kernel_rfl
theorem strT : ElemT Try.prog 22 9 strE.k 16 := elemT_of Try.underlying22 Try.infoS rfl
theorem leaf_any (s : ByteArray) (w : World) (h : s.size ≤ 10000000000) : Calls Try.prog 12 #[.string s] w fun e w' => e = .returned (.string (leafS s)) ∧ Below w.heap.size w w' := by
  refine calls_by fun R HR => ?_
  have H := Lib.hid h
  clear h
  go_enter Try.func12, Try.ntmps12
  go_wp2_with fail
  refine (sum2_any ⟨#[0]⟩ s _ w (by decide) H.out).mono ?_
  rintro e w1 ⟨rfl, hb⟩
  have HB := Lib.hid hb
  clear hb
  rw [show shaS ((ByteArray.mk #[0]).data.toList ++ s.data.toList) = leafS s from rfl]
  go_wp2
  exact HR.out _ _ ⟨rfl, HB.out⟩
theorem inside_any (a b : ByteArray) (w : World) (h : a.size ≤ 10000000000) (h2 : b.size ≤ 10000000000) : Calls Try.prog 30 #[.string a, .string b] w fun e w' => e = .returned (.string (insideS a b)) ∧ w' = w := by
  refine calls_by fun R HR => ?_
  have HC := Lib.hid (inside_cat a b)
  go_enter Try.func30, Try.ntmps30
  go_wp2
  exact HR.out _ _ ⟨by rw [← HC.out]; rfl, rfl⟩
theorem node_any (a b : ByteArray) (w : World) (h : a.size ≤ 10000000000) (h2 : b.size ≤ 10000000000) : Calls Try.prog 14 #[.string a, .string b] w fun e w' => e = .returned (.string (nodeS a b)) ∧ Below w.heap.size w w' := by
  refine calls_by fun R HR => ?_
  have H := Lib.hid (show (insideS a b).size ≤ 50000000000 by rw [inside_size]; omega)
  have HA := Lib.hid h
  have HB := Lib.hid h2
  clear h h2
  go_enter Try.func14, Try.ntmps14
  go_wp2_with fail
  refine (inside_any a b w HA.out HB.out).mono ?_
  rintro e w1 ⟨rfl, hw⟩
  subst hw
  go_wp2_with fail
  refine (sum1_any (insideS a b) _ _ H.out).mono ?_
  rintro e w2 ⟨rfl, hb⟩
  have HB := Lib.hid hb
  clear hb
  rw [show shaS (insideS a b).data.toList = nodeS a b from rfl]
  go_wp2
  exact HR.out _ _ ⟨rfl, HB.out⟩
theorem notwide_any (s : ByteArray) (w : World) : Calls Try.prog 35 #[.string s] w fun e w' => e = .returned (.bool ((s.size : Int) != 32)) ∧ Below w.heap.size w w' := by
  refine calls_by fun R HR => ?_
  go_enter Try.func35, Try.ntmps35
  go_wp2
  exact HR.out _ _ ⟨rfl, Below.refl _ _⟩
set_option maxHeartbeats 1000000 in
theorem indexS_any (g : Nat) (lb : Array Value) (eg : ∀ args w, (callFunc g args).run Try.prog w = .ok (.enter g args) w) (p : ByteArray → Bool) (lv : Value) (l : List ByteArray) (w : World) (hl : Rd strE w lv l) (hlen : l.length ≤ 9223372036854775807)
    (hp : ∀ x w', Below w.heap.size w w' → Calls Try.prog g (#[.string x] ++ lb) w' fun e w'' => e = .returned (.bool (p x)) ∧ Below w'.heap.size w' w'') :
    Calls Try.prog 49 #[lv, .func (.func g) #[] lb] w fun e w' => e = .returned (.int .i64 (idxS p l)) ∧ Below w.heap.size w w' := by
  refine calls_by fun R HR => ?_
  obtain ⟨a, cap, rfl, hcap, -⟩ := hl.shape
  have HL := Lib.hid hl
  have Hp := Lib.hid hp
  clear hl hp
  go_enter Try.func49, Try.ntmps49
  go_wp2
  go_loopw [8] (fun i wr => ∃ k : Nat, k ≤ l.length ∧ i = .int .i64 k ∧ Hid (∀ (i : Nat), i < k → ∀ (y : ByteArray), l[i]? = some y → p y = false) ∧ Below w.heap.size w wr) (fun i _ => l.length - (intOf i).toNat)
  case atStart => exact ⟨0, by omega, rfl, Lib.hid (fun i hi => absurd hi (by omega)), Below.refl _ _⟩
  case round =>
    obtain ⟨k, hk, rfl, hno, hbel⟩ := hrel
    by_cases hlt : k < l.length
    · obtain ⟨b, o, rfl, hb, c1⟩ := (HL.out.below hbel).str k hlt
      have hx := Lib.hid (List.getElem?_eq_getElem hlt)
      generalize l[k] = x at c1 hx
      have hcall := Hp.out x wr hbel
      cases hq : p x with
      | true =>
        rw [hq] at hcall
        go_wp2_with (go_at_fn g; refine hcall.mono ?_; rintro e w' ⟨rfl, hb'⟩)
        refine HR.out _ _ ⟨?_, hbel.trans (hb'.mono hbel.size)⟩
        rw [idxS_hit p l k x hx.out hq hno.out]; rfl
      | false =>
        rw [hq] at hcall
        go_wp2_with (go_at_fn g; refine hcall.mono ?_; rintro e w' ⟨rfl, hb'⟩)
        go_roundw
        case rel =>
          refine ⟨k + 1, by omega, by go_num, Lib.hid fun i hi y hy => ?_, hbel.trans (hb'.mono hbel.size)⟩
          by_cases e : i = k
          · subst e; rw [hx.out] at hy; cases hy; exact hq
          · exact hno.out i (by omega) y hy
        case measure => simp [intOf]; omega
    · obtain rfl : k = l.length := by omega
      have Q := Lib.hid (idxS_none p l fun x hx => by
        obtain ⟨i, hi, rfl⟩ := List.getElem_of_mem hx
        exact hno.out i hi _ (List.getElem?_eq_getElem hi))
      go_wp2
      refine HR.out _ _ ⟨?_, hbel⟩
      rw [Q.out]; rfl
theorem containsS_any (lv : Value) (l : List ByteArray) (w : World) (hl : Rd strE w lv l) (hlen : l.length ≤ 9223372036854775807) :
    Calls Try.prog 34 #[lv, .func (.func 35) #[] #[]] w fun e w' => e = .returned (.bool (!wholeL l)) ∧ Below w.heap.size w w' := by
  refine calls_by fun R HR => ?_
  have hi := indexS_any 35 #[] (fun _ _ => rfl) (fun s => (s.size : Int) != 32) lv l w hl hlen fun x w' _ => notwide_any x w'
  have hq := idxS_any (fun s => (s.size : Int) != 32) l
  rw [whole_any'] at hq
  generalize idxS (fun s => (s.size : Int) != 32) l = q at *
  go_enter Try.func34, Try.ntmps34
  go_wp2_with fail
  refine hi.mono ?_
  rintro e w1 ⟨rfl, hb⟩
  have Q := Lib.hid hq
  clear hi hq
  go_wp2
  exact HR.out _ _ ⟨by rw [← Q.out]; rfl, hb⟩
theorem whole_any (lv : Value) (l : List ByteArray) (w : World) (hl : Rd strE w lv l) (hlen : l.length ≤ 9223372036854775807) :
    Calls Try.prog 25 #[lv] w fun e w' => e = .returned (.bool (wholeL l)) ∧ Below w.heap.size w w' := by
  refine calls_by fun R HR => ?_
  obtain ⟨a, cap, rfl, hcap, -⟩ := hl.shape
  have HC := Lib.hid (containsS_any _ l w hl hlen)
  clear hl hlen hcap
  generalize wholeL l = b at *
  go_enter Try.func25, Try.ntmps25
  go_wp2_with fail
  refine HC.out.mono ?_
  rintro e w1 ⟨rfl, hb⟩
  have HB := Lib.hid hb
  clear hb
  cases b <;>
  · go_wp2
    exact HR.out _ _ ⟨rfl, HB.out⟩
theorem whole_get {l : List ByteArray} (h : wholeL l = true) (i : Nat) (x : ByteArray) (hx : l[i]? = some x) : x.size = 32 := by
  have := List.mem_of_getElem? hx
  simp only [wholeL, List.all_eq_true, beq_iff_eq] at h
  exact h x this
theorem eg_node : ∀ args w, (callFunc 14 args).run Try.prog w = .ok (.enter 14 args) w := fun _ _ => rfl
set_option maxRecDepth 20000 in
set_option maxHeartbeats 4000000 in
theorem above_any (lv : Value) (l : List ByteArray) (w : World) (hl : Rd strE w lv l) (hw : wholeL l = true) (hlen : l.length ≤ 100000000) :
    Calls Try.prog 37 #[lv] w fun e w' => ∃ v, e = .returned v ∧ Row strE w' w.heap.size 9 v (aboveL l) ∧ Below w.heap.size w w' := by
  refine calls_by fun R HR => ?_
  obtain ⟨a, cap, rfl, hcap, -⟩ := hl.shape
  have HL := Lib.hid (And.intro hl (And.intro hw hlen))
  have hli : (l.length : Int) ≤ 100000000 := by omega
  clear hl hw hlen
  go_enter Try.func37, Try.ntmps37
  go_wp2_with fail
  go_loopw [3, 4] (fun o0 i wr => ∃ (k : Nat) (ov : Value), k ≤ l.length ∧ ov = o0 ∧ i = .int .i64 k ∧ Hid ((∃ j, k = 2 * j) ∧ Row strE wr w.heap.size 9 ov (aboveL (l.take k)) ∧ Below w.heap.size w wr)) (fun _ i _ => l.length + 1 - (intOf i).toNat)
  case atStart => exact ⟨0, _, by omega, rfl, rfl, Lib.hid ⟨⟨0, rfl⟩, Row.nil _ _ _, Below.refl _ _⟩⟩
  case round =>
    obtain ⟨k, ov, hk, rfl, rfl, hN⟩ := hrel
    by_cases hlt : k < l.length
    · have hki : (k : Int) < (l.length : Int) := by omega
      have HAL := Lib.hid (show (aboveL (l.take k)).length ≤ 100000000 by rw [above_length, List.length_take]; have := HL.out.2.2; omega)
      have hrd := HL.out.1.below hN.out.2.2
      by_cases hlast : k + 1 = l.length
      · obtain ⟨b, o, rfl, hb, c1⟩ := hrd.str k hlt
        have HA := Lib.hid (show aboveL l = aboveL (l.take k) ++ [l[k]] by
          obtain ⟨j, rfl⟩ := hN.out.1
          exact above_last l j hlast)
        have hkl : ((k : Int) + 1 == (l.length : Int)) = true := by rw [beq_iff_eq]; omega
        generalize l[k] = x at *
        have HB := Lib.hid hb
        clear hrd hb hlast
        go_wp2_with (at_builtin; refine wpList_append_row _ rfl _ _ 22 rfl strT w.heap.size _ _ (aboveL (l.take k)) [x] rfl rfl (hN.out.2.1.below (alloc_below wr _)) (Rd.single x (alloc_new wr _) rfl) (by have := hN.out.2.2.size; simp; omega) (by have := HAL.out; simp; omega) (by decide) ?_)
        intro v' w2 hG
        have HG := Lib.hid (And.intro (show Row strE w2 w.heap.size 9 v' (aboveL l) by rw [HA.out]; exact hG.1) (hG.below (hN.out.2.2.trans ((alloc_below wr _).mono hN.out.2.2.size)) (by have := hN.out.2.2.size; simp; omega) (fun b hb => (hN.out.2.1.lt hb).1)))
        clear hG
        go_wp2
        exact HR.out _ _ ⟨_, rfl, HG.out⟩
      · have hlt2 : k + 1 < l.length := by omega
        obtain ⟨b, o, rfl, hb, c1⟩ := hrd.str k hlt
        obtain ⟨b', o', e', hb', c2⟩ := hrd.str (k + 1) hlt2
        simp only [Option.some.injEq, Addr.mk.injEq, and_true] at e'
        obtain ⟨rfl, rfl⟩ := e'
        have HA := Lib.hid (show aboveL (l.take (k + 2)) = aboveL (l.take k) ++ [nodeS l[k] l[k + 1]] by
          obtain ⟨j, rfl⟩ := hN.out.1
          exact above_get l j hlt2)
        have hkl : ((k : Int) + 1 == (l.length : Int)) = false := by rw [beq_eq_false_iff_ne]; omega
        have z1 := whole_get HL.out.2.1 k _ (List.getElem?_eq_getElem hlt)
        have z2 := whole_get HL.out.2.1 (k + 1) _ (List.getElem?_eq_getElem hlt2)
        have hbw : b < w.heap.size := by
          obtain ⟨b9, o9, e9, h9, _⟩ := HL.out.1.str k hlt
          simp only [Option.some.injEq, Addr.mk.injEq, and_true] at e9
          omega
        have HB0 := Lib.hid hbw
        clear hbw
        generalize l[k] = x at *
        generalize l[k + 1] = y at *
        have dc := Lib.hid (fun w => node_any x y w (by omega) (by omega))
        have hki2 : (k : Int) + 1 < (l.length : Int) := by omega
        have hki0 : 0 ≤ (k : Int) + 1 := by omega
        have hwr : IntKind.i64.wrap ((k : Int) + 1) = (k : Int) + 1 := by rw [IntKind.wrap_i64]; omega
        have hne : ov.ownBlock ≠ some b := fun e => by have h1 := (hN.out.2.1.lt e).1; have h2 := HB0.out; omega
        generalize hz : nodeS x y = z at *
        go_wp2_with fail
        refine wp_region_mv (fun f => Appends strE w.heap.size wr 9 ov (aboveL (l.take k)) [z] (f 11) (f 12)) (by kernel_rfl) (Appends.start hN.out.2.1 (drew_below wr)) ?_
        obtain ⟨S, F, hF, hFC⟩ := moved_class (fun f => Appends strE w.heap.size wr 9 ov (aboveL (l.take k)) [z] (f 11) (f 12))
        have k0 : ∀ s, (F s).cell? ⟨b, o + k, none⟩ = some (.string x) := fun s => (hFC s).choose_spec.cell c1 hne
        have k1 : ∀ s, (F s).cell? ⟨b, o + (k + 1), none⟩ = some (.string y) := fun s => (hFC s).choose_spec.cell c2 hne
        clear hrd hb hb' c1 c2 z1 z2 hlast
        show wpAnyM _ _ _ _ _ 14 (Array.replicate 14 false) _ _
        refine mv_read 0 hF (fun _ _ _ h => h) rfl (by kernel_rfl) (by kernel_rfl) (by kernel_rfl) (fun K hK => ?_)
        go_simp
        first | refine ⟨_, fun _ => rfl, hK _ _ ?_⟩ | refine hK _ _ ?_
        clear hK K
        refine mv_read 1 hF (fun _ _ _ h => h) rfl (by kernel_rfl) (by kernel_rfl) (by kernel_rfl) (fun K hK => ?_)
        go_simp
        first | refine ⟨_, fun _ => rfl, hK _ _ ?_⟩ | refine hK _ _ ?_
        clear hK K
        refine mv_read 2 hF (fun _ _ _ h => h) rfl (by kernel_rfl) (by kernel_rfl) (by kernel_rfl) (fun K hK => ?_)
        go_simp
        first | refine ⟨_, fun _ => rfl, hK _ _ ?_⟩ | refine hK _ _ ?_
        clear hK K
        refine mv_read 3 hF (fun _ _ _ h => h) rfl (by kernel_rfl) (by kernel_rfl) (by kernel_rfl) (fun K hK => ?_)
        go_simp
        first | refine ⟨_, fun _ => rfl, hK _ _ ?_⟩ | refine hK _ _ ?_
        clear hK K
        refine mv_read 4 hF (fun _ _ _ h => h) rfl (by kernel_rfl) (by kernel_rfl) (by kernel_rfl) (fun K hK => ?_)
        go_simp
        first | refine ⟨_, fun _ => rfl, hK _ _ ?_⟩ | refine hK _ _ ?_
        clear hK K
        refine mv_read 5 hF (fun _ _ _ h => h) rfl (by kernel_rfl) (by kernel_rfl) (by kernel_rfl) (fun K hK => ?_)
        go_simp
        first | refine ⟨_, fun _ => rfl, hK _ _ ?_⟩ | refine hK _ _ ?_
        clear hK K
        refine mv_read 6 hF (fun _ _ _ h => h) rfl (by kernel_rfl) (by kernel_rfl) (by kernel_rfl) (fun K hK => ?_)
        go_simp
        first | refine ⟨_, fun _ => rfl, hK _ _ ?_⟩ | refine hK _ _ ?_
        clear hK K
        refine mv_read 7 hF (fun _ _ _ h => h) rfl (by kernel_rfl) (by kernel_rfl) (by kernel_rfl) (fun K hK => ?_)
        go_simp
        first | refine ⟨_, fun _ => rfl, hK _ _ ?_⟩ | refine hK _ _ ?_
        clear hK K
        refine mv_read 8 hF (fun _ _ _ h => h) rfl (by kernel_rfl) (by kernel_rfl) (by kernel_rfl) (fun K hK => ?_)
        go_simp
        first | refine ⟨_, fun _ => rfl, hK _ _ ?_⟩ | refine hK _ _ ?_
        clear hK K
        refine mv_read 9 hF (fun _ _ _ h => h) rfl (by kernel_rfl) (by kernel_rfl) (by kernel_rfl) (fun K hK => ?_)
        go_simp
        first | refine ⟨_, fun _ => rfl, hK _ _ ?_⟩ | refine hK _ _ ?_
        clear hK K
        refine mv_call1 10 14 rfl (by kernel_rfl) (by kernel_rfl) (by kernel_rfl) rfl rfl eg_node (args := #[.string x, .string y]) rfl (u := .string z) (fun g w _ _ h => (dc.out w).mono fun e w' ⟨h1, h2⟩ => ⟨h1, h.on h2⟩) ?_
        refine mv_alone 11 rfl (by kernel_rfl) rfl (fun v => ∃ g, v = .slice (some ⟨g, 0, none⟩) 1 1) (fun g w _ _ h D hD => ?_) ?_
        · go_simp
          exact hD _ _ ⟨_, rfl⟩ (h.made #[.string z] rfl)
        rintro _ ⟨gs, rfl⟩
        refine mv_append 12 rfl (by kernel_rfl) rfl (.tmp 23) (.tmp 34) 22 rfl strT w.heap.size _ _ (aboveL (l.take k)) [z] rfl rfl (by have := HAL.out; simp; omega) (by decide) (fun g w ha h0 h => ?_) (fun _ => True) (fun g w v' w' ha h0 h hG => ?_) ?_
        · have e1 : g 11 = some (.slice (some ⟨gs, 0, none⟩) 1 1) := (agree_on 11 ha (by kernel_rfl)).trans rfl
          simp only [e1, h0] at h
          exact h.rows hN.out.2.2.size
        · simp only [h0] at h
          exact ⟨trivial, h.grew hG⟩
        rintro vz -
        refine mv_read 13 hF (fun _ _ _ h => h) rfl (by kernel_rfl) (by kernel_rfl) (by kernel_rfl) (fun K hK => ?_)
        go_simp
        first | refine ⟨_, fun _ => rfl, hK _ _ ?_⟩ | refine hK _ _ ?_
        clear hK K
        refine mv_end (by kernel_rfl) ?_
        intro w2 hw2
        have HG : Appends strE w.heap.size wr 9 ov (aboveL (l.take k)) [z] (some (.slice (some ⟨gs, 0, none⟩) 1 1)) (some vz) w2 := hw2
        have HG := Lib.hid (And.intro (show Row strE w2 w.heap.size 9 vz (aboveL (l.take (k + 2))) by rw [HA.out]; exact HG.2.2) (hN.out.2.2.grown HG.1 hN.out.2.2.size (fun b e => (hN.out.2.1.lt e).1)))
        clear hw2 hF hFC k0 k1
        go_wp2_with fail
        go_roundw
        case rel => exact ⟨k + 2, _, by omega, rfl, by go_num, Lib.hid ⟨by obtain ⟨j, rfl⟩ := hN.out.1; exact ⟨j + 1, by omega⟩, HG.out.1, HG.out.2⟩⟩
        case measure => simp [intOf]; omega
    · obtain rfl : k = l.length := by omega
      have HX := hN.out.2
      rw [List.take_length] at HX
      have HX2 := Lib.hid HX
      clear HX
      go_wp2
      exact HR.out _ _ ⟨_, rfl, HX2.out⟩
end Go.Proofs.Ytophfeapmmfppaa
