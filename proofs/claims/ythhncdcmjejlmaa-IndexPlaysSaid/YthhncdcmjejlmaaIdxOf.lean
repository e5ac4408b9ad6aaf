/- The law's own: an index of versions; the chapter's example. -/
import Derived.Test.YthhncdcmjejlmaaIdxMore
import Derived.Test.YthhncdcmjejlmaaIdxEpoch
import Derived.Deep.LoopGhost
namespace Ks
open Go Go.RowKit
set_option linter.unusedVariables false

/-- an index that a call made itself -/
structure OwnIdx (w wr : World) (TX TV : TypeId) (n : Nat) (v : Value) (L : List Ver) : Prop where
  at_ : IdxAt wr TX TV n v L
  below : Below w.heap.size w wr
  nlow : w.heap.size ≤ n
  vlow : ∀ b, v.ownBlock = some b → w.heap.size ≤ b
theorem OwnIdx.keep {w wr wx : World} {TX TV : TypeId} {n : Nat} {v : Value} {L : List Ver} (h : OwnIdx w wr TX TV n v L) (hb : Below wr.heap.size wr wx) : OwnIdx w wx TX TV n v L :=
  ⟨h.at_.keep hb, h.below.trans (hb.mono h.below.size), h.nlow, h.vlow⟩
theorem OwnIdx.step {w wr w4 wx : World} {TX TV : TypeId} {n : Nat} {v v' : Value} {L L' : List Ver} (h : OwnIdx w wr TX TV n v L) (hb : Below wr.heap.size wr w4) (hi : IdxAt wx TX TV n v' L') (hT : Turned w4 wx n v v') : OwnIdx w wx TX TV n v' L' :=
  ⟨hi, (h.below.trans (hb.mono h.below.size)).trans (hT.below h.nlow h.vlow (Nat.le_trans h.below.size hb.size)), h.nlow, hT.low h.vlow (Nat.le_trans h.below.size hb.size)⟩
/-- another index is not turned -/
theorem IdxAt.apart {w w' : World} {TX TV : TypeId} {n m : Nat} {v v' u : Value} {L : List Ver} (h : IdxAt w TX TV m u L) (hT : Turned w w' n v v') (h1 : m ≠ n) (h2 : v.ownBlock ≠ some m) (h3 : u.ownBlock ≠ some n) (h4 : ∀ b, u.ownBlock = some b → v.ownBlock ≠ some b) : IdxAt w' TX TV m u L :=
  ⟨⟨(hT.block m h.held.lt h1 h2).trans h.held.blk, h.held.own.keep fun b e => hT.block b (h.held.own.lt e).2 (fun e2 => h3 (e2 ▸ e)) (h4 b e), h.held.ne⟩, h.sorted, h.good⟩

def ofL (l : List Ver) : List Ver := l.foldl addL []
theorem ofL_snoc (l : List Ver) (k : Nat) (x : Ver) (h : l[k]? = some x) : ofL (l.take (k + 1)) = addL (ofL (l.take k)) x := by
  rw [ofL, take_snocV l k x h, List.foldl_append]; rfl
theorem ofL_length (l : List Ver) : (ofL l).length ≤ l.length := by
  have key : ∀ (l s : List Ver), (l.foldl addL s).length ≤ s.length + l.length := by
    intro l
    induction l with
    | nil => intro s; simp
    | cons x l ih =>
      intro s
      have h1 := ih (addL s x)
      have h2 := addL_length s x
      rw [List.foldl_cons, List.length_cons]
      omega
  simpa [ofL] using key l []
theorem ofL_mem (l : List Ver) (y : Ver) : y ∈ ofL l ↔ y ∈ l ∧ mayV y = true := by
  have key : ∀ (l s : List Ver), y ∈ l.foldl addL s ↔ y ∈ s ∨ (y ∈ l ∧ mayV y = true) := by
    intro l
    induction l with
    | nil => intro s; simp
    | cons x l ih =>
      intro s
      rw [List.foldl_cons, ih, addL_mem, List.mem_cons]
      constructor
      · rintro ((⟨rfl, h⟩ | h) | h)
        · exact Or.inr ⟨Or.inl rfl, h⟩
        · exact Or.inl h
        · exact Or.inr ⟨Or.inr h.1, h.2⟩
      · rintro (h | ⟨rfl | h, h2⟩)
        · exact Or.inl (Or.inr h)
        · exact Or.inl (Or.inl ⟨rfl, h2⟩)
        · exact Or.inr ⟨h, h2⟩
  simpa [ofL] using key l []
theorem sorted_nil : Sorted [] := List.Pairwise.nil
theorem ofL_sorted (l : List Ver) : Sorted (ofL l) := by
  have key : ∀ (l s : List Ver), Sorted s → Sorted (l.foldl addL s) := by
    intro l
    induction l with
    | nil => intro s h; exact h
    | cons x l ih => intro s h; exact ih _ (addL_sorted h x)
  exact key l [] sorted_nil

theorem own_new {w w1 : World} {TX TV : TypeId} (h : w1 = w.alloc (.cells #[.bool true, .slice none 0 0] TX)) : OwnIdx w w1 TX TV w.heap.size (.slice none 0 0) [] := by
  subst h
  exact ⟨⟨⟨alloc_new w _, Row.nil _ _ _, by simp [Value.ownBlock]⟩, sorted_nil, fun x hx => by simp at hx⟩, alloc_below w _, Nat.le_refl _, fun b e => by simp [Value.ownBlock] at e⟩

theorem alive_ex : lastO (ofL [(1, 0, 5), (1, 2, 9), (1, 0, 7)]) 1 1 = some (1, 0, 7) := by decide +kernel
end Ks
namespace Go.Proofs.Ythhncdcmjejlmaa
open Go.RowKit Ks
set_option linter.unusedVariables false

set_option maxHeartbeats 1000000 in
theorem of_any (lv : Value) (l : List Ver) (w : World) (hl : Rd verE w lv l) (hlen : l.length ≤ 900000) :
    Calls Try.prog 8 #[lv] w fun e w' => ∃ n v, e = .returned (.pointer (some ⟨n, 0, none⟩)) ∧ OwnIdx w w' 46 27 n v (ofL l) := by
  refine calls_by fun R HR => ?_
  have HL := Lib.hid hl
  obtain ⟨a, cap, hv, hcap, -⟩ := hl.shape
  subst hv
  clear hl
  go_enter Try.func8, Try.ntmps8
  go_wp2_with fail
  refine (new_any _).mono ?_
  rintro e w1 ⟨rfl, hw1⟩
  have HO1 := Lib.hid (own_new (TV := 27) hw1)
  clear hw1
  go_wp2
  go_loopg [9] l.length (fun g i wr => ∃ (k : Nat) (v : Value), k + g = l.length ∧ i = .int .i64 k ∧ OwnIdx w wr 46 27 w.heap.size v (ofL (l.take k)))
  case atStart => exact ⟨0, _, by omega, rfl, HO1.out⟩
  case round =>
    obtain ⟨k, v, hk, rfl, hO⟩ := hrel
    by_cases hlt : k < l.length
    · obtain ⟨x, hx⟩ : ∃ x, l[k]? = some x := ⟨_, List.getElem?_eq_getElem hlt⟩
      obtain ⟨b, o, ha, hb', dd⟩ := (HL.out.below hO.below).at k x hx
      subst ha
      have HS := Lib.hid (ofL_snoc l k x hx)
      have hle := ofL_length (l.take k)
      rw [List.length_take] at hle
      obtain ⟨x1, x2, x3⟩ := x
      have d0 : wr.cell? ⟨b, o + k * 3, none⟩ = some (.int .i64 x1) := dd 0 _ rfl
      have d1 : wr.cell? ⟨b, o + k * 3 + 1, none⟩ = some (.int .i64 x2) := dd 1 _ rfl
      have d2 : wr.cell? ⟨b, o + k * 3 + 2, none⟩ = some (.int .i64 x3) := dd 2 _ rfl
      have HO := Lib.hid hO
      have HA := Lib.hid (alloc_below wr (.cells #[.int .i64 x1, .int .i64 x2, .int .i64 x3] 27))
      clear dd hx hO
      go_wp2_with fail
      refine (add_live w.heap.size v _ (x1, x2, x3) _ (HO.out.at_.keep HA.out) (by omega)).mono ?_
      rintro e w2 ⟨v', rfl, hi, hT⟩
      rw [← HS.out] at hi
      have HN := Lib.hid (HO.out.step HA.out hi hT)
      clear hi hT
      go_wp2
      go_roundg (gk - 1)
      case measure => omega
      case rel => exact ⟨k + 1, v', by omega, by go_num, HN.out⟩
    · obtain rfl : k = l.length := by omega
      rw [List.take_length] at hO
      have HO := Lib.hid hO
      clear hO
      go_wp2
      exact HR.out _ _ ⟨_, v, rfl, HO.out⟩

set_option maxHeartbeats 1000000 in
theorem alive_any (w : World) : Calls Try.prog 7 #[] w fun e w' => e = .returned (.bool true) ∧ Below w.heap.size w w' := by
  refine calls_by fun R HR => ?_
  obtain ⟨W1, hW1⟩ : ∃ W1, w.alloc (.cells #[.int .i64 1, .int .i64 0, .int .i64 5, .int .i64 1, .int .i64 2, .int .i64 9, .int .i64 1, .int .i64 0, .int .i64 7] 27) = W1 := ⟨_, rfl⟩
  have hb1 : Below w.heap.size w W1 := by rw [← hW1]; exact alloc_below w _
  have k1 : W1.heap[w.heap.size]? = some (.cells #[.int .i64 1, .int .i64 0, .int .i64 5, .int .i64 1, .int .i64 2, .int .i64 9, .int .i64 1, .int .i64 0, .int .i64 7] 27 (0, 0)) := by rw [← hW1]; exact alloc_new w _
  have hr : Rd verE W1 (.slice (some ⟨w.heap.size, 0, none⟩) 3 3) [(1, 0, 5), (1, 2, 9), (1, 0, 7)] := Rd.block (l := [(1, 0, 5), (1, 2, 9), (1, 0, 7)]) k1 rfl
  have H1 := Lib.hid (And.intro hb1 hr)
  clear hb1 k1 hr
  go_enter Try.func7, Try.ntmps7
  go_wp2_with fail
  refine (of_any _ _ _ H1.out.2 (by simp)).mono ?_
  rintro e w2 ⟨n, v, rfl, hO⟩
  have HO := Lib.hid hO
  clear hO
  go_wp2_with fail
  refine (newest_live n v _ 1 1 _ HO.out.at_ (Nat.le_trans (ofL_length _) (by simp))).mono ?_
  rintro e w3 ⟨rfl, hb3⟩
  rw [alive_ex, optV, getV, Option.getD_some, Option.isSome_some]
  go_wp2
  exact HR.out _ _ ⟨rfl, ((H1.out.1.trans (HO.out.below.mono H1.out.1.size)).trans (hb3.mono (Nat.le_trans H1.out.1.size HO.out.below.size))).alloc (Nat.le_trans (Nat.le_trans H1.out.1.size HO.out.below.size) hb3.size) _⟩

end Go.Proofs.Ythhncdcmjejlmaa
