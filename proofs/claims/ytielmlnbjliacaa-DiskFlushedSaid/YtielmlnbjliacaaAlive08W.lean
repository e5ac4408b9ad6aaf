/- The chapter's example: its walk. -/
import Derived.Test.YtielmlnbjliacaaAlive08

namespace Go.Proofs.Ytielmlnbjliacaa
open Go.RowKit Ks
set_option linter.unusedVariables false
set_option maxRecDepth 20000 in
set_option maxHeartbeats 4000000 in
theorem alive_any (w : World) : Calls Try.prog 9 #[] w fun e w' => e = .returned (.bool true) ∧ Below w.heap.size w w' := by
  refine calls_by fun R HR => ?_
  obtain ⟨A, hA⟩ : ∃ A, full4 ⟨#[97]⟩ = A := ⟨_, rfl⟩
  obtain ⟨B, hB⟩ : ∃ B, full4 ⟨#[98]⟩ = B := ⟨_, rfl⟩
  have sA : A.size = 4096 := by rw [← hA, full4, if_neg (by decide), ByteArray.size_append, show (4096 - ((⟨#[97]⟩ : ByteArray).size : Int)) = ((4095 : Nat) : Int) from by decide, zerosS_size]; rfl
  have sB : B.size = 4096 := by rw [← hB, full4, if_neg (by decide), ByteArray.size_append, show (4096 - ((⟨#[98]⟩ : ByteArray).size : Int)) = ((4095 : Nat) : Int) from by decide, zerosS_size]; rfl
  have CA : Hid (∀ w, Calls Try.prog 29 #[.string ⟨#[97]⟩] w fun e w' => e = .returned (.string A) ∧ Below w.heap.size w w') := Lib.hid fun w => hA ▸ full4_any _ w
  have CB : Hid (∀ w, Calls Try.prog 29 #[.string ⟨#[98]⟩] w fun e w' => e = .returned (.string B) ∧ Below w.heap.size w w') := Lib.hid fun w => hB ▸ full4_any _ w
  obtain ⟨e1, e2, e3, e4, e5⟩ := alive_plain A B sA sB
  have HE := Lib.hid (And.intro e1 (And.intro e2 (And.intro e3 (And.intro e4 e5))))
  clear e1 e2 e3 e4 e5 sA sB hA hB
  go_enter Try.func9, Try.ntmps9
  go_wp2_with fail
  refine (dnew_any 8 w (by omega) (by omega)).mono ?_
  rintro e w1 ⟨n, vb, rfl, hd, hb, hlow⟩
  have H1 := Lib.hid (And.intro hd (And.intro hb hlow))
  clear hd hb hlow
  go_wp2_with fail
  refine (CA.out _).mono ?_
  rintro e w2 ⟨rfl, hb⟩
  have H2 := Lib.hid (And.intro (H1.out.1.below hb) (H1.out.2.1.trans (hb.mono H1.out.2.1.size)))
  clear hb
  go_wp2_with fail
  refine (dwrite_any 1 A w2 H2.out.1).mono ?_
  rintro e w3 ⟨vc3, rfl, hd, ht⟩
  rw [HE.out.1]
  have H3 := Lib.hid (And.intro hd (And.intro (ht.below H1.out.2.2 H2.out.2.size) (ht.low H1.out.2.2 H2.out.2.size)))
  clear hd ht
  have hz3 := Lib.hid H3.out.2.1.size
  go_wp2_with fail
  refine (CB.out _).mono ?_
  rintro e w4 ⟨rfl, hb⟩
  have H4 := Lib.hid (And.intro (H3.out.1.below hb) ((H2.out.2.trans H3.out.2.1).trans (hb.mono (H2.out.2.trans H3.out.2.1).size)))
  clear hb
  go_wp2_with fail
  refine (dwrite_any 1 B w4 H4.out.1).mono ?_
  rintro e w5 ⟨vc5, rfl, hd, ht⟩
  rw [HE.out.2.1]
  have H5 := Lib.hid (And.intro hd (And.intro (H4.out.2.trans (ht.below H3.out.2.2 H4.out.2.size)) (ht.low H3.out.2.2 H4.out.2.size)))
  clear hd ht
  go_wp2_with fail
  have hrk : RdI (w5.alloc (.cells #[.int .i64 0] 3)) (.slice (some ⟨w5.heap.size, 0, none⟩) 1 1) [0] := by
    refine ⟨_, _, rfl, by decide, fun i x hx => ?_⟩
    obtain rfl : i = 0 := by have := (List.getElem?_eq_some_iff.1 hx).1; simp at this; omega
    simp at hx
    subst hx
    refine ⟨⟨_, _, rfl, by simp, ?_⟩, by decide, by decide⟩
    rw [cell_of_row _ _ _ _ _ _ (alloc_new w5 _)]; rfl
  have H6 := Lib.hid (And.intro (H5.out.1.below (alloc_below w5 (.cells #[.int .i64 0] 3))) (And.intro hrk (H5.out.2.1.alloc H5.out.2.1.size (.cells #[.int .i64 0] 3))))
  clear hrk
  generalize w5.alloc (.cells #[.int .i64 0] 3) = W6 at *
  refine (dcrash_any _ [0] W6 H6.out.1 H6.out.2.1 (by decide)).mono ?_
  rintro e w7 ⟨vc7, rfl, hd, ht⟩
  have H7 := Lib.hid (And.intro hd (And.intro (H6.out.2.2.trans (ht.below H5.out.2.2 H6.out.2.2.size)) (ht.low H5.out.2.2 H6.out.2.2.size)))
  clear hd ht
  go_wp2_with fail
  refine (dboot_any w7 H7.out.1).mono ?_
  rintro e w8 ⟨rfl, hd, ht⟩
  have H8 := Lib.hid (And.intro hd (H7.out.2.1.trans (ht.below H7.out.2.2 H7.out.2.1.size)))
  clear hd ht
  go_wp2_with fail
  refine (dread_any 1 w8 H8.out.1).mono ?_
  rintro e w9 ⟨rfl, rfl⟩
  rw [HE.out.2.2.1]
  go_wp2_with fail
  refine (CA.out _).mono ?_
  rintro e w10 ⟨rfl, hb⟩
  have H10 := Lib.hid (And.intro (H8.out.1.below hb) (H8.out.2.trans (hb.mono H8.out.2.size)))
  clear hb
  go_wp2_with fail
  refine (dsize_any w10 H10.out.1).mono ?_
  rintro e w11 ⟨rfl, rfl⟩
  rw [HE.out.2.2.2.1]
  go_wp2_with fail
  refine (ddown_any w11 H10.out.1).mono ?_
  rintro e w12 ⟨rfl, rfl⟩
  rw [HE.out.2.2.2.2]
  go_wp2
  exact HR.out _ _ ⟨rfl, H10.out.2⟩
end Go.Proofs.Ytielmlnbjliacaa
