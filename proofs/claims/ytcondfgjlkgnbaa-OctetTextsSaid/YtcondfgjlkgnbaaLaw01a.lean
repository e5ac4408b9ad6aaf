/- The laws OctetPuts, OctetOrder and OctetTexts: what the walks give. -/
import Derived.Test.YtcondfgjlkgnbaaAlive01
namespace Go.Proofs.Ytcondfgjlkgnbaa
open Go.RowKit Ks
set_option linter.unusedVariables false

set_option maxHeartbeats 400000 in
theorem law_puts (n width : Int) (s : ByteArray) (w : World) (hn : n ≤ 9223372036854775807) :
    Calls Try.prog 3 #[.int .i64 n, .int .i64 width, .string s] w fun e w' => e = .returned (.bool true) ∧ Below w.heap.size w w' := by
  refine calls_by fun R HR => ?_
  go_enter Try.func3, Try.ntmps3
  go_wp2_with fail
  refine (put_any _ _ _ hn).mono ?_
  rintro e w1 ⟨rfl, hb1⟩
  go_wp2_with fail
  refine (rput_any _ _ _ hn).mono ?_
  rintro e w2 ⟨rfl, hb2⟩
  go_wp2_with fail
  refine (get_any _ _).mono ?_
  rintro e w3 ⟨rfl, rfl⟩
  go_wp2_with fail
  refine (rget_any _ _).mono ?_
  rintro e w4 ⟨rfl, rfl⟩
  go_wp2_with fail
  refine (alive_any _).mono ?_
  rintro e w5 ⟨rfl, hb5⟩
  go_wp2
  have h1 := hb1.trans (hb2.mono hb1.size)
  exact HR.out _ _ ⟨rfl, h1.trans (hb5.mono h1.size)⟩

set_option maxHeartbeats 400000 in
theorem law_texts (s : ByteArray) (n : Int) (w : World) :
    Calls Try.prog 7 #[.string s, .int .i64 n] w fun e w' => e = .returned (.bool true) ∧ Below w.heap.size w w' := by
  refine calls_by fun R HR => ?_
  by_cases hs : s.size ≤ 10000
  · go_enter Try.func7, Try.ntmps7
    go_wp2_with fail
    refine (cut_any _ _ (by omega)).mono ?_
    rintro e w1 ⟨rfl, hb1⟩
    go_wp2_with fail
    refine (rcut_any _ _ (by omega)).mono ?_
    rintro e w2 ⟨rfl, hb2⟩
    go_wp2_with fail
    refine (fill_any _ _ _).mono ?_
    rintro e w3 ⟨rfl, hb3⟩
    go_wp2_with fail
    refine (rfill_any _ _ _).mono ?_
    rintro e w4 ⟨rfl, hb4⟩
    have h12 := hb1.trans (hb2.mono hb1.size)
    have h13 := h12.trans (hb3.mono h12.size)
    have h14 := h13.trans (hb4.mono h13.size)
    clear hb1 hb2 hb3 hb4 h12 h13
    go_wp2_with fail
    refine (text_any _ _ (by omega)).mono ?_
    rintro e w5 ⟨rfl, hb5⟩
    go_wp2_with fail
    refine (rtext_any _ _ (by omega)).mono ?_
    rintro e w6 ⟨rfl, hb6⟩
    have h15 := h14.trans (hb5.mono h14.size)
    have h16 := h15.trans (hb6.mono h15.size)
    clear hb5 hb6 h15 h14
    go_wp2_with fail
    refine (alive_any _).mono ?_
    rintro e w7 ⟨rfl, hb7⟩
    go_wp2
    exact HR.out _ _ ⟨rfl, h16.trans (hb7.mono h16.size)⟩
  · go_enter Try.func7, Try.ntmps7
    go_wp2_with fail
    refine (alive_any _).mono ?_
    rintro e w5 ⟨rfl, hb5⟩
    go_wp2
    exact HR.out _ _ ⟨rfl, hb5⟩

end Go.Proofs.Ytcondfgjlkgnbaa
