/- A cell among a law's arguments. -/
import Derived.Test.YtcfjfnnmfdfmaaaProg
import Derived.Test.YtcfjfnnmfdfmaaaFrame2
namespace Go.Proofs.Ytcfjfnnmfdfmaaa
open Go Go.RowKit Go.ChangeShapes Go.WideShapes Go.ChangeAt Ks
set_option linter.unusedVariables false

theorem cellsCell : Try.prog.cellsOf 23 = 5 := by kernel_rfl
theorem cellsInt : Try.prog.cellsOf 3 = 1 := by kernel_rfl
theorem cellsBool : Try.prog.cellsOf 4 = 1 := by kernel_rfl
theorem cellsString : Try.prog.cellsOf 9 = 1 := by kernel_rfl

theorem open_cell {H : Type} {enc : TypeId × Value → H} {W : World} {base : Nat} {v : Value} {d : DataW H} {ps : List MemPlace}
    (hok : Value.okWide Try.prog W .any base 23 v) (h : DataW.Trod enc Try.prog W 0 (fun _ => true) true 23 v d ps) :
    ∃ (e s l : Int) (g : Bool) (t : ByteArray), v = .agg #[.int .i64 e, .int .i64 s, .int .i64 l, .bool g, .string t] ∧
      (-9223372036854775808 ≤ e ∧ e ≤ 9223372036854775807) ∧ (-9223372036854775808 ≤ s ∧ s ≤ 9223372036854775807) ∧ (-9223372036854775808 ≤ l ∧ l ≤ 9223372036854775807) ∧ t.size ≤ maxLen := by
  obtain ⟨fuel, hf⟩ := h
  have hv : ∃ cs, v = .agg cs := by
    have h0 := hok
    unfold Value.okWide at h0
    rw [Try.underlying23] at h0
    obtain ⟨cs, h1, _⟩ := h0
    exact ⟨cs, h1⟩
  obtain ⟨⟨cs⟩, rfl⟩ := hv
  obtain ⟨xs, n, _, _, hl, hlen, hF⟩ := DataW.trod_struct Try.underlying23 hf
  rw [cellsCell] at hl
  simp only [Value.cells] at hl hF
  match cs, hl, xs, hlen with
  | [c0, c1, c2, c3, c4], _, [x0, x1, x2, x3, x4], _ =>
    have t0 := hF 0 _ rfl
    have t1 := hF 1 _ rfl
    have t2 := hF 2 _ rfl
    have t3 := hF 3 _ rfl
    have t4 := hF 4 _ rfl
    simp [cellsInt, cellsBool, cellsString] at t0 t1 t2 t3 t4
    obtain ⟨e, h0, _, s0⟩ := DataW.trod_int Try.underlying3 t0
    obtain ⟨s, h1, _, s1⟩ := DataW.trod_int Try.underlying3 t1
    obtain ⟨l, h2, _, s2⟩ := DataW.trod_int Try.underlying3 t2
    obtain ⟨g, h3, _⟩ := DataW.trod_bool Try.underlying4 t3
    obtain ⟨t, h4, _, s4⟩ := DataW.trod_string Try.underlying9 t4
    simp at h0 h1 h2 h3 h4
    subst h0 h1 h2 h3 h4
    exact ⟨e, s, l, g, t, rfl, i64_range s0, i64_range s1, i64_range s2, s4⟩

end Go.Proofs.Ytcfjfnnmfdfmaaa
