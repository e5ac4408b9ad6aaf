/- A letter among a law's arguments. -/
import Derived.Test.YtpdnjhofmngfdaaProg
import Derived.Test.YtpdnjhofmngfdaaFrame2
namespace Go.Proofs.Ytpdnjhofmngfdaa
open Go Go.RowKit Go.ChangeShapes Go.WideShapes Go.ChangeAt Ks
set_option linter.unusedVariables false

theorem cellsLetter : Try.prog.cellsOf 24 = 2 := by kernel_rfl
theorem cellsInt : Try.prog.cellsOf 3 = 1 := by kernel_rfl
theorem cellsString : Try.prog.cellsOf 9 = 1 := by kernel_rfl

theorem open_letter {H : Type} {enc : TypeId × Value → H} {W : World} {base : Nat} {v : Value} {d : DataW H} {ps : List MemPlace}
    (hok : Value.okWide Try.prog W .any base 24 v) (h : DataW.Trod enc Try.prog W 0 (fun _ => true) true 24 v d ps) :
    ∃ (t : Int) (s : ByteArray), v = .agg #[.int .i64 t, .string s] ∧ (-9223372036854775808 ≤ t ∧ t ≤ 9223372036854775807) ∧ s.size ≤ maxLen := by
  obtain ⟨fuel, hf⟩ := h
  have hv : ∃ cs, v = .agg cs := by
    have h0 := hok
    unfold Value.okWide at h0
    rw [Try.underlying24] at h0
    obtain ⟨cs, h1, _⟩ := h0
    exact ⟨cs, h1⟩
  obtain ⟨⟨cs⟩, rfl⟩ := hv
  obtain ⟨xs, n, _, _, hl, hlen, hF⟩ := DataW.trod_struct Try.underlying24 hf
  rw [cellsLetter] at hl
  simp only [Value.cells] at hl hF
  match cs, hl, xs, hlen with
  | [c0, c1], _, [x0, x1], _ =>
    have t0 := hF 0 _ rfl
    have t1 := hF 1 _ rfl
    simp [cellsInt, cellsString] at t0 t1
    obtain ⟨e, h0, _, s0⟩ := DataW.trod_int Try.underlying3 t0
    obtain ⟨t, h1, _, s1⟩ := DataW.trod_string Try.underlying9 t1
    simp at h0 h1
    subst h0 h1
    exact ⟨e, t, rfl, i64_range s0, s1⟩

end Go.Proofs.Ytpdnjhofmngfdaa
