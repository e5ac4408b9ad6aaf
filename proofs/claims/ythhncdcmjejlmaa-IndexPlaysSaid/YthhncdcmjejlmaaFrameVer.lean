/- Versions among a law's arguments. -/
import Derived.Test.YthhncdcmjejlmaaProg
import Derived.Test.YthhncdcmjejlmaaOpen
import Derived.Test.YthhncdcmjejlmaaIdxPlain
namespace Go.Proofs.Ythhncdcmjejlmaa
open Go Go.RowKit Go.ChangeShapes Go.WideShapes Go.ChangeAt Ks
set_option linter.unusedVariables false

theorem cellsVer : Try.prog.cellsOf 27 = 3 := by kernel_rfl
theorem cellsInt : Try.prog.cellsOf 3 = 1 := by kernel_rfl
def VerR (x : Ver) : Prop := (-9223372036854775808 ≤ x.1 ∧ x.1 ≤ 9223372036854775807) ∧ (-9223372036854775808 ≤ x.2.1 ∧ x.2.1 ≤ 9223372036854775807) ∧ (-9223372036854775808 ≤ x.2.2 ∧ x.2.2 ≤ 9223372036854775807)

theorem ver_of {H : Type} {enc : TypeId × Value → H} {W : World} (n : Nat) (cs : List Value) (d : DataW H × List MemPlace) (h : DataW.trod enc Try.prog W 0 (fun _ => true) true n 27 cs = some d) (hl : cs.length = verE.k) :
    ∃ x : Ver, cs = verE.enc x ∧ VerR x := by
  obtain ⟨xs, n, _, _, hl, hlen, hF⟩ := DataW.trod_struct Try.underlying27 h
  rw [cellsVer] at hl
  match cs, hl, xs, hlen with
  | [c0, c1, c2], _, [x0, x1, x2], _ =>
    have t0 := hF 0 _ rfl
    have t1 := hF 1 _ rfl
    have t2 := hF 2 _ rfl
    simp [cellsInt] at t0 t1 t2
    obtain ⟨e, h0, _, s0⟩ := DataW.trod_int Try.underlying3 t0
    obtain ⟨t, h1, _, s1⟩ := DataW.trod_int Try.underlying3 t1
    obtain ⟨u, h2, _, s2⟩ := DataW.trod_int Try.underlying3 t2
    simp at h0 h1 h2
    subst h0 h1 h2
    exact ⟨(e, t, u), rfl, i64_range s0, i64_range s1, i64_range s2⟩

theorem open_ver {H : Type} {enc : TypeId × Value → H} {W : World} {base : Nat} {v : Value} {d : DataW H} {ps : List MemPlace}
    (hok : Value.okWide Try.prog W .any base 27 v) (h : DataW.Trod enc Try.prog W 0 (fun _ => true) true 27 v d ps) :
    ∃ a b c : Int, v = .agg #[.int .i64 a, .int .i64 b, .int .i64 c] ∧ VerR (a, b, c) := by
  obtain ⟨fuel, hf⟩ := h
  have hv : ∃ cs, v = .agg cs := by
    have h0 := hok
    unfold Value.okWide at h0
    rw [Try.underlying27] at h0
    obtain ⟨cs, h1, _⟩ := h0
    exact ⟨cs, h1⟩
  obtain ⟨⟨cs⟩, rfl⟩ := hv
  have hl : cs.length = verE.k := by
    obtain ⟨xs, n, _, _, hl, _⟩ := DataW.trod_struct Try.underlying27 hf
    rw [cellsVer] at hl
    exact hl
  obtain ⟨⟨a, b, c⟩, e, hr⟩ := ver_of _ _ _ hf hl
  refine ⟨a, b, c, ?_, hr⟩
  have e2 : cs = [.int .i64 a, .int .i64 b, .int .i64 c] := e
  rw [e2]

theorem open_vers {H : Type} {enc : TypeId × Value → H} {W : World} {base : Nat} {v : Value} {d : DataW H} {ps : List MemPlace}
    (hok : Value.okWide Try.prog W .any base 22 v) (h : DataW.Trod enc Try.prog W 0 (fun _ => true) true 22 v d ps) :
    ∃ l, Rd verE W v l ∧ l.length ≤ maxLen ∧ ∀ x ∈ l, VerR x := rd_open (E := verE) Try.underlying22 cellsVer VerR ver_of hok h

end Go.Proofs.Ythhncdcmjejlmaa
