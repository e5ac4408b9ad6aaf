/- Texts among a law's arguments. -/
import Derived.Test.YtophfeapmmfppaaOpen
import Derived.Test.YtophfeapmmfppaaProg
import Derived.Test.YtophfeapmmfppaaStrE
namespace Go.Proofs.Ytophfeapmmfppaa
open Go Go.RowKit Go.ChangeShapes Go.WideShapes Go.ChangeAt Ks
set_option linter.unusedVariables false
theorem cellsStrS : Try.prog.cellsOf 9 = 1 := by kernel_rfl
theorem str_of {H : Type} {enc : TypeId × Value → H} {W : World} (n : Nat) (cs : List Value) (d : DataW H × List MemPlace) (h : DataW.trod enc Try.prog W 0 (fun _ => true) true n 9 cs = some d) (hl : cs.length = strE.k) :
    ∃ x : ByteArray, cs = strE.enc x ∧ x.size ≤ maxLen := by
  obtain ⟨t, h1, _, s1⟩ := DataW.trod_string Try.underlying9 h
  exact ⟨t, h1, s1⟩
set_option maxRecDepth 100000 in
theorem open_strs {H : Type} {enc : TypeId × Value → H} {W : World} {base : Nat} {v : Value} {d : DataW H} {ps : List MemPlace}
    (hok : Value.okWide Try.prog W .any base 22 v) (h : DataW.Trod enc Try.prog W 0 (fun _ => true) true 22 v d ps) : ∃ l, Rd strE W v l ∧ l.length ≤ maxLen ∧ ∀ x ∈ l, x.size ≤ maxLen :=
  rd_open (E := strE) Try.underlying22 cellsStrS _ str_of hok h
end Go.Proofs.Ytophfeapmmfppaa
