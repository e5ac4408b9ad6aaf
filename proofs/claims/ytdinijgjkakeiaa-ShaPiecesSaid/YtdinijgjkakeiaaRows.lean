/-
  No cell of these rows narrows 'for every input' (looked for: loops, veiled, ifaces, maps, wideKeys, modest, calm, conditions, laid).
  DERIVED. THE GIVEN ROWS OF THIS SEAT. 6 by the template 'for every input the law returns true; each argument reads behind the call as it read before'; 0 by the template 'total and deterministic' (their statements: YtdinijgjkakeiaaTotals.lean).
  GIVEN WITH THE SEED: the statements are not yours to turn. If you find one false, say at which input.
  Laid BY PROGRAM, IN A SANDBOX (cutbox-rows.mjs): the forced cells as the released guide's own fill.sh prints them over the translation 6b092357bd5183dc… (all of the seat's roots in one cut). By AI agents, Wed Nov 11 2026. No macro, syntax, notation, axiom, sorry.
-/
import Derived.Test.YtdinijgjkakeiaaChecked
import GoSem.Claim
import GoSem.ClaimJoined
import GoSem.ClaimMapViews
import Derived.JoinedTies
import Derived.KernelRfl
namespace Go.Proofs.Ytdinijgjkakeiaa
/- THE CELL 'sum', in the pinned program and in every row, IS THE sha256 OF THE DUMP (.gsa) THAT YtdinijgjkakeiaaProg.lean LOADS. Nothing in Lean hashes anything: it is a label: what it is worth is what the hold of that sum in a sandbox is worth. -/
noncomputable def Try.pinned : Pinned := { name := "ytdinijgjkakeiaa", sum := "6b092357bd5183dc89d6ef3f51a70840cf295b829bdb675f5e52f045f43002e8", checked := Try.checked }
namespace Rows
def none {H : Type} : Left H := { results := [], args := [] }

/-- 'keepsakelaw02.ShaSums': WHATEVER THE INPUT: true; the input reads as it did. -/
def shaSumsSpec : ChangeSpec := { name := "shaSums", fn := fun _ => fun
  | [d] => { results := [.lit (.bool true)], args := [d] }
  | _ => none }
def shaSumsRow : OpenClaim := { program := "ytdinijgjkakeiaa", sum := "6b092357bd5183dc89d6ef3f51a70840cf295b829bdb675f5e52f045f43002e8", func := "keepsake/keepsakelaw02.ShaSums", spec := "shaSums", inPlace := ["internal/abi.NoEscape", "internal/bytealg.MakeNoZero"], apart := false }
def ShaSumsSaid : Prop := shaSumsRow.holds Try.pinned (OpenSpec.ofChange shaSumsSpec)

/-- ITS FALSE NEIGHBOUR: 'it returns false'. Refute it at one input. -/
def shaSumsWrong : ChangeSpec := { name := "shaSums", fn := fun _ => fun
  | [d] => { results := [.lit (.bool false)], args := [d] }
  | _ => none }
def ShaSumsWrongFalsely : Prop := shaSumsRow.holds Try.pinned (OpenSpec.ofChange shaSumsWrong)

/-- 'keepsakelaw02.ShaConstants': WHATEVER THE INPUT: true; the input reads as it did. -/
def shaConstantsSpec : ChangeSpec := { name := "shaConstants", fn := fun _ => fun
  | [d] => { results := [.lit (.bool true)], args := [d] }
  | _ => none }
def shaConstantsRow : OpenClaim := { program := "ytdinijgjkakeiaa", sum := "6b092357bd5183dc89d6ef3f51a70840cf295b829bdb675f5e52f045f43002e8", func := "keepsake/keepsakelaw02.ShaConstants", spec := "shaConstants", inPlace := ["internal/abi.NoEscape", "internal/bytealg.MakeNoZero"], apart := false }
def ShaConstantsSaid : Prop := shaConstantsRow.holds Try.pinned (OpenSpec.ofChange shaConstantsSpec)

/-- ITS FALSE NEIGHBOUR: 'it returns false'. Refute it at one input. -/
def shaConstantsWrong : ChangeSpec := { name := "shaConstants", fn := fun _ => fun
  | [d] => { results := [.lit (.bool false)], args := [d] }
  | _ => none }
def ShaConstantsWrongFalsely : Prop := shaConstantsRow.holds Try.pinned (OpenSpec.ofChange shaConstantsWrong)

/-- 'keepsakelaw02.ShaSteps': WHATEVER THE INPUT: true; the input reads as it did. -/
def shaStepsSpec : ChangeSpec := { name := "shaSteps", fn := fun _ => fun
  | [d1, d2, d3] => { results := [.lit (.bool true)], args := [d1, d2, d3] }
  | _ => none }
def shaStepsRow : OpenClaim := { program := "ytdinijgjkakeiaa", sum := "6b092357bd5183dc89d6ef3f51a70840cf295b829bdb675f5e52f045f43002e8", func := "keepsake/keepsakelaw02.ShaSteps", spec := "shaSteps", inPlace := ["internal/abi.NoEscape", "internal/bytealg.MakeNoZero"], apart := false }
def ShaStepsSaid : Prop := shaStepsRow.holds Try.pinned (OpenSpec.ofChange shaStepsSpec)

/-- ITS FALSE NEIGHBOUR: 'it returns false'. Refute it at one input. -/
def shaStepsWrong : ChangeSpec := { name := "shaSteps", fn := fun _ => fun
  | [d1, d2, d3] => { results := [.lit (.bool false)], args := [d1, d2, d3] }
  | _ => none }
def ShaStepsWrongFalsely : Prop := shaStepsRow.holds Try.pinned (OpenSpec.ofChange shaStepsWrong)

/-- 'keepsakelaw02.ShaFolds': WHATEVER THE INPUT: true; the input reads as it did. -/
def shaFoldsSpec : ChangeSpec := { name := "shaFolds", fn := fun _ => fun
  | [d] => { results := [.lit (.bool true)], args := [d] }
  | _ => none }
def shaFoldsRow : OpenClaim := { program := "ytdinijgjkakeiaa", sum := "6b092357bd5183dc89d6ef3f51a70840cf295b829bdb675f5e52f045f43002e8", func := "keepsake/keepsakelaw02.ShaFolds", spec := "shaFolds", inPlace := ["internal/abi.NoEscape", "internal/bytealg.MakeNoZero"], apart := false }
def ShaFoldsSaid : Prop := shaFoldsRow.holds Try.pinned (OpenSpec.ofChange shaFoldsSpec)

/-- ITS FALSE NEIGHBOUR: 'it returns false'. Refute it at one input. -/
def shaFoldsWrong : ChangeSpec := { name := "shaFolds", fn := fun _ => fun
  | [d] => { results := [.lit (.bool false)], args := [d] }
  | _ => none }
def ShaFoldsWrongFalsely : Prop := shaFoldsRow.holds Try.pinned (OpenSpec.ofChange shaFoldsWrong)

/-- 'keepsakelaw02.ShaPieces': WHATEVER THE INPUT: true; the input reads as it did. -/
def shaPiecesSpec : ChangeSpec := { name := "shaPieces", fn := fun _ => fun
  | [d1, d2] => { results := [.lit (.bool true)], args := [d1, d2] }
  | _ => none }
def shaPiecesRow : OpenClaim := { program := "ytdinijgjkakeiaa", sum := "6b092357bd5183dc89d6ef3f51a70840cf295b829bdb675f5e52f045f43002e8", func := "keepsake/keepsakelaw02.ShaPieces", spec := "shaPieces", inPlace := ["internal/abi.NoEscape", "internal/bytealg.MakeNoZero"], apart := false }
def ShaPiecesSaid : Prop := shaPiecesRow.holds Try.pinned (OpenSpec.ofChange shaPiecesSpec)

/-- ITS FALSE NEIGHBOUR: 'it returns false'. Refute it at one input. -/
def shaPiecesWrong : ChangeSpec := { name := "shaPieces", fn := fun _ => fun
  | [d1, d2] => { results := [.lit (.bool false)], args := [d1, d2] }
  | _ => none }
def ShaPiecesWrongFalsely : Prop := shaPiecesRow.holds Try.pinned (OpenSpec.ofChange shaPiecesWrong)

/-- 'keepsakelaw02.ShaNil': WHATEVER THE INPUT: true; the input reads as it did. -/
def shaNilSpec : ChangeSpec := { name := "shaNil", fn := fun _ => fun
  | [d1, d2] => { results := [.lit (.bool true)], args := [d1, d2] }
  | _ => none }
def shaNilRow : OpenClaim := { program := "ytdinijgjkakeiaa", sum := "6b092357bd5183dc89d6ef3f51a70840cf295b829bdb675f5e52f045f43002e8", func := "keepsake/keepsakelaw02.ShaNil", spec := "shaNil", inPlace := ["internal/abi.NoEscape", "internal/bytealg.MakeNoZero"], apart := false }
def ShaNilSaid : Prop := shaNilRow.holds Try.pinned (OpenSpec.ofChange shaNilSpec)

/-- ITS FALSE NEIGHBOUR: 'it returns false'. Refute it at one input. -/
def shaNilWrong : ChangeSpec := { name := "shaNil", fn := fun _ => fun
  | [d1, d2] => { results := [.lit (.bool false)], args := [d1, d2] }
  | _ => none }
def ShaNilWrongFalsely : Prop := shaNilRow.holds Try.pinned (OpenSpec.ofChange shaNilWrong)

/- THE SECOND FORM. 'bulk': how many values and letters a reading holds, each counted each time it is reached (what is shared counts as often as it is met; a slice's spare places count too). A statement '..UptoSaid' is the law's where the arguments, and the package variables that the reading takes, are together of bulk at most 1048576: NARROWER than '..Said'. Prove '..Said' where nothing that the law and all that it calls make is longer than what came in: it says more and counts as full. Else prove '..UptoSaid'. A law counts once. -/
mutual
def uptoBulk {H : Type} : DataW H → Nat
  | .lit (.string bytes) => bytes.length + 1
  | .lit _ => 1
  | .nil => 1
  | .ptr d => uptoBulk d + 1
  | .slice elems spare => uptoBulkAll elems + uptoBulkAll spare + 1
  | .agg parts => uptoBulkAll parts + 1
  | .iface _ d => uptoBulk d + 1
  | .map entries => uptoBulkEntries entries + 1
  | .held _ => 1
def uptoBulkAll {H : Type} : List (DataW H) → Nat
  | [] => 0
  | d :: r => uptoBulk d + uptoBulkAll r
def uptoBulkEntries {H : Type} : List (Lit × DataW H) → Nat
  | [] => 0
  | x :: r => uptoBulkEntry x + uptoBulkEntries r
def uptoBulkEntry {H : Type} : Lit × DataW H → Nat
  | (.string bytes, d) => bytes.length + uptoBulk d + 1
  | (_, d) => uptoBulk d + 1
 end
def uptoSmall : (H : Type) → List (DataW H) → Bool := fun _ ds => decide (uptoBulkAll ds ≤ 1048576)
def OpenSpec.upto (s : _root_.Go.ChangeSpec) : _root_.Go.OpenSpec := { _root_.Go.OpenSpec.ofChange s with cond := some uptoSmall }

/-- 'keepsakelaw02.ShaSums', WHERE WHAT IT READS IS OF BULK AT MOST 1048576: true; the input reads as it did. -/
def shaSumsUptoRow : OpenClaim := { program := "ytdinijgjkakeiaa", sum := "6b092357bd5183dc89d6ef3f51a70840cf295b829bdb675f5e52f045f43002e8", func := "keepsake/keepsakelaw02.ShaSums", spec := "shaSums", inPlace := ["internal/abi.NoEscape", "internal/bytealg.MakeNoZero"], apart := false, narrowed := true }
def ShaSumsUptoSaid : Prop := shaSumsUptoRow.holds Try.pinned (OpenSpec.upto shaSumsSpec)

/-- 'keepsakelaw02.ShaConstants', WHERE WHAT IT READS IS OF BULK AT MOST 1048576: true; the input reads as it did. -/
def shaConstantsUptoRow : OpenClaim := { program := "ytdinijgjkakeiaa", sum := "6b092357bd5183dc89d6ef3f51a70840cf295b829bdb675f5e52f045f43002e8", func := "keepsake/keepsakelaw02.ShaConstants", spec := "shaConstants", inPlace := ["internal/abi.NoEscape", "internal/bytealg.MakeNoZero"], apart := false, narrowed := true }
def ShaConstantsUptoSaid : Prop := shaConstantsUptoRow.holds Try.pinned (OpenSpec.upto shaConstantsSpec)

/-- 'keepsakelaw02.ShaSteps', WHERE WHAT IT READS IS OF BULK AT MOST 1048576: true; the input reads as it did. -/
def shaStepsUptoRow : OpenClaim := { program := "ytdinijgjkakeiaa", sum := "6b092357bd5183dc89d6ef3f51a70840cf295b829bdb675f5e52f045f43002e8", func := "keepsake/keepsakelaw02.ShaSteps", spec := "shaSteps", inPlace := ["internal/abi.NoEscape", "internal/bytealg.MakeNoZero"], apart := false, narrowed := true }
def ShaStepsUptoSaid : Prop := shaStepsUptoRow.holds Try.pinned (OpenSpec.upto shaStepsSpec)

/-- 'keepsakelaw02.ShaFolds', WHERE WHAT IT READS IS OF BULK AT MOST 1048576: true; the input reads as it did. -/
def shaFoldsUptoRow : OpenClaim := { program := "ytdinijgjkakeiaa", sum := "6b092357bd5183dc89d6ef3f51a70840cf295b829bdb675f5e52f045f43002e8", func := "keepsake/keepsakelaw02.ShaFolds", spec := "shaFolds", inPlace := ["internal/abi.NoEscape", "internal/bytealg.MakeNoZero"], apart := false, narrowed := true }
def ShaFoldsUptoSaid : Prop := shaFoldsUptoRow.holds Try.pinned (OpenSpec.upto shaFoldsSpec)

/-- 'keepsakelaw02.ShaPieces', WHERE WHAT IT READS IS OF BULK AT MOST 1048576: true; the input reads as it did. -/
def shaPiecesUptoRow : OpenClaim := { program := "ytdinijgjkakeiaa", sum := "6b092357bd5183dc89d6ef3f51a70840cf295b829bdb675f5e52f045f43002e8", func := "keepsake/keepsakelaw02.ShaPieces", spec := "shaPieces", inPlace := ["internal/abi.NoEscape", "internal/bytealg.MakeNoZero"], apart := false, narrowed := true }
def ShaPiecesUptoSaid : Prop := shaPiecesUptoRow.holds Try.pinned (OpenSpec.upto shaPiecesSpec)

/-- 'keepsakelaw02.ShaNil', WHERE WHAT IT READS IS OF BULK AT MOST 1048576: true; the input reads as it did. -/
def shaNilUptoRow : OpenClaim := { program := "ytdinijgjkakeiaa", sum := "6b092357bd5183dc89d6ef3f51a70840cf295b829bdb675f5e52f045f43002e8", func := "keepsake/keepsakelaw02.ShaNil", spec := "shaNil", inPlace := ["internal/abi.NoEscape", "internal/bytealg.MakeNoZero"], apart := false, narrowed := true }
def ShaNilUptoSaid : Prop := shaNilUptoRow.holds Try.pinned (OpenSpec.upto shaNilSpec)

end Rows
end Go.Proofs.Ytdinijgjkakeiaa
