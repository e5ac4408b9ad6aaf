/-
  No cell of these rows narrows 'for every input' (looked for: loops, veiled, ifaces, maps, wideKeys, modest, calm, conditions, laid).
  DERIVED. THE GIVEN ROWS OF THIS SEAT. 3 by the template 'for every input the law returns true; each argument reads behind the call as it read before'; 0 by the template 'total and deterministic' (their statements: YtdbabkkmdlkjaaaTotals.lean).
  GIVEN WITH THE SEED: the statements are not yours to turn. If you find one false, say at which input.
  Laid BY PROGRAM, IN A SANDBOX (cutbox-rows.mjs): the forced cells as the released guide's own fill.sh prints them over the translation ede10354ee8890ea… (all of the seat's roots in one cut). By AI agents, Wed Nov 11 2026. No macro, syntax, notation, axiom, sorry.
-/
import Derived.Test.YtdbabkkmdlkjaaaChecked
import GoSem.Claim
import GoSem.ClaimJoined
import GoSem.ClaimMapViews
import Derived.JoinedTies
import Derived.KernelRfl
namespace Go.Proofs.Ytdbabkkmdlkjaaa
/- THE CELL 'sum', in the pinned program and in every row, IS THE sha256 OF THE DUMP (.gsa) THAT YtdbabkkmdlkjaaaProg.lean LOADS. Nothing in Lean hashes anything: it is a label: what it is worth is what the hold of that sum in a sandbox is worth. -/
noncomputable def Try.pinned : Pinned := { name := "ytdbabkkmdlkjaaa", sum := "ede10354ee8890ea74e74e7db2ebbd6ec4294649e512c0011eeec564ed08fc9c", checked := Try.checked }
namespace Rows
def none {H : Type} : Left H := { results := [], args := [] }

/-- 'keepsakelaw17.SegmentPlays': WHATEVER THE INPUT: true; the input reads as it did. -/
def segmentPlaysSpec : ChangeSpec := { name := "segmentPlays", fn := fun _ => fun
  | [d1, d2, d3] => { results := [.lit (.bool true)], args := [d1, d2, d3] }
  | _ => none }
def segmentPlaysRow : OpenClaim := { program := "ytdbabkkmdlkjaaa", sum := "ede10354ee8890ea74e74e7db2ebbd6ec4294649e512c0011eeec564ed08fc9c", func := "keepsake/keepsakelaw17.SegmentPlays", spec := "segmentPlays", inPlace := ["internal/abi.NoEscape", "internal/bytealg.MakeNoZero"], unfollowed := true, recurses := true, apart := false }
def SegmentPlaysSaid : Prop := segmentPlaysRow.holds Try.pinned (OpenSpec.ofChange segmentPlaysSpec)

/-- ITS FALSE NEIGHBOUR: 'it returns false'. Refute it at one input. -/
def segmentPlaysWrong : ChangeSpec := { name := "segmentPlays", fn := fun _ => fun
  | [d1, d2, d3] => { results := [.lit (.bool false)], args := [d1, d2, d3] }
  | _ => none }
def SegmentPlaysWrongFalsely : Prop := segmentPlaysRow.holds Try.pinned (OpenSpec.ofChange segmentPlaysWrong)

/-- 'keepsakelaw17.SegmentNil': WHATEVER THE INPUT: true; the input reads as it did. -/
def segmentNilSpec : ChangeSpec := { name := "segmentNil", fn := fun _ => fun
  | [d1, d2] => { results := [.lit (.bool true)], args := [d1, d2] }
  | _ => none }
def segmentNilRow : OpenClaim := { program := "ytdbabkkmdlkjaaa", sum := "ede10354ee8890ea74e74e7db2ebbd6ec4294649e512c0011eeec564ed08fc9c", func := "keepsake/keepsakelaw17.SegmentNil", spec := "segmentNil", inPlace := ["internal/abi.NoEscape", "internal/bytealg.MakeNoZero"], unfollowed := true, recurses := true, apart := false }
def SegmentNilSaid : Prop := segmentNilRow.holds Try.pinned (OpenSpec.ofChange segmentNilSpec)

/-- ITS FALSE NEIGHBOUR: 'it returns false'. Refute it at one input. -/
def segmentNilWrong : ChangeSpec := { name := "segmentNil", fn := fun _ => fun
  | [d1, d2] => { results := [.lit (.bool false)], args := [d1, d2] }
  | _ => none }
def SegmentNilWrongFalsely : Prop := segmentNilRow.holds Try.pinned (OpenSpec.ofChange segmentNilWrong)

/-- 'keepsakelaw17.SegmentLast': WHATEVER THE INPUT: true; the input reads as it did. -/
def segmentLastSpec : ChangeSpec := { name := "segmentLast", fn := fun _ => fun
  | [d1, d2, d3] => { results := [.lit (.bool true)], args := [d1, d2, d3] }
  | _ => none }
def segmentLastRow : OpenClaim := { program := "ytdbabkkmdlkjaaa", sum := "ede10354ee8890ea74e74e7db2ebbd6ec4294649e512c0011eeec564ed08fc9c", func := "keepsake/keepsakelaw17.SegmentLast", spec := "segmentLast", inPlace := ["internal/abi.NoEscape", "internal/bytealg.MakeNoZero"], unfollowed := true, recurses := true, apart := false }
def SegmentLastSaid : Prop := segmentLastRow.holds Try.pinned (OpenSpec.ofChange segmentLastSpec)

/-- ITS FALSE NEIGHBOUR: 'it returns false'. Refute it at one input. -/
def segmentLastWrong : ChangeSpec := { name := "segmentLast", fn := fun _ => fun
  | [d1, d2, d3] => { results := [.lit (.bool false)], args := [d1, d2, d3] }
  | _ => none }
def SegmentLastWrongFalsely : Prop := segmentLastRow.holds Try.pinned (OpenSpec.ofChange segmentLastWrong)

/- THE SECOND FORM. 'bulk': how many values and letters a reading holds, each counted each time it is reached (what is shared counts as often as it is met; a slice's spare places count too). A statement '..UptoSaid' is the law's where the arguments, and the package variables that the reading takes, are together of bulk at most 1048576: NARROWER than '..Said'. Prove '..Said' where nothing that the law and all that it calls make is longer than what came in: it says more and counts as full. Else prove '..UptoSaid'. A law counts once. -/
mutual
def uptoBulk {H : Type} : DataW H → Nat
  | .lit (.string bytes) => bytes.length + 1
  | .lit _ => 1
  | .nil => 1
  | .ptr d => uptoBulk d + 1
  | .slice elems spare => uptoBulkAll elems + uptoBulkAll spare + 1
  | .agg parts => uptoBulkAll parts + 1
  | .iface _ d => uptoBulk d + 1
  | .map entries => uptoBulkEntries entries + 1
  | .held _ => 1
def uptoBulkAll {H : Type} : List (DataW H) → Nat
  | [] => 0
  | d :: r => uptoBulk d + uptoBulkAll r
def uptoBulkEntries {H : Type} : List (Lit × DataW H) → Nat
  | [] => 0
  | x :: r => uptoBulkEntry x + uptoBulkEntries r
def uptoBulkEntry {H : Type} : Lit × DataW H → Nat
  | (.string bytes, d) => bytes.length + uptoBulk d + 1
  | (_, d) => uptoBulk d + 1
 end
def uptoSmall : (H : Type) → List (DataW H) → Bool := fun _ ds => decide (uptoBulkAll ds ≤ 1048576)
def OpenSpec.upto (s : _root_.Go.ChangeSpec) : _root_.Go.OpenSpec := { _root_.Go.OpenSpec.ofChange s with cond := some uptoSmall }

/-- 'keepsakelaw17.SegmentPlays', WHERE WHAT IT READS IS OF BULK AT MOST 1048576: true; the input reads as it did. -/
def segmentPlaysUptoRow : OpenClaim := { program := "ytdbabkkmdlkjaaa", sum := "ede10354ee8890ea74e74e7db2ebbd6ec4294649e512c0011eeec564ed08fc9c", func := "keepsake/keepsakelaw17.SegmentPlays", spec := "segmentPlays", inPlace := ["internal/abi.NoEscape", "internal/bytealg.MakeNoZero"], unfollowed := true, recurses := true, apart := false, narrowed := true }
def SegmentPlaysUptoSaid : Prop := segmentPlaysUptoRow.holds Try.pinned (OpenSpec.upto segmentPlaysSpec)

/-- 'keepsakelaw17.SegmentNil', WHERE WHAT IT READS IS OF BULK AT MOST 1048576: true; the input reads as it did. -/
def segmentNilUptoRow : OpenClaim := { program := "ytdbabkkmdlkjaaa", sum := "ede10354ee8890ea74e74e7db2ebbd6ec4294649e512c0011eeec564ed08fc9c", func := "keepsake/keepsakelaw17.SegmentNil", spec := "segmentNil", inPlace := ["internal/abi.NoEscape", "internal/bytealg.MakeNoZero"], unfollowed := true, recurses := true, apart := false, narrowed := true }
def SegmentNilUptoSaid : Prop := segmentNilUptoRow.holds Try.pinned (OpenSpec.upto segmentNilSpec)

/-- 'keepsakelaw17.SegmentLast', WHERE WHAT IT READS IS OF BULK AT MOST 1048576: true; the input reads as it did. -/
def segmentLastUptoRow : OpenClaim := { program := "ytdbabkkmdlkjaaa", sum := "ede10354ee8890ea74e74e7db2ebbd6ec4294649e512c0011eeec564ed08fc9c", func := "keepsake/keepsakelaw17.SegmentLast", spec := "segmentLast", inPlace := ["internal/abi.NoEscape", "internal/bytealg.MakeNoZero"], unfollowed := true, recurses := true, apart := false, narrowed := true }
def SegmentLastUptoSaid : Prop := segmentLastUptoRow.holds Try.pinned (OpenSpec.upto segmentLastSpec)

end Rows
end Go.Proofs.Ytdbabkkmdlkjaaa
