/-
  No cell of these rows narrows 'for every input' (looked for: loops, veiled, ifaces, maps, wideKeys, modest, calm, conditions, laid).
  DERIVED. THE GIVEN ROWS OF THIS SEAT. 4 by the template 'for every input the law returns true; each argument reads behind the call as it read before'; 0 by the template 'total and deterministic' (their statements: YtedjngljblhmpaaTotals.lean).
  GIVEN WITH THE SEED: the statements are not yours to turn. If you find one false, say at which input.
  Laid BY PROGRAM, IN A SANDBOX (cutbox-rows.mjs): the forced cells as the released guide's own fill.sh prints them over the translation d3c2fff6fc66a368… (all of the seat's roots in one cut). By AI agents, Wed Nov 11 2026. No macro, syntax, notation, axiom, sorry.
-/
import Derived.Test.YtedjngljblhmpaaChecked
import GoSem.Claim
import GoSem.ClaimJoined
import GoSem.ClaimMapViews
import Derived.JoinedTies
import Derived.KernelRfl
namespace Go.Proofs.Ytedjngljblhmpaa
/- THE CELL 'sum', in the pinned program and in every row, IS THE sha256 OF THE DUMP (.gsa) THAT YtedjngljblhmpaaProg.lean LOADS. Nothing in Lean hashes anything: it is a label: what it is worth is what the hold of that sum in a sandbox is worth. -/
noncomputable def Try.pinned : Pinned := { name := "ytedjngljblhmpaa", sum := "d3c2fff6fc66a368567d85aca179638ad909533afd695412bc753c86c76d4a36", checked := Try.checked }
namespace Rows
def none {H : Type} : Left H := { results := [], args := [] }

/-- 'keepsakelaw11.SlotsPuts': WHATEVER THE INPUT: true; the input reads as it did. -/
def slotsPutsSpec : ChangeSpec := { name := "slotsPuts", fn := fun _ => fun
  | [d1, d2, d3] => { results := [.lit (.bool true)], args := [d1, d2, d3] }
  | _ => none }
def slotsPutsRow : OpenClaim := { program := "ytedjngljblhmpaa", sum := "d3c2fff6fc66a368567d85aca179638ad909533afd695412bc753c86c76d4a36", func := "keepsake/keepsakelaw11.SlotsPuts", spec := "slotsPuts", inPlace := ["internal/abi.NoEscape", "internal/bytealg.MakeNoZero"], unfollowed := true, recurses := true, apart := false }
def SlotsPutsSaid : Prop := slotsPutsRow.holds Try.pinned (OpenSpec.ofChange slotsPutsSpec)

/-- ITS FALSE NEIGHBOUR: 'it returns false'. Refute it at one input. -/
def slotsPutsWrong : ChangeSpec := { name := "slotsPuts", fn := fun _ => fun
  | [d1, d2, d3] => { results := [.lit (.bool false)], args := [d1, d2, d3] }
  | _ => none }
def SlotsPutsWrongFalsely : Prop := slotsPutsRow.holds Try.pinned (OpenSpec.ofChange slotsPutsWrong)

/-- 'keepsakelaw11.SlotsPicks': WHATEVER THE INPUT: true; the input reads as it did. -/
def slotsPicksSpec : ChangeSpec := { name := "slotsPicks", fn := fun _ => fun
  | [d1, d2, d3] => { results := [.lit (.bool true)], args := [d1, d2, d3] }
  | _ => none }
def slotsPicksRow : OpenClaim := { program := "ytedjngljblhmpaa", sum := "d3c2fff6fc66a368567d85aca179638ad909533afd695412bc753c86c76d4a36", func := "keepsake/keepsakelaw11.SlotsPicks", spec := "slotsPicks", inPlace := ["internal/abi.NoEscape", "internal/bytealg.MakeNoZero"], unfollowed := true, recurses := true, apart := false }
def SlotsPicksSaid : Prop := slotsPicksRow.holds Try.pinned (OpenSpec.ofChange slotsPicksSpec)

/-- ITS FALSE NEIGHBOUR: 'it returns false'. Refute it at one input. -/
def slotsPicksWrong : ChangeSpec := { name := "slotsPicks", fn := fun _ => fun
  | [d1, d2, d3] => { results := [.lit (.bool false)], args := [d1, d2, d3] }
  | _ => none }
def SlotsPicksWrongFalsely : Prop := slotsPicksRow.holds Try.pinned (OpenSpec.ofChange slotsPicksWrong)

/-- 'keepsakelaw11.SlotsEvolves': WHATEVER THE INPUT: true; the input reads as it did. -/
def slotsEvolvesSpec : ChangeSpec := { name := "slotsEvolves", fn := fun _ => fun
  | [d1, d2, d3, d4] => { results := [.lit (.bool true)], args := [d1, d2, d3, d4] }
  | _ => none }
def slotsEvolvesRow : OpenClaim := { program := "ytedjngljblhmpaa", sum := "d3c2fff6fc66a368567d85aca179638ad909533afd695412bc753c86c76d4a36", func := "keepsake/keepsakelaw11.SlotsEvolves", spec := "slotsEvolves", inPlace := ["internal/abi.NoEscape", "internal/bytealg.MakeNoZero"], unfollowed := true, recurses := true, apart := false }
def SlotsEvolvesSaid : Prop := slotsEvolvesRow.holds Try.pinned (OpenSpec.ofChange slotsEvolvesSpec)

/-- ITS FALSE NEIGHBOUR: 'it returns false'. Refute it at one input. -/
def slotsEvolvesWrong : ChangeSpec := { name := "slotsEvolves", fn := fun _ => fun
  | [d1, d2, d3, d4] => { results := [.lit (.bool false)], args := [d1, d2, d3, d4] }
  | _ => none }
def SlotsEvolvesWrongFalsely : Prop := slotsEvolvesRow.holds Try.pinned (OpenSpec.ofChange slotsEvolvesWrong)

/-- 'keepsakelaw11.SlotsBoth': WHATEVER THE INPUT: true; the input reads as it did. -/
def slotsBothSpec : ChangeSpec := { name := "slotsBoth", fn := fun _ => fun
  | [d1, d2, d3] => { results := [.lit (.bool true)], args := [d1, d2, d3] }
  | _ => none }
def slotsBothRow : OpenClaim := { program := "ytedjngljblhmpaa", sum := "d3c2fff6fc66a368567d85aca179638ad909533afd695412bc753c86c76d4a36", func := "keepsake/keepsakelaw11.SlotsBoth", spec := "slotsBoth", inPlace := ["internal/abi.NoEscape", "internal/bytealg.MakeNoZero"], unfollowed := true, recurses := true, apart := false }
def SlotsBothSaid : Prop := slotsBothRow.holds Try.pinned (OpenSpec.ofChange slotsBothSpec)

/-- ITS FALSE NEIGHBOUR: 'it returns false'. Refute it at one input. -/
def slotsBothWrong : ChangeSpec := { name := "slotsBoth", fn := fun _ => fun
  | [d1, d2, d3] => { results := [.lit (.bool false)], args := [d1, d2, d3] }
  | _ => none }
def SlotsBothWrongFalsely : Prop := slotsBothRow.holds Try.pinned (OpenSpec.ofChange slotsBothWrong)

/- THE SECOND FORM. 'bulk': how many values and letters a reading holds, each counted each time it is reached (what is shared counts as often as it is met; a slice's spare places count too). A statement '..UptoSaid' is the law's where the arguments, and the package variables that the reading takes, are together of bulk at most 1048576: NARROWER than '..Said'. Prove '..Said' where nothing that the law and all that it calls make is longer than what came in: it says more and counts as full. Else prove '..UptoSaid'. A law counts once. -/
mutual
def uptoBulk {H : Type} : DataW H → Nat
  | .lit (.string bytes) => bytes.length + 1
  | .lit _ => 1
  | .nil => 1
  | .ptr d => uptoBulk d + 1
  | .slice elems spare => uptoBulkAll elems + uptoBulkAll spare + 1
  | .agg parts => uptoBulkAll parts + 1
  | .iface _ d => uptoBulk d + 1
  | .map entries => uptoBulkEntries entries + 1
  | .held _ => 1
def uptoBulkAll {H : Type} : List (DataW H) → Nat
  | [] => 0
  | d :: r => uptoBulk d + uptoBulkAll r
def uptoBulkEntries {H : Type} : List (Lit × DataW H) → Nat
  | [] => 0
  | x :: r => uptoBulkEntry x + uptoBulkEntries r
def uptoBulkEntry {H : Type} : Lit × DataW H → Nat
  | (.string bytes, d) => bytes.length + uptoBulk d + 1
  | (_, d) => uptoBulk d + 1
 end
def uptoSmall : (H : Type) → List (DataW H) → Bool := fun _ ds => decide (uptoBulkAll ds ≤ 1048576)
def OpenSpec.upto (s : _root_.Go.ChangeSpec) : _root_.Go.OpenSpec := { _root_.Go.OpenSpec.ofChange s with cond := some uptoSmall }

/-- 'keepsakelaw11.SlotsPuts', WHERE WHAT IT READS IS OF BULK AT MOST 1048576: true; the input reads as it did. -/
def slotsPutsUptoRow : OpenClaim := { program := "ytedjngljblhmpaa", sum := "d3c2fff6fc66a368567d85aca179638ad909533afd695412bc753c86c76d4a36", func := "keepsake/keepsakelaw11.SlotsPuts", spec := "slotsPuts", inPlace := ["internal/abi.NoEscape", "internal/bytealg.MakeNoZero"], unfollowed := true, recurses := true, apart := false, narrowed := true }
def SlotsPutsUptoSaid : Prop := slotsPutsUptoRow.holds Try.pinned (OpenSpec.upto slotsPutsSpec)

/-- 'keepsakelaw11.SlotsPicks', WHERE WHAT IT READS IS OF BULK AT MOST 1048576: true; the input reads as it did. -/
def slotsPicksUptoRow : OpenClaim := { program := "ytedjngljblhmpaa", sum := "d3c2fff6fc66a368567d85aca179638ad909533afd695412bc753c86c76d4a36", func := "keepsake/keepsakelaw11.SlotsPicks", spec := "slotsPicks", inPlace := ["internal/abi.NoEscape", "internal/bytealg.MakeNoZero"], unfollowed := true, recurses := true, apart := false, narrowed := true }
def SlotsPicksUptoSaid : Prop := slotsPicksUptoRow.holds Try.pinned (OpenSpec.upto slotsPicksSpec)

/-- 'keepsakelaw11.SlotsEvolves', WHERE WHAT IT READS IS OF BULK AT MOST 1048576: true; the input reads as it did. -/
def slotsEvolvesUptoRow : OpenClaim := { program := "ytedjngljblhmpaa", sum := "d3c2fff6fc66a368567d85aca179638ad909533afd695412bc753c86c76d4a36", func := "keepsake/keepsakelaw11.SlotsEvolves", spec := "slotsEvolves", inPlace := ["internal/abi.NoEscape", "internal/bytealg.MakeNoZero"], unfollowed := true, recurses := true, apart := false, narrowed := true }
def SlotsEvolvesUptoSaid : Prop := slotsEvolvesUptoRow.holds Try.pinned (OpenSpec.upto slotsEvolvesSpec)

/-- 'keepsakelaw11.SlotsBoth', WHERE WHAT IT READS IS OF BULK AT MOST 1048576: true; the input reads as it did. -/
def slotsBothUptoRow : OpenClaim := { program := "ytedjngljblhmpaa", sum := "d3c2fff6fc66a368567d85aca179638ad909533afd695412bc753c86c76d4a36", func := "keepsake/keepsakelaw11.SlotsBoth", spec := "slotsBoth", inPlace := ["internal/abi.NoEscape", "internal/bytealg.MakeNoZero"], unfollowed := true, recurses := true, apart := false, narrowed := true }
def SlotsBothUptoSaid : Prop := slotsBothUptoRow.holds Try.pinned (OpenSpec.upto slotsBothSpec)

end Rows
end Go.Proofs.Ytedjngljblhmpaa
