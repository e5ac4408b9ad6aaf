/-
  No cell of these rows narrows 'for every input' (looked for: loops, veiled, ifaces, maps, wideKeys, modest, calm, conditions, laid).
  DERIVED. THE GIVEN ROWS OF THIS SEAT. 5 by the template 'for every input the law returns true; each argument reads behind the call as it read before'; 0 by the template 'total and deterministic' (their statements: YtophfeapmmfppaaTotals.lean).
  GIVEN WITH THE SEED: the statements are not yours to turn. If you find one false, say at which input.
  Laid BY PROGRAM, IN A SANDBOX (cutbox-rows.mjs): the forced cells as the released guide's own fill.sh prints them over the translation 5e99473ad69b11e4… (all of the seat's roots in one cut). By AI agents, Wed Nov 11 2026. No macro, syntax, notation, axiom, sorry.
-/
import Derived.Test.YtophfeapmmfppaaChecked
import GoSem.Claim
import GoSem.ClaimJoined
import GoSem.ClaimMapViews
import Derived.JoinedTies
import Derived.KernelRfl
namespace Go.Proofs.Ytophfeapmmfppaa
/- THE CELL 'sum', in the pinned program and in every row, IS THE sha256 OF THE DUMP (.gsa) THAT YtophfeapmmfppaaProg.lean LOADS. Nothing in Lean hashes anything: it is a label: what it is worth is what the hold of that sum in a sandbox is worth. -/
noncomputable def Try.pinned : Pinned := { name := "ytophfeapmmfppaa", sum := "5e99473ad69b11e4d593f5bf384873809d7e59fe6eb25f5a0dbc35bbb2be46ee", checked := Try.checked }
namespace Rows
def none {H : Type} : Left H := { results := [], args := [] }

/-- 'keepsakelaw15.MerkleRoots': WHATEVER THE INPUT: true; the input reads as it did. -/
def merkleRootsSpec : ChangeSpec := { name := "merkleRoots", fn := fun _ => fun
  | [d1, d2, d3, d4] => { results := [.lit (.bool true)], args := [d1, d2, d3, d4] }
  | _ => none }
def merkleRootsRow : OpenClaim := { program := "ytophfeapmmfppaa", sum := "5e99473ad69b11e4d593f5bf384873809d7e59fe6eb25f5a0dbc35bbb2be46ee", func := "keepsake/keepsakelaw15.MerkleRoots", spec := "merkleRoots", inPlace := ["internal/abi.NoEscape", "internal/bytealg.MakeNoZero"], unfollowed := true, recurses := true, apart := false }
def MerkleRootsSaid : Prop := merkleRootsRow.holds Try.pinned (OpenSpec.ofChange merkleRootsSpec)

/-- ITS FALSE NEIGHBOUR: 'it returns false'. Refute it at one input. -/
def merkleRootsWrong : ChangeSpec := { name := "merkleRoots", fn := fun _ => fun
  | [d1, d2, d3, d4] => { results := [.lit (.bool false)], args := [d1, d2, d3, d4] }
  | _ => none }
def MerkleRootsWrongFalsely : Prop := merkleRootsRow.holds Try.pinned (OpenSpec.ofChange merkleRootsWrong)

/-- 'keepsakelaw15.MerkleUps': WHATEVER THE INPUT: true; the input reads as it did. -/
def merkleUpsSpec : ChangeSpec := { name := "merkleUps", fn := fun _ => fun
  | [d1, d2, d3, d4, d5] => { results := [.lit (.bool true)], args := [d1, d2, d3, d4, d5] }
  | _ => none }
def merkleUpsRow : OpenClaim := { program := "ytophfeapmmfppaa", sum := "5e99473ad69b11e4d593f5bf384873809d7e59fe6eb25f5a0dbc35bbb2be46ee", func := "keepsake/keepsakelaw15.MerkleUps", spec := "merkleUps", inPlace := ["internal/abi.NoEscape", "internal/bytealg.MakeNoZero"], unfollowed := true, recurses := true, apart := false }
def MerkleUpsSaid : Prop := merkleUpsRow.holds Try.pinned (OpenSpec.ofChange merkleUpsSpec)

/-- ITS FALSE NEIGHBOUR: 'it returns false'. Refute it at one input. -/
def merkleUpsWrong : ChangeSpec := { name := "merkleUps", fn := fun _ => fun
  | [d1, d2, d3, d4, d5] => { results := [.lit (.bool false)], args := [d1, d2, d3, d4, d5] }
  | _ => none }
def MerkleUpsWrongFalsely : Prop := merkleUpsRow.holds Try.pinned (OpenSpec.ofChange merkleUpsWrong)

/-- 'keepsakelaw15.MerkleProves': WHATEVER THE INPUT: true; the input reads as it did. -/
def merkleProvesSpec : ChangeSpec := { name := "merkleProves", fn := fun _ => fun
  | [d1, d2] => { results := [.lit (.bool true)], args := [d1, d2] }
  | _ => none }
def merkleProvesRow : OpenClaim := { program := "ytophfeapmmfppaa", sum := "5e99473ad69b11e4d593f5bf384873809d7e59fe6eb25f5a0dbc35bbb2be46ee", func := "keepsake/keepsakelaw15.MerkleProves", spec := "merkleProves", inPlace := ["internal/abi.NoEscape", "internal/bytealg.MakeNoZero"], unfollowed := true, recurses := true, apart := false }
def MerkleProvesSaid : Prop := merkleProvesRow.holds Try.pinned (OpenSpec.ofChange merkleProvesSpec)

/-- ITS FALSE NEIGHBOUR: 'it returns false'. Refute it at one input. -/
def merkleProvesWrong : ChangeSpec := { name := "merkleProves", fn := fun _ => fun
  | [d1, d2] => { results := [.lit (.bool false)], args := [d1, d2] }
  | _ => none }
def MerkleProvesWrongFalsely : Prop := merkleProvesRow.holds Try.pinned (OpenSpec.ofChange merkleProvesWrong)

/-- 'keepsakelaw15.MerkleClash': WHATEVER THE INPUT: true; the input reads as it did. -/
def merkleClashSpec : ChangeSpec := { name := "merkleClash", fn := fun _ => fun
  | [d1, d2, d3, d4] => { results := [.lit (.bool true)], args := [d1, d2, d3, d4] }
  | _ => none }
def merkleClashRow : OpenClaim := { program := "ytophfeapmmfppaa", sum := "5e99473ad69b11e4d593f5bf384873809d7e59fe6eb25f5a0dbc35bbb2be46ee", func := "keepsake/keepsakelaw15.MerkleClash", spec := "merkleClash", inPlace := ["internal/abi.NoEscape", "internal/bytealg.MakeNoZero"], unfollowed := true, recurses := true, apart := false }
def MerkleClashSaid : Prop := merkleClashRow.holds Try.pinned (OpenSpec.ofChange merkleClashSpec)

/-- ITS FALSE NEIGHBOUR: 'it returns false'. Refute it at one input. -/
def merkleClashWrong : ChangeSpec := { name := "merkleClash", fn := fun _ => fun
  | [d1, d2, d3, d4] => { results := [.lit (.bool false)], args := [d1, d2, d3, d4] }
  | _ => none }
def MerkleClashWrongFalsely : Prop := merkleClashRow.holds Try.pinned (OpenSpec.ofChange merkleClashWrong)

/-- 'keepsakelaw15.MerkleBound': WHATEVER THE INPUT: true; the input reads as it did. -/
def merkleBoundSpec : ChangeSpec := { name := "merkleBound", fn := fun _ => fun
  | [d1, d2, d3] => { results := [.lit (.bool true)], args := [d1, d2, d3] }
  | _ => none }
def merkleBoundRow : OpenClaim := { program := "ytophfeapmmfppaa", sum := "5e99473ad69b11e4d593f5bf384873809d7e59fe6eb25f5a0dbc35bbb2be46ee", func := "keepsake/keepsakelaw15.MerkleBound", spec := "merkleBound", inPlace := ["internal/abi.NoEscape", "internal/bytealg.MakeNoZero"], unfollowed := true, recurses := true, apart := false }
def MerkleBoundSaid : Prop := merkleBoundRow.holds Try.pinned (OpenSpec.ofChange merkleBoundSpec)

/-- ITS FALSE NEIGHBOUR: 'it returns false'. Refute it at one input. -/
def merkleBoundWrong : ChangeSpec := { name := "merkleBound", fn := fun _ => fun
  | [d1, d2, d3] => { results := [.lit (.bool false)], args := [d1, d2, d3] }
  | _ => none }
def MerkleBoundWrongFalsely : Prop := merkleBoundRow.holds Try.pinned (OpenSpec.ofChange merkleBoundWrong)

/- THE SECOND FORM. 'bulk': how many values and letters a reading holds, each counted each time it is reached (what is shared counts as often as it is met; a slice's spare places count too). A statement '..UptoSaid' is the law's where the arguments, and the package variables that the reading takes, are together of bulk at most 1048576: NARROWER than '..Said'. Prove '..Said' where nothing that the law and all that it calls make is longer than what came in: it says more and counts as full. Else prove '..UptoSaid'. A law counts once. -/
mutual
def uptoBulk {H : Type} : DataW H → Nat
  | .lit (.string bytes) => bytes.length + 1
  | .lit _ => 1
  | .nil => 1
  | .ptr d => uptoBulk d + 1
  | .slice elems spare => uptoBulkAll elems + uptoBulkAll spare + 1
  | .agg parts => uptoBulkAll parts + 1
  | .iface _ d => uptoBulk d + 1
  | .map entries => uptoBulkEntries entries + 1
  | .held _ => 1
def uptoBulkAll {H : Type} : List (DataW H) → Nat
  | [] => 0
  | d :: r => uptoBulk d + uptoBulkAll r
def uptoBulkEntries {H : Type} : List (Lit × DataW H) → Nat
  | [] => 0
  | x :: r => uptoBulkEntry x + uptoBulkEntries r
def uptoBulkEntry {H : Type} : Lit × DataW H → Nat
  | (.string bytes, d) => bytes.length + uptoBulk d + 1
  | (_, d) => uptoBulk d + 1
 end
def uptoSmall : (H : Type) → List (DataW H) → Bool := fun _ ds => decide (uptoBulkAll ds ≤ 1048576)
def OpenSpec.upto (s : _root_.Go.ChangeSpec) : _root_.Go.OpenSpec := { _root_.Go.OpenSpec.ofChange s with cond := some uptoSmall }

/-- 'keepsakelaw15.MerkleRoots', WHERE WHAT IT READS IS OF BULK AT MOST 1048576: true; the input reads as it did. -/
def merkleRootsUptoRow : OpenClaim := { program := "ytophfeapmmfppaa", sum := "5e99473ad69b11e4d593f5bf384873809d7e59fe6eb25f5a0dbc35bbb2be46ee", func := "keepsake/keepsakelaw15.MerkleRoots", spec := "merkleRoots", inPlace := ["internal/abi.NoEscape", "internal/bytealg.MakeNoZero"], unfollowed := true, recurses := true, apart := false, narrowed := true }
def MerkleRootsUptoSaid : Prop := merkleRootsUptoRow.holds Try.pinned (OpenSpec.upto merkleRootsSpec)

/-- 'keepsakelaw15.MerkleUps', WHERE WHAT IT READS IS OF BULK AT MOST 1048576: true; the input reads as it did. -/
def merkleUpsUptoRow : OpenClaim := { program := "ytophfeapmmfppaa", sum := "5e99473ad69b11e4d593f5bf384873809d7e59fe6eb25f5a0dbc35bbb2be46ee", func := "keepsake/keepsakelaw15.MerkleUps", spec := "merkleUps", inPlace := ["internal/abi.NoEscape", "internal/bytealg.MakeNoZero"], unfollowed := true, recurses := true, apart := false, narrowed := true }
def MerkleUpsUptoSaid : Prop := merkleUpsUptoRow.holds Try.pinned (OpenSpec.upto merkleUpsSpec)

/-- 'keepsakelaw15.MerkleProves', WHERE WHAT IT READS IS OF BULK AT MOST 1048576: true; the input reads as it did. -/
def merkleProvesUptoRow : OpenClaim := { program := "ytophfeapmmfppaa", sum := "5e99473ad69b11e4d593f5bf384873809d7e59fe6eb25f5a0dbc35bbb2be46ee", func := "keepsake/keepsakelaw15.MerkleProves", spec := "merkleProves", inPlace := ["internal/abi.NoEscape", "internal/bytealg.MakeNoZero"], unfollowed := true, recurses := true, apart := false, narrowed := true }
def MerkleProvesUptoSaid : Prop := merkleProvesUptoRow.holds Try.pinned (OpenSpec.upto merkleProvesSpec)

/-- 'keepsakelaw15.MerkleClash', WHERE WHAT IT READS IS OF BULK AT MOST 1048576: true; the input reads as it did. -/
def merkleClashUptoRow : OpenClaim := { program := "ytophfeapmmfppaa", sum := "5e99473ad69b11e4d593f5bf384873809d7e59fe6eb25f5a0dbc35bbb2be46ee", func := "keepsake/keepsakelaw15.MerkleClash", spec := "merkleClash", inPlace := ["internal/abi.NoEscape", "internal/bytealg.MakeNoZero"], unfollowed := true, recurses := true, apart := false, narrowed := true }
def MerkleClashUptoSaid : Prop := merkleClashUptoRow.holds Try.pinned (OpenSpec.upto merkleClashSpec)

/-- 'keepsakelaw15.MerkleBound', WHERE WHAT IT READS IS OF BULK AT MOST 1048576: true; the input reads as it did. -/
def merkleBoundUptoRow : OpenClaim := { program := "ytophfeapmmfppaa", sum := "5e99473ad69b11e4d593f5bf384873809d7e59fe6eb25f5a0dbc35bbb2be46ee", func := "keepsake/keepsakelaw15.MerkleBound", spec := "merkleBound", inPlace := ["internal/abi.NoEscape", "internal/bytealg.MakeNoZero"], unfollowed := true, recurses := true, apart := false, narrowed := true }
def MerkleBoundUptoSaid : Prop := merkleBoundUptoRow.holds Try.pinned (OpenSpec.upto merkleBoundSpec)

end Rows
end Go.Proofs.Ytophfeapmmfppaa
