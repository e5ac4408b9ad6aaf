/-
  No cell of these rows narrows 'for every input' (looked for: loops, veiled, ifaces, maps, wideKeys, modest, calm, conditions, laid).
  DERIVED. THE GIVEN ROWS OF THIS SEAT. 6 by the template 'for every input the law returns true; each argument reads behind the call as it read before'; 0 by the template 'total and deterministic' (their statements: YtpdeicgjmjoglaaTotals.lean).
  GIVEN WITH THE SEED: the statements are not yours to turn. If you find one false, say at which input.
  Laid BY PROGRAM, IN A SANDBOX (cutbox-rows.mjs): the forced cells as the released guide's own fill.sh prints them over the translation ae6a353e49e6697a… (all of the seat's roots in one cut). By AI agents, Wed Nov 11 2026. No macro, syntax, notation, axiom, sorry.
-/
import Derived.Test.YtpdeicgjmjoglaaChecked
import GoSem.Claim
import GoSem.ClaimJoined
import GoSem.ClaimMapViews
import Derived.JoinedTies
import Derived.KernelRfl
namespace Go.Proofs.Ytpdeicgjmjoglaa
/- THE CELL 'sum', in the pinned program and in every row, IS THE sha256 OF THE DUMP (.gsa) THAT YtpdeicgjmjoglaaProg.lean LOADS. Nothing in Lean hashes anything: it is a label: what it is worth is what the hold of that sum in a sandbox is worth. -/
noncomputable def Try.pinned : Pinned := { name := "ytpdeicgjmjoglaa", sum := "ae6a353e49e6697a69dde58a765ce89d1f6874f0d84028b8188913a2ac48dafb", checked := Try.checked }
namespace Rows
def none {H : Type} : Left H := { results := [], args := [] }

/-- 'keepsakelaw36.FrontierAll': WHATEVER THE INPUT: true; the input reads as it did. -/
def frontierAllSpec : ChangeSpec := { name := "frontierAll", fn := fun _ => fun
  | [d] => { results := [.lit (.bool true)], args := [d] }
  | _ => none }
def frontierAllRow : OpenClaim := { program := "ytpdeicgjmjoglaa", sum := "ae6a353e49e6697a69dde58a765ce89d1f6874f0d84028b8188913a2ac48dafb", func := "keepsake/keepsakelaw36.FrontierAll", spec := "frontierAll", inPlace := ["internal/abi.NoEscape", "internal/bytealg.MakeNoZero"], unfollowed := true, recurses := true, apart := false }
def FrontierAllSaid : Prop := frontierAllRow.holds Try.pinned (OpenSpec.ofChange frontierAllSpec)

/-- ITS FALSE NEIGHBOUR: 'it returns false'. Refute it at one input. -/
def frontierAllWrong : ChangeSpec := { name := "frontierAll", fn := fun _ => fun
  | [d] => { results := [.lit (.bool false)], args := [d] }
  | _ => none }
def FrontierAllWrongFalsely : Prop := frontierAllRow.holds Try.pinned (OpenSpec.ofChange frontierAllWrong)

/-- 'keepsakelaw36.FrontierAdds': WHATEVER THE INPUT: true; the input reads as it did. -/
def frontierAddsSpec : ChangeSpec := { name := "frontierAdds", fn := fun _ => fun
  | [d1, d2] => { results := [.lit (.bool true)], args := [d1, d2] }
  | _ => none }
def frontierAddsRow : OpenClaim := { program := "ytpdeicgjmjoglaa", sum := "ae6a353e49e6697a69dde58a765ce89d1f6874f0d84028b8188913a2ac48dafb", func := "keepsake/keepsakelaw36.FrontierAdds", spec := "frontierAdds", inPlace := ["internal/abi.NoEscape", "internal/bytealg.MakeNoZero"], unfollowed := true, recurses := true, apart := false }
def FrontierAddsSaid : Prop := frontierAddsRow.holds Try.pinned (OpenSpec.ofChange frontierAddsSpec)

/-- ITS FALSE NEIGHBOUR: 'it returns false'. Refute it at one input. -/
def frontierAddsWrong : ChangeSpec := { name := "frontierAdds", fn := fun _ => fun
  | [d1, d2] => { results := [.lit (.bool false)], args := [d1, d2] }
  | _ => none }
def FrontierAddsWrongFalsely : Prop := frontierAddsRow.holds Try.pinned (OpenSpec.ofChange frontierAddsWrong)

/-- 'keepsakelaw36.FrontierNil': WHATEVER THE INPUT: true; the input reads as it did. -/
def frontierNilSpec : ChangeSpec := { name := "frontierNil", fn := fun _ => fun
  | [d1, d2] => { results := [.lit (.bool true)], args := [d1, d2] }
  | _ => none }
def frontierNilRow : OpenClaim := { program := "ytpdeicgjmjoglaa", sum := "ae6a353e49e6697a69dde58a765ce89d1f6874f0d84028b8188913a2ac48dafb", func := "keepsake/keepsakelaw36.FrontierNil", spec := "frontierNil", inPlace := ["internal/abi.NoEscape", "internal/bytealg.MakeNoZero"], unfollowed := true, recurses := true, apart := false }
def FrontierNilSaid : Prop := frontierNilRow.holds Try.pinned (OpenSpec.ofChange frontierNilSpec)

/-- ITS FALSE NEIGHBOUR: 'it returns false'. Refute it at one input. -/
def frontierNilWrong : ChangeSpec := { name := "frontierNil", fn := fun _ => fun
  | [d1, d2] => { results := [.lit (.bool false)], args := [d1, d2] }
  | _ => none }
def FrontierNilWrongFalsely : Prop := frontierNilRow.holds Try.pinned (OpenSpec.ofChange frontierNilWrong)

/-- 'keepsakelaw36.FrontierGrows': WHATEVER THE INPUT: true; the input reads as it did. -/
def frontierGrowsSpec : ChangeSpec := { name := "frontierGrows", fn := fun _ => fun
  | [d1, d2, d3, d4, d5, d6] => { results := [.lit (.bool true)], args := [d1, d2, d3, d4, d5, d6] }
  | _ => none }
def frontierGrowsRow : OpenClaim := { program := "ytpdeicgjmjoglaa", sum := "ae6a353e49e6697a69dde58a765ce89d1f6874f0d84028b8188913a2ac48dafb", func := "keepsake/keepsakelaw36.FrontierGrows", spec := "frontierGrows", inPlace := ["internal/abi.NoEscape", "internal/bytealg.MakeNoZero"], unfollowed := true, recurses := true, apart := false }
def FrontierGrowsSaid : Prop := frontierGrowsRow.holds Try.pinned (OpenSpec.ofChange frontierGrowsSpec)

/-- ITS FALSE NEIGHBOUR: 'it returns false'. Refute it at one input. -/
def frontierGrowsWrong : ChangeSpec := { name := "frontierGrows", fn := fun _ => fun
  | [d1, d2, d3, d4, d5, d6] => { results := [.lit (.bool false)], args := [d1, d2, d3, d4, d5, d6] }
  | _ => none }
def FrontierGrowsWrongFalsely : Prop := frontierGrowsRow.holds Try.pinned (OpenSpec.ofChange frontierGrowsWrong)

/-- 'keepsakelaw36.FrontierGrown': WHATEVER THE INPUT: true; the input reads as it did. -/
def frontierGrownSpec : ChangeSpec := { name := "frontierGrown", fn := fun _ => fun
  | [d1, d2] => { results := [.lit (.bool true)], args := [d1, d2] }
  | _ => none }
def frontierGrownRow : OpenClaim := { program := "ytpdeicgjmjoglaa", sum := "ae6a353e49e6697a69dde58a765ce89d1f6874f0d84028b8188913a2ac48dafb", func := "keepsake/keepsakelaw36.FrontierGrown", spec := "frontierGrown", inPlace := ["internal/abi.NoEscape", "internal/bytealg.MakeNoZero"], unfollowed := true, recurses := true, apart := false }
def FrontierGrownSaid : Prop := frontierGrownRow.holds Try.pinned (OpenSpec.ofChange frontierGrownSpec)

/-- ITS FALSE NEIGHBOUR: 'it returns false'. Refute it at one input. -/
def frontierGrownWrong : ChangeSpec := { name := "frontierGrown", fn := fun _ => fun
  | [d1, d2] => { results := [.lit (.bool false)], args := [d1, d2] }
  | _ => none }
def FrontierGrownWrongFalsely : Prop := frontierGrownRow.holds Try.pinned (OpenSpec.ofChange frontierGrownWrong)

/-- 'keepsakelaw36.FrontierSound': WHATEVER THE INPUT: true; the input reads as it did. -/
def frontierSoundSpec : ChangeSpec := { name := "frontierSound", fn := fun _ => fun
  | [d1, d2, d3, d4] => { results := [.lit (.bool true)], args := [d1, d2, d3, d4] }
  | _ => none }
def frontierSoundRow : OpenClaim := { program := "ytpdeicgjmjoglaa", sum := "ae6a353e49e6697a69dde58a765ce89d1f6874f0d84028b8188913a2ac48dafb", func := "keepsake/keepsakelaw36.FrontierSound", spec := "frontierSound", inPlace := ["internal/abi.NoEscape", "internal/bytealg.MakeNoZero"], unfollowed := true, recurses := true, apart := false }
def FrontierSoundSaid : Prop := frontierSoundRow.holds Try.pinned (OpenSpec.ofChange frontierSoundSpec)

/-- ITS FALSE NEIGHBOUR: 'it returns false'. Refute it at one input. -/
def frontierSoundWrong : ChangeSpec := { name := "frontierSound", fn := fun _ => fun
  | [d1, d2, d3, d4] => { results := [.lit (.bool false)], args := [d1, d2, d3, d4] }
  | _ => none }
def FrontierSoundWrongFalsely : Prop := frontierSoundRow.holds Try.pinned (OpenSpec.ofChange frontierSoundWrong)

/- THE SECOND FORM. 'bulk': how many values and letters a reading holds, each counted each time it is reached (what is shared counts as often as it is met; a slice's spare places count too). A statement '..UptoSaid' is the law's where the arguments, and the package variables that the reading takes, are together of bulk at most 1048576: NARROWER than '..Said'. Prove '..Said' where nothing that the law and all that it calls make is longer than what came in: it says more and counts as full. Else prove '..UptoSaid'. A law counts once. -/
mutual
def uptoBulk {H : Type} : DataW H → Nat
  | .lit (.string bytes) => bytes.length + 1
  | .lit _ => 1
  | .nil => 1
  | .ptr d => uptoBulk d + 1
  | .slice elems spare => uptoBulkAll elems + uptoBulkAll spare + 1
  | .agg parts => uptoBulkAll parts + 1
  | .iface _ d => uptoBulk d + 1
  | .map entries => uptoBulkEntries entries + 1
  | .held _ => 1
def uptoBulkAll {H : Type} : List (DataW H) → Nat
  | [] => 0
  | d :: r => uptoBulk d + uptoBulkAll r
def uptoBulkEntries {H : Type} : List (Lit × DataW H) → Nat
  | [] => 0
  | x :: r => uptoBulkEntry x + uptoBulkEntries r
def uptoBulkEntry {H : Type} : Lit × DataW H → Nat
  | (.string bytes, d) => bytes.length + uptoBulk d + 1
  | (_, d) => uptoBulk d + 1
 end
def uptoSmall : (H : Type) → List (DataW H) → Bool := fun _ ds => decide (uptoBulkAll ds ≤ 1048576)
def OpenSpec.upto (s : _root_.Go.ChangeSpec) : _root_.Go.OpenSpec := { _root_.Go.OpenSpec.ofChange s with cond := some uptoSmall }

/-- 'keepsakelaw36.FrontierAll', WHERE WHAT IT READS IS OF BULK AT MOST 1048576: true; the input reads as it did. -/
def frontierAllUptoRow : OpenClaim := { program := "ytpdeicgjmjoglaa", sum := "ae6a353e49e6697a69dde58a765ce89d1f6874f0d84028b8188913a2ac48dafb", func := "keepsake/keepsakelaw36.FrontierAll", spec := "frontierAll", inPlace := ["internal/abi.NoEscape", "internal/bytealg.MakeNoZero"], unfollowed := true, recurses := true, apart := false, narrowed := true }
def FrontierAllUptoSaid : Prop := frontierAllUptoRow.holds Try.pinned (OpenSpec.upto frontierAllSpec)

/-- 'keepsakelaw36.FrontierAdds', WHERE WHAT IT READS IS OF BULK AT MOST 1048576: true; the input reads as it did. -/
def frontierAddsUptoRow : OpenClaim := { program := "ytpdeicgjmjoglaa", sum := "ae6a353e49e6697a69dde58a765ce89d1f6874f0d84028b8188913a2ac48dafb", func := "keepsake/keepsakelaw36.FrontierAdds", spec := "frontierAdds", inPlace := ["internal/abi.NoEscape", "internal/bytealg.MakeNoZero"], unfollowed := true, recurses := true, apart := false, narrowed := true }
def FrontierAddsUptoSaid : Prop := frontierAddsUptoRow.holds Try.pinned (OpenSpec.upto frontierAddsSpec)

/-- 'keepsakelaw36.FrontierNil', WHERE WHAT IT READS IS OF BULK AT MOST 1048576: true; the input reads as it did. -/
def frontierNilUptoRow : OpenClaim := { program := "ytpdeicgjmjoglaa", sum := "ae6a353e49e6697a69dde58a765ce89d1f6874f0d84028b8188913a2ac48dafb", func := "keepsake/keepsakelaw36.FrontierNil", spec := "frontierNil", inPlace := ["internal/abi.NoEscape", "internal/bytealg.MakeNoZero"], unfollowed := true, recurses := true, apart := false, narrowed := true }
def FrontierNilUptoSaid : Prop := frontierNilUptoRow.holds Try.pinned (OpenSpec.upto frontierNilSpec)

/-- 'keepsakelaw36.FrontierGrows', WHERE WHAT IT READS IS OF BULK AT MOST 1048576: true; the input reads as it did. -/
def frontierGrowsUptoRow : OpenClaim := { program := "ytpdeicgjmjoglaa", sum := "ae6a353e49e6697a69dde58a765ce89d1f6874f0d84028b8188913a2ac48dafb", func := "keepsake/keepsakelaw36.FrontierGrows", spec := "frontierGrows", inPlace := ["internal/abi.NoEscape", "internal/bytealg.MakeNoZero"], unfollowed := true, recurses := true, apart := false, narrowed := true }
def FrontierGrowsUptoSaid : Prop := frontierGrowsUptoRow.holds Try.pinned (OpenSpec.upto frontierGrowsSpec)

/-- 'keepsakelaw36.FrontierGrown', WHERE WHAT IT READS IS OF BULK AT MOST 1048576: true; the input reads as it did. -/
def frontierGrownUptoRow : OpenClaim := { program := "ytpdeicgjmjoglaa", sum := "ae6a353e49e6697a69dde58a765ce89d1f6874f0d84028b8188913a2ac48dafb", func := "keepsake/keepsakelaw36.FrontierGrown", spec := "frontierGrown", inPlace := ["internal/abi.NoEscape", "internal/bytealg.MakeNoZero"], unfollowed := true, recurses := true, apart := false, narrowed := true }
def FrontierGrownUptoSaid : Prop := frontierGrownUptoRow.holds Try.pinned (OpenSpec.upto frontierGrownSpec)

/-- 'keepsakelaw36.FrontierSound', WHERE WHAT IT READS IS OF BULK AT MOST 1048576: true; the input reads as it did. -/
def frontierSoundUptoRow : OpenClaim := { program := "ytpdeicgjmjoglaa", sum := "ae6a353e49e6697a69dde58a765ce89d1f6874f0d84028b8188913a2ac48dafb", func := "keepsake/keepsakelaw36.FrontierSound", spec := "frontierSound", inPlace := ["internal/abi.NoEscape", "internal/bytealg.MakeNoZero"], unfollowed := true, recurses := true, apart := false, narrowed := true }
def FrontierSoundUptoSaid : Prop := frontierSoundUptoRow.holds Try.pinned (OpenSpec.upto frontierSoundSpec)

end Rows
end Go.Proofs.Ytpdeicgjmjoglaa
