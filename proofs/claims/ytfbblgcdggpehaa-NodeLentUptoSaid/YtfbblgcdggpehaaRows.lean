/-
  No cell of these rows narrows 'for every input' (looked for: loops, veiled, ifaces, maps, wideKeys, modest, calm, conditions, laid).
  DERIVED. THE GIVEN ROWS OF THIS SEAT. 6 by the template 'for every input the law returns true; each argument reads behind the call as it read before'; 0 by the template 'total and deterministic' (their statements: YtfbblgcdggpehaaTotals.lean).
  GIVEN WITH THE SEED: the statements are not yours to turn. If you find one false, say at which input.
  Laid BY PROGRAM, IN A SANDBOX (cutbox-rows.mjs): the forced cells as the released guide's own fill.sh prints them over the translation 0de310bcb451fb04… (all of the seat's roots in one cut). By AI agents, Wed Nov 11 2026. No macro, syntax, notation, axiom, sorry.
-/
import Derived.Test.YtfbblgcdggpehaaChecked
import GoSem.Claim
import GoSem.ClaimJoined
import GoSem.ClaimMapViews
import Derived.JoinedTies
import Derived.KernelRfl
namespace Go.Proofs.Ytfbblgcdggpehaa
/- THE CELL 'sum', in the pinned program and in every row, IS THE sha256 OF THE DUMP (.gsa) THAT YtfbblgcdggpehaaProg.lean LOADS. Nothing in Lean hashes anything: it is a label: what it is worth is what the hold of that sum in a sandbox is worth. -/
noncomputable def Try.pinned : Pinned := { name := "ytfbblgcdggpehaa", sum := "0de310bcb451fb04f528c5c72768f4113d33c2c44095134899ad9d61cf76bae9", checked := Try.checked }
namespace Rows
def none {H : Type} : Left H := { results := [], args := [] }

/-- 'palimpsestlaw12.NodeCuts': WHATEVER THE INPUT: true; the input reads as it did. -/
def nodeCutsSpec : ChangeSpec := { name := "nodeCuts", fn := fun _ => fun
  | [d] => { results := [.lit (.bool true)], args := [d] }
  | _ => none }
def nodeCutsRow : OpenClaim := { program := "ytfbblgcdggpehaa", sum := "0de310bcb451fb04f528c5c72768f4113d33c2c44095134899ad9d61cf76bae9", func := "palimpsest/palimpsestlaw12.NodeCuts", spec := "nodeCuts", inPlace := ["internal/bytealg.Compare"], unfollowed := true, recurses := true, apart := false }
def NodeCutsSaid : Prop := nodeCutsRow.holds Try.pinned (OpenSpec.ofChange nodeCutsSpec)

/-- ITS FALSE NEIGHBOUR: 'it returns false'. Refute it at one input. -/
def nodeCutsWrong : ChangeSpec := { name := "nodeCuts", fn := fun _ => fun
  | [d] => { results := [.lit (.bool false)], args := [d] }
  | _ => none }
def NodeCutsWrongFalsely : Prop := nodeCutsRow.holds Try.pinned (OpenSpec.ofChange nodeCutsWrong)

/-- 'palimpsestlaw12.NodeSplits': WHATEVER THE INPUT: true; the input reads as it did. -/
def nodeSplitsSpec : ChangeSpec := { name := "nodeSplits", fn := fun _ => fun
  | [d] => { results := [.lit (.bool true)], args := [d] }
  | _ => none }
def nodeSplitsRow : OpenClaim := { program := "ytfbblgcdggpehaa", sum := "0de310bcb451fb04f528c5c72768f4113d33c2c44095134899ad9d61cf76bae9", func := "palimpsest/palimpsestlaw12.NodeSplits", spec := "nodeSplits", inPlace := ["internal/bytealg.Compare"], unfollowed := true, recurses := true, apart := false }
def NodeSplitsSaid : Prop := nodeSplitsRow.holds Try.pinned (OpenSpec.ofChange nodeSplitsSpec)

/-- ITS FALSE NEIGHBOUR: 'it returns false'. Refute it at one input. -/
def nodeSplitsWrong : ChangeSpec := { name := "nodeSplits", fn := fun _ => fun
  | [d] => { results := [.lit (.bool false)], args := [d] }
  | _ => none }
def NodeSplitsWrongFalsely : Prop := nodeSplitsRow.holds Try.pinned (OpenSpec.ofChange nodeSplitsWrong)

/-- 'palimpsestlaw12.NodeCodes': WHATEVER THE INPUT: true; the input reads as it did. -/
def nodeCodesSpec : ChangeSpec := { name := "nodeCodes", fn := fun _ => fun
  | [d1, d2] => { results := [.lit (.bool true)], args := [d1, d2] }
  | _ => none }
def nodeCodesRow : OpenClaim := { program := "ytfbblgcdggpehaa", sum := "0de310bcb451fb04f528c5c72768f4113d33c2c44095134899ad9d61cf76bae9", func := "palimpsest/palimpsestlaw12.NodeCodes", spec := "nodeCodes", inPlace := ["internal/bytealg.Compare"], unfollowed := true, recurses := true, apart := false }
def NodeCodesSaid : Prop := nodeCodesRow.holds Try.pinned (OpenSpec.ofChange nodeCodesSpec)

/-- ITS FALSE NEIGHBOUR: 'it returns false'. Refute it at one input. -/
def nodeCodesWrong : ChangeSpec := { name := "nodeCodes", fn := fun _ => fun
  | [d1, d2] => { results := [.lit (.bool false)], args := [d1, d2] }
  | _ => none }
def NodeCodesWrongFalsely : Prop := nodeCodesRow.holds Try.pinned (OpenSpec.ofChange nodeCodesWrong)

/-- 'palimpsestlaw12.NodeMaps': WHATEVER THE INPUT: true; the input reads as it did. -/
def nodeMapsSpec : ChangeSpec := { name := "nodeMaps", fn := fun _ => fun
  | [d1, d2] => { results := [.lit (.bool true)], args := [d1, d2] }
  | _ => none }
def nodeMapsRow : OpenClaim := { program := "ytfbblgcdggpehaa", sum := "0de310bcb451fb04f528c5c72768f4113d33c2c44095134899ad9d61cf76bae9", func := "palimpsest/palimpsestlaw12.NodeMaps", spec := "nodeMaps", inPlace := ["internal/bytealg.Compare", "slices.overlaps[[]byte]"], unfollowed := true, recurses := true, apart := false }
def NodeMapsSaid : Prop := nodeMapsRow.holds Try.pinned (OpenSpec.ofChange nodeMapsSpec)

/-- ITS FALSE NEIGHBOUR: 'it returns false'. Refute it at one input. -/
def nodeMapsWrong : ChangeSpec := { name := "nodeMaps", fn := fun _ => fun
  | [d1, d2] => { results := [.lit (.bool false)], args := [d1, d2] }
  | _ => none }
def NodeMapsWrongFalsely : Prop := nodeMapsRow.holds Try.pinned (OpenSpec.ofChange nodeMapsWrong)

/-- 'palimpsestlaw12.NodeFinds': WHATEVER THE INPUT: true; the input reads as it did. -/
def nodeFindsSpec : ChangeSpec := { name := "nodeFinds", fn := fun _ => fun
  | [d1, d2, d3] => { results := [.lit (.bool true)], args := [d1, d2, d3] }
  | _ => none }
def nodeFindsRow : OpenClaim := { program := "ytfbblgcdggpehaa", sum := "0de310bcb451fb04f528c5c72768f4113d33c2c44095134899ad9d61cf76bae9", func := "palimpsest/palimpsestlaw12.NodeFinds", spec := "nodeFinds", inPlace := ["internal/bytealg.Compare", "slices.overlaps[[]byte]"], unfollowed := true, recurses := true, apart := false }
def NodeFindsSaid : Prop := nodeFindsRow.holds Try.pinned (OpenSpec.ofChange nodeFindsSpec)

/-- ITS FALSE NEIGHBOUR: 'it returns false'. Refute it at one input. -/
def nodeFindsWrong : ChangeSpec := { name := "nodeFinds", fn := fun _ => fun
  | [d1, d2, d3] => { results := [.lit (.bool false)], args := [d1, d2, d3] }
  | _ => none }
def NodeFindsWrongFalsely : Prop := nodeFindsRow.holds Try.pinned (OpenSpec.ofChange nodeFindsWrong)

/-- 'palimpsestlaw12.NodeLent': WHATEVER THE INPUT: true; the input reads as it did. -/
def nodeLentSpec : ChangeSpec := { name := "nodeLent", fn := fun _ => fun
  | [d1, d2, d3] => { results := [.lit (.bool true)], args := [d1, d2, d3] }
  | _ => none }
def nodeLentRow : OpenClaim := { program := "ytfbblgcdggpehaa", sum := "0de310bcb451fb04f528c5c72768f4113d33c2c44095134899ad9d61cf76bae9", func := "palimpsest/palimpsestlaw12.NodeLent", spec := "nodeLent", inPlace := ["internal/bytealg.Compare", "slices.overlaps[[]byte]"], unfollowed := true, recurses := true, apart := false }
def NodeLentSaid : Prop := nodeLentRow.holds Try.pinned (OpenSpec.ofChange nodeLentSpec)

/-- ITS FALSE NEIGHBOUR: 'it returns false'. Refute it at one input. -/
def nodeLentWrong : ChangeSpec := { name := "nodeLent", fn := fun _ => fun
  | [d1, d2, d3] => { results := [.lit (.bool false)], args := [d1, d2, d3] }
  | _ => none }
def NodeLentWrongFalsely : Prop := nodeLentRow.holds Try.pinned (OpenSpec.ofChange nodeLentWrong)

/- THE SECOND FORM. 'bulk': how many values and letters a reading holds, each counted each time it is reached (what is shared counts as often as it is met; a slice's spare places count too). A statement '..UptoSaid' is the law's where the arguments, and the package variables that the reading takes, are together of bulk at most 1048576: NARROWER than '..Said'. Prove '..Said' where nothing that the law and all that it calls make is longer than what came in: it says more and counts as full. Else prove '..UptoSaid'. A law counts once. -/
mutual
def uptoBulk {H : Type} : DataW H → Nat
  | .lit (.string bytes) => bytes.length + 1
  | .lit _ => 1
  | .nil => 1
  | .ptr d => uptoBulk d + 1
  | .slice elems spare => uptoBulkAll elems + uptoBulkAll spare + 1
  | .agg parts => uptoBulkAll parts + 1
  | .iface _ d => uptoBulk d + 1
  | .map entries => uptoBulkEntries entries + 1
  | .held _ => 1
def uptoBulkAll {H : Type} : List (DataW H) → Nat
  | [] => 0
  | d :: r => uptoBulk d + uptoBulkAll r
def uptoBulkEntries {H : Type} : List (Lit × DataW H) → Nat
  | [] => 0
  | x :: r => uptoBulkEntry x + uptoBulkEntries r
def uptoBulkEntry {H : Type} : Lit × DataW H → Nat
  | (.string bytes, d) => bytes.length + uptoBulk d + 1
  | (_, d) => uptoBulk d + 1
 end
def uptoSmall : (H : Type) → List (DataW H) → Bool := fun _ ds => decide (uptoBulkAll ds ≤ 1048576)
def OpenSpec.upto (s : _root_.Go.ChangeSpec) : _root_.Go.OpenSpec := { _root_.Go.OpenSpec.ofChange s with cond := some uptoSmall }

/-- 'palimpsestlaw12.NodeCuts', WHERE WHAT IT READS IS OF BULK AT MOST 1048576: true; the input reads as it did. -/
def nodeCutsUptoRow : OpenClaim := { program := "ytfbblgcdggpehaa", sum := "0de310bcb451fb04f528c5c72768f4113d33c2c44095134899ad9d61cf76bae9", func := "palimpsest/palimpsestlaw12.NodeCuts", spec := "nodeCuts", inPlace := ["internal/bytealg.Compare"], unfollowed := true, recurses := true, apart := false, narrowed := true }
def NodeCutsUptoSaid : Prop := nodeCutsUptoRow.holds Try.pinned (OpenSpec.upto nodeCutsSpec)

/-- 'palimpsestlaw12.NodeSplits', WHERE WHAT IT READS IS OF BULK AT MOST 1048576: true; the input reads as it did. -/
def nodeSplitsUptoRow : OpenClaim := { program := "ytfbblgcdggpehaa", sum := "0de310bcb451fb04f528c5c72768f4113d33c2c44095134899ad9d61cf76bae9", func := "palimpsest/palimpsestlaw12.NodeSplits", spec := "nodeSplits", inPlace := ["internal/bytealg.Compare"], unfollowed := true, recurses := true, apart := false, narrowed := true }
def NodeSplitsUptoSaid : Prop := nodeSplitsUptoRow.holds Try.pinned (OpenSpec.upto nodeSplitsSpec)

/-- 'palimpsestlaw12.NodeCodes', WHERE WHAT IT READS IS OF BULK AT MOST 1048576: true; the input reads as it did. -/
def nodeCodesUptoRow : OpenClaim := { program := "ytfbblgcdggpehaa", sum := "0de310bcb451fb04f528c5c72768f4113d33c2c44095134899ad9d61cf76bae9", func := "palimpsest/palimpsestlaw12.NodeCodes", spec := "nodeCodes", inPlace := ["internal/bytealg.Compare"], unfollowed := true, recurses := true, apart := false, narrowed := true }
def NodeCodesUptoSaid : Prop := nodeCodesUptoRow.holds Try.pinned (OpenSpec.upto nodeCodesSpec)

/-- 'palimpsestlaw12.NodeMaps', WHERE WHAT IT READS IS OF BULK AT MOST 1048576: true; the input reads as it did. -/
def nodeMapsUptoRow : OpenClaim := { program := "ytfbblgcdggpehaa", sum := "0de310bcb451fb04f528c5c72768f4113d33c2c44095134899ad9d61cf76bae9", func := "palimpsest/palimpsestlaw12.NodeMaps", spec := "nodeMaps", inPlace := ["internal/bytealg.Compare", "slices.overlaps[[]byte]"], unfollowed := true, recurses := true, apart := false, narrowed := true }
def NodeMapsUptoSaid : Prop := nodeMapsUptoRow.holds Try.pinned (OpenSpec.upto nodeMapsSpec)

/-- 'palimpsestlaw12.NodeFinds', WHERE WHAT IT READS IS OF BULK AT MOST 1048576: true; the input reads as it did. -/
def nodeFindsUptoRow : OpenClaim := { program := "ytfbblgcdggpehaa", sum := "0de310bcb451fb04f528c5c72768f4113d33c2c44095134899ad9d61cf76bae9", func := "palimpsest/palimpsestlaw12.NodeFinds", spec := "nodeFinds", inPlace := ["internal/bytealg.Compare", "slices.overlaps[[]byte]"], unfollowed := true, recurses := true, apart := false, narrowed := true }
def NodeFindsUptoSaid : Prop := nodeFindsUptoRow.holds Try.pinned (OpenSpec.upto nodeFindsSpec)

/-- 'palimpsestlaw12.NodeLent', WHERE WHAT IT READS IS OF BULK AT MOST 1048576: true; the input reads as it did. -/
def nodeLentUptoRow : OpenClaim := { program := "ytfbblgcdggpehaa", sum := "0de310bcb451fb04f528c5c72768f4113d33c2c44095134899ad9d61cf76bae9", func := "palimpsest/palimpsestlaw12.NodeLent", spec := "nodeLent", inPlace := ["internal/bytealg.Compare", "slices.overlaps[[]byte]"], unfollowed := true, recurses := true, apart := false, narrowed := true }
def NodeLentUptoSaid : Prop := nodeLentUptoRow.holds Try.pinned (OpenSpec.upto nodeLentSpec)

end Rows
end Go.Proofs.Ytfbblgcdggpehaa
