/-
  No cell of these rows narrows 'for every input' (looked for: loops, veiled, ifaces, maps, wideKeys, modest, calm, conditions, laid).
  DERIVED. THE GIVEN ROWS OF THIS SEAT. 4 by the template 'for every input the law returns true; each argument reads behind the call as it read before'; 0 by the template 'total and deterministic' (their statements: YtjakekfalooebaaTotals.lean).
  GIVEN WITH THE SEED: the statements are not yours to turn. If you find one false, say at which input.
  Laid BY PROGRAM, IN A SANDBOX (cutbox-rows.mjs): the forced cells as the released guide's own fill.sh prints them over the translation 56f26b672703fded… (all of the seat's roots in one cut). By AI agents, Wed Nov 11 2026. No macro, syntax, notation, axiom, sorry.
-/
import Derived.Test.YtjakekfalooebaaChecked
import GoSem.Claim
import GoSem.ClaimJoined
import GoSem.ClaimMapViews
import Derived.JoinedTies
import Derived.KernelRfl
namespace Go.Proofs.Ytjakekfalooebaa
/- THE CELL 'sum', in the pinned program and in every row, IS THE sha256 OF THE DUMP (.gsa) THAT YtjakekfalooebaaProg.lean LOADS. Nothing in Lean hashes anything: it is a label: what it is worth is what the hold of that sum in a sandbox is worth. -/
noncomputable def Try.pinned : Pinned := { name := "ytjakekfalooebaa", sum := "56f26b672703fded054476286bc72f9a0525e4e62c61965996db832db441f053", checked := Try.checked }
namespace Rows
def none {H : Type} : Left H := { results := [], args := [] }

/-- 'palimpsestlaw15.WaitPaths': WHATEVER THE INPUT: true; the input reads as it did. -/
def waitPathsSpec : ChangeSpec := { name := "waitPaths", fn := fun _ => fun
  | [d1, d2] => { results := [.lit (.bool true)], args := [d1, d2] }
  | _ => none }
def waitPathsRow : OpenClaim := { program := "ytjakekfalooebaa", sum := "56f26b672703fded054476286bc72f9a0525e4e62c61965996db832db441f053", func := "palimpsest/palimpsestlaw15.WaitPaths", spec := "waitPaths", recurses := true, apart := false }
def WaitPathsSaid : Prop := waitPathsRow.holds Try.pinned (OpenSpec.ofChange waitPathsSpec)

/-- ITS FALSE NEIGHBOUR: 'it returns false'. Refute it at one input. -/
def waitPathsWrong : ChangeSpec := { name := "waitPaths", fn := fun _ => fun
  | [d1, d2] => { results := [.lit (.bool false)], args := [d1, d2] }
  | _ => none }
def WaitPathsWrongFalsely : Prop := waitPathsRow.holds Try.pinned (OpenSpec.ofChange waitPathsWrong)

/-- 'palimpsestlaw15.WaitPlays': WHATEVER THE INPUT: true; the input reads as it did. -/
def waitPlaysSpec : ChangeSpec := { name := "waitPlays", fn := fun _ => fun
  | [d1, d2] => { results := [.lit (.bool true)], args := [d1, d2] }
  | _ => none }
def waitPlaysRow : OpenClaim := { program := "ytjakekfalooebaa", sum := "56f26b672703fded054476286bc72f9a0525e4e62c61965996db832db441f053", func := "palimpsest/palimpsestlaw15.WaitPlays", spec := "waitPlays", recurses := true, apart := false }
def WaitPlaysSaid : Prop := waitPlaysRow.holds Try.pinned (OpenSpec.ofChange waitPlaysSpec)

/-- ITS FALSE NEIGHBOUR: 'it returns false'. Refute it at one input. -/
def waitPlaysWrong : ChangeSpec := { name := "waitPlays", fn := fun _ => fun
  | [d1, d2] => { results := [.lit (.bool false)], args := [d1, d2] }
  | _ => none }
def WaitPlaysWrongFalsely : Prop := waitPlaysRow.holds Try.pinned (OpenSpec.ofChange waitPlaysWrong)

/-- 'palimpsestlaw15.WaitFree': WHATEVER THE INPUT: true; the input reads as it did. -/
def waitFreeSpec : ChangeSpec := { name := "waitFree", fn := fun _ => fun
  | [d] => { results := [.lit (.bool true)], args := [d] }
  | _ => none }
def waitFreeRow : OpenClaim := { program := "ytjakekfalooebaa", sum := "56f26b672703fded054476286bc72f9a0525e4e62c61965996db832db441f053", func := "palimpsest/palimpsestlaw15.WaitFree", spec := "waitFree", recurses := true, apart := false }
def WaitFreeSaid : Prop := waitFreeRow.holds Try.pinned (OpenSpec.ofChange waitFreeSpec)

/-- ITS FALSE NEIGHBOUR: 'it returns false'. Refute it at one input. -/
def waitFreeWrong : ChangeSpec := { name := "waitFree", fn := fun _ => fun
  | [d] => { results := [.lit (.bool false)], args := [d] }
  | _ => none }
def WaitFreeWrongFalsely : Prop := waitFreeRow.holds Try.pinned (OpenSpec.ofChange waitFreeWrong)

/-- 'palimpsestlaw15.WaitRounds': WHATEVER THE INPUT: true; the input reads as it did. -/
def waitRoundsSpec : ChangeSpec := { name := "waitRounds", fn := fun _ => fun
  | [d1, d2] => { results := [.lit (.bool true)], args := [d1, d2] }
  | _ => none }
def waitRoundsRow : OpenClaim := { program := "ytjakekfalooebaa", sum := "56f26b672703fded054476286bc72f9a0525e4e62c61965996db832db441f053", func := "palimpsest/palimpsestlaw15.WaitRounds", spec := "waitRounds", recurses := true, apart := false }
def WaitRoundsSaid : Prop := waitRoundsRow.holds Try.pinned (OpenSpec.ofChange waitRoundsSpec)

/-- ITS FALSE NEIGHBOUR: 'it returns false'. Refute it at one input. -/
def waitRoundsWrong : ChangeSpec := { name := "waitRounds", fn := fun _ => fun
  | [d1, d2] => { results := [.lit (.bool false)], args := [d1, d2] }
  | _ => none }
def WaitRoundsWrongFalsely : Prop := waitRoundsRow.holds Try.pinned (OpenSpec.ofChange waitRoundsWrong)

/- THE SECOND FORM. 'bulk': how many values and letters a reading holds, each counted each time it is reached (what is shared counts as often as it is met; a slice's spare places count too). A statement '..UptoSaid' is the law's where the arguments, and the package variables that the reading takes, are together of bulk at most 1048576: NARROWER than '..Said'. Prove '..Said' where nothing that the law and all that it calls make is longer than what came in: it says more and counts as full. Else prove '..UptoSaid'. A law counts once. -/
mutual
def uptoBulk {H : Type} : DataW H → Nat
  | .lit (.string bytes) => bytes.length + 1
  | .lit _ => 1
  | .nil => 1
  | .ptr d => uptoBulk d + 1
  | .slice elems spare => uptoBulkAll elems + uptoBulkAll spare + 1
  | .agg parts => uptoBulkAll parts + 1
  | .iface _ d => uptoBulk d + 1
  | .map entries => uptoBulkEntries entries + 1
  | .held _ => 1
def uptoBulkAll {H : Type} : List (DataW H) → Nat
  | [] => 0
  | d :: r => uptoBulk d + uptoBulkAll r
def uptoBulkEntries {H : Type} : List (Lit × DataW H) → Nat
  | [] => 0
  | x :: r => uptoBulkEntry x + uptoBulkEntries r
def uptoBulkEntry {H : Type} : Lit × DataW H → Nat
  | (.string bytes, d) => bytes.length + uptoBulk d + 1
  | (_, d) => uptoBulk d + 1
 end
def uptoSmall : (H : Type) → List (DataW H) → Bool := fun _ ds => decide (uptoBulkAll ds ≤ 1048576)
def OpenSpec.upto (s : _root_.Go.ChangeSpec) : _root_.Go.OpenSpec := { _root_.Go.OpenSpec.ofChange s with cond := some uptoSmall }

/-- 'palimpsestlaw15.WaitPaths', WHERE WHAT IT READS IS OF BULK AT MOST 1048576: true; the input reads as it did. -/
def waitPathsUptoRow : OpenClaim := { program := "ytjakekfalooebaa", sum := "56f26b672703fded054476286bc72f9a0525e4e62c61965996db832db441f053", func := "palimpsest/palimpsestlaw15.WaitPaths", spec := "waitPaths", recurses := true, apart := false, narrowed := true }
def WaitPathsUptoSaid : Prop := waitPathsUptoRow.holds Try.pinned (OpenSpec.upto waitPathsSpec)

/-- 'palimpsestlaw15.WaitPlays', WHERE WHAT IT READS IS OF BULK AT MOST 1048576: true; the input reads as it did. -/
def waitPlaysUptoRow : OpenClaim := { program := "ytjakekfalooebaa", sum := "56f26b672703fded054476286bc72f9a0525e4e62c61965996db832db441f053", func := "palimpsest/palimpsestlaw15.WaitPlays", spec := "waitPlays", recurses := true, apart := false, narrowed := true }
def WaitPlaysUptoSaid : Prop := waitPlaysUptoRow.holds Try.pinned (OpenSpec.upto waitPlaysSpec)

/-- 'palimpsestlaw15.WaitFree', WHERE WHAT IT READS IS OF BULK AT MOST 1048576: true; the input reads as it did. -/
def waitFreeUptoRow : OpenClaim := { program := "ytjakekfalooebaa", sum := "56f26b672703fded054476286bc72f9a0525e4e62c61965996db832db441f053", func := "palimpsest/palimpsestlaw15.WaitFree", spec := "waitFree", recurses := true, apart := false, narrowed := true }
def WaitFreeUptoSaid : Prop := waitFreeUptoRow.holds Try.pinned (OpenSpec.upto waitFreeSpec)

/-- 'palimpsestlaw15.WaitRounds', WHERE WHAT IT READS IS OF BULK AT MOST 1048576: true; the input reads as it did. -/
def waitRoundsUptoRow : OpenClaim := { program := "ytjakekfalooebaa", sum := "56f26b672703fded054476286bc72f9a0525e4e62c61965996db832db441f053", func := "palimpsest/palimpsestlaw15.WaitRounds", spec := "waitRounds", recurses := true, apart := false, narrowed := true }
def WaitRoundsUptoSaid : Prop := waitRoundsUptoRow.holds Try.pinned (OpenSpec.upto waitRoundsSpec)

end Rows
end Go.Proofs.Ytjakekfalooebaa
