/-
  No cell of these rows narrows 'for every input' (looked for: loops, veiled, ifaces, maps, wideKeys, modest, calm, conditions, laid).
  DERIVED. THE GIVEN ROWS OF THIS SEAT. 13 by the template 'for every input the law returns true; each argument reads behind the call as it read before'; 0 by the template 'total and deterministic' (their statements: YtpajagkhmodbnaaGreatTotals.lean).
  GIVEN WITH THE SEED: the statements are not yours to turn. If you find one false, say at which input.
  Laid BY PROGRAM, IN A SANDBOX (cutbox-rows.mjs): the forced cells as the released guide's own fill.sh prints them over the translation 76d30eae37d3cbd2… (all of the seat's roots in one cut). By AI agents, Wed Nov 11 2026. No macro, syntax, notation, axiom, sorry.
-/
import Derived.Test.YtpajagkhmodbnaaGreatChecked
import GoSem.Claim
import GoSem.ClaimJoined
import GoSem.ClaimMapViews
import Derived.JoinedTies
import Derived.KernelRfl
namespace Go.Proofs.YtpajagkhmodbnaaGreat
/- THE CELL 'sum', in the pinned program and in every row, IS THE sha256 OF THE DUMP (.gsa) THAT YtpajagkhmodbnaaGreatProg.lean LOADS. Nothing in Lean hashes anything: it is a label: what it is worth is what the hold of that sum in a sandbox is worth. -/
noncomputable def Tryz.pinned : Pinned := { name := "ytpajagkhmodbnaagreat", sum := "76d30eae37d3cbd2fc5721b9851712256ff3b3e591728b1a795025d7ee5a9cbd", checked := Tryz.checked }
namespace Rows
def none {H : Type} : Left H := { results := [], args := [] }

/-- 'palimpsestlaw7.StoreLayout': WHATEVER THE INPUT: true; the input reads as it did. -/
def storeLayoutSpec : ChangeSpec := { name := "storeLayout", fn := fun _ => fun
  | [d] => { results := [.lit (.bool true)], args := [d] }
  | _ => none }
def storeLayoutRow : OpenClaim := { program := "ytpajagkhmodbnaagreat", sum := "76d30eae37d3cbd2fc5721b9851712256ff3b3e591728b1a795025d7ee5a9cbd", func := "palimpsest/palimpsestlaw7.StoreLayout", spec := "storeLayout", unfollowed := true, recurses := true, apart := false }
def StoreLayoutSaid : Prop := storeLayoutRow.holds Tryz.pinned (OpenSpec.ofChange storeLayoutSpec)

/-- ITS FALSE NEIGHBOUR: 'it returns false'. Refute it at one input. -/
def storeLayoutWrong : ChangeSpec := { name := "storeLayout", fn := fun _ => fun
  | [d] => { results := [.lit (.bool false)], args := [d] }
  | _ => none }
def StoreLayoutWrongFalsely : Prop := storeLayoutRow.holds Tryz.pinned (OpenSpec.ofChange storeLayoutWrong)

/-- 'palimpsestlaw8.SpaceMaps': WHATEVER THE INPUT: true; the input reads as it did. -/
def spaceMapsSpec : ChangeSpec := { name := "spaceMaps", fn := fun _ => fun
  | [d] => { results := [.lit (.bool true)], args := [d] }
  | _ => none }
def spaceMapsRow : OpenClaim := { program := "ytpajagkhmodbnaagreat", sum := "76d30eae37d3cbd2fc5721b9851712256ff3b3e591728b1a795025d7ee5a9cbd", func := "palimpsest/palimpsestlaw8.SpaceMaps", spec := "spaceMaps", unfollowed := true, recurses := true, apart := false }
def SpaceMapsSaid : Prop := spaceMapsRow.holds Tryz.pinned (OpenSpec.ofChange spaceMapsSpec)

/-- ITS FALSE NEIGHBOUR: 'it returns false'. Refute it at one input. -/
def spaceMapsWrong : ChangeSpec := { name := "spaceMaps", fn := fun _ => fun
  | [d] => { results := [.lit (.bool false)], args := [d] }
  | _ => none }
def SpaceMapsWrongFalsely : Prop := spaceMapsRow.holds Tryz.pinned (OpenSpec.ofChange spaceMapsWrong)

/-- 'palimpsestlaw8.SpacePlays': WHATEVER THE INPUT: true; the input reads as it did. -/
def spacePlaysSpec : ChangeSpec := { name := "spacePlays", fn := fun _ => fun
  | [d] => { results := [.lit (.bool true)], args := [d] }
  | _ => none }
def spacePlaysRow : OpenClaim := { program := "ytpajagkhmodbnaagreat", sum := "76d30eae37d3cbd2fc5721b9851712256ff3b3e591728b1a795025d7ee5a9cbd", func := "palimpsest/palimpsestlaw8.SpacePlays", spec := "spacePlays", unfollowed := true, recurses := true, apart := false }
def SpacePlaysSaid : Prop := spacePlaysRow.holds Tryz.pinned (OpenSpec.ofChange spacePlaysSpec)

/-- ITS FALSE NEIGHBOUR: 'it returns false'. Refute it at one input. -/
def spacePlaysWrong : ChangeSpec := { name := "spacePlays", fn := fun _ => fun
  | [d] => { results := [.lit (.bool false)], args := [d] }
  | _ => none }
def SpacePlaysWrongFalsely : Prop := spacePlaysRow.holds Tryz.pinned (OpenSpec.ofChange spacePlaysWrong)

/-- 'palimpsestlaw7.StoreLog': WHATEVER THE INPUT: true; the input reads as it did. -/
def storeLogSpec : ChangeSpec := { name := "storeLog", fn := fun _ => fun
  | [d] => { results := [.lit (.bool true)], args := [d] }
  | _ => none }
def storeLogRow : OpenClaim := { program := "ytpajagkhmodbnaagreat", sum := "76d30eae37d3cbd2fc5721b9851712256ff3b3e591728b1a795025d7ee5a9cbd", func := "palimpsest/palimpsestlaw7.StoreLog", spec := "storeLog", unfollowed := true, recurses := true, apart := false }
def StoreLogSaid : Prop := storeLogRow.holds Tryz.pinned (OpenSpec.ofChange storeLogSpec)

/-- ITS FALSE NEIGHBOUR: 'it returns false'. Refute it at one input. -/
def storeLogWrong : ChangeSpec := { name := "storeLog", fn := fun _ => fun
  | [d] => { results := [.lit (.bool false)], args := [d] }
  | _ => none }
def StoreLogWrongFalsely : Prop := storeLogRow.holds Tryz.pinned (OpenSpec.ofChange storeLogWrong)

/-- 'palimpsestlaw7.StoreSteals': WHATEVER THE INPUT: true; the input reads as it did. -/
def storeStealsSpec : ChangeSpec := { name := "storeSteals", fn := fun _ => fun
  | [d1, d2, d3] => { results := [.lit (.bool true)], args := [d1, d2, d3] }
  | _ => none }
def storeStealsRow : OpenClaim := { program := "ytpajagkhmodbnaagreat", sum := "76d30eae37d3cbd2fc5721b9851712256ff3b3e591728b1a795025d7ee5a9cbd", func := "palimpsest/palimpsestlaw7.StoreSteals", spec := "storeSteals", unfollowed := true, recurses := true, apart := false }
def StoreStealsSaid : Prop := storeStealsRow.holds Tryz.pinned (OpenSpec.ofChange storeStealsSpec)

/-- ITS FALSE NEIGHBOUR: 'it returns false'. Refute it at one input. -/
def storeStealsWrong : ChangeSpec := { name := "storeSteals", fn := fun _ => fun
  | [d1, d2, d3] => { results := [.lit (.bool false)], args := [d1, d2, d3] }
  | _ => none }
def StoreStealsWrongFalsely : Prop := storeStealsRow.holds Tryz.pinned (OpenSpec.ofChange storeStealsWrong)

/-- 'palimpsestlaw7.StoreBacks': WHATEVER THE INPUT: true; the input reads as it did. -/
def storeBacksSpec : ChangeSpec := { name := "storeBacks", fn := fun _ => fun
  | [d1, d2] => { results := [.lit (.bool true)], args := [d1, d2] }
  | _ => none }
def storeBacksRow : OpenClaim := { program := "ytpajagkhmodbnaagreat", sum := "76d30eae37d3cbd2fc5721b9851712256ff3b3e591728b1a795025d7ee5a9cbd", func := "palimpsest/palimpsestlaw7.StoreBacks", spec := "storeBacks", unfollowed := true, recurses := true, apart := false }
def StoreBacksSaid : Prop := storeBacksRow.holds Tryz.pinned (OpenSpec.ofChange storeBacksSpec)

/-- ITS FALSE NEIGHBOUR: 'it returns false'. Refute it at one input. -/
def storeBacksWrong : ChangeSpec := { name := "storeBacks", fn := fun _ => fun
  | [d1, d2] => { results := [.lit (.bool false)], args := [d1, d2] }
  | _ => none }
def StoreBacksWrongFalsely : Prop := storeBacksRow.holds Tryz.pinned (OpenSpec.ofChange storeBacksWrong)

/-- 'palimpsestlaw7.StoreBound': WHATEVER THE INPUT: true; the input reads as it did. -/
def storeBoundSpec : ChangeSpec := { name := "storeBound", fn := fun _ => fun
  | [d1, d2, d3] => { results := [.lit (.bool true)], args := [d1, d2, d3] }
  | _ => none }
def storeBoundRow : OpenClaim := { program := "ytpajagkhmodbnaagreat", sum := "76d30eae37d3cbd2fc5721b9851712256ff3b3e591728b1a795025d7ee5a9cbd", func := "palimpsest/palimpsestlaw7.StoreBound", spec := "storeBound", unfollowed := true, recurses := true, apart := false }
def StoreBoundSaid : Prop := storeBoundRow.holds Tryz.pinned (OpenSpec.ofChange storeBoundSpec)

/-- ITS FALSE NEIGHBOUR: 'it returns false'. Refute it at one input. -/
def storeBoundWrong : ChangeSpec := { name := "storeBound", fn := fun _ => fun
  | [d1, d2, d3] => { results := [.lit (.bool false)], args := [d1, d2, d3] }
  | _ => none }
def StoreBoundWrongFalsely : Prop := storeBoundRow.holds Tryz.pinned (OpenSpec.ofChange storeBoundWrong)

/-- 'palimpsestlaw7.StoreLazy': WHATEVER THE INPUT: true; the input reads as it did. -/
def storeLazySpec : ChangeSpec := { name := "storeLazy", fn := fun _ => fun
  | [d] => { results := [.lit (.bool true)], args := [d] }
  | _ => none }
def storeLazyRow : OpenClaim := { program := "ytpajagkhmodbnaagreat", sum := "76d30eae37d3cbd2fc5721b9851712256ff3b3e591728b1a795025d7ee5a9cbd", func := "palimpsest/palimpsestlaw7.StoreLazy", spec := "storeLazy", unfollowed := true, recurses := true, apart := false }
def StoreLazySaid : Prop := storeLazyRow.holds Tryz.pinned (OpenSpec.ofChange storeLazySpec)

/-- ITS FALSE NEIGHBOUR: 'it returns false'. Refute it at one input. -/
def storeLazyWrong : ChangeSpec := { name := "storeLazy", fn := fun _ => fun
  | [d] => { results := [.lit (.bool false)], args := [d] }
  | _ => none }
def StoreLazyWrongFalsely : Prop := storeLazyRow.holds Tryz.pinned (OpenSpec.ofChange storeLazyWrong)

/-- 'palimpsestlaw7.StoreAgain': WHATEVER THE INPUT: true; the input reads as it did. -/
def storeAgainSpec : ChangeSpec := { name := "storeAgain", fn := fun _ => fun
  | [d] => { results := [.lit (.bool true)], args := [d] }
  | _ => none }
def storeAgainRow : OpenClaim := { program := "ytpajagkhmodbnaagreat", sum := "76d30eae37d3cbd2fc5721b9851712256ff3b3e591728b1a795025d7ee5a9cbd", func := "palimpsest/palimpsestlaw7.StoreAgain", spec := "storeAgain", unfollowed := true, recurses := true, apart := false }
def StoreAgainSaid : Prop := storeAgainRow.holds Tryz.pinned (OpenSpec.ofChange storeAgainSpec)

/-- ITS FALSE NEIGHBOUR: 'it returns false'. Refute it at one input. -/
def storeAgainWrong : ChangeSpec := { name := "storeAgain", fn := fun _ => fun
  | [d] => { results := [.lit (.bool false)], args := [d] }
  | _ => none }
def StoreAgainWrongFalsely : Prop := storeAgainRow.holds Tryz.pinned (OpenSpec.ofChange storeAgainWrong)

/-- 'palimpsestlaw7.StoreMarks': WHATEVER THE INPUT: true; the input reads as it did. -/
def storeMarksSpec : ChangeSpec := { name := "storeMarks", fn := fun _ => fun
  | [d1, d2] => { results := [.lit (.bool true)], args := [d1, d2] }
  | _ => none }
def storeMarksRow : OpenClaim := { program := "ytpajagkhmodbnaagreat", sum := "76d30eae37d3cbd2fc5721b9851712256ff3b3e591728b1a795025d7ee5a9cbd", func := "palimpsest/palimpsestlaw7.StoreMarks", spec := "storeMarks", unfollowed := true, recurses := true, apart := false }
def StoreMarksSaid : Prop := storeMarksRow.holds Tryz.pinned (OpenSpec.ofChange storeMarksSpec)

/-- ITS FALSE NEIGHBOUR: 'it returns false'. Refute it at one input. -/
def storeMarksWrong : ChangeSpec := { name := "storeMarks", fn := fun _ => fun
  | [d1, d2] => { results := [.lit (.bool false)], args := [d1, d2] }
  | _ => none }
def StoreMarksWrongFalsely : Prop := storeMarksRow.holds Tryz.pinned (OpenSpec.ofChange storeMarksWrong)

/-- 'palimpsestlaw7.StoreLasts': WHATEVER THE INPUT: true; the input reads as it did. -/
def storeLastsSpec : ChangeSpec := { name := "storeLasts", fn := fun _ => fun
  | [d1, d2, d3, d4, d5] => { results := [.lit (.bool true)], args := [d1, d2, d3, d4, d5] }
  | _ => none }
def storeLastsRow : OpenClaim := { program := "ytpajagkhmodbnaagreat", sum := "76d30eae37d3cbd2fc5721b9851712256ff3b3e591728b1a795025d7ee5a9cbd", func := "palimpsest/palimpsestlaw7.StoreLasts", spec := "storeLasts", unfollowed := true, recurses := true, apart := false }
def StoreLastsSaid : Prop := storeLastsRow.holds Tryz.pinned (OpenSpec.ofChange storeLastsSpec)

/-- ITS FALSE NEIGHBOUR: 'it returns false'. Refute it at one input. -/
def storeLastsWrong : ChangeSpec := { name := "storeLasts", fn := fun _ => fun
  | [d1, d2, d3, d4, d5] => { results := [.lit (.bool false)], args := [d1, d2, d3, d4, d5] }
  | _ => none }
def StoreLastsWrongFalsely : Prop := storeLastsRow.holds Tryz.pinned (OpenSpec.ofChange storeLastsWrong)

/-- 'palimpsestlaw8.SpaceAll': WHATEVER THE INPUT: true; the input reads as it did. -/
def spaceAllSpec : ChangeSpec := { name := "spaceAll", fn := fun _ => fun
  | [d1, d2] => { results := [.lit (.bool true)], args := [d1, d2] }
  | _ => none }
def spaceAllRow : OpenClaim := { program := "ytpajagkhmodbnaagreat", sum := "76d30eae37d3cbd2fc5721b9851712256ff3b3e591728b1a795025d7ee5a9cbd", func := "palimpsest/palimpsestlaw8.SpaceAll", spec := "spaceAll", unfollowed := true, recurses := true, apart := false }
def SpaceAllSaid : Prop := spaceAllRow.holds Tryz.pinned (OpenSpec.ofChange spaceAllSpec)

/-- ITS FALSE NEIGHBOUR: 'it returns false'. Refute it at one input. -/
def spaceAllWrong : ChangeSpec := { name := "spaceAll", fn := fun _ => fun
  | [d1, d2] => { results := [.lit (.bool false)], args := [d1, d2] }
  | _ => none }
def SpaceAllWrongFalsely : Prop := spaceAllRow.holds Tryz.pinned (OpenSpec.ofChange spaceAllWrong)

/-- 'palimpsestlaw8.SpaceApart': WHATEVER THE INPUT: true; the input reads as it did. -/
def spaceApartSpec : ChangeSpec := { name := "spaceApart", fn := fun _ => fun
  | [d1, d2] => { results := [.lit (.bool true)], args := [d1, d2] }
  | _ => none }
def spaceApartRow : OpenClaim := { program := "ytpajagkhmodbnaagreat", sum := "76d30eae37d3cbd2fc5721b9851712256ff3b3e591728b1a795025d7ee5a9cbd", func := "palimpsest/palimpsestlaw8.SpaceApart", spec := "spaceApart", unfollowed := true, recurses := true, apart := false }
def SpaceApartSaid : Prop := spaceApartRow.holds Tryz.pinned (OpenSpec.ofChange spaceApartSpec)

/-- ITS FALSE NEIGHBOUR: 'it returns false'. Refute it at one input. -/
def spaceApartWrong : ChangeSpec := { name := "spaceApart", fn := fun _ => fun
  | [d1, d2] => { results := [.lit (.bool false)], args := [d1, d2] }
  | _ => none }
def SpaceApartWrongFalsely : Prop := spaceApartRow.holds Tryz.pinned (OpenSpec.ofChange spaceApartWrong)

/- THE SECOND FORM. 'bulk': how many values and letters a reading holds, each counted each time it is reached (what is shared counts as often as it is met; a slice's spare places count too). A statement '..UptoSaid' is the law's where the arguments, and the package variables that the reading takes, are together of bulk at most 1048576: NARROWER than '..Said'. Prove '..Said' where nothing that the law and all that it calls make is longer than what came in: it says more and counts as full. Else prove '..UptoSaid'. A law counts once. -/
mutual
def uptoBulk {H : Type} : DataW H → Nat
  | .lit (.string bytes) => bytes.length + 1
  | .lit _ => 1
  | .nil => 1
  | .ptr d => uptoBulk d + 1
  | .slice elems spare => uptoBulkAll elems + uptoBulkAll spare + 1
  | .agg parts => uptoBulkAll parts + 1
  | .iface _ d => uptoBulk d + 1
  | .map entries => uptoBulkEntries entries + 1
  | .held _ => 1
def uptoBulkAll {H : Type} : List (DataW H) → Nat
  | [] => 0
  | d :: r => uptoBulk d + uptoBulkAll r
def uptoBulkEntries {H : Type} : List (Lit × DataW H) → Nat
  | [] => 0
  | x :: r => uptoBulkEntry x + uptoBulkEntries r
def uptoBulkEntry {H : Type} : Lit × DataW H → Nat
  | (.string bytes, d) => bytes.length + uptoBulk d + 1
  | (_, d) => uptoBulk d + 1
 end
def uptoSmall : (H : Type) → List (DataW H) → Bool := fun _ ds => decide (uptoBulkAll ds ≤ 1048576)
def OpenSpec.upto (s : _root_.Go.ChangeSpec) : _root_.Go.OpenSpec := { _root_.Go.OpenSpec.ofChange s with cond := some uptoSmall }

/-- 'palimpsestlaw7.StoreLayout', WHERE WHAT IT READS IS OF BULK AT MOST 1048576: true; the input reads as it did. -/
def storeLayoutUptoRow : OpenClaim := { program := "ytpajagkhmodbnaagreat", sum := "76d30eae37d3cbd2fc5721b9851712256ff3b3e591728b1a795025d7ee5a9cbd", func := "palimpsest/palimpsestlaw7.StoreLayout", spec := "storeLayout", unfollowed := true, recurses := true, apart := false, narrowed := true }
def StoreLayoutUptoSaid : Prop := storeLayoutUptoRow.holds Tryz.pinned (OpenSpec.upto storeLayoutSpec)

/-- 'palimpsestlaw8.SpaceMaps', WHERE WHAT IT READS IS OF BULK AT MOST 1048576: true; the input reads as it did. -/
def spaceMapsUptoRow : OpenClaim := { program := "ytpajagkhmodbnaagreat", sum := "76d30eae37d3cbd2fc5721b9851712256ff3b3e591728b1a795025d7ee5a9cbd", func := "palimpsest/palimpsestlaw8.SpaceMaps", spec := "spaceMaps", unfollowed := true, recurses := true, apart := false, narrowed := true }
def SpaceMapsUptoSaid : Prop := spaceMapsUptoRow.holds Tryz.pinned (OpenSpec.upto spaceMapsSpec)

/-- 'palimpsestlaw8.SpacePlays', WHERE WHAT IT READS IS OF BULK AT MOST 1048576: true; the input reads as it did. -/
def spacePlaysUptoRow : OpenClaim := { program := "ytpajagkhmodbnaagreat", sum := "76d30eae37d3cbd2fc5721b9851712256ff3b3e591728b1a795025d7ee5a9cbd", func := "palimpsest/palimpsestlaw8.SpacePlays", spec := "spacePlays", unfollowed := true, recurses := true, apart := false, narrowed := true }
def SpacePlaysUptoSaid : Prop := spacePlaysUptoRow.holds Tryz.pinned (OpenSpec.upto spacePlaysSpec)

/-- 'palimpsestlaw7.StoreLog', WHERE WHAT IT READS IS OF BULK AT MOST 1048576: true; the input reads as it did. -/
def storeLogUptoRow : OpenClaim := { program := "ytpajagkhmodbnaagreat", sum := "76d30eae37d3cbd2fc5721b9851712256ff3b3e591728b1a795025d7ee5a9cbd", func := "palimpsest/palimpsestlaw7.StoreLog", spec := "storeLog", unfollowed := true, recurses := true, apart := false, narrowed := true }
def StoreLogUptoSaid : Prop := storeLogUptoRow.holds Tryz.pinned (OpenSpec.upto storeLogSpec)

/-- 'palimpsestlaw7.StoreSteals', WHERE WHAT IT READS IS OF BULK AT MOST 1048576: true; the input reads as it did. -/
def storeStealsUptoRow : OpenClaim := { program := "ytpajagkhmodbnaagreat", sum := "76d30eae37d3cbd2fc5721b9851712256ff3b3e591728b1a795025d7ee5a9cbd", func := "palimpsest/palimpsestlaw7.StoreSteals", spec := "storeSteals", unfollowed := true, recurses := true, apart := false, narrowed := true }
def StoreStealsUptoSaid : Prop := storeStealsUptoRow.holds Tryz.pinned (OpenSpec.upto storeStealsSpec)

/-- 'palimpsestlaw7.StoreBacks', WHERE WHAT IT READS IS OF BULK AT MOST 1048576: true; the input reads as it did. -/
def storeBacksUptoRow : OpenClaim := { program := "ytpajagkhmodbnaagreat", sum := "76d30eae37d3cbd2fc5721b9851712256ff3b3e591728b1a795025d7ee5a9cbd", func := "palimpsest/palimpsestlaw7.StoreBacks", spec := "storeBacks", unfollowed := true, recurses := true, apart := false, narrowed := true }
def StoreBacksUptoSaid : Prop := storeBacksUptoRow.holds Tryz.pinned (OpenSpec.upto storeBacksSpec)

/-- 'palimpsestlaw7.StoreBound', WHERE WHAT IT READS IS OF BULK AT MOST 1048576: true; the input reads as it did. -/
def storeBoundUptoRow : OpenClaim := { program := "ytpajagkhmodbnaagreat", sum := "76d30eae37d3cbd2fc5721b9851712256ff3b3e591728b1a795025d7ee5a9cbd", func := "palimpsest/palimpsestlaw7.StoreBound", spec := "storeBound", unfollowed := true, recurses := true, apart := false, narrowed := true }
def StoreBoundUptoSaid : Prop := storeBoundUptoRow.holds Tryz.pinned (OpenSpec.upto storeBoundSpec)

/-- 'palimpsestlaw7.StoreLazy', WHERE WHAT IT READS IS OF BULK AT MOST 1048576: true; the input reads as it did. -/
def storeLazyUptoRow : OpenClaim := { program := "ytpajagkhmodbnaagreat", sum := "76d30eae37d3cbd2fc5721b9851712256ff3b3e591728b1a795025d7ee5a9cbd", func := "palimpsest/palimpsestlaw7.StoreLazy", spec := "storeLazy", unfollowed := true, recurses := true, apart := false, narrowed := true }
def StoreLazyUptoSaid : Prop := storeLazyUptoRow.holds Tryz.pinned (OpenSpec.upto storeLazySpec)

/-- 'palimpsestlaw7.StoreAgain', WHERE WHAT IT READS IS OF BULK AT MOST 1048576: true; the input reads as it did. -/
def storeAgainUptoRow : OpenClaim := { program := "ytpajagkhmodbnaagreat", sum := "76d30eae37d3cbd2fc5721b9851712256ff3b3e591728b1a795025d7ee5a9cbd", func := "palimpsest/palimpsestlaw7.StoreAgain", spec := "storeAgain", unfollowed := true, recurses := true, apart := false, narrowed := true }
def StoreAgainUptoSaid : Prop := storeAgainUptoRow.holds Tryz.pinned (OpenSpec.upto storeAgainSpec)

/-- 'palimpsestlaw7.StoreMarks', WHERE WHAT IT READS IS OF BULK AT MOST 1048576: true; the input reads as it did. -/
def storeMarksUptoRow : OpenClaim := { program := "ytpajagkhmodbnaagreat", sum := "76d30eae37d3cbd2fc5721b9851712256ff3b3e591728b1a795025d7ee5a9cbd", func := "palimpsest/palimpsestlaw7.StoreMarks", spec := "storeMarks", unfollowed := true, recurses := true, apart := false, narrowed := true }
def StoreMarksUptoSaid : Prop := storeMarksUptoRow.holds Tryz.pinned (OpenSpec.upto storeMarksSpec)

/-- 'palimpsestlaw7.StoreLasts', WHERE WHAT IT READS IS OF BULK AT MOST 1048576: true; the input reads as it did. -/
def storeLastsUptoRow : OpenClaim := { program := "ytpajagkhmodbnaagreat", sum := "76d30eae37d3cbd2fc5721b9851712256ff3b3e591728b1a795025d7ee5a9cbd", func := "palimpsest/palimpsestlaw7.StoreLasts", spec := "storeLasts", unfollowed := true, recurses := true, apart := false, narrowed := true }
def StoreLastsUptoSaid : Prop := storeLastsUptoRow.holds Tryz.pinned (OpenSpec.upto storeLastsSpec)

/-- 'palimpsestlaw8.SpaceAll', WHERE WHAT IT READS IS OF BULK AT MOST 1048576: true; the input reads as it did. -/
def spaceAllUptoRow : OpenClaim := { program := "ytpajagkhmodbnaagreat", sum := "76d30eae37d3cbd2fc5721b9851712256ff3b3e591728b1a795025d7ee5a9cbd", func := "palimpsest/palimpsestlaw8.SpaceAll", spec := "spaceAll", unfollowed := true, recurses := true, apart := false, narrowed := true }
def SpaceAllUptoSaid : Prop := spaceAllUptoRow.holds Tryz.pinned (OpenSpec.upto spaceAllSpec)

/-- 'palimpsestlaw8.SpaceApart', WHERE WHAT IT READS IS OF BULK AT MOST 1048576: true; the input reads as it did. -/
def spaceApartUptoRow : OpenClaim := { program := "ytpajagkhmodbnaagreat", sum := "76d30eae37d3cbd2fc5721b9851712256ff3b3e591728b1a795025d7ee5a9cbd", func := "palimpsest/palimpsestlaw8.SpaceApart", spec := "spaceApart", unfollowed := true, recurses := true, apart := false, narrowed := true }
def SpaceApartUptoSaid : Prop := spaceApartUptoRow.holds Tryz.pinned (OpenSpec.upto spaceApartSpec)

end Rows
end Go.Proofs.YtpajagkhmodbnaaGreat
