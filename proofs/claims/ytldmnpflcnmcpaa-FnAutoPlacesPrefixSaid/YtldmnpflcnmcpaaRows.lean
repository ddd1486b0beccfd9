/-
  No cell of these rows narrows 'for every input' (looked for: loops, veiled, ifaces, maps, wideKeys, modest, calm, conditions, laid).
  DERIVED. THE GIVEN ROWS OF THIS SEAT. 11 by the template 'for every input the law returns true; each argument reads behind the call as it read before'; 0 by the template 'total and deterministic' (their statements: YtldmnpflcnmcpaaTotals.lean).
  GIVEN WITH THE SEED: the statements are not yours to turn. If you find one false, say at which input.
  Laid BY PROGRAM, IN A SANDBOX (cutbox-rows.mjs): the forced cells as the released guide's own fill.sh prints them over the translation b7d7cc520f3aef0d… (all of the seat's roots in one cut). By AI agents, Wed Nov 11 2026. No macro, syntax, notation, axiom, sorry.
-/
import Derived.Test.YtldmnpflcnmcpaaChecked
import GoSem.Claim
import GoSem.ClaimJoined
import GoSem.ClaimMapViews
import Derived.JoinedTies
import Derived.KernelRfl
namespace Go.Proofs.Ytldmnpflcnmcpaa
/- THE CELL 'sum', in the pinned program and in every row, IS THE sha256 OF THE DUMP (.gsa) THAT YtldmnpflcnmcpaaProg.lean LOADS. Nothing in Lean hashes anything: it is a label: what it is worth is what the hold of that sum in a sandbox is worth. -/
noncomputable def Try.pinned : Pinned := { name := "ytldmnpflcnmcpaa", sum := "b7d7cc520f3aef0d725f114ccc7628a8ce5b5303a836b489b3ed712c721fb30a", checked := Try.checked }
namespace Rows
def none {H : Type} : Left H := { results := [], args := [] }

/-- 'laws.FnExactRowsUsed': WHATEVER THE INPUT: true; the input reads as it did. -/
def fnExactRowsUsedSpec : ChangeSpec := { name := "fnExactRowsUsed", fn := fun _ => fun
  | [d1, d2] => { results := [.lit (.bool true)], args := [d1, d2] }
  | _ => none }
def fnExactRowsUsedRow : OpenClaim := { program := "ytldmnpflcnmcpaa", sum := "b7d7cc520f3aef0d725f114ccc7628a8ce5b5303a836b489b3ed712c721fb30a", func := "loop.example/flexlayout/laws.FnExactRowsUsed", spec := "fnExactRowsUsed", unfollowed := true, recurses := true, apart := false }
def FnExactRowsUsedSaid : Prop := fnExactRowsUsedRow.holds Try.pinned (OpenSpec.ofChange fnExactRowsUsedSpec)

/-- ITS FALSE NEIGHBOUR: 'it returns false'. Refute it at one input. -/
def fnExactRowsUsedWrong : ChangeSpec := { name := "fnExactRowsUsed", fn := fun _ => fun
  | [d1, d2] => { results := [.lit (.bool false)], args := [d1, d2] }
  | _ => none }
def FnExactRowsUsedWrongFalsely : Prop := fnExactRowsUsedRow.holds Try.pinned (OpenSpec.ofChange fnExactRowsUsedWrong)

/-- 'laws.FnExactAutoPlaces': WHATEVER THE INPUT: true; the input reads as it did. -/
def fnExactAutoPlacesSpec : ChangeSpec := { name := "fnExactAutoPlaces", fn := fun _ => fun
  | [d1, d2] => { results := [.lit (.bool true)], args := [d1, d2] }
  | _ => none }
def fnExactAutoPlacesRow : OpenClaim := { program := "ytldmnpflcnmcpaa", sum := "b7d7cc520f3aef0d725f114ccc7628a8ce5b5303a836b489b3ed712c721fb30a", func := "loop.example/flexlayout/laws.FnExactAutoPlaces", spec := "fnExactAutoPlaces", unfollowed := true, recurses := true, apart := false }
def FnExactAutoPlacesSaid : Prop := fnExactAutoPlacesRow.holds Try.pinned (OpenSpec.ofChange fnExactAutoPlacesSpec)

/-- ITS FALSE NEIGHBOUR: 'it returns false'. Refute it at one input. -/
def fnExactAutoPlacesWrong : ChangeSpec := { name := "fnExactAutoPlaces", fn := fun _ => fun
  | [d1, d2] => { results := [.lit (.bool false)], args := [d1, d2] }
  | _ => none }
def FnExactAutoPlacesWrongFalsely : Prop := fnExactAutoPlacesRow.holds Try.pinned (OpenSpec.ofChange fnExactAutoPlacesWrong)

/-- 'laws.FnAutoPlaces': WHATEVER THE INPUT: true; the input reads as it did. -/
def fnAutoPlacesSpec : ChangeSpec := { name := "fnAutoPlaces", fn := fun _ => fun
  | [d] => { results := [.lit (.bool true)], args := [d] }
  | _ => none }
def fnAutoPlacesRow : OpenClaim := { program := "ytldmnpflcnmcpaa", sum := "b7d7cc520f3aef0d725f114ccc7628a8ce5b5303a836b489b3ed712c721fb30a", func := "loop.example/flexlayout/laws.FnAutoPlaces", spec := "fnAutoPlaces", unfollowed := true, recurses := true, apart := false }
def FnAutoPlacesSaid : Prop := fnAutoPlacesRow.holds Try.pinned (OpenSpec.ofChange fnAutoPlacesSpec)

/-- ITS FALSE NEIGHBOUR: 'it returns false'. Refute it at one input. -/
def fnAutoPlacesWrong : ChangeSpec := { name := "fnAutoPlaces", fn := fun _ => fun
  | [d] => { results := [.lit (.bool false)], args := [d] }
  | _ => none }
def FnAutoPlacesWrongFalsely : Prop := fnAutoPlacesRow.holds Try.pinned (OpenSpec.ofChange fnAutoPlacesWrong)

/-- 'laws.FnAutoPlacesFull': WHATEVER THE INPUT: true; the input reads as it did. -/
def fnAutoPlacesFullSpec : ChangeSpec := { name := "fnAutoPlacesFull", fn := fun _ => fun
  | [d] => { results := [.lit (.bool true)], args := [d] }
  | _ => none }
def fnAutoPlacesFullRow : OpenClaim := { program := "ytldmnpflcnmcpaa", sum := "b7d7cc520f3aef0d725f114ccc7628a8ce5b5303a836b489b3ed712c721fb30a", func := "loop.example/flexlayout/laws.FnAutoPlacesFull", spec := "fnAutoPlacesFull", unfollowed := true, recurses := true, apart := false }
def FnAutoPlacesFullSaid : Prop := fnAutoPlacesFullRow.holds Try.pinned (OpenSpec.ofChange fnAutoPlacesFullSpec)

/-- ITS FALSE NEIGHBOUR: 'it returns false'. Refute it at one input. -/
def fnAutoPlacesFullWrong : ChangeSpec := { name := "fnAutoPlacesFull", fn := fun _ => fun
  | [d] => { results := [.lit (.bool false)], args := [d] }
  | _ => none }
def FnAutoPlacesFullWrongFalsely : Prop := fnAutoPlacesFullRow.holds Try.pinned (OpenSpec.ofChange fnAutoPlacesFullWrong)

/-- 'laws.FnAutoPlacesPrefix': WHATEVER THE INPUT: true; the input reads as it did. -/
def fnAutoPlacesPrefixSpec : ChangeSpec := { name := "fnAutoPlacesPrefix", fn := fun _ => fun
  | [d] => { results := [.lit (.bool true)], args := [d] }
  | _ => none }
def fnAutoPlacesPrefixRow : OpenClaim := { program := "ytldmnpflcnmcpaa", sum := "b7d7cc520f3aef0d725f114ccc7628a8ce5b5303a836b489b3ed712c721fb30a", func := "loop.example/flexlayout/laws.FnAutoPlacesPrefix", spec := "fnAutoPlacesPrefix", unfollowed := true, recurses := true, apart := false }
def FnAutoPlacesPrefixSaid : Prop := fnAutoPlacesPrefixRow.holds Try.pinned (OpenSpec.ofChange fnAutoPlacesPrefixSpec)

/-- ITS FALSE NEIGHBOUR: 'it returns false'. Refute it at one input. -/
def fnAutoPlacesPrefixWrong : ChangeSpec := { name := "fnAutoPlacesPrefix", fn := fun _ => fun
  | [d] => { results := [.lit (.bool false)], args := [d] }
  | _ => none }
def FnAutoPlacesPrefixWrongFalsely : Prop := fnAutoPlacesPrefixRow.holds Try.pinned (OpenSpec.ofChange fnAutoPlacesPrefixWrong)

/-- 'laws.FnRowsUsedMore': WHATEVER THE INPUT: true; the input reads as it did. -/
def fnRowsUsedMoreSpec : ChangeSpec := { name := "fnRowsUsedMore", fn := fun _ => fun
  | [d] => { results := [.lit (.bool true)], args := [d] }
  | _ => none }
def fnRowsUsedMoreRow : OpenClaim := { program := "ytldmnpflcnmcpaa", sum := "b7d7cc520f3aef0d725f114ccc7628a8ce5b5303a836b489b3ed712c721fb30a", func := "loop.example/flexlayout/laws.FnRowsUsedMore", spec := "fnRowsUsedMore", unfollowed := true, recurses := true, apart := false }
def FnRowsUsedMoreSaid : Prop := fnRowsUsedMoreRow.holds Try.pinned (OpenSpec.ofChange fnRowsUsedMoreSpec)

/-- ITS FALSE NEIGHBOUR: 'it returns false'. Refute it at one input. -/
def fnRowsUsedMoreWrong : ChangeSpec := { name := "fnRowsUsedMore", fn := fun _ => fun
  | [d] => { results := [.lit (.bool false)], args := [d] }
  | _ => none }
def FnRowsUsedMoreWrongFalsely : Prop := fnRowsUsedMoreRow.holds Try.pinned (OpenSpec.ofChange fnRowsUsedMoreWrong)

/-- 'laws.FnRowsUsed': WHATEVER THE INPUT: true; the input reads as it did. -/
def fnRowsUsedSpec : ChangeSpec := { name := "fnRowsUsed", fn := fun _ => fun
  | [d] => { results := [.lit (.bool true)], args := [d] }
  | _ => none }
def fnRowsUsedRow : OpenClaim := { program := "ytldmnpflcnmcpaa", sum := "b7d7cc520f3aef0d725f114ccc7628a8ce5b5303a836b489b3ed712c721fb30a", func := "loop.example/flexlayout/laws.FnRowsUsed", spec := "fnRowsUsed", unfollowed := true, recurses := true, apart := false }
def FnRowsUsedSaid : Prop := fnRowsUsedRow.holds Try.pinned (OpenSpec.ofChange fnRowsUsedSpec)

/-- ITS FALSE NEIGHBOUR: 'it returns false'. Refute it at one input. -/
def fnRowsUsedWrong : ChangeSpec := { name := "fnRowsUsed", fn := fun _ => fun
  | [d] => { results := [.lit (.bool false)], args := [d] }
  | _ => none }
def FnRowsUsedWrongFalsely : Prop := fnRowsUsedRow.holds Try.pinned (OpenSpec.ofChange fnRowsUsedWrong)

/-- 'laws.FnFinishFramesSlices': WHATEVER THE INPUT: true; the input reads as it did. -/
def fnFinishFramesSlicesSpec : ChangeSpec := { name := "fnFinishFramesSlices", fn := fun _ => fun
  | [d] => { results := [.lit (.bool true)], args := [d] }
  | _ => none }
def fnFinishFramesSlicesRow : OpenClaim := { program := "ytldmnpflcnmcpaa", sum := "b7d7cc520f3aef0d725f114ccc7628a8ce5b5303a836b489b3ed712c721fb30a", func := "loop.example/flexlayout/laws.FnFinishFramesSlices", spec := "fnFinishFramesSlices", unfollowed := true, recurses := true, apart := false }
def FnFinishFramesSlicesSaid : Prop := fnFinishFramesSlicesRow.holds Try.pinned (OpenSpec.ofChange fnFinishFramesSlicesSpec)

/-- ITS FALSE NEIGHBOUR: 'it returns false'. Refute it at one input. -/
def fnFinishFramesSlicesWrong : ChangeSpec := { name := "fnFinishFramesSlices", fn := fun _ => fun
  | [d] => { results := [.lit (.bool false)], args := [d] }
  | _ => none }
def FnFinishFramesSlicesWrongFalsely : Prop := fnFinishFramesSlicesRow.holds Try.pinned (OpenSpec.ofChange fnFinishFramesSlicesWrong)

/-- 'laws.FnWorkLeft': WHATEVER THE INPUT: true; the input reads as it did. -/
def fnWorkLeftSpec : ChangeSpec := { name := "fnWorkLeft", fn := fun _ => fun
  | [d] => { results := [.lit (.bool true)], args := [d] }
  | _ => none }
def fnWorkLeftRow : OpenClaim := { program := "ytldmnpflcnmcpaa", sum := "b7d7cc520f3aef0d725f114ccc7628a8ce5b5303a836b489b3ed712c721fb30a", func := "loop.example/flexlayout/laws.FnWorkLeft", spec := "fnWorkLeft", unfollowed := true, recurses := true, apart := false }
def FnWorkLeftSaid : Prop := fnWorkLeftRow.holds Try.pinned (OpenSpec.ofChange fnWorkLeftSpec)

/-- ITS FALSE NEIGHBOUR: 'it returns false'. Refute it at one input. -/
def fnWorkLeftWrong : ChangeSpec := { name := "fnWorkLeft", fn := fun _ => fun
  | [d] => { results := [.lit (.bool false)], args := [d] }
  | _ => none }
def FnWorkLeftWrongFalsely : Prop := fnWorkLeftRow.holds Try.pinned (OpenSpec.ofChange fnWorkLeftWrong)

/-- 'laws.FnFinishFramesBudget': WHATEVER THE INPUT: true; the input reads as it did. -/
def fnFinishFramesBudgetSpec : ChangeSpec := { name := "fnFinishFramesBudget", fn := fun _ => fun
  | [d] => { results := [.lit (.bool true)], args := [d] }
  | _ => none }
def fnFinishFramesBudgetRow : OpenClaim := { program := "ytldmnpflcnmcpaa", sum := "b7d7cc520f3aef0d725f114ccc7628a8ce5b5303a836b489b3ed712c721fb30a", func := "loop.example/flexlayout/laws.FnFinishFramesBudget", spec := "fnFinishFramesBudget", unfollowed := true, recurses := true, apart := false }
def FnFinishFramesBudgetSaid : Prop := fnFinishFramesBudgetRow.holds Try.pinned (OpenSpec.ofChange fnFinishFramesBudgetSpec)

/-- ITS FALSE NEIGHBOUR: 'it returns false'. Refute it at one input. -/
def fnFinishFramesBudgetWrong : ChangeSpec := { name := "fnFinishFramesBudget", fn := fun _ => fun
  | [d] => { results := [.lit (.bool false)], args := [d] }
  | _ => none }
def FnFinishFramesBudgetWrongFalsely : Prop := fnFinishFramesBudgetRow.holds Try.pinned (OpenSpec.ofChange fnFinishFramesBudgetWrong)

/-- 'laws.FnWorkLeftDone': WHATEVER THE INPUT: true; the input reads as it did. -/
def fnWorkLeftDoneSpec : ChangeSpec := { name := "fnWorkLeftDone", fn := fun _ => fun
  | [d] => { results := [.lit (.bool true)], args := [d] }
  | _ => none }
def fnWorkLeftDoneRow : OpenClaim := { program := "ytldmnpflcnmcpaa", sum := "b7d7cc520f3aef0d725f114ccc7628a8ce5b5303a836b489b3ed712c721fb30a", func := "loop.example/flexlayout/laws.FnWorkLeftDone", spec := "fnWorkLeftDone", unfollowed := true, recurses := true, apart := false }
def FnWorkLeftDoneSaid : Prop := fnWorkLeftDoneRow.holds Try.pinned (OpenSpec.ofChange fnWorkLeftDoneSpec)

/-- ITS FALSE NEIGHBOUR: 'it returns false'. Refute it at one input. -/
def fnWorkLeftDoneWrong : ChangeSpec := { name := "fnWorkLeftDone", fn := fun _ => fun
  | [d] => { results := [.lit (.bool false)], args := [d] }
  | _ => none }
def FnWorkLeftDoneWrongFalsely : Prop := fnWorkLeftDoneRow.holds Try.pinned (OpenSpec.ofChange fnWorkLeftDoneWrong)

/- THE SECOND FORM. 'bulk': how many values and letters a reading holds, each counted each time it is reached (what is shared counts as often as it is met; a slice's spare places count too). A statement '..UptoSaid' is the law's where the arguments, and the package variables that the reading takes, are together of bulk at most 1048576: NARROWER than '..Said'. Prove '..Said' where nothing that the law and all that it calls make is longer than what came in: it says more and counts as full. Else prove '..UptoSaid'. A law counts once. -/
mutual
def uptoBulk {H : Type} : DataW H → Nat
  | .lit (.string bytes) => bytes.length + 1
  | .lit _ => 1
  | .nil => 1
  | .ptr d => uptoBulk d + 1
  | .slice elems spare => uptoBulkAll elems + uptoBulkAll spare + 1
  | .agg parts => uptoBulkAll parts + 1
  | .iface _ d => uptoBulk d + 1
  | .map entries => uptoBulkEntries entries + 1
  | .held _ => 1
def uptoBulkAll {H : Type} : List (DataW H) → Nat
  | [] => 0
  | d :: r => uptoBulk d + uptoBulkAll r
def uptoBulkEntries {H : Type} : List (Lit × DataW H) → Nat
  | [] => 0
  | x :: r => uptoBulkEntry x + uptoBulkEntries r
def uptoBulkEntry {H : Type} : Lit × DataW H → Nat
  | (.string bytes, d) => bytes.length + uptoBulk d + 1
  | (_, d) => uptoBulk d + 1
 end
def uptoSmall : (H : Type) → List (DataW H) → Bool := fun _ ds => decide (uptoBulkAll ds ≤ 1048576)
def OpenSpec.upto (s : _root_.Go.ChangeSpec) : _root_.Go.OpenSpec := { _root_.Go.OpenSpec.ofChange s with cond := some uptoSmall }

/-- 'laws.FnExactRowsUsed', WHERE WHAT IT READS IS OF BULK AT MOST 1048576: true; the input reads as it did. -/
def fnExactRowsUsedUptoRow : OpenClaim := { program := "ytldmnpflcnmcpaa", sum := "b7d7cc520f3aef0d725f114ccc7628a8ce5b5303a836b489b3ed712c721fb30a", func := "loop.example/flexlayout/laws.FnExactRowsUsed", spec := "fnExactRowsUsed", unfollowed := true, recurses := true, apart := false, narrowed := true }
def FnExactRowsUsedUptoSaid : Prop := fnExactRowsUsedUptoRow.holds Try.pinned (OpenSpec.upto fnExactRowsUsedSpec)

/-- 'laws.FnExactAutoPlaces', WHERE WHAT IT READS IS OF BULK AT MOST 1048576: true; the input reads as it did. -/
def fnExactAutoPlacesUptoRow : OpenClaim := { program := "ytldmnpflcnmcpaa", sum := "b7d7cc520f3aef0d725f114ccc7628a8ce5b5303a836b489b3ed712c721fb30a", func := "loop.example/flexlayout/laws.FnExactAutoPlaces", spec := "fnExactAutoPlaces", unfollowed := true, recurses := true, apart := false, narrowed := true }
def FnExactAutoPlacesUptoSaid : Prop := fnExactAutoPlacesUptoRow.holds Try.pinned (OpenSpec.upto fnExactAutoPlacesSpec)

/-- 'laws.FnAutoPlaces', WHERE WHAT IT READS IS OF BULK AT MOST 1048576: true; the input reads as it did. -/
def fnAutoPlacesUptoRow : OpenClaim := { program := "ytldmnpflcnmcpaa", sum := "b7d7cc520f3aef0d725f114ccc7628a8ce5b5303a836b489b3ed712c721fb30a", func := "loop.example/flexlayout/laws.FnAutoPlaces", spec := "fnAutoPlaces", unfollowed := true, recurses := true, apart := false, narrowed := true }
def FnAutoPlacesUptoSaid : Prop := fnAutoPlacesUptoRow.holds Try.pinned (OpenSpec.upto fnAutoPlacesSpec)

/-- 'laws.FnAutoPlacesFull', WHERE WHAT IT READS IS OF BULK AT MOST 1048576: true; the input reads as it did. -/
def fnAutoPlacesFullUptoRow : OpenClaim := { program := "ytldmnpflcnmcpaa", sum := "b7d7cc520f3aef0d725f114ccc7628a8ce5b5303a836b489b3ed712c721fb30a", func := "loop.example/flexlayout/laws.FnAutoPlacesFull", spec := "fnAutoPlacesFull", unfollowed := true, recurses := true, apart := false, narrowed := true }
def FnAutoPlacesFullUptoSaid : Prop := fnAutoPlacesFullUptoRow.holds Try.pinned (OpenSpec.upto fnAutoPlacesFullSpec)

/-- 'laws.FnAutoPlacesPrefix', WHERE WHAT IT READS IS OF BULK AT MOST 1048576: true; the input reads as it did. -/
def fnAutoPlacesPrefixUptoRow : OpenClaim := { program := "ytldmnpflcnmcpaa", sum := "b7d7cc520f3aef0d725f114ccc7628a8ce5b5303a836b489b3ed712c721fb30a", func := "loop.example/flexlayout/laws.FnAutoPlacesPrefix", spec := "fnAutoPlacesPrefix", unfollowed := true, recurses := true, apart := false, narrowed := true }
def FnAutoPlacesPrefixUptoSaid : Prop := fnAutoPlacesPrefixUptoRow.holds Try.pinned (OpenSpec.upto fnAutoPlacesPrefixSpec)

/-- 'laws.FnRowsUsedMore', WHERE WHAT IT READS IS OF BULK AT MOST 1048576: true; the input reads as it did. -/
def fnRowsUsedMoreUptoRow : OpenClaim := { program := "ytldmnpflcnmcpaa", sum := "b7d7cc520f3aef0d725f114ccc7628a8ce5b5303a836b489b3ed712c721fb30a", func := "loop.example/flexlayout/laws.FnRowsUsedMore", spec := "fnRowsUsedMore", unfollowed := true, recurses := true, apart := false, narrowed := true }
def FnRowsUsedMoreUptoSaid : Prop := fnRowsUsedMoreUptoRow.holds Try.pinned (OpenSpec.upto fnRowsUsedMoreSpec)

/-- 'laws.FnRowsUsed', WHERE WHAT IT READS IS OF BULK AT MOST 1048576: true; the input reads as it did. -/
def fnRowsUsedUptoRow : OpenClaim := { program := "ytldmnpflcnmcpaa", sum := "b7d7cc520f3aef0d725f114ccc7628a8ce5b5303a836b489b3ed712c721fb30a", func := "loop.example/flexlayout/laws.FnRowsUsed", spec := "fnRowsUsed", unfollowed := true, recurses := true, apart := false, narrowed := true }
def FnRowsUsedUptoSaid : Prop := fnRowsUsedUptoRow.holds Try.pinned (OpenSpec.upto fnRowsUsedSpec)

/-- 'laws.FnFinishFramesSlices', WHERE WHAT IT READS IS OF BULK AT MOST 1048576: true; the input reads as it did. -/
def fnFinishFramesSlicesUptoRow : OpenClaim := { program := "ytldmnpflcnmcpaa", sum := "b7d7cc520f3aef0d725f114ccc7628a8ce5b5303a836b489b3ed712c721fb30a", func := "loop.example/flexlayout/laws.FnFinishFramesSlices", spec := "fnFinishFramesSlices", unfollowed := true, recurses := true, apart := false, narrowed := true }
def FnFinishFramesSlicesUptoSaid : Prop := fnFinishFramesSlicesUptoRow.holds Try.pinned (OpenSpec.upto fnFinishFramesSlicesSpec)

/-- 'laws.FnWorkLeft', WHERE WHAT IT READS IS OF BULK AT MOST 1048576: true; the input reads as it did. -/
def fnWorkLeftUptoRow : OpenClaim := { program := "ytldmnpflcnmcpaa", sum := "b7d7cc520f3aef0d725f114ccc7628a8ce5b5303a836b489b3ed712c721fb30a", func := "loop.example/flexlayout/laws.FnWorkLeft", spec := "fnWorkLeft", unfollowed := true, recurses := true, apart := false, narrowed := true }
def FnWorkLeftUptoSaid : Prop := fnWorkLeftUptoRow.holds Try.pinned (OpenSpec.upto fnWorkLeftSpec)

/-- 'laws.FnFinishFramesBudget', WHERE WHAT IT READS IS OF BULK AT MOST 1048576: true; the input reads as it did. -/
def fnFinishFramesBudgetUptoRow : OpenClaim := { program := "ytldmnpflcnmcpaa", sum := "b7d7cc520f3aef0d725f114ccc7628a8ce5b5303a836b489b3ed712c721fb30a", func := "loop.example/flexlayout/laws.FnFinishFramesBudget", spec := "fnFinishFramesBudget", unfollowed := true, recurses := true, apart := false, narrowed := true }
def FnFinishFramesBudgetUptoSaid : Prop := fnFinishFramesBudgetUptoRow.holds Try.pinned (OpenSpec.upto fnFinishFramesBudgetSpec)

/-- 'laws.FnWorkLeftDone', WHERE WHAT IT READS IS OF BULK AT MOST 1048576: true; the input reads as it did. -/
def fnWorkLeftDoneUptoRow : OpenClaim := { program := "ytldmnpflcnmcpaa", sum := "b7d7cc520f3aef0d725f114ccc7628a8ce5b5303a836b489b3ed712c721fb30a", func := "loop.example/flexlayout/laws.FnWorkLeftDone", spec := "fnWorkLeftDone", unfollowed := true, recurses := true, apart := false, narrowed := true }
def FnWorkLeftDoneUptoSaid : Prop := fnWorkLeftDoneUptoRow.holds Try.pinned (OpenSpec.upto fnWorkLeftDoneSpec)

end Rows
end Go.Proofs.Ytldmnpflcnmcpaa
