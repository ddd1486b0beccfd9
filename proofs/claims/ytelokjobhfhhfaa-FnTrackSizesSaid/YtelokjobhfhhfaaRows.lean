/-
  No cell of these rows narrows 'for every input' (looked for: loops, veiled, ifaces, maps, wideKeys, modest, calm, conditions, laid).
  DERIVED. THE GIVEN ROWS OF THIS SEAT. 8 by the template 'for every input the law returns true; each argument reads behind the call as it read before'; 0 by the template 'total and deterministic' (their statements: YtelokjobhfhhfaaTotals.lean).
  GIVEN WITH THE SEED: the statements are not yours to turn. If you find one false, say at which input.
  Laid BY PROGRAM, IN A SANDBOX (cutbox-rows.mjs): the forced cells as the released guide's own fill.sh prints them over the translation 0106f55956867aa4… (all of the seat's roots in one cut). By AI agents, Wed Nov 11 2026. No macro, syntax, notation, axiom, sorry.
-/
import Derived.Test.YtelokjobhfhhfaaChecked
import GoSem.Claim
import GoSem.ClaimJoined
import GoSem.ClaimMapViews
import Derived.JoinedTies
import Derived.KernelRfl
namespace Go.Proofs.Ytelokjobhfhhfaa
/- THE CELL 'sum', in the pinned program and in every row, IS THE sha256 OF THE DUMP (.gsa) THAT YtelokjobhfhhfaaProg.lean LOADS. Nothing in Lean hashes anything: it is a label: what it is worth is what the hold of that sum in a sandbox is worth. -/
noncomputable def Try.pinned : Pinned := { name := "ytelokjobhfhhfaa", sum := "0106f55956867aa4af1843fd9b269f1ef6e81333985e59f4f3d4d1c911563011", checked := Try.checked }
namespace Rows
def none {H : Type} : Left H := { results := [], args := [] }

/-- 'laws.FnValidTracks': WHATEVER THE INPUT: true; the input reads as it did. -/
def fnValidTracksSpec : ChangeSpec := { name := "fnValidTracks", fn := fun _ => fun
  | [d] => { results := [.lit (.bool true)], args := [d] }
  | _ => none }
def fnValidTracksRow : OpenClaim := { program := "ytelokjobhfhhfaa", sum := "0106f55956867aa4af1843fd9b269f1ef6e81333985e59f4f3d4d1c911563011", func := "loop.example/flexlayout/laws.FnValidTracks", spec := "fnValidTracks", unfollowed := true, recurses := true, apart := false }
def FnValidTracksSaid : Prop := fnValidTracksRow.holds Try.pinned (OpenSpec.ofChange fnValidTracksSpec)

/-- ITS FALSE NEIGHBOUR: 'it returns false'. Refute it at one input. -/
def fnValidTracksWrong : ChangeSpec := { name := "fnValidTracks", fn := fun _ => fun
  | [d] => { results := [.lit (.bool false)], args := [d] }
  | _ => none }
def FnValidTracksWrongFalsely : Prop := fnValidTracksRow.holds Try.pinned (OpenSpec.ofChange fnValidTracksWrong)

/-- 'laws.FnTrackSizes': WHATEVER THE INPUT: true; the input reads as it did. -/
def fnTrackSizesSpec : ChangeSpec := { name := "fnTrackSizes", fn := fun _ => fun
  | [d] => { results := [.lit (.bool true)], args := [d] }
  | _ => none }
def fnTrackSizesRow : OpenClaim := { program := "ytelokjobhfhhfaa", sum := "0106f55956867aa4af1843fd9b269f1ef6e81333985e59f4f3d4d1c911563011", func := "loop.example/flexlayout/laws.FnTrackSizes", spec := "fnTrackSizes", unfollowed := true, recurses := true, apart := false }
def FnTrackSizesSaid : Prop := fnTrackSizesRow.holds Try.pinned (OpenSpec.ofChange fnTrackSizesSpec)

/-- ITS FALSE NEIGHBOUR: 'it returns false'. Refute it at one input. -/
def fnTrackSizesWrong : ChangeSpec := { name := "fnTrackSizes", fn := fun _ => fun
  | [d] => { results := [.lit (.bool false)], args := [d] }
  | _ => none }
def FnTrackSizesWrongFalsely : Prop := fnTrackSizesRow.holds Try.pinned (OpenSpec.ofChange fnTrackSizesWrong)

/-- 'laws.FnExactValidTracks': WHATEVER THE INPUT: true; the input reads as it did. -/
def fnExactValidTracksSpec : ChangeSpec := { name := "fnExactValidTracks", fn := fun _ => fun
  | [d] => { results := [.lit (.bool true)], args := [d] }
  | _ => none }
def fnExactValidTracksRow : OpenClaim := { program := "ytelokjobhfhhfaa", sum := "0106f55956867aa4af1843fd9b269f1ef6e81333985e59f4f3d4d1c911563011", func := "loop.example/flexlayout/laws.FnExactValidTracks", spec := "fnExactValidTracks", unfollowed := true, recurses := true, apart := false }
def FnExactValidTracksSaid : Prop := fnExactValidTracksRow.holds Try.pinned (OpenSpec.ofChange fnExactValidTracksSpec)

/-- ITS FALSE NEIGHBOUR: 'it returns false'. Refute it at one input. -/
def fnExactValidTracksWrong : ChangeSpec := { name := "fnExactValidTracks", fn := fun _ => fun
  | [d] => { results := [.lit (.bool false)], args := [d] }
  | _ => none }
def FnExactValidTracksWrongFalsely : Prop := fnExactValidTracksRow.holds Try.pinned (OpenSpec.ofChange fnExactValidTracksWrong)

/-- 'laws.FnTrackSizesMore': WHATEVER THE INPUT: true; the input reads as it did. -/
def fnTrackSizesMoreSpec : ChangeSpec := { name := "fnTrackSizesMore", fn := fun _ => fun
  | [d] => { results := [.lit (.bool true)], args := [d] }
  | _ => none }
def fnTrackSizesMoreRow : OpenClaim := { program := "ytelokjobhfhhfaa", sum := "0106f55956867aa4af1843fd9b269f1ef6e81333985e59f4f3d4d1c911563011", func := "loop.example/flexlayout/laws.FnTrackSizesMore", spec := "fnTrackSizesMore", unfollowed := true, recurses := true, apart := false }
def FnTrackSizesMoreSaid : Prop := fnTrackSizesMoreRow.holds Try.pinned (OpenSpec.ofChange fnTrackSizesMoreSpec)

/-- ITS FALSE NEIGHBOUR: 'it returns false'. Refute it at one input. -/
def fnTrackSizesMoreWrong : ChangeSpec := { name := "fnTrackSizesMore", fn := fun _ => fun
  | [d] => { results := [.lit (.bool false)], args := [d] }
  | _ => none }
def FnTrackSizesMoreWrongFalsely : Prop := fnTrackSizesMoreRow.holds Try.pinned (OpenSpec.ofChange fnTrackSizesMoreWrong)

/-- 'laws.FnExactSpanOf': WHATEVER THE INPUT: true; the input reads as it did. -/
def fnExactSpanOfSpec : ChangeSpec := { name := "fnExactSpanOf", fn := fun _ => fun
  | [d1, d2, d3, d4, d5] => { results := [.lit (.bool true)], args := [d1, d2, d3, d4, d5] }
  | _ => none }
def fnExactSpanOfRow : OpenClaim := { program := "ytelokjobhfhhfaa", sum := "0106f55956867aa4af1843fd9b269f1ef6e81333985e59f4f3d4d1c911563011", func := "loop.example/flexlayout/laws.FnExactSpanOf", spec := "fnExactSpanOf", unfollowed := true, recurses := true, apart := false }
def FnExactSpanOfSaid : Prop := fnExactSpanOfRow.holds Try.pinned (OpenSpec.ofChange fnExactSpanOfSpec)

/-- ITS FALSE NEIGHBOUR: 'it returns false'. Refute it at one input. -/
def fnExactSpanOfWrong : ChangeSpec := { name := "fnExactSpanOf", fn := fun _ => fun
  | [d1, d2, d3, d4, d5] => { results := [.lit (.bool false)], args := [d1, d2, d3, d4, d5] }
  | _ => none }
def FnExactSpanOfWrongFalsely : Prop := fnExactSpanOfRow.holds Try.pinned (OpenSpec.ofChange fnExactSpanOfWrong)

/-- 'laws.FnSpanOfNext': WHATEVER THE INPUT: true; the input reads as it did. -/
def fnSpanOfNextSpec : ChangeSpec := { name := "fnSpanOfNext", fn := fun _ => fun
  | [d] => { results := [.lit (.bool true)], args := [d] }
  | _ => none }
def fnSpanOfNextRow : OpenClaim := { program := "ytelokjobhfhhfaa", sum := "0106f55956867aa4af1843fd9b269f1ef6e81333985e59f4f3d4d1c911563011", func := "loop.example/flexlayout/laws.FnSpanOfNext", spec := "fnSpanOfNext", unfollowed := true, recurses := true, apart := false }
def FnSpanOfNextSaid : Prop := fnSpanOfNextRow.holds Try.pinned (OpenSpec.ofChange fnSpanOfNextSpec)

/-- ITS FALSE NEIGHBOUR: 'it returns false'. Refute it at one input. -/
def fnSpanOfNextWrong : ChangeSpec := { name := "fnSpanOfNext", fn := fun _ => fun
  | [d] => { results := [.lit (.bool false)], args := [d] }
  | _ => none }
def FnSpanOfNextWrongFalsely : Prop := fnSpanOfNextRow.holds Try.pinned (OpenSpec.ofChange fnSpanOfNextWrong)

/-- 'laws.FnTrackSizesPart': WHATEVER THE INPUT: true; the input reads as it did. -/
def fnTrackSizesPartSpec : ChangeSpec := { name := "fnTrackSizesPart", fn := fun _ => fun
  | [d] => { results := [.lit (.bool true)], args := [d] }
  | _ => none }
def fnTrackSizesPartRow : OpenClaim := { program := "ytelokjobhfhhfaa", sum := "0106f55956867aa4af1843fd9b269f1ef6e81333985e59f4f3d4d1c911563011", func := "loop.example/flexlayout/laws.FnTrackSizesPart", spec := "fnTrackSizesPart", unfollowed := true, recurses := true, apart := false }
def FnTrackSizesPartSaid : Prop := fnTrackSizesPartRow.holds Try.pinned (OpenSpec.ofChange fnTrackSizesPartSpec)

/-- ITS FALSE NEIGHBOUR: 'it returns false'. Refute it at one input. -/
def fnTrackSizesPartWrong : ChangeSpec := { name := "fnTrackSizesPart", fn := fun _ => fun
  | [d] => { results := [.lit (.bool false)], args := [d] }
  | _ => none }
def FnTrackSizesPartWrongFalsely : Prop := fnTrackSizesPartRow.holds Try.pinned (OpenSpec.ofChange fnTrackSizesPartWrong)

/-- 'laws.FnSpanOf': WHATEVER THE INPUT: true; the input reads as it did. -/
def fnSpanOfSpec : ChangeSpec := { name := "fnSpanOf", fn := fun _ => fun
  | [d] => { results := [.lit (.bool true)], args := [d] }
  | _ => none }
def fnSpanOfRow : OpenClaim := { program := "ytelokjobhfhhfaa", sum := "0106f55956867aa4af1843fd9b269f1ef6e81333985e59f4f3d4d1c911563011", func := "loop.example/flexlayout/laws.FnSpanOf", spec := "fnSpanOf", unfollowed := true, recurses := true, apart := false }
def FnSpanOfSaid : Prop := fnSpanOfRow.holds Try.pinned (OpenSpec.ofChange fnSpanOfSpec)

/-- ITS FALSE NEIGHBOUR: 'it returns false'. Refute it at one input. -/
def fnSpanOfWrong : ChangeSpec := { name := "fnSpanOf", fn := fun _ => fun
  | [d] => { results := [.lit (.bool false)], args := [d] }
  | _ => none }
def FnSpanOfWrongFalsely : Prop := fnSpanOfRow.holds Try.pinned (OpenSpec.ofChange fnSpanOfWrong)

/- THE SECOND FORM. 'bulk': how many values and letters a reading holds, each counted each time it is reached (what is shared counts as often as it is met; a slice's spare places count too). A statement '..UptoSaid' is the law's where the arguments, and the package variables that the reading takes, are together of bulk at most 1048576: NARROWER than '..Said'. Prove '..Said' where nothing that the law and all that it calls make is longer than what came in: it says more and counts as full. Else prove '..UptoSaid'. A law counts once. -/
mutual
def uptoBulk {H : Type} : DataW H → Nat
  | .lit (.string bytes) => bytes.length + 1
  | .lit _ => 1
  | .nil => 1
  | .ptr d => uptoBulk d + 1
  | .slice elems spare => uptoBulkAll elems + uptoBulkAll spare + 1
  | .agg parts => uptoBulkAll parts + 1
  | .iface _ d => uptoBulk d + 1
  | .map entries => uptoBulkEntries entries + 1
  | .held _ => 1
def uptoBulkAll {H : Type} : List (DataW H) → Nat
  | [] => 0
  | d :: r => uptoBulk d + uptoBulkAll r
def uptoBulkEntries {H : Type} : List (Lit × DataW H) → Nat
  | [] => 0
  | x :: r => uptoBulkEntry x + uptoBulkEntries r
def uptoBulkEntry {H : Type} : Lit × DataW H → Nat
  | (.string bytes, d) => bytes.length + uptoBulk d + 1
  | (_, d) => uptoBulk d + 1
 end
def uptoSmall : (H : Type) → List (DataW H) → Bool := fun _ ds => decide (uptoBulkAll ds ≤ 1048576)
def OpenSpec.upto (s : _root_.Go.ChangeSpec) : _root_.Go.OpenSpec := { _root_.Go.OpenSpec.ofChange s with cond := some uptoSmall }

/-- 'laws.FnValidTracks', WHERE WHAT IT READS IS OF BULK AT MOST 1048576: true; the input reads as it did. -/
def fnValidTracksUptoRow : OpenClaim := { program := "ytelokjobhfhhfaa", sum := "0106f55956867aa4af1843fd9b269f1ef6e81333985e59f4f3d4d1c911563011", func := "loop.example/flexlayout/laws.FnValidTracks", spec := "fnValidTracks", unfollowed := true, recurses := true, apart := false, narrowed := true }
def FnValidTracksUptoSaid : Prop := fnValidTracksUptoRow.holds Try.pinned (OpenSpec.upto fnValidTracksSpec)

/-- 'laws.FnTrackSizes', WHERE WHAT IT READS IS OF BULK AT MOST 1048576: true; the input reads as it did. -/
def fnTrackSizesUptoRow : OpenClaim := { program := "ytelokjobhfhhfaa", sum := "0106f55956867aa4af1843fd9b269f1ef6e81333985e59f4f3d4d1c911563011", func := "loop.example/flexlayout/laws.FnTrackSizes", spec := "fnTrackSizes", unfollowed := true, recurses := true, apart := false, narrowed := true }
def FnTrackSizesUptoSaid : Prop := fnTrackSizesUptoRow.holds Try.pinned (OpenSpec.upto fnTrackSizesSpec)

/-- 'laws.FnExactValidTracks', WHERE WHAT IT READS IS OF BULK AT MOST 1048576: true; the input reads as it did. -/
def fnExactValidTracksUptoRow : OpenClaim := { program := "ytelokjobhfhhfaa", sum := "0106f55956867aa4af1843fd9b269f1ef6e81333985e59f4f3d4d1c911563011", func := "loop.example/flexlayout/laws.FnExactValidTracks", spec := "fnExactValidTracks", unfollowed := true, recurses := true, apart := false, narrowed := true }
def FnExactValidTracksUptoSaid : Prop := fnExactValidTracksUptoRow.holds Try.pinned (OpenSpec.upto fnExactValidTracksSpec)

/-- 'laws.FnTrackSizesMore', WHERE WHAT IT READS IS OF BULK AT MOST 1048576: true; the input reads as it did. -/
def fnTrackSizesMoreUptoRow : OpenClaim := { program := "ytelokjobhfhhfaa", sum := "0106f55956867aa4af1843fd9b269f1ef6e81333985e59f4f3d4d1c911563011", func := "loop.example/flexlayout/laws.FnTrackSizesMore", spec := "fnTrackSizesMore", unfollowed := true, recurses := true, apart := false, narrowed := true }
def FnTrackSizesMoreUptoSaid : Prop := fnTrackSizesMoreUptoRow.holds Try.pinned (OpenSpec.upto fnTrackSizesMoreSpec)

/-- 'laws.FnExactSpanOf', WHERE WHAT IT READS IS OF BULK AT MOST 1048576: true; the input reads as it did. -/
def fnExactSpanOfUptoRow : OpenClaim := { program := "ytelokjobhfhhfaa", sum := "0106f55956867aa4af1843fd9b269f1ef6e81333985e59f4f3d4d1c911563011", func := "loop.example/flexlayout/laws.FnExactSpanOf", spec := "fnExactSpanOf", unfollowed := true, recurses := true, apart := false, narrowed := true }
def FnExactSpanOfUptoSaid : Prop := fnExactSpanOfUptoRow.holds Try.pinned (OpenSpec.upto fnExactSpanOfSpec)

/-- 'laws.FnSpanOfNext', WHERE WHAT IT READS IS OF BULK AT MOST 1048576: true; the input reads as it did. -/
def fnSpanOfNextUptoRow : OpenClaim := { program := "ytelokjobhfhhfaa", sum := "0106f55956867aa4af1843fd9b269f1ef6e81333985e59f4f3d4d1c911563011", func := "loop.example/flexlayout/laws.FnSpanOfNext", spec := "fnSpanOfNext", unfollowed := true, recurses := true, apart := false, narrowed := true }
def FnSpanOfNextUptoSaid : Prop := fnSpanOfNextUptoRow.holds Try.pinned (OpenSpec.upto fnSpanOfNextSpec)

/-- 'laws.FnTrackSizesPart', WHERE WHAT IT READS IS OF BULK AT MOST 1048576: true; the input reads as it did. -/
def fnTrackSizesPartUptoRow : OpenClaim := { program := "ytelokjobhfhhfaa", sum := "0106f55956867aa4af1843fd9b269f1ef6e81333985e59f4f3d4d1c911563011", func := "loop.example/flexlayout/laws.FnTrackSizesPart", spec := "fnTrackSizesPart", unfollowed := true, recurses := true, apart := false, narrowed := true }
def FnTrackSizesPartUptoSaid : Prop := fnTrackSizesPartUptoRow.holds Try.pinned (OpenSpec.upto fnTrackSizesPartSpec)

/-- 'laws.FnSpanOf', WHERE WHAT IT READS IS OF BULK AT MOST 1048576: true; the input reads as it did. -/
def fnSpanOfUptoRow : OpenClaim := { program := "ytelokjobhfhhfaa", sum := "0106f55956867aa4af1843fd9b269f1ef6e81333985e59f4f3d4d1c911563011", func := "loop.example/flexlayout/laws.FnSpanOf", spec := "fnSpanOf", unfollowed := true, recurses := true, apart := false, narrowed := true }
def FnSpanOfUptoSaid : Prop := fnSpanOfUptoRow.holds Try.pinned (OpenSpec.upto fnSpanOfSpec)

end Rows
end Go.Proofs.Ytelokjobhfhhfaa
