/-
  No cell of these rows narrows 'for every input' (looked for: loops, veiled, ifaces, maps, wideKeys, modest, calm, conditions, laid).
  DERIVED. THE GIVEN ROWS OF THIS SEAT. 6 by the template 'for every input the law returns true; each argument reads behind the call as it read before'; 0 by the template 'total and deterministic' (their statements: YtjaagekckbjhdaaTotals.lean).
  GIVEN WITH THE SEED: the statements are not yours to turn. If you find one false, say at which input.
  Laid BY PROGRAM, IN A SANDBOX (cutbox-rows.mjs): the forced cells as the released guide's own fill.sh prints them over the translation d87ed32c6ce97160… (all of the seat's roots in one cut). By AI agents, Wed Nov 11 2026. No macro, syntax, notation, axiom, sorry.
-/
import Derived.Test.YtjaagekckbjhdaaChecked
import GoSem.Claim
import GoSem.ClaimJoined
import GoSem.ClaimMapViews
import Derived.JoinedTies
import Derived.KernelRfl
namespace Go.Proofs.Ytjaagekckbjhdaa
/- THE CELL 'sum', in the pinned program and in every row, IS THE sha256 OF THE DUMP (.gsa) THAT YtjaagekckbjhdaaProg.lean LOADS. Nothing in Lean hashes anything: it is a label: what it is worth is what the hold of that sum in a sandbox is worth. -/
noncomputable def Try.pinned : Pinned := { name := "ytjaagekckbjhdaa", sum := "d87ed32c6ce97160d61f897fd57c3d05ea2e9c915a48acec93a49f0dbd7c439e", checked := Try.checked }
namespace Rows
def none {H : Type} : Left H := { results := [], args := [] }

/-- 'laws.FnExactValidBuffers': WHATEVER THE INPUT: true; the input reads as it did. -/
def fnExactValidBuffersSpec : ChangeSpec := { name := "fnExactValidBuffers", fn := fun _ => fun
  | [d] => { results := [.lit (.bool true)], args := [d] }
  | _ => none }
def fnExactValidBuffersRow : OpenClaim := { program := "ytjaagekckbjhdaa", sum := "d87ed32c6ce97160d61f897fd57c3d05ea2e9c915a48acec93a49f0dbd7c439e", func := "loop.example/flexlayout/laws.FnExactValidBuffers", spec := "fnExactValidBuffers", unfollowed := true, recurses := true, apart := false }
def FnExactValidBuffersSaid : Prop := fnExactValidBuffersRow.holds Try.pinned (OpenSpec.ofChange fnExactValidBuffersSpec)

/-- ITS FALSE NEIGHBOUR: 'it returns false'. Refute it at one input. -/
def fnExactValidBuffersWrong : ChangeSpec := { name := "fnExactValidBuffers", fn := fun _ => fun
  | [d] => { results := [.lit (.bool false)], args := [d] }
  | _ => none }
def FnExactValidBuffersWrongFalsely : Prop := fnExactValidBuffersRow.holds Try.pinned (OpenSpec.ofChange fnExactValidBuffersWrong)

/-- 'laws.FnValidBuffers': WHATEVER THE INPUT: true; the input reads as it did. -/
def fnValidBuffersSpec : ChangeSpec := { name := "fnValidBuffers", fn := fun _ => fun
  | [d] => { results := [.lit (.bool true)], args := [d] }
  | _ => none }
def fnValidBuffersRow : OpenClaim := { program := "ytjaagekckbjhdaa", sum := "d87ed32c6ce97160d61f897fd57c3d05ea2e9c915a48acec93a49f0dbd7c439e", func := "loop.example/flexlayout/laws.FnValidBuffers", spec := "fnValidBuffers", unfollowed := true, recurses := true, apart := false }
def FnValidBuffersSaid : Prop := fnValidBuffersRow.holds Try.pinned (OpenSpec.ofChange fnValidBuffersSpec)

/-- ITS FALSE NEIGHBOUR: 'it returns false'. Refute it at one input. -/
def fnValidBuffersWrong : ChangeSpec := { name := "fnValidBuffers", fn := fun _ => fun
  | [d] => { results := [.lit (.bool false)], args := [d] }
  | _ => none }
def FnValidBuffersWrongFalsely : Prop := fnValidBuffersRow.holds Try.pinned (OpenSpec.ofChange fnValidBuffersWrong)

/-- 'laws.FnExactReadCell': WHATEVER THE INPUT: true; the input reads as it did. -/
def fnExactReadCellSpec : ChangeSpec := { name := "fnExactReadCell", fn := fun _ => fun
  | [d1, d2] => { results := [.lit (.bool true)], args := [d1, d2] }
  | _ => none }
def fnExactReadCellRow : OpenClaim := { program := "ytjaagekckbjhdaa", sum := "d87ed32c6ce97160d61f897fd57c3d05ea2e9c915a48acec93a49f0dbd7c439e", func := "loop.example/flexlayout/laws.FnExactReadCell", spec := "fnExactReadCell", unfollowed := true, recurses := true, apart := false }
def FnExactReadCellSaid : Prop := fnExactReadCellRow.holds Try.pinned (OpenSpec.ofChange fnExactReadCellSpec)

/-- ITS FALSE NEIGHBOUR: 'it returns false'. Refute it at one input. -/
def fnExactReadCellWrong : ChangeSpec := { name := "fnExactReadCell", fn := fun _ => fun
  | [d1, d2] => { results := [.lit (.bool false)], args := [d1, d2] }
  | _ => none }
def FnExactReadCellWrongFalsely : Prop := fnExactReadCellRow.holds Try.pinned (OpenSpec.ofChange fnExactReadCellWrong)

/-- 'laws.FnReadCell': WHATEVER THE INPUT: true; the input reads as it did. -/
def fnReadCellSpec : ChangeSpec := { name := "fnReadCell", fn := fun _ => fun
  | [d] => { results := [.lit (.bool true)], args := [d] }
  | _ => none }
def fnReadCellRow : OpenClaim := { program := "ytjaagekckbjhdaa", sum := "d87ed32c6ce97160d61f897fd57c3d05ea2e9c915a48acec93a49f0dbd7c439e", func := "loop.example/flexlayout/laws.FnReadCell", spec := "fnReadCell", unfollowed := true, recurses := true, apart := false }
def FnReadCellSaid : Prop := fnReadCellRow.holds Try.pinned (OpenSpec.ofChange fnReadCellSpec)

/-- ITS FALSE NEIGHBOUR: 'it returns false'. Refute it at one input. -/
def fnReadCellWrong : ChangeSpec := { name := "fnReadCell", fn := fun _ => fun
  | [d] => { results := [.lit (.bool false)], args := [d] }
  | _ => none }
def FnReadCellWrongFalsely : Prop := fnReadCellRow.holds Try.pinned (OpenSpec.ofChange fnReadCellWrong)

/-- 'laws.FnExactPendingCells': WHATEVER THE INPUT: true; the input reads as it did. -/
def fnExactPendingCellsSpec : ChangeSpec := { name := "fnExactPendingCells", fn := fun _ => fun
  | [d] => { results := [.lit (.bool true)], args := [d] }
  | _ => none }
def fnExactPendingCellsRow : OpenClaim := { program := "ytjaagekckbjhdaa", sum := "d87ed32c6ce97160d61f897fd57c3d05ea2e9c915a48acec93a49f0dbd7c439e", func := "loop.example/flexlayout/laws.FnExactPendingCells", spec := "fnExactPendingCells", unfollowed := true, recurses := true, apart := false }
def FnExactPendingCellsSaid : Prop := fnExactPendingCellsRow.holds Try.pinned (OpenSpec.ofChange fnExactPendingCellsSpec)

/-- ITS FALSE NEIGHBOUR: 'it returns false'. Refute it at one input. -/
def fnExactPendingCellsWrong : ChangeSpec := { name := "fnExactPendingCells", fn := fun _ => fun
  | [d] => { results := [.lit (.bool false)], args := [d] }
  | _ => none }
def FnExactPendingCellsWrongFalsely : Prop := fnExactPendingCellsRow.holds Try.pinned (OpenSpec.ofChange fnExactPendingCellsWrong)

/-- 'laws.FnPendingCells': WHATEVER THE INPUT: true; the input reads as it did. -/
def fnPendingCellsSpec : ChangeSpec := { name := "fnPendingCells", fn := fun _ => fun
  | [d] => { results := [.lit (.bool true)], args := [d] }
  | _ => none }
def fnPendingCellsRow : OpenClaim := { program := "ytjaagekckbjhdaa", sum := "d87ed32c6ce97160d61f897fd57c3d05ea2e9c915a48acec93a49f0dbd7c439e", func := "loop.example/flexlayout/laws.FnPendingCells", spec := "fnPendingCells", unfollowed := true, recurses := true, apart := false }
def FnPendingCellsSaid : Prop := fnPendingCellsRow.holds Try.pinned (OpenSpec.ofChange fnPendingCellsSpec)

/-- ITS FALSE NEIGHBOUR: 'it returns false'. Refute it at one input. -/
def fnPendingCellsWrong : ChangeSpec := { name := "fnPendingCells", fn := fun _ => fun
  | [d] => { results := [.lit (.bool false)], args := [d] }
  | _ => none }
def FnPendingCellsWrongFalsely : Prop := fnPendingCellsRow.holds Try.pinned (OpenSpec.ofChange fnPendingCellsWrong)

/- THE SECOND FORM. 'bulk': how many values and letters a reading holds, each counted each time it is reached (what is shared counts as often as it is met; a slice's spare places count too). A statement '..UptoSaid' is the law's where the arguments, and the package variables that the reading takes, are together of bulk at most 1048576: NARROWER than '..Said'. Prove '..Said' where nothing that the law and all that it calls make is longer than what came in: it says more and counts as full. Else prove '..UptoSaid'. A law counts once. -/
mutual
def uptoBulk {H : Type} : DataW H → Nat
  | .lit (.string bytes) => bytes.length + 1
  | .lit _ => 1
  | .nil => 1
  | .ptr d => uptoBulk d + 1
  | .slice elems spare => uptoBulkAll elems + uptoBulkAll spare + 1
  | .agg parts => uptoBulkAll parts + 1
  | .iface _ d => uptoBulk d + 1
  | .map entries => uptoBulkEntries entries + 1
  | .held _ => 1
def uptoBulkAll {H : Type} : List (DataW H) → Nat
  | [] => 0
  | d :: r => uptoBulk d + uptoBulkAll r
def uptoBulkEntries {H : Type} : List (Lit × DataW H) → Nat
  | [] => 0
  | x :: r => uptoBulkEntry x + uptoBulkEntries r
def uptoBulkEntry {H : Type} : Lit × DataW H → Nat
  | (.string bytes, d) => bytes.length + uptoBulk d + 1
  | (_, d) => uptoBulk d + 1
 end
def uptoSmall : (H : Type) → List (DataW H) → Bool := fun _ ds => decide (uptoBulkAll ds ≤ 1048576)
def OpenSpec.upto (s : _root_.Go.ChangeSpec) : _root_.Go.OpenSpec := { _root_.Go.OpenSpec.ofChange s with cond := some uptoSmall }

/-- 'laws.FnExactValidBuffers', WHERE WHAT IT READS IS OF BULK AT MOST 1048576: true; the input reads as it did. -/
def fnExactValidBuffersUptoRow : OpenClaim := { program := "ytjaagekckbjhdaa", sum := "d87ed32c6ce97160d61f897fd57c3d05ea2e9c915a48acec93a49f0dbd7c439e", func := "loop.example/flexlayout/laws.FnExactValidBuffers", spec := "fnExactValidBuffers", unfollowed := true, recurses := true, apart := false, narrowed := true }
def FnExactValidBuffersUptoSaid : Prop := fnExactValidBuffersUptoRow.holds Try.pinned (OpenSpec.upto fnExactValidBuffersSpec)

/-- 'laws.FnValidBuffers', WHERE WHAT IT READS IS OF BULK AT MOST 1048576: true; the input reads as it did. -/
def fnValidBuffersUptoRow : OpenClaim := { program := "ytjaagekckbjhdaa", sum := "d87ed32c6ce97160d61f897fd57c3d05ea2e9c915a48acec93a49f0dbd7c439e", func := "loop.example/flexlayout/laws.FnValidBuffers", spec := "fnValidBuffers", unfollowed := true, recurses := true, apart := false, narrowed := true }
def FnValidBuffersUptoSaid : Prop := fnValidBuffersUptoRow.holds Try.pinned (OpenSpec.upto fnValidBuffersSpec)

/-- 'laws.FnExactReadCell', WHERE WHAT IT READS IS OF BULK AT MOST 1048576: true; the input reads as it did. -/
def fnExactReadCellUptoRow : OpenClaim := { program := "ytjaagekckbjhdaa", sum := "d87ed32c6ce97160d61f897fd57c3d05ea2e9c915a48acec93a49f0dbd7c439e", func := "loop.example/flexlayout/laws.FnExactReadCell", spec := "fnExactReadCell", unfollowed := true, recurses := true, apart := false, narrowed := true }
def FnExactReadCellUptoSaid : Prop := fnExactReadCellUptoRow.holds Try.pinned (OpenSpec.upto fnExactReadCellSpec)

/-- 'laws.FnReadCell', WHERE WHAT IT READS IS OF BULK AT MOST 1048576: true; the input reads as it did. -/
def fnReadCellUptoRow : OpenClaim := { program := "ytjaagekckbjhdaa", sum := "d87ed32c6ce97160d61f897fd57c3d05ea2e9c915a48acec93a49f0dbd7c439e", func := "loop.example/flexlayout/laws.FnReadCell", spec := "fnReadCell", unfollowed := true, recurses := true, apart := false, narrowed := true }
def FnReadCellUptoSaid : Prop := fnReadCellUptoRow.holds Try.pinned (OpenSpec.upto fnReadCellSpec)

/-- 'laws.FnExactPendingCells', WHERE WHAT IT READS IS OF BULK AT MOST 1048576: true; the input reads as it did. -/
def fnExactPendingCellsUptoRow : OpenClaim := { program := "ytjaagekckbjhdaa", sum := "d87ed32c6ce97160d61f897fd57c3d05ea2e9c915a48acec93a49f0dbd7c439e", func := "loop.example/flexlayout/laws.FnExactPendingCells", spec := "fnExactPendingCells", unfollowed := true, recurses := true, apart := false, narrowed := true }
def FnExactPendingCellsUptoSaid : Prop := fnExactPendingCellsUptoRow.holds Try.pinned (OpenSpec.upto fnExactPendingCellsSpec)

/-- 'laws.FnPendingCells', WHERE WHAT IT READS IS OF BULK AT MOST 1048576: true; the input reads as it did. -/
def fnPendingCellsUptoRow : OpenClaim := { program := "ytjaagekckbjhdaa", sum := "d87ed32c6ce97160d61f897fd57c3d05ea2e9c915a48acec93a49f0dbd7c439e", func := "loop.example/flexlayout/laws.FnPendingCells", spec := "fnPendingCells", unfollowed := true, recurses := true, apart := false, narrowed := true }
def FnPendingCellsUptoSaid : Prop := fnPendingCellsUptoRow.holds Try.pinned (OpenSpec.upto fnPendingCellsSpec)

end Rows
end Go.Proofs.Ytjaagekckbjhdaa
