/-
  No cell of these rows narrows 'for every input' (looked for: loops, veiled, ifaces, maps, wideKeys, modest, calm, conditions, laid).
  DERIVED. THE GIVEN ROWS OF THIS SEAT. 5 by the template 'for every input the law returns true; each argument reads behind the call as it read before'; 0 by the template 'total and deterministic' (their statements: YtmipeegfeglljaaTotals.lean).
  GIVEN WITH THE SEED: the statements are not yours to turn. If you find one false, say at which input.
  Laid BY PROGRAM, IN A SANDBOX (cutbox-rows.mjs): the forced cells as the released guide's own fill.sh prints them over the translation 6cab3fa77f0b2563… (all of the seat's roots in one cut). By AI agents, Wed Nov 11 2026. No macro, syntax, notation, axiom, sorry.
-/
import Derived.Test.YtmipeegfeglljaaChecked
import GoSem.Claim
import GoSem.ClaimJoined
import GoSem.ClaimMapViews
import Derived.JoinedTies
import Derived.KernelRfl
namespace Go.Proofs.Ytmipeegfeglljaa
/- THE CELL 'sum', in the pinned program and in every row, IS THE sha256 OF THE DUMP (.gsa) THAT YtmipeegfeglljaaProg.lean LOADS. Nothing in Lean hashes anything: it is a label: what it is worth is what the hold of that sum in a sandbox is worth. -/
noncomputable def Try.pinned : Pinned := { name := "ytmipeegfeglljaa", sum := "6cab3fa77f0b2563b77b4b2eb1e3609d7d070e9cc6ca5b20c771eae2f8627618", checked := Try.checked }
namespace Rows
def none {H : Type} : Left H := { results := [], args := [] }

/-- 'laws.FnWriteCellOrder': WHATEVER THE INPUT: true; the input reads as it did. -/
def fnWriteCellOrderSpec : ChangeSpec := { name := "fnWriteCellOrder", fn := fun _ => fun
  | [d] => { results := [.lit (.bool true)], args := [d] }
  | _ => none }
def fnWriteCellOrderRow : OpenClaim := { program := "ytmipeegfeglljaa", sum := "6cab3fa77f0b2563b77b4b2eb1e3609d7d070e9cc6ca5b20c771eae2f8627618", func := "loop.example/flexlayout/laws.FnWriteCellOrder", spec := "fnWriteCellOrder", unfollowed := true, recurses := true, apart := false }
def FnWriteCellOrderSaid : Prop := fnWriteCellOrderRow.holds Try.pinned (OpenSpec.ofChange fnWriteCellOrderSpec)

/-- ITS FALSE NEIGHBOUR: 'it returns false'. Refute it at one input. -/
def fnWriteCellOrderWrong : ChangeSpec := { name := "fnWriteCellOrder", fn := fun _ => fun
  | [d] => { results := [.lit (.bool false)], args := [d] }
  | _ => none }
def FnWriteCellOrderWrongFalsely : Prop := fnWriteCellOrderRow.holds Try.pinned (OpenSpec.ofChange fnWriteCellOrderWrong)

/-- 'laws.FnExactWriteCell': WHATEVER THE INPUT: true; the input reads as it did. -/
def fnExactWriteCellSpec : ChangeSpec := { name := "fnExactWriteCell", fn := fun _ => fun
  | [d1, d2, d3] => { results := [.lit (.bool true)], args := [d1, d2, d3] }
  | _ => none }
def fnExactWriteCellRow : OpenClaim := { program := "ytmipeegfeglljaa", sum := "6cab3fa77f0b2563b77b4b2eb1e3609d7d070e9cc6ca5b20c771eae2f8627618", func := "loop.example/flexlayout/laws.FnExactWriteCell", spec := "fnExactWriteCell", unfollowed := true, recurses := true, apart := false }
def FnExactWriteCellSaid : Prop := fnExactWriteCellRow.holds Try.pinned (OpenSpec.ofChange fnExactWriteCellSpec)

/-- ITS FALSE NEIGHBOUR: 'it returns false'. Refute it at one input. -/
def fnExactWriteCellWrong : ChangeSpec := { name := "fnExactWriteCell", fn := fun _ => fun
  | [d1, d2, d3] => { results := [.lit (.bool false)], args := [d1, d2, d3] }
  | _ => none }
def FnExactWriteCellWrongFalsely : Prop := fnExactWriteCellRow.holds Try.pinned (OpenSpec.ofChange fnExactWriteCellWrong)

/-- 'laws.FnWriteCell': WHATEVER THE INPUT: true; the input reads as it did. -/
def fnWriteCellSpec : ChangeSpec := { name := "fnWriteCell", fn := fun _ => fun
  | [d] => { results := [.lit (.bool true)], args := [d] }
  | _ => none }
def fnWriteCellRow : OpenClaim := { program := "ytmipeegfeglljaa", sum := "6cab3fa77f0b2563b77b4b2eb1e3609d7d070e9cc6ca5b20c771eae2f8627618", func := "loop.example/flexlayout/laws.FnWriteCell", spec := "fnWriteCell", unfollowed := true, recurses := true, apart := false }
def FnWriteCellSaid : Prop := fnWriteCellRow.holds Try.pinned (OpenSpec.ofChange fnWriteCellSpec)

/-- ITS FALSE NEIGHBOUR: 'it returns false'. Refute it at one input. -/
def fnWriteCellWrong : ChangeSpec := { name := "fnWriteCell", fn := fun _ => fun
  | [d] => { results := [.lit (.bool false)], args := [d] }
  | _ => none }
def FnWriteCellWrongFalsely : Prop := fnWriteCellRow.holds Try.pinned (OpenSpec.ofChange fnWriteCellWrong)

/-- 'laws.FnSwapBuffersRead': WHATEVER THE INPUT: true; the input reads as it did. -/
def fnSwapBuffersReadSpec : ChangeSpec := { name := "fnSwapBuffersRead", fn := fun _ => fun
  | [d] => { results := [.lit (.bool true)], args := [d] }
  | _ => none }
def fnSwapBuffersReadRow : OpenClaim := { program := "ytmipeegfeglljaa", sum := "6cab3fa77f0b2563b77b4b2eb1e3609d7d070e9cc6ca5b20c771eae2f8627618", func := "loop.example/flexlayout/laws.FnSwapBuffersRead", spec := "fnSwapBuffersRead", unfollowed := true, recurses := true, apart := false }
def FnSwapBuffersReadSaid : Prop := fnSwapBuffersReadRow.holds Try.pinned (OpenSpec.ofChange fnSwapBuffersReadSpec)

/-- ITS FALSE NEIGHBOUR: 'it returns false'. Refute it at one input. -/
def fnSwapBuffersReadWrong : ChangeSpec := { name := "fnSwapBuffersRead", fn := fun _ => fun
  | [d] => { results := [.lit (.bool false)], args := [d] }
  | _ => none }
def FnSwapBuffersReadWrongFalsely : Prop := fnSwapBuffersReadRow.holds Try.pinned (OpenSpec.ofChange fnSwapBuffersReadWrong)

/-- 'laws.FnWriteCellPending': WHATEVER THE INPUT: true; the input reads as it did. -/
def fnWriteCellPendingSpec : ChangeSpec := { name := "fnWriteCellPending", fn := fun _ => fun
  | [d] => { results := [.lit (.bool true)], args := [d] }
  | _ => none }
def fnWriteCellPendingRow : OpenClaim := { program := "ytmipeegfeglljaa", sum := "6cab3fa77f0b2563b77b4b2eb1e3609d7d070e9cc6ca5b20c771eae2f8627618", func := "loop.example/flexlayout/laws.FnWriteCellPending", spec := "fnWriteCellPending", unfollowed := true, recurses := true, apart := false }
def FnWriteCellPendingSaid : Prop := fnWriteCellPendingRow.holds Try.pinned (OpenSpec.ofChange fnWriteCellPendingSpec)

/-- ITS FALSE NEIGHBOUR: 'it returns false'. Refute it at one input. -/
def fnWriteCellPendingWrong : ChangeSpec := { name := "fnWriteCellPending", fn := fun _ => fun
  | [d] => { results := [.lit (.bool false)], args := [d] }
  | _ => none }
def FnWriteCellPendingWrongFalsely : Prop := fnWriteCellPendingRow.holds Try.pinned (OpenSpec.ofChange fnWriteCellPendingWrong)

/- THE SECOND FORM. 'bulk': how many values and letters a reading holds, each counted each time it is reached (what is shared counts as often as it is met; a slice's spare places count too). A statement '..UptoSaid' is the law's where the arguments, and the package variables that the reading takes, are together of bulk at most 1048576: NARROWER than '..Said'. Prove '..Said' where nothing that the law and all that it calls make is longer than what came in: it says more and counts as full. Else prove '..UptoSaid'. A law counts once. -/
mutual
def uptoBulk {H : Type} : DataW H → Nat
  | .lit (.string bytes) => bytes.length + 1
  | .lit _ => 1
  | .nil => 1
  | .ptr d => uptoBulk d + 1
  | .slice elems spare => uptoBulkAll elems + uptoBulkAll spare + 1
  | .agg parts => uptoBulkAll parts + 1
  | .iface _ d => uptoBulk d + 1
  | .map entries => uptoBulkEntries entries + 1
  | .held _ => 1
def uptoBulkAll {H : Type} : List (DataW H) → Nat
  | [] => 0
  | d :: r => uptoBulk d + uptoBulkAll r
def uptoBulkEntries {H : Type} : List (Lit × DataW H) → Nat
  | [] => 0
  | x :: r => uptoBulkEntry x + uptoBulkEntries r
def uptoBulkEntry {H : Type} : Lit × DataW H → Nat
  | (.string bytes, d) => bytes.length + uptoBulk d + 1
  | (_, d) => uptoBulk d + 1
 end
def uptoSmall : (H : Type) → List (DataW H) → Bool := fun _ ds => decide (uptoBulkAll ds ≤ 1048576)
def OpenSpec.upto (s : _root_.Go.ChangeSpec) : _root_.Go.OpenSpec := { _root_.Go.OpenSpec.ofChange s with cond := some uptoSmall }

/-- 'laws.FnWriteCellOrder', WHERE WHAT IT READS IS OF BULK AT MOST 1048576: true; the input reads as it did. -/
def fnWriteCellOrderUptoRow : OpenClaim := { program := "ytmipeegfeglljaa", sum := "6cab3fa77f0b2563b77b4b2eb1e3609d7d070e9cc6ca5b20c771eae2f8627618", func := "loop.example/flexlayout/laws.FnWriteCellOrder", spec := "fnWriteCellOrder", unfollowed := true, recurses := true, apart := false, narrowed := true }
def FnWriteCellOrderUptoSaid : Prop := fnWriteCellOrderUptoRow.holds Try.pinned (OpenSpec.upto fnWriteCellOrderSpec)

/-- 'laws.FnExactWriteCell', WHERE WHAT IT READS IS OF BULK AT MOST 1048576: true; the input reads as it did. -/
def fnExactWriteCellUptoRow : OpenClaim := { program := "ytmipeegfeglljaa", sum := "6cab3fa77f0b2563b77b4b2eb1e3609d7d070e9cc6ca5b20c771eae2f8627618", func := "loop.example/flexlayout/laws.FnExactWriteCell", spec := "fnExactWriteCell", unfollowed := true, recurses := true, apart := false, narrowed := true }
def FnExactWriteCellUptoSaid : Prop := fnExactWriteCellUptoRow.holds Try.pinned (OpenSpec.upto fnExactWriteCellSpec)

/-- 'laws.FnWriteCell', WHERE WHAT IT READS IS OF BULK AT MOST 1048576: true; the input reads as it did. -/
def fnWriteCellUptoRow : OpenClaim := { program := "ytmipeegfeglljaa", sum := "6cab3fa77f0b2563b77b4b2eb1e3609d7d070e9cc6ca5b20c771eae2f8627618", func := "loop.example/flexlayout/laws.FnWriteCell", spec := "fnWriteCell", unfollowed := true, recurses := true, apart := false, narrowed := true }
def FnWriteCellUptoSaid : Prop := fnWriteCellUptoRow.holds Try.pinned (OpenSpec.upto fnWriteCellSpec)

/-- 'laws.FnSwapBuffersRead', WHERE WHAT IT READS IS OF BULK AT MOST 1048576: true; the input reads as it did. -/
def fnSwapBuffersReadUptoRow : OpenClaim := { program := "ytmipeegfeglljaa", sum := "6cab3fa77f0b2563b77b4b2eb1e3609d7d070e9cc6ca5b20c771eae2f8627618", func := "loop.example/flexlayout/laws.FnSwapBuffersRead", spec := "fnSwapBuffersRead", unfollowed := true, recurses := true, apart := false, narrowed := true }
def FnSwapBuffersReadUptoSaid : Prop := fnSwapBuffersReadUptoRow.holds Try.pinned (OpenSpec.upto fnSwapBuffersReadSpec)

/-- 'laws.FnWriteCellPending', WHERE WHAT IT READS IS OF BULK AT MOST 1048576: true; the input reads as it did. -/
def fnWriteCellPendingUptoRow : OpenClaim := { program := "ytmipeegfeglljaa", sum := "6cab3fa77f0b2563b77b4b2eb1e3609d7d070e9cc6ca5b20c771eae2f8627618", func := "loop.example/flexlayout/laws.FnWriteCellPending", spec := "fnWriteCellPending", unfollowed := true, recurses := true, apart := false, narrowed := true }
def FnWriteCellPendingUptoSaid : Prop := fnWriteCellPendingUptoRow.holds Try.pinned (OpenSpec.upto fnWriteCellPendingSpec)

end Rows
end Go.Proofs.Ytmipeegfeglljaa
