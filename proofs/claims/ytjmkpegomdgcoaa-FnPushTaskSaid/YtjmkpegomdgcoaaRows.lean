/-
  No cell of these rows narrows 'for every input' (looked for: loops, veiled, ifaces, maps, wideKeys, modest, calm, conditions, laid).
  DERIVED. THE GIVEN ROWS OF THIS SEAT. 6 by the template 'for every input the law returns true; each argument reads behind the call as it read before'; 0 by the template 'total and deterministic' (their statements: YtjmkpegomdgcoaaTotals.lean).
  GIVEN WITH THE SEED: the statements are not yours to turn. If you find one false, say at which input.
  Laid BY PROGRAM, IN A SANDBOX (cutbox-rows.mjs): the forced cells as the released guide's own fill.sh prints them over the translation 9a6476a3f934856c… (all of the seat's roots in one cut). By AI agents, Wed Nov 11 2026. No macro, syntax, notation, axiom, sorry.
-/
import Derived.Test.YtjmkpegomdgcoaaChecked
import GoSem.Claim
import GoSem.ClaimJoined
import GoSem.ClaimMapViews
import Derived.JoinedTies
import Derived.KernelRfl
namespace Go.Proofs.Ytjmkpegomdgcoaa
/- THE CELL 'sum', in the pinned program and in every row, IS THE sha256 OF THE DUMP (.gsa) THAT YtjmkpegomdgcoaaProg.lean LOADS. Nothing in Lean hashes anything: it is a label: what it is worth is what the hold of that sum in a sandbox is worth. -/
noncomputable def Try.pinned : Pinned := { name := "ytjmkpegomdgcoaa", sum := "9a6476a3f934856ce1d47066c7f3c3500e58592d14aa2e24db8200ffb26a4636", checked := Try.checked }
namespace Rows
def none {H : Type} : Left H := { results := [], args := [] }

/-- 'laws.FnExactValidTasks': WHATEVER THE INPUT: true; the input reads as it did. -/
def fnExactValidTasksSpec : ChangeSpec := { name := "fnExactValidTasks", fn := fun _ => fun
  | [d] => { results := [.lit (.bool true)], args := [d] }
  | _ => none }
def fnExactValidTasksRow : OpenClaim := { program := "ytjmkpegomdgcoaa", sum := "9a6476a3f934856ce1d47066c7f3c3500e58592d14aa2e24db8200ffb26a4636", func := "loop.example/flexlayout/laws.FnExactValidTasks", spec := "fnExactValidTasks", apart := false }
def FnExactValidTasksSaid : Prop := fnExactValidTasksRow.holds Try.pinned (OpenSpec.ofChange fnExactValidTasksSpec)

/-- ITS FALSE NEIGHBOUR: 'it returns false'. Refute it at one input. -/
def fnExactValidTasksWrong : ChangeSpec := { name := "fnExactValidTasks", fn := fun _ => fun
  | [d] => { results := [.lit (.bool false)], args := [d] }
  | _ => none }
def FnExactValidTasksWrongFalsely : Prop := fnExactValidTasksRow.holds Try.pinned (OpenSpec.ofChange fnExactValidTasksWrong)

/-- 'laws.FnValidTasks': WHATEVER THE INPUT: true; the input reads as it did. -/
def fnValidTasksSpec : ChangeSpec := { name := "fnValidTasks", fn := fun _ => fun
  | [d] => { results := [.lit (.bool true)], args := [d] }
  | _ => none }
def fnValidTasksRow : OpenClaim := { program := "ytjmkpegomdgcoaa", sum := "9a6476a3f934856ce1d47066c7f3c3500e58592d14aa2e24db8200ffb26a4636", func := "loop.example/flexlayout/laws.FnValidTasks", spec := "fnValidTasks", apart := false }
def FnValidTasksSaid : Prop := fnValidTasksRow.holds Try.pinned (OpenSpec.ofChange fnValidTasksSpec)

/-- ITS FALSE NEIGHBOUR: 'it returns false'. Refute it at one input. -/
def fnValidTasksWrong : ChangeSpec := { name := "fnValidTasks", fn := fun _ => fun
  | [d] => { results := [.lit (.bool false)], args := [d] }
  | _ => none }
def FnValidTasksWrongFalsely : Prop := fnValidTasksRow.holds Try.pinned (OpenSpec.ofChange fnValidTasksWrong)

/-- 'laws.FnExactPushTask': WHATEVER THE INPUT: true; the input reads as it did. -/
def fnExactPushTaskSpec : ChangeSpec := { name := "fnExactPushTask", fn := fun _ => fun
  | [d1, d2, d3] => { results := [.lit (.bool true)], args := [d1, d2, d3] }
  | _ => none }
def fnExactPushTaskRow : OpenClaim := { program := "ytjmkpegomdgcoaa", sum := "9a6476a3f934856ce1d47066c7f3c3500e58592d14aa2e24db8200ffb26a4636", func := "loop.example/flexlayout/laws.FnExactPushTask", spec := "fnExactPushTask", inPlace := ["slices.overlaps[loop.example/flexlayout/impl.Task]"], unfollowed := true, recurses := true, apart := false }
def FnExactPushTaskSaid : Prop := fnExactPushTaskRow.holds Try.pinned (OpenSpec.ofChange fnExactPushTaskSpec)

/-- ITS FALSE NEIGHBOUR: 'it returns false'. Refute it at one input. -/
def fnExactPushTaskWrong : ChangeSpec := { name := "fnExactPushTask", fn := fun _ => fun
  | [d1, d2, d3] => { results := [.lit (.bool false)], args := [d1, d2, d3] }
  | _ => none }
def FnExactPushTaskWrongFalsely : Prop := fnExactPushTaskRow.holds Try.pinned (OpenSpec.ofChange fnExactPushTaskWrong)

/-- 'laws.FnPushTask': WHATEVER THE INPUT: true; the input reads as it did. -/
def fnPushTaskSpec : ChangeSpec := { name := "fnPushTask", fn := fun _ => fun
  | [d] => { results := [.lit (.bool true)], args := [d] }
  | _ => none }
def fnPushTaskRow : OpenClaim := { program := "ytjmkpegomdgcoaa", sum := "9a6476a3f934856ce1d47066c7f3c3500e58592d14aa2e24db8200ffb26a4636", func := "loop.example/flexlayout/laws.FnPushTask", spec := "fnPushTask", inPlace := ["slices.overlaps[loop.example/flexlayout/impl.Task]"], unfollowed := true, recurses := true, apart := false }
def FnPushTaskSaid : Prop := fnPushTaskRow.holds Try.pinned (OpenSpec.ofChange fnPushTaskSpec)

/-- ITS FALSE NEIGHBOUR: 'it returns false'. Refute it at one input. -/
def fnPushTaskWrong : ChangeSpec := { name := "fnPushTask", fn := fun _ => fun
  | [d] => { results := [.lit (.bool false)], args := [d] }
  | _ => none }
def FnPushTaskWrongFalsely : Prop := fnPushTaskRow.holds Try.pinned (OpenSpec.ofChange fnPushTaskWrong)

/-- 'laws.FnPushTaskOrder': WHATEVER THE INPUT: true; the input reads as it did. -/
def fnPushTaskOrderSpec : ChangeSpec := { name := "fnPushTaskOrder", fn := fun _ => fun
  | [d] => { results := [.lit (.bool true)], args := [d] }
  | _ => none }
def fnPushTaskOrderRow : OpenClaim := { program := "ytjmkpegomdgcoaa", sum := "9a6476a3f934856ce1d47066c7f3c3500e58592d14aa2e24db8200ffb26a4636", func := "loop.example/flexlayout/laws.FnPushTaskOrder", spec := "fnPushTaskOrder", inPlace := ["slices.overlaps[loop.example/flexlayout/impl.Task]"], unfollowed := true, recurses := true, apart := false }
def FnPushTaskOrderSaid : Prop := fnPushTaskOrderRow.holds Try.pinned (OpenSpec.ofChange fnPushTaskOrderSpec)

/-- ITS FALSE NEIGHBOUR: 'it returns false'. Refute it at one input. -/
def fnPushTaskOrderWrong : ChangeSpec := { name := "fnPushTaskOrder", fn := fun _ => fun
  | [d] => { results := [.lit (.bool false)], args := [d] }
  | _ => none }
def FnPushTaskOrderWrongFalsely : Prop := fnPushTaskOrderRow.holds Try.pinned (OpenSpec.ofChange fnPushTaskOrderWrong)

/-- 'laws.FnPushTaskTwice': WHATEVER THE INPUT: true; the input reads as it did. -/
def fnPushTaskTwiceSpec : ChangeSpec := { name := "fnPushTaskTwice", fn := fun _ => fun
  | [d] => { results := [.lit (.bool true)], args := [d] }
  | _ => none }
def fnPushTaskTwiceRow : OpenClaim := { program := "ytjmkpegomdgcoaa", sum := "9a6476a3f934856ce1d47066c7f3c3500e58592d14aa2e24db8200ffb26a4636", func := "loop.example/flexlayout/laws.FnPushTaskTwice", spec := "fnPushTaskTwice", inPlace := ["slices.overlaps[loop.example/flexlayout/impl.Task]"], unfollowed := true, recurses := true, apart := false }
def FnPushTaskTwiceSaid : Prop := fnPushTaskTwiceRow.holds Try.pinned (OpenSpec.ofChange fnPushTaskTwiceSpec)

/-- ITS FALSE NEIGHBOUR: 'it returns false'. Refute it at one input. -/
def fnPushTaskTwiceWrong : ChangeSpec := { name := "fnPushTaskTwice", fn := fun _ => fun
  | [d] => { results := [.lit (.bool false)], args := [d] }
  | _ => none }
def FnPushTaskTwiceWrongFalsely : Prop := fnPushTaskTwiceRow.holds Try.pinned (OpenSpec.ofChange fnPushTaskTwiceWrong)

/- THE SECOND FORM. 'bulk': how many values and letters a reading holds, each counted each time it is reached (what is shared counts as often as it is met; a slice's spare places count too). A statement '..UptoSaid' is the law's where the arguments, and the package variables that the reading takes, are together of bulk at most 1048576: NARROWER than '..Said'. Prove '..Said' where nothing that the law and all that it calls make is longer than what came in: it says more and counts as full. Else prove '..UptoSaid'. A law counts once. -/
mutual
def uptoBulk {H : Type} : DataW H → Nat
  | .lit (.string bytes) => bytes.length + 1
  | .lit _ => 1
  | .nil => 1
  | .ptr d => uptoBulk d + 1
  | .slice elems spare => uptoBulkAll elems + uptoBulkAll spare + 1
  | .agg parts => uptoBulkAll parts + 1
  | .iface _ d => uptoBulk d + 1
  | .map entries => uptoBulkEntries entries + 1
  | .held _ => 1
def uptoBulkAll {H : Type} : List (DataW H) → Nat
  | [] => 0
  | d :: r => uptoBulk d + uptoBulkAll r
def uptoBulkEntries {H : Type} : List (Lit × DataW H) → Nat
  | [] => 0
  | x :: r => uptoBulkEntry x + uptoBulkEntries r
def uptoBulkEntry {H : Type} : Lit × DataW H → Nat
  | (.string bytes, d) => bytes.length + uptoBulk d + 1
  | (_, d) => uptoBulk d + 1
 end
def uptoSmall : (H : Type) → List (DataW H) → Bool := fun _ ds => decide (uptoBulkAll ds ≤ 1048576)
def OpenSpec.upto (s : _root_.Go.ChangeSpec) : _root_.Go.OpenSpec := { _root_.Go.OpenSpec.ofChange s with cond := some uptoSmall }

/-- 'laws.FnExactValidTasks', WHERE WHAT IT READS IS OF BULK AT MOST 1048576: true; the input reads as it did. -/
def fnExactValidTasksUptoRow : OpenClaim := { program := "ytjmkpegomdgcoaa", sum := "9a6476a3f934856ce1d47066c7f3c3500e58592d14aa2e24db8200ffb26a4636", func := "loop.example/flexlayout/laws.FnExactValidTasks", spec := "fnExactValidTasks", apart := false, narrowed := true }
def FnExactValidTasksUptoSaid : Prop := fnExactValidTasksUptoRow.holds Try.pinned (OpenSpec.upto fnExactValidTasksSpec)

/-- 'laws.FnValidTasks', WHERE WHAT IT READS IS OF BULK AT MOST 1048576: true; the input reads as it did. -/
def fnValidTasksUptoRow : OpenClaim := { program := "ytjmkpegomdgcoaa", sum := "9a6476a3f934856ce1d47066c7f3c3500e58592d14aa2e24db8200ffb26a4636", func := "loop.example/flexlayout/laws.FnValidTasks", spec := "fnValidTasks", apart := false, narrowed := true }
def FnValidTasksUptoSaid : Prop := fnValidTasksUptoRow.holds Try.pinned (OpenSpec.upto fnValidTasksSpec)

/-- 'laws.FnExactPushTask', WHERE WHAT IT READS IS OF BULK AT MOST 1048576: true; the input reads as it did. -/
def fnExactPushTaskUptoRow : OpenClaim := { program := "ytjmkpegomdgcoaa", sum := "9a6476a3f934856ce1d47066c7f3c3500e58592d14aa2e24db8200ffb26a4636", func := "loop.example/flexlayout/laws.FnExactPushTask", spec := "fnExactPushTask", inPlace := ["slices.overlaps[loop.example/flexlayout/impl.Task]"], unfollowed := true, recurses := true, apart := false, narrowed := true }
def FnExactPushTaskUptoSaid : Prop := fnExactPushTaskUptoRow.holds Try.pinned (OpenSpec.upto fnExactPushTaskSpec)

/-- 'laws.FnPushTask', WHERE WHAT IT READS IS OF BULK AT MOST 1048576: true; the input reads as it did. -/
def fnPushTaskUptoRow : OpenClaim := { program := "ytjmkpegomdgcoaa", sum := "9a6476a3f934856ce1d47066c7f3c3500e58592d14aa2e24db8200ffb26a4636", func := "loop.example/flexlayout/laws.FnPushTask", spec := "fnPushTask", inPlace := ["slices.overlaps[loop.example/flexlayout/impl.Task]"], unfollowed := true, recurses := true, apart := false, narrowed := true }
def FnPushTaskUptoSaid : Prop := fnPushTaskUptoRow.holds Try.pinned (OpenSpec.upto fnPushTaskSpec)

/-- 'laws.FnPushTaskOrder', WHERE WHAT IT READS IS OF BULK AT MOST 1048576: true; the input reads as it did. -/
def fnPushTaskOrderUptoRow : OpenClaim := { program := "ytjmkpegomdgcoaa", sum := "9a6476a3f934856ce1d47066c7f3c3500e58592d14aa2e24db8200ffb26a4636", func := "loop.example/flexlayout/laws.FnPushTaskOrder", spec := "fnPushTaskOrder", inPlace := ["slices.overlaps[loop.example/flexlayout/impl.Task]"], unfollowed := true, recurses := true, apart := false, narrowed := true }
def FnPushTaskOrderUptoSaid : Prop := fnPushTaskOrderUptoRow.holds Try.pinned (OpenSpec.upto fnPushTaskOrderSpec)

/-- 'laws.FnPushTaskTwice', WHERE WHAT IT READS IS OF BULK AT MOST 1048576: true; the input reads as it did. -/
def fnPushTaskTwiceUptoRow : OpenClaim := { program := "ytjmkpegomdgcoaa", sum := "9a6476a3f934856ce1d47066c7f3c3500e58592d14aa2e24db8200ffb26a4636", func := "loop.example/flexlayout/laws.FnPushTaskTwice", spec := "fnPushTaskTwice", inPlace := ["slices.overlaps[loop.example/flexlayout/impl.Task]"], unfollowed := true, recurses := true, apart := false, narrowed := true }
def FnPushTaskTwiceUptoSaid : Prop := fnPushTaskTwiceUptoRow.holds Try.pinned (OpenSpec.upto fnPushTaskTwiceSpec)

end Rows
end Go.Proofs.Ytjmkpegomdgcoaa
