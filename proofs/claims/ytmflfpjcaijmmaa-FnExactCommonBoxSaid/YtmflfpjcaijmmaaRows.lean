/-
  No cell of these rows narrows 'for every input' (looked for: loops, veiled, ifaces, maps, wideKeys, modest, calm, conditions, laid).
  DERIVED. THE GIVEN ROWS OF THIS SEAT. 7 by the template 'for every input the law returns true; each argument reads behind the call as it read before'; 0 by the template 'total and deterministic' (their statements: YtmflfpjcaijmmaaTotals.lean).
  GIVEN WITH THE SEED: the statements are not yours to turn. If you find one false, say at which input.
  Laid BY PROGRAM, IN A SANDBOX (cutbox-rows.mjs): the forced cells as the released guide's own fill.sh prints them over the translation 47e31f6b3a8884f5… (all of the seat's roots in one cut). By AI agents, Wed Nov 11 2026. No macro, syntax, notation, axiom, sorry.
-/
import Derived.Test.YtmflfpjcaijmmaaChecked
import GoSem.Claim
import GoSem.ClaimJoined
import GoSem.ClaimMapViews
import Derived.JoinedTies
import Derived.KernelRfl
namespace Go.Proofs.Ytmflfpjcaijmmaa
/- THE CELL 'sum', in the pinned program and in every row, IS THE sha256 OF THE DUMP (.gsa) THAT YtmflfpjcaijmmaaProg.lean LOADS. Nothing in Lean hashes anything: it is a label: what it is worth is what the hold of that sum in a sandbox is worth. -/
noncomputable def Try.pinned : Pinned := { name := "ytmflfpjcaijmmaa", sum := "47e31f6b3a8884f56bdb851e9d43de3c99e9ea7aa9c92093d97809359fb23516", checked := Try.checked }
namespace Rows
def none {H : Type} : Left H := { results := [], args := [] }

/-- 'laws.FnExactLayoutRoot': WHATEVER THE INPUT: true; the input reads as it did. -/
def fnExactLayoutRootSpec : ChangeSpec := { name := "fnExactLayoutRoot", fn := fun _ => fun
  | [d1, d2] => { results := [.lit (.bool true)], args := [d1, d2] }
  | _ => none }
def fnExactLayoutRootRow : OpenClaim := { program := "ytmflfpjcaijmmaa", sum := "47e31f6b3a8884f56bdb851e9d43de3c99e9ea7aa9c92093d97809359fb23516", func := "loop.example/flexlayout/laws.FnExactLayoutRoot", spec := "fnExactLayoutRoot", apart := false }
def FnExactLayoutRootSaid : Prop := fnExactLayoutRootRow.holds Try.pinned (OpenSpec.ofChange fnExactLayoutRootSpec)

/-- ITS FALSE NEIGHBOUR: 'it returns false'. Refute it at one input. -/
def fnExactLayoutRootWrong : ChangeSpec := { name := "fnExactLayoutRoot", fn := fun _ => fun
  | [d1, d2] => { results := [.lit (.bool false)], args := [d1, d2] }
  | _ => none }
def FnExactLayoutRootWrongFalsely : Prop := fnExactLayoutRootRow.holds Try.pinned (OpenSpec.ofChange fnExactLayoutRootWrong)

/-- 'laws.FnExactNextLeaf': WHATEVER THE INPUT: true; the input reads as it did. -/
def fnExactNextLeafSpec : ChangeSpec := { name := "fnExactNextLeaf", fn := fun _ => fun
  | [d1, d2] => { results := [.lit (.bool true)], args := [d1, d2] }
  | _ => none }
def fnExactNextLeafRow : OpenClaim := { program := "ytmflfpjcaijmmaa", sum := "47e31f6b3a8884f56bdb851e9d43de3c99e9ea7aa9c92093d97809359fb23516", func := "loop.example/flexlayout/laws.FnExactNextLeaf", spec := "fnExactNextLeaf", apart := false }
def FnExactNextLeafSaid : Prop := fnExactNextLeafRow.holds Try.pinned (OpenSpec.ofChange fnExactNextLeafSpec)

/-- ITS FALSE NEIGHBOUR: 'it returns false'. Refute it at one input. -/
def fnExactNextLeafWrong : ChangeSpec := { name := "fnExactNextLeaf", fn := fun _ => fun
  | [d1, d2] => { results := [.lit (.bool false)], args := [d1, d2] }
  | _ => none }
def FnExactNextLeafWrongFalsely : Prop := fnExactNextLeafRow.holds Try.pinned (OpenSpec.ofChange fnExactNextLeafWrong)

/-- 'laws.FnExactCommonBox': WHATEVER THE INPUT: true; the input reads as it did. -/
def fnExactCommonBoxSpec : ChangeSpec := { name := "fnExactCommonBox", fn := fun _ => fun
  | [d1, d2, d3] => { results := [.lit (.bool true)], args := [d1, d2, d3] }
  | _ => none }
def fnExactCommonBoxRow : OpenClaim := { program := "ytmflfpjcaijmmaa", sum := "47e31f6b3a8884f56bdb851e9d43de3c99e9ea7aa9c92093d97809359fb23516", func := "loop.example/flexlayout/laws.FnExactCommonBox", spec := "fnExactCommonBox", unfollowed := true, recurses := true, apart := false }
def FnExactCommonBoxSaid : Prop := fnExactCommonBoxRow.holds Try.pinned (OpenSpec.ofChange fnExactCommonBoxSpec)

/-- ITS FALSE NEIGHBOUR: 'it returns false'. Refute it at one input. -/
def fnExactCommonBoxWrong : ChangeSpec := { name := "fnExactCommonBox", fn := fun _ => fun
  | [d1, d2, d3] => { results := [.lit (.bool false)], args := [d1, d2, d3] }
  | _ => none }
def FnExactCommonBoxWrongFalsely : Prop := fnExactCommonBoxRow.holds Try.pinned (OpenSpec.ofChange fnExactCommonBoxWrong)

/-- 'laws.FnExactPathTo': WHATEVER THE INPUT: true; the input reads as it did. -/
def fnExactPathToSpec : ChangeSpec := { name := "fnExactPathTo", fn := fun _ => fun
  | [d1, d2] => { results := [.lit (.bool true)], args := [d1, d2] }
  | _ => none }
def fnExactPathToRow : OpenClaim := { program := "ytmflfpjcaijmmaa", sum := "47e31f6b3a8884f56bdb851e9d43de3c99e9ea7aa9c92093d97809359fb23516", func := "loop.example/flexlayout/laws.FnExactPathTo", spec := "fnExactPathTo", apart := false }
def FnExactPathToSaid : Prop := fnExactPathToRow.holds Try.pinned (OpenSpec.ofChange fnExactPathToSpec)

/-- ITS FALSE NEIGHBOUR: 'it returns false'. Refute it at one input. -/
def fnExactPathToWrong : ChangeSpec := { name := "fnExactPathTo", fn := fun _ => fun
  | [d1, d2] => { results := [.lit (.bool false)], args := [d1, d2] }
  | _ => none }
def FnExactPathToWrongFalsely : Prop := fnExactPathToRow.holds Try.pinned (OpenSpec.ofChange fnExactPathToWrong)

/-- 'laws.FnExactDirtyBoxes': WHATEVER THE INPUT: true; the input reads as it did. -/
def fnExactDirtyBoxesSpec : ChangeSpec := { name := "fnExactDirtyBoxes", fn := fun _ => fun
  | [d1, d2] => { results := [.lit (.bool true)], args := [d1, d2] }
  | _ => none }
def fnExactDirtyBoxesRow : OpenClaim := { program := "ytmflfpjcaijmmaa", sum := "47e31f6b3a8884f56bdb851e9d43de3c99e9ea7aa9c92093d97809359fb23516", func := "loop.example/flexlayout/laws.FnExactDirtyBoxes", spec := "fnExactDirtyBoxes", unfollowed := true, recurses := true, apart := false }
def FnExactDirtyBoxesSaid : Prop := fnExactDirtyBoxesRow.holds Try.pinned (OpenSpec.ofChange fnExactDirtyBoxesSpec)

/-- ITS FALSE NEIGHBOUR: 'it returns false'. Refute it at one input. -/
def fnExactDirtyBoxesWrong : ChangeSpec := { name := "fnExactDirtyBoxes", fn := fun _ => fun
  | [d1, d2] => { results := [.lit (.bool false)], args := [d1, d2] }
  | _ => none }
def FnExactDirtyBoxesWrongFalsely : Prop := fnExactDirtyBoxesRow.holds Try.pinned (OpenSpec.ofChange fnExactDirtyBoxesWrong)

/-- 'laws.FnExactDirtyRoots': WHATEVER THE INPUT: true; the input reads as it did. -/
def fnExactDirtyRootsSpec : ChangeSpec := { name := "fnExactDirtyRoots", fn := fun _ => fun
  | [d1, d2] => { results := [.lit (.bool true)], args := [d1, d2] }
  | _ => none }
def fnExactDirtyRootsRow : OpenClaim := { program := "ytmflfpjcaijmmaa", sum := "47e31f6b3a8884f56bdb851e9d43de3c99e9ea7aa9c92093d97809359fb23516", func := "loop.example/flexlayout/laws.FnExactDirtyRoots", spec := "fnExactDirtyRoots", unfollowed := true, recurses := true, apart := false }
def FnExactDirtyRootsSaid : Prop := fnExactDirtyRootsRow.holds Try.pinned (OpenSpec.ofChange fnExactDirtyRootsSpec)

/-- ITS FALSE NEIGHBOUR: 'it returns false'. Refute it at one input. -/
def fnExactDirtyRootsWrong : ChangeSpec := { name := "fnExactDirtyRoots", fn := fun _ => fun
  | [d1, d2] => { results := [.lit (.bool false)], args := [d1, d2] }
  | _ => none }
def FnExactDirtyRootsWrongFalsely : Prop := fnExactDirtyRootsRow.holds Try.pinned (OpenSpec.ofChange fnExactDirtyRootsWrong)

/-- 'laws.FnExactCleanBox': WHATEVER THE INPUT: true; the input reads as it did. -/
def fnExactCleanBoxSpec : ChangeSpec := { name := "fnExactCleanBox", fn := fun _ => fun
  | [d1, d2, d3] => { results := [.lit (.bool true)], args := [d1, d2, d3] }
  | _ => none }
def fnExactCleanBoxRow : OpenClaim := { program := "ytmflfpjcaijmmaa", sum := "47e31f6b3a8884f56bdb851e9d43de3c99e9ea7aa9c92093d97809359fb23516", func := "loop.example/flexlayout/laws.FnExactCleanBox", spec := "fnExactCleanBox", unfollowed := true, recurses := true, apart := false }
def FnExactCleanBoxSaid : Prop := fnExactCleanBoxRow.holds Try.pinned (OpenSpec.ofChange fnExactCleanBoxSpec)

/-- ITS FALSE NEIGHBOUR: 'it returns false'. Refute it at one input. -/
def fnExactCleanBoxWrong : ChangeSpec := { name := "fnExactCleanBox", fn := fun _ => fun
  | [d1, d2, d3] => { results := [.lit (.bool false)], args := [d1, d2, d3] }
  | _ => none }
def FnExactCleanBoxWrongFalsely : Prop := fnExactCleanBoxRow.holds Try.pinned (OpenSpec.ofChange fnExactCleanBoxWrong)

/- THE SECOND FORM. 'bulk': how many values and letters a reading holds, each counted each time it is reached (what is shared counts as often as it is met; a slice's spare places count too). A statement '..UptoSaid' is the law's where the arguments, and the package variables that the reading takes, are together of bulk at most 1048576: NARROWER than '..Said'. Prove '..Said' where nothing that the law and all that it calls make is longer than what came in: it says more and counts as full. Else prove '..UptoSaid'. A law counts once. -/
mutual
def uptoBulk {H : Type} : DataW H → Nat
  | .lit (.string bytes) => bytes.length + 1
  | .lit _ => 1
  | .nil => 1
  | .ptr d => uptoBulk d + 1
  | .slice elems spare => uptoBulkAll elems + uptoBulkAll spare + 1
  | .agg parts => uptoBulkAll parts + 1
  | .iface _ d => uptoBulk d + 1
  | .map entries => uptoBulkEntries entries + 1
  | .held _ => 1
def uptoBulkAll {H : Type} : List (DataW H) → Nat
  | [] => 0
  | d :: r => uptoBulk d + uptoBulkAll r
def uptoBulkEntries {H : Type} : List (Lit × DataW H) → Nat
  | [] => 0
  | x :: r => uptoBulkEntry x + uptoBulkEntries r
def uptoBulkEntry {H : Type} : Lit × DataW H → Nat
  | (.string bytes, d) => bytes.length + uptoBulk d + 1
  | (_, d) => uptoBulk d + 1
 end
def uptoSmall : (H : Type) → List (DataW H) → Bool := fun _ ds => decide (uptoBulkAll ds ≤ 1048576)
def OpenSpec.upto (s : _root_.Go.ChangeSpec) : _root_.Go.OpenSpec := { _root_.Go.OpenSpec.ofChange s with cond := some uptoSmall }

/-- 'laws.FnExactLayoutRoot', WHERE WHAT IT READS IS OF BULK AT MOST 1048576: true; the input reads as it did. -/
def fnExactLayoutRootUptoRow : OpenClaim := { program := "ytmflfpjcaijmmaa", sum := "47e31f6b3a8884f56bdb851e9d43de3c99e9ea7aa9c92093d97809359fb23516", func := "loop.example/flexlayout/laws.FnExactLayoutRoot", spec := "fnExactLayoutRoot", apart := false, narrowed := true }
def FnExactLayoutRootUptoSaid : Prop := fnExactLayoutRootUptoRow.holds Try.pinned (OpenSpec.upto fnExactLayoutRootSpec)

/-- 'laws.FnExactNextLeaf', WHERE WHAT IT READS IS OF BULK AT MOST 1048576: true; the input reads as it did. -/
def fnExactNextLeafUptoRow : OpenClaim := { program := "ytmflfpjcaijmmaa", sum := "47e31f6b3a8884f56bdb851e9d43de3c99e9ea7aa9c92093d97809359fb23516", func := "loop.example/flexlayout/laws.FnExactNextLeaf", spec := "fnExactNextLeaf", apart := false, narrowed := true }
def FnExactNextLeafUptoSaid : Prop := fnExactNextLeafUptoRow.holds Try.pinned (OpenSpec.upto fnExactNextLeafSpec)

/-- 'laws.FnExactCommonBox', WHERE WHAT IT READS IS OF BULK AT MOST 1048576: true; the input reads as it did. -/
def fnExactCommonBoxUptoRow : OpenClaim := { program := "ytmflfpjcaijmmaa", sum := "47e31f6b3a8884f56bdb851e9d43de3c99e9ea7aa9c92093d97809359fb23516", func := "loop.example/flexlayout/laws.FnExactCommonBox", spec := "fnExactCommonBox", unfollowed := true, recurses := true, apart := false, narrowed := true }
def FnExactCommonBoxUptoSaid : Prop := fnExactCommonBoxUptoRow.holds Try.pinned (OpenSpec.upto fnExactCommonBoxSpec)

/-- 'laws.FnExactPathTo', WHERE WHAT IT READS IS OF BULK AT MOST 1048576: true; the input reads as it did. -/
def fnExactPathToUptoRow : OpenClaim := { program := "ytmflfpjcaijmmaa", sum := "47e31f6b3a8884f56bdb851e9d43de3c99e9ea7aa9c92093d97809359fb23516", func := "loop.example/flexlayout/laws.FnExactPathTo", spec := "fnExactPathTo", apart := false, narrowed := true }
def FnExactPathToUptoSaid : Prop := fnExactPathToUptoRow.holds Try.pinned (OpenSpec.upto fnExactPathToSpec)

/-- 'laws.FnExactDirtyBoxes', WHERE WHAT IT READS IS OF BULK AT MOST 1048576: true; the input reads as it did. -/
def fnExactDirtyBoxesUptoRow : OpenClaim := { program := "ytmflfpjcaijmmaa", sum := "47e31f6b3a8884f56bdb851e9d43de3c99e9ea7aa9c92093d97809359fb23516", func := "loop.example/flexlayout/laws.FnExactDirtyBoxes", spec := "fnExactDirtyBoxes", unfollowed := true, recurses := true, apart := false, narrowed := true }
def FnExactDirtyBoxesUptoSaid : Prop := fnExactDirtyBoxesUptoRow.holds Try.pinned (OpenSpec.upto fnExactDirtyBoxesSpec)

/-- 'laws.FnExactDirtyRoots', WHERE WHAT IT READS IS OF BULK AT MOST 1048576: true; the input reads as it did. -/
def fnExactDirtyRootsUptoRow : OpenClaim := { program := "ytmflfpjcaijmmaa", sum := "47e31f6b3a8884f56bdb851e9d43de3c99e9ea7aa9c92093d97809359fb23516", func := "loop.example/flexlayout/laws.FnExactDirtyRoots", spec := "fnExactDirtyRoots", unfollowed := true, recurses := true, apart := false, narrowed := true }
def FnExactDirtyRootsUptoSaid : Prop := fnExactDirtyRootsUptoRow.holds Try.pinned (OpenSpec.upto fnExactDirtyRootsSpec)

/-- 'laws.FnExactCleanBox', WHERE WHAT IT READS IS OF BULK AT MOST 1048576: true; the input reads as it did. -/
def fnExactCleanBoxUptoRow : OpenClaim := { program := "ytmflfpjcaijmmaa", sum := "47e31f6b3a8884f56bdb851e9d43de3c99e9ea7aa9c92093d97809359fb23516", func := "loop.example/flexlayout/laws.FnExactCleanBox", spec := "fnExactCleanBox", unfollowed := true, recurses := true, apart := false, narrowed := true }
def FnExactCleanBoxUptoSaid : Prop := fnExactCleanBoxUptoRow.holds Try.pinned (OpenSpec.upto fnExactCleanBoxSpec)

end Rows
end Go.Proofs.Ytmflfpjcaijmmaa
