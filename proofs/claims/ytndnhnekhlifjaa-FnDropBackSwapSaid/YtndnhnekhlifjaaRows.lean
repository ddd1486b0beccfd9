/-
  No cell of these rows narrows 'for every input' (looked for: loops, veiled, ifaces, maps, wideKeys, modest, calm, conditions, laid).
  DERIVED. THE GIVEN ROWS OF THIS SEAT. 6 by the template 'for every input the law returns true; each argument reads behind the call as it read before'; 0 by the template 'total and deterministic' (their statements: YtndnhnekhlifjaaTotals.lean).
  GIVEN WITH THE SEED: the statements are not yours to turn. If you find one false, say at which input.
  Laid BY PROGRAM, IN A SANDBOX (cutbox-rows.mjs): the forced cells as the released guide's own fill.sh prints them over the translation e79a0d73e6df6c65… (all of the seat's roots in one cut). By AI agents, Wed Nov 11 2026. No macro, syntax, notation, axiom, sorry.
-/
import Derived.Test.YtndnhnekhlifjaaChecked
import GoSem.Claim
import GoSem.ClaimJoined
import GoSem.ClaimMapViews
import Derived.JoinedTies
import Derived.KernelRfl
namespace Go.Proofs.Ytndnhnekhlifjaa
/- THE CELL 'sum', in the pinned program and in every row, IS THE sha256 OF THE DUMP (.gsa) THAT YtndnhnekhlifjaaProg.lean LOADS. Nothing in Lean hashes anything: it is a label: what it is worth is what the hold of that sum in a sandbox is worth. -/
noncomputable def Try.pinned : Pinned := { name := "ytndnhnekhlifjaa", sum := "e79a0d73e6df6c6545e3e74de462b98a74726098654e205f6b8ec39946d17eac", checked := Try.checked }
namespace Rows
def none {H : Type} : Left H := { results := [], args := [] }

/-- 'laws.FnSwapBuffersTwice': WHATEVER THE INPUT: true; the input reads as it did. -/
def fnSwapBuffersTwiceSpec : ChangeSpec := { name := "fnSwapBuffersTwice", fn := fun _ => fun
  | [d] => { results := [.lit (.bool true)], args := [d] }
  | _ => none }
def fnSwapBuffersTwiceRow : OpenClaim := { program := "ytndnhnekhlifjaa", sum := "e79a0d73e6df6c6545e3e74de462b98a74726098654e205f6b8ec39946d17eac", func := "loop.example/flexlayout/laws.FnSwapBuffersTwice", spec := "fnSwapBuffersTwice", unfollowed := true, recurses := true, apart := false }
def FnSwapBuffersTwiceSaid : Prop := fnSwapBuffersTwiceRow.holds Try.pinned (OpenSpec.ofChange fnSwapBuffersTwiceSpec)

/-- ITS FALSE NEIGHBOUR: 'it returns false'. Refute it at one input. -/
def fnSwapBuffersTwiceWrong : ChangeSpec := { name := "fnSwapBuffersTwice", fn := fun _ => fun
  | [d] => { results := [.lit (.bool false)], args := [d] }
  | _ => none }
def FnSwapBuffersTwiceWrongFalsely : Prop := fnSwapBuffersTwiceRow.holds Try.pinned (OpenSpec.ofChange fnSwapBuffersTwiceWrong)

/-- 'laws.FnDropBackSwap': WHATEVER THE INPUT: true; the input reads as it did. -/
def fnDropBackSwapSpec : ChangeSpec := { name := "fnDropBackSwap", fn := fun _ => fun
  | [d] => { results := [.lit (.bool true)], args := [d] }
  | _ => none }
def fnDropBackSwapRow : OpenClaim := { program := "ytndnhnekhlifjaa", sum := "e79a0d73e6df6c6545e3e74de462b98a74726098654e205f6b8ec39946d17eac", func := "loop.example/flexlayout/laws.FnDropBackSwap", spec := "fnDropBackSwap", unfollowed := true, recurses := true, apart := false }
def FnDropBackSwapSaid : Prop := fnDropBackSwapRow.holds Try.pinned (OpenSpec.ofChange fnDropBackSwapSpec)

/-- ITS FALSE NEIGHBOUR: 'it returns false'. Refute it at one input. -/
def fnDropBackSwapWrong : ChangeSpec := { name := "fnDropBackSwap", fn := fun _ => fun
  | [d] => { results := [.lit (.bool false)], args := [d] }
  | _ => none }
def FnDropBackSwapWrongFalsely : Prop := fnDropBackSwapRow.holds Try.pinned (OpenSpec.ofChange fnDropBackSwapWrong)

/-- 'laws.FnDropBack': WHATEVER THE INPUT: true; the input reads as it did. -/
def fnDropBackSpec : ChangeSpec := { name := "fnDropBack", fn := fun _ => fun
  | [d] => { results := [.lit (.bool true)], args := [d] }
  | _ => none }
def fnDropBackRow : OpenClaim := { program := "ytndnhnekhlifjaa", sum := "e79a0d73e6df6c6545e3e74de462b98a74726098654e205f6b8ec39946d17eac", func := "loop.example/flexlayout/laws.FnDropBack", spec := "fnDropBack", unfollowed := true, recurses := true, apart := false }
def FnDropBackSaid : Prop := fnDropBackRow.holds Try.pinned (OpenSpec.ofChange fnDropBackSpec)

/-- ITS FALSE NEIGHBOUR: 'it returns false'. Refute it at one input. -/
def fnDropBackWrong : ChangeSpec := { name := "fnDropBack", fn := fun _ => fun
  | [d] => { results := [.lit (.bool false)], args := [d] }
  | _ => none }
def FnDropBackWrongFalsely : Prop := fnDropBackRow.holds Try.pinned (OpenSpec.ofChange fnDropBackWrong)

/-- 'laws.FnSwapBuffers': WHATEVER THE INPUT: true; the input reads as it did. -/
def fnSwapBuffersSpec : ChangeSpec := { name := "fnSwapBuffers", fn := fun _ => fun
  | [d] => { results := [.lit (.bool true)], args := [d] }
  | _ => none }
def fnSwapBuffersRow : OpenClaim := { program := "ytndnhnekhlifjaa", sum := "e79a0d73e6df6c6545e3e74de462b98a74726098654e205f6b8ec39946d17eac", func := "loop.example/flexlayout/laws.FnSwapBuffers", spec := "fnSwapBuffers", unfollowed := true, recurses := true, apart := false }
def FnSwapBuffersSaid : Prop := fnSwapBuffersRow.holds Try.pinned (OpenSpec.ofChange fnSwapBuffersSpec)

/-- ITS FALSE NEIGHBOUR: 'it returns false'. Refute it at one input. -/
def fnSwapBuffersWrong : ChangeSpec := { name := "fnSwapBuffers", fn := fun _ => fun
  | [d] => { results := [.lit (.bool false)], args := [d] }
  | _ => none }
def FnSwapBuffersWrongFalsely : Prop := fnSwapBuffersRow.holds Try.pinned (OpenSpec.ofChange fnSwapBuffersWrong)

/-- 'laws.FnExactDropBack': WHATEVER THE INPUT: true; the input reads as it did. -/
def fnExactDropBackSpec : ChangeSpec := { name := "fnExactDropBack", fn := fun _ => fun
  | [d] => { results := [.lit (.bool true)], args := [d] }
  | _ => none }
def fnExactDropBackRow : OpenClaim := { program := "ytndnhnekhlifjaa", sum := "e79a0d73e6df6c6545e3e74de462b98a74726098654e205f6b8ec39946d17eac", func := "loop.example/flexlayout/laws.FnExactDropBack", spec := "fnExactDropBack", unfollowed := true, recurses := true, apart := false }
def FnExactDropBackSaid : Prop := fnExactDropBackRow.holds Try.pinned (OpenSpec.ofChange fnExactDropBackSpec)

/-- ITS FALSE NEIGHBOUR: 'it returns false'. Refute it at one input. -/
def fnExactDropBackWrong : ChangeSpec := { name := "fnExactDropBack", fn := fun _ => fun
  | [d] => { results := [.lit (.bool false)], args := [d] }
  | _ => none }
def FnExactDropBackWrongFalsely : Prop := fnExactDropBackRow.holds Try.pinned (OpenSpec.ofChange fnExactDropBackWrong)

/-- 'laws.FnExactSwapBuffers': WHATEVER THE INPUT: true; the input reads as it did. -/
def fnExactSwapBuffersSpec : ChangeSpec := { name := "fnExactSwapBuffers", fn := fun _ => fun
  | [d] => { results := [.lit (.bool true)], args := [d] }
  | _ => none }
def fnExactSwapBuffersRow : OpenClaim := { program := "ytndnhnekhlifjaa", sum := "e79a0d73e6df6c6545e3e74de462b98a74726098654e205f6b8ec39946d17eac", func := "loop.example/flexlayout/laws.FnExactSwapBuffers", spec := "fnExactSwapBuffers", unfollowed := true, recurses := true, apart := false }
def FnExactSwapBuffersSaid : Prop := fnExactSwapBuffersRow.holds Try.pinned (OpenSpec.ofChange fnExactSwapBuffersSpec)

/-- ITS FALSE NEIGHBOUR: 'it returns false'. Refute it at one input. -/
def fnExactSwapBuffersWrong : ChangeSpec := { name := "fnExactSwapBuffers", fn := fun _ => fun
  | [d] => { results := [.lit (.bool false)], args := [d] }
  | _ => none }
def FnExactSwapBuffersWrongFalsely : Prop := fnExactSwapBuffersRow.holds Try.pinned (OpenSpec.ofChange fnExactSwapBuffersWrong)

/- THE SECOND FORM. 'bulk': how many values and letters a reading holds, each counted each time it is reached (what is shared counts as often as it is met; a slice's spare places count too). A statement '..UptoSaid' is the law's where the arguments, and the package variables that the reading takes, are together of bulk at most 1048576: NARROWER than '..Said'. Prove '..Said' where nothing that the law and all that it calls make is longer than what came in: it says more and counts as full. Else prove '..UptoSaid'. A law counts once. -/
mutual
def uptoBulk {H : Type} : DataW H → Nat
  | .lit (.string bytes) => bytes.length + 1
  | .lit _ => 1
  | .nil => 1
  | .ptr d => uptoBulk d + 1
  | .slice elems spare => uptoBulkAll elems + uptoBulkAll spare + 1
  | .agg parts => uptoBulkAll parts + 1
  | .iface _ d => uptoBulk d + 1
  | .map entries => uptoBulkEntries entries + 1
  | .held _ => 1
def uptoBulkAll {H : Type} : List (DataW H) → Nat
  | [] => 0
  | d :: r => uptoBulk d + uptoBulkAll r
def uptoBulkEntries {H : Type} : List (Lit × DataW H) → Nat
  | [] => 0
  | x :: r => uptoBulkEntry x + uptoBulkEntries r
def uptoBulkEntry {H : Type} : Lit × DataW H → Nat
  | (.string bytes, d) => bytes.length + uptoBulk d + 1
  | (_, d) => uptoBulk d + 1
 end
def uptoSmall : (H : Type) → List (DataW H) → Bool := fun _ ds => decide (uptoBulkAll ds ≤ 1048576)
def OpenSpec.upto (s : _root_.Go.ChangeSpec) : _root_.Go.OpenSpec := { _root_.Go.OpenSpec.ofChange s with cond := some uptoSmall }

/-- 'laws.FnSwapBuffersTwice', WHERE WHAT IT READS IS OF BULK AT MOST 1048576: true; the input reads as it did. -/
def fnSwapBuffersTwiceUptoRow : OpenClaim := { program := "ytndnhnekhlifjaa", sum := "e79a0d73e6df6c6545e3e74de462b98a74726098654e205f6b8ec39946d17eac", func := "loop.example/flexlayout/laws.FnSwapBuffersTwice", spec := "fnSwapBuffersTwice", unfollowed := true, recurses := true, apart := false, narrowed := true }
def FnSwapBuffersTwiceUptoSaid : Prop := fnSwapBuffersTwiceUptoRow.holds Try.pinned (OpenSpec.upto fnSwapBuffersTwiceSpec)

/-- 'laws.FnDropBackSwap', WHERE WHAT IT READS IS OF BULK AT MOST 1048576: true; the input reads as it did. -/
def fnDropBackSwapUptoRow : OpenClaim := { program := "ytndnhnekhlifjaa", sum := "e79a0d73e6df6c6545e3e74de462b98a74726098654e205f6b8ec39946d17eac", func := "loop.example/flexlayout/laws.FnDropBackSwap", spec := "fnDropBackSwap", unfollowed := true, recurses := true, apart := false, narrowed := true }
def FnDropBackSwapUptoSaid : Prop := fnDropBackSwapUptoRow.holds Try.pinned (OpenSpec.upto fnDropBackSwapSpec)

/-- 'laws.FnDropBack', WHERE WHAT IT READS IS OF BULK AT MOST 1048576: true; the input reads as it did. -/
def fnDropBackUptoRow : OpenClaim := { program := "ytndnhnekhlifjaa", sum := "e79a0d73e6df6c6545e3e74de462b98a74726098654e205f6b8ec39946d17eac", func := "loop.example/flexlayout/laws.FnDropBack", spec := "fnDropBack", unfollowed := true, recurses := true, apart := false, narrowed := true }
def FnDropBackUptoSaid : Prop := fnDropBackUptoRow.holds Try.pinned (OpenSpec.upto fnDropBackSpec)

/-- 'laws.FnSwapBuffers', WHERE WHAT IT READS IS OF BULK AT MOST 1048576: true; the input reads as it did. -/
def fnSwapBuffersUptoRow : OpenClaim := { program := "ytndnhnekhlifjaa", sum := "e79a0d73e6df6c6545e3e74de462b98a74726098654e205f6b8ec39946d17eac", func := "loop.example/flexlayout/laws.FnSwapBuffers", spec := "fnSwapBuffers", unfollowed := true, recurses := true, apart := false, narrowed := true }
def FnSwapBuffersUptoSaid : Prop := fnSwapBuffersUptoRow.holds Try.pinned (OpenSpec.upto fnSwapBuffersSpec)

/-- 'laws.FnExactDropBack', WHERE WHAT IT READS IS OF BULK AT MOST 1048576: true; the input reads as it did. -/
def fnExactDropBackUptoRow : OpenClaim := { program := "ytndnhnekhlifjaa", sum := "e79a0d73e6df6c6545e3e74de462b98a74726098654e205f6b8ec39946d17eac", func := "loop.example/flexlayout/laws.FnExactDropBack", spec := "fnExactDropBack", unfollowed := true, recurses := true, apart := false, narrowed := true }
def FnExactDropBackUptoSaid : Prop := fnExactDropBackUptoRow.holds Try.pinned (OpenSpec.upto fnExactDropBackSpec)

/-- 'laws.FnExactSwapBuffers', WHERE WHAT IT READS IS OF BULK AT MOST 1048576: true; the input reads as it did. -/
def fnExactSwapBuffersUptoRow : OpenClaim := { program := "ytndnhnekhlifjaa", sum := "e79a0d73e6df6c6545e3e74de462b98a74726098654e205f6b8ec39946d17eac", func := "loop.example/flexlayout/laws.FnExactSwapBuffers", spec := "fnExactSwapBuffers", unfollowed := true, recurses := true, apart := false, narrowed := true }
def FnExactSwapBuffersUptoSaid : Prop := fnExactSwapBuffersUptoRow.holds Try.pinned (OpenSpec.upto fnExactSwapBuffersSpec)

end Rows
end Go.Proofs.Ytndnhnekhlifjaa
