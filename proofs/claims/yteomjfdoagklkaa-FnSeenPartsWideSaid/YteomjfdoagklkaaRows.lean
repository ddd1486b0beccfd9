/-
  No cell of these rows narrows 'for every input' (looked for: loops, veiled, ifaces, maps, wideKeys, modest, calm, conditions, laid).
  DERIVED. THE GIVEN ROWS OF THIS SEAT. 13 by the template 'for every input the law returns true; each argument reads behind the call as it read before'; 0 by the template 'total and deterministic' (their statements: YteomjfdoagklkaaTotals.lean).
  GIVEN WITH THE SEED: the statements are not yours to turn. If you find one false, say at which input.
  Laid BY PROGRAM, IN A SANDBOX (cutbox-rows.mjs): the forced cells as the released guide's own fill.sh prints them over the translation d356951e6cbafa80… (all of the seat's roots in one cut). By AI agents, Wed Nov 11 2026. No macro, syntax, notation, axiom, sorry.
-/
import Derived.Test.YteomjfdoagklkaaChecked
import GoSem.Claim
import GoSem.ClaimJoined
import GoSem.ClaimMapViews
import Derived.JoinedTies
import Derived.KernelRfl
namespace Go.Proofs.Yteomjfdoagklkaa
/- THE CELL 'sum', in the pinned program and in every row, IS THE sha256 OF THE DUMP (.gsa) THAT YteomjfdoagklkaaProg.lean LOADS. Nothing in Lean hashes anything: it is a label: what it is worth is what the hold of that sum in a sandbox is worth. -/
noncomputable def Try.pinned : Pinned := { name := "yteomjfdoagklkaa", sum := "d356951e6cbafa805a1ef9fac2844d4deb6eba741fdebd1ffaa8a1c2c56acd3c", checked := Try.checked }
namespace Rows
def none {H : Type} : Left H := { results := [], args := [] }

/-- 'laws.FnExactClampScroll': WHATEVER THE INPUT: true; the input reads as it did. -/
def fnExactClampScrollSpec : ChangeSpec := { name := "fnExactClampScroll", fn := fun _ => fun
  | [d1, d2, d3] => { results := [.lit (.bool true)], args := [d1, d2, d3] }
  | _ => none }
def fnExactClampScrollRow : OpenClaim := { program := "yteomjfdoagklkaa", sum := "d356951e6cbafa805a1ef9fac2844d4deb6eba741fdebd1ffaa8a1c2c56acd3c", func := "loop.example/flexlayout/laws.FnExactClampScroll", spec := "fnExactClampScroll", apart := false }
def FnExactClampScrollSaid : Prop := fnExactClampScrollRow.holds Try.pinned (OpenSpec.ofChange fnExactClampScrollSpec)

/-- ITS FALSE NEIGHBOUR: 'it returns false'. Refute it at one input. -/
def fnExactClampScrollWrong : ChangeSpec := { name := "fnExactClampScroll", fn := fun _ => fun
  | [d1, d2, d3] => { results := [.lit (.bool false)], args := [d1, d2, d3] }
  | _ => none }
def FnExactClampScrollWrongFalsely : Prop := fnExactClampScrollRow.holds Try.pinned (OpenSpec.ofChange fnExactClampScrollWrong)

/-- 'laws.FnExactScrollInto': WHATEVER THE INPUT: true; the input reads as it did. -/
def fnExactScrollIntoSpec : ChangeSpec := { name := "fnExactScrollInto", fn := fun _ => fun
  | [d1, d2, d3, d4, d5] => { results := [.lit (.bool true)], args := [d1, d2, d3, d4, d5] }
  | _ => none }
def fnExactScrollIntoRow : OpenClaim := { program := "yteomjfdoagklkaa", sum := "d356951e6cbafa805a1ef9fac2844d4deb6eba741fdebd1ffaa8a1c2c56acd3c", func := "loop.example/flexlayout/laws.FnExactScrollInto", spec := "fnExactScrollInto", apart := false }
def FnExactScrollIntoSaid : Prop := fnExactScrollIntoRow.holds Try.pinned (OpenSpec.ofChange fnExactScrollIntoSpec)

/-- ITS FALSE NEIGHBOUR: 'it returns false'. Refute it at one input. -/
def fnExactScrollIntoWrong : ChangeSpec := { name := "fnExactScrollInto", fn := fun _ => fun
  | [d1, d2, d3, d4, d5] => { results := [.lit (.bool false)], args := [d1, d2, d3, d4, d5] }
  | _ => none }
def FnExactScrollIntoWrongFalsely : Prop := fnExactScrollIntoRow.holds Try.pinned (OpenSpec.ofChange fnExactScrollIntoWrong)

/-- 'laws.FnClampScroll': WHATEVER THE INPUT: true; the input reads as it did. -/
def fnClampScrollSpec : ChangeSpec := { name := "fnClampScroll", fn := fun _ => fun
  | [d] => { results := [.lit (.bool true)], args := [d] }
  | _ => none }
def fnClampScrollRow : OpenClaim := { program := "yteomjfdoagklkaa", sum := "d356951e6cbafa805a1ef9fac2844d4deb6eba741fdebd1ffaa8a1c2c56acd3c", func := "loop.example/flexlayout/laws.FnClampScroll", spec := "fnClampScroll", apart := false }
def FnClampScrollSaid : Prop := fnClampScrollRow.holds Try.pinned (OpenSpec.ofChange fnClampScrollSpec)

/-- ITS FALSE NEIGHBOUR: 'it returns false'. Refute it at one input. -/
def fnClampScrollWrong : ChangeSpec := { name := "fnClampScroll", fn := fun _ => fun
  | [d] => { results := [.lit (.bool false)], args := [d] }
  | _ => none }
def FnClampScrollWrongFalsely : Prop := fnClampScrollRow.holds Try.pinned (OpenSpec.ofChange fnClampScrollWrong)

/-- 'laws.FnClampScrollEnds': WHATEVER THE INPUT: true; the input reads as it did. -/
def fnClampScrollEndsSpec : ChangeSpec := { name := "fnClampScrollEnds", fn := fun _ => fun
  | [d] => { results := [.lit (.bool true)], args := [d] }
  | _ => none }
def fnClampScrollEndsRow : OpenClaim := { program := "yteomjfdoagklkaa", sum := "d356951e6cbafa805a1ef9fac2844d4deb6eba741fdebd1ffaa8a1c2c56acd3c", func := "loop.example/flexlayout/laws.FnClampScrollEnds", spec := "fnClampScrollEnds", apart := false }
def FnClampScrollEndsSaid : Prop := fnClampScrollEndsRow.holds Try.pinned (OpenSpec.ofChange fnClampScrollEndsSpec)

/-- ITS FALSE NEIGHBOUR: 'it returns false'. Refute it at one input. -/
def fnClampScrollEndsWrong : ChangeSpec := { name := "fnClampScrollEnds", fn := fun _ => fun
  | [d] => { results := [.lit (.bool false)], args := [d] }
  | _ => none }
def FnClampScrollEndsWrongFalsely : Prop := fnClampScrollEndsRow.holds Try.pinned (OpenSpec.ofChange fnClampScrollEndsWrong)

/-- 'laws.FnClampScrollMore': WHATEVER THE INPUT: true; the input reads as it did. -/
def fnClampScrollMoreSpec : ChangeSpec := { name := "fnClampScrollMore", fn := fun _ => fun
  | [d] => { results := [.lit (.bool true)], args := [d] }
  | _ => none }
def fnClampScrollMoreRow : OpenClaim := { program := "yteomjfdoagklkaa", sum := "d356951e6cbafa805a1ef9fac2844d4deb6eba741fdebd1ffaa8a1c2c56acd3c", func := "loop.example/flexlayout/laws.FnClampScrollMore", spec := "fnClampScrollMore", apart := false }
def FnClampScrollMoreSaid : Prop := fnClampScrollMoreRow.holds Try.pinned (OpenSpec.ofChange fnClampScrollMoreSpec)

/-- ITS FALSE NEIGHBOUR: 'it returns false'. Refute it at one input. -/
def fnClampScrollMoreWrong : ChangeSpec := { name := "fnClampScrollMore", fn := fun _ => fun
  | [d] => { results := [.lit (.bool false)], args := [d] }
  | _ => none }
def FnClampScrollMoreWrongFalsely : Prop := fnClampScrollMoreRow.holds Try.pinned (OpenSpec.ofChange fnClampScrollMoreWrong)

/-- 'laws.FnScrollIntoLeast': WHATEVER THE INPUT: true; the input reads as it did. -/
def fnScrollIntoLeastSpec : ChangeSpec := { name := "fnScrollIntoLeast", fn := fun _ => fun
  | [d] => { results := [.lit (.bool true)], args := [d] }
  | _ => none }
def fnScrollIntoLeastRow : OpenClaim := { program := "yteomjfdoagklkaa", sum := "d356951e6cbafa805a1ef9fac2844d4deb6eba741fdebd1ffaa8a1c2c56acd3c", func := "loop.example/flexlayout/laws.FnScrollIntoLeast", spec := "fnScrollIntoLeast", apart := false }
def FnScrollIntoLeastSaid : Prop := fnScrollIntoLeastRow.holds Try.pinned (OpenSpec.ofChange fnScrollIntoLeastSpec)

/-- ITS FALSE NEIGHBOUR: 'it returns false'. Refute it at one input. -/
def fnScrollIntoLeastWrong : ChangeSpec := { name := "fnScrollIntoLeast", fn := fun _ => fun
  | [d] => { results := [.lit (.bool false)], args := [d] }
  | _ => none }
def FnScrollIntoLeastWrongFalsely : Prop := fnScrollIntoLeastRow.holds Try.pinned (OpenSpec.ofChange fnScrollIntoLeastWrong)

/-- 'laws.FnScrollIntoPoint': WHATEVER THE INPUT: true; the input reads as it did. -/
def fnScrollIntoPointSpec : ChangeSpec := { name := "fnScrollIntoPoint", fn := fun _ => fun
  | [d] => { results := [.lit (.bool true)], args := [d] }
  | _ => none }
def fnScrollIntoPointRow : OpenClaim := { program := "yteomjfdoagklkaa", sum := "d356951e6cbafa805a1ef9fac2844d4deb6eba741fdebd1ffaa8a1c2c56acd3c", func := "loop.example/flexlayout/laws.FnScrollIntoPoint", spec := "fnScrollIntoPoint", apart := false }
def FnScrollIntoPointSaid : Prop := fnScrollIntoPointRow.holds Try.pinned (OpenSpec.ofChange fnScrollIntoPointSpec)

/-- ITS FALSE NEIGHBOUR: 'it returns false'. Refute it at one input. -/
def fnScrollIntoPointWrong : ChangeSpec := { name := "fnScrollIntoPoint", fn := fun _ => fun
  | [d] => { results := [.lit (.bool false)], args := [d] }
  | _ => none }
def FnScrollIntoPointWrongFalsely : Prop := fnScrollIntoPointRow.holds Try.pinned (OpenSpec.ofChange fnScrollIntoPointWrong)

/-- 'laws.FnScrollIntoStay': WHATEVER THE INPUT: true; the input reads as it did. -/
def fnScrollIntoStaySpec : ChangeSpec := { name := "fnScrollIntoStay", fn := fun _ => fun
  | [d] => { results := [.lit (.bool true)], args := [d] }
  | _ => none }
def fnScrollIntoStayRow : OpenClaim := { program := "yteomjfdoagklkaa", sum := "d356951e6cbafa805a1ef9fac2844d4deb6eba741fdebd1ffaa8a1c2c56acd3c", func := "loop.example/flexlayout/laws.FnScrollIntoStay", spec := "fnScrollIntoStay", apart := false }
def FnScrollIntoStaySaid : Prop := fnScrollIntoStayRow.holds Try.pinned (OpenSpec.ofChange fnScrollIntoStaySpec)

/-- ITS FALSE NEIGHBOUR: 'it returns false'. Refute it at one input. -/
def fnScrollIntoStayWrong : ChangeSpec := { name := "fnScrollIntoStay", fn := fun _ => fun
  | [d] => { results := [.lit (.bool false)], args := [d] }
  | _ => none }
def FnScrollIntoStayWrongFalsely : Prop := fnScrollIntoStayRow.holds Try.pinned (OpenSpec.ofChange fnScrollIntoStayWrong)

/-- 'laws.FnScrollInto': WHATEVER THE INPUT: true; the input reads as it did. -/
def fnScrollIntoSpec : ChangeSpec := { name := "fnScrollInto", fn := fun _ => fun
  | [d] => { results := [.lit (.bool true)], args := [d] }
  | _ => none }
def fnScrollIntoRow : OpenClaim := { program := "yteomjfdoagklkaa", sum := "d356951e6cbafa805a1ef9fac2844d4deb6eba741fdebd1ffaa8a1c2c56acd3c", func := "loop.example/flexlayout/laws.FnScrollInto", spec := "fnScrollInto", apart := false }
def FnScrollIntoSaid : Prop := fnScrollIntoRow.holds Try.pinned (OpenSpec.ofChange fnScrollIntoSpec)

/-- ITS FALSE NEIGHBOUR: 'it returns false'. Refute it at one input. -/
def fnScrollIntoWrong : ChangeSpec := { name := "fnScrollInto", fn := fun _ => fun
  | [d] => { results := [.lit (.bool false)], args := [d] }
  | _ => none }
def FnScrollIntoWrongFalsely : Prop := fnScrollIntoRow.holds Try.pinned (OpenSpec.ofChange fnScrollIntoWrong)

/-- 'laws.FnExactSeenParts': WHATEVER THE INPUT: true; the input reads as it did. -/
def fnExactSeenPartsSpec : ChangeSpec := { name := "fnExactSeenParts", fn := fun _ => fun
  | [d1, d2, d3] => { results := [.lit (.bool true)], args := [d1, d2, d3] }
  | _ => none }
def fnExactSeenPartsRow : OpenClaim := { program := "yteomjfdoagklkaa", sum := "d356951e6cbafa805a1ef9fac2844d4deb6eba741fdebd1ffaa8a1c2c56acd3c", func := "loop.example/flexlayout/laws.FnExactSeenParts", spec := "fnExactSeenParts", unfollowed := true, recurses := true, apart := false }
def FnExactSeenPartsSaid : Prop := fnExactSeenPartsRow.holds Try.pinned (OpenSpec.ofChange fnExactSeenPartsSpec)

/-- ITS FALSE NEIGHBOUR: 'it returns false'. Refute it at one input. -/
def fnExactSeenPartsWrong : ChangeSpec := { name := "fnExactSeenParts", fn := fun _ => fun
  | [d1, d2, d3] => { results := [.lit (.bool false)], args := [d1, d2, d3] }
  | _ => none }
def FnExactSeenPartsWrongFalsely : Prop := fnExactSeenPartsRow.holds Try.pinned (OpenSpec.ofChange fnExactSeenPartsWrong)

/-- 'laws.FnSeenPartsAll': WHATEVER THE INPUT: true; the input reads as it did. -/
def fnSeenPartsAllSpec : ChangeSpec := { name := "fnSeenPartsAll", fn := fun _ => fun
  | [d] => { results := [.lit (.bool true)], args := [d] }
  | _ => none }
def fnSeenPartsAllRow : OpenClaim := { program := "yteomjfdoagklkaa", sum := "d356951e6cbafa805a1ef9fac2844d4deb6eba741fdebd1ffaa8a1c2c56acd3c", func := "loop.example/flexlayout/laws.FnSeenPartsAll", spec := "fnSeenPartsAll", unfollowed := true, recurses := true, apart := false }
def FnSeenPartsAllSaid : Prop := fnSeenPartsAllRow.holds Try.pinned (OpenSpec.ofChange fnSeenPartsAllSpec)

/-- ITS FALSE NEIGHBOUR: 'it returns false'. Refute it at one input. -/
def fnSeenPartsAllWrong : ChangeSpec := { name := "fnSeenPartsAll", fn := fun _ => fun
  | [d] => { results := [.lit (.bool false)], args := [d] }
  | _ => none }
def FnSeenPartsAllWrongFalsely : Prop := fnSeenPartsAllRow.holds Try.pinned (OpenSpec.ofChange fnSeenPartsAllWrong)

/-- 'laws.FnSeenParts': WHATEVER THE INPUT: true; the input reads as it did. -/
def fnSeenPartsSpec : ChangeSpec := { name := "fnSeenParts", fn := fun _ => fun
  | [d] => { results := [.lit (.bool true)], args := [d] }
  | _ => none }
def fnSeenPartsRow : OpenClaim := { program := "yteomjfdoagklkaa", sum := "d356951e6cbafa805a1ef9fac2844d4deb6eba741fdebd1ffaa8a1c2c56acd3c", func := "loop.example/flexlayout/laws.FnSeenParts", spec := "fnSeenParts", unfollowed := true, recurses := true, apart := false }
def FnSeenPartsSaid : Prop := fnSeenPartsRow.holds Try.pinned (OpenSpec.ofChange fnSeenPartsSpec)

/-- ITS FALSE NEIGHBOUR: 'it returns false'. Refute it at one input. -/
def fnSeenPartsWrong : ChangeSpec := { name := "fnSeenParts", fn := fun _ => fun
  | [d] => { results := [.lit (.bool false)], args := [d] }
  | _ => none }
def FnSeenPartsWrongFalsely : Prop := fnSeenPartsRow.holds Try.pinned (OpenSpec.ofChange fnSeenPartsWrong)

/-- 'laws.FnSeenPartsWide': WHATEVER THE INPUT: true; the input reads as it did. -/
def fnSeenPartsWideSpec : ChangeSpec := { name := "fnSeenPartsWide", fn := fun _ => fun
  | [d] => { results := [.lit (.bool true)], args := [d] }
  | _ => none }
def fnSeenPartsWideRow : OpenClaim := { program := "yteomjfdoagklkaa", sum := "d356951e6cbafa805a1ef9fac2844d4deb6eba741fdebd1ffaa8a1c2c56acd3c", func := "loop.example/flexlayout/laws.FnSeenPartsWide", spec := "fnSeenPartsWide", unfollowed := true, recurses := true, apart := false }
def FnSeenPartsWideSaid : Prop := fnSeenPartsWideRow.holds Try.pinned (OpenSpec.ofChange fnSeenPartsWideSpec)

/-- ITS FALSE NEIGHBOUR: 'it returns false'. Refute it at one input. -/
def fnSeenPartsWideWrong : ChangeSpec := { name := "fnSeenPartsWide", fn := fun _ => fun
  | [d] => { results := [.lit (.bool false)], args := [d] }
  | _ => none }
def FnSeenPartsWideWrongFalsely : Prop := fnSeenPartsWideRow.holds Try.pinned (OpenSpec.ofChange fnSeenPartsWideWrong)

/- THE SECOND FORM. 'bulk': how many values and letters a reading holds, each counted each time it is reached (what is shared counts as often as it is met; a slice's spare places count too). A statement '..UptoSaid' is the law's where the arguments, and the package variables that the reading takes, are together of bulk at most 1048576: NARROWER than '..Said'. Prove '..Said' where nothing that the law and all that it calls make is longer than what came in: it says more and counts as full. Else prove '..UptoSaid'. A law counts once. -/
mutual
def uptoBulk {H : Type} : DataW H → Nat
  | .lit (.string bytes) => bytes.length + 1
  | .lit _ => 1
  | .nil => 1
  | .ptr d => uptoBulk d + 1
  | .slice elems spare => uptoBulkAll elems + uptoBulkAll spare + 1
  | .agg parts => uptoBulkAll parts + 1
  | .iface _ d => uptoBulk d + 1
  | .map entries => uptoBulkEntries entries + 1
  | .held _ => 1
def uptoBulkAll {H : Type} : List (DataW H) → Nat
  | [] => 0
  | d :: r => uptoBulk d + uptoBulkAll r
def uptoBulkEntries {H : Type} : List (Lit × DataW H) → Nat
  | [] => 0
  | x :: r => uptoBulkEntry x + uptoBulkEntries r
def uptoBulkEntry {H : Type} : Lit × DataW H → Nat
  | (.string bytes, d) => bytes.length + uptoBulk d + 1
  | (_, d) => uptoBulk d + 1
 end
def uptoSmall : (H : Type) → List (DataW H) → Bool := fun _ ds => decide (uptoBulkAll ds ≤ 1048576)
def OpenSpec.upto (s : _root_.Go.ChangeSpec) : _root_.Go.OpenSpec := { _root_.Go.OpenSpec.ofChange s with cond := some uptoSmall }

/-- 'laws.FnExactClampScroll', WHERE WHAT IT READS IS OF BULK AT MOST 1048576: true; the input reads as it did. -/
def fnExactClampScrollUptoRow : OpenClaim := { program := "yteomjfdoagklkaa", sum := "d356951e6cbafa805a1ef9fac2844d4deb6eba741fdebd1ffaa8a1c2c56acd3c", func := "loop.example/flexlayout/laws.FnExactClampScroll", spec := "fnExactClampScroll", apart := false, narrowed := true }
def FnExactClampScrollUptoSaid : Prop := fnExactClampScrollUptoRow.holds Try.pinned (OpenSpec.upto fnExactClampScrollSpec)

/-- 'laws.FnExactScrollInto', WHERE WHAT IT READS IS OF BULK AT MOST 1048576: true; the input reads as it did. -/
def fnExactScrollIntoUptoRow : OpenClaim := { program := "yteomjfdoagklkaa", sum := "d356951e6cbafa805a1ef9fac2844d4deb6eba741fdebd1ffaa8a1c2c56acd3c", func := "loop.example/flexlayout/laws.FnExactScrollInto", spec := "fnExactScrollInto", apart := false, narrowed := true }
def FnExactScrollIntoUptoSaid : Prop := fnExactScrollIntoUptoRow.holds Try.pinned (OpenSpec.upto fnExactScrollIntoSpec)

/-- 'laws.FnClampScroll', WHERE WHAT IT READS IS OF BULK AT MOST 1048576: true; the input reads as it did. -/
def fnClampScrollUptoRow : OpenClaim := { program := "yteomjfdoagklkaa", sum := "d356951e6cbafa805a1ef9fac2844d4deb6eba741fdebd1ffaa8a1c2c56acd3c", func := "loop.example/flexlayout/laws.FnClampScroll", spec := "fnClampScroll", apart := false, narrowed := true }
def FnClampScrollUptoSaid : Prop := fnClampScrollUptoRow.holds Try.pinned (OpenSpec.upto fnClampScrollSpec)

/-- 'laws.FnClampScrollEnds', WHERE WHAT IT READS IS OF BULK AT MOST 1048576: true; the input reads as it did. -/
def fnClampScrollEndsUptoRow : OpenClaim := { program := "yteomjfdoagklkaa", sum := "d356951e6cbafa805a1ef9fac2844d4deb6eba741fdebd1ffaa8a1c2c56acd3c", func := "loop.example/flexlayout/laws.FnClampScrollEnds", spec := "fnClampScrollEnds", apart := false, narrowed := true }
def FnClampScrollEndsUptoSaid : Prop := fnClampScrollEndsUptoRow.holds Try.pinned (OpenSpec.upto fnClampScrollEndsSpec)

/-- 'laws.FnClampScrollMore', WHERE WHAT IT READS IS OF BULK AT MOST 1048576: true; the input reads as it did. -/
def fnClampScrollMoreUptoRow : OpenClaim := { program := "yteomjfdoagklkaa", sum := "d356951e6cbafa805a1ef9fac2844d4deb6eba741fdebd1ffaa8a1c2c56acd3c", func := "loop.example/flexlayout/laws.FnClampScrollMore", spec := "fnClampScrollMore", apart := false, narrowed := true }
def FnClampScrollMoreUptoSaid : Prop := fnClampScrollMoreUptoRow.holds Try.pinned (OpenSpec.upto fnClampScrollMoreSpec)

/-- 'laws.FnScrollIntoLeast', WHERE WHAT IT READS IS OF BULK AT MOST 1048576: true; the input reads as it did. -/
def fnScrollIntoLeastUptoRow : OpenClaim := { program := "yteomjfdoagklkaa", sum := "d356951e6cbafa805a1ef9fac2844d4deb6eba741fdebd1ffaa8a1c2c56acd3c", func := "loop.example/flexlayout/laws.FnScrollIntoLeast", spec := "fnScrollIntoLeast", apart := false, narrowed := true }
def FnScrollIntoLeastUptoSaid : Prop := fnScrollIntoLeastUptoRow.holds Try.pinned (OpenSpec.upto fnScrollIntoLeastSpec)

/-- 'laws.FnScrollIntoPoint', WHERE WHAT IT READS IS OF BULK AT MOST 1048576: true; the input reads as it did. -/
def fnScrollIntoPointUptoRow : OpenClaim := { program := "yteomjfdoagklkaa", sum := "d356951e6cbafa805a1ef9fac2844d4deb6eba741fdebd1ffaa8a1c2c56acd3c", func := "loop.example/flexlayout/laws.FnScrollIntoPoint", spec := "fnScrollIntoPoint", apart := false, narrowed := true }
def FnScrollIntoPointUptoSaid : Prop := fnScrollIntoPointUptoRow.holds Try.pinned (OpenSpec.upto fnScrollIntoPointSpec)

/-- 'laws.FnScrollIntoStay', WHERE WHAT IT READS IS OF BULK AT MOST 1048576: true; the input reads as it did. -/
def fnScrollIntoStayUptoRow : OpenClaim := { program := "yteomjfdoagklkaa", sum := "d356951e6cbafa805a1ef9fac2844d4deb6eba741fdebd1ffaa8a1c2c56acd3c", func := "loop.example/flexlayout/laws.FnScrollIntoStay", spec := "fnScrollIntoStay", apart := false, narrowed := true }
def FnScrollIntoStayUptoSaid : Prop := fnScrollIntoStayUptoRow.holds Try.pinned (OpenSpec.upto fnScrollIntoStaySpec)

/-- 'laws.FnScrollInto', WHERE WHAT IT READS IS OF BULK AT MOST 1048576: true; the input reads as it did. -/
def fnScrollIntoUptoRow : OpenClaim := { program := "yteomjfdoagklkaa", sum := "d356951e6cbafa805a1ef9fac2844d4deb6eba741fdebd1ffaa8a1c2c56acd3c", func := "loop.example/flexlayout/laws.FnScrollInto", spec := "fnScrollInto", apart := false, narrowed := true }
def FnScrollIntoUptoSaid : Prop := fnScrollIntoUptoRow.holds Try.pinned (OpenSpec.upto fnScrollIntoSpec)

/-- 'laws.FnExactSeenParts', WHERE WHAT IT READS IS OF BULK AT MOST 1048576: true; the input reads as it did. -/
def fnExactSeenPartsUptoRow : OpenClaim := { program := "yteomjfdoagklkaa", sum := "d356951e6cbafa805a1ef9fac2844d4deb6eba741fdebd1ffaa8a1c2c56acd3c", func := "loop.example/flexlayout/laws.FnExactSeenParts", spec := "fnExactSeenParts", unfollowed := true, recurses := true, apart := false, narrowed := true }
def FnExactSeenPartsUptoSaid : Prop := fnExactSeenPartsUptoRow.holds Try.pinned (OpenSpec.upto fnExactSeenPartsSpec)

/-- 'laws.FnSeenPartsAll', WHERE WHAT IT READS IS OF BULK AT MOST 1048576: true; the input reads as it did. -/
def fnSeenPartsAllUptoRow : OpenClaim := { program := "yteomjfdoagklkaa", sum := "d356951e6cbafa805a1ef9fac2844d4deb6eba741fdebd1ffaa8a1c2c56acd3c", func := "loop.example/flexlayout/laws.FnSeenPartsAll", spec := "fnSeenPartsAll", unfollowed := true, recurses := true, apart := false, narrowed := true }
def FnSeenPartsAllUptoSaid : Prop := fnSeenPartsAllUptoRow.holds Try.pinned (OpenSpec.upto fnSeenPartsAllSpec)

/-- 'laws.FnSeenParts', WHERE WHAT IT READS IS OF BULK AT MOST 1048576: true; the input reads as it did. -/
def fnSeenPartsUptoRow : OpenClaim := { program := "yteomjfdoagklkaa", sum := "d356951e6cbafa805a1ef9fac2844d4deb6eba741fdebd1ffaa8a1c2c56acd3c", func := "loop.example/flexlayout/laws.FnSeenParts", spec := "fnSeenParts", unfollowed := true, recurses := true, apart := false, narrowed := true }
def FnSeenPartsUptoSaid : Prop := fnSeenPartsUptoRow.holds Try.pinned (OpenSpec.upto fnSeenPartsSpec)

/-- 'laws.FnSeenPartsWide', WHERE WHAT IT READS IS OF BULK AT MOST 1048576: true; the input reads as it did. -/
def fnSeenPartsWideUptoRow : OpenClaim := { program := "yteomjfdoagklkaa", sum := "d356951e6cbafa805a1ef9fac2844d4deb6eba741fdebd1ffaa8a1c2c56acd3c", func := "loop.example/flexlayout/laws.FnSeenPartsWide", spec := "fnSeenPartsWide", unfollowed := true, recurses := true, apart := false, narrowed := true }
def FnSeenPartsWideUptoSaid : Prop := fnSeenPartsWideUptoRow.holds Try.pinned (OpenSpec.upto fnSeenPartsWideSpec)

end Rows
end Go.Proofs.Yteomjfdoagklkaa
