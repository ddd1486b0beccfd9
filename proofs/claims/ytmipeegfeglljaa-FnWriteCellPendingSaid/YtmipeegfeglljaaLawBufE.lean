/- Exact laws of buffers: the walks. Conditions: none. -/
import Derived.Test.YtmipeegfeglljaaBufLaw
namespace Go.Proofs.Ytmipeegfeglljaa
open Go.RowKit
set_option linter.unusedVariables false
theorem below_undrew {w w' : World} (h : Below w.drew.heap.size w.drew w') : Below w.heap.size w w' := ⟨h.os, h.tape, h.output, h.size, h.block⟩
theorem alB (w : World) (o : Obj) : Below w.heap.size w (w.alloc o) := (Below.refl _ _).alloc (Nat.le_refl _) o

end Go.Proofs.Ytmipeegfeglljaa
