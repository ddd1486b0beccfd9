/- The drawn laws of ValidBuffers and ReadCell. Conditions: none. -/
import Derived.Test.YtmipeegfeglljaaLawBufE2
import Derived.Test.YtmipeegfeglljaaDrawB
namespace Go.Proofs.Ytmipeegfeglljaa
open Go.RowKit
set_option linter.unusedVariables false

theorem validB_swap (xs ys : List Int) (v : Int) : validB ys xs v = validB xs ys v := by
  rw [Bool.eq_iff_iff, validB_iff, validB_iff]
  constructor
  · rintro ⟨h1, h2, h3, h4, h5⟩; exact ⟨by omega, by omega, h4, h3, h5⟩
  · rintro ⟨h1, h2, h3, h4, h5⟩; exact ⟨by omega, by omega, h4, h3, h5⟩
/-- new buffers, as what a call of the program takes -/
theorem NewB.buf {w w' : World} {n c m d : Nat} {A B : Option Addr} {xs ys : List Int} {v : Int} (h : NewB w w' A n c B m d xs ys v) : Buf w' w'.heap.size A n c B m d xs ys := by
  obtain ⟨k1, k2, k3, k4, k5, k6, k7, k8, rA, rB, hb⟩ := h
  exact ⟨rA.ints, rB.ints, by omega, by omega, k3, k5⟩

end Go.Proofs.Ytmipeegfeglljaa
