/- The drawn laws of SwapBuffers and DropBack. Conditions: none. -/
import Derived.Test.YtmipeegfeglljaaLawBufV
namespace Go.Proofs.Ytmipeegfeglljaa
open Go.RowKit
set_option linter.unusedVariables false
theorem validB_twice' {xs ys : List Int} {v : Int} (h : validB xs ys v = true) : validB xs xs v = true := by
  rw [validB_iff] at h ⊢
  exact ⟨h.1, rfl, h.2.2.1, h.2.2.1, h.2.2.2.2⟩
theorem TwoNew.buf' {xs ys : List Int} {w w' : World} {A B : Option Addr} {n c m d : Nat} (h : TwoNew xs ys w w' A n c B m d) (hx : xs.length ≤ 16) (hy : ys.length ≤ 16) : Buf w' w'.heap.size A n c B m d xs ys := by
  obtain ⟨a1, a2, b1, b2, hb, mid, m1, m2, rA, rB⟩ := h
  have h1 := rA.1
  have h2 := rB.1
  exact ⟨(rA.mono (Nat.le_refl _) m2).ints, (rB.mono m1 (Nat.le_refl _)).ints, by omega, by omega, a1, b1⟩
theorem pendTo_self (xs : List Int) : ∀ k, pendTo xs xs k = []
  | 0 => rfl
  | k + 1 => by simp [pendTo, pendTo_self xs k]
theorem pendS_self (xs : List Int) (v : Int) : pendS xs xs v = [] := by simp [pendS, pendTo_self]

end Go.Proofs.Ytmipeegfeglljaa
