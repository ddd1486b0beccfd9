/- Exact laws of buffers: the walks. Conditions: none. -/
import Derived.Test.YtmipeegfeglljaaLawBufE
namespace Go.Proofs.Ytmipeegfeglljaa
open Go.RowKit
set_option linter.unusedVariables false
theorem dropS_len (xs ys : List Int) (v : Int) : (dropS xs ys v).xs.length ≤ 16 ∧ (dropS xs ys v).ys.length ≤ 16 := by
  unfold dropS; split
  · rename_i h; have := validB_iff.1 h; simp only; omega
  · simp [noAns]
theorem swapS_len (xs ys : List Int) (v : Int) : (swapS xs ys v).xs.length ≤ 16 ∧ (swapS xs ys v).ys.length ≤ 16 := by
  unfold swapS; split
  · rename_i h; have := validB_iff.1 h.1; simp only; omega
  · simp [noAns]
theorem writeS_len (xs ys : List Int) (v i x : Int) : (writeS xs ys v i x).xs.length ≤ 16 ∧ (writeS xs ys v i x).ys.length ≤ 16 := by
  unfold writeS; split
  · rename_i h; rw [Bool.and_eq_true] at h; have := validB_iff.1 h.1.1; simp only [List.length_set]; omega
  · simp [noAns]



end Go.Proofs.Ytmipeegfeglljaa
