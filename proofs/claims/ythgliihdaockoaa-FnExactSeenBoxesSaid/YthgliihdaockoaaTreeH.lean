/- Trees: which boxes are dirty: the reference and the program. Conditions: none. -/
import Derived.Test.YthgliihdaockoaaTreeG
namespace Go.Proofs.Ythgliihdaockoaa
open Go.RowKit
set_option linter.unusedVariables false
set_option linter.unusedSimpArgs false
/-- the numbers ahead of k that p picks -/
def pickN (p : Nat → Bool) : Nat → List Int
  | 0 => []
  | k + 1 => pickN p k ++ (if p k then [(k : Int)] else [])
theorem pickN_yes {p : Nat → Bool} {k : Nat} (h : p k = true) : pickN p (k + 1) = pickN p k ++ [(k : Int)] := by rw [pickN, if_pos h]
theorem pickN_no {p : Nat → Bool} {k : Nat} (h : p k = false) : pickN p (k + 1) = pickN p k := by rw [pickN, h]; simp
theorem pickN_len (p : Nat → Bool) (k : Nat) : (pickN p k).length ≤ k := by
  induction k with
  | zero => exact Nat.le_refl _
  | succ k ih => rw [pickN, List.length_append]; split <;> simp <;> omega
theorem pickN_mem {p : Nat → Bool} {k : Nat} {x : Int} (h : x ∈ pickN p k) : 0 ≤ x ∧ x < k := by
  induction k with
  | zero => simp [pickN] at h
  | succ k ih =>
    rw [pickN] at h
    rcases List.mem_append.1 h with h | h
    · have := ih h; omega
    · split at h
      · simp at h; omega
      · simp at h
def covB (xs ms : List Int) (i : Nat) : Bool := ms.any (fun y => arnd xs y i)
def rootB (xs ms : List Int) (i : Nat) : Bool := decide ((i : Int) ∈ ms) && !(ms.any (fun y => y != (i : Int) && arnd xs y i))
noncomputable def marksV (xs : List Int) (n : Nat) (ms : List Int) : Bool := treeV xs n && (decide (ms.length ≤ 16) && inAll ms 0 ((n : Int) - 1))
noncomputable def pickL (p : List Int → List Int → Nat → Bool) (xs : List Int) (n : Nat) (ms : List Int) : List Int := if marksV xs n ms = true then pickN (p xs ms) n else []
theorem pickL_no {p : List Int → List Int → Nat → Bool} {xs : List Int} {n : Nat} {ms : List Int} (h : marksV xs n ms = false) : pickL p xs n ms = [] := by rw [pickL, h]; rfl
theorem pickL_yes {p : List Int → List Int → Nat → Bool} {xs : List Int} {n : Nat} {ms : List Int} (h : marksV xs n ms = true) : pickL p xs n ms = pickN (p xs ms) n := by rw [pickL, if_pos h]
theorem marksV_all {xs : List Int} {n : Nat} {ms : List Int} (h : marksV xs n ms = true) : TreeP xs n ∧ ms.length ≤ 16 ∧ ∀ x ∈ ms, 0 ≤ x ∧ x ≤ (n : Int) - 1 := by
  simp only [marksV, Bool.and_eq_true, decide_eq_true_eq] at h
  exact ⟨treeV_iff.1 h.1, h.2.1, inAll_iff.1 h.2.2⟩
theorem pickL_len {p : List Int → List Int → Nat → Bool} {xs : List Int} {n : Nat} {ms : List Int} : (pickL p xs n ms).length ≤ 17 := by
  cases h : marksV xs n ms
  · rw [pickL_no h]; simp
  · rw [pickL_yes h]
    have h1 := pickN_len (p xs ms) n
    have h2 := (marksV_all h).1.hi
    omega
end Go.Proofs.Ythgliihdaockoaa
