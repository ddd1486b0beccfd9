/- Slices of integers: is there one of which a predicate holds; do all lie in a range; clipped. Conditions: none. -/
import Derived.Test.YthgliihdaockoaaMem
import Derived.Deep.LoopGhost
import Derived.Deep.QuietTactic
import Derived.Shelf.Abstract
namespace Go.Proofs.Ythgliihdaockoaa
open Go.RowKit
set_option linter.unusedVariables false

/-- a place, or a number below 0, as there is one -/
def Found (b : Bool) (w : World) (e : Ending) (w' : World) : Prop := ∃ i : Int, (decide (0 ≤ i) = b) ∧ e = .returned (.int .i64 i) ∧ w = w'

theorem any_take_succ {xs : List Int} {p : Int → Bool} {k : Nat} (hk : k < xs.length) : (xs.take (k + 1)).any p = ((xs.take k).any p || p (xs.getD k 0)) := by
  rw [List.take_succ_eq_append_getElem hk, List.any_append]
  simp [List.getD_eq_getElem?_getD, hk]
theorem any_hit {xs : List Int} {p : Int → Bool} {k : Nat} (hk : k < xs.length) (h : p (xs.getD k 0) = true) : xs.any p = true := by
  rw [List.any_eq_true]
  refine ⟨xs.getD k 0, ?_, h⟩
  rw [List.getD_eq_getElem?_getD, List.getElem?_eq_getElem hk]
  exact List.getElem_mem _


/-- all numbers lie in a range -/
def inAll (xs : List Int) (lo hi : Int) : Bool := xs.all fun x => inR x lo hi
theorem inAll_iff {xs : List Int} {lo hi : Int} : inAll xs lo hi = true ↔ ∀ x ∈ xs, lo ≤ x ∧ x ≤ hi := by simp [inAll, inR]
theorem inAll_any (xs : List Int) (lo hi : Int) : (!(xs.any fun x => !inR x lo hi)) = inAll xs lo hi := by
  unfold inAll
  induction xs with
  | nil => rfl
  | cons x xs ih => simp only [List.any_cons, List.all_cons, Bool.not_or, Bool.not_not, ih]


theorem all_take_succ {xs : List Int} {p : Int → Bool} {k : Nat} (hk : k < xs.length) : (xs.take (k + 1)).all p = ((xs.take k).all p && p (xs.getD k 0)) := by
  rw [List.take_succ_eq_append_getElem hk, List.all_append]
  simp [List.getD_eq_getElem?_getD, hk]
theorem all_miss {xs : List Int} {p : Int → Bool} {k : Nat} (hk : k < xs.length) (h : p (xs.getD k 0) = false) : xs.all p = false := by
  rw [List.all_eq_false]
  refine ⟨xs.getD k 0, ?_, by rw [h]; decide⟩
  rw [List.getD_eq_getElem?_getD, List.getElem?_eq_getElem hk]
  exact List.getElem_mem _


theorem clipInts_any (a : Option Addr) (n c : Nat) (w : World) (hc : n ≤ c) (hm : c ≤ maxLen) :
    Calls Try.prog 22 #[.slice a n c] w fun e w' => e = .returned (.slice a n n) ∧ w = w' := by
  unfold maxLen at hm
  go_enter Try.func22, Try.ntmps22
  go_wp2
  go_ret
  exact ⟨rfl, rfl⟩
end Go.Proofs.Ythgliihdaockoaa
