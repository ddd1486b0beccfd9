/- A stable sort of a few numbers by what a function of them tells. Conditions: none. -/
import Derived.Test.YthgliihdaockoaaShareW
namespace Go.Proofs.Ythgliihdaockoaa
open Go.RowKit
set_option linter.unusedVariables false
set_option linter.unusedSimpArgs false
/-- the row while number i is on its way down, at place j -/
def inF (r : Nat → Int) (i j q : Nat) : Nat := if q < j then (sortR r i).getD q 0 else if q = j then i else if q ≤ i then (sortR r i).getD (q - 1) 0 else q
def outF (r : Nat → Int) (i q : Nat) : Nat := if q < i then (sortR r i).getD q 0 else q
theorem inF_start (r : Nat → Int) (i q : Nat) : inF r i i q = outF r i q := by
  unfold inF outF
  by_cases h : q < i
  · rw [if_pos h, if_pos h]
  · rw [if_neg h, if_neg h]
    by_cases e : q = i
    · rw [if_pos e, e]
    · rw [if_neg e, if_neg (by omega)]
theorem inF_swap (r : Nat → Int) {i j : Nat} (hj : 0 < j) (hji : j ≤ i) (q : Nat) : (if q = j - 1 then i else if q = j then (sortR r i).getD (j - 1) 0 else inF r i j q) = inF r i (j - 1) q := by
  unfold inF
  by_cases e1 : q = j - 1
  · rw [if_pos e1, if_neg (show ¬ q < j - 1 by omega), if_pos e1]
  · rw [if_neg e1]
    by_cases e2 : q = j
    · rw [if_pos e2, if_neg (show ¬ q < j - 1 by omega), if_neg e1, if_pos (by omega), e2]
    · rw [if_neg e2, if_neg e2]
      by_cases h : q < j
      · rw [if_pos h, if_pos (show q < j - 1 by omega)]
      · rw [if_neg h, if_neg (show ¬ q < j - 1 by omega), if_neg e1]
theorem sort_mem {r : Nat → Int} {n k : Nat} (hk : k < n) : (sortR r n).getD k 0 ∈ sortR r n := by
  have h1 : k < (sortR r n).length := by rw [sortR_len]; exact hk
  rw [List.getD_eq_getElem?_getD, List.getElem?_eq_getElem h1, Option.getD_some]
  exact List.getElem_mem _
theorem sort_bef {r : Nat → Int} {n p q : Nat} (hpq : p < q) (hq : q < n) : bef r ((sortR r n).getD p 0) ((sortR r n).getD q 0) := by
  have h1 : q < (sortR r n).length := by rw [sortR_len]; exact hq
  have h2 : p < (sortR r n).length := by omega
  rw [List.getD_eq_getElem?_getD, List.getElem?_eq_getElem h2, Option.getD_some, List.getD_eq_getElem?_getD, List.getElem?_eq_getElem h1, Option.getD_some]
  exact List.pairwise_iff_getElem.1 (sortR_sorted r n) p q h2 h1 hpq
theorem ins_split {r : Nat → Int} {i j : Nat} (hji : j ≤ i) (hs : ∀ q, j ≤ q → q < i → bef r i ((sortR r i).getD q 0)) (hp : j = 0 ∨ bef r ((sortR r i).getD (j - 1) 0) i) :
    (sortR r i).take j ++ i :: (sortR r i).drop j = sortR r (i + 1) := by
  have hlen : (sortR r i).length = i := sortR_len r i
  have hd : ∀ y ∈ (sortR r i).drop j, bef r i y := fun y hy => by
    obtain ⟨q, hq, e⟩ := List.getElem_of_mem hy
    rw [List.length_drop] at hq
    have h1 := hs (j + q) (by omega) (by omega)
    rw [List.getElem_drop] at e
    rw [List.getD_eq_getElem?_getD, List.getElem?_eq_getElem (by omega), Option.getD_some, e] at h1
    exact h1
  have ht : ∀ x ∈ (sortR r i).take j, bef r x i := fun x hx => by
    obtain ⟨q, hq, e⟩ := List.getElem_of_mem hx
    rw [List.length_take] at hq
    rw [List.getElem_take] at e
    rcases hp with rfl | hp
    · omega
    · by_cases e2 : q = j - 1
      · subst e2
        rw [List.getD_eq_getElem?_getD, List.getElem?_eq_getElem (by omega), Option.getD_some, e] at hp
        exact hp
      · have h1 := sort_bef (r := r) (n := i) (p := q) (q := j - 1) (by omega) (by omega)
        rw [List.getD_eq_getElem?_getD, List.getElem?_eq_getElem (show q < (sortR r i).length by omega), Option.getD_some, e] at h1
        exact bef_trans h1 hp
  have hsr := sortR_sorted r i
  refine sorted_eq ?_ ?_
  · refine (List.perm_middle).trans ?_
    rw [List.take_append_drop, List.range_succ]
    exact (List.Perm.cons i (sortR_perm r i)).trans (List.perm_append_comm (l₁ := [i]) (l₂ := List.range i))
  · refine List.pairwise_append.2 ⟨hsr.sublist (List.take_sublist _ _), List.pairwise_cons.2 ⟨hd, hsr.sublist (List.drop_sublist _ _)⟩, fun x hx y hy => ?_⟩
    rcases List.mem_cons.1 hy with rfl | hy
    · exact ht x hx
    · exact bef_trans (ht x hx) (hd y hy)
theorem inF_end {r : Nat → Int} {i j : Nat} (hji : j ≤ i) (hs : ∀ q, j ≤ q → q < i → bef r i ((sortR r i).getD q 0)) (hp : j = 0 ∨ bef r ((sortR r i).getD (j - 1) 0) i) (q : Nat) : inF r i j q = outF r (i + 1) q := by
  have h := ins_split hji hs hp
  have hlen : (sortR r i).length = i := sortR_len r i
  unfold outF inF
  rw [← h]
  by_cases h1 : q < j
  · rw [if_pos h1, if_pos (by omega), List.getD_eq_getElem?_getD, List.getD_eq_getElem?_getD, List.getElem?_append_left (by rw [List.length_take]; omega), List.getElem?_take_of_lt h1]
  · rw [if_neg h1]
    by_cases h2 : q = j
    · subst h2
      rw [if_pos rfl, if_pos (by omega), List.getD_eq_getElem?_getD, List.getElem?_append_right (by rw [List.length_take]; omega), List.length_take]
      rw [show q - min q (sortR r i).length = 0 by omega]
      rfl
    · rw [if_neg h2]
      by_cases h3 : q ≤ i
      · rw [if_pos h3, if_pos (by omega), List.getD_eq_getElem?_getD, List.getD_eq_getElem?_getD, List.getElem?_append_right (by rw [List.length_take]; omega), List.length_take]
        rw [show q - min j (sortR r i).length = (q - 1 - j) + 1 by omega, List.getElem?_cons_succ, List.getElem?_drop, show j + (q - 1 - j) = q - 1 by omega]
      · rw [if_neg h3, if_neg (by omega)]
theorem outF_one (r : Nat → Int) (q : Nat) : outF r 1 q = q := by
  unfold outF
  by_cases h : q < 1
  · rw [if_pos h, show q = 0 by omega]
    rfl
  · rw [if_neg h]
def cmpI (x y : Int) : Int := if x < y then -1 else if y < x then 1 else 0
theorem cmpI_neg (x y : Int) : (cmpI x y < 0 ↔ x < y) ∧ -1 ≤ cmpI x y ∧ cmpI x y ≤ 1 := by
  unfold cmpI
  split
  · omega
  · split <;> omega
theorem isNaN_any (x : Int) (w : World) : Calls Try.prog 75 #[.int .i64 x] w fun e w' => e = .returned (.bool false) ∧ w = w' := by
  have h : (x != x) = false := by simp
  go_enter Try.func75, Try.ntmps75
  go_wp2
  go_ret
  exact ⟨rfl, rfl⟩
theorem compare_any (x y : Int) (w : World) : Calls Try.prog 71 #[.int .i64 x, .int .i64 y] w fun e w' => e = .returned (.int .i64 (cmpI x y)) ∧ w = w' := by
  unfold cmpI
  by_cases h1 : x < y
  · rw [if_pos h1]
    go_enter Try.func71, Try.ntmps71
    go_wp2_with (go_at_call 75; refine (isNaN_any _ _).mono ?_; rintro e w' ⟨rfl, rfl⟩)
    go_ret
    exact ⟨rfl, rfl⟩
  · rw [if_neg h1]
    by_cases h2 : y < x
    · rw [if_pos h2]
      go_enter Try.func71, Try.ntmps71
      go_wp2_with (go_at_call 75; refine (isNaN_any _ _).mono ?_; rintro e w' ⟨rfl, rfl⟩)
      go_ret
      exact ⟨rfl, rfl⟩
    · rw [if_neg h2]
      go_enter Try.func71, Try.ntmps71
      go_wp2_with (go_at_call 75; refine (isNaN_any _ _).mono ?_; rintro e w' ⟨rfl, rfl⟩)
      go_ret
      exact ⟨rfl, rfl⟩
/-- the function compares by what r tells -/
def Cmps (r : Nat → Int) (n : Nat) (g : Nat) (lb : Array Value) (w : World) : Prop :=
  ∀ i k : Nat, i < n → k < n → Calls Try.prog g (#[.int .i64 i, .int .i64 k] ++ lb) w fun e w' => e = .returned (.int .i64 (cmpI (r k) (r i))) ∧ ∃ m, w' = w.drewN m
end Go.Proofs.Ythgliihdaockoaa
