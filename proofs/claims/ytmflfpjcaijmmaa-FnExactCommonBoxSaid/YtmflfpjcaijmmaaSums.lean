/- Slices of integers further: is a number there, the sum, a copy. Conditions: none. -/
import Derived.Test.YtmflfpjcaijmmaaAppend
namespace Go.Proofs.Ytmflfpjcaijmmaa
open Go.RowKit
set_option linter.unusedVariables false

/-- a list has a number -/
def hasI (xs : List Int) (n : Int) : Bool := decide (n ∈ xs)
theorem hasI_iff {xs : List Int} {n : Int} : hasI xs n = true ↔ n ∈ xs := by simp [hasI]
theorem getD_mem {xs : List Int} {k : Nat} (hk : k < xs.length) : xs.getD k 0 ∈ xs := by
  rw [List.getD_eq_getElem?_getD, List.getElem?_eq_getElem hk]
  exact List.getElem_mem _
theorem not_take_succ {xs : List Int} {n : Int} {k : Nat} (hk : k < xs.length) (h : n ∉ xs.take k) (hx : xs.getD k 0 ≠ n) : n ∉ xs.take (k + 1) := by
  rw [List.take_succ_eq_append_getElem hk]
  intro hm
  rcases List.mem_append.1 hm with h1 | h1
  · exact h h1
  · rw [List.getD_eq_getElem?_getD, List.getElem?_eq_getElem hk] at hx
    exact hx (by simpa using (List.mem_singleton.1 h1).symm)

/-- the sum of a list -/
def sumI (xs : List Int) : Int := xs.foldl (· + ·) 0
theorem foldl_add (xs : List Int) (a : Int) : xs.foldl (· + ·) a = a + xs.foldl (· + ·) 0 := by
  induction xs generalizing a with
  | nil => simp
  | cons x xs ih => simp only [List.foldl_cons]; rw [ih (a + x), ih (0 + x)]; omega
theorem sumI_nil : sumI [] = 0 := rfl
theorem sumI_cons (x : Int) (xs : List Int) : sumI (x :: xs) = x + sumI xs := by unfold sumI; rw [List.foldl_cons, foldl_add]; omega
theorem sumI_append (xs ys : List Int) : sumI (xs ++ ys) = sumI xs + sumI ys := by
  induction xs with
  | nil => rw [List.nil_append, sumI_nil]; omega
  | cons x xs ih => rw [List.cons_append, sumI_cons, sumI_cons, ih]; omega
theorem sumI_take_succ {xs : List Int} {k : Nat} (hk : k < xs.length) : sumI (xs.take (k + 1)) = sumI (xs.take k) + xs.getD k 0 := by
  rw [List.take_succ_eq_append_getElem hk, sumI_append, sumI_cons, sumI_nil, List.getD_eq_getElem?_getD, List.getElem?_eq_getElem hk]
  simp
/-- numbers between -M and M -/
def Small (M : Int) (xs : List Int) : Prop := ∀ x ∈ xs, -M ≤ x ∧ x ≤ M
theorem Small.take {M : Int} {xs : List Int} (h : Small M xs) (k : Nat) : Small M (xs.take k) := fun x hx => h x (List.mem_of_mem_take hx)
theorem Small.drop {M : Int} {xs : List Int} (h : Small M xs) (k : Nat) : Small M (xs.drop k) := fun x hx => h x (List.mem_of_mem_drop hx)
theorem sumI_small {M : Int} {xs : List Int} (hM : 0 ≤ M) (h : Small M xs) : -(M * xs.length) ≤ sumI xs ∧ sumI xs ≤ M * xs.length := by
  induction xs with
  | nil => simp [sumI_nil]
  | cons x xs ih =>
    have h1 := h x (by simp)
    have h2 := ih (fun y hy => h y (by simp [hy]))
    rw [sumI_cons, List.length_cons, Int.natCast_add, Int.mul_add]
    omega
theorem sumI_bd {xs : List Int} {n : Nat} (h : Small 1000000000 xs) (hn : xs.length ≤ n) (hn' : n ≤ 2097152) : -2200000000000000 ≤ sumI xs ∧ sumI xs ≤ 2200000000000000 := by
  have := sumI_small (by omega) h
  omega

theorem specIsIn_any (B : Nat) (a : Option Addr) (n c : Nat) (xs : List Int) (x : Int) (w : World) (hA : Ints .i64 w B a n xs) (hn : n ≤ 9223372036854775807) :
    Calls Try.prog 63 #[.slice a n c, .int .i64 x] w fun e w' => e = .returned (.bool (hasI xs x)) ∧ w = w' := by
  obtain ⟨hl, _, hc⟩ := hA
  go_enter Try.func63, Try.ntmps63
  go_wp2
  go_loop [5] (fun s5 => ∃ k : Nat, k ≤ n ∧ s5 = .int .i64 k ∧ Hid (x ∉ xs.take k)) (fun s5 => n - (intOf s5).toNat)
  case atStart => exact ⟨0, Nat.zero_le _, rfl, hide (by simp)⟩
  case round =>
    obtain ⟨k, hk, rfl, A⟩ := hrel
    by_cases hlt : k < n
    · obtain ⟨b, off, rfl, _, hcell⟩ := hc (by omega)
      have h1 := hcell k hlt
      have HN := hide (fun h => not_take_succ (xs := xs) (n := x) (k := k) (by omega) A.out h)
      have HM := hide (getD_mem (xs := xs) (k := k) (by omega))
      clear hcell hc
      generalize xs.getD k 0 = y at h1 HN HM
      by_cases hxy : y = x
      · subst hxy
        have D := hide (show hasI xs y = true from hasI_iff.2 HM.out)
        go_wp2
        go_ret
        exact ⟨ret_bool D.out.symm, rfl⟩
      · have D := hide (HN.out hxy)
        have e1 : (y == x) = false := by simpa using hxy
        go_wp2
        go_round
        case rel => exact ⟨k + 1, by omega, by go_num, D⟩
        case measure => simp [intOf]; omega
    · obtain rfl : k = n := by omega
      have D := hide (show hasI xs x = false by have := A.out; rw [← hl, List.take_length] at this; simp [hasI, this])
      clear hc
      go_wp2
      go_ret
      exact ⟨ret_bool D.out.symm, rfl⟩

end Go.Proofs.Ytmflfpjcaijmmaa
