/- Slices of integers further: is a number there, the sum, a copy. Conditions: none. -/
import Derived.Test.YthgliihdaockoaaAppend
namespace Go.Proofs.Ythgliihdaockoaa
open Go.RowKit
set_option linter.unusedVariables false

/-- a list has a number -/
def hasI (xs : List Int) (n : Int) : Bool := decide (n ∈ xs)
theorem hasI_iff {xs : List Int} {n : Int} : hasI xs n = true ↔ n ∈ xs := by simp [hasI]
theorem getD_mem {xs : List Int} {k : Nat} (hk : k < xs.length) : xs.getD k 0 ∈ xs := by
  rw [List.getD_eq_getElem?_getD, List.getElem?_eq_getElem hk]
  exact List.getElem_mem _
theorem not_take_succ {xs : List Int} {n : Int} {k : Nat} (hk : k < xs.length) (h : n ∉ xs.take k) (hx : xs.getD k 0 ≠ n) : n ∉ xs.take (k + 1) := by
  rw [List.take_succ_eq_append_getElem hk]
  intro hm
  rcases List.mem_append.1 hm with h1 | h1
  · exact h h1
  · rw [List.getD_eq_getElem?_getD, List.getElem?_eq_getElem hk] at hx
    exact hx (by simpa using (List.mem_singleton.1 h1).symm)

/-- the sum of a list -/
def sumI (xs : List Int) : Int := xs.foldl (· + ·) 0
theorem foldl_add (xs : List Int) (a : Int) : xs.foldl (· + ·) a = a + xs.foldl (· + ·) 0 := by
  induction xs generalizing a with
  | nil => simp
  | cons x xs ih => simp only [List.foldl_cons]; rw [ih (a + x), ih (0 + x)]; omega
theorem sumI_nil : sumI [] = 0 := rfl
theorem sumI_cons (x : Int) (xs : List Int) : sumI (x :: xs) = x + sumI xs := by unfold sumI; rw [List.foldl_cons, foldl_add]; omega
theorem sumI_append (xs ys : List Int) : sumI (xs ++ ys) = sumI xs + sumI ys := by
  induction xs with
  | nil => rw [List.nil_append, sumI_nil]; omega
  | cons x xs ih => rw [List.cons_append, sumI_cons, sumI_cons, ih]; omega
theorem sumI_take_succ {xs : List Int} {k : Nat} (hk : k < xs.length) : sumI (xs.take (k + 1)) = sumI (xs.take k) + xs.getD k 0 := by
  rw [List.take_succ_eq_append_getElem hk, sumI_append, sumI_cons, sumI_nil, List.getD_eq_getElem?_getD, List.getElem?_eq_getElem hk]
  simp
/-- numbers between -M and M -/
def Small (M : Int) (xs : List Int) : Prop := ∀ x ∈ xs, -M ≤ x ∧ x ≤ M
theorem Small.take {M : Int} {xs : List Int} (h : Small M xs) (k : Nat) : Small M (xs.take k) := fun x hx => h x (List.mem_of_mem_take hx)
theorem Small.drop {M : Int} {xs : List Int} (h : Small M xs) (k : Nat) : Small M (xs.drop k) := fun x hx => h x (List.mem_of_mem_drop hx)
theorem sumI_small {M : Int} {xs : List Int} (hM : 0 ≤ M) (h : Small M xs) : -(M * xs.length) ≤ sumI xs ∧ sumI xs ≤ M * xs.length := by
  induction xs with
  | nil => simp [sumI_nil]
  | cons x xs ih =>
    have h1 := h x (by simp)
    have h2 := ih (fun y hy => h y (by simp [hy]))
    rw [sumI_cons, List.length_cons, Int.natCast_add, Int.mul_add]
    omega
theorem sumI_bd {xs : List Int} {n : Nat} (h : Small 1000000000 xs) (hn : xs.length ≤ n) (hn' : n ≤ 2097152) : -2200000000000000 ≤ sumI xs ∧ sumI xs ≤ 2200000000000000 := by
  have := sumI_small (by omega) h
  omega

theorem specSum_any (B : Nat) (a : Option Addr) (n c : Nat) (xs : List Int) (w : World) (hA : Ints .i64 w B a n xs) (hn : n ≤ 2097152) (hx : Small 1000000000 xs) :
    Calls Try.prog 65 #[.slice a n c] w fun e w' => e = .returned (.int .i64 (sumI xs)) ∧ w = w' := by
  obtain ⟨hl, _, hc⟩ := hA
  have HX := hide hx
  clear hx
  go_enter Try.func65, Try.ntmps65
  go_wp2
  go_loop [3, 4] (fun s3 s4 => ∃ k : Nat, k ≤ n ∧ s3 = .int .i64 (sumI (xs.take k)) ∧ s4 = .int .i64 k) (fun _ s4 => n - (intOf s4).toNat)
  case atStart => exact ⟨0, Nat.zero_le _, rfl, rfl⟩
  case round =>
    obtain ⟨k, hk, rfl, rfl⟩ := hrel
    by_cases hlt : k < n
    · obtain ⟨b, off, rfl, _, hcell⟩ := hc (by omega)
      have h1 := hcell k hlt
      have hb := sumI_bd (HX.out.take k) (List.length_take_le _ _) (show k ≤ 2097152 by omega)
      obtain ⟨hb1, hb2⟩ := hb
      obtain ⟨hb3, hb4⟩ := HX.out _ (getD_mem (xs := xs) (k := k) (by omega))
      have HS := hide (sumI_take_succ (xs := xs) (k := k) (by omega))
      clear hcell hc
      generalize xs.getD k 0 = y at h1 HS hb3 hb4
      go_wp2
      go_round
      case rel => exact ⟨k + 1, by omega, by rw [HS.out], by go_num⟩
      case measure => simp [intOf]; omega
    · obtain rfl : k = n := by omega
      have D := hide (show sumI (xs.take k) = sumI xs by rw [← hl, List.take_length])
      clear hc
      go_wp2
      go_ret
      exact ⟨ret_int D.out, rfl⟩

theorem total_any (B : Nat) (a : Option Addr) (n c : Nat) (xs : List Int) (w : World) (hA : Ints .i64 w B a n xs) (hn : n ≤ 2097152) (hx : Small 1000000000 xs) :
    Calls Try.prog 59 #[.slice a n c] w fun e w' => e = .returned (.int .i64 (sumI xs)) ∧ w = w' := by
  obtain ⟨hl, _, hc⟩ := hA
  have HX := hide hx
  clear hx
  go_enter Try.func59, Try.ntmps59
  go_wp2
  go_loop [3, 8] (fun s3 s8 => ∃ k : Nat, k ≤ n ∧ s3 = .int .i64 (sumI (xs.take k)) ∧ s8 = .int .i64 k) (fun _ s8 => n - (intOf s8).toNat)
  case atStart => exact ⟨0, Nat.zero_le _, rfl, rfl⟩
  case round =>
    obtain ⟨k, hk, rfl, rfl⟩ := hrel
    by_cases hlt : k < n
    · obtain ⟨b, off, rfl, _, hcell⟩ := hc (by omega)
      have h1 := hcell k hlt
      have hb := sumI_bd (HX.out.take k) (List.length_take_le _ _) (show k ≤ 2097152 by omega)
      obtain ⟨hb1, hb2⟩ := hb
      obtain ⟨hb3, hb4⟩ := HX.out _ (getD_mem (xs := xs) (k := k) (by omega))
      have HS := hide (sumI_take_succ (xs := xs) (k := k) (by omega))
      clear hcell hc
      generalize xs.getD k 0 = y at h1 HS hb3 hb4
      go_wp2
      go_round
      case rel => exact ⟨k + 1, by omega, by rw [HS.out], by go_num⟩
      case measure => simp [intOf]; omega
    · obtain rfl : k = n := by omega
      have D := hide (show sumI (xs.take k) = sumI xs by rw [← hl, List.take_length])
      clear hc
      go_wp2
      go_ret
      exact ⟨ret_int D.out, rfl⟩
end Go.Proofs.Ythgliihdaockoaa
