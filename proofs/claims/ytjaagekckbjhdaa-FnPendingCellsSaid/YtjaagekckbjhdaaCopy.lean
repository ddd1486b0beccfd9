/- Copies of slices of integers. Conditions: none. -/
import Derived.Test.YtjaagekckbjhdaaSums
import Derived.WalkSpells
namespace Go.Proofs.Ytjaagekckbjhdaa
open Go.RowKit
set_option linter.unusedVariables false

theorem made_own {w w' : World} {v : Value} {n : Nat} {xs : List Int} (h : Own 3 1 w' w.heap.size v n xs) (hb : Below w.heap.size w w') : Made xs w (.returned v) w' := by
  obtain ⟨A, c, rfl, h1, h2, h3⟩ := h.form
  rw [Nat.mul_one] at h3
  exact ⟨A, n, c, rfl, h1, h2, h3, hb⟩

theorem cloneInts_any (B : Nat) (a : Option Addr) (n c : Nat) (xs : List Int) (w : World) (hA : Ints .i64 w B a n xs) (hB : B ≤ w.heap.size) (hn : n ≤ 67108864) :
    Calls Try.prog 46 #[.slice a n c] w (Made xs w) := by
  obtain ⟨i0, hi, hz0, hz1, hz2⟩ := info_parts int_info
  rcases a with _ | ad
  · obtain rfl : n = 0 := by
      rcases Nat.eq_zero_or_pos n with h | h
      · exact h
      · obtain ⟨b, off, e, _⟩ := hA.2.2 h; cases e
    have hx : xs = [] := List.eq_nil_of_length_eq_zero hA.1
    subst hx
    have e1 := fun w => Lib.run_eql_slice_nil (P := Try.prog) w 22 3 none 0 c 0 0 Try.underlying22
    clear hA
    go_enter Try.func46, Try.ntmps46
    go_wp2
    go_ret
    exact made_own (Own.nil _ _ _ _) (Below.refl _ _)
  · have e1 := fun w => Lib.run_eql_slice_nil (P := Try.prog) w 22 3 (some ad) n c 0 0 Try.underlying22
    have hR := hide (((hA.below ((Below.refl w.heap.size w).alloc (Nat.le_refl _) (.cells #[] 3)) hB).reads))
    have hO := hide (Own.made 3 1 w #[] 0 w.heap.size (Nat.le_refl _) (by omega) rfl)
    have HB := hide ((Below.refl w.heap.size w).alloc (Nat.le_refl _) (.cells #[] 3))
    clear hA
    go_enter Try.func46, Try.ntmps46
    go_wp2_with (at_builtin; refine wpList_join rfl (.tmp 5) (.tmp 6) 22 3 1 8 i0 _ rfl Try.underlying22 hi hz0 hz1 hz2 rfl (by omega) (by omega) _ w.heap.size _ 0 [] rfl hO.out B _ xs n _ rfl hR.out (by omega) (by simp) ?_; intro v1 w1 ho1 hb1 hg1 hv1)
    have D := hide (show Made xs w (.returned v1) w1 from made_own (n := n) (by simpa using ho1) (HB.out.trans hb1))
    clear ho1 hb1 hg1 hv1
    go_wp2
    go_ret
    exact D.out
theorem copyOf_any (B : Nat) (a : Option Addr) (n c : Nat) (xs : List Int) (w : World) (hA : Ints .i64 w B a n xs) (hB : B ≤ w.heap.size) (hn : n ≤ 67108864) :
    Calls Try.prog 39 #[.slice a n c] w (Made xs w) := by
  go_enter Try.func39, Try.ntmps39
  go_wp2_with fail
  refine (cloneInts_any B a n c xs _ hA hB hn).mono ?_
  rintro e w1 ⟨A1, n1, c1, rfl, h1, h2, hr, hb⟩
  go_wp2_with fail
  refine (clipInts_any _ _ _ _ h1 (by unfold maxLen; omega)).mono ?_
  rintro e w' ⟨rfl, rfl⟩
  have D := hide (show Made xs w (.returned (.slice A1 n1 n1)) w1 from ⟨A1, n1, n1, rfl, Nat.le_refl _, by omega, hr, hb⟩)
  clear hr hb hA
  go_wp2
  go_ret
  exact D.out
theorem copyIntsMade_any (B : Nat) (a : Option Addr) (n c : Nat) (xs : List Int) (w : World) (hA : Ints .i64 w B a n xs) (hB : B ≤ w.heap.size) (hn : n ≤ 67108864) :
    Calls Try.prog 48 #[.slice a n c] w (Made xs w) :=
  (copyInts_any B a n c xs w hA hB hn).mono fun e w' ⟨v, he, ho, hb⟩ => he ▸ made_own ho hb
end Go.Proofs.Ytjaagekckbjhdaa
