/- The reader's spoil: some new list, hardly longer. Conditions: none. -/
import Derived.Test.YtldmnpflcnmcpaaOne
import Derived.Test.YtldmnpflcnmcpaaSums
import Derived.Deep.DeepCutAuto
namespace Go.Proofs.Ytldmnpflcnmcpaa
open Go.RowKit
set_option linter.unusedVariables false

/-- some new list of at most m numbers is handed back; the reader goes on -/
def SomeList (R p m : Nat) (w : World) (e : Ending) (w' : World) : Prop :=
  ∃ (A : Option Addr) (n c : Nat) (ys : List Int), n ≤ m ∧ e = .returned (.slice A n c) ∧ n ≤ c ∧ c ≤ 9223372036854775807 ∧ Row 3 w' w.heap.size w'.heap.size A n ys ∧ Rd w' R p ∧ w.grownBy w' (some R)

theorem grown_of_below {w w' : World} (h : Below w.heap.size w w') (row : Option Nat) : w.grownBy w' row := ⟨h.os, h.tape, h.output, h.size, fun k hk _ => h.block k hk⟩
theorem Rd.belowS {w w' : World} {R p : Nat} (h : Rd w R p) (hb : Below w.heap.size w w') : Rd w' R p := h.below hb h.lt
theorem Own.farR {E : TypeId} {k R : Nat} {w w' : World} {base : Nat} {v : Value} {n : Nat} {xs : List Int} (h : Own E k w base v n xs) (hg : w.grownBy w' (some R)) (hR : R < base) : Own E k w' base v n xs :=
  h.far hg (by
    rcases hv : v.ownBlock with _ | j
    · exact .inl rfl
    · have := h.lt j hv
      exact .inr (fun e => by injection e with e; omega))
set_option maxHeartbeats 1000000 in
theorem spoil_any (R p B : Nat) (a : Option Addr) (n c : Nat) (xs : List Int) (x : Int) (w : World) (h : Rd w R p) (hp : p ≤ 700000) (hA : Ints .i64 w B a n xs) (hB : B ≤ w.heap.size) (hn : n ≤ 100000) :
    Calls Try.prog 43 #[.pointer (some ⟨R, 0, none⟩), .slice a n c, .int .i64 x] w (SomeList R (p + 3) (n + 1) w) := by
  obtain ⟨i0, hi, hz0, hz1, hz2⟩ := info_parts int_info
  have hR := h.lt
  go_enter Try.func43, Try.ntmps43
  go_wp2_with fail
  refine (copyInts_any B a n c xs _ hA hB (by omega)).mono ?_
  rintro e W1 ⟨v, rfl, ho, hb⟩
  have hr1 := h.belowS hb
  have hg1 := grown_of_below hb (some R)
  clear hA hb h
  go_wp2_with fail
  refine (pick_any R p _ _ hr1 (by omega) (by omega) (by omega)).mono ?_
  rintro e W2 ⟨k, ⟨hk0, hk1, _⟩, rfl, hr2, hg2⟩
  have hk2 := hk1 (by omega)
  have ho2 := ho.farR hg2 hR
  have hg3 := only_trans hg1 hg2
  have hz := hg3.size
  clear hk1 hr1 hg1 hg2 ho
  obtain ⟨A, c', rfl, hc1, hc2, hrow⟩ := ho2.form
  rw [Nat.mul_one] at hrow
  have H2 := hide hr2
  have H3 := hide hg3
  have HO := hide ho2
  have HR := hide hrow
  clear hr2 hg3 ho2 hrow
  have HD := hide (show SomeList R (p + 3) (n + 1) w (.returned (.slice A n c')) W2 from ⟨A, n, c', xs, by omega, rfl, hc1, hc2, HR.out, H2.out.mono (by omega), H3.out⟩)
  by_cases e0 : k = 0
  · subst e0
    go_wp2_with (at_builtin; refine wpList_push rfl (.tmp 14) (.tmp 16) 22 3 1 8 i0 _ rfl Try.underlying22 hi hz0 hz1 hz2 rfl (by omega) (by omega) W2 w.heap.size (.slice A n c') n xs rfl HO.out [x] 1 1 rfl rfl (by omega) hz ?_; intro v1 w1 ho1 hb1 hg1 hv1)
    obtain ⟨A1, c1, rfl, hd1, hd2, hrow1⟩ := ho1.form
    rw [Nat.mul_one] at hrow1
    have D := hide (show SomeList R (p + 3) (n + 1) w (.returned (.slice A1 (n + 1) c1)) w1 from
      ⟨A1, n + 1, c1, xs ++ [x], Nat.le_refl _, rfl, hd1, hd2, hrow1, (H2.out.grown hg1 (fun k hk => by have := HO.out.lt k hk; omega)).mono (by omega), only_fresh H3.out hg1 (fun k hk => (HO.out.lt k hk).1)⟩)
    clear ho1 hb1 hg1 hv1 hrow1
    go_wp2
    go_ret
    exact D.out
  · have b0 : (k == 0) = false := by simpa using e0
    by_cases e1 : k = 1
    · subst e1
      by_cases hn0 : n = 0
      · subst hn0
        go_wp2
        go_ret
        exact HD.out
      · have hn1 : 0 < n := by omega
        rcases HR.out.tail (c := c') hn1 with ht | ht
        · by_cases hc0 : c' = 1
          · subst hc0
            obtain rfl : n = 1 := by omega
            have D := hide (show SomeList R (p + 3) (1 + 1) w (.returned (.slice A 0 0)) W2 from ⟨A, 0, 0, [], by omega, rfl, by omega, by omega, Row.nil _ _ _ _ _, H2.out.mono (by omega), H3.out⟩)
            clear ht
            go_wp2
            go_ret
            exact D.out
          · rw [if_neg hc0] at ht
            obtain ⟨g, off, cur, rfl, _⟩ := HR.out.2 hn1
            have D := hide (show SomeList R (p + 3) (n + 1) w (.returned (.slice (some ⟨g, off + 1, none⟩) (n - 1) (c' - 1))) W2 from ⟨_, n - 1, c' - 1, xs.drop 1, by omega, rfl, by omega, by omega, ht, H2.out.mono (by omega), H3.out⟩)
            clear ht
            go_wp2
            go_ret
            exact D.out
        · subst ht
          obtain rfl : n = 1 := by omega
          have D := hide (show SomeList R (p + 3) (1 + 1) w (.returned (.slice A 0 0)) W2 from ⟨A, 0, 0, [], by omega, rfl, by omega, by omega, Row.nil _ _ _ _ _, H2.out.mono (by omega), H3.out⟩)
          go_wp2
          go_ret
          exact D.out
    · have b1 : (k == 1) = false := by simpa using e1
      by_cases e2 : k = 2
      · subst e2
        by_cases hn0 : n = 0
        · subst hn0
          go_wp2
          go_ret
          exact HD.out
        · have hn1 : 0 < n := by omega
          go_wp2_with fail
          refine (pick_any R (p + 1) _ _ H2.out (by omega) (by omega) (by omega)).mono ?_
          rintro e W3 ⟨j, ⟨hj0, hj1, _⟩, rfl, hr3, hg3⟩
          obtain ⟨j, rfl⟩ := Int.eq_ofNat_of_zero_le hj0
          have hj2 : j < n := by have := hj1 (by omega); omega
          clear hj1 hj0
          go_wp2_with fail
          refine (one_lit R (p + 2) [-1, x, 0, 1] _ _ hr3 (by omega) (by rfl) (by omega) (by omega)).mono ?_
          rintro e W4 ⟨y, _, rfl, hr4, hg4⟩
          have hg5 := only_trans hg3 hg4
          have hrow4 : Row 3 W4 w.heap.size W4.heap.size A n xs :=
            ((HR.out.far (Only.mk hg5.os hg5.tape hg5.output hg5.size (fun k hk hne => hg5.block k hk (fun e => by injection e with e; omega)) : Only R (R + 1) W2 W4) (.inr (by omega))).mono (Nat.le_refl _) hg5.size)
          obtain ⟨g, off, cur, rfl, hgl, _⟩ := HR.out.2 hn1
          obtain ⟨hcl, hfz⟩ := hrow4.cell j hj2
          have D := hide (show SomeList R (p + 3) (n + 1) w (.returned (.slice (some ⟨g, off, none⟩) n c')) (W4.setCell ⟨g, off + j, none⟩ (.int .i64 y)) from
            ⟨_, n, c', xs.set j y, by omega, rfl, hc1, hc2, by simpa [World.setCell] using hrow4.put hj2 y, (hr4.setCell (by show R < g; omega) _).mono (by omega), only_setCell (only_trans H3.out hg5) (.inr hgl) _⟩)
          clear hr3 hg3 hr4 hg4 hg5 hrow4
          generalize xs.getD j 0 = z at hcl
          go_wp2
          go_ret
          exact D.out
      · have b2 : (k == 2) = false := by simpa using e2
        go_wp2
        go_ret
        exact HD.out
end Go.Proofs.Ytldmnpflcnmcpaa
