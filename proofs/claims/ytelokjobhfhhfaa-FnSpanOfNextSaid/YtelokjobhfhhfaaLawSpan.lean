/- The laws FnSpanOf, FnSpanOfNext. Conditions: none. -/
import Derived.Test.YtelokjobhfhhfaaSpan
import Derived.Test.YtelokjobhfhhfaaDrawT
namespace Go.Proofs.Ytelokjobhfhhfaa
open Go.RowKit
set_option linter.unusedVariables false
set_option linter.unusedSimpArgs false
theorem span_parts {xs : List Int} {n : Nat} {s g f m : Int} (h : spanB xs n s g f m = true) : ∃ i j : Nat, f = i ∧ m = j ∧ 1 ≤ j ∧ i + j ≤ n ∧ trOkB xs n s g = true ∧ spA xs n s g f m = sumI (fl i (trF xs n s g)) + g * (i : Int) ∧ spS xs n s g f m = sumI (fl (i + j) (trF xs n s g)) - sumI (fl i (trF xs n s g)) + g * ((j : Int) - 1) := by
  have h' := h
  rw [spanB, Bool.and_eq_true, Bool.and_eq_true, inR_iff, inR_iff] at h'
  obtain ⟨h0, hf, hm⟩ := h'
  obtain ⟨i, rfl⟩ := Int.eq_ofNat_of_zero_le hf.1
  obtain ⟨j, rfl⟩ := Int.eq_ofNat_of_zero_le (show 0 ≤ m by omega)
  refine ⟨i, j, rfl, rfl, by omega, by omega, h0, ?_, ?_⟩
  · rw [spA, if_pos h]; rfl
  · rw [spS, if_pos h, show ((i : Int) + (j : Int)).toNat = i + j by omega]; rfl
theorem span_bd {xs : List Int} {n : Nat} {s g f m : Int} (h : spanB xs n s g f m = true) : (0 ≤ spA xs n s g f m ∧ spA xs n s g f m ≤ 30000000) ∧ 0 ≤ spS xs n s g f m ∧ spS xs n s g f m ≤ 30000000 := by
  obtain ⟨i, j, rfl, rfl, h1, h2, h0, e1, e2⟩ := span_parts h
  obtain ⟨hv, hs, hg⟩ := trOkB_iff.1 h0
  have hn := (validTr_iff.1 hv).1
  have b1 : 0 ≤ sumI (fl i (trF xs n s g)) ∧ sumI (fl i (trF xs n s g)) ≤ 20000000 := by
    have h := tr_sum_bd (i := 0) (j := i) hv hs hg (by omega)
    simp only [Nat.zero_add] at h
    exact h
  have b2 := tr_sum_bd (i := i) (j := j) hv hs hg h2
  have b3 := gmul_bd (k := i) hg (by omega)
  have b4 := gap_bd (n := j) hg (by omega)
  rw [e1, e2, sumI_fl_add i j]
  omega
theorem span_next {xs : List Int} {n : Nat} {s g f m : Int} (h : spanB xs n s g f m = true) (h' : spanB xs n s g (f + m) 1 = true) : spA xs n s g (f + m) 1 = spA xs n s g f m + spS xs n s g f m + g := by
  obtain ⟨i, j, rfl, rfl, h1, h2, h0, e1, e2⟩ := span_parts h
  rw [e1, e2, spA, if_pos h', show ((i : Int) + (j : Int)).toNat = i + j by omega, Int.mul_add, Int.mul_sub, Int.mul_one]
  omega
theorem span_zero {xs : List Int} {n : Nat} {s g : Int} (h : trOkB xs n s g = true) : spanB xs n s g 0 1 = true ∧ spA xs n s g 0 1 = 0 := by
  have hn := (validTr_iff.1 (trOkB_iff.1 h).1).1
  have h1 : spanB xs n s g 0 1 = true := by
    rw [spanB, h, Bool.true_and, Bool.and_eq_true, inR_iff, inR_iff]
    omega
  refine ⟨h1, ?_⟩
  rw [spA, if_pos h1]
  simp [fl, sumI]
theorem span_more {xs : List Int} {n : Nat} {s g f m : Int} (h : spanB xs n s g f m = true) : (spanB xs n s g f (m + 1) = true ↔ f + m < n) ∧ f + m ≤ n ∧ (f + m < n → spA xs n s g f (m + 1) = spA xs n s g f m ∧ spS xs n s g f (m + 1) = spS xs n s g f m + g + trF xs n s g (f + m).toNat) := by
  obtain ⟨i, j, rfl, rfl, h1, h2, h0, e1, e2⟩ := span_parts h
  have h3 : spanB xs n s g i ((j : Int) + 1) = true ↔ (i : Int) + j < n := by
    rw [spanB, h0, Bool.true_and, Bool.and_eq_true, inR_iff, inR_iff]
    omega
  refine ⟨h3, by omega, fun hlt => ?_⟩
  obtain ⟨i', j', hi, hj, _, _, _, d1, d2⟩ := span_parts (h3.2 hlt)
  obtain rfl : i = i' := by omega
  obtain rfl : j' = j + 1 := by omega
  rw [e1, e2, d1, d2, show ((i : Int) + (j : Int)).toNat = i + j by omega, ← Nat.add_assoc, sumI_fl_succ]
  refine ⟨rfl, ?_⟩
  rw [show (((j + 1 : Nat) : Int) - 1) = (j : Int) by omega, Int.mul_sub, Int.mul_one]
  omega
set_option maxRecDepth 100000 in
set_option maxHeartbeats 4000000 in
theorem walk_FnSpanOfNext (a0 : Option Addr) (len cap : Nat) (zs : List Int) (w : World) (h0 : Ints .u8 w w.heap.size a0 len zs) (hc : len ≤ cap) :
    Calls Try.prog 8 #[.slice a0 len cap] w fun e w' => e = .returned (.bool true) ∧ Below w.heap.size w w' := by
  by_cases hl : len ≤ 1048576
  case neg =>
    go_enter Try.func8, Try.ntmps8
    go_wp2
    go_ret
    exact ⟨rfl, Below.refl _ _⟩
  case pos =>
    go_enter Try.func8, Try.ntmps8
    go_wp2_with fail
    refine (drawSpan_any a0 len cap zs _ h0 hc).mono ?_
    rintro e W0 ⟨A, n, c, xs, s, g, f, m, rfl, hn9, hnc, hcm, hs, hg, hf, hm, hrow, hb0⟩
    clear h0
    have L_0 := hide hrow.ints
    have B_0 := hide hb0
    have hz0 := hb0.size
    clear hrow hb0
    go_wp2_with fail
    refine (implSpan_any W0.heap.size A n c xs s g (f) (m) _ L_0.out (by omega) (by omega)).mono ?_
    rintro e W1 ⟨rfl, hb⟩
    have hz1 := hb.size
    have L_1 := hide (L_0.out.below hb (by omega))
    have B_1 := hide (B_0.out.trans (hb.mono (by omega)))
    clear hb L_0 B_0
    go_wp2_with fail
    refine (specSpan_any W0.heap.size A n c xs s g (f) (m) _ L_1.out (by omega) (by omega)).mono ?_
    rintro e W2 ⟨rfl, hb⟩
    have hz2 := hb.size
    have L_2 := hide (L_1.out.below hb (by omega))
    have B_2 := hide (B_1.out.trans (hb.mono (by omega)))
    clear hb L_1 B_1
    have z1 : (spA xs n s g f m != spA xs n s g f m) = false := by simp
    have z2 : (spS xs n s g f m != spS xs n s g f m) = false := by simp
    have z3 : (spanB xs n s g f m != spanB xs n s g f m) = false := by simp
    have y1 : (spA xs n s g f m == spA xs n s g f m) = true := by simp
    have y2 : (spS xs n s g f m == spS xs n s g f m) = true := by simp
    have y3 : (spanB xs n s g f m == spanB xs n s g f m) = true := by simp
    cases hk : spanB xs n s g f m
    case false =>
      rw [hk] at z3 y3
      go_wp2
      go_ret
      exact ⟨rfl, B_2.out⟩
    case true =>
      rw [hk] at z3 y3
      have hk' := hk
      rw [spanB, Bool.and_eq_true, Bool.and_eq_true, inR_iff, inR_iff] at hk'
      obtain ⟨h0, hf', hm'⟩ := hk'
      have HK := hide hk
      have H0 := hide h0
      have hv := (trOkB_iff.1 h0)
      have HV := hide hv
      have e1 : IntKind.i64.wrap (f + m) = f + m := IntWalk.i64_in _ (by omega)
      clear hk h0 hv
      go_wp2_with fail
      refine (implSpan_any W0.heap.size A n c xs s g (f + m) (1) _ L_2.out (by omega) (by omega)).mono ?_
      rintro e W3 ⟨rfl, hb⟩
      have hz3 := hb.size
      have L_3 := hide (L_2.out.below hb (by omega))
      have B_3 := hide (B_2.out.trans (hb.mono (by omega)))
      clear hb L_2 B_2
      go_wp2_with fail
      refine (implSpan_any W0.heap.size A n c xs s g (0) (1) _ L_3.out (by omega) (by omega)).mono ?_
      rintro e W4 ⟨rfl, hb⟩
      have hz4 := hb.size
      have L_4 := hide (L_3.out.below hb (by omega))
      have B_4 := hide (B_3.out.trans (hb.mono (by omega)))
      clear hb L_3 B_3
      have P1 := hide (span_next HK.out)
      have P2 := hide (span_zero H0.out)
      have P3 := hide (span_bd HK.out)
      clear HK H0 HV
      rw [P2.out.1, P2.out.2] at *
      generalize spA xs n s g f m = X at *
      generalize spS xs n s g f m = Y at *
      generalize spA xs n s g (f + m) 1 = Z at *
      have hb3 := P3.out
      have e2 : IntKind.i64.wrap (X + Y) = X + Y := IntWalk.i64_in _ (by omega)
      have e3 : IntKind.i64.wrap (X + Y + g) = X + Y + g := IntWalk.i64_in _ (by omega)
      cases hq : spanB xs n s g (f + m) 1
      case false =>
        clear P1 P2 P3
        go_wp2
        go_ret
        exact ⟨rfl, B_4.out⟩
      case true =>
        obtain rfl : Z = X + Y + g := P1.out hq
        have z9 : (X + Y + g == X + Y + g) = true := by simp
        clear P1 P2 P3
        go_wp2
        go_ret
        exact ⟨rfl, B_4.out⟩
set_option maxRecDepth 100000 in
set_option maxHeartbeats 4000000 in
theorem walk_FnSpanOf (a0 : Option Addr) (len cap : Nat) (zs : List Int) (w : World) (h0 : Ints .u8 w w.heap.size a0 len zs) (hc : len ≤ cap) :
    Calls Try.prog 10 #[.slice a0 len cap] w fun e w' => e = .returned (.bool true) ∧ Below w.heap.size w w' := by
  by_cases hl : len ≤ 1048576
  case neg =>
    go_enter Try.func10, Try.ntmps10
    go_wp2
    go_ret
    exact ⟨rfl, Below.refl _ _⟩
  case pos =>
    go_enter Try.func10, Try.ntmps10
    go_wp2_with fail
    refine (drawSpan_any a0 len cap zs _ h0 hc).mono ?_
    rintro e W0 ⟨A, n, c, xs, s, g, f, m, rfl, hn9, hnc, hcm, hs, hg, hf, hm, hrow, hb0⟩
    clear h0
    have L_0 := hide hrow.ints
    have B_0 := hide hb0
    have hz0 := hb0.size
    clear hrow hb0
    go_wp2_with fail
    refine (implSpan_any W0.heap.size A n c xs s g (f) (m) _ L_0.out (by omega) (by omega)).mono ?_
    rintro e W1 ⟨rfl, hb⟩
    have hz1 := hb.size
    have L_1 := hide (L_0.out.below hb (by omega))
    have B_1 := hide (B_0.out.trans (hb.mono (by omega)))
    clear hb L_0 B_0
    go_wp2_with fail
    refine (specSpan_any W0.heap.size A n c xs s g (f) (m) _ L_1.out (by omega) (by omega)).mono ?_
    rintro e W2 ⟨rfl, hb⟩
    have hz2 := hb.size
    have L_2 := hide (L_1.out.below hb (by omega))
    have B_2 := hide (B_1.out.trans (hb.mono (by omega)))
    clear hb L_1 B_1
    have z1 : (spA xs n s g f m != spA xs n s g f m) = false := by simp
    have z2 : (spS xs n s g f m != spS xs n s g f m) = false := by simp
    have z3 : (spanB xs n s g f m != spanB xs n s g f m) = false := by simp
    have y1 : (spA xs n s g f m == spA xs n s g f m) = true := by simp
    have y2 : (spS xs n s g f m == spS xs n s g f m) = true := by simp
    have y3 : (spanB xs n s g f m == spanB xs n s g f m) = true := by simp
    cases hk : spanB xs n s g f m
    case false =>
      rw [hk] at z3 y3
      go_wp2
      go_ret
      exact ⟨rfl, B_2.out⟩
    case true =>
      rw [hk] at z3 y3
      have hk' := hk
      rw [spanB, Bool.and_eq_true, Bool.and_eq_true, inR_iff, inR_iff] at hk'
      obtain ⟨h0, hf', hm'⟩ := hk'
      have HK := hide hk
      have H0 := hide h0
      have hE := hide (show sizesT xs n s g = trackL xs n s g from if_pos h0)
      have HV := hide (trOkB_iff.1 h0)
      have e1 : IntKind.i64.wrap (f + m) = f + m := IntWalk.i64_in _ (by omega)
      clear hk h0
      go_wp2_with fail
      refine (implSizes_any W0.heap.size A n c xs s g _ L_2.out (by omega) (by omega)).mono ?_
      rintro e W3 ⟨P, n2, c2, rfl, P1, P2, rP, hb⟩
      have PL_3 := hide rP.ints
      have PH := hide rP.1
      clear rP
      have hz3 := hb.size
      have L_3 := hide (L_2.out.below hb (by omega))
      have B_3 := hide (B_2.out.trans (hb.mono (by omega)))
      clear hb L_2 B_2
      obtain rfl : n = n2 := by have h3 := PH.out; rw [sizes_len, if_pos H0.out] at h3; exact h3
      have e4 : IntKind.i64.wrap (m + 1) = m + 1 := IntWalk.i64_in _ (by omega)
      go_wp2_with fail
      refine (implSpan_any W0.heap.size A n c xs s g (f) (m + 1) _ L_3.out (by omega) (by omega)).mono ?_
      rintro e W4 ⟨rfl, hb⟩
      have hz4 := hb.size
      have L_4 := hide (L_3.out.below hb (by omega))
      have B_4 := hide (B_3.out.trans (hb.mono (by omega)))
      have PL_4 := hide (PL_3.out.below hb (by omega))
      clear hb L_3 B_3 PL_3
      have PM := hide (span_more HK.out)
      have P3 := span_bd HK.out
      obtain ⟨k, hkk⟩ := Int.eq_ofNat_of_zero_le (show 0 ≤ f + m by omega)
      obtain rfl : f = (k : Int) - m := by omega
      have e5 : IntKind.i64.wrap ((k : Int) - m + m) = (k : Int) := by rw [Int.sub_add_cancel]; exact IntWalk.i64_in _ (by omega)
      clear e1
      by_cases hlt : k < n
      · have hq : spanB xs n s g (↑k - m) (m + 1) = true := PM.out.1.2 (by omega)
        obtain ⟨q1, q2⟩ := PM.out.2.2 (by omega)
        rw [show ((k : Int) - m + m).toNat = k by omega] at q2
        have hP := PL_4.out
        rw [hE.out] at hP
        obtain ⟨b1, o1, rfl, _, hcp⟩ := hP.2.2 (by omega)
        have dk := hcp k hlt
        rw [trackL, fl_at _ hlt] at dk
        have hbt := (tr_bd HV.out.1 HV.out.2.1 HV.out.2.2 hlt).2
        have g1 : (k : Int) < (n : Int) := by omega
        rw [hq, q1, q2]
        clear hcp hP PM HK H0 hE HV hq q1 q2
        generalize trF xs n s g k = t at *
        generalize spA xs n s g (↑k - m) m = X at *
        generalize spS xs n s g (↑k - m) m = Y at *
        have e2 : IntKind.i64.wrap (Y + g) = Y + g := IntWalk.i64_in _ (by omega)
        have e3 : IntKind.i64.wrap (Y + g + t) = Y + g + t := IntWalk.i64_in _ (by omega)
        have z8 : (X == X) = true := by simp
        have z9 : (Y + g + t == Y + g + t) = true := by simp
        clear hkk
        go_wp2
        go_ret
        exact ⟨rfl, B_4.out⟩
      · have hq : spanB xs n s g (↑k - m) (m + 1) = false := by
          cases hh : spanB xs n s g (↑k - m) (m + 1)
          · rfl
          · have := PM.out.1.1 hh; omega
        obtain rfl : k = n := by have := PM.out.2.1; omega
        rw [hq]
        have z9 : ((k : Int) == (k : Int)) = true := by simp
        clear PM HK H0 hE HV hkk hq
        go_wp2
        go_ret
        exact ⟨rfl, B_4.out⟩
end Go.Proofs.Ytelokjobhfhhfaa
