/- The law FnTrackSizes. Conditions: none. -/
import Derived.Test.YtelokjobhfhhfaaTrackP
import Derived.Test.YtelokjobhfhhfaaDrawT
import Derived.BigQuiet
namespace Go.Proofs.Ytelokjobhfhhfaa
open Go.RowKit
set_option linter.unusedVariables false
set_option linter.unusedSimpArgs false
set_option maxRecDepth 100000 in
set_option maxHeartbeats 4000000 in
theorem walk_FnTrackSizes (a0 : Option Addr) (len cap : Nat) (zs : List Int) (w : World) (h0 : Ints .u8 w w.heap.size a0 len zs) (hc : len ≤ cap) :
    Calls Try.prog 4 #[.slice a0 len cap] w fun e w' => e = .returned (.bool true) ∧ Below w.heap.size w w' := by
  by_cases hl : len ≤ 1048576
  case neg =>
    go_enter Try.func4, Try.ntmps4
    go_wp2
    go_ret
    exact ⟨rfl, Below.refl _ _⟩
  case pos =>
    go_enter Try.func4, Try.ntmps4
    go_wp2_with fail
    refine (drawSizes_any a0 len cap zs _ h0 hc).mono ?_
    rintro e W0 ⟨A, n, c, xs, s, g, rfl, hn9, hnc, hcm, hs, hg, hrow, hb0⟩
    clear h0
    have L_0 := hide hrow.ints
    have B_0 := hide hb0
    have hz0 := hb0.size
    clear hrow hb0
    go_wp2_with fail
    refine (implSizes_any W0.heap.size A n c xs (s) g _ L_0.out (by omega) (by omega)).mono ?_
    rintro e W1 ⟨P, n2, c2, rfl, P1, P2, rP, hb⟩
    have PL_1 := hide rP.ints
    have PH := hide rP.1
    clear rP
    have hz1 := hb.size
    have L_1 := hide (L_0.out.below hb (by omega))
    have B_1 := hide (B_0.out.trans (hb.mono (by omega)))
    clear hb L_0 B_0
    go_wp2_with fail
    refine (specSizes_any W0.heap.size A n c xs (s) g _ L_1.out (by omega) (by omega)).mono ?_
    rintro e W2 ⟨Q, n3, c3, rfl, Q1, Q2, rQ, hb⟩
    have QL_2 := hide rQ.ints
    have QH := hide rQ.1
    clear rQ
    have hz2 := hb.size
    have L_2 := hide (L_1.out.below hb (by omega))
    have B_2 := hide (B_1.out.trans (hb.mono (by omega)))
    have PL_2 := hide (PL_1.out.below hb (by omega))
    clear hb L_1 B_1 PL_1
    go_wp2_with fail
    refine (equalInts_any W1.heap.size W2.heap.size P Q n2 n3 c2 c3 (sizesT xs n s g) (sizesT xs n s g) _ PL_2.out QL_2.out (by omega) (by omega)).mono ?_
    rintro e W3 ⟨rfl, hb⟩
    rw [listEq_self]
    clear QL_2
    have hz3 := hb.size
    have L_3 := hide (L_2.out.below hb (by omega))
    have B_3 := hide (B_2.out.trans (hb.mono (by omega)))
    have PL_3 := hide (PL_2.out.below hb (by omega))
    clear hb L_2 B_2 PL_2
    cases hk : trOkB xs n s g
    case false =>
      have h2 : n2 = 0 := by have h3 := PH.out; rw [sizes_len, if_neg (by rw [hk]; simp)] at h3; exact h3.symm
      subst h2
      go_wp2_with fail
      refine (specSizes_any W0.heap.size A n c xs (s) g _ L_3.out (by omega) (by omega)).mono ?_
      rintro e W4 ⟨R, n4, c4, rfl, R1, R2, rR, hb⟩
      have RL_4 := hide rR.ints
      have RH := hide rR.1
      clear rR
      have hz4 := hb.size
      have L_4 := hide (L_3.out.below hb (by omega))
      have B_4 := hide (B_3.out.trans (hb.mono (by omega)))
      have PL_4 := hide (PL_3.out.below hb (by omega))
      clear hb L_3 B_3 PL_3
      go_wp2_with fail
      refine (equalInts_any W1.heap.size W4.heap.size P R 0 n4 c2 c4 (sizesT xs n s g) (sizesT xs n s g) _ PL_4.out RL_4.out (by omega) (by omega)).mono ?_
      rintro e W5 ⟨rfl, hb⟩
      rw [listEq_self]
      clear RL_4
      have hz5 := hb.size
      have L_5 := hide (L_4.out.below hb (by omega))
      have B_5 := hide (B_4.out.trans (hb.mono (by omega)))
      have PL_5 := hide (PL_4.out.below hb (by omega))
      clear hb L_4 B_4 PL_4
      go_wp2
      go_ret
      exact ⟨rfl, B_5.out⟩
    case true =>
      have h2 : n2 = n := by have h3 := PH.out; rw [sizes_len, if_pos hk] at h3; exact h3.symm
      subst h2
      obtain ⟨hv, hs', hg'⟩ := trOkB_iff.1 hk
      have HV := hide hv
      obtain ⟨n1, n8⟩ := (validTr_iff.1 hv).1
      have hE := hide (show sizesT xs n2 s g = trackL xs n2 s g from if_pos hk)
      have hz : ((n2 : Int) == 0) = false := by simp; omega
      have hG := gap_bd hg' ⟨n1, n8⟩
      have HL := hide (show leftT xs n2 s g = max (s - sumI (fl n2 (szF xs)) - g * ((n2 : Int) - 1)) 0 from rfl)
      obtain ⟨G, hGe⟩ : ∃ G, g * ((n2 : Int) - 1) = G := ⟨_, rfl⟩
      have e1 : IntKind.i64.wrap ((n2 : Int) - 1) = (n2 : Int) - 1 := IntWalk.i64_in _ (by omega)
      have e2 : IntKind.i64.wrap (g * ((n2 : Int) - 1)) = G := by rw [hGe]; exact IntWalk.i64_in _ (by omega)
      rw [hGe] at hG HL
      clear hGe
      go_wp2
      go_loopw [7, 8, 9] (fun s7 s8 s9 wr => ∃ (i : Nat) (W9 : World), i ≤ n2 ∧ s7 = .int .i64 (G + sumI (fl i (szF xs))) ∧ s8 = .bool (decide (0 < sumI (fl i (ptF xs)))) ∧ s9 = .int .i64 i ∧ W9 = wr ∧ Hid (Below W3.heap.size W3 W9)) (fun _ _ s9 _ => n2 - (intOf s9).toNat)
      case atStart => exact ⟨0, _, Nat.zero_le _, by rw [show sumI (fl 0 (szF xs)) = 0 from rfl, Int.add_zero], rfl, rfl, rfl, hide (Below.refl _ _)⟩
      case round =>
        obtain ⟨i, W9, hi, rfl, rfl, rfl, rfl, HW⟩ := hrel
        have hSi := sz_sum HV.out hi
        have hPi := pt_sum HV.out hi
        by_cases hin : i < n2
        · have hL := L_3.out.below HW.out (by omega)
          have hP := PL_3.out.below HW.out (by omega)
          rw [hE.out] at hP
          obtain ⟨b, off, rfl, _, hcl⟩ := hL.2.2 (by omega)
          obtain ⟨b1, o1, rfl, _, hcp⟩ := hP.2.2 (by omega)
          have c0 := hcl (i * 2) (by omega)
          have c1 := hcl (i * 2 + 1) (by omega)
          rw [← Nat.add_assoc] at c1
          have di := hcp i hin
          rw [trackL, fl_at _ hin] at di
          change _ = some (Value.int .i64 (szF xs i)) at c0
          change _ = some (Value.int .i64 (ptF xs i)) at c1
          have ht := track_at HV.out hin
          have hsame := hide (fun h => tr_same (space := s) (gap := g) HV.out hin h)
          have hSN := hide (sumI_fl_succ i (szF xs))
          have hPN := hide (sumI_fl_succ i (ptF xs))
          have f1 : (i : Int) < (n2 : Int) := by omega
          clear hcl hcp hL hP
          generalize szF xs i = x at c0 ht hsame hSN
          generalize ptF xs i = p at c1 ht hsame hPN
          generalize trF xs n2 s g i = y at di hsame
          generalize sumI (fl i (szF xs)) = S at hSi hSN ⊢
          generalize sumI (fl i (ptF xs)) = T at hPi hPN ⊢
          have e3 : IntKind.i64.wrap (G + S + x) = G + S + x := IntWalk.i64_in _ (by omega)
          by_cases hT : 0 < T
          · have g1 : decide (0 < T) = true := by simp; omega
            by_cases hp : p = 0
            · have hy := hsame.out hp
              have DP := hide (show decide (0 < sumI (fl (i + 1) (ptF xs))) = true by rw [hPN.out]; simp; omega)
              subst hp hy
              clear hsame hPN
              rw [g1]
              have g2 : (y != y) = false := by simp
              go_wp2
              go_quiet (fail)
              go_wp2
              go_roundw
              case rel => exact ⟨i + 1, _, by omega, by rw [hSN.out]; exact congrArg _ (by omega), by rw [DP.out], by go_num, rfl, hide (below_drewN HW.out _)⟩
              case measure => simp [intOf]; omega
            · have DP := hide (show decide (0 < sumI (fl (i + 1) (ptF xs))) = true by rw [hPN.out]; simp; omega)
              have g2 : (p == 0) = false := by simpa using hp
              clear hsame hPN hp
              rw [g1]
              go_wp2
              go_quiet (fail)
              go_wp2
              go_roundw
              case rel => exact ⟨i + 1, _, by omega, by rw [hSN.out]; exact congrArg _ (by omega), by rw [DP.out], by go_num, rfl, hide (below_drewN HW.out _)⟩
              case measure => simp [intOf]; omega
          · have g1 : decide (0 < T) = false := by simp; omega
            obtain rfl : T = 0 := by omega
            by_cases hp : p = 0
            · have hy := hsame.out hp
              have DP := hide (show decide (0 < sumI (fl (i + 1) (ptF xs))) = false by rw [hPN.out]; simp; omega)
              subst hp hy
              clear hsame hPN hT
              rw [g1]
              have g2 : (y != y) = false := by simp
              go_wp2
              go_quiet (fail)
              go_wp2
              go_roundw
              case rel => exact ⟨i + 1, _, by omega, by rw [hSN.out]; exact congrArg _ (by omega), by rw [DP.out], by go_num, rfl, hide (below_drewN HW.out _)⟩
              case measure => simp [intOf]; omega
            · have DP := hide (show decide (0 < sumI (fl (i + 1) (ptF xs))) = true by rw [hPN.out]; simp; omega)
              have g2 : (p == 0) = false := by simpa using hp
              have g3 : decide (0 < p) = true := by simp; omega
              have g4 : 0 < p := by omega
              clear hsame hPN hp hT
              rw [g1]
              go_wp2
              go_quiet (fail)
              go_wp2
              go_roundw
              case rel => exact ⟨i + 1, _, by omega, by rw [hSN.out]; exact congrArg _ (by omega), by rw [DP.out], by go_num, rfl, hide (below_drewN HW.out _)⟩
              case measure => simp [intOf]; omega
        · obtain rfl : i = n2 := by omega
          have hS := hide (lawsSum_any W1.heap.size P i c2 (trackL xs i s g) W9 (by have := PL_3.out.below HW.out (by omega); rw [hE.out] at this; exact this) (by omega) (tr_small HV.out hs' hg'))
          have hTS := hide (tr_sum HV.out s g)
          have DB := hide (B_3.out.trans (HW.out.mono (by omega)))
          clear HW L_3 PL_3 B_3
          generalize sumI (trackL xs i s g) = U at hS hTS
          generalize sumI (fl i (szF xs)) = S at hSi hTS HL ⊢
          generalize sumI (fl i (ptF xs)) = T at hPi hTS ⊢
          have hU : U = S + (if 0 < T then max (s - S - G) 0 else 0) := by rw [hTS.out, HL.out]
          clear hTS HL
          by_cases hT : 0 < T
          · have g1 : decide (0 < T) = true := by simp; omega
            rw [if_pos hT] at hU
            rw [g1]
            clear hT g1
            rcases Int.lt_trichotomy s (G + S) with hlt | heq | hgt
            · obtain rfl : U = S := by omega
              have e3 : IntKind.i64.wrap (U + G) = G + U := by rw [IntWalk.i64_in _ (by omega)]; omega
              have z1 : (G + U == G + U) = true := by simp
              clear hU
              have z9 : ((i : Int) == (i : Int)) = true := by simp
              go_wp2_with (go_at_call 18; refine hS.out.mono ?_; rintro e w' ⟨rfl, rfl⟩)
              go_ret
              exact ⟨by first | rfl | exact ret_bool (by simp), DB.out⟩
            · obtain rfl : U = S := by omega
              subst heq
              have e3 : IntKind.i64.wrap (U + G) = G + U := by rw [IntWalk.i64_in _ (by omega)]; omega
              have z1 : (G + U == G + U) = true := by simp
              clear hU
              have z9 : ((i : Int) == (i : Int)) = true := by simp
              go_wp2_with (go_at_call 18; refine hS.out.mono ?_; rintro e w' ⟨rfl, rfl⟩)
              go_ret
              exact ⟨by first | rfl | exact ret_bool (by simp), DB.out⟩
            · obtain rfl : U = s - G := by omega
              have e3 : IntKind.i64.wrap (s - G + G) = s := by rw [IntWalk.i64_in _ (by omega)]; omega
              have z1 : (s == s) = true := by simp
              have z2 : G + S < s := hgt
              clear hU
              have z9 : ((i : Int) == (i : Int)) = true := by simp
              go_wp2_with (go_at_call 18; refine hS.out.mono ?_; rintro e w' ⟨rfl, rfl⟩)
              go_ret
              exact ⟨by first | rfl | exact ret_bool (by simp), DB.out⟩
          · have g1 : decide (0 < T) = false := by simp; omega
            rw [if_neg hT] at hU
            rw [g1]
            obtain rfl : U = S := by omega
            have e3 : IntKind.i64.wrap (U + G) = G + U := by rw [IntWalk.i64_in _ (by omega)]; omega
            have z1 : (G + U == G + U) = true := by simp
            have z9 : ((i : Int) == (i : Int)) = true := by simp
            clear hU hT g1
            go_wp2_with (go_at_call 18; refine hS.out.mono ?_; rintro e w' ⟨rfl, rfl⟩)
            go_ret
            exact ⟨by first | rfl | exact ret_bool (by simp), DB.out⟩
end Go.Proofs.Ytelokjobhfhhfaa
