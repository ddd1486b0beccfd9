/- The law FnTrackSizesPart. Conditions: none. -/
import Derived.Test.YtelokjobhfhhfaaTrackP
import Derived.Test.YtelokjobhfhhfaaDrawT
import Derived.BigQuiet
namespace Go.Proofs.Ytelokjobhfhhfaa
open Go.RowKit
set_option linter.unusedVariables false
set_option linter.unusedSimpArgs false
set_option maxRecDepth 100000 in
set_option maxHeartbeats 4000000 in
theorem walk_FnTrackSizesPart (a0 : Option Addr) (len cap : Nat) (zs : List Int) (w : World) (h0 : Ints .u8 w w.heap.size a0 len zs) (hc : len ≤ cap) :
    Calls Try.prog 9 #[.slice a0 len cap] w fun e w' => e = .returned (.bool true) ∧ Below w.heap.size w w' := by
  by_cases hl : len ≤ 1048576
  case neg =>
    go_enter Try.func9, Try.ntmps9
    go_wp2
    go_ret
    exact ⟨rfl, Below.refl _ _⟩
  case pos =>
    go_enter Try.func9, Try.ntmps9
    go_wp2_with fail
    refine (drawSizes_any a0 len cap zs _ h0 hc).mono ?_
    rintro e W0 ⟨A, n, c, xs, s, g, rfl, hn9, hnc, hcm, hs, hg, hrow, hb0⟩
    clear h0
    have L_0 := hide hrow.ints
    have B_0 := hide hb0
    have hz0 := hb0.size
    clear hrow hb0
    go_wp2_with fail
    refine (implSizes_any W0.heap.size A n c xs (s) g _ L_0.out (by omega) (by omega)).mono ?_
    rintro e W1 ⟨P, n2, c2, rfl, P1, P2, rP, hb⟩
    have PL_1 := hide rP.ints
    have PH := hide rP.1
    clear rP
    have hz1 := hb.size
    have L_1 := hide (L_0.out.below hb (by omega))
    have B_1 := hide (B_0.out.trans (hb.mono (by omega)))
    clear hb L_0 B_0
    go_wp2_with fail
    refine (specSizes_any W0.heap.size A n c xs (s) g _ L_1.out (by omega) (by omega)).mono ?_
    rintro e W2 ⟨Q, n3, c3, rfl, Q1, Q2, rQ, hb⟩
    have QL_2 := hide rQ.ints
    have QH := hide rQ.1
    clear rQ
    have hz2 := hb.size
    have L_2 := hide (L_1.out.below hb (by omega))
    have B_2 := hide (B_1.out.trans (hb.mono (by omega)))
    have PL_2 := hide (PL_1.out.below hb (by omega))
    clear hb L_1 B_1 PL_1
    go_wp2_with fail
    refine (equalInts_any W1.heap.size W2.heap.size P Q n2 n3 c2 c3 (sizesT xs n s g) (sizesT xs n s g) _ PL_2.out QL_2.out (by omega) (by omega)).mono ?_
    rintro e W3 ⟨rfl, hb⟩
    rw [listEq_self]
    clear QL_2
    have hz3 := hb.size
    have L_3 := hide (L_2.out.below hb (by omega))
    have B_3 := hide (B_2.out.trans (hb.mono (by omega)))
    have PL_3 := hide (PL_2.out.below hb (by omega))
    clear hb L_2 B_2 PL_2
    cases hk : trOkB xs n s g
    case false =>
      have h2 : n2 = 0 := by have h3 := PH.out; rw [sizes_len, if_neg (by rw [hk]; simp)] at h3; exact h3.symm
      subst h2
      by_cases hn0 : n = 0
      · subst hn0
        go_wp2
        go_loopw [7] (fun s7 wr => ∃ W9 : World, s7 = .int .i64 0 ∧ W9 = wr ∧ Hid (Below w.heap.size w W9)) (fun _ _ => 0)
        case atStart => exact ⟨_, rfl, rfl, B_3⟩
        case round =>
          obtain ⟨W9, rfl, rfl, HB⟩ := hrel
          go_wp2
          go_ret
          exact ⟨rfl, HB.out⟩
      · have hne : ((0 : Int) != (n : Int)) = true := by simp; omega
        go_wp2_with fail
        refine (specSizes_any W0.heap.size A n c xs (s) g _ L_3.out (by omega) (by omega)).mono ?_
        rintro e W4 ⟨R, n4, c4, rfl, R1, R2, rR, hb⟩
        have RL_4 := hide rR.ints
        have RH := hide rR.1
        clear rR
        have hz4 := hb.size
        have L_4 := hide (L_3.out.below hb (by omega))
        have B_4 := hide (B_3.out.trans (hb.mono (by omega)))
        have PL_4 := hide (PL_3.out.below hb (by omega))
        clear hb L_3 B_3 PL_3
        go_wp2_with fail
        refine (equalInts_any W1.heap.size W4.heap.size P R 0 n4 c2 c4 (sizesT xs n s g) (sizesT xs n s g) _ PL_4.out RL_4.out (by omega) (by omega)).mono ?_
        rintro e W5 ⟨rfl, hb⟩
        rw [listEq_self]
        clear RL_4
        have hz5 := hb.size
        have L_5 := hide (L_4.out.below hb (by omega))
        have B_5 := hide (B_4.out.trans (hb.mono (by omega)))
        have PL_5 := hide (PL_4.out.below hb (by omega))
        clear hb L_4 B_4 PL_4
        go_wp2
        go_ret
        exact ⟨rfl, B_5.out⟩
    case true =>
      have h2 : n2 = n := by have h3 := PH.out; rw [sizes_len, if_pos hk] at h3; exact h3.symm
      subst h2
      obtain ⟨hv, hs', hg'⟩ := trOkB_iff.1 hk
      have HV := hide hv
      have hn1 := (validTr_iff.1 hv).1
      have hE := hide (show sizesT xs n2 s g = trackL xs n2 s g from if_pos hk)
      have hnn : ((n2 : Int) != (n2 : Int)) = false := by simp
      go_wp2
      go_loopw [7] (fun s7 wr => ∃ (i : Nat) (W9 : World), i ≤ n2 ∧ s7 = .int .i64 i ∧ W9 = wr ∧ Hid (Below W3.heap.size W3 W9)) (fun s7 _ => n2 - (intOf s7).toNat)
      case atStart => exact ⟨0, _, Nat.zero_le _, rfl, rfl, hide (Below.refl _ _)⟩
      case round =>
        obtain ⟨i, W9, hi, rfl, rfl, HW⟩ := hrel
        by_cases hin : i < n2
        · go_wp2
          go_loopw [8] (fun s8 wr => ∃ (k : Nat) (W8 : World), k ≤ n2 ∧ s8 = .int .i64 k ∧ W8 = wr ∧ Hid (Below W3.heap.size W3 W8)) (fun s8 _ => n2 - (intOf s8).toNat)
          case atStart => exact ⟨0, _, Nat.zero_le _, rfl, rfl, HW⟩
          case round =>
            clear HW
            obtain ⟨k, W8, hkn, rfl, rfl, HW⟩ := hrel
            by_cases hkl : k < n2
            · have hL := L_3.out.below HW.out (by omega)
              have hP := PL_3.out.below HW.out (by omega)
              rw [hE.out] at hP
              obtain ⟨b, off, rfl, _, hcl⟩ := hL.2.2 (by omega)
              obtain ⟨b1, o1, rfl, _, hcp⟩ := hP.2.2 (by omega)
              have ci := hcl (i * 2 + 1) (by omega)
              have ck := hcl (k * 2 + 1) (by omega)
              rw [← Nat.add_assoc] at ci ck
              have di := hcp i hin
              have dk := hcp k hkl
              rw [trackL, fl_at _ hin] at di
              rw [trackL, fl_at _ hkl] at dk
              change _ = some (Value.int .i64 (ptF xs i)) at ci
              change _ = some (Value.int .i64 (ptF xs k)) at ck
              have hpp := hide (fun (h1 : ptF xs k < ptF xs i) (h2 : 0 < ptF xs k) => tr_part (space := s) (gap := g) HV.out hs' hg' hin hkl h1 h2)
              have f1 : (i : Int) < (n2 : Int) := by omega
              have f2 : (k : Int) < (n2 : Int) := by omega
              clear hcl hcp hL hP
              generalize ptF xs i = u at ci hpp
              generalize ptF xs k = v at ck hpp
              generalize trF xs n2 s g i = x at di hpp
              generalize trF xs n2 s g k = y at dk hpp
              by_cases h1 : v < u
              · by_cases h2 : 0 < v
                · have h3 := hpp.out h1 h2
                  have h4 : decide (x < y) = false := by simp; omega
                  have h5 : decide (v < u) = true := by simp; omega
                  have h6 : decide (0 < v) = true := by simp; omega
                  clear hpp
                  go_wp2
                  go_quiet (fail)
                  go_wp2
                  go_roundw
                  case rel => exact ⟨k + 1, _, by omega, by go_num, rfl, hide (below_drewN HW.out _)⟩
                  case measure => simp [intOf]; omega
                · have h5 : decide (v < u) = true := by simp; omega
                  have h6 : decide (0 < v) = false := by simp; omega
                  clear hpp h2
                  go_wp2
                  go_quiet (fail)
                  go_wp2
                  go_roundw
                  case rel => exact ⟨k + 1, _, by omega, by go_num, rfl, hide (below_drewN HW.out _)⟩
                  case measure => simp [intOf]; omega
              · have h5 : decide (v < u) = false := by simp; omega
                clear hpp h1
                go_wp2
                go_quiet (fail)
                go_wp2
                go_roundw
                case rel => exact ⟨k + 1, _, by omega, by go_num, rfl, hide (below_drewN HW.out _)⟩
                case measure => simp [intOf]; omega
            · obtain rfl : k = n2 := by omega
              go_wp2
              go_roundw
              case rel => exact ⟨i + 1, _, by omega, by go_num, rfl, HW⟩
              case measure => simp [intOf]; omega
        · obtain rfl : i = n2 := by omega
          go_wp2
          go_ret
          exact ⟨rfl, B_3.out.trans (HW.out.mono (by omega))⟩
end Go.Proofs.Ytelokjobhfhhfaa
