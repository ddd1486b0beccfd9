/- The law FnTrackSizesMore. Conditions: none. -/
import Derived.Test.YtelokjobhfhhfaaTrackP
import Derived.Test.YtelokjobhfhhfaaDrawT
import Derived.BigQuiet
namespace Go.Proofs.Ytelokjobhfhhfaa
open Go.RowKit
set_option linter.unusedVariables false
set_option linter.unusedSimpArgs false
set_option maxRecDepth 100000 in
set_option maxHeartbeats 4000000 in
theorem walk_FnTrackSizesMore (a0 : Option Addr) (len cap : Nat) (zs : List Int) (w : World) (h0 : Ints .u8 w w.heap.size a0 len zs) (hc : len ≤ cap) :
    Calls Try.prog 6 #[.slice a0 len cap] w fun e w' => e = .returned (.bool true) ∧ Below w.heap.size w w' := by
  by_cases hl : len ≤ 1048576
  case neg =>
    go_enter Try.func6, Try.ntmps6
    go_wp2
    go_ret
    exact ⟨rfl, Below.refl _ _⟩
  case pos =>
    go_enter Try.func6, Try.ntmps6
    go_wp2_with fail
    refine (drawSizes_any a0 len cap zs _ h0 hc).mono ?_
    rintro e W0 ⟨A, n, c, xs, s, g, rfl, hn9, hnc, hcm, hs, hg, hrow, hb0⟩
    clear h0
    have L_0 := hide hrow.ints
    have B_0 := hide hb0
    have hz0 := hb0.size
    clear hrow hb0
    go_wp2_with fail
    refine (implSizes_any W0.heap.size A n c xs (s) g _ L_0.out (by omega) (by omega)).mono ?_
    rintro e W1 ⟨P, n2, c2, rfl, P1, P2, rP, hb⟩
    have PL_1 := hide rP.ints
    have PH := hide rP.1
    clear rP
    have hz1 := hb.size
    have L_1 := hide (L_0.out.below hb (by omega))
    have B_1 := hide (B_0.out.trans (hb.mono (by omega)))
    clear hb L_0 B_0
    go_wp2_with fail
    refine (specSizes_any W0.heap.size A n c xs (s) g _ L_1.out (by omega) (by omega)).mono ?_
    rintro e W2 ⟨Q, n3, c3, rfl, Q1, Q2, rQ, hb⟩
    have QL_2 := hide rQ.ints
    have QH := hide rQ.1
    clear rQ
    have hz2 := hb.size
    have L_2 := hide (L_1.out.below hb (by omega))
    have B_2 := hide (B_1.out.trans (hb.mono (by omega)))
    have PL_2 := hide (PL_1.out.below hb (by omega))
    clear hb L_1 B_1 PL_1
    go_wp2_with fail
    refine (equalInts_any W1.heap.size W2.heap.size P Q n2 n3 c2 c3 (sizesT xs n s g) (sizesT xs n s g) _ PL_2.out QL_2.out (by omega) (by omega)).mono ?_
    rintro e W3 ⟨rfl, hb⟩
    rw [listEq_self]
    clear QL_2
    have hz3 := hb.size
    have L_3 := hide (L_2.out.below hb (by omega))
    have B_3 := hide (B_2.out.trans (hb.mono (by omega)))
    have PL_3 := hide (PL_2.out.below hb (by omega))
    clear hb L_2 B_2 PL_2
    cases hk : trOkB xs n s g
    case false =>
      have h2 : n2 = 0 := by have h3 := PH.out; rw [sizes_len, if_neg (by rw [hk]; simp)] at h3; exact h3.symm
      subst h2
      go_wp2_with fail
      refine (specSizes_any W0.heap.size A n c xs (s) g _ L_3.out (by omega) (by omega)).mono ?_
      rintro e W4 ⟨R, n4, c4, rfl, R1, R2, rR, hb⟩
      have RL_4 := hide rR.ints
      have RH := hide rR.1
      clear rR
      have hz4 := hb.size
      have L_4 := hide (L_3.out.below hb (by omega))
      have B_4 := hide (B_3.out.trans (hb.mono (by omega)))
      have PL_4 := hide (PL_3.out.below hb (by omega))
      clear hb L_3 B_3 PL_3
      go_wp2_with fail
      refine (equalInts_any W1.heap.size W4.heap.size P R 0 n4 c2 c4 (sizesT xs n s g) (sizesT xs n s g) _ PL_4.out RL_4.out (by omega) (by omega)).mono ?_
      rintro e W5 ⟨rfl, hb⟩
      rw [listEq_self]
      clear RL_4
      have hz5 := hb.size
      have L_5 := hide (L_4.out.below hb (by omega))
      have B_5 := hide (B_4.out.trans (hb.mono (by omega)))
      have PL_5 := hide (PL_4.out.below hb (by omega))
      clear hb L_4 B_4 PL_4
      go_wp2
      go_ret
      exact ⟨rfl, B_5.out⟩
    case true =>
      have h2 : n2 = n := by have h3 := PH.out; rw [sizes_len, if_pos hk] at h3; exact h3.symm
      subst h2
      obtain ⟨hv, hs', hg'⟩ := trOkB_iff.1 hk
      have HV := hide hv
      have hn1 := (validTr_iff.1 hv).1
      have hE := hide (show sizesT xs n2 s g = trackL xs n2 s g from if_pos hk)
      have hz : ((n2 : Int) == 0) = false := by simp; omega
      by_cases hmx : s = 200000
      · have hsx : (s == 200000) = true := by simpa using hmx
        clear hmx
        go_wp2_with fail
        refine (specSizes_any W0.heap.size A n2 c xs (s) g _ L_3.out (by omega) (by omega)).mono ?_
        rintro e W4 ⟨R, n4, c4, rfl, R1, R2, rR, hb⟩
        have RL_4 := hide rR.ints
        have RH := hide rR.1
        clear rR
        have hz4 := hb.size
        have L_4 := hide (L_3.out.below hb (by omega))
        have B_4 := hide (B_3.out.trans (hb.mono (by omega)))
        have PL_4 := hide (PL_3.out.below hb (by omega))
        clear hb L_3 B_3 PL_3
        go_wp2_with fail
        refine (equalInts_any W1.heap.size W4.heap.size P R n2 n4 c2 c4 (sizesT xs n2 s g) (sizesT xs n2 s g) _ PL_4.out RL_4.out (by omega) (by omega)).mono ?_
        rintro e W5 ⟨rfl, hb⟩
        rw [listEq_self]
        clear RL_4
        have hz5 := hb.size
        have L_5 := hide (L_4.out.below hb (by omega))
        have B_5 := hide (B_4.out.trans (hb.mono (by omega)))
        have PL_5 := hide (PL_4.out.below hb (by omega))
        clear hb L_4 B_4 PL_4
        go_wp2
        go_ret
        exact ⟨rfl, B_5.out⟩
      · have hE2 := hide (show sizesT xs n2 (s + 1) g = trackL xs n2 (s + 1) g from if_pos (trOk_more hk hmx))
        have e1 : IntKind.i64.wrap (s + 1) = s + 1 := IntWalk.i64_in _ (by omega)
        have hsx : (s == 200000) = false := by simpa using hmx
        go_wp2_with fail
        refine (implSizes_any W0.heap.size A n2 c xs (s + 1) g _ L_3.out (by omega) (by omega)).mono ?_
        rintro e W4 ⟨R, n4, c4, rfl, R1, R2, rR, hb⟩
        have RL_4 := hide rR.ints
        have RH := hide rR.1
        clear rR
        have hz4 := hb.size
        have L_4 := hide (L_3.out.below hb (by omega))
        have B_4 := hide (B_3.out.trans (hb.mono (by omega)))
        have PL_4 := hide (PL_3.out.below hb (by omega))
        clear hb L_3 B_3 PL_3
        obtain rfl : n2 = n4 := by have h3 := RH.out; rw [sizes_len, if_pos (trOk_more hk hmx)] at h3; exact h3
        have hmx2 : s + 1 ≤ 200000 := by omega
        clear hmx
        have hm := hide (tr_more (space := s) (gap := g) HV.out)
        have hP := hide (lawsSum_any W1.heap.size P n2 c2 (trackL xs n2 s g) W4 (by have := PL_4.out; rw [hE.out] at this; exact this) (by omega) (tr_small HV.out hs' hg'))
        have hR := hide (lawsSum_any W4.heap.size R n2 c4 (trackL xs n2 (s + 1) g) W4 (by have := RL_4.out; rw [hE2.out] at this; exact this) (by omega) (tr_small HV.out (by omega) hg'))
        have hbd := hide (show (0 ≤ sumI (trackL xs n2 s g) ∧ sumI (trackL xs n2 s g) ≤ 1000000) from by
          rw [tr_sum HV.out]
          have q1 := sz_sum HV.out (Nat.le_refl n2)
          have q2 := left_ok HV.out hs' hg'
          split <;> omega)
        generalize sumI (trackL xs n2 s g) = T at hm hP hbd
        generalize sumI (trackL xs n2 (s + 1) g) = U at hm hR
        have hbd' := hbd.out
        have e2 : IntKind.i64.wrap (T + 1) = T + 1 := IntWalk.i64_in _ (by omega)
        rcases hm.out with hU | hU
        · subst hU
          go_wp2_with (first
            | (go_at_call_of 18 (Value.slice P n2 c2); refine hP.out.mono ?_; rintro e w' ⟨rfl, rfl⟩)
            | (go_at_call_of 18 (Value.slice R n2 c4); refine hR.out.mono ?_; rintro e w' ⟨rfl, rfl⟩))
          go_ret
          exact ⟨rfl, B_4.out⟩
        · subst hU
          have hne : (T + 1 == T) = false := by simp; omega
          go_wp2_with (first
            | (go_at_call_of 18 (Value.slice P n2 c2); refine hP.out.mono ?_; rintro e w' ⟨rfl, rfl⟩)
            | (go_at_call_of 18 (Value.slice R n2 c4); refine hR.out.mono ?_; rintro e w' ⟨rfl, rfl⟩))
          go_ret
          exact ⟨rfl, B_4.out⟩
end Go.Proofs.Ytelokjobhfhhfaa
