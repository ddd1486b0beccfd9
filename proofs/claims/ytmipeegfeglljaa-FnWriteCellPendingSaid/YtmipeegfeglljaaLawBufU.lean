/- The drawn laws of WriteCell and FnSwapBuffersRead. Conditions: none. -/
import Derived.Test.YtmipeegfeglljaaLawBufX
import Derived.Test.YtmipeegfeglljaaSpecWrite
import Derived.Test.YtmipeegfeglljaaLawBufZ
namespace Go.Proofs.Ytmipeegfeglljaa
open Go.RowKit
set_option linter.unusedVariables false
theorem quiet_any {P : Program} {f : FuncId} {args : Array Value} {w : World} {n : Nat} {v : Value}
    (h : Calls P f args (w.drewN n) fun e w' => e = .returned v ∧ w.drewN n = w') : Calls P f args (w.drewN n) fun e w'' => e = .returned v ∧ ∃ m, w'' = w.drewN m :=
  h.mono fun _ _ ⟨he, hm⟩ => ⟨he, n, hm.symm⟩
set_option maxHeartbeats 1000000 in
theorem walk_FnWriteCellPending (a0 : Option Addr) (len cap : Nat) (zs : List Int) (w : World) (h0 : Ints .u8 w w.heap.size a0 len zs) (hc : len ≤ cap) :
    Calls Try.prog 7 #[.slice a0 len cap] w fun e w' => e = .returned (.bool true) ∧ Below w.heap.size w w' := by
  by_cases hl : len ≤ 1048576
  case neg =>
    go_enter Try.func7, Try.ntmps7
    go_wp2
    go_ret
    exact ⟨rfl, Below.refl _ _⟩
  case pos =>
    go_enter Try.func7, Try.ntmps7
    go_wp2_with fail
    refine (drawWriteCell_any a0 len cap zs _ h0 hc).mono ?_
    rintro e W0 ⟨A, n, c, B, m, d, xs, ys, v, i, x, rfl, hi0, hi1, hx0, hx1, hN⟩
    clear h0
    have hF_0 := hide hN.buf
    have hB_0 := hide hN.2.2.2.2.2.2.2.2.2.2
    have hz0 := hB_0.out.size
    clear hN
    have hxl : xs.length = n := hF_0.out.1.1
    have hyl : ys.length = m := hF_0.out.2.1.1
    have hlen := hide (writeS_len xs ys v i x)
    have he1 := bufEq_self (writeS xs ys v i x).xs (writeS xs ys v i x).ys (writeS xs ys v i x).v
    go_wp2_with fail
    refine (implWrite_any W0.heap.size A n c B m d xs ys v i x _ (hF_0.out.below (alB _ _) (Nat.le_refl _)) (by simp)).mono ?_
    rintro e W1 ⟨A1, n1, c1, B1, m1, d1, rfl, ht⟩
    have hb := ht.2.2.2.2.1
    have hbb := (alB W0 (.cells #[.slice A n c, .slice B m d, .int .i64 v] 25)).trans (hb.mono (by simp))
    have hF_1 := hide (hF_0.out.below hbb (Nat.le_refl _))
    have hG_1 := hide (ht.buf' hlen.out.1 hlen.out.2)
    have hB_1 := hide (hB_0.out.trans (hbb.mono hz0))
    obtain ⟨b0_1, b1_1, b2_1, _, _, _⟩ := AnyOp.cellsOf ((hb.block W0.heap.size (by simp)).trans (heap_alloc_new W0 _))
    have hz1 : W0.heap.size < W1.heap.size := by have := hb.size; simp at this; omega
    clear hb hbb ht hF_0 hB_0
    go_wp2_with fail
    refine (specWrite_any W0.heap.size A n c B m d xs ys v i x _ (hF_1.out.below (alB _ _) (by omega)) (by simp; omega)).mono ?_
    rintro e W2 ⟨A2, n2, c2, B2, m2, d2, rfl, ht⟩
    have hb := ht.2.2.2.2.1
    have hbb := (alB W1 (.cells #[.slice A1 n1 c1, .slice B1 m1 d1, .int .i64 (writeS xs ys v i x).v] 25)).trans (hb.mono (by simp))
    have hH_2 := hide (ht.buf' hlen.out.1 hlen.out.2)
    have hF_2 := hide (hF_1.out.below hbb (by omega))
    have hG_2 := hide (hG_1.out.below hbb (by omega))
    have hB_2 := hide (hB_1.out.trans (hbb.mono (by omega)))
    have b0_2 := (hbb.cell (p := ⟨W0.heap.size, 0, none⟩) hz1).trans b0_1
    have b1_2 := (hbb.cell (p := ⟨W0.heap.size, 1, none⟩) hz1).trans b1_1
    have b2_2 := (hbb.cell (p := ⟨W0.heap.size, 2, none⟩) hz1).trans b2_1
    obtain ⟨g0_2, g1_2, g2_2, _, _, _⟩ := AnyOp.cellsOf ((hb.block W1.heap.size (by simp)).trans (heap_alloc_new W1 _))
    have hz2 : W1.heap.size < W2.heap.size := by have := hb.size; simp at this; omega
    clear hb hbb ht hF_1 hG_1 hB_1 b0_1 b1_1 b2_1
    go_wp2_with fail
    have hGa := hide (hG_2.out.below (alB W2 (.cells #[.slice A2 n2 c2, .slice B2 m2 d2, .int .i64 (writeS xs ys v i x).v] 25)) (by omega))
    have hHa := hide (hH_2.out.below (alB W2 (.cells #[.slice A2 n2 c2, .slice B2 m2 d2, .int .i64 (writeS xs ys v i x).v] 25)) (Nat.le_refl _))
    refine (equalBuffers_any W1.heap.size W2.heap.size A1 n1 c1 B1 m1 d1 A2 n2 c2 B2 m2 d2 _ _ _ _ _ _ _ hGa.out.1 hGa.out.2.1 hHa.out.1 hHa.out.2.1 (by simp; omega) (by simp) (by have := hGa.out.2.2.1; omega) (by have := hGa.out.2.2.2.1; omega) (by have := hHa.out.2.2.1; omega) (by have := hHa.out.2.2.2.1; omega)).mono ?_
    rintro e W3 ⟨rfl, hb'⟩
    rw [he1]
    clear hGa hHa
    obtain ⟨h0_3, h1_3, h2_3, _, _, _⟩ := AnyOp.cellsOf ((hb'.block W2.heap.size (by simp)).trans (heap_alloc_new W2 _))
    have hb := (alB W2 (.cells #[.slice A2 n2 c2, .slice B2 m2 d2, .int .i64 (writeS xs ys v i x).v] 25)).trans (hb'.mono (by simp))
    have hz3' : W2.heap.size < W3.heap.size := by have := hb'.size; simp at this; omega
    clear hb'
    have hF_3 := hide (hF_2.out.below hb (by omega))
    have hG_3 := hide (hG_2.out.below hb (by omega))
    have hH_3 := hide (hH_2.out.below hb (by omega))
    have hB_3 := hide (hB_2.out.trans (hb.mono (by omega)))
    have b0_3 := (hb.cell (p := ⟨W0.heap.size, 0, none⟩) (by show W0.heap.size < W2.heap.size; omega)).trans b0_2
    have b1_3 := (hb.cell (p := ⟨W0.heap.size, 1, none⟩) (by show W0.heap.size < W2.heap.size; omega)).trans b1_2
    have b2_3 := (hb.cell (p := ⟨W0.heap.size, 2, none⟩) (by show W0.heap.size < W2.heap.size; omega)).trans b2_2
    have g0_3 := (hb.cell (p := ⟨W1.heap.size, 0, none⟩) (by show W1.heap.size < W2.heap.size; omega)).trans g0_2
    have g1_3 := (hb.cell (p := ⟨W1.heap.size, 1, none⟩) (by show W1.heap.size < W2.heap.size; omega)).trans g1_2
    have g2_3 := (hb.cell (p := ⟨W1.heap.size, 2, none⟩) (by show W1.heap.size < W2.heap.size; omega)).trans g2_2
    have hz3 := hb.size
    clear hb hF_2 hG_2 hH_2 hB_2 b0_2 b1_2 b2_2 g0_2 g1_2 g2_2
    by_cases hok : (writeS xs ys v i x).ok = true
    case neg =>
      rw [Bool.not_eq_true] at hok
      rw [hok]
      go_wp2_with fail
      refine (equalBuffers_any W1.heap.size W2.heap.size A1 n1 c1 B1 m1 d1 A2 n2 c2 B2 m2 d2 _ _ _ _ _ _ _ hG_3.out.1 hG_3.out.2.1 hH_3.out.1 hH_3.out.2.1 (by omega) (by omega) (by have := hG_3.out.2.2.1; omega) (by have := hG_3.out.2.2.2.1; omega) (by have := hH_3.out.2.2.1; omega) (by have := hH_3.out.2.2.2.1; omega)).mono ?_
      rintro e W4 ⟨rfl, hb⟩
      rw [he1]
      have hF_4 := hide (hF_3.out.below hb (by omega))
      have hG_4 := hide (hG_3.out.below hb (by omega))
      have hH_4 := hide (hH_3.out.below hb (by omega))
      have hB_4 := hide (hB_3.out.trans (hb.mono (by omega)))
      have b0_4 := (hb.cell (p := ⟨W0.heap.size, 0, none⟩) (by show W0.heap.size < W3.heap.size; omega)).trans b0_3
      have b1_4 := (hb.cell (p := ⟨W0.heap.size, 1, none⟩) (by show W0.heap.size < W3.heap.size; omega)).trans b1_3
      have b2_4 := (hb.cell (p := ⟨W0.heap.size, 2, none⟩) (by show W0.heap.size < W3.heap.size; omega)).trans b2_3
      have g0_4 := (hb.cell (p := ⟨W1.heap.size, 0, none⟩) (by show W1.heap.size < W3.heap.size; omega)).trans g0_3
      have g1_4 := (hb.cell (p := ⟨W1.heap.size, 1, none⟩) (by show W1.heap.size < W3.heap.size; omega)).trans g1_3
      have g2_4 := (hb.cell (p := ⟨W1.heap.size, 2, none⟩) (by show W1.heap.size < W3.heap.size; omega)).trans g2_3
      have h0_4 := (hb.cell (p := ⟨W2.heap.size, 0, none⟩) (by show W2.heap.size < W3.heap.size; omega)).trans h0_3
      have h1_4 := (hb.cell (p := ⟨W2.heap.size, 1, none⟩) (by show W2.heap.size < W3.heap.size; omega)).trans h1_3
      have h2_4 := (hb.cell (p := ⟨W2.heap.size, 2, none⟩) (by show W2.heap.size < W3.heap.size; omega)).trans h2_3
      have hz4 := hb.size
      clear hb hF_3 hG_3 hH_3 hB_3 b0_3 b1_3 b2_3 g0_3 g1_3 g2_3 h0_3 h1_3 h2_3
      go_wp2
      go_ret
      exact ⟨ret_bool (by simp), hB_4.out⟩
    case pos =>
      obtain ⟨hv, hj0, hj1, hxb0, hxb1⟩ := writeS_ok hok
      obtain ⟨j, rfl⟩ : ∃ j : Nat, i = (j : Int) := ⟨i.toNat, by omega⟩
      have hjx : j < xs.length := by omega
      have hS : writeS xs ys v j x = ⟨xs, ys.set j x, v, true⟩ := writeS_of hv hjx hxb0 hxb1
      have hv8 := (validB_iff.1 hv).1
      have hv9 := (validB_iff.1 hv).2.2.2.2
      have hyx := (validB_iff.1 hv).2.1
      have hvc : validB xs (ys.set j x) v = true := validB_set hv hxb0 hxb1
      simp only [hS] at hG_3 g2_3 hH_3 h2_3 he1 ⊢
      have bn1 := hG_3.out.2.2.1
      have bm1 := hG_3.out.2.2.2.1
      have bn := hF_3.out.2.2.1
      have bm := hF_3.out.2.2.2.1
      have hmn : m ≤ n ∧ n ≤ m := by omega
      clear hH_3 h0_3 h1_3 h2_3 hS he1
      have l1 : xs.length ≤ 16 := hv8.2
      have hlY : (ys.set j x).length ≤ 16 := by rw [List.length_set]; omega
      have HYJ := hide (show ∀ k, (ys.set j x).getD k 0 = if k = j then x else ys.getD k 0 by
        intro k
        simp only [List.getD_eq_getElem?_getD, List.getElem?_set]
        by_cases h : j = k
        · subst h; simp [show j < ys.length by omega]
        · simp [h, show ¬ k = j by omega])
      generalize ys.set j x = Y1 at *
      have HVC := hide hvc
      have HV := hide hv
      clear hvc hv
      go_wp2_with fail
      refine (implPend_any W0.heap.size A n c B m d xs ys v _ hF_3.out (by omega)).mono ?_
      rintro e W4 ⟨pA, pn, pc, rfl, hpc1, hpc2, hp, hb⟩
      have hpn : pn ≤ 16 := by have h := hp.1; have := pendS_len xs ys v; omega
      have hP_4 := hide hp.ints
      clear hp
      have hF_4 := hide (hF_3.out.below hb (by omega))
      have hG_4 := hide (hG_3.out.below hb (by omega))
      have hB_4 := hide (hB_3.out.trans (hb.mono (by omega)))
      have b0_4 := (hb.cell (p := ⟨W0.heap.size, 0, none⟩) (by show W0.heap.size < W3.heap.size; omega)).trans b0_3
      have b1_4 := (hb.cell (p := ⟨W0.heap.size, 1, none⟩) (by show W0.heap.size < W3.heap.size; omega)).trans b1_3
      have b2_4 := (hb.cell (p := ⟨W0.heap.size, 2, none⟩) (by show W0.heap.size < W3.heap.size; omega)).trans b2_3
      have g0_4 := (hb.cell (p := ⟨W1.heap.size, 0, none⟩) (by show W1.heap.size < W3.heap.size; omega)).trans g0_3
      have g1_4 := (hb.cell (p := ⟨W1.heap.size, 1, none⟩) (by show W1.heap.size < W3.heap.size; omega)).trans g1_3
      have g2_4 := (hb.cell (p := ⟨W1.heap.size, 2, none⟩) (by show W1.heap.size < W3.heap.size; omega)).trans g2_3
      have hz4 := hb.size
      clear hb hF_3 hG_3 hB_3 b0_3 b1_3 b2_3 g0_3 g1_3 g2_3
      go_wp2_with fail
      refine (implPend_any W1.heap.size A1 n1 c1 B1 m1 d1 xs Y1 v _ hG_4.out (by omega)).mono ?_
      rintro e W5 ⟨qA, qn, qc, rfl, hqc1, hqc2, hq, hb⟩
      have hqn : qn ≤ 16 := by have h := hq.1; have := pendS_len xs Y1 v; omega
      have hQ_5 := hide hq.ints
      clear hq
      have hF_5 := hide (hF_4.out.below hb (by omega))
      have hG_5 := hide (hG_4.out.below hb (by omega))
      have hP_5 := hide (hP_4.out.below hb (by omega))
      have hB_5 := hide (hB_4.out.trans (hb.mono (by omega)))
      have b0_5 := (hb.cell (p := ⟨W0.heap.size, 0, none⟩) (by show W0.heap.size < W4.heap.size; omega)).trans b0_4
      have b1_5 := (hb.cell (p := ⟨W0.heap.size, 1, none⟩) (by show W0.heap.size < W4.heap.size; omega)).trans b1_4
      have b2_5 := (hb.cell (p := ⟨W0.heap.size, 2, none⟩) (by show W0.heap.size < W4.heap.size; omega)).trans b2_4
      have g0_5 := (hb.cell (p := ⟨W1.heap.size, 0, none⟩) (by show W1.heap.size < W4.heap.size; omega)).trans g0_4
      have g1_5 := (hb.cell (p := ⟨W1.heap.size, 1, none⟩) (by show W1.heap.size < W4.heap.size; omega)).trans g1_4
      have g2_5 := (hb.cell (p := ⟨W1.heap.size, 2, none⟩) (by show W1.heap.size < W4.heap.size; omega)).trans g2_4
      have hz5 := hb.size
      clear hb hF_4 hG_4 hP_4 hB_4 b0_4 b1_4 b2_4 g0_4 g1_4 g2_4
      go_wp2
      have hnn : n ≤ 2097152 := bn
      skip
      go_loopw [12] (fun s wr => ∃ (k : Nat) (W9 : World), k ≤ n ∧ s = .int .i64 k ∧ W9 = wr ∧ Hid (Below W5.heap.size W5 W9)) (fun s _ => n - (intOf s).toNat)
      case atStart => exact ⟨0, W5, Nat.zero_le _, rfl, rfl, hide (Below.refl _ _)⟩
      case round =>
        obtain ⟨k, W9, hk, rfl, rfl, hL_9⟩ := hrel
        have hb := hL_9.out
        have hF_9 := hide (hF_5.out.below hb (by omega))
        have hG_9 := hide (hG_5.out.below hb (by omega))
        have hP_9 := hide (hP_5.out.below hb (by omega))
        have hQ_9 := hide (hQ_5.out.below hb (by omega))
        have hB_9 := hide (hB_5.out.trans (hb.mono (by omega)))
        have b0_9 := (hb.cell (p := ⟨W0.heap.size, 0, none⟩) (by show W0.heap.size < W5.heap.size; omega)).trans b0_5
        have b1_9 := (hb.cell (p := ⟨W0.heap.size, 1, none⟩) (by show W0.heap.size < W5.heap.size; omega)).trans b1_5
        have b2_9 := (hb.cell (p := ⟨W0.heap.size, 2, none⟩) (by show W0.heap.size < W5.heap.size; omega)).trans b2_5
        have g0_9 := (hb.cell (p := ⟨W1.heap.size, 0, none⟩) (by show W1.heap.size < W5.heap.size; omega)).trans g0_5
        have g1_9 := (hb.cell (p := ⟨W1.heap.size, 1, none⟩) (by show W1.heap.size < W5.heap.size; omega)).trans g1_5
        have g2_9 := (hb.cell (p := ⟨W1.heap.size, 2, none⟩) (by show W1.heap.size < W5.heap.size; omega)).trans g2_5
        have hz9 := hb.size
        clear hb hF_5 hG_5 hP_5 hQ_5 hB_5 b0_5 b1_5 b2_5 g0_5 g1_5 g2_5
        have HQr : ∀ nq, Ints .i64 (W9.drewN nq) W5.heap.size qA qn (pendS xs Y1 v) := fun nq => hQ_9.out
        have HPr : ∀ nq, Ints .i64 (W9.drewN nq) W4.heap.size pA pn (pendS xs ys v) := fun nq => hP_9.out
        by_cases hlt : k < n
        · have hk5 := hasI_pendS (xs := xs) (ys := ys) (k := k) HV.out (by omega)
          have hk6 := hasI_pendS (xs := xs) (ys := Y1) (k := k) HVC.out (by omega)
          rw [HYJ.out k] at hk6
          obtain ⟨b, off, rfl, _, hcell⟩ := hF_9.out.1.2.2 (by omega)
          have hck := hcell k hlt
          clear hcell
          generalize xs.getD k 0 = z at hk5 hk6 hck
          generalize ys.getD k 0 = y at hk5 hk6
          have hkn : (k : Int) < (n : Int) := by omega
          by_cases hkj : k = j
          · subst hkj
            rw [if_pos rfl] at hk6
            have e0 : ((k : Int) == (k : Int)) = true := by simp
            have e01 : ((k : Int) != (k : Int)) = false := by simp
            by_cases hzx : z = x
            · have hk7 : hasI (pendS xs Y1 v) k = false := by rw [hk6]; simp [hzx]
              have e1 : (z != x) = false := by simp [hzx]
              clear hk5 hk6 hzx
              go_wp2
              go_quiet ((go_at_call 22; exact quiet_any (lawsIsIn_any W5.heap.size qA qn qc (pendS xs Y1 v) k _ (HQr _) (by omega))))
              go_wp2
              go_roundw
              case rel => exact ⟨k + 1, _, by omega, by go_num, rfl, hide (below_drewN hL_9.out _)⟩
              case measure => simp [intOf]; omega
            · have hk7 : hasI (pendS xs Y1 v) k = true := by rw [hk6]; simp [hzx]
              have e1 : (z != x) = true := by simp [hzx]
              clear hk5 hk6 hzx
              go_wp2
              go_quiet ((go_at_call 22; exact quiet_any (lawsIsIn_any W5.heap.size qA qn qc (pendS xs Y1 v) k _ (HQr _) (by omega))))
              go_wp2
              go_roundw
              case rel => exact ⟨k + 1, _, by omega, by go_num, rfl, hide (below_drewN hL_9.out _)⟩
              case measure => simp [intOf]; omega
          · rw [if_neg hkj] at hk6
            have e0 : ((k : Int) == (j : Int)) = false := by simp; omega
            have e01 : ((k : Int) != (j : Int)) = true := by simp; omega
            have hk7 : hasI (pendS xs Y1 v) k = hasI (pendS xs ys v) k := by rw [hk5, hk6]
            clear hk5 hk6 hkj
            cases hbe : hasI (pendS xs ys v) k
            all_goals
              rw [hbe] at hk7
              go_wp2
              go_quiet ((go_at_call 22; exact quiet_any (lawsIsIn_any _ _ _ _ _ _ _ (by first | exact HQr _ | exact HPr _) (by omega))))
              go_wp2
              go_roundw
              case rel => exact ⟨k + 1, _, by omega, by go_num, rfl, hide (below_drewN hL_9.out _)⟩
              case measure => simp [intOf]; omega
        · obtain rfl : k = n := by omega
          go_wp2
          go_ret
          exact ⟨rfl, hB_9.out⟩
end Go.Proofs.Ytmipeegfeglljaa
