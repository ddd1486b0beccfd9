/- The laws of frames. Conditions: none. -/
import Derived.Test.YtldmnpflcnmcpaaFrame
import Derived.Test.YtldmnpflcnmcpaaDrawF
namespace Go.Proofs.Ytldmnpflcnmcpaa
open Go.RowKit
set_option linter.unusedVariables false
theorem quiet_anyF {P : Program} {f : FuncId} {args : Array Value} {w : World} {n : Nat} {v : Value}
    (h : Calls P f args (w.drewN n) fun e w' => e = .returned v ∧ w.drewN n = w') : Calls P f args (w.drewN n) fun e w'' => e = .returned v ∧ ∃ m, w'' = w.drewN m :=
  h.mono fun _ _ ⟨he, hm⟩ => ⟨he, n, hm.symm⟩
theorem lackS_len (cs bs : List Int) : (lackS cs bs).length ≤ 12 := by
  unfold lackS
  split
  · rename_i h; rw [lackL_len]; exact (workB_iff.1 h).1.1
  · simp
theorem finS_len (cs bs : List Int) : (finS cs bs).length ≤ 12 := by
  unfold finS
  split
  · rename_i h; rw [finL_len]; exact (workB_iff.1 h).1.1
  · simp

set_option maxHeartbeats 2000000 in
theorem walk_FnWorkLeft (a0 : Option Addr) (len cap : Nat) (zs : List Int) (w : World) (h0 : Ints .u8 w w.heap.size a0 len zs) (hc : len ≤ cap) :
    Calls Try.prog 11 #[.slice a0 len cap] w fun e w' => e = .returned (.bool true) ∧ Below w.heap.size w w' := by
  obtain ⟨i0, hI, hI0, hI1, hI2⟩ := info_parts int_info
  by_cases hl : len ≤ 1048576
  case neg =>
    go_enter Try.func11, Try.ntmps11
    go_wp2
    go_ret
    exact ⟨rfl, Below.refl _ _⟩
  case pos =>
    go_enter Try.func11, Try.ntmps11
    go_wp2_with fail
    refine (drawWork_any a0 len cap zs _ h0 hc).mono ?_
    rintro e W0 ⟨A, n, c, xs, B, m, d, ys, rfl, hn15, hm15, hnc, hc9, hmd, hd9, rX, rY, hb0⟩
    clear h0
    have hX_0 := hide rX.ints
    have hY_0 := hide rY.ints
    have hB_0 := hide hb0
    have hz0' := hb0.size
    have hxl := hide rX.1
    have hyl := hide rY.1
    clear rX rY hb0
    go_wp2_with fail
    refine (implLack_any W0.heap.size A B n c m d xs ys _ hX_0.out hY_0.out (by omega) (by omega) (by omega)).mono ?_
    rintro e W1 ⟨P, Pn, Pc, rfl, P1, P2, rP, hb⟩
    have hP_1 := hide rP.ints
    clear rP
    have hX_1 := hide (hX_0.out.below hb (by omega))
    have hY_1 := hide (hY_0.out.below hb (by omega))
    have hB_1 := hide (hB_0.out.trans (hb.mono (by omega)))
    have hz1 := hb.size
    clear hb hX_0 hY_0 hB_0
    have hPl := hide hP_1.out.1
    have hPn : Pn ≤ 12 := by have := hPl.out; have := lackS_len xs ys; omega
    go_wp2_with fail
    refine (specLack_any W0.heap.size A B n c m d xs ys _ hX_1.out hY_1.out (by omega) (by omega) (by omega)).mono ?_
    rintro e W2 ⟨Q, Qn, Qc, rfl, Q1, Q2, rQ, hb⟩
    have hQ_2 := hide rQ.ints
    clear rQ
    have hX_2 := hide (hX_1.out.below hb (by omega))
    have hY_2 := hide (hY_1.out.below hb (by omega))
    have hP_2 := hide (hP_1.out.below hb (by omega))
    have hB_2 := hide (hB_1.out.trans (hb.mono (by omega)))
    have hz2 := hb.size
    clear hb hX_1 hY_1 hP_1 hB_1
    have hQn : Qn ≤ 12 := by have := hQ_2.out.1; have := lackS_len xs ys; omega
    go_wp2_with fail
    refine (equalInts_any W1.heap.size W2.heap.size P Q Pn Qn Pc Qc _ _ _ hP_2.out hQ_2.out (by omega) (by omega)).mono ?_
    rintro e W3 ⟨rfl, hb⟩
    rw [listEq_self (lackS xs ys)]
    have hX_3 := hide (hX_2.out.below hb (by omega))
    have hY_3 := hide (hY_2.out.below hb (by omega))
    have hP_3 := hide (hP_2.out.below hb (by omega))
    have hB_3 := hide (hB_2.out.trans (hb.mono (by omega)))
    have hz3 := hb.size
    clear hb hX_2 hY_2 hP_2 hB_2
    by_cases hp0 : Pn = 0
    · subst hp0
      go_wp2_with fail
      refine (specLack_any W0.heap.size A B n c m d xs ys _ hX_3.out hY_3.out (by omega) (by omega) (by omega)).mono ?_
      rintro e W4 ⟨Q, Qn, Qc, rfl, Q1, Q2, rQ, hb⟩
      have hQ_4 := hide rQ.ints
      clear rQ
      have hX_4 := hide (hX_3.out.below hb (by omega))
      have hY_4 := hide (hY_3.out.below hb (by omega))
      have hP_4 := hide (hP_3.out.below hb (by omega))
      have hB_4 := hide (hB_3.out.trans (hb.mono (by omega)))
      have hz4 := hb.size
      clear hb hX_3 hY_3 hP_3 hB_3
      have hQn : Qn ≤ 12 := by have := hQ_4.out.1; have := lackS_len xs ys; omega
      go_wp2_with fail
      refine (equalInts_any W1.heap.size W4.heap.size P Q 0 Qn Pc Qc _ _ _ hP_4.out hQ_4.out (by omega) (by omega)).mono ?_
      rintro e W5 ⟨rfl, hb⟩
      rw [listEq_self (lackS xs ys)]
      have hX_5 := hide (hX_4.out.below hb (by omega))
      have hY_5 := hide (hY_4.out.below hb (by omega))
      have hP_5 := hide (hP_4.out.below hb (by omega))
      have hB_5 := hide (hB_4.out.trans (hb.mono (by omega)))
      have hz5 := hb.size
      clear hb hX_4 hY_4 hP_4 hB_4
      go_wp2
      go_ret
      exact ⟨rfl, hB_5.out⟩
    · have hok : workB xs ys = true := by
        by_cases h : workB xs ys = true
        · exact h
        · have h1 := hPl.out; rw [lackS, if_neg h] at h1; simp at h1; omega
      have hS := hide (show lackS xs ys = lackL xs (sumI ys) from if_pos hok)
      have hPn2 : Pn = n := by have h1 := hPl.out; rw [hS.out, lackL_len, hxl.out] at h1; omega
      obtain ⟨⟨hx1, hx2⟩, hy1, hy2⟩ := workB_iff.1 hok
      have hsum := hide (sum_lack hx2 (sumI_costs hy2).1)
      have hsmX := hide hx2.small
      have hsmY := hide hy2.small
      have hbx := sumI_costs hx2
      have hby := sumI_costs hy2
      have hlk := hide (fun (k : Nat) (hk : k < xs.length) => lack_bd (B := sumI ys) hx2 hk)
      have hla := hide (fun (k : Nat) (hk : k < xs.length) => lackL_at (B := sumI ys) hk)
      have hsmP := hide (show Small 1000000000 (lackL xs (sumI ys)) from fun z hz => by
        obtain ⟨i, hi, rfl⟩ := List.getElem_of_mem hz
        rw [lackL_len] at hi
        have h1 := hlk.out i hi
        have h2 := hx2.at hi
        have h3 := hla.out i hi
        rw [List.getD_eq_getElem?_getD, List.getElem?_eq_getElem (by rw [lackL_len]; exact hi)] at h3
        simp only [Option.getD_some] at h3
        omega)
      have hbx1 : 0 ≤ sumI xs ∧ sumI xs ≤ 12000 := by omega
      have hby1 : 0 ≤ sumI ys ∧ sumI ys ≤ 12000 := by omega
      rw [hS.out] at hP_3
      clear hok hx1 hx2 hy1 hy2 hbx hby hS
      subst hPn2
      have hpp : 0 < Pn := by omega
      go_wp2
      go_loopw [6] (fun s wr => ∃ (k : Nat) (W9 : World), k ≤ Pn ∧ s = .int .i64 k ∧ W9 = wr ∧ Hid (Below W3.heap.size W3 W9)) (fun s _ => Pn - (intOf s).toNat)
      case atStart => exact ⟨0, W3, Nat.zero_le _, rfl, rfl, hide (Below.refl _ _)⟩
      case round =>
        obtain ⟨k, W9, hk, rfl, rfl, hL_9⟩ := hrel
        have hb := hL_9.out
        have hX_9 := hide (hX_3.out.below hb (by omega))
        have hY_9 := hide (hY_3.out.below hb (by omega))
        have hP_9 := hide (hP_3.out.below hb (by omega))
        have hB_9 := hide (hB_3.out.trans (hb.mono (by omega)))
        have hz9 := hb.size
        clear hb hX_3 hY_3 hP_3 hB_3
        by_cases hlt : k < Pn
        · obtain ⟨b1, o1, rfl, _, hcell⟩ := hX_9.out.2.2 (by omega)
          obtain ⟨b2, o2, rfl, _, hcell'⟩ := hP_9.out.2.2 (by omega)
          have h1 := hcell k hlt
          have h2 := hcell' k hlt
          rw [hla.out k (by have := hxl.out; omega)] at h2
          have h3 := hlk.out k (by have := hxl.out; omega)
          clear hcell hcell'
          generalize xs.getD k 0 = y at h1 h3
          generalize lackAt xs (sumI ys) k = z at h2 h3
          have e1 : decide (z < 0) = false := by simp; omega
          have e2 : decide (y < z) = false := by simp; omega
          have e3 : decide (Pn ≤ k) = false := by simp; omega
          have e4 : (k : Int) < (Pn : Int) := by omega
          go_wp2
          go_quiet (fail)
          go_wp2
          go_roundw
          case rel => exact ⟨k + 1, _, by omega, by go_num, rfl, hide (below_drewN hL_9.out _)⟩
          case measure => simp [intOf]; omega
        · obtain rfl : k = Pn := by omega
          go_wp2_with fail
          refine (lawsSum_any W1.heap.size P k Pc _ _ hP_9.out (by omega) hsmP.out).mono ?_
          rintro e w' ⟨rfl, rfl⟩
          go_wp2_with fail
          refine (lawsSum_any W0.heap.size A k c xs _ hX_9.out (by omega) hsmX.out).mono ?_
          rintro e w' ⟨rfl, rfl⟩
          go_wp2_with fail
          refine (lawsSum_any W0.heap.size B m d ys _ hY_9.out (by omega) hsmY.out).mono ?_
          rintro e w' ⟨rfl, rfl⟩
          rw [hsum.out]
          clear hsum
          generalize sumI xs = sx at hbx1 ⊢
          generalize sumI ys = sy at hby1 ⊢
          by_cases hd : 0 < sx - sy
          · rw [Int.max_eq_right (show (0 : Int) ≤ sx - sy by omega)]
            have hd2 : sy < sx := by omega
            have hd3 : ¬ sx - sy < 0 := by omega
            go_wp2
            go_ret
            exact ⟨ret_bool (by simp), hB_9.out⟩
          · rw [Int.max_eq_left (show sx - sy ≤ (0 : Int) by omega)]
            have hd2 : sx ≤ sy := by omega
            go_wp2
            go_ret
            exact ⟨ret_bool (by simp), hB_9.out⟩
set_option maxHeartbeats 2000000 in
theorem walk_FnWorkLeftDone (a0 : Option Addr) (len cap : Nat) (zs : List Int) (w : World) (h0 : Ints .u8 w w.heap.size a0 len zs) (hc : len ≤ cap) :
    Calls Try.prog 13 #[.slice a0 len cap] w fun e w' => e = .returned (.bool true) ∧ Below w.heap.size w w' := by
  obtain ⟨i0, hI, hI0, hI1, hI2⟩ := info_parts int_info
  by_cases hl : len ≤ 1048576
  case neg =>
    go_enter Try.func13, Try.ntmps13
    go_wp2
    go_ret
    exact ⟨rfl, Below.refl _ _⟩
  case pos =>
    go_enter Try.func13, Try.ntmps13
    go_wp2_with fail
    refine (drawWork_any a0 len cap zs _ h0 hc).mono ?_
    rintro e W0 ⟨A, n, c, xs, B, m, d, ys, rfl, hn15, hm15, hnc, hc9, hmd, hd9, rX, rY, hb0⟩
    clear h0
    have hX_0 := hide rX.ints
    have hY_0 := hide rY.ints
    have hB_0 := hide hb0
    have hz0' := hb0.size
    have hxl := hide rX.1
    have hyl := hide rY.1
    clear rX rY hb0
    go_wp2_with fail
    refine (implLack_any W0.heap.size A B n c m d xs ys _ hX_0.out hY_0.out (by omega) (by omega) (by omega)).mono ?_
    rintro e W1 ⟨P, Pn, Pc, rfl, P1, P2, rP, hb⟩
    have hP_1 := hide rP.ints
    clear rP
    have hX_1 := hide (hX_0.out.below hb (by omega))
    have hY_1 := hide (hY_0.out.below hb (by omega))
    have hB_1 := hide (hB_0.out.trans (hb.mono (by omega)))
    have hz1 := hb.size
    clear hb hX_0 hY_0 hB_0
    have hPl := hide hP_1.out.1
    have hPn : Pn ≤ 12 := by have := hPl.out; have := lackS_len xs ys; omega
    go_wp2_with fail
    refine (specLack_any W0.heap.size A B n c m d xs ys _ hX_1.out hY_1.out (by omega) (by omega) (by omega)).mono ?_
    rintro e W2 ⟨Q, Qn, Qc, rfl, Q1, Q2, rQ, hb⟩
    have hQ_2 := hide rQ.ints
    clear rQ
    have hX_2 := hide (hX_1.out.below hb (by omega))
    have hY_2 := hide (hY_1.out.below hb (by omega))
    have hP_2 := hide (hP_1.out.below hb (by omega))
    have hB_2 := hide (hB_1.out.trans (hb.mono (by omega)))
    have hz2 := hb.size
    clear hb hX_1 hY_1 hP_1 hB_1
    have hQn : Qn ≤ 12 := by have := hQ_2.out.1; have := lackS_len xs ys; omega
    go_wp2_with fail
    refine (equalInts_any W1.heap.size W2.heap.size P Q Pn Qn Pc Qc _ _ _ hP_2.out hQ_2.out (by omega) (by omega)).mono ?_
    rintro e W3 ⟨rfl, hb⟩
    rw [listEq_self (lackS xs ys)]
    have hX_3 := hide (hX_2.out.below hb (by omega))
    have hY_3 := hide (hY_2.out.below hb (by omega))
    have hP_3 := hide (hP_2.out.below hb (by omega))
    have hB_3 := hide (hB_2.out.trans (hb.mono (by omega)))
    have hz3 := hb.size
    clear hb hX_2 hY_2 hP_2 hB_2
    by_cases hp0 : Pn = 0
    · subst hp0
      go_wp2_with fail
      refine (specLack_any W0.heap.size A B n c m d xs ys _ hX_3.out hY_3.out (by omega) (by omega) (by omega)).mono ?_
      rintro e W4 ⟨Q, Qn, Qc, rfl, Q1, Q2, rQ, hb⟩
      have hQ_4 := hide rQ.ints
      clear rQ
      have hX_4 := hide (hX_3.out.below hb (by omega))
      have hY_4 := hide (hY_3.out.below hb (by omega))
      have hP_4 := hide (hP_3.out.below hb (by omega))
      have hB_4 := hide (hB_3.out.trans (hb.mono (by omega)))
      have hz4 := hb.size
      clear hb hX_3 hY_3 hP_3 hB_3
      have hQn : Qn ≤ 12 := by have := hQ_4.out.1; have := lackS_len xs ys; omega
      go_wp2_with fail
      refine (equalInts_any W1.heap.size W4.heap.size P Q 0 Qn Pc Qc _ _ _ hP_4.out hQ_4.out (by omega) (by omega)).mono ?_
      rintro e W5 ⟨rfl, hb⟩
      rw [listEq_self (lackS xs ys)]
      have hX_5 := hide (hX_4.out.below hb (by omega))
      have hY_5 := hide (hY_4.out.below hb (by omega))
      have hP_5 := hide (hP_4.out.below hb (by omega))
      have hB_5 := hide (hB_4.out.trans (hb.mono (by omega)))
      have hz5 := hb.size
      clear hb hX_4 hY_4 hP_4 hB_4
      go_wp2
      go_ret
      exact ⟨rfl, hB_5.out⟩
    · by_cases hm0 : m = 0
      · subst hm0
        have q1 : ((Pn : Int) == 0) = false := by simp; omega
        go_wp2_with fail
        refine (specLack_any W0.heap.size A B n c 0 d xs ys _ hX_3.out hY_3.out (by omega) (by omega) (by omega)).mono ?_
        rintro e W4 ⟨Q, Qn, Qc, rfl, Q1, Q2, rQ, hb⟩
        have hQ_4 := hide rQ.ints
        clear rQ
        have hX_4 := hide (hX_3.out.below hb (by omega))
        have hY_4 := hide (hY_3.out.below hb (by omega))
        have hP_4 := hide (hP_3.out.below hb (by omega))
        have hB_4 := hide (hB_3.out.trans (hb.mono (by omega)))
        have hz4 := hb.size
        clear hb hX_3 hY_3 hP_3 hB_3
        have hQn : Qn ≤ 12 := by have := hQ_4.out.1; have := lackS_len xs ys; omega
        go_wp2_with fail
        refine (equalInts_any W1.heap.size W4.heap.size P Q Pn Qn Pc Qc _ _ _ hP_4.out hQ_4.out (by omega) (by omega)).mono ?_
        rintro e W5 ⟨rfl, hb⟩
        rw [listEq_self (lackS xs ys)]
        have hX_5 := hide (hX_4.out.below hb (by omega))
        have hY_5 := hide (hY_4.out.below hb (by omega))
        have hP_5 := hide (hP_4.out.below hb (by omega))
        have hB_5 := hide (hB_4.out.trans (hb.mono (by omega)))
        have hz5 := hb.size
        clear hb hX_4 hY_4 hP_4 hB_4
        go_wp2
        go_ret
        exact ⟨rfl, hB_5.out⟩
      · have hok : workB xs ys = true := by
          by_cases h : workB xs ys = true
          · exact h
          · have h1 := hPl.out; rw [lackS, if_neg h] at h1; simp at h1; omega
        have hS := hide (show lackS xs ys = lackL xs (sumI ys) from if_pos hok)
        have hS2 := hide (show finS xs ys = finL xs ys from if_pos hok)
        have hPn2 : Pn = n := by have h1 := hPl.out; rw [hS.out, lackL_len, hxl.out] at h1; omega
        obtain ⟨⟨hx1, hx2⟩, hy1, hy2⟩ := workB_iff.1 hok
        have hla := hide (fun (k : Nat) (hk : k < xs.length) => lackL_at (B := sumI ys) hk)
        have hfa := hide (fun (k : Nat) (hk : k < xs.length) => finL_at (bs := ys) hk)
        have hdn := hide (fun (k : Nat) (hk : k < xs.length) (h0 : 0 ≤ finAt xs ys k) => done_lack hx2 hy2 hk h0)
        have hnd := hide (fun (k : Nat) (hk : k < xs.length) (h0 : finAt xs ys k < 0) (hl : lackAt xs (sumI ys) k = 0) => not_done_lack hx2 hy2 (by have := hyl.out; omega) hk h0 hl)
        rw [hS.out] at hP_3
        clear hok hx1 hx2 hy1 hy2 hS
        subst hPn2
        have hpp : 0 < Pn := by omega
        have hmm : 0 < m := by omega
        have q1 : ((Pn : Int) == 0) = false := by simp; omega
        have q2 : ((m : Int) == 0) = false := by simp; omega
        go_wp2_with fail
        refine (implFin_any W0.heap.size A B Pn c m d xs ys _ hX_3.out hY_3.out (by omega) hnc hmd hc9 hd9 (by omega) (by omega)).mono ?_
        rintro e W4 ⟨R, Rn, Rc, rfl, R1, R2, rR, hb⟩
        have hR_4 := hide rR.ints
        clear rR
        have hX_4 := hide (hX_3.out.below hb (by omega))
        have hY_4 := hide (hY_3.out.below hb (by omega))
        have hP_4 := hide (hP_3.out.below hb (by omega))
        have hB_4 := hide (hB_3.out.trans (hb.mono (by omega)))
        have hz4 := hb.size
        clear hb hX_3 hY_3 hP_3 hB_3
        have hRn : Rn = Pn := by have h1 := hR_4.out.1; rw [hS2.out, finL_len, hxl.out] at h1; omega
        subst hRn
        rw [hS2.out] at hR_4
        go_wp2
        go_loopw [7] (fun s wr => ∃ (k : Nat) (W9 : World), k ≤ Rn ∧ s = .int .i64 k ∧ W9 = wr ∧ Hid (Below W4.heap.size W4 W9)) (fun s _ => Rn - (intOf s).toNat)
        case atStart => exact ⟨0, W4, Nat.zero_le _, rfl, rfl, hide (Below.refl _ _)⟩
        case round =>
          obtain ⟨k, W9, hk, rfl, rfl, hL_9⟩ := hrel
          have hb := hL_9.out
          have hX_9 := hide (hX_4.out.below hb (by omega))
          have hY_9 := hide (hY_4.out.below hb (by omega))
          have hP_9 := hide (hP_4.out.below hb (by omega))
          have hR_9 := hide (hR_4.out.below hb (by omega))
          have hB_9 := hide (hB_4.out.trans (hb.mono (by omega)))
          have hz9 := hb.size
          clear hb hX_4 hY_4 hP_4 hR_4 hB_4
          by_cases hlt : k < Rn
          · obtain ⟨b1, o1, rfl, _, hcell⟩ := hX_9.out.2.2 (by omega)
            obtain ⟨b2, o2, rfl, _, hcell'⟩ := hP_9.out.2.2 (by omega)
            obtain ⟨b3, o3, rfl, _, hcell3⟩ := hR_9.out.2.2 (by omega)
            have h1 := hcell k hlt
            have h2 := hcell' k hlt
            have h3 := hcell3 k hlt
            rw [hla.out k (by have := hxl.out; omega)] at h2
            rw [hfa.out k (by have := hxl.out; omega)] at h3
            have g1 := hdn.out k (by have := hxl.out; omega)
            have g2 := hnd.out k (by have := hxl.out; omega)
            clear hcell hcell' hcell3
            generalize xs.getD k 0 = y at h1 g2
            generalize lackAt xs (sumI ys) k = z at h2 g1 g2
            generalize finAt xs ys k = f at h3 g1 g2
            by_cases hf : 0 ≤ f
            · obtain rfl : z = 0 := g1 hf
              clear g1 g2
              have e1 : ¬ f < 0 := by omega
              go_wp2
              all_goals
                go_roundw
                case rel => exact ⟨k + 1, _, by omega, by go_num, rfl, hL_9⟩
                case measure => simp [intOf]; omega
            · by_cases hz : z = 0
              · subst hz
                have e1 : y ≤ 0 := g2 (by omega) rfl
                have e2 : f < 0 := by omega
                clear g1 g2
                go_wp2
                all_goals
                  go_roundw
                  case rel => exact ⟨k + 1, _, by omega, by go_num, rfl, hL_9⟩
                  case measure => simp [intOf]; omega
              · have e1 : (z == 0) = false := by simpa using hz
                have e2 : f < 0 := by omega
                clear g1 g2
                go_wp2
                all_goals
                  go_roundw
                  case rel => exact ⟨k + 1, _, by omega, by go_num, rfl, hL_9⟩
                  case measure => simp [intOf]; omega
          · obtain rfl : k = Rn := by omega
            go_wp2
            go_ret
            exact ⟨rfl, hB_9.out⟩
set_option maxHeartbeats 2000000 in
theorem walk_FnFinishFramesBudget (a0 : Option Addr) (len cap : Nat) (zs : List Int) (w : World) (h0 : Ints .u8 w w.heap.size a0 len zs) (hc : len ≤ cap) :
    Calls Try.prog 12 #[.slice a0 len cap] w fun e w' => e = .returned (.bool true) ∧ Below w.heap.size w w' := by
  obtain ⟨i0, hI, hI0, hI1, hI2⟩ := info_parts int_info
  by_cases hl : len ≤ 1048576
  case neg =>
    go_enter Try.func12, Try.ntmps12
    go_wp2
    go_ret
    exact ⟨rfl, Below.refl _ _⟩
  case pos =>
    go_enter Try.func12, Try.ntmps12
    go_wp2_with fail
    refine (drawFinish_any a0 len cap zs _ h0 hc).mono ?_
    rintro e W0 ⟨A, n, c, xs, B, m, d, ys, rfl, hn15, hm15, hnc, hc9, hmd, hd9, rX, rY, hb0⟩
    clear h0
    have hX_0 := hide rX.ints
    have hY_0 := hide rY.ints
    have hB_0 := hide hb0
    have hz0' := hb0.size
    have hxl := hide rX.1
    have hyl := hide rY.1
    clear rX rY hb0
    go_wp2_with fail
    refine (implFin_any W0.heap.size A B n c m d xs ys _ hX_0.out hY_0.out (by omega) hnc hmd hc9 hd9 (by omega) (by omega)).mono ?_
    rintro e W1 ⟨P, Pn, Pc, rfl, P1, P2, rP, hb⟩
    have hP_1 := hide rP.ints
    clear rP
    have hX_1 := hide (hX_0.out.below hb (by omega))
    have hY_1 := hide (hY_0.out.below hb (by omega))
    have hB_1 := hide (hB_0.out.trans (hb.mono (by omega)))
    have hz1 := hb.size
    clear hb hX_0 hY_0 hB_0
    have hPl := hide hP_1.out.1
    have hPn : Pn ≤ 12 := by have := hPl.out; have := finS_len xs ys; omega
    go_wp2_with fail
    refine (specFin_any W0.heap.size A B n c m d xs ys _ hX_1.out hY_1.out (by omega) (by omega) (by omega)).mono ?_
    rintro e W2 ⟨Q, Qn, Qc, rfl, Q1, Q2, rQ, hb⟩
    have hQ_2 := hide rQ.ints
    clear rQ
    have hX_2 := hide (hX_1.out.below hb (by omega))
    have hY_2 := hide (hY_1.out.below hb (by omega))
    have hP_2 := hide (hP_1.out.below hb (by omega))
    have hB_2 := hide (hB_1.out.trans (hb.mono (by omega)))
    have hz2 := hb.size
    clear hb hX_1 hY_1 hP_1 hB_1
    have hQn : Qn ≤ 12 := by have := hQ_2.out.1; have := finS_len xs ys; omega
    go_wp2_with fail
    refine (equalInts_any W1.heap.size W2.heap.size P Q Pn Qn Pc Qc _ _ _ hP_2.out hQ_2.out (by omega) (by omega)).mono ?_
    rintro e W3 ⟨rfl, hb⟩
    rw [listEq_self (finS xs ys)]
    have hX_3 := hide (hX_2.out.below hb (by omega))
    have hY_3 := hide (hY_2.out.below hb (by omega))
    have hP_3 := hide (hP_2.out.below hb (by omega))
    have hB_3 := hide (hB_2.out.trans (hb.mono (by omega)))
    have hz3 := hb.size
    clear hb hX_2 hY_2 hP_2 hB_2
    by_cases hp0 : Pn = n
    case neg =>
      have hp1 : ((Pn : Int) != (n : Int)) = true := by simp; omega
      have hp2 : ((Pn : Int) == (n : Int)) = false := by simp; omega
      go_wp2_with fail
      refine (specFin_any W0.heap.size A B n c m d xs ys _ hX_3.out hY_3.out (by omega) (by omega) (by omega)).mono ?_
      rintro e W4 ⟨Q, Qn, Qc, rfl, Q1, Q2, rQ, hb⟩
      have hQ_4 := hide rQ.ints
      clear rQ
      have hX_4 := hide (hX_3.out.below hb (by omega))
      have hY_4 := hide (hY_3.out.below hb (by omega))
      have hP_4 := hide (hP_3.out.below hb (by omega))
      have hB_4 := hide (hB_3.out.trans (hb.mono (by omega)))
      have hz4 := hb.size
      clear hb hX_3 hY_3 hP_3 hB_3
      have hQn : Qn ≤ 12 := by have := hQ_4.out.1; have := finS_len xs ys; omega
      go_wp2_with fail
      refine (equalInts_any W1.heap.size W4.heap.size P Q Pn Qn Pc Qc _ _ _ hP_4.out hQ_4.out (by omega) (by omega)).mono ?_
      rintro e W5 ⟨rfl, hb⟩
      rw [listEq_self (finS xs ys)]
      have hX_5 := hide (hX_4.out.below hb (by omega))
      have hY_5 := hide (hY_4.out.below hb (by omega))
      have hP_5 := hide (hP_4.out.below hb (by omega))
      have hB_5 := hide (hB_4.out.trans (hb.mono (by omega)))
      have hz5 := hb.size
      clear hb hX_4 hY_4 hP_4 hB_4
      go_wp2
      go_ret
      exact ⟨rfl, hB_5.out⟩
    case pos =>
      have hok := hide (fun h0 : 0 < n => show workB xs ys = true by
        by_cases h : workB xs ys = true
        · exact h
        · have h1 := hPl.out; rw [finS, if_neg h] at h1; simp at h1; omega)
      have hpx := hide (fun (h0 : 0 < n) (k : Nat) => pre_bd (workB_iff.1 (hok.out h0)).1.2 k)
      have hey := hide (fun (h0 : 0 < n) (k : Nat) (hk : k < xs.length) => (workB_iff.1 (hok.out h0)).1.2.at hk)
      have hpy := hide (fun (h0 : 0 < n) (k : Nat) => pre_bd (workB_iff.1 (hok.out h0)).2.2 k)
      have hsm := hide (fun (h0 : 0 < n) => (workB_iff.1 (hok.out h0)).2.2.small)
      have hfa := hide (fun (h0 : 0 < n) (k : Nat) (hk : k < xs.length) => show (finS xs ys).getD k 0 = finAt xs ys k by rw [finS, if_pos (hok.out h0)]; exact finL_at hk)
      subst hp0
      go_wp2
      go_loopw [6, 7] (fun s6 s7 wr => ∃ (k : Nat) (W9 : World), k ≤ Pn ∧ s6 = .int .i64 (pre xs k) ∧ s7 = .int .i64 k ∧ W9 = wr ∧ Hid (Below W3.heap.size W3 W9)) (fun _ s7 _ => Pn - (intOf s7).toNat)
      case atStart => exact ⟨0, W3, Nat.zero_le _, rfl, rfl, rfl, hide (Below.refl _ _)⟩
      case round =>
        obtain ⟨k, W9, hk, rfl, rfl, rfl, hL_9⟩ := hrel
        have hb := hL_9.out
        have hX_9 := hide (hX_3.out.below hb (by omega))
        have hY_9 := hide (hY_3.out.below hb (by omega))
        have hP_9 := hide (hP_3.out.below hb (by omega))
        have hB_9 := hide (hB_3.out.trans (hb.mono (by omega)))
        have hz9 := hb.size
        clear hb hX_3 hY_3 hP_3 hB_3
        by_cases hlt : k < Pn
        · have h0 : 0 < Pn := by omega
          obtain ⟨b1, o1, rfl, _, hcell⟩ := hX_9.out.2.2 h0
          obtain ⟨b2, o2, rfl, _, hcell'⟩ := hP_9.out.2.2 h0
          have h1 := hcell k hlt
          have h2 := hcell' k hlt
          rw [hfa.out h0 k (by have := hxl.out; omega)] at h2
          have hp := hpx.out h0 k
          have hp' : 0 ≤ pre xs k ∧ pre xs k ≤ 12000 := by have := hxl.out; omega
          obtain ⟨y0, y1⟩ := hey.out h0 k (by have := hxl.out; omega)
          have HN := hide (pre_succ (xs := xs) (k := k) (by have := hxl.out; omega))
          have HF := hide (firstAt_cases ys (pre xs (k + 1)) ys.length)
          have HFe := hide (show finAt xs ys k = firstAt ys (pre xs (k + 1)) ys.length from rfl)
          rw [HN.out] at HF HFe
          clear hcell hcell' hp
          generalize finAt xs ys k = f at h2 HFe
          generalize xs.getD k 0 = y at h1 y0 y1 HN HF HFe
          obtain ⟨t, ht⟩ : ∃ t, pre xs k = t := ⟨_, rfl⟩
          rw [ht] at hp' HF HFe ⊢
          have HNt := hide (show pre xs (k + 1) = t + y by rw [HN.out, ht])
          clear ht HN
          rcases HF.out with ⟨hf1, hf2⟩ | ⟨g, hg1, hg2, hg3, hg4⟩
          · obtain rfl : f = -1 := by rw [HFe.out, hf1]
            have hf3 := hide (fun h : 0 < m => show sumI ys < t + y by
              have h3 := hf2 (m - 1) (by have := hyl.out; omega)
              rw [show m - 1 + 1 = ys.length by have := hyl.out; omega, pre_all] at h3
              exact h3)
            clear HF HFe hf1 hf2
            by_cases hm0 : m = 0
            · subst hm0
              go_wp2
              all_goals
                go_roundw
                case rel => exact ⟨k + 1, _, by omega, by rw [HNt.out], by go_num, rfl, hL_9⟩
                case measure => simp [intOf]; omega
            · have hm1 : 0 < m := by omega
              have h4 := hf3.out hm1
              have HS4 := hide h4
              clear h4 hm0 hf3
              go_wp2_with fail
              refine (lawsSum_any W0.heap.size B m d ys _ hY_9.out (by omega) (hsm.out h0)).mono ?_
              rintro e w' ⟨rfl, rfl⟩
              have h4 := HS4.out
              generalize sumI ys = sy at h4 ⊢
              go_wp2
              all_goals
                go_roundw
                case rel => exact ⟨k + 1, _, by omega, by rw [HNt.out], by go_num, rfl, hL_9⟩
                case measure => simp [intOf]; omega
          · obtain rfl : f = (g : Int) := by rw [HFe.out, hg2]
            have hgm : g < m := by have := hyl.out; omega
            have hg5 := hide (fun h : 0 < g => show pre ys g < t + y by
              have h3 := hg4 (g - 1) (by omega)
              rwa [show g - 1 + 1 = g by omega] at h3)
            have hg6 := hide hg3
            have HY1 := hide (hY_9.out.le (show g + 1 ≤ m by omega))
            have HY2 := hide (hY_9.out.le (show g ≤ m by omega))
            have HSM := hide (hsm.out h0)
            clear HF HFe hg2 hg3 hg4
            have e1 : ¬ (g : Int) < 0 := by omega
            go_wp2_with fail
            refine (lawsSum_any W0.heap.size B (g + 1) d (ys.take (g + 1)) _ HY1.out (by omega) (HSM.out.take _)).mono ?_
            rintro e w' ⟨rfl, rfl⟩
            rw [show sumI (ys.take (g + 1)) = pre ys (g + 1) from rfl]
            have h6 := hg6.out
            generalize pre ys (g + 1) = p1 at h6 ⊢
            by_cases hg0 : 0 < g
            · have h5 := hg5.out hg0
              have HS5 := hide h5
              clear h5
              go_wp2_with fail
              refine (lawsSum_any W0.heap.size B g d (ys.take g) _ HY2.out (by omega) (HSM.out.take _)).mono ?_
              rintro e w' ⟨rfl, rfl⟩
              rw [show sumI (ys.take g) = pre ys g from rfl]
              have h5 := HS5.out
              generalize pre ys g = p0 at h5 ⊢
              go_wp2
              all_goals
                go_roundw
                case rel => exact ⟨k + 1, _, by omega, by rw [HNt.out], by go_num, rfl, hL_9⟩
                case measure => simp [intOf]; omega
            · obtain rfl : g = 0 := by omega
              go_wp2
              all_goals
                go_roundw
                case rel => exact ⟨k + 1, _, by omega, by rw [HNt.out], by go_num, rfl, hL_9⟩
                case measure => simp [intOf]; omega
        · obtain rfl : k = Pn := by omega
          generalize pre xs k = t
          go_wp2
          go_ret
          exact ⟨rfl, hB_9.out⟩
end Go.Proofs.Ytldmnpflcnmcpaa
