/- The law FnFinishFramesSlices. Conditions: none. -/
import Derived.Test.YtldmnpflcnmcpaaLawFrame
import Derived.Deep.RegionHeld3
namespace Go.Proofs.Ytldmnpflcnmcpaa
open Go.RowKit
set_option linter.unusedVariables false
theorem finS_nil (bs : List Int) : finS [] bs = [] := by unfold finS; split <;> rfl
/-- the halves of the first k budgets; any list, where no job is -/
def HalfRel (W3 : World) (n : Nat) (ys : List Int) (k : Nat) (s : Value) (wr : World) : Prop := ∃ hs, GrowRel W3 (2 * k) hs s wr ∧ (0 < n → hs = halves (ys.take k))
theorem halves_drew {w : World} {xs : List Int} {k : Nat} {s : Value} {base : World} (h : GrowRel base k xs s w) : GrowRel base k xs s w.drew := ⟨h.1, h.2.drew⟩

set_option maxHeartbeats 2000000 in
theorem walk_FnFinishFramesSlices (a0 : Option Addr) (len cap : Nat) (zs : List Int) (w : World) (h0 : Ints .u8 w w.heap.size a0 len zs) (hc : len ≤ cap) :
    Calls Try.prog 10 #[.slice a0 len cap] w fun e w' => e = .returned (.bool true) ∧ Below w.heap.size w w' := by
  obtain ⟨i0, hI, hI0, hI1, hI2⟩ := info_parts int_info
  by_cases hl : len ≤ 1048576
  case neg =>
    go_enter Try.func10, Try.ntmps10
    go_wp2
    go_ret
    exact ⟨rfl, Below.refl _ _⟩
  case pos =>
    go_enter Try.func10, Try.ntmps10
    go_wp2_with fail
    refine (drawFinish_any a0 len cap zs _ h0 hc).mono ?_
    rintro e W0 ⟨A, n, c, xs, B, m, d, ys, rfl, hn15, hm15, hnc, hc9, hmd, hd9, rX, rY, hb0⟩
    clear h0
    have hX_0 := hide rX.ints
    have hY_0 := hide rY.ints
    have hB_0 := hide hb0
    have hz0' := hb0.size
    have hxl := hide rX.1
    have hyl := hide rY.1
    clear rX rY hb0
    go_wp2_with fail
    refine (implFin_any W0.heap.size A B n c m d xs ys _ hX_0.out hY_0.out (by omega) hnc hmd hc9 hd9 (by omega) (by omega)).mono ?_
    rintro e W1 ⟨P, Pn, Pc, rfl, P1, P2, rP, hb⟩
    have hP_1 := hide rP.ints
    clear rP
    have hX_1 := hide (hX_0.out.below hb (by omega))
    have hY_1 := hide (hY_0.out.below hb (by omega))
    have hB_1 := hide (hB_0.out.trans (hb.mono (by omega)))
    have hz1 := hb.size
    clear hb hX_0 hY_0 hB_0
    have hPl := hide hP_1.out.1
    have hPn : Pn ≤ 12 := by have := hPl.out; have := finS_len xs ys; omega
    go_wp2_with fail
    refine (specFin_any W0.heap.size A B n c m d xs ys _ hX_1.out hY_1.out (by omega) (by omega) (by omega)).mono ?_
    rintro e W2 ⟨Q, Qn, Qc, rfl, Q1, Q2, rQ, hb⟩
    have hQ_2 := hide rQ.ints
    clear rQ
    have hX_2 := hide (hX_1.out.below hb (by omega))
    have hY_2 := hide (hY_1.out.below hb (by omega))
    have hP_2 := hide (hP_1.out.below hb (by omega))
    have hB_2 := hide (hB_1.out.trans (hb.mono (by omega)))
    have hz2 := hb.size
    clear hb hX_1 hY_1 hP_1 hB_1
    have hQn : Qn ≤ 12 := by have := hQ_2.out.1; have := finS_len xs ys; omega
    go_wp2_with fail
    refine (equalInts_any W1.heap.size W2.heap.size P Q Pn Qn Pc Qc _ _ _ hP_2.out hQ_2.out (by omega) (by omega)).mono ?_
    rintro e W3 ⟨rfl, hb⟩
    rw [listEq_self (finS xs ys)]
    have hX_3 := hide (hX_2.out.below hb (by omega))
    have hY_3 := hide (hY_2.out.below hb (by omega))
    have hP_3 := hide (hP_2.out.below hb (by omega))
    have hB_3 := hide (hB_2.out.trans (hb.mono (by omega)))
    have hz3 := hb.size
    clear hb hX_2 hY_2 hP_2 hB_2
    by_cases hp0 : Pn = n
    case neg =>
      have hp1 : ((Pn : Int) != (n : Int)) = true := by simp; omega
      have hp2 : ((Pn : Int) == (n : Int)) = false := by simp; omega
      go_wp2_with fail
      refine (specFin_any W0.heap.size A B n c m d xs ys _ hX_3.out hY_3.out (by omega) (by omega) (by omega)).mono ?_
      rintro e W4 ⟨Q, Qn, Qc, rfl, Q1, Q2, rQ, hb⟩
      have hQ_4 := hide rQ.ints
      clear rQ
      have hX_4 := hide (hX_3.out.below hb (by omega))
      have hY_4 := hide (hY_3.out.below hb (by omega))
      have hP_4 := hide (hP_3.out.below hb (by omega))
      have hB_4 := hide (hB_3.out.trans (hb.mono (by omega)))
      have hz4 := hb.size
      clear hb hX_3 hY_3 hP_3 hB_3
      have hQn : Qn ≤ 12 := by have := hQ_4.out.1; have := finS_len xs ys; omega
      go_wp2_with fail
      refine (equalInts_any W1.heap.size W4.heap.size P Q Pn Qn Pc Qc _ _ _ hP_4.out hQ_4.out (by omega) (by omega)).mono ?_
      rintro e W5 ⟨rfl, hb⟩
      rw [listEq_self (finS xs ys)]
      have hX_5 := hide (hX_4.out.below hb (by omega))
      have hY_5 := hide (hY_4.out.below hb (by omega))
      have hP_5 := hide (hP_4.out.below hb (by omega))
      have hB_5 := hide (hB_4.out.trans (hb.mono (by omega)))
      have hz5 := hb.size
      clear hb hX_4 hY_4 hP_4 hB_4
      go_wp2
      go_ret
      exact ⟨rfl, hB_5.out⟩
    case pos =>
      have hok := hide (fun h0 : 0 < n => show workB xs ys = true by
        by_cases h : workB xs ys = true
        · exact h
        · have h1 := hPl.out; rw [finS, if_neg h] at h1; simp at h1; omega)
      subst hp0
      have hq1 : ((Pn : Int) != (Pn : Int)) = false := by simp
      by_cases h6 : m ≤ 6
      case neg =>
        have hq2 : 6 < m := by omega
        go_wp2_with fail
        refine (specFin_any W0.heap.size A B Pn c m d xs ys _ hX_3.out hY_3.out (by omega) (by omega) (by omega)).mono ?_
        rintro e W4 ⟨Q, Qn, Qc, rfl, Q1, Q2, rQ, hb⟩
        have hQ_4 := hide rQ.ints
        clear rQ
        have hX_4 := hide (hX_3.out.below hb (by omega))
        have hY_4 := hide (hY_3.out.below hb (by omega))
        have hP_4 := hide (hP_3.out.below hb (by omega))
        have hB_4 := hide (hB_3.out.trans (hb.mono (by omega)))
        have hz4 := hb.size
        clear hb hX_3 hY_3 hP_3 hB_3
        have hQn : Qn ≤ 12 := by have := hQ_4.out.1; have := finS_len xs ys; omega
        go_wp2_with fail
        refine (equalInts_any W1.heap.size W4.heap.size P Q Pn Qn Pc Qc _ _ _ hP_4.out hQ_4.out (by omega) (by omega)).mono ?_
        rintro e W5 ⟨rfl, hb⟩
        rw [listEq_self (finS xs ys)]
        have hX_5 := hide (hX_4.out.below hb (by omega))
        have hY_5 := hide (hY_4.out.below hb (by omega))
        have hP_5 := hide (hP_4.out.below hb (by omega))
        have hB_5 := hide (hB_4.out.trans (hb.mono (by omega)))
        have hz5 := hb.size
        clear hb hX_4 hY_4 hP_4 hB_4
        go_wp2
        go_ret
        exact ⟨rfl, hB_5.out⟩
      case pos =>
        have HS := hide (show GrowRel W3 0 (halves (ys.take 0)) (.slice (some ⟨W3.heap.size, 0, none⟩) 0 0) (W3.alloc (.cells #[] 3)) from
          ⟨by rw [List.take_zero]; exact Own.made 3 1 W3 _ 0 W3.heap.size (Nat.le_refl _) (by omega) rfl, (Below.refl _ _).alloc (Nat.le_refl _) _⟩)
        have HGS := hide (show HalfRel W3 Pn ys 0 (.slice (some ⟨W3.heap.size, 0, none⟩) 0 0) (W3.alloc (.cells #[] 3)) from ⟨_, HS.out, fun _ => rfl⟩)
        clear HS
        go_wp2
        go_loopw [6, 7] (fun s6 s7 wr => ∃ (k : Nat) (W9 : World), k ≤ m ∧ s7 = .int .i64 k ∧ W9 = wr ∧ Hid (HalfRel W3 Pn ys k s6 W9)) (fun _ s7 _ => m - (intOf s7).toNat)
        case atStart => exact ⟨0, _, Nat.zero_le _, rfl, rfl, HGS⟩
        case round =>
          clear HGS
          obtain ⟨k, W9, hk, rfl, rfl, HC⟩ := hrel
          obtain ⟨hs, hg, hse⟩ := HC.out
          obtain ⟨A6, c6, hv6, hc1, hc2, _⟩ := hg.1.form
          subst hv6
          have HO := hide hg.1
          have HW := hide hg.2
          have HSE := hide hse
          clear hg hse HC
          have hzw := HW.out.size
          by_cases hlt : k < m
          · obtain ⟨b1, o1, rfl, hb1l, hcell⟩ := (hY_3.out.below HW.out (by omega)).2.2 (by omega)
            have h1 := hcell k hlt
            have h4 : (k : Int) < (m : Int) := by omega
            clear hcell
            by_cases hpn : 0 < Pn
            · have hy := (workB_iff.1 (hok.out hpn)).2.2.at (k := k) (by have := hyl.out; omega)
              have HX := hide (show halves (ys.take (k + 1)) = halves (ys.take k) ++ [ys.getD k 0 / 2, ys.getD k 0 - ys.getD k 0 / 2] from halves_take_succ (by have := hyl.out; omega))
              generalize ys.getD k 0 = y at h1 hy HX
              have e1 : y.tdiv 2 = y / 2 := Int.tdiv_eq_ediv_of_nonneg hy.1
              have e2 : IntKind.i64.wrap (y / 2) = y / 2 := IntWalk.i64_in _ (by omega)
              have e3 : IntKind.i64.wrap (y - y / 2) = y - y / 2 := IntWalk.i64_in _ (by omega)
              have HOa := hide (show ((W9.drew).alloc (.cells #[.int .i64 (y / 2), .int .i64 (y - y / 2)] 3)).ownsRow W3.heap.size 3 1 (.slice A6 (2 * k) c6) (2 * k) (iv hs) from World.ownsRow.alloc HO.out _)
              have HRd := hide (reads_new 3 W9.drew 1 2 [y / 2, y - y / 2] rfl)
              go_wp2_with fail
              go_region_held3 (fun w' => w'.cell? ⟨b1, o1 + k, none⟩ = some (.int .i64 y)) (first | go_keep | exact hcx)
                ((refine step_append_any _ (by rfl) _ _ _ (by rfl) W3.heap.size 3 i0 _ 1 8 Try.underlying22 hI hI0 hI1 hI2 rfl (by omega) (.slice A6 (2 * k) c6) (2 * k) (iv hs) (by rfl) HOa.out (W9.heap.size + 1) (some ⟨W9.heap.size, 0, none⟩) 2 2 (iv [y / 2, y - y / 2]) (by rfl) HRd.out (iv_one _) (by unfold maxLen; omega) (by omega) (by simp; omega) ?_; intro v1 w1 ho1 hg1 hv1; have hbw := Own.below HO.out hzw (only_trans (only_drew (World.grownBy_alloc W9 _ _)) hg1); have hcx := (hbw.cell (p := ⟨b1, o1 + k, none⟩) (by show b1 < W3.heap.size; omega)).trans h1))
              have D := hide (show HalfRel W3 Pn ys (k + 1) v1 w1 from ⟨hs ++ [y / 2, y - y / 2], ⟨by rw [← iv_append] at ho1; exact ho1, HW.out.trans hbw⟩, fun h => by rw [HX.out, HSE.out h]⟩)
              clear ho1 hg1 hv1 hbw HOa HRd
              go_wp2
              go_roundw
              case rel => exact ⟨k + 1, _, by omega, by go_num, rfl, D⟩
              case measure => simp [intOf]; omega
            · generalize ys.getD k 0 = y at h1
              have HOa := hide (show ((W9.drew).alloc (.cells #[.int .i64 (IntKind.i64.wrap (y.tdiv 2)), .int .i64 (IntKind.i64.wrap (y - IntKind.i64.wrap (y.tdiv 2)))] 3)).ownsRow W3.heap.size 3 1 (.slice A6 (2 * k) c6) (2 * k) (iv hs) from World.ownsRow.alloc HO.out _)
              have HRd := hide (reads_new 3 W9.drew 1 2 [IntKind.i64.wrap (y.tdiv 2), IntKind.i64.wrap (y - IntKind.i64.wrap (y.tdiv 2))] rfl)
              go_wp2_with fail
              go_region_held3 (fun w' => w'.cell? ⟨b1, o1 + k, none⟩ = some (.int .i64 y)) (first | go_keep | exact hcx)
                ((refine step_append_any _ (by rfl) _ _ _ (by rfl) W3.heap.size 3 i0 _ 1 8 Try.underlying22 hI hI0 hI1 hI2 rfl (by omega) (.slice A6 (2 * k) c6) (2 * k) (iv hs) (by rfl) HOa.out (W9.heap.size + 1) (some ⟨W9.heap.size, 0, none⟩) 2 2 (iv [IntKind.i64.wrap (y.tdiv 2), IntKind.i64.wrap (y - IntKind.i64.wrap (y.tdiv 2))]) (by rfl) HRd.out (iv_one _) (by unfold maxLen; omega) (by omega) (by simp; omega) ?_; intro v1 w1 ho1 hg1 hv1; have hbw := Own.below HO.out hzw (only_trans (only_drew (World.grownBy_alloc W9 _ _)) hg1); have hcx := (hbw.cell (p := ⟨b1, o1 + k, none⟩) (by show b1 < W3.heap.size; omega)).trans h1))
              have D := hide (show HalfRel W3 Pn ys (k + 1) v1 w1 from ⟨hs ++ [IntKind.i64.wrap (y.tdiv 2), IntKind.i64.wrap (y - IntKind.i64.wrap (y.tdiv 2))], ⟨by rw [← iv_append] at ho1; exact ho1, HW.out.trans hbw⟩, fun h => absurd h hpn⟩)
              clear ho1 hg1 hv1 hbw HOa HRd
              go_wp2
              go_roundw
              case rel => exact ⟨k + 1, _, by omega, by go_num, rfl, D⟩
              case measure => simp [intOf]; omega
          · obtain rfl : k = m := by omega
            have HBd := hide (HO.out.intsF)
            obtain ⟨A6', c6', hv6, _, _, hrow⟩ := HBd.out
            injection hv6 with q1 q2 q3
            subst q1 q3
            have hHs := hide hrow.ints
            clear hrow HBd
            have hHX := hide ((hX_3.out.below HW.out (by omega)).more (show W0.heap.size ≤ W9.heap.size by omega))
            have hHP := hide (hP_3.out.below HW.out (by omega))
            have hBB := hide (hB_3.out.trans (HW.out.mono (by omega)))
            have hsl := hide (show hs.length = 2 * k from hHs.out.1)
            have hk6 : 2 * k ≤ 12 := by omega
            clear HO HW
            go_wp2_with fail
            refine (implFin_any W9.heap.size A A6 Pn c (2 * k) c6 xs hs _ hHX.out hHs.out (Nat.le_refl _) hnc hc1 hc9 hc2 (by omega) (by omega)).mono ?_
            rintro e W10 ⟨T, Tn, Tc, rfl, hT1, hT2, rT, hb⟩
            have hTl := hide rT.1
            have hT_10 := hide rT.ints
            have hP_10 := hide (hHP.out.below hb (by omega))
            have hB_10 := hide (hBB.out.trans (hb.mono (by omega)))
            have hz10 := hb.size
            clear rT hb hHs hHX hHP hBB
            have hTn : Tn = Pn := by
              by_cases hpn : 0 < Pn
              · have hw := workB_iff.1 (hok.out hpn)
                have h1 : workB xs hs = true := by
                  rw [workB_iff]
                  refine ⟨hw.1, by have := hsl.out; omega, ?_⟩
                  rw [HSE.out hpn]
                  exact halves_costs (hw.2.2.take _)
                have h2 := hTl.out
                rw [finS, if_pos h1, finL_len, hxl.out] at h2
                exact h2.symm
              · have h0 : xs = [] := List.eq_nil_of_length_eq_zero (by have := hxl.out; omega)
                have h2 := hTl.out
                rw [h0, finS_nil] at h2
                simp at h2; omega
            subst hTn
            have hval := hide (fun (h0 : 0 < Tn) (j : Nat) (hj : j < Tn) => show ∃ f g : Int, (finS xs ys).getD j 0 = f ∧ (finS xs hs).getD j 0 = g ∧ ((g < 0 ∧ f < 0) ∨ (0 ≤ g ∧ f = g / 2)) ∧ -1 ≤ g ∧ g ≤ 100 by
              have hw := workB_iff.1 (hok.out h0)
              have hsh : hs = halves ys := by rw [HSE.out h0, List.take_of_length_le (by have := hyl.out; omega)]
              have h1 : workB xs hs = true := by
                rw [workB_iff]
                refine ⟨hw.1, by have := hsl.out; omega, ?_⟩
                rw [hsh]
                exact halves_costs hw.2.2
              refine ⟨finAt xs ys j, finAt xs hs j, by rw [finS, if_pos (hok.out h0)]; exact finL_at (by have := hxl.out; omega), by rw [finS, if_pos h1]; exact finL_at (by have := hxl.out; omega), ?_⟩
              have hh := half_frame hw.2.2 (pre xs (j + 1))
              have hbd := firstAt_bd (halves ys) (pre xs (j + 1)) (halves ys).length
              have hl := halves_len ys
              have hyl' := hyl.out
              unfold finAt
              rw [hsh]
              refine ⟨?_, by omega, by omega⟩
              by_cases h : firstAt (halves ys) (pre xs (j + 1)) (halves ys).length < 0
              · exact .inl ⟨h, hh.1 h⟩
              · refine .inr ⟨by omega, ?_⟩
                obtain ⟨f, hf⟩ := Int.eq_ofNat_of_zero_le (show 0 ≤ firstAt (halves ys) (pre xs (j + 1)) (halves ys).length by omega)
                have h3 := hh.2 f hf
                rw [hf, ← h3]
                rfl)
            go_wp2
            go_loopw [9] (fun s9 wr => ∃ (j : Nat) (W11 : World), j ≤ Tn ∧ s9 = .int .i64 j ∧ W11 = wr ∧ Hid (Below W10.heap.size W10 W11)) (fun s9 _ => Tn - (intOf s9).toNat)
            case atStart => exact ⟨0, W10, Nat.zero_le _, rfl, rfl, hide (Below.refl _ _)⟩
            case round =>
              obtain ⟨j, W11, hj, rfl, rfl, hL⟩ := hrel
              have hT_11 := hide (hT_10.out.below hL.out (by omega))
              have hP_11 := hide (hP_10.out.below hL.out (by omega))
              by_cases hjt : j < Tn
              · obtain ⟨f, g, hf, hg, hfg, hg0, hg1⟩ := hval.out (by omega) j hjt
                obtain ⟨b1, o1, rfl, _, hcell⟩ := hT_11.out.2.2 (by omega)
                obtain ⟨b2, o2, rfl, _, hcell'⟩ := hP_11.out.2.2 (by omega)
                have h1 := hcell j hjt
                have h2 := hcell' j hjt
                rw [hg] at h1
                rw [hf] at h2
                clear hcell hcell' hf hg
                have e4 : (j : Int) < (Tn : Int) := by omega
                have e5 : decide (Tn ≤ j) = false := by simp; omega
                rcases hfg with ⟨n1, n2⟩ | ⟨n1, rfl⟩
                · have e1 : decide (g < 0) = true := by simp; omega
                  have e2 : decide (0 ≤ f) = false := by simp; omega
                  have e3 : decide (0 ≤ g) = false := by simp; omega
                  go_wp2
                  go_quiet (fail)
                  go_wp2
                  go_roundw
                  case rel => exact ⟨j + 1, _, by omega, by go_num, rfl, hide (below_drewN hL.out _)⟩
                  case measure => simp [intOf]; omega
                · have e1 : decide (g < 0) = false := by simp; omega
                  have e3 : decide (0 ≤ g) = true := by simp; omega
                  have e6 : g.tdiv 2 = g / 2 := Int.tdiv_eq_ediv_of_nonneg n1
                  have e7 : IntKind.i64.wrap (g / 2) = g / 2 := IntWalk.i64_in _ (by omega)
                  go_wp2
                  go_quiet (fail)
                  go_wp2
                  go_roundw
                  case rel => exact ⟨j + 1, _, by omega, by go_num, rfl, hide (below_drewN hL.out _)⟩
                  case measure => simp [intOf]; omega
              · obtain rfl : j = Tn := by omega
                go_wp2
                go_ret
                exact ⟨ret_bool (by simp), hB_10.out.trans (hL.out.mono (by omega))⟩
end Go.Proofs.Ytldmnpflcnmcpaa
