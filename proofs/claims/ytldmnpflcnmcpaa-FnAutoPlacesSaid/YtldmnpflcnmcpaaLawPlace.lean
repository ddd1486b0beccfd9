/- The laws of AutoPlaces. Conditions: none. -/
import Derived.Test.YtldmnpflcnmcpaaPlaceS
import Derived.Test.YtldmnpflcnmcpaaDrawF
import Derived.BigQuiet
import Derived.Deep.RegionHeld3
namespace Go.Proofs.Ytldmnpflcnmcpaa
open Go.RowKit
set_option linter.unusedVariables false
theorem alB9 (w : World) (o : Obj) : Below w.heap.size w (w.alloc o) := (Below.refl _ _).alloc (Nat.le_refl _) _
theorem lenP_take {xs : List Int} {cc : Int} {m : Nat} (h : lenP xs cc = xs.length) (hm : m ≤ xs.length) : lenP (xs.take m) cc = m := by
  by_cases hok : okP xs cc = true
  · have h1 := okP_iff.1 hok
    rw [lenP, if_pos (okP_iff.2 ⟨h1.1, by rw [List.length_take]; omega, fun x hx => h1.2.2 x (List.mem_of_mem_take hx)⟩), List.length_take]
    omega
  · rw [lenP, if_neg hok] at h
    have := lenP_le (xs.take m) cc
    rw [List.length_take] at this
    omega
theorem lenP_ok {xs : List Int} {cc : Int} (h : 0 < lenP xs cc) : okP xs cc = true ∧ lenP xs cc = xs.length := by
  unfold lenP at *
  split at h
  · rename_i h1; rw [if_pos h1]; exact ⟨h1, rfl⟩
  · omega

set_option maxRecDepth 100000 in
set_option maxHeartbeats 8000000 in
theorem walk_FnAutoPlaces (a0 : Option Addr) (len cap : Nat) (zs : List Int) (w : World) (h0 : Ints .u8 w w.heap.size a0 len zs) (hc : len ≤ cap) :
    Calls Try.prog 5 #[.slice a0 len cap] w fun e w' => e = .returned (.bool true) ∧ Below w.heap.size w w' := by
  by_cases hl : len ≤ 1048576
  case neg =>
    go_enter Try.func5, Try.ntmps5
    go_wp2
    go_ret
    exact ⟨rfl, Below.refl _ _⟩
  case pos =>
    go_enter Try.func5, Try.ntmps5
    go_wp2_with fail
    refine (drawAuto_any a0 len cap zs _ h0 hc).mono ?_
    rintro e W0 ⟨A, n, c, xs, cc, rfl, hc0, hc9, hn15, hnc, hcm, rX, hb0⟩
    clear h0
    have hX_0 := hide rX.ints
    have hB_0 := hide hb0
    have hz0 := hb0.size
    have hxl := hide rX.1
    have hNb := lenP_le xs cc
    have hN := hide (fun h : 0 < lenP xs cc => lenP_ok h)
    have hNt := hide (fun (h : lenP xs cc = xs.length) (m : Nat) (hm : m ≤ xs.length) => lenP_take (m := m) h hm)
    clear rX hb0
    go_wp2_with fail
    refine (implAuto_any W0.heap.size A n c xs cc _ hX_0.out (by omega) (by omega)).mono ?_
    rintro e W1 ⟨P, Pc, gs, rfl, hP1, hP2, hP, hb⟩
    have hP_1 := hide hP
    clear hP
    have hX_1 := hide (hX_0.out.below hb (by omega))
    have hB_1 := hide (hB_0.out.trans (hb.mono (by omega)))
    have hz1 := hb.size
    clear hb hX_0 hB_0
    go_wp2_with fail
    refine (specAuto_any W0.heap.size A n c xs cc _ hX_1.out (by omega) (by omega)).mono ?_
    rintro e W2 ⟨Q, Qc, hs, rfl, hQ1, hQ2, hQ, hb⟩
    have hQ_2 := hide hQ
    clear hQ
    have hX_2 := hide (hX_1.out.below hb (by omega))
    have hP_2 := hide (hP_1.out.below hb (by omega))
    have hB_2 := hide (hB_1.out.trans (hb.mono (by omega)))
    have hz2 := hb.size
    clear hb hX_1 hP_1 hB_1
    generalize hNe : lenP xs cc = N at hP1 hQ1 hP_2 hQ_2 hNb hN hNt ⊢
    have HNE := hide hNe
    clear hNe
    go_wp2_with fail
    refine (eqLists_any W0.heap.size W1.heap.size W1.heap.size W2.heap.size P Q N Pc Qc gs hs _ _ _ hP_2.out hQ_2.out (by omega)).mono ?_
    rintro e W3 ⟨rfl, hb⟩
    clear hQ_2
    have hX_3 := hide (hX_2.out.below hb (by omega))
    have hP_3 := hide (hP_2.out.below hb (by omega))
    have hB_3 := hide (hB_2.out.trans (hb.mono (by omega)))
    have hz3 := hb.size
    clear hb hX_2 hP_2 hB_2
    by_cases hn0 : N = 0
    · subst hn0
      go_wp2_with fail
      refine (specAuto_any W0.heap.size A n c xs cc _ hX_3.out (by omega) (by omega)).mono ?_
      rintro e W4 ⟨Q, Qc, hs, rfl, hQ1, hQ2, hQ, hb⟩
      have hQ_4 := hide hQ
      clear hQ
      rw [HNE.out] at hQ1 hQ_4 ⊢
      have hX_4 := hide (hX_3.out.below hb (by omega))
      have hP_4 := hide (hP_3.out.below hb (by omega))
      have hB_4 := hide (hB_3.out.trans (hb.mono (by omega)))
      have hz4 := hb.size
      clear hb hX_3 hP_3 hB_3
      go_wp2_with fail
      refine (eqLists_any W0.heap.size W1.heap.size W3.heap.size W4.heap.size P Q 0 Pc Qc gs hs _ _ _ hP_4.out hQ_4.out (by omega)).mono ?_
      rintro e W5 ⟨rfl, hb⟩
      clear hQ_4
      have hX_5 := hide (hX_4.out.below hb (by omega))
      have hP_5 := hide (hP_4.out.below hb (by omega))
      have hB_5 := hide (hB_4.out.trans (hb.mono (by omega)))
      have hz5 := hb.size
      clear hb hX_4 hP_4 hB_4
      go_wp2
      go_ret
      exact ⟨rfl, hB_5.out⟩
    · have hn1 : ((N : Int) == 0) = false := by simp; omega
      obtain ⟨hok, hNl⟩ := hN.out (by omega)
      have hNn : N = n := by have := hxl.out; omega
      obtain ⟨⟨cc1, cc8⟩, _, hwid⟩ := okP_iff.1 hok
      have hpl := hide (fun (k : Nat) (hk : k < xs.length) => pl_bd (show 0 ≤ cc by omega) hwid hk)
      have hwa := hide (fun (k : Nat) (hk : k < xs.length) => hwid.at hk)
      clear hok hNl
      subst hNn
      have hz := pl_zero hwid (by have := hxl.out; omega)
      have hZ := hide hz
      clear hz hwid
      have hnn : ((N : Int) != (N : Int)) = false := by simp
      go_wp2
      go_loopw [6] (fun s6 wr => ∃ (k : Nat) (W9 : World), k ≤ N ∧ s6 = .int .i64 k ∧ W9 = wr ∧ Hid (Below W3.heap.size W3 W9)) (fun s6 _ => N - (intOf s6).toNat)
      case atStart => exact ⟨0, W3, Nat.zero_le _, rfl, rfl, hide (Below.refl _ _)⟩
      case round =>
        obtain ⟨k, W9, hk, rfl, rfl, hL_9⟩ := hrel
        have hb := hL_9.out
        have hX_9 := hide (hX_3.out.below hb (by omega))
        have hP_9 := hide (hP_3.out.below hb (by omega))
        have hB_9 := hide (hB_3.out.trans (hb.mono (by omega)))
        have hz9 := hb.size
        clear hb hX_3 hP_3 hB_3
        by_cases hlt : k < N
        · have hPP := hP_9.out
          obtain ⟨g, off, rfl, _, _, hcell, _⟩ := hPP.out (by omega)
          obtain ⟨b1, o1, rfl, _, hxc⟩ := hX_9.out.2.2 (by omega)
          have hkN : (k : Int) < (N : Int) := by omega
          obtain ⟨_, _, hrowk⟩ := hPP.inn k (by omega)
          have hck := hcell k (by omega)
          have h0k := (hrowk.cell 0 (by omega)).1
          have h1k := (hrowk.cell 1 (by omega)).1
          rw [show ([plR xs cc k, plC xs cc k].getD 0 0 : Int) = plR xs cc k from rfl, Nat.add_zero] at h0k
          rw [show ([plR xs cc k, plC xs cc k].getD 1 0 : Int) = plC xs cc k from rfl, Nat.zero_add] at h1k
          have hxk := hxc k (by omega)
          have hbk := hpl.out k (by have := hxl.out; omega)
          have hdk := hwa.out k (by have := hxl.out; omega)
          clear hrowk
          by_cases hk0 : k = 0
          · have e4 : decide ((0 : Int) < (k : Int)) = false := by simp; omega
            have e5 : decide (0 < k) = false := by simp; omega
            clear hcell hxc hPP hk0
            generalize gs.getD k 0 = uk at hck h0k h1k
            generalize plR xs cc k = rk at h0k hbk
            generalize plC xs cc k = qk at h1k hbk
            generalize xs.getD k 0 = yk at hxk hbk hdk
            have e1 : decide (qk < 0) = false := by simp; omega
            have e2 : decide (cc < qk + yk) = false := by simp; omega
            have e3 : IntKind.i64.wrap (qk + yk) = qk + yk := IntWalk.i64_in _ (by omega)
            go_wp2
            go_quiet (fail)
            clear e1 e2 e3 hck h0k h1k hxk
            go_wp2
            simp only [List.append]
            go_quiet (fail)
            clear e4 e5
            go_wp2
            go_roundw
            case rel => exact ⟨k + 1, _, by omega, by go_num, rfl, hide (below_drewN hL_9.out _)⟩
            case measure => simp [intOf]; omega
          · obtain ⟨j, hj⟩ : ∃ j : Nat, k = j + 1 := ⟨k - 1, by omega⟩
            have hnx := hide (show (plR xs cc k = plR xs cc j ∧ plC xs cc k = plC xs cc j + xs.getD j 0) ∨ (plR xs cc k = plR xs cc j + 1 ∧ plC xs cc k = 0) by rw [hj]; exact pl_next)
            have hjk : j < k := by omega
            have a1 : IntKind.i64.wrap ((k : Int) - 1) = (j : Int) := by rw [IntWalk.i64_in _ (by omega)]; omega
            have hj1 : (j : Int) < (N : Int) := by omega
            clear hj
            obtain ⟨_, _, hrowj⟩ := hPP.inn j (by omega)
            have hcj := hcell j (by omega)
            have h0j := (hrowj.cell 0 (by omega)).1
            have h1j := (hrowj.cell 1 (by omega)).1
            rw [show ([plR xs cc j, plC xs cc j].getD 0 0 : Int) = plR xs cc j from rfl, Nat.add_zero] at h0j
            rw [show ([plR xs cc j, plC xs cc j].getD 1 0 : Int) = plC xs cc j from rfl, Nat.zero_add] at h1j
            have hxj := hxc j (by omega)
            have hbj := hpl.out j (by have := hxl.out; omega)
            have hdj := hwa.out j (by have := hxl.out; omega)
            clear hrowj
            clear hcell hxc hPP
            generalize gs.getD k 0 = uk at hck h0k h1k
            generalize gs.getD j 0 = uj at hcj h0j h1j
            generalize plR xs cc k = rk at h0k hbk hnx
            generalize plC xs cc k = qk at h1k hbk hnx
            generalize plR xs cc j = rj at h0j hbj hnx
            generalize plC xs cc j = qj at h1j hbj hnx
            generalize xs.getD k 0 = yk at hxk hbk hdk
            generalize xs.getD j 0 = yj at hxj hbj hdj hnx
            have e1 : decide (qk < 0) = false := by simp; omega
            have e2 : decide (cc < qk + yk) = false := by simp; omega
            have e3 : IntKind.i64.wrap (qk + yk) = qk + yk := IntWalk.i64_in _ (by omega)
            have e4 : decide ((0 : Int) < (k : Int)) = true := by simp; omega
            have e5 : decide (0 < k) = true := by simp; omega
            have e6 : 0 < k := by omega
            have e7 : IntKind.i64.wrap (qj + yj) = qj + yj := IntWalk.i64_in _ (by omega)
            have e8 : IntKind.i64.wrap (rj + 1) = rj + 1 := IntWalk.i64_in _ (by omega)
            rcases hnx.out with ⟨q1, q2⟩ | ⟨q1, q2⟩
            · subst q1 q2
              go_wp2
              go_quiet (fail)
              clear e1 e2 e3
              go_wp2
              simp only [List.append]
              go_quiet (fail)
              clear a1 e4 e5 e7 e8
              go_wp2
              go_roundw
              case rel => exact ⟨k + 1, _, by omega, by go_num, rfl, hide (below_drewN hL_9.out _)⟩
              case measure => simp [intOf]; omega
            · subst q1 q2
              have e9 : (rj + 1 == rj) = false := by simp; omega
              go_wp2
              go_quiet (fail)
              clear e1 e2 e3
              go_wp2
              simp only [List.append]
              go_quiet (fail)
              clear a1 e4 e5 e7 e8 e9
              go_wp2
              go_roundw
              case rel => exact ⟨k + 1, _, by omega, by go_num, rfl, hide (below_drewN hL_9.out _)⟩
              case measure => simp [intOf]; omega
        · obtain rfl : k = N := by omega
          obtain ⟨g, off, rfl, _, _, hcell, _⟩ := hP_9.out.out (by omega)
          obtain ⟨i1, i2, hrow⟩ := hP_9.out.inn 0 (by omega)
          have hc0' := hcell 0 (by omega)
          rw [hZ.out.1, hZ.out.2] at hrow
          rw [Nat.add_zero] at hc0'
          have hI := hide (hrow.ints.below (alB9 W9 (.cells #[.int .i64 0, .int .i64 0] 3)) (by omega))
          have hJ := hide (show Ints .i64 (W9.alloc (.cells #[.int .i64 0, .int .i64 0] 3)) (W9.heap.size + 1) (some ⟨W9.heap.size, 0, none⟩) 2 [0, 0] from
            ⟨rfl, (fun h => by cases h), fun _ => ⟨_, 0, rfl, Nat.lt_succ_self _, fun i hi => by rw [Nat.zero_add]; exact lit_cells W9 [0, 0] i hi⟩⟩)
          clear hcell hrow
          generalize gs.getD 0 0 = u at hc0' hI i1 i2
          have hkp : (0 : Int) < (k : Int) := by omega
          have hkq : 0 < k := by omega
          go_wp2_with fail
          refine (equalInts_any (u + 1) (W9.heap.size + 1) (some ⟨u, 0, none⟩) (some ⟨W9.heap.size, 0, none⟩) 2 2 2 2 [0, 0] [0, 0] _ hI.out hJ.out (by omega) (by omega)).mono ?_
          rintro e W10 ⟨rfl, hb⟩
          rw [listEq_self]
          have D := hide ((hB_9.out.trans ((alB9 W9 (.cells #[.int .i64 0, .int .i64 0] 3)).mono (by omega))).trans (hb.mono (by simp; omega)))
          clear hb
          go_wp2
          go_ret
          exact ⟨rfl, D.out⟩
end Go.Proofs.Ytldmnpflcnmcpaa
