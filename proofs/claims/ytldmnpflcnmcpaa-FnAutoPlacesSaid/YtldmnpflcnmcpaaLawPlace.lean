/- The laws of AutoPlaces. Conditions: none. -/
import Derived.Test.YtldmnpflcnmcpaaPlaceS
import Derived.Test.YtldmnpflcnmcpaaDrawF
import Derived.BigQuiet
import Derived.Deep.RegionHeld3
namespace Go.Proofs.Ytldmnpflcnmcpaa
open Go.RowKit
set_option linter.unusedVariables false
theorem alB9 (w : World) (o : Obj) : Below w.heap.size w (w.alloc o) := (Below.refl _ _).alloc (Nat.le_refl _) _
theorem lenP_take {xs : List Int} {cc : Int} {m : Nat} (h : lenP xs cc = xs.length) (hm : m ≤ xs.length) : lenP (xs.take m) cc = m := by
  by_cases hok : okP xs cc = true
  · have h1 := okP_iff.1 hok
    rw [lenP, if_pos (okP_iff.2 ⟨h1.1, by rw [List.length_take]; omega, fun x hx => h1.2.2 x (List.mem_of_mem_take hx)⟩), List.length_take]
    omega
  · rw [lenP, if_neg hok] at h
    have := lenP_le (xs.take m) cc
    rw [List.length_take] at this
    omega
theorem lenP_ok {xs : List Int} {cc : Int} (h : 0 < lenP xs cc) : okP xs cc = true ∧ lenP xs cc = xs.length := by
  unfold lenP at *
  split at h
  · rename_i h1; rw [if_pos h1]; exact ⟨h1, rfl⟩
  · omega

set_option maxRecDepth 100000 in
set_option maxHeartbeats 8000000 in
theorem walk_FnAutoPlaces (a0 : Option Addr) (len cap : Nat) (zs : List Int) (w : World) (h0 : Ints .u8 w w.heap.size a0 len zs) (hc : len ≤ cap) :
    Calls Try.prog 5 #[.slice a0 len cap] w fun e w' => e = .returned (.bool true) ∧ Below w.heap.size w w' := by
  by_cases hl : len ≤ 1048576
  case neg =>
    go_enter Try.func5, Try.ntmps5
    go_wp2
    go_ret
    exact ⟨rfl, Below.refl _ _⟩
  case pos =>
    go_enter Try.func5, Try.ntmps5
    go_wp2_with fail
    refine (drawAuto_any a0 len cap zs _ h0 hc).mono ?_
    rintro e W0 ⟨A, n, c, xs, cc, rfl, hc0, hc9, hn15, hnc, hcm, rX, hb0⟩
    clear h0
    have hX_0 := hide rX.ints
    have hB_0 := hide hb0
    have hz0 := hb0.size
    have hxl := hide rX.1
    have hNb := lenP_le xs cc
    have hN := hide (fun h : 0 < lenP xs cc => lenP_ok h)
    have hNt := hide (fun (h : lenP xs cc = xs.length) (m : Nat) (hm : m ≤ xs.length) => lenP_take (m := m) h hm)
    clear rX hb0
    go_wp2_with fail
    refine (implAuto_any W0.heap.size A n c xs cc _ hX_0.out (by omega) (by omega)).mono ?_
    rintro e W1 ⟨P, Pc, gs, rfl, hP1, hP2, hP, hb⟩
    have hP_1 := hide hP
    clear hP
    have hX_1 := hide (hX_0.out.below hb (by omega))
    have hB_1 := hide (hB_0.out.trans (hb.mono (by omega)))
    have hz1 := hb.size
    clear hb hX_0 hB_0
    go_wp2_with fail
    refine (specAuto_any W0.heap.size A n c xs cc _ hX_1.out (by omega) (by omega)).mono ?_
    rintro e W2 ⟨Q, Qc, hs, rfl, hQ1, hQ2, hQ, hb⟩
    have hQ_2 := hide hQ
    clear hQ
    have hX_2 := hide (hX_1.out.below hb (by omega))
    have hP_2 := hide (hP_1.out.below hb (by omega))
    have hB_2 := hide (hB_1.out.trans (hb.mono (by omega)))
    have hz2 := hb.size
    clear hb hX_1 hP_1 hB_1
    generalize hNe : lenP xs cc = N at hP1 hQ1 hP_2 hQ_2 hNb hN hNt ⊢
    have HNE := hide hNe
    clear hNe
    go_wp2_with fail
    refine (eqLists_any W0.heap.size W1.heap.size W1.heap.size W2.heap.size P Q N Pc Qc gs hs _ _ _ hP_2.out hQ_2.out (by omega)).mono ?_
    rintro e W3 ⟨rfl, hb⟩
    clear hQ_2
    have hX_3 := hide (hX_2.out.below hb (by omega))
    have hP_3 := hide (hP_2.out.below hb (by omega))
    have hB_3 := hide (hB_2.out.trans (hb.mono (by omega)))
    have hz3 := hb.size
    clear hb hX_2 hP_2 hB_2
    by_cases hn0 : N = 0
    · subst hn0
      go_wp2_with fail
      refine (specAuto_any W0.heap.size A n c xs cc _ hX_3.out (by omega) (by omega)).mono ?_
      rintro e W4 ⟨Q, Qc, hs, rfl, hQ1, hQ2, hQ, hb⟩
      have hQ_4 := hide hQ
      clear hQ
      rw [HNE.out] at hQ1 hQ_4 ⊢
      have hX_4 := hide (hX_3.out.below hb (by omega))
      have hP_4 := hide (hP_3.out.below hb (by omega))
      have hB_4 := hide (hB_3.out.trans (hb.mono (by omega)))
      have hz4 := hb.size
      clear hb hX_3 hP_3 hB_3
      go_wp2_with fail
      refine (eqLists_any W0.heap.size W1.heap.size W3.heap.size W4.heap.size P Q 0 Pc Qc gs hs _ _ _ hP_4.out hQ_4.out (by omega)).mono ?_
      rintro e W5 ⟨rfl, hb⟩
      clear hQ_4
      have hX_5 := hide (hX_4.out.below hb (by omega))
      have hP_5 := hide (hP_4.out.below hb (by omega))
      have hB_5 := hide (hB_4.out.trans (hb.mono (by omega)))
      have hz5 := hb.size
      clear hb hX_4 hP_4 hB_4
      go_wp2
      go_ret
      exact ⟨rfl, hB_5.out⟩
    · have hn1 : ((N : Int) == 0) = false := by simp; omega
      obtain ⟨hok, hNl⟩ := hN.out (by omega)
      have hNn : N = n := by have := hxl.out; omega
      obtain ⟨⟨cc1, cc8⟩, _, hwid⟩ := okP_iff.1 hok
      have hpl := hide (fun (k : Nat) (hk : k < xs.length) => pl_bd (show 0 ≤ cc by omega) hwid hk)
      have hwa := hide (fun (k : Nat) (hk : k < xs.length) => hwid.at hk)
      clear hok hNl
      subst hNn
      have hz := pl_zero hwid (by have := hxl.out; omega)
      have hZ := hide hz
      clear hz hwid
      have hnn : ((N : Int) != (N : Int)) = false := by simp
      go_wp2
      go_loopw [6] (fun s6 wr => ∃ (k : Nat) (W9 : World), k ≤ N ∧ s6 = .int .i64 k ∧ W9 = wr ∧ Hid (Below W3.heap.size W3 W9)) (fun s6 _ => N - (intOf s6).toNat)
      case atStart => exact ⟨0, W3, Nat.zero_le _, rfl, rfl, hide (Below.refl _ _)⟩
      case round =>
        obtain ⟨k, W9, hk, rfl, rfl, hL_9⟩ := hrel
        have hb := hL_9.out
        have hX_9 := hide (hX_3.out.below hb (by omega))
        have hP_9 := hide (hP_3.out.below hb (by omega))
        have hB_9 := hide (hB_3.out.trans (hb.mono (by omega)))
        have hz9 := hb.size
        clear hb hX_3 hP_3 hB_3
        by_cases hlt : k < N
        · have hPP := hP_9.out
          obtain ⟨g, off, rfl, _, _, hcell, _⟩ := hPP.out (by omega)
          obtain ⟨b1, o1, rfl, _, hxc⟩ := hX_9.out.2.2 (by omega)
          have hkN : (k : Int) < (N : Int) := by omega
          obtain ⟨_, _, hrowk⟩ := hPP.inn k (by omega)
          have hck := hcell k (by omega)
          have h0k := (hrowk.cell 0 (by omega)).1
          have h1k := (hrowk.cell 1 (by omega)).1
          rw [show ([plR xs cc k, plC xs cc k].getD 0 0 : Int) = plR xs cc k from rfl, Nat.add_zero] at h0k
          rw [show ([plR xs cc k, plC xs cc k].getD 1 0 : Int) = plC xs cc k from rfl, Nat.zero_add] at h1k
          have hxk := hxc k (by omega)
          have hbk := hpl.out k (by have := hxl.out; omega)
          have hdk := hwa.out k (by have := hxl.out; omega)
          clear hrowk
          by_cases hk0 : k = 0
          · have e4 : decide ((0 : Int) < (k : Int)) = false := by simp; omega
            have e5 : decide (0 < k) = false := by simp; omega
            clear hcell hxc hPP hk0
            generalize gs.getD k 0 = uk at hck h0k h1k
            generalize plR xs cc k = rk at h0k hbk
            generalize plC xs cc k = qk at h1k hbk
            generalize xs.getD k 0 = yk at hxk hbk hdk
            have e1 : decide (qk < 0) = false := by simp; omega
            have e2 : decide (cc < qk + yk) = false := by simp; omega
            have e3 : IntKind.i64.wrap (qk + yk) = qk + yk := IntWalk.i64_in _ (by omega)
            go_wp2
            go_quiet (fail)
            clear e1 e2 e3 hck h0k h1k hxk
            go_wp2
            simp only [List.append]
            go_quiet (fail)
            clear e4 e5
            go_wp2
            go_roundw
            case rel => exact ⟨k + 1, _, by omega, by go_num, rfl, hide (below_drewN hL_9.out _)⟩
            case measure => simp [intOf]; omega
          · obtain ⟨j, hj⟩ : ∃ j : Nat, k = j + 1 := ⟨k - 1, by omega⟩
            have hnx := hide (show (plR xs cc k = plR xs cc j ∧ plC xs cc k = plC xs cc j + xs.getD j 0) ∨ (plR xs cc k = plR xs cc j + 1 ∧ plC xs cc k = 0) by rw [hj]; exact pl_next)
            have hjk : j < k := by omega
            have a1 : IntKind.i64.wrap ((k : Int) - 1) = (j : Int) := by rw [IntWalk.i64_in _ (by omega)]; omega
            have hj1 : (j : Int) < (N : Int) := by omega
            clear hj
            obtain ⟨_, _, hrowj⟩ := hPP.inn j (by omega)
            have hcj := hcell j (by omega)
            have h0j := (hrowj.cell 0 (by omega)).1
            have h1j := (hrowj.cell 1 (by omega)).1
            rw [show ([plR xs cc j, plC xs cc j].getD 0 0 : Int) = plR xs cc j from rfl, Nat.add_zero] at h0j
            rw [show ([plR xs cc j, plC xs cc j].getD 1 0 : Int) = plC xs cc j from rfl, Nat.zero_add] at h1j
            have hxj := hxc j (by omega)
            have hbj := hpl.out j (by have := hxl.out; omega)
            have hdj := hwa.out j (by have := hxl.out; omega)
            clear hrowj
            clear hcell hxc hPP
            generalize gs.getD k 0 = uk at hck h0k h1k
            generalize gs.getD j 0 = uj at hcj h0j h1j
            generalize plR xs cc k = rk at h0k hbk hnx
            generalize plC xs cc k = qk at h1k hbk hnx
            generalize plR xs cc j = rj at h0j hbj hnx
            generalize plC xs cc j = qj at h1j hbj hnx
            generalize xs.getD k 0 = yk at hxk hbk hdk
            generalize xs.getD j 0 = yj at hxj hbj hdj hnx
            have e1 : decide (qk < 0) = false := by simp; omega
            have e2 : decide (cc < qk + yk) = false := by simp; omega
            have e3 : IntKind.i64.wrap (qk + yk) = qk + yk := IntWalk.i64_in _ (by omega)
            have e4 : decide ((0 : Int) < (k : Int)) = true := by simp; omega
            have e5 : decide (0 < k) = true := by simp; omega
            have e6 : 0 < k := by omega
            have e7 : IntKind.i64.wrap (qj + yj) = qj + yj := IntWalk.i64_in _ (by omega)
            have e8 : IntKind.i64.wrap (rj + 1) = rj + 1 := IntWalk.i64_in _ (by omega)
            rcases hnx.out with ⟨q1, q2⟩ | ⟨q1, q2⟩
            · subst q1 q2
              go_wp2
              go_quiet (fail)
              clear e1 e2 e3
              go_wp2
              simp only [List.append]
              go_quiet (fail)
              clear a1 e4 e5 e7 e8
              go_wp2
              go_roundw
              case rel => exact ⟨k + 1, _, by omega, by go_num, rfl, hide (below_drewN hL_9.out _)⟩
              case measure => simp [intOf]; omega
            · subst q1 q2
              have e9 : (rj + 1 == rj) = false := by simp; omega
              go_wp2
              go_quiet (fail)
              clear e1 e2 e3
              go_wp2
              simp only [List.append]
              go_quiet (fail)
              clear a1 e4 e5 e7 e8 e9
              go_wp2
              go_roundw
              case rel => exact ⟨k + 1, _, by omega, by go_num, rfl, hide (below_drewN hL_9.out _)⟩
              case measure => simp [intOf]; omega
        · obtain rfl : k = N := by omega
          obtain ⟨g, off, rfl, _, _, hcell, _⟩ := hP_9.out.out (by omega)
          obtain ⟨i1, i2, hrow⟩ := hP_9.out.inn 0 (by omega)
          have hc0' := hcell 0 (by omega)
          rw [hZ.out.1, hZ.out.2] at hrow
          rw [Nat.add_zero] at hc0'
          have hI := hide (hrow.ints.below (alB9 W9 (.cells #[.int .i64 0, .int .i64 0] 3)) (by omega))
          have hJ := hide (show Ints .i64 (W9.alloc (.cells #[.int .i64 0, .int .i64 0] 3)) (W9.heap.size + 1) (some ⟨W9.heap.size, 0, none⟩) 2 [0, 0] from
            ⟨rfl, (fun h => by cases h), fun _ => ⟨_, 0, rfl, Nat.lt_succ_self _, fun i hi => by rw [Nat.zero_add]; exact lit_cells W9 [0, 0] i hi⟩⟩)
          clear hcell hrow
          generalize gs.getD 0 0 = u at hc0' hI i1 i2
          have hkp : (0 : Int) < (k : Int) := by omega
          have hkq : 0 < k := by omega
          go_wp2_with fail
          refine (equalInts_any (u + 1) (W9.heap.size + 1) (some ⟨u, 0, none⟩) (some ⟨W9.heap.size, 0, none⟩) 2 2 2 2 [0, 0] [0, 0] _ hI.out hJ.out (by omega) (by omega)).mono ?_
          rintro e W10 ⟨rfl, hb⟩
          rw [listEq_self]
          have D := hide ((hB_9.out.trans ((alB9 W9 (.cells #[.int .i64 0, .int .i64 0] 3)).mono (by omega))).trans (hb.mono (by simp; omega)))
          clear hb
          go_wp2
          go_ret
          exact ⟨rfl, D.out⟩
set_option maxRecDepth 100000 in
set_option maxHeartbeats 8000000 in
theorem walk_FnAutoPlacesFull (a0 : Option Addr) (len cap : Nat) (zs : List Int) (w : World) (h0 : Ints .u8 w w.heap.size a0 len zs) (hc : len ≤ cap) :
    Calls Try.prog 6 #[.slice a0 len cap] w fun e w' => e = .returned (.bool true) ∧ Below w.heap.size w w' := by
  by_cases hl : len ≤ 1048576
  case neg =>
    go_enter Try.func6, Try.ntmps6
    go_wp2
    go_ret
    exact ⟨rfl, Below.refl _ _⟩
  case pos =>
    go_enter Try.func6, Try.ntmps6
    go_wp2_with fail
    refine (drawAuto_any a0 len cap zs _ h0 hc).mono ?_
    rintro e W0 ⟨A, n, c, xs, cc, rfl, hc0, hc9, hn15, hnc, hcm, rX, hb0⟩
    clear h0
    have hX_0 := hide rX.ints
    have hB_0 := hide hb0
    have hz0 := hb0.size
    have hxl := hide rX.1
    have hNb := lenP_le xs cc
    have hN := hide (fun h : 0 < lenP xs cc => lenP_ok h)
    have hNt := hide (fun (h : lenP xs cc = xs.length) (m : Nat) (hm : m ≤ xs.length) => lenP_take (m := m) h hm)
    clear rX hb0
    go_wp2_with fail
    refine (implAuto_any W0.heap.size A n c xs cc _ hX_0.out (by omega) (by omega)).mono ?_
    rintro e W1 ⟨P, Pc, gs, rfl, hP1, hP2, hP, hb⟩
    have hP_1 := hide hP
    clear hP
    have hX_1 := hide (hX_0.out.below hb (by omega))
    have hB_1 := hide (hB_0.out.trans (hb.mono (by omega)))
    have hz1 := hb.size
    clear hb hX_0 hB_0
    go_wp2_with fail
    refine (specAuto_any W0.heap.size A n c xs cc _ hX_1.out (by omega) (by omega)).mono ?_
    rintro e W2 ⟨Q, Qc, hs, rfl, hQ1, hQ2, hQ, hb⟩
    have hQ_2 := hide hQ
    clear hQ
    have hX_2 := hide (hX_1.out.below hb (by omega))
    have hP_2 := hide (hP_1.out.below hb (by omega))
    have hB_2 := hide (hB_1.out.trans (hb.mono (by omega)))
    have hz2 := hb.size
    clear hb hX_1 hP_1 hB_1
    generalize hNe : lenP xs cc = N at hP1 hQ1 hP_2 hQ_2 hNb hN hNt ⊢
    have HNE := hide hNe
    clear hNe
    go_wp2_with fail
    refine (eqLists_any W0.heap.size W1.heap.size W1.heap.size W2.heap.size P Q N Pc Qc gs hs _ _ _ hP_2.out hQ_2.out (by omega)).mono ?_
    rintro e W3 ⟨rfl, hb⟩
    clear hQ_2
    have hX_3 := hide (hX_2.out.below hb (by omega))
    have hP_3 := hide (hP_2.out.below hb (by omega))
    have hB_3 := hide (hB_2.out.trans (hb.mono (by omega)))
    have hz3 := hb.size
    clear hb hX_2 hP_2 hB_2
    by_cases hnN : N = n
    case neg =>
      have hN0 : N = 0 := by
        rcases Nat.eq_zero_or_pos N with h | h
        · exact h
        · have h1 := (hN.out h).2; have h2 := hxl.out; omega
      subst hN0
      have hnn : ((0 : Int) != (n : Int)) = true := by simp; omega
      go_wp2_with fail
      refine (specAuto_any W0.heap.size A n c xs cc _ hX_3.out (by omega) (by omega)).mono ?_
      rintro e W4 ⟨Q, Qc, hs, rfl, hQ1, hQ2, hQ, hb⟩
      have hQ_4 := hide hQ
      clear hQ
      rw [HNE.out] at hQ1 hQ_4 ⊢
      have hX_4 := hide (hX_3.out.below hb (by omega))
      have hP_4 := hide (hP_3.out.below hb (by omega))
      have hB_4 := hide (hB_3.out.trans (hb.mono (by omega)))
      have hz4 := hb.size
      clear hb hX_3 hP_3 hB_3
      go_wp2_with fail
      refine (eqLists_any W0.heap.size W1.heap.size W3.heap.size W4.heap.size P Q 0 Pc Qc gs hs _ _ _ hP_4.out hQ_4.out (by omega)).mono ?_
      rintro e W5 ⟨rfl, hb⟩
      clear hQ_4
      have hX_5 := hide (hX_4.out.below hb (by omega))
      have hP_5 := hide (hP_4.out.below hb (by omega))
      have hB_5 := hide (hB_4.out.trans (hb.mono (by omega)))
      have hz5 := hb.size
      clear hb hX_4 hP_4 hB_4
      go_wp2
      go_ret
      exact ⟨rfl, hB_5.out⟩
    case pos =>
      subst hnN
      have hnn : ((N : Int) != (N : Int)) = false := by simp
      go_wp2
      go_loopw [6] (fun s6 wr => ∃ (k : Nat) (W9 : World), 1 ≤ k ∧ k ≤ N + 1 ∧ s6 = .int .i64 k ∧ W9 = wr ∧ Hid (Below W3.heap.size W3 W9)) (fun s6 _ => N + 1 - (intOf s6).toNat)
      case atStart => exact ⟨1, W3, Nat.le_refl _, by omega, rfl, rfl, hide (Below.refl _ _)⟩
      case round =>
        obtain ⟨k, W9, hk1, hk, rfl, rfl, hL_9⟩ := hrel
        have hb := hL_9.out
        have hX_9 := hide (hX_3.out.below hb (by omega))
        have hP_9 := hide (hP_3.out.below hb (by omega))
        have hB_9 := hide (hB_3.out.trans (hb.mono (by omega)))
        have hz9 := hb.size
        clear hb hX_3 hP_3 hB_3
        by_cases hlt : k < N
        · have hPP := hP_9.out
          obtain ⟨g, off, rfl, _, _, hcell, _⟩ := hPP.out (by omega)
          obtain ⟨b1, o1, rfl, _, hxc⟩ := hX_9.out.2.2 (by omega)
          have hkN : (k : Int) < (N : Int) := by omega
          obtain ⟨hok, hNl⟩ := hN.out (by omega)
          obtain ⟨⟨cc1, cc8⟩, _, hwid⟩ := okP_iff.1 hok
          have hpl := hide (fun (k : Nat) (hk : k < xs.length) => pl_bd (show 0 ≤ cc by omega) hwid hk)
          have hwa := hide (fun (k : Nat) (hk : k < xs.length) => hwid.at hk)
          clear hok hNl hwid
          obtain ⟨j, hj⟩ : ∃ j : Nat, k = j + 1 := ⟨k - 1, by omega⟩
          have hnx := hide (show (plR xs cc k = plR xs cc j) ∨ (plR xs cc k ≠ plR xs cc j ∧ cc < plC xs cc j + xs.getD j 0 + xs.getD k 0) by
            rw [hj]
            by_cases h : plR xs cc (j + 1) = plR xs cc j
            · exact .inl h
            · exact .inr ⟨h, pl_full h⟩)
          have hjk : j < k := by omega
          have a1 : IntKind.i64.wrap ((k : Int) - 1) = (j : Int) := by rw [IntWalk.i64_in _ (by omega)]; omega
          have hj1 : (j : Int) < (N : Int) := by omega
          clear hj
          obtain ⟨_, _, hrowk⟩ := hPP.inn k (by omega)
          have hck := hcell k (by omega)
          have h0k := (hrowk.cell 0 (by omega)).1
          have h1k := (hrowk.cell 1 (by omega)).1
          rw [show ([plR xs cc k, plC xs cc k].getD 0 0 : Int) = plR xs cc k from rfl, Nat.add_zero] at h0k
          rw [show ([plR xs cc k, plC xs cc k].getD 1 0 : Int) = plC xs cc k from rfl, Nat.zero_add] at h1k
          have hxk := hxc k (by omega)
          have hbk := hpl.out k (by have := hxl.out; omega)
          have hdk := hwa.out k (by have := hxl.out; omega)
          clear hrowk
          obtain ⟨_, _, hrowj⟩ := hPP.inn j (by omega)
          have hcj := hcell j (by omega)
          have h0j := (hrowj.cell 0 (by omega)).1
          have h1j := (hrowj.cell 1 (by omega)).1
          rw [show ([plR xs cc j, plC xs cc j].getD 0 0 : Int) = plR xs cc j from rfl, Nat.add_zero] at h0j
          rw [show ([plR xs cc j, plC xs cc j].getD 1 0 : Int) = plC xs cc j from rfl, Nat.zero_add] at h1j
          have hxj := hxc j (by omega)
          have hbj := hpl.out j (by have := hxl.out; omega)
          have hdj := hwa.out j (by have := hxl.out; omega)
          clear hrowj
          clear hcell hxc hPP
          generalize gs.getD k 0 = uk at hck h0k h1k
          generalize gs.getD j 0 = uj at hcj h0j h1j
          generalize plR xs cc k = rk at h0k hbk hnx
          generalize plC xs cc k = qk at h1k hbk
          generalize plR xs cc j = rj at h0j hbj hnx
          generalize plC xs cc j = qj at h1j hbj hnx
          generalize xs.getD k 0 = yk at hxk hbk hdk hnx
          generalize xs.getD j 0 = yj at hxj hbj hdj hnx
          have e7 : IntKind.i64.wrap (qj + yj) = qj + yj := IntWalk.i64_in _ (by omega)
          have e8 : IntKind.i64.wrap (qj + yj + yk) = qj + yj + yk := IntWalk.i64_in _ (by omega)
          rcases hnx.out with q1 | ⟨q1, q2⟩
          · subst q1
            have e9 : (rk != rk) = false := by simp
            go_wp2
            go_quiet (fail)
            clear a1 e7 e8 e9
            go_wp2
            go_roundw
            case rel => exact ⟨k + 1, _, by omega, by omega, by go_num, rfl, hide (below_drewN hL_9.out _)⟩
            case measure => simp [intOf]; omega
          · have e9 : (rk != rj) = true := by simpa using q1
            have e10 : decide (qj + yj + yk ≤ cc) = false := by simp; omega
            go_wp2
            go_quiet (fail)
            clear a1 e7 e8 e9 e10 q1
            go_wp2
            go_roundw
            case rel => exact ⟨k + 1, _, by omega, by omega, by go_num, rfl, hide (below_drewN hL_9.out _)⟩
            case measure => simp [intOf]; omega
        · have hkN : ¬ (k : Int) < (N : Int) := by omega
          go_wp2
          go_ret
          exact ⟨rfl, hB_9.out⟩
set_option maxRecDepth 100000 in
set_option maxHeartbeats 8000000 in
theorem walk_FnExactAutoPlaces (a0 : Option Addr) (len cap : Nat) (zs : List Int) (a1 : Int) (w : World) (h0 : Ints .i64 w w.heap.size a0 len zs) (hc : len ≤ cap) (hw1 : (Lit.int .i64 a1).wf = true) :
    Calls Try.prog 4 #[.slice a0 len cap, .int .i64 a1] w fun e w' => e = .returned (.bool true) ∧ Below w.heap.size w w' := by
  by_cases hl : len ≤ 1048576
  case neg =>
    go_enter Try.func4, Try.ntmps4
    go_wp2
    go_ret
    exact ⟨rfl, Below.refl _ _⟩
  case pos =>
    have H_0 := hide h0
    have B_0 := hide (Below.refl w.heap.size w)
    have HZL := hide h0.1
    have HNB := hide (lenP_le zs a1)
    clear h0
    go_enter Try.func4, Try.ntmps4
    go_wp2_with fail
    refine (toIntS_any a0 len cap zs _ (H_0.out.more (by omega)) hl).mono ?_
    rintro e W1 ⟨A1, n1, c1, rfl, p1, q1, r1, hb⟩
    obtain rfl : len = n1 := HZL.out.symm.trans r1.1
    have X_1 := hide r1.ints
    clear r1
    have hz1 := hb.size
    have H_1 := hide (H_0.out.below hb (by omega))
    have B_1 := hide (B_0.out.trans (hb.mono (by omega)))
    clear hb H_0 B_0
    go_wp2_with fail
    refine (specAuto_any W1.heap.size A1 len c1 zs a1 _ X_1.out (by omega) hl).mono ?_
    rintro e W2 ⟨Q, Qc, Qg, rfl, Q1, Q2, hQ, hb⟩
    have QL_2 := hide hQ
    clear hQ
    clear X_1
    have hz2 := hb.size
    have H_2 := hide (H_1.out.below hb (by omega))
    have B_2 := hide (B_1.out.trans (hb.mono (by omega)))
    clear hb H_1 B_1
    go_wp2_with fail
    refine (toIntS_any a0 len cap zs _ (H_2.out.more (by omega)) hl).mono ?_
    rintro e W3 ⟨A3, n3, c3, rfl, p3, q3, r3, hb⟩
    obtain rfl : len = n3 := HZL.out.symm.trans r3.1
    have Y_3 := hide r3
    clear r3
    have hz3 := hb.size
    have H_3 := hide (H_2.out.below hb (by omega))
    have B_3 := hide (B_2.out.trans (hb.mono (by omega)))
    have QL_3 := hide (QL_2.out.below hb (by omega))
    clear hb H_2 B_2 QL_2
    go_wp2_with fail
    refine (implAuto_any W3.heap.size A3 len c3 zs a1 _ Y_3.out.ints (by omega) hl).mono ?_
    rintro e W4 ⟨P, Pc, Pg, rfl, P1, P2, hP, hb⟩
    have PL_4 := hide hP
    clear hP
    have hz4 := hb.size
    have H_4 := hide (H_3.out.below hb (by omega))
    have B_4 := hide (B_3.out.trans (hb.mono (by omega)))
    have QL_4 := hide (QL_3.out.below hb (by omega))
    have Y_4 := hide (Y_3.out.below hb (by omega))
    clear hb H_3 B_3 QL_3 Y_3
    generalize hNe : lenP zs a1 = N at Q1 Q2 QL_4 P1 P2 PL_4 HNB ⊢
    have HNE := hide hNe
    clear hNe
    have hN12 := HNB.out
    go_wp2_with fail
    refine (eqSS_any W3.heap.size W4.heap.size W1.heap.size W2.heap.size P Q N Pc Qc Pg Qg _ _ _ PL_4.out QL_4.out (by omega)).mono ?_
    rintro e W5 ⟨rfl, hb⟩
    have hz5 := hb.size
    have H_5 := hide (H_4.out.below hb (by omega))
    have B_5 := hide (B_4.out.trans (hb.mono (by omega)))
    have QL_5 := hide (QL_4.out.below hb (by omega))
    have Y_5 := hide (Y_4.out.below hb (by omega))
    have PL_5 := hide (PL_4.out.below hb (by omega))
    clear hb H_4 B_4 QL_4 Y_4 PL_4
    go_wp2_with fail
    refine (toIntS_any a0 len cap zs _ (H_5.out.more (by omega)) hl).mono ?_
    rintro e W6 ⟨A6, n6, c6, rfl, p6, q6, r6, hb⟩
    obtain rfl : len = n6 := HZL.out.symm.trans r6.1
    have Z_6 := hide r6.ints
    clear r6
    have hz6 := hb.size
    have H_6 := hide (H_5.out.below hb (by omega))
    have B_6 := hide (B_5.out.trans (hb.mono (by omega)))
    have QL_6 := hide (QL_5.out.below hb (by omega))
    have Y_6 := hide (Y_5.out.below hb (by omega))
    have PL_6 := hide (PL_5.out.below hb (by omega))
    clear hb H_5 B_5 QL_5 Y_5 PL_5
    go_wp2_with fail
    refine (eqIntS_any W3.heap.size W6.heap.size A3 A6 len len c3 c6 zs zs _ Y_6.out.ints Z_6.out (by omega) (by omega)).mono ?_
    rintro e W7 ⟨rfl, hb⟩
    rw [listEq_self]
    clear Z_6
    have hz7 := hb.size
    have H_7 := hide (H_6.out.below hb (by omega))
    have B_7 := hide (B_6.out.trans (hb.mono (by omega)))
    have QL_7 := hide (QL_6.out.below hb (by omega))
    have Y_7 := hide (Y_6.out.below hb (by omega))
    have PL_7 := hide (PL_6.out.below hb (by omega))
    clear hb H_6 B_6 QL_6 Y_6 PL_6
    go_wp2_with fail
    refine (markIntS_any 3 W2.heap.size W3.heap.size A3 len c3 zs 1 _ Y_7.out (by omega) (by omega)).mono ?_
    rintro e W8 ⟨rfl, _, ho⟩
    clear Y_7
    have hz8 := ho.size
    have H_8 := hide (H_7.out.below (ho.below (Nat.le_refl _) (by omega)) (by omega))
    have B_8 := hide (B_7.out.trans (ho.below (by omega) (by omega)))
    have QL_8 := hide (QL_7.out.far ho (by omega))
    have PL_8 := hide (PL_7.out.far ho (by omega))
    clear ho H_7 B_7 QL_7 PL_7
    go_wp2_with fail
    refine (eqSS_any W3.heap.size W4.heap.size W1.heap.size W2.heap.size P Q N Pc Qc Pg Qg _ _ _ PL_8.out QL_8.out (by omega)).mono ?_
    rintro e W9 ⟨rfl, hb⟩
    have hz9 := hb.size
    have H_9 := hide (H_8.out.below hb (by omega))
    have B_9 := hide (B_8.out.trans (hb.mono (by omega)))
    have QL_9 := hide (QL_8.out.below hb (by omega))
    have PL_9 := hide (PL_8.out.below hb (by omega))
    clear hb H_8 B_8 QL_8 PL_8
    go_wp2_with fail
    refine (markSS_any W3.heap.size W4.heap.size P N Pc Pg _ _ 1 _ PL_9.out (by omega) (by omega)).mono ?_
    rintro e W10 ⟨rfl, hP, ho⟩
    have ML_10 := hide hP
    clear hP
    clear PL_9
    have hz10 := ho.size
    have H_10 := hide (H_9.out.below (ho.below (Nat.le_refl _) (by omega)) (by omega))
    have B_10 := hide (B_9.out.trans (ho.below (by omega) (by omega)))
    have QL_10 := hide (QL_9.out.far ho (by omega))
    clear ho H_9 B_9 QL_9
    go_wp2_with fail
    refine (heldSS_any W3.heap.size W4.heap.size P N Pc Pg _ _ 1 _ ML_10.out (by omega) (by omega)).mono ?_
    rintro e W11 ⟨rfl, rfl⟩
    have H_11 := H_10
    clear H_10
    have B_11 := B_10
    clear B_10
    have QL_11 := QL_10
    clear QL_10
    have ML_11 := ML_10
    clear ML_10
    go_wp2_with fail
    refine (toIntS_any a0 len cap zs _ (H_11.out.more (by omega)) hl).mono ?_
    rintro e W12 ⟨A11, n11, c11, rfl, p11, q11, r11, hb⟩
    obtain rfl : len = n11 := HZL.out.symm.trans r11.1
    have U_12 := hide r11.ints
    clear r11
    have hz12 := hb.size
    have H_12 := hide (H_11.out.below hb (by omega))
    have B_12 := hide (B_11.out.trans (hb.mono (by omega)))
    have QL_12 := hide (QL_11.out.below hb (by omega))
    have ML_12 := hide (ML_11.out.below hb (by omega))
    clear hb H_11 B_11 QL_11 ML_11
    go_wp2_with fail
    refine (implAuto_any W12.heap.size A11 len c11 zs a1 _ U_12.out (by omega) hl).mono ?_
    rintro e W13 ⟨S, Sc, Sg, rfl, S1, S2, hS, hb⟩
    have SL_13 := hide hS
    clear hS
    clear U_12
    have hz13 := hb.size
    have H_13 := hide (H_12.out.below hb (by omega))
    have B_13 := hide (B_12.out.trans (hb.mono (by omega)))
    have QL_13 := hide (QL_12.out.below hb (by omega))
    have ML_13 := hide (ML_12.out.below hb (by omega))
    clear hb H_12 B_12 QL_12 ML_12
    rw [HNE.out] at S1 SL_13 ⊢
    go_wp2_with fail
    refine (eqSS_any W12.heap.size W13.heap.size W1.heap.size W2.heap.size S Q N Sc Qc Sg Qg _ _ _ SL_13.out QL_13.out (by omega)).mono ?_
    rintro e W14 ⟨rfl, hb⟩
    clear SL_13
    have hz14 := hb.size
    have H_14 := hide (H_13.out.below hb (by omega))
    have B_14 := hide (B_13.out.trans (hb.mono (by omega)))
    have QL_14 := hide (QL_13.out.below hb (by omega))
    have ML_14 := hide (ML_13.out.below hb (by omega))
    clear hb H_13 B_13 QL_13 ML_13
    go_wp2_with fail
    refine (heldSS_any W3.heap.size W4.heap.size P N Pc Pg _ _ 1 _ ML_14.out (by omega) (by omega)).mono ?_
    rintro e W15 ⟨rfl, rfl⟩
    have H_15 := H_14
    clear H_14
    have B_15 := B_14
    clear B_14
    have QL_15 := QL_14
    clear QL_14
    have ML_15 := ML_14
    clear ML_14
    go_wp2
    go_ret
    exact ⟨rfl, B_15.out⟩
end Go.Proofs.Ytldmnpflcnmcpaa
