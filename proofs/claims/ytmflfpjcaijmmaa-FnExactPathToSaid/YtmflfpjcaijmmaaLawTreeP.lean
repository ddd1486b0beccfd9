/- The law FnExactPathTo. Conditions: none. -/
import Derived.Test.YtmflfpjcaijmmaaTreeG
namespace Go.Proofs.Ytmflfpjcaijmmaa
open Go.RowKit
set_option linter.unusedVariables false
set_option linter.unusedSimpArgs false
theorem pathL_len {xs : List Int} {n : Nat} {i : Int} : (pathL xs n i).length ≤ 17 := by
  cases h : (treeV xs n && inR i 0 ((n : Int) - 1))
  · rw [pathL_no h]; simp
  · rw [pathL_yes h, List.length_reverse]
    have h2 := Bool.and_eq_true_iff.1 h
    have ht := treeV_iff.1 h2.1
    have h3 := inR_iff.1 h2.2
    have h4 := ht.deep i.toNat (by omega)
    omega
set_option maxRecDepth 100000 in
set_option maxHeartbeats 4000000 in
theorem walk_FnExactPathTo (a0 : Option Addr) (len cap : Nat) (zs : List Int) (i : Int) (w : World) (h0 : Ints .i64 w w.heap.size a0 (len * 9) zs) (hc : len ≤ cap) (hm : cap ≤ maxLen) (w1 : (Lit.int .i64 i).wf = true) :
    Calls Try.prog 6 #[.slice a0 len cap, .int .i64 i] w fun e w' => e = .returned (.bool true) ∧ Below w.heap.size w w' := by
  have hmx : len ≤ 9223372036854775807 := by unfold maxLen at hm; omega
  have HTL := hide h0.1
  by_cases hl : len ≤ 1048576
  case neg =>
    have hl' : (1048576 : Int) < (len : Int) := by omega
    clear h0 hl
    go_enter Try.func6, Try.ntmps6
    go_wp2_with fail
    refine (szBoxS_any a0 len cap 1048576 _ hmx (by omega)).mono ?_
    rintro e w' ⟨rfl, rfl⟩
    rw [if_pos (by omega)]
    go_wp2
    go_ret
    exact ⟨rfl, Below.refl _ _⟩
  case pos =>
    have hl' : ¬ ((1048576 : Int) < (len : Int)) := by omega
    have hl2 : ¬ ((1048576 : Int) - (len : Int) < 0) := by omega
    have H_0 := hide h0
    have B_0 := hide (Below.refl w.heap.size w)
    clear h0
    go_enter Try.func6, Try.ntmps6
    go_wp2_with fail
    refine (szBoxS_any a0 len cap 1048576 _ hmx (by omega)).mono ?_
    rintro e W0 ⟨rfl, rfl⟩
    rw [if_neg (by omega)]
    clear hl'
    obtain ⟨m, hm⟩ : ∃ m, List.length (pathL zs len i) = m := ⟨_, rfl⟩
    have hm17 : m ≤ 17 := by rw [← hm]; exact pathL_len
    have HM3 := hide hm
    clear hm
    go_wp2_with fail
    refine (toBoxS_any a0 len cap zs _ (H_0.out.more (by omega)) hl).mono ?_
    rintro e W1 ⟨A1, n1, c1, rfl, p1, q1, r1, hb⟩
    obtain rfl : len = n1 := by have h1 := r1.1; rw [HTL.out] at h1; omega
    have X_1 := hide r1.ints
    clear r1
    have hz1 := hb.size
    have H_1 := hide (H_0.out.below hb (by omega))
    have B_1 := hide (B_0.out.trans (hb.mono (by omega)))
    clear hb H_0 B_0
    go_wp2_with fail
    refine (specPathTo_any W1.heap.size A1 len c1 zs i _ X_1.out (by omega) (by omega)).mono ?_
    rintro e W2 ⟨As, ms1, cs, rfl, rS, hb⟩
    obtain rfl : m = ms1 := by have h1 := rS.1; rw [HM3.out] at h1; exact h1
    have S_2 := hide rS
    clear rS
    clear X_1
    have hz2 := hb.size
    have H_2 := hide (H_1.out.below hb (by omega))
    have B_2 := hide (B_1.out.trans (hb.mono (by omega)))
    clear hb H_1 B_1
    go_wp2_with fail
    refine (toBoxS_any a0 len cap zs _ (H_2.out.more (by omega)) hl).mono ?_
    rintro e W3 ⟨A3, n3, c3, rfl, p3, q3, r3, hb⟩
    obtain rfl : len = n3 := by have h1 := r3.1; rw [HTL.out] at h1; omega
    have Y_3 := hide r3
    clear r3
    have hz3 := hb.size
    have H_3 := hide (H_2.out.below hb (by omega))
    have B_3 := hide (B_2.out.trans (hb.mono (by omega)))
    have S_3 := hide (S_2.out.below hb (by omega))
    clear hb H_2 B_2 S_2
    go_wp2_with fail
    refine (implPathTo_any W3.heap.size A3 len c3 zs i _ Y_3.out.ints (by omega) (by omega)).mono ?_
    rintro e W4 ⟨Ar, mr, cr, rfl, rR, hb⟩
    obtain rfl : m = mr := by have h1 := rR.1; rw [HM3.out] at h1; exact h1
    have R_4 := hide rR
    clear rR
    have hz4 := hb.size
    have H_4 := hide (H_3.out.below hb (by omega))
    have B_4 := hide (B_3.out.trans (hb.mono (by omega)))
    have S_4 := hide (S_3.out.below hb (by omega))
    have Y_4 := hide (Y_3.out.below hb (by omega))
    clear hb H_3 B_3 S_3 Y_3
    go_wp2_with fail
    refine (eqIntS_any W4.heap.size W2.heap.size Ar As m m cr cs (pathL zs len i) (pathL zs len i) _ R_4.out.ints S_4.out.ints (by omega) (by omega)).mono ?_
    rintro e W5 ⟨rfl, hb⟩
    rw [listEq_self]
    have hz5 := hb.size
    have H_5 := hide (H_4.out.below hb (by omega))
    have B_5 := hide (B_4.out.trans (hb.mono (by omega)))
    have S_5 := hide (S_4.out.below hb (by omega))
    have Y_5 := hide (Y_4.out.below hb (by omega))
    have R_5 := hide (R_4.out.below hb (by omega))
    clear hb H_4 B_4 S_4 Y_4 R_4
    go_wp2_with fail
    refine (toBoxS_any a0 len cap zs _ (H_5.out.more (by omega)) hl).mono ?_
    rintro e W6 ⟨A5, n5, c5, rfl, p5, q5, r5, hb⟩
    obtain rfl : len = n5 := by have h1 := r5.1; rw [HTL.out] at h1; omega
    have Z_6 := hide r5
    clear r5
    have hz6 := hb.size
    have H_6 := hide (H_5.out.below hb (by omega))
    have B_6 := hide (B_5.out.trans (hb.mono (by omega)))
    have S_6 := hide (S_5.out.below hb (by omega))
    have Y_6 := hide (Y_5.out.below hb (by omega))
    have R_6 := hide (R_5.out.below hb (by omega))
    clear hb H_5 B_5 S_5 Y_5 R_5
    go_wp2_with fail
    refine (eqBoxS_self W3.heap.size W6.heap.size A3 A5 len c3 c5 zs _ Y_6.out.ints Z_6.out.ints (by omega) (by omega) (by omega)).mono ?_
    rintro e W7 ⟨rfl, hb⟩
    have hz7 := hb.size
    have H_7 := hide (H_6.out.below hb (by omega))
    have B_7 := hide (B_6.out.trans (hb.mono (by omega)))
    have S_7 := hide (S_6.out.below hb (by omega))
    have Y_7 := hide (Y_6.out.below hb (by omega))
    have R_7 := hide (R_6.out.below hb (by omega))
    have Z_7 := hide (Z_6.out.below hb (by omega))
    clear hb H_6 B_6 S_6 Y_6 R_6 Z_6
    clear Z_7
    go_wp2_with fail
    refine (markBoxS_any 44 W2.heap.size W3.heap.size A3 len c3 zs 1 _ Y_7.out (by omega) (by omega)).mono ?_
    rintro e W8 ⟨rfl, rM, ho⟩
    clear rM
    obtain ⟨zA, hzA, hzA0⟩ : ∃ z : Int, 1 + ((len * 9 : Nat) : Int) = z ∧ 0 ≤ z ∧ z ≤ 1099511627776 := ⟨_, rfl, by omega, by omega⟩
    rw [hzA]
    have HzA := hide hzA
    clear hzA
    have hzA1 : ¬ zA < 0 := by omega
    have hzA2 : (zA != zA) = false := by simp
    clear Y_7
    have hz8 := ho.size
    have H_8 := hide (H_7.out.below (ho.below (Nat.le_refl _) (by omega)) (by omega))
    have B_8 := hide (B_7.out.trans (ho.below (by omega) (by omega)))
    have S_8 := hide (S_7.out.far ho (by omega))
    have R_8 := hide (R_7.out.far ho (by omega))
    clear ho H_7 B_7 S_7 R_7
    go_wp2_with fail
    refine (eqIntS_any W4.heap.size W2.heap.size Ar As m m cr cs (pathL zs len i) (pathL zs len i) _ R_8.out.ints S_8.out.ints (by omega) (by omega)).mono ?_
    rintro e W9 ⟨rfl, hb⟩
    rw [listEq_self]
    have hz9 := hb.size
    have H_9 := hide (H_8.out.below hb (by omega))
    have B_9 := hide (B_8.out.trans (hb.mono (by omega)))
    have S_9 := hide (S_8.out.below hb (by omega))
    have R_9 := hide (R_8.out.below hb (by omega))
    clear hb H_8 B_8 S_8 R_8
    go_wp2_with fail
    refine (markIntS_any 3 W3.heap.size W4.heap.size Ar m cr (pathL zs len i) 1 _ R_9.out (by omega) (by omega)).mono ?_
    rintro e W10 ⟨rfl, rM, ho⟩
    have G_10 := hide rM
    clear rM
    obtain ⟨zB, hzB, hzB0⟩ : ∃ z : Int, 1 + (m : Int) = z ∧ 0 ≤ z ∧ z ≤ 1099511627776 := ⟨_, rfl, by omega, by omega⟩
    rw [hzB]
    have HzB := hide hzB
    clear hzB
    have hzB1 : ¬ zB < 0 := by omega
    have hzB2 : (zB != zB) = false := by simp
    clear R_9
    have hz10 := ho.size
    have H_10 := hide (H_9.out.below (ho.below (Nat.le_refl _) (by omega)) (by omega))
    have B_10 := hide (B_9.out.trans (ho.below (by omega) (by omega)))
    have S_10 := hide (S_9.out.far ho (by omega))
    clear ho H_9 B_9 S_9
    go_wp2_with fail
    refine (heldIntS_any W4.heap.size Ar m cr 1 _ G_10.out.ints (by omega) (by omega)).mono ?_
    rintro e W11 ⟨rfl, rfl⟩
    rw [HzB.out]
    have H_11 := H_10
    clear H_10
    have B_11 := B_10
    clear B_10
    have S_11 := S_10
    clear S_10
    have G_11 := G_10
    clear G_10
    go_wp2_with fail
    refine (toBoxS_any a0 len cap zs _ (H_11.out.more (by omega)) hl).mono ?_
    rintro e W12 ⟨A7, n7, c7, rfl, p7, q7, r7, hb⟩
    obtain rfl : len = n7 := by have h1 := r7.1; rw [HTL.out] at h1; omega
    have V_12 := hide r7.ints
    clear r7
    have hz12 := hb.size
    have H_12 := hide (H_11.out.below hb (by omega))
    have B_12 := hide (B_11.out.trans (hb.mono (by omega)))
    have S_12 := hide (S_11.out.below hb (by omega))
    have G_12 := hide (G_11.out.below hb (by omega))
    clear hb H_11 B_11 S_11 G_11
    go_wp2_with fail
    refine (implPathTo_any W12.heap.size A7 len c7 zs i _ V_12.out (by omega) (by omega)).mono ?_
    rintro e W13 ⟨Aq, mq, cq, rfl, rQ, hb⟩
    obtain rfl : m = mq := by have h1 := rQ.1; rw [HM3.out] at h1; exact h1
    have Q_13 := hide rQ
    clear rQ
    clear V_12
    have hz13 := hb.size
    have H_13 := hide (H_12.out.below hb (by omega))
    have B_13 := hide (B_12.out.trans (hb.mono (by omega)))
    have S_13 := hide (S_12.out.below hb (by omega))
    have G_13 := hide (G_12.out.below hb (by omega))
    clear hb H_12 B_12 S_12 G_12
    go_wp2_with fail
    refine (eqIntS_any W13.heap.size W2.heap.size Aq As m m cq cs (pathL zs len i) (pathL zs len i) _ Q_13.out.ints S_13.out.ints (by omega) (by omega)).mono ?_
    rintro e W14 ⟨rfl, hb⟩
    rw [listEq_self]
    have hz14 := hb.size
    have H_14 := hide (H_13.out.below hb (by omega))
    have B_14 := hide (B_13.out.trans (hb.mono (by omega)))
    have S_14 := hide (S_13.out.below hb (by omega))
    have G_14 := hide (G_13.out.below hb (by omega))
    have Q_14 := hide (Q_13.out.below hb (by omega))
    clear hb H_13 B_13 S_13 G_13 Q_13
    go_wp2_with fail
    refine (heldIntS_any W4.heap.size Ar m cr 1 _ G_14.out.ints (by omega) (by omega)).mono ?_
    rintro e W15 ⟨rfl, rfl⟩
    rw [HzB.out]
    have H_15 := H_14
    clear H_14
    have B_15 := B_14
    clear B_14
    have S_15 := S_14
    clear S_14
    have G_15 := G_14
    clear G_14
    have Q_15 := Q_14
    clear Q_14
    go_wp2
    go_ret
    exact ⟨rfl, B_15.out⟩
end Go.Proofs.Ytmflfpjcaijmmaa
