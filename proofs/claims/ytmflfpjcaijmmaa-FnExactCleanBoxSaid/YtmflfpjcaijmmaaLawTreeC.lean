/- The law FnExactCleanBox. Conditions: none. -/
import Derived.Test.YtmflfpjcaijmmaaTreeL
namespace Go.Proofs.Ytmflfpjcaijmmaa
open Go.RowKit
set_option linter.unusedVariables false
set_option linter.unusedSimpArgs false
set_option maxRecDepth 100000 in
set_option maxHeartbeats 4000000 in
theorem walk_FnExactCleanBox (a0 : Option Addr) (len cap : Nat) (zs : List Int) (a1 : Option Addr) (len1 cap1 : Nat) (ms : List Int) (i : Int) (w : World) (h0 : Ints .i64 w w.heap.size a0 (len * 9) zs) (hc : len ≤ cap) (hm : cap ≤ maxLen) (h1 : Ints .i64 w w.heap.size a1 len1 ms) (hc1 : len1 ≤ cap1) (w2 : (Lit.int .i64 i).wf = true) :
    Calls Try.prog 9 #[.slice a0 len cap, .slice a1 len1 cap1, .int .i64 i] w fun e w' => e = .returned (.bool true) ∧ Below w.heap.size w w' := by
  have hmx : len ≤ 9223372036854775807 := by unfold maxLen at hm; omega
  have HTL := hide h0.1
  have HTM := hide h1.1
  by_cases hl1 : len1 ≤ 1048576
  case neg =>
    have hl1' : (1048576 : Int) < (len1 : Int) := by omega
    clear h0 h1 hl1
    go_enter Try.func9, Try.ntmps9
    go_wp2
    go_ret
    exact ⟨rfl, Below.refl _ _⟩
  case pos =>
    by_cases hl : len ≤ 1048576
    case neg =>
      have hl' : (1048576 : Int) < (len : Int) := by omega
      clear h0 hl h1
      have hl1n : ¬ ((1048576 : Int) < (len1 : Int)) := by omega
      go_enter Try.func9, Try.ntmps9
      go_wp2_with fail
      refine (szBoxS_any a0 len cap 1048576 _ hmx (by omega)).mono ?_
      rintro e w' ⟨rfl, rfl⟩
      rw [if_pos (by omega)]
      go_wp2
      go_ret
      exact ⟨rfl, Below.refl _ _⟩
    case pos =>
      have hl' : ¬ ((1048576 : Int) < (len : Int)) := by omega
      have hl2 : ¬ ((1048576 : Int) - (len : Int) < 0) := by omega
      have hl1n : ¬ ((1048576 : Int) < (len1 : Int)) := by omega
      have H_0 := hide h0
      have M_0 := hide h1
      have B_0 := hide (Below.refl w.heap.size w)
      clear h0 h1
      go_enter Try.func9, Try.ntmps9
      go_wp2_with fail
      refine (szBoxS_any a0 len cap 1048576 _ hmx (by omega)).mono ?_
      rintro e W0 ⟨rfl, rfl⟩
      rw [if_neg (by omega)]
      clear hl'
      obtain ⟨m, hm⟩ : ∃ m, List.length (cleanL zs len ms i) = m := ⟨_, rfl⟩
      have hm17 : m ≤ 17 := by rw [← hm]; exact cleanL_len
      have HM3 := hide hm
      clear hm
      obtain ⟨ok, hok⟩ : ∃ ok, cleanV zs len ms i = ok := ⟨_, rfl⟩
      have HOK := hide hok
      clear hok
      have hbb : (ok != ok) = false := by cases ok <;> rfl
      go_wp2_with fail
      refine (toBoxS_any a0 len cap zs _ (H_0.out.more (by omega)) hl).mono ?_
      rintro e W1 ⟨A1, n1, c1, rfl, p1, q1, r1, hb⟩
      obtain rfl : len = n1 := by have h1 := r1.1; rw [HTL.out] at h1; omega
      have X_1 := hide r1.ints
      clear r1
      have hz1 := hb.size
      have H_1 := hide (H_0.out.below hb (by omega))
      have B_1 := hide (B_0.out.trans (hb.mono (by omega)))
      have M_1 := hide (M_0.out.below hb (by omega))
      clear hb H_0 B_0 M_0
      go_wp2_with fail
      refine (toIntS_any a1 len1 cap1 ms _ (M_1.out.more (by omega)) hl1).mono ?_
      rintro e W2 ⟨A2, n2, c2, rfl, p2, q2, r2, hb⟩
      obtain rfl : len1 = n2 := by have h1 := r2.1; rw [HTM.out] at h1; omega
      have XM_2 := hide r2.ints
      clear r2
      have hz2 := hb.size
      have H_2 := hide (H_1.out.below hb (by omega))
      have B_2 := hide (B_1.out.trans (hb.mono (by omega)))
      have M_2 := hide (M_1.out.below hb (by omega))
      have X_2 := hide (X_1.out.below hb (by omega))
      clear hb H_1 B_1 M_1 X_1
      go_wp2_with fail
      refine (specClean_any W1.heap.size W2.heap.size A1 A2 len c1 len1 c2 zs ms i _ X_2.out XM_2.out (by omega) (by omega) (by omega) (by omega)).mono ?_
      rintro e W3 ⟨As, ms1, cs, rfl, rS, hb⟩
      obtain rfl : m = ms1 := by have h1 := rS.1; rw [HM3.out] at h1; exact h1
      have S_3 := hide rS
      clear rS
      rw [HOK.out]
      clear X_2
      clear XM_2
      have hz3 := hb.size
      have H_3 := hide (H_2.out.below hb (by omega))
      have B_3 := hide (B_2.out.trans (hb.mono (by omega)))
      have M_3 := hide (M_2.out.below hb (by omega))
      clear hb H_2 B_2 M_2
      go_wp2_with fail
      refine (toBoxS_any a0 len cap zs _ (H_3.out.more (by omega)) hl).mono ?_
      rintro e W4 ⟨A3, n3, c3, rfl, p3, q3, r3, hb⟩
      obtain rfl : len = n3 := by have h1 := r3.1; rw [HTL.out] at h1; omega
      have Y_4 := hide r3
      clear r3
      have hz4 := hb.size
      have H_4 := hide (H_3.out.below hb (by omega))
      have B_4 := hide (B_3.out.trans (hb.mono (by omega)))
      have M_4 := hide (M_3.out.below hb (by omega))
      have S_4 := hide (S_3.out.below hb (by omega))
      clear hb H_3 B_3 M_3 S_3
      go_wp2_with fail
      refine (toIntS_any a1 len1 cap1 ms _ (M_4.out.more (by omega)) hl1).mono ?_
      rintro e W5 ⟨A4, n4, c4, rfl, p4, q4, r4, hb⟩
      obtain rfl : len1 = n4 := by have h1 := r4.1; rw [HTM.out] at h1; omega
      have YM_5 := hide r4
      clear r4
      have hz5 := hb.size
      have H_5 := hide (H_4.out.below hb (by omega))
      have B_5 := hide (B_4.out.trans (hb.mono (by omega)))
      have M_5 := hide (M_4.out.below hb (by omega))
      have S_5 := hide (S_4.out.below hb (by omega))
      have Y_5 := hide (Y_4.out.below hb (by omega))
      clear hb H_4 B_4 M_4 S_4 Y_4
      go_wp2_with fail
      refine (implClean_any W4.heap.size W5.heap.size A3 A4 len c3 len1 c4 zs ms i _ Y_5.out.ints YM_5.out.ints (by omega) (by omega) (by omega) (by omega)).mono ?_
      rintro e W6 ⟨Ar, mr, cr, rfl, rR, hb⟩
      obtain rfl : m = mr := by have h1 := rR.1; rw [HM3.out] at h1; exact h1
      have R_6 := hide rR
      clear rR
      rw [HOK.out]
      have hz6 := hb.size
      have H_6 := hide (H_5.out.below hb (by omega))
      have B_6 := hide (B_5.out.trans (hb.mono (by omega)))
      have M_6 := hide (M_5.out.below hb (by omega))
      have S_6 := hide (S_5.out.below hb (by omega))
      have Y_6 := hide (Y_5.out.below hb (by omega))
      have YM_6 := hide (YM_5.out.below hb (by omega))
      clear hb H_5 B_5 M_5 S_5 Y_5 YM_5
      go_wp2_with fail
      refine (eqIntS_any W6.heap.size W3.heap.size Ar As m m cr cs (cleanL zs len ms i) (cleanL zs len ms i) _ R_6.out.ints S_6.out.ints (by omega) (by omega)).mono ?_
      rintro e W7 ⟨rfl, hb⟩
      rw [listEq_self]
      have hz7 := hb.size
      have H_7 := hide (H_6.out.below hb (by omega))
      have B_7 := hide (B_6.out.trans (hb.mono (by omega)))
      have M_7 := hide (M_6.out.below hb (by omega))
      have S_7 := hide (S_6.out.below hb (by omega))
      have Y_7 := hide (Y_6.out.below hb (by omega))
      have YM_7 := hide (YM_6.out.below hb (by omega))
      have R_7 := hide (R_6.out.below hb (by omega))
      clear hb H_6 B_6 M_6 S_6 Y_6 YM_6 R_6
      go_wp2_with fail
      refine (toBoxS_any a0 len cap zs _ (H_7.out.more (by omega)) hl).mono ?_
      rintro e W8 ⟨A5, n5, c5, rfl, p5, q5, r5, hb⟩
      obtain rfl : len = n5 := by have h1 := r5.1; rw [HTL.out] at h1; omega
      have Z_8 := hide r5
      clear r5
      have hz8 := hb.size
      have H_8 := hide (H_7.out.below hb (by omega))
      have B_8 := hide (B_7.out.trans (hb.mono (by omega)))
      have M_8 := hide (M_7.out.below hb (by omega))
      have S_8 := hide (S_7.out.below hb (by omega))
      have Y_8 := hide (Y_7.out.below hb (by omega))
      have YM_8 := hide (YM_7.out.below hb (by omega))
      have R_8 := hide (R_7.out.below hb (by omega))
      clear hb H_7 B_7 M_7 S_7 Y_7 YM_7 R_7
      go_wp2_with fail
      refine (eqBoxS_self W4.heap.size W8.heap.size A3 A5 len c3 c5 zs _ Y_8.out.ints Z_8.out.ints (by omega) (by omega) (by omega)).mono ?_
      rintro e W9 ⟨rfl, hb⟩
      have hz9 := hb.size
      have H_9 := hide (H_8.out.below hb (by omega))
      have B_9 := hide (B_8.out.trans (hb.mono (by omega)))
      have M_9 := hide (M_8.out.below hb (by omega))
      have S_9 := hide (S_8.out.below hb (by omega))
      have Y_9 := hide (Y_8.out.below hb (by omega))
      have YM_9 := hide (YM_8.out.below hb (by omega))
      have R_9 := hide (R_8.out.below hb (by omega))
      have Z_9 := hide (Z_8.out.below hb (by omega))
      clear hb H_8 B_8 M_8 S_8 Y_8 YM_8 R_8 Z_8
      clear Z_9
      go_wp2_with fail
      refine (toIntS_any a1 len1 cap1 ms _ (M_9.out.more (by omega)) hl1).mono ?_
      rintro e W10 ⟨A6, n6, c6, rfl, p6, q6, r6, hb⟩
      obtain rfl : len1 = n6 := by have h1 := r6.1; rw [HTM.out] at h1; omega
      have ZM_10 := hide r6
      clear r6
      have hz10 := hb.size
      have H_10 := hide (H_9.out.below hb (by omega))
      have B_10 := hide (B_9.out.trans (hb.mono (by omega)))
      have M_10 := hide (M_9.out.below hb (by omega))
      have S_10 := hide (S_9.out.below hb (by omega))
      have Y_10 := hide (Y_9.out.below hb (by omega))
      have YM_10 := hide (YM_9.out.below hb (by omega))
      have R_10 := hide (R_9.out.below hb (by omega))
      clear hb H_9 B_9 M_9 S_9 Y_9 YM_9 R_9
      go_wp2_with fail
      refine (eqIntS_any W5.heap.size W10.heap.size A4 A6 len1 len1 c4 c6 ms ms _ YM_10.out.ints ZM_10.out.ints (by omega) (by omega)).mono ?_
      rintro e W11 ⟨rfl, hb⟩
      rw [listEq_self]
      have hz11 := hb.size
      have H_11 := hide (H_10.out.below hb (by omega))
      have B_11 := hide (B_10.out.trans (hb.mono (by omega)))
      have M_11 := hide (M_10.out.below hb (by omega))
      have S_11 := hide (S_10.out.below hb (by omega))
      have Y_11 := hide (Y_10.out.below hb (by omega))
      have YM_11 := hide (YM_10.out.below hb (by omega))
      have R_11 := hide (R_10.out.below hb (by omega))
      have ZM_11 := hide (ZM_10.out.below hb (by omega))
      clear hb H_10 B_10 M_10 S_10 Y_10 YM_10 R_10 ZM_10
      clear ZM_11
      go_wp2_with fail
      refine (markBoxS_any 44 W3.heap.size W4.heap.size A3 len c3 zs 1 _ Y_11.out (by omega) (by omega)).mono ?_
      rintro e W12 ⟨rfl, rM, ho⟩
      clear rM
      obtain ⟨zA, hzA, hzA0⟩ : ∃ z : Int, 1 + ((len * 9 : Nat) : Int) = z ∧ 0 ≤ z ∧ z ≤ 549755813888 := ⟨_, rfl, by omega, by omega⟩
      rw [hzA]
      have HzA := hide hzA
      clear hzA
      have hzA1 : ¬ zA < 0 := by omega
      have hzA2 : (zA != zA) = false := by simp
      clear Y_11
      have hz12 := ho.size
      have H_12 := hide (H_11.out.below (ho.below (Nat.le_refl _) (by omega)) (by omega))
      have B_12 := hide (B_11.out.trans (ho.below (by omega) (by omega)))
      have M_12 := hide (M_11.out.below (ho.below (Nat.le_refl _) (by omega)) (by omega))
      have S_12 := hide (S_11.out.far ho (by omega))
      have YM_12 := hide (YM_11.out.far ho (by omega))
      have R_12 := hide (R_11.out.far ho (by omega))
      clear ho H_11 B_11 M_11 S_11 YM_11 R_11
      go_wp2_with fail
      refine (markIntS_any 3 W4.heap.size W5.heap.size A4 len1 c4 ms zA _ YM_12.out (by omega) (by omega)).mono ?_
      rintro e W13 ⟨rfl, rM, ho⟩
      clear rM
      obtain ⟨zC, hzC, hzC0⟩ : ∃ z : Int, zA + (len1 : Int) = z ∧ 0 ≤ z ∧ z ≤ 1099511627776 := ⟨_, rfl, by omega, by omega⟩
      rw [hzC]
      have HzC := hide hzC
      clear hzC
      have hzC1 : ¬ zC < 0 := by omega
      have hzC2 : (zC != zC) = false := by simp
      clear YM_12
      have hz13 := ho.size
      have H_13 := hide (H_12.out.below (ho.below (Nat.le_refl _) (by omega)) (by omega))
      have B_13 := hide (B_12.out.trans (ho.below (by omega) (by omega)))
      have M_13 := hide (M_12.out.below (ho.below (Nat.le_refl _) (by omega)) (by omega))
      have S_13 := hide (S_12.out.far ho (by omega))
      have R_13 := hide (R_12.out.far ho (by omega))
      clear ho H_12 B_12 M_12 S_12 R_12
      go_wp2_with fail
      refine (eqIntS_any W6.heap.size W3.heap.size Ar As m m cr cs (cleanL zs len ms i) (cleanL zs len ms i) _ R_13.out.ints S_13.out.ints (by omega) (by omega)).mono ?_
      rintro e W14 ⟨rfl, hb⟩
      rw [listEq_self]
      have hz14 := hb.size
      have H_14 := hide (H_13.out.below hb (by omega))
      have B_14 := hide (B_13.out.trans (hb.mono (by omega)))
      have M_14 := hide (M_13.out.below hb (by omega))
      have S_14 := hide (S_13.out.below hb (by omega))
      have R_14 := hide (R_13.out.below hb (by omega))
      clear hb H_13 B_13 M_13 S_13 R_13
      go_wp2_with fail
      refine (markIntS_any 3 W5.heap.size W6.heap.size Ar m cr (cleanL zs len ms i) 1 _ R_14.out (by omega) (by omega)).mono ?_
      rintro e W15 ⟨rfl, rM, ho⟩
      have G_15 := hide rM
      clear rM
      obtain ⟨zB, hzB, hzB0⟩ : ∃ z : Int, 1 + (m : Int) = z ∧ 0 ≤ z ∧ z ≤ 1099511627776 := ⟨_, rfl, by omega, by omega⟩
      rw [hzB]
      have HzB := hide hzB
      clear hzB
      have hzB1 : ¬ zB < 0 := by omega
      have hzB2 : (zB != zB) = false := by simp
      clear R_14
      have hz15 := ho.size
      have H_15 := hide (H_14.out.below (ho.below (Nat.le_refl _) (by omega)) (by omega))
      have B_15 := hide (B_14.out.trans (ho.below (by omega) (by omega)))
      have M_15 := hide (M_14.out.below (ho.below (Nat.le_refl _) (by omega)) (by omega))
      have S_15 := hide (S_14.out.far ho (by omega))
      clear ho H_14 B_14 M_14 S_14
      go_wp2_with fail
      refine (heldIntS_any W6.heap.size Ar m cr 1 _ G_15.out.ints (by omega) (by omega)).mono ?_
      rintro e W16 ⟨rfl, rfl⟩
      rw [HzB.out]
      have H_16 := H_15
      clear H_15
      have B_16 := B_15
      clear B_15
      have M_16 := M_15
      clear M_15
      have S_16 := S_15
      clear S_15
      have G_16 := G_15
      clear G_15
      go_wp2_with fail
      refine (toBoxS_any a0 len cap zs _ (H_16.out.more (by omega)) hl).mono ?_
      rintro e W17 ⟨A7, n7, c7, rfl, p7, q7, r7, hb⟩
      obtain rfl : len = n7 := by have h1 := r7.1; rw [HTL.out] at h1; omega
      have V_17 := hide r7.ints
      clear r7
      have hz17 := hb.size
      have H_17 := hide (H_16.out.below hb (by omega))
      have B_17 := hide (B_16.out.trans (hb.mono (by omega)))
      have M_17 := hide (M_16.out.below hb (by omega))
      have S_17 := hide (S_16.out.below hb (by omega))
      have G_17 := hide (G_16.out.below hb (by omega))
      clear hb H_16 B_16 M_16 S_16 G_16
      go_wp2_with fail
      refine (toIntS_any a1 len1 cap1 ms _ (M_17.out.more (by omega)) hl1).mono ?_
      rintro e W18 ⟨A8, n8, c8, rfl, p8, q8, r8, hb⟩
      obtain rfl : len1 = n8 := by have h1 := r8.1; rw [HTM.out] at h1; omega
      have VM_18 := hide r8.ints
      clear r8
      have hz18 := hb.size
      have H_18 := hide (H_17.out.below hb (by omega))
      have B_18 := hide (B_17.out.trans (hb.mono (by omega)))
      have M_18 := hide (M_17.out.below hb (by omega))
      have S_18 := hide (S_17.out.below hb (by omega))
      have G_18 := hide (G_17.out.below hb (by omega))
      have V_18 := hide (V_17.out.below hb (by omega))
      clear hb H_17 B_17 M_17 S_17 G_17 V_17
      go_wp2_with fail
      refine (implClean_any W17.heap.size W18.heap.size A7 A8 len c7 len1 c8 zs ms i _ V_18.out VM_18.out (by omega) (by omega) (by omega) (by omega)).mono ?_
      rintro e W19 ⟨Aq, mq, cq, rfl, rQ, hb⟩
      obtain rfl : m = mq := by have h1 := rQ.1; rw [HM3.out] at h1; exact h1
      have Q_19 := hide rQ
      clear rQ
      rw [HOK.out]
      clear V_18
      clear VM_18
      have hz19 := hb.size
      have H_19 := hide (H_18.out.below hb (by omega))
      have B_19 := hide (B_18.out.trans (hb.mono (by omega)))
      have M_19 := hide (M_18.out.below hb (by omega))
      have S_19 := hide (S_18.out.below hb (by omega))
      have G_19 := hide (G_18.out.below hb (by omega))
      clear hb H_18 B_18 M_18 S_18 G_18
      go_wp2_with fail
      refine (eqIntS_any W19.heap.size W3.heap.size Aq As m m cq cs (cleanL zs len ms i) (cleanL zs len ms i) _ Q_19.out.ints S_19.out.ints (by omega) (by omega)).mono ?_
      rintro e W20 ⟨rfl, hb⟩
      rw [listEq_self]
      have hz20 := hb.size
      have H_20 := hide (H_19.out.below hb (by omega))
      have B_20 := hide (B_19.out.trans (hb.mono (by omega)))
      have M_20 := hide (M_19.out.below hb (by omega))
      have S_20 := hide (S_19.out.below hb (by omega))
      have G_20 := hide (G_19.out.below hb (by omega))
      have Q_20 := hide (Q_19.out.below hb (by omega))
      clear hb H_19 B_19 M_19 S_19 G_19 Q_19
      go_wp2_with fail
      refine (heldIntS_any W6.heap.size Ar m cr 1 _ G_20.out.ints (by omega) (by omega)).mono ?_
      rintro e W21 ⟨rfl, rfl⟩
      rw [HzB.out]
      have H_21 := H_20
      clear H_20
      have B_21 := B_20
      clear B_20
      have M_21 := M_20
      clear M_20
      have S_21 := S_20
      clear S_20
      have G_21 := G_20
      clear G_20
      have Q_21 := Q_20
      clear Q_20
      go_wp2
      go_ret
      exact ⟨rfl, B_21.out⟩
end Go.Proofs.Ytmflfpjcaijmmaa
