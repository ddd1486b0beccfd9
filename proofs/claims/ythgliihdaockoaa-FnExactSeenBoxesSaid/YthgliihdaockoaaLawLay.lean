/- The law FnExactSeenBoxes: the walk. Conditions: none. -/
import Derived.Test.YthgliihdaockoaaLayT
import Derived.Deep.RegionHeld3
import Derived.Deep.CutBlock
import Derived.Deep.DeepCutAuto
namespace Go.Proofs.Ythgliihdaockoaa
open Go.RowKit
set_option linter.unusedVariables false
set_option linter.unusedSimpArgs false
theorem seenL_len {xs : List Int} {n : Nat} {wd ht vx vy vw vh : Int} : (seenL xs n wd ht vx vy vw vh).length ≤ 17 := by
  cases h : (scrB xs n wd ht && rectB vx vy vw vh)
  · rw [seenL_no h]; simp
  · rw [seenL_yes h]
    have h1 := pickN_len (fun j => meetB (rc xs n (ri 0 0 wd ht) j) (ri vx vy vw vh)) n
    have h2 := (Bool.and_eq_true_iff.1 h).1
    have hT : TreeP xs n := by unfold scrB at h2; simp only [Bool.and_eq_true] at h2; exact treeV_iff.1 h2.1
    have := hT.hi
    omega
/-- the argument's rectangle, in a block of its own -/
def VwAt (p : Nat) (vx vy vw vh : Int) (W : World) : Prop := W.heap[p]? = some (.cells #[.int .i64 vx, .int .i64 vy, .int .i64 vw, .int .i64 vh] 24 (0, 0))
theorem VwAt.lt {p : Nat} {vx vy vw vh : Int} {W : World} (h : VwAt p vx vy vw vh W) : p < W.heap.size := (Array.getElem?_eq_some_iff.1 h).1
theorem VwAt.below {p B : Nat} {vx vy vw vh : Int} {W W' : World} (h : VwAt p vx vy vw vh W) (hb : Below B W W') (hB : p < B) : VwAt p vx vy vw vh W' := (hb.block p hB).trans h
theorem VwAt.far {p lo hi : Nat} {vx vy vw vh : Int} {W W' : World} (h : VwAt p vx vy vw vh W) (ho : Only lo hi W W') (hd : p < lo ∨ hi ≤ p) : VwAt p vx vy vw vh W' := (ho.block p h.lt (by omega)).trans h
theorem VwAt.cells {p : Nat} {vx vy vw vh : Int} {W : World} (h : VwAt p vx vy vw vh W) : W.cell? ⟨p, 0, none⟩ = some (.int .i64 vx) ∧ W.cell? ⟨p, 1, none⟩ = some (.int .i64 vy) ∧ W.cell? ⟨p, 2, none⟩ = some (.int .i64 vw) ∧ W.cell? ⟨p, 3, none⟩ = some (.int .i64 vh) :=
  ⟨(cell_of_row _ _ 0 _ _ (0, 0) h).trans rfl, (cell_of_row _ _ 1 _ _ (0, 0) h).trans rfl, (cell_of_row _ _ 2 _ _ (0, 0) h).trans rfl, (cell_of_row _ _ 3 _ _ (0, 0) h).trans rfl⟩
set_option maxRecDepth 100000 in
set_option maxHeartbeats 8000000 in
theorem walk_FnExactSeenBoxes (a0 : Option Addr) (len cap : Nat) (zs : List Int) (wd ht vx vy vw vh : Int) (w : World) (h0 : Ints .i64 w w.heap.size a0 (len * 9) zs) (hc : len ≤ cap) (hm : cap ≤ maxLen) (w1 : (Lit.int .i64 wd).wf = true) (w2 : (Lit.int .i64 ht).wf = true) (w3 : (Lit.int .i64 vx).wf = true) (w4 : (Lit.int .i64 vy).wf = true) (w5 : (Lit.int .i64 vw).wf = true) (w6 : (Lit.int .i64 vh).wf = true) :
    Calls Try.prog 3 #[.slice a0 len cap, .int .i64 wd, .int .i64 ht, .agg #[.int .i64 vx, .int .i64 vy, .int .i64 vw, .int .i64 vh]] w fun e w' => e = .returned (.bool true) ∧ Below w.heap.size w w' := by
  have hmx : len ≤ 9223372036854775807 := by unfold maxLen at hm; omega
  have HTL := hide h0.1
  have hb0 : Below w.heap.size w (w.alloc (.cells #[.int .i64 vx, .int .i64 vy, .int .i64 vw, .int .i64 vh] 24)) := (Below.refl _ _).alloc (Nat.le_refl _) _
  have B_0 := hide hb0
  by_cases hl : len ≤ 1048576
  case neg =>
    have hl' : (1048576 : Int) < (len : Int) := by omega
    clear h0 hl hb0
    go_enter Try.func3, Try.ntmps3
    go_wp2_with fail
    refine (szBoxS_any a0 len cap 1048576 _ hmx (by omega)).mono ?_
    rintro e w' ⟨rfl, rfl⟩
    rw [if_pos (by omega)]
    go_wp2
    go_ret
    exact ⟨rfl, B_0.out⟩
  case pos =>
    have hl' : ¬ ((1048576 : Int) < (len : Int)) := by omega
    have hl2 : ¬ ((1048576 : Int) - (len : Int) < 0) := by omega
    have H_0 := hide (h0.below hb0 (Nat.le_refl _))
    have V_0 := hide (show VwAt w.heap.size vx vy vw vh (w.alloc (.cells #[.int .i64 vx, .int .i64 vy, .int .i64 vw, .int .i64 vh] 24)) from heap_alloc_new w _)
    have hz0 : (w.alloc (.cells #[.int .i64 vx, .int .i64 vy, .int .i64 vw, .int .i64 vh] 24)).heap.size = w.heap.size + 1 := by simp
    clear h0 hb0
    go_enter Try.func3, Try.ntmps3
    go_wp2_with fail
    refine (szBoxS_any a0 len cap 1048576 _ hmx (by omega)).mono ?_
    rintro e W0 ⟨rfl, rfl⟩
    rw [if_neg (by omega)]
    clear hl'
    generalize (w.alloc (.cells #[.int .i64 vx, .int .i64 vy, .int .i64 vw, .int .i64 vh] 24)) = W0 at B_0 H_0 V_0 hz0 ⊢
    obtain ⟨m, hm⟩ : ∃ m, List.length (seenL zs len wd ht vx vy vw vh) = m := ⟨_, rfl⟩
    have hm17 : m ≤ 17 := by rw [← hm]; exact seenL_len
    have HM3 := hide hm
    clear hm
    have HVd := hide (fun W (h : Below W0.heap.size W0 W) => (V_0.out.below h (by omega)).cells)
    have HHd := hide (fun W (h : Below W0.heap.size W0 W) => (show Ints .i64 W W.heap.size a0 (len * 9) zs from (H_0.out.below h (by omega)).more (by have := h.size; omega)))
    go_upto_region 5 with fail
    go_cut [10] (fun s10 wx => ∃ (As : Option Addr) (cs : Nat) (W1 : World), s10 = .slice As m cs ∧ W1 = wx ∧ Hid (Row 3 W1 W0.heap.size W1.heap.size As m (seenL zs len wd ht vx vy vw vh) ∧ Below W0.heap.size W0 W1))
    case first =>
      have t9 := HVd.out W0 (Below.refl _ _)
      have hcur : Below W0.heap.size W0 W0.drew := (Below.refl _ _).drew
      first | go_region_held3 (fun w' => w'.cell? ⟨w.heap.size, 0, none⟩ = some (.int .i64 vx) ∧ w'.cell? ⟨w.heap.size, 1, none⟩ = some (.int .i64 vy) ∧ w'.cell? ⟨w.heap.size, 2, none⟩ = some (.int .i64 vw) ∧ w'.cell? ⟨w.heap.size, 3, none⟩ = some (.int .i64 vh)) (first | exact t9 | go_keep) (first | (go_at_call 6; refine (toBoxS_any a0 len cap zs _ (HHd.out _ hcur) hl).mono ?_; rintro e WX ⟨A1, n1, c1, rfl, p1, q1, r1, hb⟩; obtain rfl : len = n1 := by { have h1 := r1.1; rw [HTL.out] at h1; omega }; have hX := r1.ints; have hcur := hcur.trans (hb.mono hcur.size); have t9 := HVd.out _ hcur; clear r1 hb) | (go_at_call 7; have hX0 := hX; refine (toRect_any vx vy vw vh _).mono ?_; rintro e WT ⟨rfl, hb⟩; have hX := (hX0.below hb (Nat.le_refl _)).more hb.size; have hcur := hcur.trans (hb.mono hcur.size); have t9 := HVd.out _ hcur; clear hb) | (go_at_call 7; refine (toRect_any vx vy vw vh _).mono ?_; rintro e WT ⟨rfl, hb⟩; have hcur := hcur.trans (hb.mono hcur.size); have t9 := HVd.out _ hcur; clear hb) | (go_at_call 5; refine (specSeen_any _ A1 len c1 zs wd ht vx vy vw vh _ hX (Nat.le_refl _) (by omega)).mono ?_; rintro e W2 ⟨Aq, mq, cq, rfl, rQ, hb⟩; have hlo := hcur.size; have hcur := hcur.trans (hb.mono hcur.size); have t9 := HVd.out _ hcur; clear hb)) | fail
      all_goals
        obtain rfl : m = mq := by have h1 := rQ.1; rw [HM3.out] at h1; exact h1
        go_wp2
        go_meet
        exact ⟨Aq, cq, _, rfl, rfl, hide ⟨rQ.mono hlo (Nat.le_refl _), hcur⟩⟩
    case rest =>
      clear HVd HHd
      obtain ⟨As, cs, W1, rfl, rfl, hh⟩ := hcut
      have hb := hh.out.2
      have S_1 := hide hh.out.1
      clear hh
      have hz1 := hb.size
      have H_1 := hide (H_0.out.below hb (by omega))
      have B_1 := hide (B_0.out.trans (hb.mono (by omega)))
      have V_1 := hide (V_0.out.below hb (by omega))
      clear hb H_0 B_0 V_0
      go_wp2_with fail
      refine (toBoxS_any a0 len cap zs _ (H_1.out.more (by omega)) hl).mono ?_
      rintro e W2 ⟨A3, n3, c3, rfl, p3, q3, r3, hb⟩
      obtain rfl : len = n3 := by have h1 := r3.1; rw [HTL.out] at h1; omega
      have Y_2 := hide r3
      clear r3
      have hz2 := hb.size
      have H_2 := hide (H_1.out.below hb (by omega))
      have B_2 := hide (B_1.out.trans (hb.mono (by omega)))
      have V_2 := hide (V_1.out.below hb (by omega))
      have S_2 := hide (S_1.out.below hb (by omega))
      clear hb H_1 B_1 V_1 S_1
      obtain ⟨v0, v1, v2, v3⟩ := V_2.out.cells
      go_wp2_with fail
      refine (toRect_any vx vy vw vh _).mono ?_
      rintro e W3 ⟨rfl, hb⟩
      clear v0 v1 v2 v3
      have hz3 := hb.size
      have H_3 := hide (H_2.out.below hb (by omega))
      have B_3 := hide (B_2.out.trans (hb.mono (by omega)))
      have V_3 := hide (V_2.out.below hb (by omega))
      have S_3 := hide (S_2.out.below hb (by omega))
      have Y_3 := hide (Y_2.out.below hb (by omega))
      clear hb H_2 B_2 V_2 S_2 Y_2
      go_wp2_with fail
      refine (implSeen_any W2.heap.size A3 len c3 zs wd ht vx vy vw vh _ Y_3.out.ints (by omega) (by omega)).mono ?_
      rintro e W4 ⟨Ar, mr, cr, rfl, rR, hb⟩
      obtain rfl : m = mr := by have h1 := rR.1; rw [HM3.out] at h1; exact h1
      have R_4 := hide rR
      clear rR
      have hz4 := hb.size
      have H_4 := hide (H_3.out.below hb (by omega))
      have B_4 := hide (B_3.out.trans (hb.mono (by omega)))
      have V_4 := hide (V_3.out.below hb (by omega))
      have S_4 := hide (S_3.out.below hb (by omega))
      have Y_4 := hide (Y_3.out.below hb (by omega))
      clear hb H_3 B_3 V_3 S_3 Y_3
      go_wp2_with fail
      refine (eqIntS_any W4.heap.size W1.heap.size Ar As m m cr cs (seenL zs len wd ht vx vy vw vh) (seenL zs len wd ht vx vy vw vh) _ R_4.out.ints S_4.out.ints (by omega) (by omega)).mono ?_
      rintro e W5 ⟨rfl, hb⟩
      rw [listEq_self]
      have hz5 := hb.size
      have H_5 := hide (H_4.out.below hb (by omega))
      have B_5 := hide (B_4.out.trans (hb.mono (by omega)))
      have V_5 := hide (V_4.out.below hb (by omega))
      have S_5 := hide (S_4.out.below hb (by omega))
      have Y_5 := hide (Y_4.out.below hb (by omega))
      have R_5 := hide (R_4.out.below hb (by omega))
      clear hb H_4 B_4 V_4 S_4 Y_4 R_4
      go_wp2_with fail
      refine (toBoxS_any a0 len cap zs _ (H_5.out.more (by omega)) hl).mono ?_
      rintro e W6 ⟨A5, n5, c5, rfl, p5, q5, r5, hb⟩
      obtain rfl : len = n5 := by have h1 := r5.1; rw [HTL.out] at h1; omega
      have Z_6 := hide r5
      clear r5
      have hz6 := hb.size
      have H_6 := hide (H_5.out.below hb (by omega))
      have B_6 := hide (B_5.out.trans (hb.mono (by omega)))
      have V_6 := hide (V_5.out.below hb (by omega))
      have S_6 := hide (S_5.out.below hb (by omega))
      have Y_6 := hide (Y_5.out.below hb (by omega))
      have R_6 := hide (R_5.out.below hb (by omega))
      clear hb H_5 B_5 V_5 S_5 Y_5 R_5
      go_wp2_with fail
      refine (eqBoxS_self W2.heap.size W6.heap.size A3 A5 len c3 c5 zs _ Y_6.out.ints Z_6.out.ints (by omega) (by omega) (by omega)).mono ?_
      rintro e W7 ⟨rfl, hb⟩
      have hz7 := hb.size
      have H_7 := hide (H_6.out.below hb (by omega))
      have B_7 := hide (B_6.out.trans (hb.mono (by omega)))
      have V_7 := hide (V_6.out.below hb (by omega))
      have S_7 := hide (S_6.out.below hb (by omega))
      have Y_7 := hide (Y_6.out.below hb (by omega))
      have R_7 := hide (R_6.out.below hb (by omega))
      have Z_7 := hide (Z_6.out.below hb (by omega))
      clear hb H_6 B_6 V_6 S_6 Y_6 R_6 Z_6
      clear Z_7
      go_wp2_with fail
      refine (markBoxS_any 43 W1.heap.size W2.heap.size A3 len c3 zs 1 _ Y_7.out (by omega) (by omega)).mono ?_
      rintro e W8 ⟨rfl, rM, ho⟩
      clear rM
      obtain ⟨zA, hzA, hzA0⟩ : ∃ z : Int, 1 + ((len * 9 : Nat) : Int) = z ∧ 0 ≤ z ∧ z ≤ 1099511627776 := ⟨_, rfl, by omega, by omega⟩
      rw [hzA]
      have HzA := hide hzA
      clear hzA
      have hzA1 : ¬ zA < 0 := by omega
      have hzA2 : (zA != zA) = false := by simp
      clear Y_7
      have hz8 := ho.size
      have H_8 := hide (H_7.out.below (ho.below (Nat.le_refl _) (by omega)) (by omega))
      have B_8 := hide (B_7.out.trans (ho.below (by omega) (by omega)))
      have V_8 := hide (V_7.out.far ho (by omega))
      have S_8 := hide (S_7.out.far ho (by omega))
      have R_8 := hide (R_7.out.far ho (by omega))
      clear ho H_7 B_7 V_7 S_7 R_7
      go_wp2_with fail
      refine (eqIntS_any W4.heap.size W1.heap.size Ar As m m cr cs (seenL zs len wd ht vx vy vw vh) (seenL zs len wd ht vx vy vw vh) _ R_8.out.ints S_8.out.ints (by omega) (by omega)).mono ?_
      rintro e W9 ⟨rfl, hb⟩
      rw [listEq_self]
      have hz9 := hb.size
      have H_9 := hide (H_8.out.below hb (by omega))
      have B_9 := hide (B_8.out.trans (hb.mono (by omega)))
      have V_9 := hide (V_8.out.below hb (by omega))
      have S_9 := hide (S_8.out.below hb (by omega))
      have R_9 := hide (R_8.out.below hb (by omega))
      clear hb H_8 B_8 V_8 S_8 R_8
      go_wp2_with fail
      refine (markIntS_any 3 W3.heap.size W4.heap.size Ar m cr (seenL zs len wd ht vx vy vw vh) 1 _ R_9.out (by omega) (by omega)).mono ?_
      rintro e W10 ⟨rfl, rM, ho⟩
      have G_10 := hide rM
      clear rM
      obtain ⟨zB, hzB, hzB0⟩ : ∃ z : Int, 1 + (m : Int) = z ∧ 0 ≤ z ∧ z ≤ 1099511627776 := ⟨_, rfl, by omega, by omega⟩
      rw [hzB]
      have HzB := hide hzB
      clear hzB
      have hzB1 : ¬ zB < 0 := by omega
      have hzB2 : (zB != zB) = false := by simp
      clear R_9
      have hz10 := ho.size
      have H_10 := hide (H_9.out.below (ho.below (Nat.le_refl _) (by omega)) (by omega))
      have B_10 := hide (B_9.out.trans (ho.below (by omega) (by omega)))
      have V_10 := hide (V_9.out.far ho (by omega))
      have S_10 := hide (S_9.out.far ho (by omega))
      clear ho H_9 B_9 V_9 S_9
      go_wp2_with fail
      refine (heldIntS_any W4.heap.size Ar m cr 1 _ G_10.out.ints (by omega) (by omega)).mono ?_
      rintro e W11 ⟨rfl, rfl⟩
      rw [HzB.out]
      have H_11 := H_10
      clear H_10
      have B_11 := B_10
      clear B_10
      have V_11 := V_10
      clear V_10
      have S_11 := S_10
      clear S_10
      have G_11 := G_10
      clear G_10
      have HVd := hide (fun W (h : Below W10.heap.size W10 W) => (V_11.out.below h (by omega)).cells)
      have HHd := hide (fun W (h : Below W10.heap.size W10 W) => (show Ints .i64 W W.heap.size a0 (len * 9) zs from (H_11.out.below h (by omega)).more (by have := h.size; omega)))
      go_upto_region 24 with fail
      go_cut [16] (fun s16 wx => ∃ (Aq : Option Addr) (cq : Nat) (W12 : World), s16 = .slice Aq m cq ∧ W12 = wx ∧ Hid (Row 3 W12 W10.heap.size W12.heap.size Aq m (seenL zs len wd ht vx vy vw vh) ∧ Below W10.heap.size W10 W12))
      case first =>
        have t9 := HVd.out W10 (Below.refl _ _)
        have hcur : Below W10.heap.size W10 W10.drew := (Below.refl _ _).drew
        first | go_region_held3 (fun w' => w'.cell? ⟨w.heap.size, 0, none⟩ = some (.int .i64 vx) ∧ w'.cell? ⟨w.heap.size, 1, none⟩ = some (.int .i64 vy) ∧ w'.cell? ⟨w.heap.size, 2, none⟩ = some (.int .i64 vw) ∧ w'.cell? ⟨w.heap.size, 3, none⟩ = some (.int .i64 vh)) (first | exact t9 | go_keep) (first | (go_at_call 6; refine (toBoxS_any a0 len cap zs _ (HHd.out _ hcur) hl).mono ?_; rintro e WX ⟨A1, n1, c1, rfl, p1, q1, r1, hb⟩; obtain rfl : len = n1 := by { have h1 := r1.1; rw [HTL.out] at h1; omega }; have hX := r1.ints; have hcur := hcur.trans (hb.mono hcur.size); have t9 := HVd.out _ hcur; clear r1 hb) | (go_at_call 7; have hX0 := hX; refine (toRect_any vx vy vw vh _).mono ?_; rintro e WT ⟨rfl, hb⟩; have hX := (hX0.below hb (Nat.le_refl _)).more hb.size; have hcur := hcur.trans (hb.mono hcur.size); have t9 := HVd.out _ hcur; clear hb) | (go_at_call 7; refine (toRect_any vx vy vw vh _).mono ?_; rintro e WT ⟨rfl, hb⟩; have hcur := hcur.trans (hb.mono hcur.size); have t9 := HVd.out _ hcur; clear hb) | (go_at_call 8; refine (implSeen_any _ A1 len c1 zs wd ht vx vy vw vh _ hX (Nat.le_refl _) (by omega)).mono ?_; rintro e W2 ⟨Aq, mq, cq, rfl, rQ, hb⟩; have hlo := hcur.size; have hcur := hcur.trans (hb.mono hcur.size); have t9 := HVd.out _ hcur; clear hb)) | fail
        all_goals
          obtain rfl : m = mq := by have h1 := rQ.1; rw [HM3.out] at h1; exact h1
          go_wp2
          go_meet
          exact ⟨Aq, cq, _, rfl, rfl, hide ⟨rQ.mono hlo (Nat.le_refl _), hcur⟩⟩
      case rest =>
        clear HVd HHd
        obtain ⟨Aq, cq, W12, rfl, rfl, hh⟩ := hcut
        have hb := hh.out.2
        have Q_12 := hide hh.out.1
        clear hh
        have hz12 := hb.size
        have H_12 := hide (H_11.out.below hb (by omega))
        have B_12 := hide (B_11.out.trans (hb.mono (by omega)))
        have V_12 := hide (V_11.out.below hb (by omega))
        have S_12 := hide (S_11.out.below hb (by omega))
        have G_12 := hide (G_11.out.below hb (by omega))
        clear hb H_11 B_11 V_11 S_11 G_11
        go_wp2_with fail
        refine (eqIntS_any W12.heap.size W1.heap.size Aq As m m cq cs (seenL zs len wd ht vx vy vw vh) (seenL zs len wd ht vx vy vw vh) _ Q_12.out.ints S_12.out.ints (by omega) (by omega)).mono ?_
        rintro e W13 ⟨rfl, hb⟩
        rw [listEq_self]
        have hz13 := hb.size
        have H_13 := hide (H_12.out.below hb (by omega))
        have B_13 := hide (B_12.out.trans (hb.mono (by omega)))
        have V_13 := hide (V_12.out.below hb (by omega))
        have S_13 := hide (S_12.out.below hb (by omega))
        have G_13 := hide (G_12.out.below hb (by omega))
        have Q_13 := hide (Q_12.out.below hb (by omega))
        clear hb H_12 B_12 V_12 S_12 G_12 Q_12
        go_wp2_with fail
        refine (heldIntS_any W4.heap.size Ar m cr 1 _ G_13.out.ints (by omega) (by omega)).mono ?_
        rintro e W14 ⟨rfl, rfl⟩
        rw [HzB.out]
        have H_14 := H_13
        clear H_13
        have B_14 := B_13
        clear B_13
        have V_14 := V_13
        clear V_13
        have S_14 := S_13
        clear S_13
        have G_14 := G_13
        clear G_13
        have Q_14 := Q_13
        clear Q_13
        go_wp2
        go_ret
        exact ⟨rfl, B_14.out⟩
end Go.Proofs.Ythgliihdaockoaa
