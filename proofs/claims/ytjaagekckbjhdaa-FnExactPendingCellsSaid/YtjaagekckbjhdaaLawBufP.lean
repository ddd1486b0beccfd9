/- Exact laws of buffers: the walks. Conditions: none. -/
import Derived.Test.YtjaagekckbjhdaaLawBufE
namespace Go.Proofs.Ytjaagekckbjhdaa
open Go.RowKit
set_option linter.unusedVariables false
theorem pendS_len (xs ys : List Int) (v : Int) : (pendS xs ys v).length ≤ 16 := by
  unfold pendS; split
  · rename_i h; have h1 := validB_iff.1 h; have h2 := pendTo_len xs ys xs.length; omega
  · simp

set_option maxHeartbeats 4000000 in
theorem walk_FnExactPendingCells (aA : Option Addr) (an ac : Nat) (aB : Option Addr) (am ad : Nat) (xs ys : List Int) (v : Int) (w : World)
    (ha_0 : Ints .i64 w w.heap.size aA an xs) (hac : an ≤ ac) (hacm : ac ≤ maxLen) (hb_0 : Ints .i64 w w.heap.size aB am ys) (had : am ≤ ad) (hadm : ad ≤ maxLen) :
    Calls Try.prog 7 #[.agg #[.slice aA an ac, .slice aB am ad, .int .i64 v]] w fun e w' => e = .returned (.bool true) ∧ Below w.heap.size w w' := by
  unfold maxLen at hacm hadm
  have hB0 := hide (alB w (.cells #[.slice aA an ac, .slice aB am ad, .int .i64 v] 24))
  by_cases hsz : an + am ≤ 1048576
  case neg =>
    have e1 : szB an am = -1 := if_neg hsz
    clear ha_0 hb_0
    go_enter Try.func7, Try.ntmps7
    go_wp2_with fail
    refine (szBuffers_any aA an ac aB am ad v _ (by omega) (by omega)).mono ?_
    rintro e W1 ⟨rfl, hb⟩
    have HB := hide (hB0.out.trans (hb.mono (by simp)))
    clear hb
    go_wp2
    go_ret
    exact ⟨rfl, HB.out⟩
  case pos =>
    have e1 : szB an am = 1048576 - an - am := if_pos hsz
    have e2 := bufEq_self xs ys v
    go_enter Try.func7, Try.ntmps7
    go_wp2_with fail
    refine (szBuffers_any aA an ac aB am ad v _ (by omega) (by omega)).mono ?_
    rintro e W0 ⟨rfl, hb⟩
    have ha_1 := (ha_0.below hB0.out (Nat.le_refl _)).below hb (by simp)
    have hb_1 := (hb_0.below hB0.out (Nat.le_refl _)).below hb (by simp)
    have hzz : w.heap.size < W0.heap.size := by have := hb.size; simp at this; omega
    have ac0_0 : W0.cell? ⟨w.heap.size, 0, none⟩ = some (.slice aA an ac) := (hb.cell (p := ⟨w.heap.size, 0, none⟩) (by simp)).trans (by simp)
    have ac1_0 : W0.cell? ⟨w.heap.size, 1, none⟩ = some (.slice aB am ad) := (hb.cell (p := ⟨w.heap.size, 1, none⟩) (by simp)).trans (by simp)
    have ac2_0 : W0.cell? ⟨w.heap.size, 2, none⟩ = some (.int .i64 v) := (hb.cell (p := ⟨w.heap.size, 2, none⟩) (by simp)).trans (by simp)
    have hB0 := hB0.out.trans (hb.mono (by simp))
    clear hb ha_0 hb_0
    have he := listEq_self (pendS xs ys v)
    have hlen := hide (pendS_len xs ys v)
    go_wp2_with fail
    refine (toBuffers_any _ aA an ac aB am ad xs ys v _ ha_1 hb_1 (by first | omega | (simp; done) | (simp; omega)) (by omega) (by omega)).mono ?_
    rintro e W1 ⟨pA, pn, pc, pB, pm, pd, rfl, pk1, pk2, pk3, pk4, hb, pM, pl1, pl2, pf_0, pb_0⟩
    have plo := pl1
    have hz1 := hb.size
    have abc0_1 := (hb.cell (p := ⟨w.heap.size, 0, none⟩) (by show w.heap.size < W0.heap.size; omega)).trans ac0_0
    have abc1_1 := (hb.cell (p := ⟨w.heap.size, 1, none⟩) (by show w.heap.size < W0.heap.size; omega)).trans ac1_0
    have abc2_1 := (hb.cell (p := ⟨w.heap.size, 2, none⟩) (by show w.heap.size < W0.heap.size; omega)).trans ac2_0
    clear ac0_0 ac1_0 ac2_0
    have a_1 := ha_1.below hb (by omega)
    clear ha_1
    have b_1 := hb_1.below hb (by omega)
    clear hb_1
    have hB1 := hB0.trans (hb.mono (by omega))
    clear hB0
    clear hb
    have pn1 : pn ≤ 1048576 := by have h1 := pf_0.1; have h2 := a_1.1; omega
    have pm1 : pm ≤ 1048576 := by have h1 := pb_0.1; have h2 := b_1.1; omega
    go_wp2_with fail
    refine (specPend_any W1.heap.size pA pn pc pB pm pd xs ys v _ (⟨(pf_0.mono (Nat.le_refl _) (by first | omega | (simp; done) | (simp; omega))).ints, (pb_0.mono (Nat.le_refl _) (by first | omega | (simp; done) | (simp; omega))).ints, by omega, by omega, by omega, by omega⟩) (by first | omega | (simp; done) | (simp; omega))).mono ?_
    rintro e W2 ⟨w0A, w0n, w0c, rfl, w0k1, w0k2, w0r_0, hb⟩
    have hz2 := hb.size
    have abc0_2 := (hb.cell (p := ⟨w.heap.size, 0, none⟩) (by show w.heap.size < W1.heap.size; omega)).trans abc0_1
    have abc1_2 := (hb.cell (p := ⟨w.heap.size, 1, none⟩) (by show w.heap.size < W1.heap.size; omega)).trans abc1_1
    have abc2_2 := (hb.cell (p := ⟨w.heap.size, 2, none⟩) (by show w.heap.size < W1.heap.size; omega)).trans abc2_1
    clear abc0_1 abc1_1 abc2_1
    have pf_2 := pf_0.belowS hb
    clear pf_0
    have pb_2 := pb_0.belowS hb
    clear pb_0
    have a_2 := a_1.below hb (by omega)
    clear a_1
    have b_2 := b_1.below hb (by omega)
    clear b_1
    have hB2 := hB1.trans (hb.mono (by omega))
    clear hB1
    clear hb
    have w0n1 : w0n ≤ 16 := by have h1 := w0r_0.1; have h2 := hlen.out; omega
    clear pf_2
    clear pb_2
    go_wp2_with fail
    refine (toBuffers_any _ aA an ac aB am ad xs ys v _ a_2 b_2 (by first | omega | (simp; done) | (simp; omega)) (by omega) (by omega)).mono ?_
    rintro e W3 ⟨xA, xn, xc, xB, xm, xd, rfl, xk1, xk2, xk3, xk4, hb, xM, xl1, xl2, xf_0, xb_0⟩
    have xlo := xl1
    have hz3 := hb.size
    have abc0_3 := (hb.cell (p := ⟨w.heap.size, 0, none⟩) (by show w.heap.size < W2.heap.size; omega)).trans abc0_2
    have abc1_3 := (hb.cell (p := ⟨w.heap.size, 1, none⟩) (by show w.heap.size < W2.heap.size; omega)).trans abc1_2
    have abc2_3 := (hb.cell (p := ⟨w.heap.size, 2, none⟩) (by show w.heap.size < W2.heap.size; omega)).trans abc2_2
    clear abc0_2 abc1_2 abc2_2
    have w0r_3 := w0r_0.belowS hb
    clear w0r_0
    have a_3 := a_2.below hb (by omega)
    clear a_2
    have b_3 := b_2.below hb (by omega)
    clear b_2
    have hB3 := hB2.trans (hb.mono (by omega))
    clear hB2
    clear hb
    have xn1 : xn ≤ 1048576 := by have h1 := xf_0.1; have h2 := a_3.1; omega
    have xm1 : xm ≤ 1048576 := by have h1 := xb_0.1; have h2 := b_3.1; omega
    have al_ab0 := fun X => (World.cell?_alloc_lt W3 X ⟨w.heap.size, 0, none⟩ (by show w.heap.size < W3.heap.size; omega)).trans abc0_3
    have al_ab1 := fun X => (World.cell?_alloc_lt W3 X ⟨w.heap.size, 1, none⟩ (by show w.heap.size < W3.heap.size; omega)).trans abc1_3
    have al_ab2 := fun X => (World.cell?_alloc_lt W3 X ⟨w.heap.size, 2, none⟩ (by show w.heap.size < W3.heap.size; omega)).trans abc2_3
    go_wp2_with fail
    refine (implPend_any W3.heap.size xA xn xc xB xm xd xs ys v _ (⟨((xf_0.belowS (alB _ _)).mono (Nat.le_refl _) (by first | omega | (simp; done) | (simp; omega))).ints, ((xb_0.belowS (alB _ _)).mono (Nat.le_refl _) (by first | omega | (simp; done) | (simp; omega))).ints, by omega, by omega, by omega, by omega⟩) (by first | omega | (simp; done) | (simp; omega))).mono ?_
    rintro e W4 ⟨g0A, g0n, g0c, rfl, g0k1, g0k2, g0r_0, hb⟩
    have g0r_00 := g0r_0.mono (lo' := W3.heap.size + 1) (by simp) (Nat.le_refl _)
    clear g0r_0
    clear al_ab0 al_ab1 al_ab2
    have xboxc0_4 : W4.cell? ⟨W3.heap.size, 0, none⟩ = some (.slice xA xn xc) := (hb.cell (p := ⟨W3.heap.size, 0, none⟩) (by simp)).trans (by simp)
    have xboxc1_4 : W4.cell? ⟨W3.heap.size, 1, none⟩ = some (.slice xB xm xd) := (hb.cell (p := ⟨W3.heap.size, 1, none⟩) (by simp)).trans (by simp)
    have xboxc2_4 : W4.cell? ⟨W3.heap.size, 2, none⟩ = some (.int .i64 v) := (hb.cell (p := ⟨W3.heap.size, 2, none⟩) (by simp)).trans (by simp)
    have hlt4 : W3.heap.size < W4.heap.size := by have := hb.size; simp at this; omega
    have hq4 := (alB W3 _).trans (hb.mono (by simp))
    have hz4 := hq4.size
    have abc0_4 := (hq4.cell (p := ⟨w.heap.size, 0, none⟩) (by show w.heap.size < W3.heap.size; omega)).trans abc0_3
    have abc1_4 := (hq4.cell (p := ⟨w.heap.size, 1, none⟩) (by show w.heap.size < W3.heap.size; omega)).trans abc1_3
    have abc2_4 := (hq4.cell (p := ⟨w.heap.size, 2, none⟩) (by show w.heap.size < W3.heap.size; omega)).trans abc2_3
    clear abc0_3 abc1_3 abc2_3
    have w0r_4 := w0r_3.belowS hq4
    clear w0r_3
    have xf_4 := xf_0.belowS hq4
    clear xf_0
    have xb_4 := xb_0.belowS hq4
    clear xb_0
    have a_4 := a_3.below hq4 (by omega)
    clear a_3
    have b_4 := b_3.below hq4 (by omega)
    clear b_3
    have hB4 := hB3.trans (hq4.mono (by omega))
    clear hB3
    clear hb hq4
    have g0n1 : g0n ≤ 16 := by have h1 := g0r_00.1; have h2 := hlen.out; omega
    go_wp2_with fail
    refine (eqIntS_any _ _ g0A w0A g0n w0n g0c w0c _ _ _ g0r_00.ints w0r_4.ints (by omega) (by omega)).mono ?_
    rintro e W5 ⟨rfl, hb⟩
    have hz5 := hb.size
    have abc0_5 := (hb.cell (p := ⟨w.heap.size, 0, none⟩) (by show w.heap.size < W4.heap.size; omega)).trans abc0_4
    have abc1_5 := (hb.cell (p := ⟨w.heap.size, 1, none⟩) (by show w.heap.size < W4.heap.size; omega)).trans abc1_4
    have abc2_5 := (hb.cell (p := ⟨w.heap.size, 2, none⟩) (by show w.heap.size < W4.heap.size; omega)).trans abc2_4
    clear abc0_4 abc1_4 abc2_4
    have xboxc0_5 := (hb.cell (p := ⟨W3.heap.size, 0, none⟩) (by show W3.heap.size < W4.heap.size; omega)).trans xboxc0_4
    have xboxc1_5 := (hb.cell (p := ⟨W3.heap.size, 1, none⟩) (by show W3.heap.size < W4.heap.size; omega)).trans xboxc1_4
    have xboxc2_5 := (hb.cell (p := ⟨W3.heap.size, 2, none⟩) (by show W3.heap.size < W4.heap.size; omega)).trans xboxc2_4
    clear xboxc0_4 xboxc1_4 xboxc2_4
    have w0r_5 := w0r_4.belowS hb
    clear w0r_4
    have xf_5 := xf_4.belowS hb
    clear xf_4
    have xb_5 := xb_4.belowS hb
    clear xb_4
    have g0r_5 := g0r_00.belowS hb
    clear g0r_00
    have a_5 := a_4.below hb (by omega)
    clear a_4
    have b_5 := b_4.below hb (by omega)
    clear b_4
    have hB5 := hB4.trans (hb.mono (by omega))
    clear hB4
    clear hb
    go_wp2_with fail
    go_region_held3 (fun w' => w'.cell? ⟨w.heap.size, 0, none⟩ = some (.slice aA an ac) ∧ w'.cell? ⟨w.heap.size, 1, none⟩ = some (.slice aB am ad) ∧ w'.cell? ⟨w.heap.size, 2, none⟩ = some (.int .i64 v) ∧ w'.cell? ⟨W3.heap.size, 0, none⟩ = some (.slice xA xn xc) ∧ w'.cell? ⟨W3.heap.size, 1, none⟩ = some (.slice xB xm xd) ∧ w'.cell? ⟨W3.heap.size, 2, none⟩ = some (.int .i64 v)) (first | go_keep | exact ⟨abc0_6, abc1_6, abc2_6, xboxc0_6, xboxc1_6, xboxc2_6⟩ | exact ⟨abc0_7, abc1_7, abc2_7, xboxc0_7, xboxc1_7, xboxc2_7⟩) (first | (go_at_call 11; refine (toBuffers_any _ aA an ac aB am ad xs ys v _ (by exact a_5) (by exact b_5) (by simp; omega) (by omega) (by omega)).mono ?_; rintro e W6 ⟨yA, yn, yc, yB, ym, yd, rfl, yk1, yk2, yk3, yk4, hbd, yM, yl1, yl2, yf_0, yb_0⟩; have hb := below_undrew hbd; clear hbd; have yln : yn ≤ 1048576 := (by have h1 := yf_0.1; have h2 := a_5.1; omega); have ylm : ym ≤ 1048576 := (by have h1 := yb_0.1; have h2 := b_5.1; omega); have ylo : W5.heap.size ≤ yM := (by simpa using yl1); have hz6 := hb.size; have abc0_6 := (hb.cell (p := ⟨w.heap.size, 0, none⟩) (by show w.heap.size < W5.heap.size; omega)).trans abc0_5; have abc1_6 := (hb.cell (p := ⟨w.heap.size, 1, none⟩) (by show w.heap.size < W5.heap.size; omega)).trans abc1_5; have abc2_6 := (hb.cell (p := ⟨w.heap.size, 2, none⟩) (by show w.heap.size < W5.heap.size; omega)).trans abc2_5; clear abc0_5 abc1_5 abc2_5; have xboxc0_6 := (hb.cell (p := ⟨W3.heap.size, 0, none⟩) (by show W3.heap.size < W5.heap.size; omega)).trans xboxc0_5; have xboxc1_6 := (hb.cell (p := ⟨W3.heap.size, 1, none⟩) (by show W3.heap.size < W5.heap.size; omega)).trans xboxc1_5; have xboxc2_6 := (hb.cell (p := ⟨W3.heap.size, 2, none⟩) (by show W3.heap.size < W5.heap.size; omega)).trans xboxc2_5; clear xboxc0_5 xboxc1_5 xboxc2_5; have w0r_6 := w0r_5.belowS hb; clear w0r_5; have xf_6 := xf_5.belowS hb; clear xf_5; have xb_6 := xb_5.belowS hb; clear xb_5; have g0r_6 := g0r_5.belowS hb; clear g0r_5; have a_6 := a_5.below hb (by omega); clear a_5; have b_6 := b_5.below hb (by omega); clear b_5; have hB6 := hB5.trans (hb.mono (by omega)); clear hB5; clear hb; clear yl1) | (go_at_call 13; refine (eqBuffers_any W6.heap.size W6.heap.size _ _ _ _ _ _ _ _ _ _ _ _ xs ys xs ys v v _ (xf_6.mono (Nat.le_refl _) (by omega)).ints (xb_6.mono (Nat.le_refl _) (by omega)).ints (yf_0.mono (Nat.le_refl _) (by omega)).ints (yb_0.mono (Nat.le_refl _) (by omega)).ints (by omega) (by omega) (by omega) (by omega) (by omega) (by omega)).mono ?_; rintro e W7 ⟨rfl, hb⟩; have hz7 := hb.size; have abc0_7 := (hb.cell (p := ⟨w.heap.size, 0, none⟩) (by show w.heap.size < W6.heap.size; omega)).trans abc0_6; have abc1_7 := (hb.cell (p := ⟨w.heap.size, 1, none⟩) (by show w.heap.size < W6.heap.size; omega)).trans abc1_6; have abc2_7 := (hb.cell (p := ⟨w.heap.size, 2, none⟩) (by show w.heap.size < W6.heap.size; omega)).trans abc2_6; clear abc0_6 abc1_6 abc2_6; have xboxc0_7 := (hb.cell (p := ⟨W3.heap.size, 0, none⟩) (by show W3.heap.size < W6.heap.size; omega)).trans xboxc0_6; have xboxc1_7 := (hb.cell (p := ⟨W3.heap.size, 1, none⟩) (by show W3.heap.size < W6.heap.size; omega)).trans xboxc1_6; have xboxc2_7 := (hb.cell (p := ⟨W3.heap.size, 2, none⟩) (by show W3.heap.size < W6.heap.size; omega)).trans xboxc2_6; clear xboxc0_6 xboxc1_6 xboxc2_6; have w0r_7 := w0r_6.belowS hb; clear w0r_6; have xf_7 := xf_6.belowS hb; clear xf_6; have xb_7 := xb_6.belowS hb; clear xb_6; have g0r_7 := g0r_6.belowS hb; clear g0r_6; have yf_7 := yf_0.belowS hb; clear yf_0; have yb_7 := yb_0.belowS hb; clear yb_0; have a_7 := a_6.below hb (by omega); clear a_6; have b_7 := b_6.below hb (by omega); clear b_6; have hB7 := hB6.trans (hb.mono (by omega)); clear hB6; clear hb))
    clear yf_7
    clear yb_7
    go_wp2_with fail
    refine (markBuffers_any _ _ _ xA xn xc xB xm xd _ _ v 1 _ xf_7 xb_7 (by omega) (by omega) (by omega) (by omega) (by omega) (by omega)).mono ?_
    rintro e W8 ⟨rfl, hrf, hrb, ho⟩
    have hz8 := ho.size
    have abc0_8 := (World.cell?_of_block (w := W7) (a := ⟨w.heap.size, 0, none⟩) (ho.block (w.heap.size) (by omega) (by omega))).trans abc0_7
    have abc1_8 := (World.cell?_of_block (w := W7) (a := ⟨w.heap.size, 1, none⟩) (ho.block (w.heap.size) (by omega) (by omega))).trans abc1_7
    have abc2_8 := (World.cell?_of_block (w := W7) (a := ⟨w.heap.size, 2, none⟩) (ho.block (w.heap.size) (by omega) (by omega))).trans abc2_7
    clear abc0_7 abc1_7 abc2_7
    have xboxc0_8 := (World.cell?_of_block (w := W7) (a := ⟨W3.heap.size, 0, none⟩) (ho.block (W3.heap.size) (by omega) (by omega))).trans xboxc0_7
    have xboxc1_8 := (World.cell?_of_block (w := W7) (a := ⟨W3.heap.size, 1, none⟩) (ho.block (W3.heap.size) (by omega) (by omega))).trans xboxc1_7
    have xboxc2_8 := (World.cell?_of_block (w := W7) (a := ⟨W3.heap.size, 2, none⟩) (ho.block (W3.heap.size) (by omega) (by omega))).trans xboxc2_7
    clear xboxc0_7 xboxc1_7 xboxc2_7
    have w0r_8 := w0r_7.far ho (by omega)
    clear w0r_7
    have g0r_8 := g0r_7.far ho (by omega)
    clear g0r_7
    have a_8 := a_7.only ho (by omega) (by omega)
    clear a_7
    have b_8 := b_7.only ho (by omega) (by omega)
    clear b_7
    have hB8 := hB7.trans (ho.below (by omega) (by omega))
    clear hB7
    clear ho
    clear xf_7
    have xf_m8 := hrf
    clear hrf
    clear xb_7
    have xb_m8 := hrb
    clear hrb
    clear xf_m8
    clear xb_m8
    go_wp2_with fail
    refine (eqIntS_any _ _ g0A w0A g0n w0n g0c w0c _ _ _ g0r_8.ints w0r_8.ints (by omega) (by omega)).mono ?_
    rintro e W9 ⟨rfl, hb⟩
    have hz9 := hb.size
    have abc0_9 := (hb.cell (p := ⟨w.heap.size, 0, none⟩) (by show w.heap.size < W8.heap.size; omega)).trans abc0_8
    have abc1_9 := (hb.cell (p := ⟨w.heap.size, 1, none⟩) (by show w.heap.size < W8.heap.size; omega)).trans abc1_8
    have abc2_9 := (hb.cell (p := ⟨w.heap.size, 2, none⟩) (by show w.heap.size < W8.heap.size; omega)).trans abc2_8
    clear abc0_8 abc1_8 abc2_8
    have xboxc0_9 := (hb.cell (p := ⟨W3.heap.size, 0, none⟩) (by show W3.heap.size < W8.heap.size; omega)).trans xboxc0_8
    have xboxc1_9 := (hb.cell (p := ⟨W3.heap.size, 1, none⟩) (by show W3.heap.size < W8.heap.size; omega)).trans xboxc1_8
    have xboxc2_9 := (hb.cell (p := ⟨W3.heap.size, 2, none⟩) (by show W3.heap.size < W8.heap.size; omega)).trans xboxc2_8
    clear xboxc0_8 xboxc1_8 xboxc2_8
    have w0r_9 := w0r_8.belowS hb
    clear w0r_8
    have g0r_9 := g0r_8.belowS hb
    clear g0r_8
    have a_9 := a_8.below hb (by omega)
    clear a_8
    have b_9 := b_8.below hb (by omega)
    clear b_8
    have hB9 := hB8.trans (hb.mono (by omega))
    clear hB8
    clear hb
    go_wp2_with fail
    refine (markIntS_any _ _ _ g0A g0n g0c _ 1 _ g0r_9 (by omega) (by omega)).mono ?_
    rintro e W10 ⟨rfl, hrw, ho⟩
    have hz10 := ho.size
    have abc0_10 := (World.cell?_of_block (w := W9) (a := ⟨w.heap.size, 0, none⟩) (ho.block (w.heap.size) (by omega) (by omega))).trans abc0_9
    have abc1_10 := (World.cell?_of_block (w := W9) (a := ⟨w.heap.size, 1, none⟩) (ho.block (w.heap.size) (by omega) (by omega))).trans abc1_9
    have abc2_10 := (World.cell?_of_block (w := W9) (a := ⟨w.heap.size, 2, none⟩) (ho.block (w.heap.size) (by omega) (by omega))).trans abc2_9
    clear abc0_9 abc1_9 abc2_9
    have xboxc0_10 := (World.cell?_of_block (w := W9) (a := ⟨W3.heap.size, 0, none⟩) (ho.block (W3.heap.size) (by omega) (by omega))).trans xboxc0_9
    have xboxc1_10 := (World.cell?_of_block (w := W9) (a := ⟨W3.heap.size, 1, none⟩) (ho.block (W3.heap.size) (by omega) (by omega))).trans xboxc1_9
    have xboxc2_10 := (World.cell?_of_block (w := W9) (a := ⟨W3.heap.size, 2, none⟩) (ho.block (W3.heap.size) (by omega) (by omega))).trans xboxc2_9
    clear xboxc0_9 xboxc1_9 xboxc2_9
    have w0r_10 := w0r_9.far ho (by omega)
    clear w0r_9
    have a_10 := a_9.only ho (by omega) (by omega)
    clear a_9
    have b_10 := b_9.only ho (by omega) (by omega)
    clear b_9
    have hB10 := hB9.trans (ho.below (by omega) (by omega))
    clear hB9
    clear ho
    clear g0r_9
    have g0r_m := hrw
    clear hrw
    go_wp2_with fail
    refine (heldIntS_any _ g0A g0n g0c 1 _ g0r_m.ints (by omega) (by omega)).mono ?_
    rintro e w' ⟨rfl, rfl⟩
    go_wp2_with fail
    refine (toBuffers_any _ aA an ac aB am ad xs ys v _ a_10 b_10 (by first | omega | (simp; done) | (simp; omega)) (by omega) (by omega)).mono ?_
    rintro e W11 ⟨qA, qn, qc, qB, qm, qd, rfl, qk1, qk2, qk3, qk4, hb, qM, ql1, ql2, qf_0, qb_0⟩
    have qlo := ql1
    have hz11 := hb.size
    have abc0_11 := (hb.cell (p := ⟨w.heap.size, 0, none⟩) (by show w.heap.size < W10.heap.size; omega)).trans abc0_10
    have abc1_11 := (hb.cell (p := ⟨w.heap.size, 1, none⟩) (by show w.heap.size < W10.heap.size; omega)).trans abc1_10
    have abc2_11 := (hb.cell (p := ⟨w.heap.size, 2, none⟩) (by show w.heap.size < W10.heap.size; omega)).trans abc2_10
    clear abc0_10 abc1_10 abc2_10
    have xboxc0_11 := (hb.cell (p := ⟨W3.heap.size, 0, none⟩) (by show W3.heap.size < W10.heap.size; omega)).trans xboxc0_10
    have xboxc1_11 := (hb.cell (p := ⟨W3.heap.size, 1, none⟩) (by show W3.heap.size < W10.heap.size; omega)).trans xboxc1_10
    have xboxc2_11 := (hb.cell (p := ⟨W3.heap.size, 2, none⟩) (by show W3.heap.size < W10.heap.size; omega)).trans xboxc2_10
    clear xboxc0_10 xboxc1_10 xboxc2_10
    have w0r_11 := w0r_10.belowS hb
    clear w0r_10
    have g0r_11 := g0r_m.belowS hb
    clear g0r_m
    have a_11 := a_10.below hb (by omega)
    clear a_10
    have b_11 := b_10.below hb (by omega)
    clear b_10
    have hB11 := hB10.trans (hb.mono (by omega))
    clear hB10
    clear hb
    have qn1 : qn ≤ 1048576 := by have h1 := qf_0.1; have h2 := a_11.1; omega
    have qm1 : qm ≤ 1048576 := by have h1 := qb_0.1; have h2 := b_11.1; omega
    go_wp2_with fail
    refine (implPend_any W11.heap.size qA qn qc qB qm qd xs ys v _ (⟨(qf_0.mono (Nat.le_refl _) (by first | omega | (simp; done) | (simp; omega))).ints, (qb_0.mono (Nat.le_refl _) (by first | omega | (simp; done) | (simp; omega))).ints, by omega, by omega, by omega, by omega⟩) (by first | omega | (simp; done) | (simp; omega))).mono ?_
    rintro e W12 ⟨h0A, h0n, h0c, rfl, h0k1, h0k2, h0r_0, hb⟩
    have hz12 := hb.size
    have abc0_12 := (hb.cell (p := ⟨w.heap.size, 0, none⟩) (by show w.heap.size < W11.heap.size; omega)).trans abc0_11
    have abc1_12 := (hb.cell (p := ⟨w.heap.size, 1, none⟩) (by show w.heap.size < W11.heap.size; omega)).trans abc1_11
    have abc2_12 := (hb.cell (p := ⟨w.heap.size, 2, none⟩) (by show w.heap.size < W11.heap.size; omega)).trans abc2_11
    clear abc0_11 abc1_11 abc2_11
    have xboxc0_12 := (hb.cell (p := ⟨W3.heap.size, 0, none⟩) (by show W3.heap.size < W11.heap.size; omega)).trans xboxc0_11
    have xboxc1_12 := (hb.cell (p := ⟨W3.heap.size, 1, none⟩) (by show W3.heap.size < W11.heap.size; omega)).trans xboxc1_11
    have xboxc2_12 := (hb.cell (p := ⟨W3.heap.size, 2, none⟩) (by show W3.heap.size < W11.heap.size; omega)).trans xboxc2_11
    clear xboxc0_11 xboxc1_11 xboxc2_11
    have w0r_12 := w0r_11.belowS hb
    clear w0r_11
    have g0r_12 := g0r_11.belowS hb
    clear g0r_11
    have qf_12 := qf_0.belowS hb
    clear qf_0
    have qb_12 := qb_0.belowS hb
    clear qb_0
    have a_12 := a_11.below hb (by omega)
    clear a_11
    have b_12 := b_11.below hb (by omega)
    clear b_11
    have hB12 := hB11.trans (hb.mono (by omega))
    clear hB11
    clear hb
    have h0n1 : h0n ≤ 16 := by have h1 := h0r_0.1; have h2 := hlen.out; omega
    clear qf_12
    clear qb_12
    go_wp2_with fail
    refine (eqIntS_any _ _ h0A w0A h0n w0n h0c w0c _ _ _ h0r_0.ints w0r_12.ints (by omega) (by omega)).mono ?_
    rintro e W13 ⟨rfl, hb⟩
    have hz13 := hb.size
    have abc0_13 := (hb.cell (p := ⟨w.heap.size, 0, none⟩) (by show w.heap.size < W12.heap.size; omega)).trans abc0_12
    have abc1_13 := (hb.cell (p := ⟨w.heap.size, 1, none⟩) (by show w.heap.size < W12.heap.size; omega)).trans abc1_12
    have abc2_13 := (hb.cell (p := ⟨w.heap.size, 2, none⟩) (by show w.heap.size < W12.heap.size; omega)).trans abc2_12
    clear abc0_12 abc1_12 abc2_12
    have xboxc0_13 := (hb.cell (p := ⟨W3.heap.size, 0, none⟩) (by show W3.heap.size < W12.heap.size; omega)).trans xboxc0_12
    have xboxc1_13 := (hb.cell (p := ⟨W3.heap.size, 1, none⟩) (by show W3.heap.size < W12.heap.size; omega)).trans xboxc1_12
    have xboxc2_13 := (hb.cell (p := ⟨W3.heap.size, 2, none⟩) (by show W3.heap.size < W12.heap.size; omega)).trans xboxc2_12
    clear xboxc0_12 xboxc1_12 xboxc2_12
    have w0r_13 := w0r_12.belowS hb
    clear w0r_12
    have g0r_13 := g0r_12.belowS hb
    clear g0r_12
    have h0r_13 := h0r_0.belowS hb
    clear h0r_0
    have a_13 := a_12.below hb (by omega)
    clear a_12
    have b_13 := b_12.below hb (by omega)
    clear b_12
    have hB13 := hB12.trans (hb.mono (by omega))
    clear hB12
    clear hb
    go_wp2_with fail
    refine (heldIntS_any _ g0A g0n g0c 1 _ g0r_13.ints (by omega) (by omega)).mono ?_
    rintro e w' ⟨rfl, rfl⟩
    have HB := hide hB13
    clear hB13
    clear w0r_13
    clear g0r_13
    clear h0r_13
    clear a_13
    clear b_13
    go_wp2
    go_ret
    exact ⟨rfl, HB.out⟩
end Go.Proofs.Ytjaagekckbjhdaa
