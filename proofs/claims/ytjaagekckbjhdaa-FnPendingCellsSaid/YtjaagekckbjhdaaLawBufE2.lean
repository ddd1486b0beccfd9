/- Exact laws of buffers: the walks. Conditions: none. -/
import Derived.Test.YtjaagekckbjhdaaLawBufE
namespace Go.Proofs.Ytjaagekckbjhdaa
open Go.RowKit
set_option linter.unusedVariables false
theorem dropS_len (xs ys : List Int) (v : Int) : (dropS xs ys v).xs.length ≤ 16 ∧ (dropS xs ys v).ys.length ≤ 16 := by
  unfold dropS; split
  · rename_i h; have := validB_iff.1 h; simp only; omega
  · simp [noAns]
theorem swapS_len (xs ys : List Int) (v : Int) : (swapS xs ys v).xs.length ≤ 16 ∧ (swapS xs ys v).ys.length ≤ 16 := by
  unfold swapS; split
  · rename_i h; have := validB_iff.1 h.1; simp only; omega
  · simp [noAns]
theorem writeS_len (xs ys : List Int) (v i x : Int) : (writeS xs ys v i x).xs.length ≤ 16 ∧ (writeS xs ys v i x).ys.length ≤ 16 := by
  unfold writeS; split
  · rename_i h; rw [Bool.and_eq_true] at h; have := validB_iff.1 h.1.1; simp only [List.length_set]; omega
  · simp [noAns]

set_option maxHeartbeats 4000000 in
theorem walk_FnExactReadCell (aA : Option Addr) (an ac : Nat) (aB : Option Addr) (am ad : Nat) (xs ys : List Int) (v : Int) (i : Int) (w : World)
    (ha_0 : Ints .i64 w w.heap.size aA an xs) (hac : an ≤ ac) (hacm : ac ≤ maxLen) (hb_0 : Ints .i64 w w.heap.size aB am ys) (had : am ≤ ad) (hadm : ad ≤ maxLen) (hi : (Lit.int .i64 i).wf = true) :
    Calls Try.prog 5 #[.agg #[.slice aA an ac, .slice aB am ad, .int .i64 v], .int .i64 i] w fun e w' => e = .returned (.bool true) ∧ Below w.heap.size w w' := by
  unfold maxLen at hacm hadm
  have hB0 := hide (alB w (.cells #[.slice aA an ac, .slice aB am ad, .int .i64 v] 24))
  by_cases hsz : an + am ≤ 1048576
  case neg =>
    have e1 : szB an am = -1 := if_neg hsz
    clear ha_0 hb_0
    go_enter Try.func5, Try.ntmps5
    go_wp2_with fail
    refine (szBuffers_any aA an ac aB am ad v _ (by omega) (by omega)).mono ?_
    rintro e W1 ⟨rfl, hb⟩
    have HB := hide (hB0.out.trans (hb.mono (by simp)))
    clear hb
    go_wp2
    go_ret
    exact ⟨rfl, HB.out⟩
  case pos =>
    have e1 : szB an am = 1048576 - an - am := if_pos hsz
    have e2 := bufEq_self xs ys v
    go_enter Try.func5, Try.ntmps5
    go_wp2_with fail
    refine (szBuffers_any aA an ac aB am ad v _ (by omega) (by omega)).mono ?_
    rintro e W0 ⟨rfl, hb⟩
    have ha_1 := (ha_0.below hB0.out (Nat.le_refl _)).below hb (by simp)
    have hb_1 := (hb_0.below hB0.out (Nat.le_refl _)).below hb (by simp)
    have hzz : w.heap.size < W0.heap.size := by have := hb.size; simp at this; omega
    have ac0_0 : W0.cell? ⟨w.heap.size, 0, none⟩ = some (.slice aA an ac) := (hb.cell (p := ⟨w.heap.size, 0, none⟩) (by simp)).trans (by simp)
    have ac1_0 : W0.cell? ⟨w.heap.size, 1, none⟩ = some (.slice aB am ad) := (hb.cell (p := ⟨w.heap.size, 1, none⟩) (by simp)).trans (by simp)
    have ac2_0 : W0.cell? ⟨w.heap.size, 2, none⟩ = some (.int .i64 v) := (hb.cell (p := ⟨w.heap.size, 2, none⟩) (by simp)).trans (by simp)
    have hB0 := hB0.out.trans (hb.mono (by simp))
    clear hb ha_0 hb_0
    go_wp2_with fail
    refine (toBuffers_any _ aA an ac aB am ad xs ys v _ ha_1 hb_1 (by first | omega | (simp; done) | (simp; omega)) (by omega) (by omega)).mono ?_
    rintro e W1 ⟨pA, pn, pc, pB, pm, pd, rfl, pk1, pk2, pk3, pk4, hb, pM, pl1, pl2, pf_0, pb_0⟩
    have plo := pl1
    have hz1 := hb.size
    have abc0_1 := (hb.cell (p := ⟨w.heap.size, 0, none⟩) (by show w.heap.size < W0.heap.size; omega)).trans ac0_0
    have abc1_1 := (hb.cell (p := ⟨w.heap.size, 1, none⟩) (by show w.heap.size < W0.heap.size; omega)).trans ac1_0
    have abc2_1 := (hb.cell (p := ⟨w.heap.size, 2, none⟩) (by show w.heap.size < W0.heap.size; omega)).trans ac2_0
    clear ac0_0 ac1_0 ac2_0
    have a_1 := ha_1.below hb (by omega)
    clear ha_1
    have b_1 := hb_1.below hb (by omega)
    clear hb_1
    have hB1 := hB0.trans (hb.mono (by omega))
    clear hB0
    clear hb
    have pn1 : pn ≤ 1048576 := by have h1 := pf_0.1; have h2 := a_1.1; omega
    have pm1 : pm ≤ 1048576 := by have h1 := pb_0.1; have h2 := b_1.1; omega
    go_wp2_with fail
    refine (specRead_any W1.heap.size pA pn pc pB pm pd xs ys v i _ (⟨(pf_0.mono (Nat.le_refl _) (by first | omega | (simp; done) | (simp; omega))).ints, (pb_0.mono (Nat.le_refl _) (by first | omega | (simp; done) | (simp; omega))).ints, by omega, by omega, by omega, by omega⟩) (by first | omega | (simp; done) | (simp; omega))).mono ?_
    rintro e W2 ⟨rfl, hb⟩
    have hz2 := hb.size
    have abc0_2 := (hb.cell (p := ⟨w.heap.size, 0, none⟩) (by show w.heap.size < W1.heap.size; omega)).trans abc0_1
    have abc1_2 := (hb.cell (p := ⟨w.heap.size, 1, none⟩) (by show w.heap.size < W1.heap.size; omega)).trans abc1_1
    have abc2_2 := (hb.cell (p := ⟨w.heap.size, 2, none⟩) (by show w.heap.size < W1.heap.size; omega)).trans abc2_1
    clear abc0_1 abc1_1 abc2_1
    have pf_2 := pf_0.belowS hb
    clear pf_0
    have pb_2 := pb_0.belowS hb
    clear pb_0
    have a_2 := a_1.below hb (by omega)
    clear a_1
    have b_2 := b_1.below hb (by omega)
    clear b_1
    have hB2 := hB1.trans (hb.mono (by omega))
    clear hB1
    clear hb
    clear pf_2
    clear pb_2
    go_wp2_with fail
    refine (toBuffers_any _ aA an ac aB am ad xs ys v _ a_2 b_2 (by first | omega | (simp; done) | (simp; omega)) (by omega) (by omega)).mono ?_
    rintro e W3 ⟨xA, xn, xc, xB, xm, xd, rfl, xk1, xk2, xk3, xk4, hb, xM, xl1, xl2, xf_0, xb_0⟩
    have xlo := xl1
    have hz3 := hb.size
    have abc0_3 := (hb.cell (p := ⟨w.heap.size, 0, none⟩) (by show w.heap.size < W2.heap.size; omega)).trans abc0_2
    have abc1_3 := (hb.cell (p := ⟨w.heap.size, 1, none⟩) (by show w.heap.size < W2.heap.size; omega)).trans abc1_2
    have abc2_3 := (hb.cell (p := ⟨w.heap.size, 2, none⟩) (by show w.heap.size < W2.heap.size; omega)).trans abc2_2
    clear abc0_2 abc1_2 abc2_2
    have a_3 := a_2.below hb (by omega)
    clear a_2
    have b_3 := b_2.below hb (by omega)
    clear b_2
    have hB3 := hB2.trans (hb.mono (by omega))
    clear hB2
    clear hb
    have xn1 : xn ≤ 1048576 := by have h1 := xf_0.1; have h2 := a_3.1; omega
    have xm1 : xm ≤ 1048576 := by have h1 := xb_0.1; have h2 := b_3.1; omega
    have al_ab0 := fun X => (World.cell?_alloc_lt W3 X ⟨w.heap.size, 0, none⟩ (by show w.heap.size < W3.heap.size; omega)).trans abc0_3
    have al_ab1 := fun X => (World.cell?_alloc_lt W3 X ⟨w.heap.size, 1, none⟩ (by show w.heap.size < W3.heap.size; omega)).trans abc1_3
    have al_ab2 := fun X => (World.cell?_alloc_lt W3 X ⟨w.heap.size, 2, none⟩ (by show w.heap.size < W3.heap.size; omega)).trans abc2_3
    go_wp2_with fail
    refine (implRead_any W3.heap.size xA xn xc xB xm xd xs ys v i _ (⟨((xf_0.belowS (alB _ _)).mono (Nat.le_refl _) (by first | omega | (simp; done) | (simp; omega))).ints, ((xb_0.belowS (alB _ _)).mono (Nat.le_refl _) (by first | omega | (simp; done) | (simp; omega))).ints, by omega, by omega, by omega, by omega⟩) (by first | omega | (simp; done) | (simp; omega))).mono ?_
    rintro e W4 ⟨rfl, hb⟩
    clear al_ab0 al_ab1 al_ab2
    have xboxc0_4 : W4.cell? ⟨W3.heap.size, 0, none⟩ = some (.slice xA xn xc) := (hb.cell (p := ⟨W3.heap.size, 0, none⟩) (by simp)).trans (by simp)
    have xboxc1_4 : W4.cell? ⟨W3.heap.size, 1, none⟩ = some (.slice xB xm xd) := (hb.cell (p := ⟨W3.heap.size, 1, none⟩) (by simp)).trans (by simp)
    have xboxc2_4 : W4.cell? ⟨W3.heap.size, 2, none⟩ = some (.int .i64 v) := (hb.cell (p := ⟨W3.heap.size, 2, none⟩) (by simp)).trans (by simp)
    have hlt4 : W3.heap.size < W4.heap.size := by have := hb.size; simp at this; omega
    have hq4 := (alB W3 _).trans (hb.mono (by simp))
    have hz4 := hq4.size
    have abc0_4 := (hq4.cell (p := ⟨w.heap.size, 0, none⟩) (by show w.heap.size < W3.heap.size; omega)).trans abc0_3
    have abc1_4 := (hq4.cell (p := ⟨w.heap.size, 1, none⟩) (by show w.heap.size < W3.heap.size; omega)).trans abc1_3
    have abc2_4 := (hq4.cell (p := ⟨w.heap.size, 2, none⟩) (by show w.heap.size < W3.heap.size; omega)).trans abc2_3
    clear abc0_3 abc1_3 abc2_3
    have xf_4 := xf_0.belowS hq4
    clear xf_0
    have xb_4 := xb_0.belowS hq4
    clear xb_0
    have a_4 := a_3.below hq4 (by omega)
    clear a_3
    have b_4 := b_3.below hq4 (by omega)
    clear b_3
    have hB4 := hB3.trans (hq4.mono (by omega))
    clear hB3
    clear hb hq4
    go_wp2_with fail
    go_region_held3 (fun w' => w'.cell? ⟨w.heap.size, 0, none⟩ = some (.slice aA an ac) ∧ w'.cell? ⟨w.heap.size, 1, none⟩ = some (.slice aB am ad) ∧ w'.cell? ⟨w.heap.size, 2, none⟩ = some (.int .i64 v) ∧ w'.cell? ⟨W3.heap.size, 0, none⟩ = some (.slice xA xn xc) ∧ w'.cell? ⟨W3.heap.size, 1, none⟩ = some (.slice xB xm xd) ∧ w'.cell? ⟨W3.heap.size, 2, none⟩ = some (.int .i64 v)) (first | go_keep | exact ⟨abc0_5, abc1_5, abc2_5, xboxc0_5, xboxc1_5, xboxc2_5⟩ | exact ⟨abc0_6, abc1_6, abc2_6, xboxc0_6, xboxc1_6, xboxc2_6⟩) (first | (go_at_call 11; refine (toBuffers_any _ aA an ac aB am ad xs ys v _ (by exact a_4) (by exact b_4) (by simp; omega) (by omega) (by omega)).mono ?_; rintro e W5 ⟨yA, yn, yc, yB, ym, yd, rfl, yk1, yk2, yk3, yk4, hbd, yM, yl1, yl2, yf_0, yb_0⟩; have hb := below_undrew hbd; clear hbd; have yln : yn ≤ 1048576 := (by have h1 := yf_0.1; have h2 := a_4.1; omega); have ylm : ym ≤ 1048576 := (by have h1 := yb_0.1; have h2 := b_4.1; omega); have ylo : W4.heap.size ≤ yM := (by simpa using yl1); have hz5 := hb.size; have abc0_5 := (hb.cell (p := ⟨w.heap.size, 0, none⟩) (by show w.heap.size < W4.heap.size; omega)).trans abc0_4; have abc1_5 := (hb.cell (p := ⟨w.heap.size, 1, none⟩) (by show w.heap.size < W4.heap.size; omega)).trans abc1_4; have abc2_5 := (hb.cell (p := ⟨w.heap.size, 2, none⟩) (by show w.heap.size < W4.heap.size; omega)).trans abc2_4; clear abc0_4 abc1_4 abc2_4; have xboxc0_5 := (hb.cell (p := ⟨W3.heap.size, 0, none⟩) (by show W3.heap.size < W4.heap.size; omega)).trans xboxc0_4; have xboxc1_5 := (hb.cell (p := ⟨W3.heap.size, 1, none⟩) (by show W3.heap.size < W4.heap.size; omega)).trans xboxc1_4; have xboxc2_5 := (hb.cell (p := ⟨W3.heap.size, 2, none⟩) (by show W3.heap.size < W4.heap.size; omega)).trans xboxc2_4; clear xboxc0_4 xboxc1_4 xboxc2_4; have xf_5 := xf_4.belowS hb; clear xf_4; have xb_5 := xb_4.belowS hb; clear xb_4; have a_5 := a_4.below hb (by omega); clear a_4; have b_5 := b_4.below hb (by omega); clear b_4; have hB5 := hB4.trans (hb.mono (by omega)); clear hB4; clear hb; clear yl1) | (go_at_call 13; refine (eqBuffers_any W5.heap.size W5.heap.size _ _ _ _ _ _ _ _ _ _ _ _ xs ys xs ys v v _ (xf_5.mono (Nat.le_refl _) (by omega)).ints (xb_5.mono (Nat.le_refl _) (by omega)).ints (yf_0.mono (Nat.le_refl _) (by omega)).ints (yb_0.mono (Nat.le_refl _) (by omega)).ints (by omega) (by omega) (by omega) (by omega) (by omega) (by omega)).mono ?_; rintro e W6 ⟨rfl, hb⟩; have hz6 := hb.size; have abc0_6 := (hb.cell (p := ⟨w.heap.size, 0, none⟩) (by show w.heap.size < W5.heap.size; omega)).trans abc0_5; have abc1_6 := (hb.cell (p := ⟨w.heap.size, 1, none⟩) (by show w.heap.size < W5.heap.size; omega)).trans abc1_5; have abc2_6 := (hb.cell (p := ⟨w.heap.size, 2, none⟩) (by show w.heap.size < W5.heap.size; omega)).trans abc2_5; clear abc0_5 abc1_5 abc2_5; have xboxc0_6 := (hb.cell (p := ⟨W3.heap.size, 0, none⟩) (by show W3.heap.size < W5.heap.size; omega)).trans xboxc0_5; have xboxc1_6 := (hb.cell (p := ⟨W3.heap.size, 1, none⟩) (by show W3.heap.size < W5.heap.size; omega)).trans xboxc1_5; have xboxc2_6 := (hb.cell (p := ⟨W3.heap.size, 2, none⟩) (by show W3.heap.size < W5.heap.size; omega)).trans xboxc2_5; clear xboxc0_5 xboxc1_5 xboxc2_5; have xf_6 := xf_5.belowS hb; clear xf_5; have xb_6 := xb_5.belowS hb; clear xb_5; have yf_6 := yf_0.belowS hb; clear yf_0; have yb_6 := yb_0.belowS hb; clear yb_0; have a_6 := a_5.below hb (by omega); clear a_5; have b_6 := b_5.below hb (by omega); clear b_5; have hB6 := hB5.trans (hb.mono (by omega)); clear hB5; clear hb))
    clear yf_6
    clear yb_6
    have HB := hide hB6
    clear hB6
    clear xf_6
    clear xb_6
    clear a_6
    clear b_6
    go_wp2
    go_ret
    exact ⟨rfl, HB.out⟩


end Go.Proofs.Ytjaagekckbjhdaa
