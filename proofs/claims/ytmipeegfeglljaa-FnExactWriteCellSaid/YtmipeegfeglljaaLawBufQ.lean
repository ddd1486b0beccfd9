/- Exact laws of buffers: the walks. Conditions: none. -/
import Derived.Test.YtmipeegfeglljaaLawBufE2
import Derived.Test.YtmipeegfeglljaaSpecWrite
namespace Go.Proofs.Ytmipeegfeglljaa
open Go.RowKit
set_option linter.unusedVariables false

set_option maxHeartbeats 4000000 in
theorem walk_FnExactWriteCell (aA : Option Addr) (an ac : Nat) (aB : Option Addr) (am ad : Nat) (xs ys : List Int) (v : Int) (i : Int) (x : Int) (w : World)
    (ha_0 : Ints .i64 w w.heap.size aA an xs) (hac : an ≤ ac) (hacm : ac ≤ maxLen) (hb_0 : Ints .i64 w w.heap.size aB am ys) (had : am ≤ ad) (hadm : ad ≤ maxLen) (hi : (Lit.int .i64 i).wf = true) (hx : (Lit.int .i64 x).wf = true) :
    Calls Try.prog 4 #[.agg #[.slice aA an ac, .slice aB am ad, .int .i64 v], .int .i64 i, .int .i64 x] w fun e w' => e = .returned (.bool true) ∧ Below w.heap.size w w' := by
  unfold maxLen at hacm hadm
  have hB0 := hide (alB w (.cells #[.slice aA an ac, .slice aB am ad, .int .i64 v] 32))
  by_cases hsz : an + am ≤ 1048576
  case neg =>
    have e1 : szB an am = -1 := if_neg hsz
    clear ha_0 hb_0
    go_enter Try.func4, Try.ntmps4
    go_wp2_with fail
    refine (szBuffers_any aA an ac aB am ad v _ (by omega) (by omega)).mono ?_
    rintro e W1 ⟨rfl, hb⟩
    have HB := hide (hB0.out.trans (hb.mono (by simp)))
    clear hb
    go_wp2
    go_ret
    exact ⟨rfl, HB.out⟩
  case pos =>
    have e1 : szB an am = 1048576 - an - am := if_pos hsz
    have e2 := bufEq_self xs ys v
    go_enter Try.func4, Try.ntmps4
    go_wp2_with fail
    refine (szBuffers_any aA an ac aB am ad v _ (by omega) (by omega)).mono ?_
    rintro e W0 ⟨rfl, hb⟩
    have ha_1 := (ha_0.below hB0.out (Nat.le_refl _)).below hb (by simp)
    have hb_1 := (hb_0.below hB0.out (Nat.le_refl _)).below hb (by simp)
    have hzz : w.heap.size < W0.heap.size := by have := hb.size; simp at this; omega
    have ac0_0 : W0.cell? ⟨w.heap.size, 0, none⟩ = some (.slice aA an ac) := (hb.cell (p := ⟨w.heap.size, 0, none⟩) (by simp)).trans (by simp)
    have ac1_0 : W0.cell? ⟨w.heap.size, 1, none⟩ = some (.slice aB am ad) := (hb.cell (p := ⟨w.heap.size, 1, none⟩) (by simp)).trans (by simp)
    have ac2_0 : W0.cell? ⟨w.heap.size, 2, none⟩ = some (.int .i64 v) := (hb.cell (p := ⟨w.heap.size, 2, none⟩) (by simp)).trans (by simp)
    have hB0 := hB0.out.trans (hb.mono (by simp))
    clear hb ha_0 hb_0
    have e3 := bufEq_self (writeS xs ys v i x).xs (writeS xs ys v i x).ys (writeS xs ys v i x).v
    have hlen := hide (writeS_len xs ys v i x)
    go_wp2_with fail
    refine (toBuffers_any _ aA an ac aB am ad xs ys v _ ha_1 hb_1 (by first | omega | (simp; done) | (simp; omega)) (by omega) (by omega)).mono ?_
    rintro e W1 ⟨pA, pn, pc, pB, pm, pd, rfl, pk1, pk2, pk3, pk4, hb, pM, pl1, pl2, pf_0, pb_0⟩
    have plo := pl1
    have hz1 := hb.size
    have abc0_1 := (hb.cell (p := ⟨w.heap.size, 0, none⟩) (by show w.heap.size < W0.heap.size; omega)).trans ac0_0
    have abc1_1 := (hb.cell (p := ⟨w.heap.size, 1, none⟩) (by show w.heap.size < W0.heap.size; omega)).trans ac1_0
    have abc2_1 := (hb.cell (p := ⟨w.heap.size, 2, none⟩) (by show w.heap.size < W0.heap.size; omega)).trans ac2_0
    clear ac0_0 ac1_0 ac2_0
    have a_1 := ha_1.below hb (by omega)
    clear ha_1
    have b_1 := hb_1.below hb (by omega)
    clear hb_1
    have hB1 := hB0.trans (hb.mono (by omega))
    clear hB0
    clear hb
    have pn1 : pn ≤ 1048576 := by have h1 := pf_0.1; have h2 := a_1.1; omega
    have pm1 : pm ≤ 1048576 := by have h1 := pb_0.1; have h2 := b_1.1; omega
    go_wp2_with fail
    refine (specWrite_any W1.heap.size pA pn pc pB pm pd xs ys v i x _ (⟨(pf_0.mono (Nat.le_refl _) (by first | omega | (simp; done) | (simp; omega))).ints, (pb_0.mono (Nat.le_refl _) (by first | omega | (simp; done) | (simp; omega))).ints, by omega, by omega, by omega, by omega⟩) (by first | omega | (simp; done) | (simp; omega))).mono ?_
    rintro e W2 ⟨w0A, w0n, w0c, w0B, w0m, w0d, rfl, w0k1, w0k2, w0k3, w0k4, hb, w0M, w0l1, w0l2, w0f_0, w0b_0⟩
    have w0lo := w0l1
    have hz2 := hb.size
    have abc0_2 := (hb.cell (p := ⟨w.heap.size, 0, none⟩) (by show w.heap.size < W1.heap.size; omega)).trans abc0_1
    have abc1_2 := (hb.cell (p := ⟨w.heap.size, 1, none⟩) (by show w.heap.size < W1.heap.size; omega)).trans abc1_1
    have abc2_2 := (hb.cell (p := ⟨w.heap.size, 2, none⟩) (by show w.heap.size < W1.heap.size; omega)).trans abc2_1
    clear abc0_1 abc1_1 abc2_1
    have pf_2 := pf_0.belowS hb
    clear pf_0
    have pb_2 := pb_0.belowS hb
    clear pb_0
    have a_2 := a_1.below hb (by omega)
    clear a_1
    have b_2 := b_1.below hb (by omega)
    clear b_1
    have hB2 := hB1.trans (hb.mono (by omega))
    clear hB1
    clear hb
    have w0n1 : w0n ≤ 16 := by have h1 := w0f_0.1; have h2 := hlen.out.1; omega
    have w0m1 : w0m ≤ 16 := by have h1 := w0b_0.1; have h2 := hlen.out.2; omega
    have al_ab0 := fun X => (World.cell?_alloc_lt W2 X ⟨w.heap.size, 0, none⟩ (by show w.heap.size < W2.heap.size; omega)).trans abc0_2
    have al_ab1 := fun X => (World.cell?_alloc_lt W2 X ⟨w.heap.size, 1, none⟩ (by show w.heap.size < W2.heap.size; omega)).trans abc1_2
    have al_ab2 := fun X => (World.cell?_alloc_lt W2 X ⟨w.heap.size, 2, none⟩ (by show w.heap.size < W2.heap.size; omega)).trans abc2_2
    clear pf_2
    clear pb_2
    go_wp2_with fail
    refine (toBuffers_any _ aA an ac aB am ad xs ys v _ (a_2.below (alB _ _) (by omega)) (b_2.below (alB _ _) (by omega)) (by first | omega | (simp; done) | (simp; omega)) (by omega) (by omega)).mono ?_
    rintro e W3 ⟨xA, xn, xc, xB, xm, xd, rfl, xk1, xk2, xk3, xk4, hb, xM, xl1, xl2, xf_0, xb_0⟩
    have xlo : W2.heap.size + 1 ≤ xM := by simpa using xl1
    have xf_00 := xf_0.mono (lo' := W2.heap.size + 1) (by simp) (Nat.le_refl _)
    clear xf_0 xl1
    clear al_ab0 al_ab1 al_ab2
    have w0boxc0_3 : W3.cell? ⟨W2.heap.size, 0, none⟩ = some (.slice w0A w0n w0c) := (hb.cell (p := ⟨W2.heap.size, 0, none⟩) (by simp)).trans (by simp)
    have w0boxc1_3 : W3.cell? ⟨W2.heap.size, 1, none⟩ = some (.slice w0B w0m w0d) := (hb.cell (p := ⟨W2.heap.size, 1, none⟩) (by simp)).trans (by simp)
    have w0boxc2_3 : W3.cell? ⟨W2.heap.size, 2, none⟩ = some (.int .i64 (writeS xs ys v i x).v) := (hb.cell (p := ⟨W2.heap.size, 2, none⟩) (by simp)).trans (by simp)
    have hlt3 : W2.heap.size < W3.heap.size := by have := hb.size; simp at this; omega
    have hq3 := (alB W2 _).trans (hb.mono (by simp))
    have hz3 := hq3.size
    have abc0_3 := (hq3.cell (p := ⟨w.heap.size, 0, none⟩) (by show w.heap.size < W2.heap.size; omega)).trans abc0_2
    have abc1_3 := (hq3.cell (p := ⟨w.heap.size, 1, none⟩) (by show w.heap.size < W2.heap.size; omega)).trans abc1_2
    have abc2_3 := (hq3.cell (p := ⟨w.heap.size, 2, none⟩) (by show w.heap.size < W2.heap.size; omega)).trans abc2_2
    clear abc0_2 abc1_2 abc2_2
    have w0f_3 := w0f_0.belowS hq3
    clear w0f_0
    have w0b_3 := w0b_0.belowS hq3
    clear w0b_0
    have a_3 := a_2.below hq3 (by omega)
    clear a_2
    have b_3 := b_2.below hq3 (by omega)
    clear b_2
    have hB3 := hB2.trans (hq3.mono (by omega))
    clear hB2
    clear hb hq3
    have xn1 : xn ≤ 1048576 := by have h1 := xf_00.1; have h2 := a_3.1; omega
    have xm1 : xm ≤ 1048576 := by have h1 := xb_0.1; have h2 := b_3.1; omega
    have al_ab0 := fun X => (World.cell?_alloc_lt W3 X ⟨w.heap.size, 0, none⟩ (by show w.heap.size < W3.heap.size; omega)).trans abc0_3
    have al_ab1 := fun X => (World.cell?_alloc_lt W3 X ⟨w.heap.size, 1, none⟩ (by show w.heap.size < W3.heap.size; omega)).trans abc1_3
    have al_ab2 := fun X => (World.cell?_alloc_lt W3 X ⟨w.heap.size, 2, none⟩ (by show w.heap.size < W3.heap.size; omega)).trans abc2_3
    have al_w0box0 := fun X => (World.cell?_alloc_lt W3 X ⟨W2.heap.size, 0, none⟩ (by show W2.heap.size < W3.heap.size; omega)).trans w0boxc0_3
    have al_w0box1 := fun X => (World.cell?_alloc_lt W3 X ⟨W2.heap.size, 1, none⟩ (by show W2.heap.size < W3.heap.size; omega)).trans w0boxc1_3
    have al_w0box2 := fun X => (World.cell?_alloc_lt W3 X ⟨W2.heap.size, 2, none⟩ (by show W2.heap.size < W3.heap.size; omega)).trans w0boxc2_3
    go_wp2_with fail
    refine (implWrite_any W3.heap.size xA xn xc xB xm xd xs ys v i x _ (⟨((xf_00.belowS (alB _ _)).mono (Nat.le_refl _) (by first | omega | (simp; done) | (simp; omega))).ints, ((xb_0.belowS (alB _ _)).mono (Nat.le_refl _) (by first | omega | (simp; done) | (simp; omega))).ints, by omega, by omega, by omega, by omega⟩) (by first | omega | (simp; done) | (simp; omega))).mono ?_
    rintro e W4 ⟨g0A, g0n, g0c, g0B, g0m, g0d, rfl, g0k1, g0k2, g0k3, g0k4, hb, g0M, g0l1, g0l2, g0f_0, g0b_0⟩
    have g0lo : W3.heap.size + 1 ≤ g0M := by simpa using g0l1
    have g0f_00 := g0f_0.mono (lo' := W3.heap.size + 1) (by simp) (Nat.le_refl _)
    clear g0f_0 g0l1
    clear al_ab0 al_ab1 al_ab2 al_w0box0 al_w0box1 al_w0box2
    have xboxc0_4 : W4.cell? ⟨W3.heap.size, 0, none⟩ = some (.slice xA xn xc) := (hb.cell (p := ⟨W3.heap.size, 0, none⟩) (by simp)).trans (by simp)
    have xboxc1_4 : W4.cell? ⟨W3.heap.size, 1, none⟩ = some (.slice xB xm xd) := (hb.cell (p := ⟨W3.heap.size, 1, none⟩) (by simp)).trans (by simp)
    have xboxc2_4 : W4.cell? ⟨W3.heap.size, 2, none⟩ = some (.int .i64 v) := (hb.cell (p := ⟨W3.heap.size, 2, none⟩) (by simp)).trans (by simp)
    have hlt4 : W3.heap.size < W4.heap.size := by have := hb.size; simp at this; omega
    have hq4 := (alB W3 _).trans (hb.mono (by simp))
    have hz4 := hq4.size
    have abc0_4 := (hq4.cell (p := ⟨w.heap.size, 0, none⟩) (by show w.heap.size < W3.heap.size; omega)).trans abc0_3
    have abc1_4 := (hq4.cell (p := ⟨w.heap.size, 1, none⟩) (by show w.heap.size < W3.heap.size; omega)).trans abc1_3
    have abc2_4 := (hq4.cell (p := ⟨w.heap.size, 2, none⟩) (by show w.heap.size < W3.heap.size; omega)).trans abc2_3
    clear abc0_3 abc1_3 abc2_3
    have w0boxc0_4 := (hq4.cell (p := ⟨W2.heap.size, 0, none⟩) (by show W2.heap.size < W3.heap.size; omega)).trans w0boxc0_3
    have w0boxc1_4 := (hq4.cell (p := ⟨W2.heap.size, 1, none⟩) (by show W2.heap.size < W3.heap.size; omega)).trans w0boxc1_3
    have w0boxc2_4 := (hq4.cell (p := ⟨W2.heap.size, 2, none⟩) (by show W2.heap.size < W3.heap.size; omega)).trans w0boxc2_3
    clear w0boxc0_3 w0boxc1_3 w0boxc2_3
    have w0f_4 := w0f_3.belowS hq4
    clear w0f_3
    have w0b_4 := w0b_3.belowS hq4
    clear w0b_3
    have xf_4 := xf_00.belowS hq4
    clear xf_00
    have xb_4 := xb_0.belowS hq4
    clear xb_0
    have a_4 := a_3.below hq4 (by omega)
    clear a_3
    have b_4 := b_3.below hq4 (by omega)
    clear b_3
    have hB4 := hB3.trans (hq4.mono (by omega))
    clear hB3
    clear hb hq4
    have g0n1 : g0n ≤ 16 := by have h1 := g0f_00.1; have h2 := hlen.out.1; omega
    have g0m1 : g0m ≤ 16 := by have h1 := g0b_0.1; have h2 := hlen.out.2; omega
    have al_ab0 := fun X => (World.cell?_alloc_lt W4 X ⟨w.heap.size, 0, none⟩ (by show w.heap.size < W4.heap.size; omega)).trans abc0_4
    have al_ab1 := fun X => (World.cell?_alloc_lt W4 X ⟨w.heap.size, 1, none⟩ (by show w.heap.size < W4.heap.size; omega)).trans abc1_4
    have al_ab2 := fun X => (World.cell?_alloc_lt W4 X ⟨w.heap.size, 2, none⟩ (by show w.heap.size < W4.heap.size; omega)).trans abc2_4
    have al_w0box0 := fun X => (World.cell?_alloc_lt W4 X ⟨W2.heap.size, 0, none⟩ (by show W2.heap.size < W4.heap.size; omega)).trans w0boxc0_4
    have al_w0box1 := fun X => (World.cell?_alloc_lt W4 X ⟨W2.heap.size, 1, none⟩ (by show W2.heap.size < W4.heap.size; omega)).trans w0boxc1_4
    have al_w0box2 := fun X => (World.cell?_alloc_lt W4 X ⟨W2.heap.size, 2, none⟩ (by show W2.heap.size < W4.heap.size; omega)).trans w0boxc2_4
    have al_xbox0 := fun X => (World.cell?_alloc_lt W4 X ⟨W3.heap.size, 0, none⟩ (by show W3.heap.size < W4.heap.size; omega)).trans xboxc0_4
    have al_xbox1 := fun X => (World.cell?_alloc_lt W4 X ⟨W3.heap.size, 1, none⟩ (by show W3.heap.size < W4.heap.size; omega)).trans xboxc1_4
    have al_xbox2 := fun X => (World.cell?_alloc_lt W4 X ⟨W3.heap.size, 2, none⟩ (by show W3.heap.size < W4.heap.size; omega)).trans xboxc2_4
    go_wp2_with fail
    refine (eqBuffers_any W4.heap.size W4.heap.size _ _ _ _ _ _ _ _ _ _ _ _ (writeS xs ys v i x).xs (writeS xs ys v i x).ys (writeS xs ys v i x).xs (writeS xs ys v i x).ys (writeS xs ys v i x).v (writeS xs ys v i x).v _ ((g0f_00.belowS (alB _ _)).mono (Nat.le_refl _) (by first | omega | (simp; done) | (simp; omega))).ints ((g0b_0.belowS (alB _ _)).mono (Nat.le_refl _) (by first | omega | (simp; done) | (simp; omega))).ints ((w0f_4.belowS (alB _ _)).mono (Nat.le_refl _) (by first | omega | (simp; done) | (simp; omega))).ints ((w0b_4.belowS (alB _ _)).mono (Nat.le_refl _) (by first | omega | (simp; done) | (simp; omega))).ints (by first | omega | (simp; done) | (simp; omega)) (by first | omega | (simp; done) | (simp; omega)) (by omega) (by omega) (by omega) (by omega)).mono ?_
    rintro e W5 ⟨rfl, hb⟩
    clear al_ab0 al_ab1 al_ab2 al_w0box0 al_w0box1 al_w0box2 al_xbox0 al_xbox1 al_xbox2
    have g0boxc0_5 : W5.cell? ⟨W4.heap.size, 0, none⟩ = some (.slice g0A g0n g0c) := (hb.cell (p := ⟨W4.heap.size, 0, none⟩) (by simp)).trans (by simp)
    have g0boxc1_5 : W5.cell? ⟨W4.heap.size, 1, none⟩ = some (.slice g0B g0m g0d) := (hb.cell (p := ⟨W4.heap.size, 1, none⟩) (by simp)).trans (by simp)
    have g0boxc2_5 : W5.cell? ⟨W4.heap.size, 2, none⟩ = some (.int .i64 (writeS xs ys v i x).v) := (hb.cell (p := ⟨W4.heap.size, 2, none⟩) (by simp)).trans (by simp)
    have hlt5 : W4.heap.size < W5.heap.size := by have := hb.size; simp at this; omega
    have hq5 := (alB W4 _).trans (hb.mono (by simp))
    have hz5 := hq5.size
    have abc0_5 := (hq5.cell (p := ⟨w.heap.size, 0, none⟩) (by show w.heap.size < W4.heap.size; omega)).trans abc0_4
    have abc1_5 := (hq5.cell (p := ⟨w.heap.size, 1, none⟩) (by show w.heap.size < W4.heap.size; omega)).trans abc1_4
    have abc2_5 := (hq5.cell (p := ⟨w.heap.size, 2, none⟩) (by show w.heap.size < W4.heap.size; omega)).trans abc2_4
    clear abc0_4 abc1_4 abc2_4
    have w0boxc0_5 := (hq5.cell (p := ⟨W2.heap.size, 0, none⟩) (by show W2.heap.size < W4.heap.size; omega)).trans w0boxc0_4
    have w0boxc1_5 := (hq5.cell (p := ⟨W2.heap.size, 1, none⟩) (by show W2.heap.size < W4.heap.size; omega)).trans w0boxc1_4
    have w0boxc2_5 := (hq5.cell (p := ⟨W2.heap.size, 2, none⟩) (by show W2.heap.size < W4.heap.size; omega)).trans w0boxc2_4
    clear w0boxc0_4 w0boxc1_4 w0boxc2_4
    have xboxc0_5 := (hq5.cell (p := ⟨W3.heap.size, 0, none⟩) (by show W3.heap.size < W4.heap.size; omega)).trans xboxc0_4
    have xboxc1_5 := (hq5.cell (p := ⟨W3.heap.size, 1, none⟩) (by show W3.heap.size < W4.heap.size; omega)).trans xboxc1_4
    have xboxc2_5 := (hq5.cell (p := ⟨W3.heap.size, 2, none⟩) (by show W3.heap.size < W4.heap.size; omega)).trans xboxc2_4
    clear xboxc0_4 xboxc1_4 xboxc2_4
    have w0f_5 := w0f_4.belowS hq5
    clear w0f_4
    have w0b_5 := w0b_4.belowS hq5
    clear w0b_4
    have xf_5 := xf_4.belowS hq5
    clear xf_4
    have xb_5 := xb_4.belowS hq5
    clear xb_4
    have g0f_5 := g0f_00.belowS hq5
    clear g0f_00
    have g0b_5 := g0b_0.belowS hq5
    clear g0b_0
    have a_5 := a_4.below hq5 (by omega)
    clear a_4
    have b_5 := b_4.below hq5 (by omega)
    clear b_4
    have hB5 := hB4.trans (hq5.mono (by omega))
    clear hB4
    clear hb hq5
    go_wp2_with fail
    go_region_held3 (fun w' => w'.cell? ⟨w.heap.size, 0, none⟩ = some (.slice aA an ac) ∧ w'.cell? ⟨w.heap.size, 1, none⟩ = some (.slice aB am ad) ∧ w'.cell? ⟨w.heap.size, 2, none⟩ = some (.int .i64 v) ∧ w'.cell? ⟨W3.heap.size, 0, none⟩ = some (.slice xA xn xc) ∧ w'.cell? ⟨W3.heap.size, 1, none⟩ = some (.slice xB xm xd) ∧ w'.cell? ⟨W3.heap.size, 2, none⟩ = some (.int .i64 v)) (first | go_keep | exact ⟨abc0_6, abc1_6, abc2_6, xboxc0_6, xboxc1_6, xboxc2_6⟩ | exact ⟨abc0_7, abc1_7, abc2_7, xboxc0_7, xboxc1_7, xboxc2_7⟩) (first | (go_at_call 13; refine (toBuffers_any _ aA an ac aB am ad xs ys v _ (by exact a_5) (by exact b_5) (by simp; omega) (by omega) (by omega)).mono ?_; rintro e W6 ⟨yA, yn, yc, yB, ym, yd, rfl, yk1, yk2, yk3, yk4, hbd, yM, yl1, yl2, yf_0, yb_0⟩; have hb := below_undrew hbd; clear hbd; have yln : yn ≤ 1048576 := (by have h1 := yf_0.1; have h2 := a_5.1; omega); have ylm : ym ≤ 1048576 := (by have h1 := yb_0.1; have h2 := b_5.1; omega); have ylo : W5.heap.size ≤ yM := (by simpa using yl1); have hz6 := hb.size; have abc0_6 := (hb.cell (p := ⟨w.heap.size, 0, none⟩) (by show w.heap.size < W5.heap.size; omega)).trans abc0_5; have abc1_6 := (hb.cell (p := ⟨w.heap.size, 1, none⟩) (by show w.heap.size < W5.heap.size; omega)).trans abc1_5; have abc2_6 := (hb.cell (p := ⟨w.heap.size, 2, none⟩) (by show w.heap.size < W5.heap.size; omega)).trans abc2_5; clear abc0_5 abc1_5 abc2_5; have w0boxc0_6 := (hb.cell (p := ⟨W2.heap.size, 0, none⟩) (by show W2.heap.size < W5.heap.size; omega)).trans w0boxc0_5; have w0boxc1_6 := (hb.cell (p := ⟨W2.heap.size, 1, none⟩) (by show W2.heap.size < W5.heap.size; omega)).trans w0boxc1_5; have w0boxc2_6 := (hb.cell (p := ⟨W2.heap.size, 2, none⟩) (by show W2.heap.size < W5.heap.size; omega)).trans w0boxc2_5; clear w0boxc0_5 w0boxc1_5 w0boxc2_5; have xboxc0_6 := (hb.cell (p := ⟨W3.heap.size, 0, none⟩) (by show W3.heap.size < W5.heap.size; omega)).trans xboxc0_5; have xboxc1_6 := (hb.cell (p := ⟨W3.heap.size, 1, none⟩) (by show W3.heap.size < W5.heap.size; omega)).trans xboxc1_5; have xboxc2_6 := (hb.cell (p := ⟨W3.heap.size, 2, none⟩) (by show W3.heap.size < W5.heap.size; omega)).trans xboxc2_5; clear xboxc0_5 xboxc1_5 xboxc2_5; have g0boxc0_6 := (hb.cell (p := ⟨W4.heap.size, 0, none⟩) (by show W4.heap.size < W5.heap.size; omega)).trans g0boxc0_5; have g0boxc1_6 := (hb.cell (p := ⟨W4.heap.size, 1, none⟩) (by show W4.heap.size < W5.heap.size; omega)).trans g0boxc1_5; have g0boxc2_6 := (hb.cell (p := ⟨W4.heap.size, 2, none⟩) (by show W4.heap.size < W5.heap.size; omega)).trans g0boxc2_5; clear g0boxc0_5 g0boxc1_5 g0boxc2_5; have w0f_6 := w0f_5.belowS hb; clear w0f_5; have w0b_6 := w0b_5.belowS hb; clear w0b_5; have xf_6 := xf_5.belowS hb; clear xf_5; have xb_6 := xb_5.belowS hb; clear xb_5; have g0f_6 := g0f_5.belowS hb; clear g0f_5; have g0b_6 := g0b_5.belowS hb; clear g0b_5; have a_6 := a_5.below hb (by omega); clear a_5; have b_6 := b_5.below hb (by omega); clear b_5; have hB6 := hB5.trans (hb.mono (by omega)); clear hB5; clear hb; clear yl1) | (go_at_call 14; refine (eqBuffers_any W6.heap.size W6.heap.size _ _ _ _ _ _ _ _ _ _ _ _ xs ys xs ys v v _ (xf_6.mono (Nat.le_refl _) (by omega)).ints (xb_6.mono (Nat.le_refl _) (by omega)).ints (yf_0.mono (Nat.le_refl _) (by omega)).ints (yb_0.mono (Nat.le_refl _) (by omega)).ints (by omega) (by omega) (by omega) (by omega) (by omega) (by omega)).mono ?_; rintro e W7 ⟨rfl, hb⟩; have hz7 := hb.size; have abc0_7 := (hb.cell (p := ⟨w.heap.size, 0, none⟩) (by show w.heap.size < W6.heap.size; omega)).trans abc0_6; have abc1_7 := (hb.cell (p := ⟨w.heap.size, 1, none⟩) (by show w.heap.size < W6.heap.size; omega)).trans abc1_6; have abc2_7 := (hb.cell (p := ⟨w.heap.size, 2, none⟩) (by show w.heap.size < W6.heap.size; omega)).trans abc2_6; clear abc0_6 abc1_6 abc2_6; have w0boxc0_7 := (hb.cell (p := ⟨W2.heap.size, 0, none⟩) (by show W2.heap.size < W6.heap.size; omega)).trans w0boxc0_6; have w0boxc1_7 := (hb.cell (p := ⟨W2.heap.size, 1, none⟩) (by show W2.heap.size < W6.heap.size; omega)).trans w0boxc1_6; have w0boxc2_7 := (hb.cell (p := ⟨W2.heap.size, 2, none⟩) (by show W2.heap.size < W6.heap.size; omega)).trans w0boxc2_6; clear w0boxc0_6 w0boxc1_6 w0boxc2_6; have xboxc0_7 := (hb.cell (p := ⟨W3.heap.size, 0, none⟩) (by show W3.heap.size < W6.heap.size; omega)).trans xboxc0_6; have xboxc1_7 := (hb.cell (p := ⟨W3.heap.size, 1, none⟩) (by show W3.heap.size < W6.heap.size; omega)).trans xboxc1_6; have xboxc2_7 := (hb.cell (p := ⟨W3.heap.size, 2, none⟩) (by show W3.heap.size < W6.heap.size; omega)).trans xboxc2_6; clear xboxc0_6 xboxc1_6 xboxc2_6; have g0boxc0_7 := (hb.cell (p := ⟨W4.heap.size, 0, none⟩) (by show W4.heap.size < W6.heap.size; omega)).trans g0boxc0_6; have g0boxc1_7 := (hb.cell (p := ⟨W4.heap.size, 1, none⟩) (by show W4.heap.size < W6.heap.size; omega)).trans g0boxc1_6; have g0boxc2_7 := (hb.cell (p := ⟨W4.heap.size, 2, none⟩) (by show W4.heap.size < W6.heap.size; omega)).trans g0boxc2_6; clear g0boxc0_6 g0boxc1_6 g0boxc2_6; have w0f_7 := w0f_6.belowS hb; clear w0f_6; have w0b_7 := w0b_6.belowS hb; clear w0b_6; have xf_7 := xf_6.belowS hb; clear xf_6; have xb_7 := xb_6.belowS hb; clear xb_6; have g0f_7 := g0f_6.belowS hb; clear g0f_6; have g0b_7 := g0b_6.belowS hb; clear g0b_6; have yf_7 := yf_0.belowS hb; clear yf_0; have yb_7 := yb_0.belowS hb; clear yb_0; have a_7 := a_6.below hb (by omega); clear a_6; have b_7 := b_6.below hb (by omega); clear b_6; have hB7 := hB6.trans (hb.mono (by omega)); clear hB6; clear hb))
    clear yf_7
    clear yb_7
    go_wp2_with fail
    refine (markBuffers_any _ _ _ xA xn xc xB xm xd _ _ v 1 _ xf_7 xb_7 (by omega) (by omega) (by omega) (by omega) (by omega) (by omega)).mono ?_
    rintro e W8 ⟨rfl, hrf, hrb, ho⟩
    have hz8 := ho.size
    have abc0_8 := (World.cell?_of_block (w := W7) (a := ⟨w.heap.size, 0, none⟩) (ho.block (w.heap.size) (by omega) (by omega))).trans abc0_7
    have abc1_8 := (World.cell?_of_block (w := W7) (a := ⟨w.heap.size, 1, none⟩) (ho.block (w.heap.size) (by omega) (by omega))).trans abc1_7
    have abc2_8 := (World.cell?_of_block (w := W7) (a := ⟨w.heap.size, 2, none⟩) (ho.block (w.heap.size) (by omega) (by omega))).trans abc2_7
    clear abc0_7 abc1_7 abc2_7
    have w0boxc0_8 := (World.cell?_of_block (w := W7) (a := ⟨W2.heap.size, 0, none⟩) (ho.block (W2.heap.size) (by omega) (by omega))).trans w0boxc0_7
    have w0boxc1_8 := (World.cell?_of_block (w := W7) (a := ⟨W2.heap.size, 1, none⟩) (ho.block (W2.heap.size) (by omega) (by omega))).trans w0boxc1_7
    have w0boxc2_8 := (World.cell?_of_block (w := W7) (a := ⟨W2.heap.size, 2, none⟩) (ho.block (W2.heap.size) (by omega) (by omega))).trans w0boxc2_7
    clear w0boxc0_7 w0boxc1_7 w0boxc2_7
    have xboxc0_8 := (World.cell?_of_block (w := W7) (a := ⟨W3.heap.size, 0, none⟩) (ho.block (W3.heap.size) (by omega) (by omega))).trans xboxc0_7
    have xboxc1_8 := (World.cell?_of_block (w := W7) (a := ⟨W3.heap.size, 1, none⟩) (ho.block (W3.heap.size) (by omega) (by omega))).trans xboxc1_7
    have xboxc2_8 := (World.cell?_of_block (w := W7) (a := ⟨W3.heap.size, 2, none⟩) (ho.block (W3.heap.size) (by omega) (by omega))).trans xboxc2_7
    clear xboxc0_7 xboxc1_7 xboxc2_7
    have g0boxc0_8 := (World.cell?_of_block (w := W7) (a := ⟨W4.heap.size, 0, none⟩) (ho.block (W4.heap.size) (by omega) (by omega))).trans g0boxc0_7
    have g0boxc1_8 := (World.cell?_of_block (w := W7) (a := ⟨W4.heap.size, 1, none⟩) (ho.block (W4.heap.size) (by omega) (by omega))).trans g0boxc1_7
    have g0boxc2_8 := (World.cell?_of_block (w := W7) (a := ⟨W4.heap.size, 2, none⟩) (ho.block (W4.heap.size) (by omega) (by omega))).trans g0boxc2_7
    clear g0boxc0_7 g0boxc1_7 g0boxc2_7
    have w0f_8 := w0f_7.far ho (by omega)
    clear w0f_7
    have w0b_8 := w0b_7.far ho (by omega)
    clear w0b_7
    have g0f_8 := g0f_7.far ho (by omega)
    clear g0f_7
    have g0b_8 := g0b_7.far ho (by omega)
    clear g0b_7
    have a_8 := a_7.only ho (by omega) (by omega)
    clear a_7
    have b_8 := b_7.only ho (by omega) (by omega)
    clear b_7
    have hB8 := hB7.trans (ho.below (by omega) (by omega))
    clear hB7
    clear ho
    clear xf_7
    have xf_m8 := hrf
    clear hrf
    clear xb_7
    have xb_m8 := hrb
    clear hrb
    clear xf_m8
    clear xb_m8
    go_wp2_with fail
    refine (eqBuffers_any W8.heap.size W8.heap.size _ _ _ _ _ _ _ _ _ _ _ _ (writeS xs ys v i x).xs (writeS xs ys v i x).ys (writeS xs ys v i x).xs (writeS xs ys v i x).ys (writeS xs ys v i x).v (writeS xs ys v i x).v _ (g0f_8.mono (Nat.le_refl _) (by first | omega | (simp; done) | (simp; omega))).ints (g0b_8.mono (Nat.le_refl _) (by first | omega | (simp; done) | (simp; omega))).ints (w0f_8.mono (Nat.le_refl _) (by first | omega | (simp; done) | (simp; omega))).ints (w0b_8.mono (Nat.le_refl _) (by first | omega | (simp; done) | (simp; omega))).ints (by first | omega | (simp; done) | (simp; omega)) (by first | omega | (simp; done) | (simp; omega)) (by omega) (by omega) (by omega) (by omega)).mono ?_
    rintro e W9 ⟨rfl, hb⟩
    have hz9 := hb.size
    have abc0_9 := (hb.cell (p := ⟨w.heap.size, 0, none⟩) (by show w.heap.size < W8.heap.size; omega)).trans abc0_8
    have abc1_9 := (hb.cell (p := ⟨w.heap.size, 1, none⟩) (by show w.heap.size < W8.heap.size; omega)).trans abc1_8
    have abc2_9 := (hb.cell (p := ⟨w.heap.size, 2, none⟩) (by show w.heap.size < W8.heap.size; omega)).trans abc2_8
    clear abc0_8 abc1_8 abc2_8
    have w0boxc0_9 := (hb.cell (p := ⟨W2.heap.size, 0, none⟩) (by show W2.heap.size < W8.heap.size; omega)).trans w0boxc0_8
    have w0boxc1_9 := (hb.cell (p := ⟨W2.heap.size, 1, none⟩) (by show W2.heap.size < W8.heap.size; omega)).trans w0boxc1_8
    have w0boxc2_9 := (hb.cell (p := ⟨W2.heap.size, 2, none⟩) (by show W2.heap.size < W8.heap.size; omega)).trans w0boxc2_8
    clear w0boxc0_8 w0boxc1_8 w0boxc2_8
    have xboxc0_9 := (hb.cell (p := ⟨W3.heap.size, 0, none⟩) (by show W3.heap.size < W8.heap.size; omega)).trans xboxc0_8
    have xboxc1_9 := (hb.cell (p := ⟨W3.heap.size, 1, none⟩) (by show W3.heap.size < W8.heap.size; omega)).trans xboxc1_8
    have xboxc2_9 := (hb.cell (p := ⟨W3.heap.size, 2, none⟩) (by show W3.heap.size < W8.heap.size; omega)).trans xboxc2_8
    clear xboxc0_8 xboxc1_8 xboxc2_8
    have g0boxc0_9 := (hb.cell (p := ⟨W4.heap.size, 0, none⟩) (by show W4.heap.size < W8.heap.size; omega)).trans g0boxc0_8
    have g0boxc1_9 := (hb.cell (p := ⟨W4.heap.size, 1, none⟩) (by show W4.heap.size < W8.heap.size; omega)).trans g0boxc1_8
    have g0boxc2_9 := (hb.cell (p := ⟨W4.heap.size, 2, none⟩) (by show W4.heap.size < W8.heap.size; omega)).trans g0boxc2_8
    clear g0boxc0_8 g0boxc1_8 g0boxc2_8
    have w0f_9 := w0f_8.belowS hb
    clear w0f_8
    have w0b_9 := w0b_8.belowS hb
    clear w0b_8
    have g0f_9 := g0f_8.belowS hb
    clear g0f_8
    have g0b_9 := g0b_8.belowS hb
    clear g0b_8
    have a_9 := a_8.below hb (by omega)
    clear a_8
    have b_9 := b_8.below hb (by omega)
    clear b_8
    have hB9 := hB8.trans (hb.mono (by omega))
    clear hB8
    clear hb
    go_wp2_with fail
    refine (markBuffers_any _ _ _ g0A g0n g0c g0B g0m g0d _ _ (writeS xs ys v i x).v 1 _ g0f_9 g0b_9 (by omega) (by omega) (by omega) (by omega) (by omega) (by omega)).mono ?_
    rintro e W10 ⟨rfl, hrf, hrb, ho⟩
    have hz10 := ho.size
    have abc0_10 := (World.cell?_of_block (w := W9) (a := ⟨w.heap.size, 0, none⟩) (ho.block (w.heap.size) (by omega) (by omega))).trans abc0_9
    have abc1_10 := (World.cell?_of_block (w := W9) (a := ⟨w.heap.size, 1, none⟩) (ho.block (w.heap.size) (by omega) (by omega))).trans abc1_9
    have abc2_10 := (World.cell?_of_block (w := W9) (a := ⟨w.heap.size, 2, none⟩) (ho.block (w.heap.size) (by omega) (by omega))).trans abc2_9
    clear abc0_9 abc1_9 abc2_9
    have w0boxc0_10 := (World.cell?_of_block (w := W9) (a := ⟨W2.heap.size, 0, none⟩) (ho.block (W2.heap.size) (by omega) (by omega))).trans w0boxc0_9
    have w0boxc1_10 := (World.cell?_of_block (w := W9) (a := ⟨W2.heap.size, 1, none⟩) (ho.block (W2.heap.size) (by omega) (by omega))).trans w0boxc1_9
    have w0boxc2_10 := (World.cell?_of_block (w := W9) (a := ⟨W2.heap.size, 2, none⟩) (ho.block (W2.heap.size) (by omega) (by omega))).trans w0boxc2_9
    clear w0boxc0_9 w0boxc1_9 w0boxc2_9
    have xboxc0_10 := (World.cell?_of_block (w := W9) (a := ⟨W3.heap.size, 0, none⟩) (ho.block (W3.heap.size) (by omega) (by omega))).trans xboxc0_9
    have xboxc1_10 := (World.cell?_of_block (w := W9) (a := ⟨W3.heap.size, 1, none⟩) (ho.block (W3.heap.size) (by omega) (by omega))).trans xboxc1_9
    have xboxc2_10 := (World.cell?_of_block (w := W9) (a := ⟨W3.heap.size, 2, none⟩) (ho.block (W3.heap.size) (by omega) (by omega))).trans xboxc2_9
    clear xboxc0_9 xboxc1_9 xboxc2_9
    have g0boxc0_10 := (World.cell?_of_block (w := W9) (a := ⟨W4.heap.size, 0, none⟩) (ho.block (W4.heap.size) (by omega) (by omega))).trans g0boxc0_9
    have g0boxc1_10 := (World.cell?_of_block (w := W9) (a := ⟨W4.heap.size, 1, none⟩) (ho.block (W4.heap.size) (by omega) (by omega))).trans g0boxc1_9
    have g0boxc2_10 := (World.cell?_of_block (w := W9) (a := ⟨W4.heap.size, 2, none⟩) (ho.block (W4.heap.size) (by omega) (by omega))).trans g0boxc2_9
    clear g0boxc0_9 g0boxc1_9 g0boxc2_9
    have w0f_10 := w0f_9.far ho (by omega)
    clear w0f_9
    have w0b_10 := w0b_9.far ho (by omega)
    clear w0b_9
    have a_10 := a_9.only ho (by omega) (by omega)
    clear a_9
    have b_10 := b_9.only ho (by omega) (by omega)
    clear b_9
    have hB10 := hB9.trans (ho.below (by omega) (by omega))
    clear hB9
    clear ho
    clear g0f_9
    have g0f_m10 := hrf
    clear hrf
    clear g0b_9
    have g0b_m10 := hrb
    clear hrb
    go_wp2_with fail
    refine (heldBuffers_any W10.heap.size W10.heap.size g0A g0n g0c g0B g0m g0d (writeS xs ys v i x).v 1 _ (g0f_m10.mono (Nat.le_refl _) (by omega)).ints (g0b_m10.mono (Nat.le_refl _) (by omega)).ints (by omega) (by omega) (by omega) (by omega) (by omega)).mono ?_
    rintro e W11 ⟨rfl, hb⟩
    have hz11 := hb.size
    have abc0_11 := (hb.cell (p := ⟨w.heap.size, 0, none⟩) (by show w.heap.size < W10.heap.size; omega)).trans abc0_10
    have abc1_11 := (hb.cell (p := ⟨w.heap.size, 1, none⟩) (by show w.heap.size < W10.heap.size; omega)).trans abc1_10
    have abc2_11 := (hb.cell (p := ⟨w.heap.size, 2, none⟩) (by show w.heap.size < W10.heap.size; omega)).trans abc2_10
    clear abc0_10 abc1_10 abc2_10
    have w0boxc0_11 := (hb.cell (p := ⟨W2.heap.size, 0, none⟩) (by show W2.heap.size < W10.heap.size; omega)).trans w0boxc0_10
    have w0boxc1_11 := (hb.cell (p := ⟨W2.heap.size, 1, none⟩) (by show W2.heap.size < W10.heap.size; omega)).trans w0boxc1_10
    have w0boxc2_11 := (hb.cell (p := ⟨W2.heap.size, 2, none⟩) (by show W2.heap.size < W10.heap.size; omega)).trans w0boxc2_10
    clear w0boxc0_10 w0boxc1_10 w0boxc2_10
    have xboxc0_11 := (hb.cell (p := ⟨W3.heap.size, 0, none⟩) (by show W3.heap.size < W10.heap.size; omega)).trans xboxc0_10
    have xboxc1_11 := (hb.cell (p := ⟨W3.heap.size, 1, none⟩) (by show W3.heap.size < W10.heap.size; omega)).trans xboxc1_10
    have xboxc2_11 := (hb.cell (p := ⟨W3.heap.size, 2, none⟩) (by show W3.heap.size < W10.heap.size; omega)).trans xboxc2_10
    clear xboxc0_10 xboxc1_10 xboxc2_10
    have g0boxc0_11 := (hb.cell (p := ⟨W4.heap.size, 0, none⟩) (by show W4.heap.size < W10.heap.size; omega)).trans g0boxc0_10
    have g0boxc1_11 := (hb.cell (p := ⟨W4.heap.size, 1, none⟩) (by show W4.heap.size < W10.heap.size; omega)).trans g0boxc1_10
    have g0boxc2_11 := (hb.cell (p := ⟨W4.heap.size, 2, none⟩) (by show W4.heap.size < W10.heap.size; omega)).trans g0boxc2_10
    clear g0boxc0_10 g0boxc1_10 g0boxc2_10
    have w0f_11 := w0f_10.belowS hb
    clear w0f_10
    have w0b_11 := w0b_10.belowS hb
    clear w0b_10
    have g0f_11 := g0f_m10.belowS hb
    clear g0f_m10
    have g0b_11 := g0b_m10.belowS hb
    clear g0b_m10
    have a_11 := a_10.below hb (by omega)
    clear a_10
    have b_11 := b_10.below hb (by omega)
    clear b_10
    have hB11 := hB10.trans (hb.mono (by omega))
    clear hB10
    clear hb
    go_wp2_with fail
    refine (toBuffers_any _ aA an ac aB am ad xs ys v _ a_11 b_11 (by first | omega | (simp; done) | (simp; omega)) (by omega) (by omega)).mono ?_
    rintro e W12 ⟨qA, qn, qc, qB, qm, qd, rfl, qk1, qk2, qk3, qk4, hb, qM, ql1, ql2, qf_0, qb_0⟩
    have qlo := ql1
    have hz12 := hb.size
    have abc0_12 := (hb.cell (p := ⟨w.heap.size, 0, none⟩) (by show w.heap.size < W11.heap.size; omega)).trans abc0_11
    have abc1_12 := (hb.cell (p := ⟨w.heap.size, 1, none⟩) (by show w.heap.size < W11.heap.size; omega)).trans abc1_11
    have abc2_12 := (hb.cell (p := ⟨w.heap.size, 2, none⟩) (by show w.heap.size < W11.heap.size; omega)).trans abc2_11
    clear abc0_11 abc1_11 abc2_11
    have w0boxc0_12 := (hb.cell (p := ⟨W2.heap.size, 0, none⟩) (by show W2.heap.size < W11.heap.size; omega)).trans w0boxc0_11
    have w0boxc1_12 := (hb.cell (p := ⟨W2.heap.size, 1, none⟩) (by show W2.heap.size < W11.heap.size; omega)).trans w0boxc1_11
    have w0boxc2_12 := (hb.cell (p := ⟨W2.heap.size, 2, none⟩) (by show W2.heap.size < W11.heap.size; omega)).trans w0boxc2_11
    clear w0boxc0_11 w0boxc1_11 w0boxc2_11
    have xboxc0_12 := (hb.cell (p := ⟨W3.heap.size, 0, none⟩) (by show W3.heap.size < W11.heap.size; omega)).trans xboxc0_11
    have xboxc1_12 := (hb.cell (p := ⟨W3.heap.size, 1, none⟩) (by show W3.heap.size < W11.heap.size; omega)).trans xboxc1_11
    have xboxc2_12 := (hb.cell (p := ⟨W3.heap.size, 2, none⟩) (by show W3.heap.size < W11.heap.size; omega)).trans xboxc2_11
    clear xboxc0_11 xboxc1_11 xboxc2_11
    have g0boxc0_12 := (hb.cell (p := ⟨W4.heap.size, 0, none⟩) (by show W4.heap.size < W11.heap.size; omega)).trans g0boxc0_11
    have g0boxc1_12 := (hb.cell (p := ⟨W4.heap.size, 1, none⟩) (by show W4.heap.size < W11.heap.size; omega)).trans g0boxc1_11
    have g0boxc2_12 := (hb.cell (p := ⟨W4.heap.size, 2, none⟩) (by show W4.heap.size < W11.heap.size; omega)).trans g0boxc2_11
    clear g0boxc0_11 g0boxc1_11 g0boxc2_11
    have w0f_12 := w0f_11.belowS hb
    clear w0f_11
    have w0b_12 := w0b_11.belowS hb
    clear w0b_11
    have g0f_12 := g0f_11.belowS hb
    clear g0f_11
    have g0b_12 := g0b_11.belowS hb
    clear g0b_11
    have a_12 := a_11.below hb (by omega)
    clear a_11
    have b_12 := b_11.below hb (by omega)
    clear b_11
    have hB12 := hB11.trans (hb.mono (by omega))
    clear hB11
    clear hb
    have qn1 : qn ≤ 1048576 := by have h1 := qf_0.1; have h2 := a_12.1; omega
    have qm1 : qm ≤ 1048576 := by have h1 := qb_0.1; have h2 := b_12.1; omega
    go_wp2_with fail
    refine (implWrite_any W12.heap.size qA qn qc qB qm qd xs ys v i x _ (⟨(qf_0.mono (Nat.le_refl _) (by first | omega | (simp; done) | (simp; omega))).ints, (qb_0.mono (Nat.le_refl _) (by first | omega | (simp; done) | (simp; omega))).ints, by omega, by omega, by omega, by omega⟩) (by first | omega | (simp; done) | (simp; omega))).mono ?_
    rintro e W13 ⟨h0A, h0n, h0c, h0B, h0m, h0d, rfl, h0k1, h0k2, h0k3, h0k4, hb, h0M, h0l1, h0l2, h0f_0, h0b_0⟩
    have h0lo := h0l1
    have hz13 := hb.size
    have abc0_13 := (hb.cell (p := ⟨w.heap.size, 0, none⟩) (by show w.heap.size < W12.heap.size; omega)).trans abc0_12
    have abc1_13 := (hb.cell (p := ⟨w.heap.size, 1, none⟩) (by show w.heap.size < W12.heap.size; omega)).trans abc1_12
    have abc2_13 := (hb.cell (p := ⟨w.heap.size, 2, none⟩) (by show w.heap.size < W12.heap.size; omega)).trans abc2_12
    clear abc0_12 abc1_12 abc2_12
    have w0boxc0_13 := (hb.cell (p := ⟨W2.heap.size, 0, none⟩) (by show W2.heap.size < W12.heap.size; omega)).trans w0boxc0_12
    have w0boxc1_13 := (hb.cell (p := ⟨W2.heap.size, 1, none⟩) (by show W2.heap.size < W12.heap.size; omega)).trans w0boxc1_12
    have w0boxc2_13 := (hb.cell (p := ⟨W2.heap.size, 2, none⟩) (by show W2.heap.size < W12.heap.size; omega)).trans w0boxc2_12
    clear w0boxc0_12 w0boxc1_12 w0boxc2_12
    have xboxc0_13 := (hb.cell (p := ⟨W3.heap.size, 0, none⟩) (by show W3.heap.size < W12.heap.size; omega)).trans xboxc0_12
    have xboxc1_13 := (hb.cell (p := ⟨W3.heap.size, 1, none⟩) (by show W3.heap.size < W12.heap.size; omega)).trans xboxc1_12
    have xboxc2_13 := (hb.cell (p := ⟨W3.heap.size, 2, none⟩) (by show W3.heap.size < W12.heap.size; omega)).trans xboxc2_12
    clear xboxc0_12 xboxc1_12 xboxc2_12
    have g0boxc0_13 := (hb.cell (p := ⟨W4.heap.size, 0, none⟩) (by show W4.heap.size < W12.heap.size; omega)).trans g0boxc0_12
    have g0boxc1_13 := (hb.cell (p := ⟨W4.heap.size, 1, none⟩) (by show W4.heap.size < W12.heap.size; omega)).trans g0boxc1_12
    have g0boxc2_13 := (hb.cell (p := ⟨W4.heap.size, 2, none⟩) (by show W4.heap.size < W12.heap.size; omega)).trans g0boxc2_12
    clear g0boxc0_12 g0boxc1_12 g0boxc2_12
    have w0f_13 := w0f_12.belowS hb
    clear w0f_12
    have w0b_13 := w0b_12.belowS hb
    clear w0b_12
    have g0f_13 := g0f_12.belowS hb
    clear g0f_12
    have g0b_13 := g0b_12.belowS hb
    clear g0b_12
    have qf_13 := qf_0.belowS hb
    clear qf_0
    have qb_13 := qb_0.belowS hb
    clear qb_0
    have a_13 := a_12.below hb (by omega)
    clear a_12
    have b_13 := b_12.below hb (by omega)
    clear b_12
    have hB13 := hB12.trans (hb.mono (by omega))
    clear hB12
    clear hb
    have h0n1 : h0n ≤ 16 := by have h1 := h0f_0.1; have h2 := hlen.out.1; omega
    have h0m1 : h0m ≤ 16 := by have h1 := h0b_0.1; have h2 := hlen.out.2; omega
    have al_ab0 := fun X => (World.cell?_alloc_lt W13 X ⟨w.heap.size, 0, none⟩ (by show w.heap.size < W13.heap.size; omega)).trans abc0_13
    have al_ab1 := fun X => (World.cell?_alloc_lt W13 X ⟨w.heap.size, 1, none⟩ (by show w.heap.size < W13.heap.size; omega)).trans abc1_13
    have al_ab2 := fun X => (World.cell?_alloc_lt W13 X ⟨w.heap.size, 2, none⟩ (by show w.heap.size < W13.heap.size; omega)).trans abc2_13
    have al_w0box0 := fun X => (World.cell?_alloc_lt W13 X ⟨W2.heap.size, 0, none⟩ (by show W2.heap.size < W13.heap.size; omega)).trans w0boxc0_13
    have al_w0box1 := fun X => (World.cell?_alloc_lt W13 X ⟨W2.heap.size, 1, none⟩ (by show W2.heap.size < W13.heap.size; omega)).trans w0boxc1_13
    have al_w0box2 := fun X => (World.cell?_alloc_lt W13 X ⟨W2.heap.size, 2, none⟩ (by show W2.heap.size < W13.heap.size; omega)).trans w0boxc2_13
    have al_xbox0 := fun X => (World.cell?_alloc_lt W13 X ⟨W3.heap.size, 0, none⟩ (by show W3.heap.size < W13.heap.size; omega)).trans xboxc0_13
    have al_xbox1 := fun X => (World.cell?_alloc_lt W13 X ⟨W3.heap.size, 1, none⟩ (by show W3.heap.size < W13.heap.size; omega)).trans xboxc1_13
    have al_xbox2 := fun X => (World.cell?_alloc_lt W13 X ⟨W3.heap.size, 2, none⟩ (by show W3.heap.size < W13.heap.size; omega)).trans xboxc2_13
    have al_g0box0 := fun X => (World.cell?_alloc_lt W13 X ⟨W4.heap.size, 0, none⟩ (by show W4.heap.size < W13.heap.size; omega)).trans g0boxc0_13
    have al_g0box1 := fun X => (World.cell?_alloc_lt W13 X ⟨W4.heap.size, 1, none⟩ (by show W4.heap.size < W13.heap.size; omega)).trans g0boxc1_13
    have al_g0box2 := fun X => (World.cell?_alloc_lt W13 X ⟨W4.heap.size, 2, none⟩ (by show W4.heap.size < W13.heap.size; omega)).trans g0boxc2_13
    clear qf_13
    clear qb_13
    go_wp2_with fail
    refine (eqBuffers_any W13.heap.size W13.heap.size _ _ _ _ _ _ _ _ _ _ _ _ (writeS xs ys v i x).xs (writeS xs ys v i x).ys (writeS xs ys v i x).xs (writeS xs ys v i x).ys (writeS xs ys v i x).v (writeS xs ys v i x).v _ ((h0f_0.belowS (alB _ _)).mono (Nat.le_refl _) (by first | omega | (simp; done) | (simp; omega))).ints ((h0b_0.belowS (alB _ _)).mono (Nat.le_refl _) (by first | omega | (simp; done) | (simp; omega))).ints ((w0f_13.belowS (alB _ _)).mono (Nat.le_refl _) (by first | omega | (simp; done) | (simp; omega))).ints ((w0b_13.belowS (alB _ _)).mono (Nat.le_refl _) (by first | omega | (simp; done) | (simp; omega))).ints (by first | omega | (simp; done) | (simp; omega)) (by first | omega | (simp; done) | (simp; omega)) (by omega) (by omega) (by omega) (by omega)).mono ?_
    rintro e W14 ⟨rfl, hb⟩
    clear al_ab0 al_ab1 al_ab2 al_w0box0 al_w0box1 al_w0box2 al_xbox0 al_xbox1 al_xbox2 al_g0box0 al_g0box1 al_g0box2
    have h0boxc0_14 : W14.cell? ⟨W13.heap.size, 0, none⟩ = some (.slice h0A h0n h0c) := (hb.cell (p := ⟨W13.heap.size, 0, none⟩) (by simp)).trans (by simp)
    have h0boxc1_14 : W14.cell? ⟨W13.heap.size, 1, none⟩ = some (.slice h0B h0m h0d) := (hb.cell (p := ⟨W13.heap.size, 1, none⟩) (by simp)).trans (by simp)
    have h0boxc2_14 : W14.cell? ⟨W13.heap.size, 2, none⟩ = some (.int .i64 (writeS xs ys v i x).v) := (hb.cell (p := ⟨W13.heap.size, 2, none⟩) (by simp)).trans (by simp)
    have hlt14 : W13.heap.size < W14.heap.size := by have := hb.size; simp at this; omega
    have hq14 := (alB W13 _).trans (hb.mono (by simp))
    have hz14 := hq14.size
    have abc0_14 := (hq14.cell (p := ⟨w.heap.size, 0, none⟩) (by show w.heap.size < W13.heap.size; omega)).trans abc0_13
    have abc1_14 := (hq14.cell (p := ⟨w.heap.size, 1, none⟩) (by show w.heap.size < W13.heap.size; omega)).trans abc1_13
    have abc2_14 := (hq14.cell (p := ⟨w.heap.size, 2, none⟩) (by show w.heap.size < W13.heap.size; omega)).trans abc2_13
    clear abc0_13 abc1_13 abc2_13
    have w0boxc0_14 := (hq14.cell (p := ⟨W2.heap.size, 0, none⟩) (by show W2.heap.size < W13.heap.size; omega)).trans w0boxc0_13
    have w0boxc1_14 := (hq14.cell (p := ⟨W2.heap.size, 1, none⟩) (by show W2.heap.size < W13.heap.size; omega)).trans w0boxc1_13
    have w0boxc2_14 := (hq14.cell (p := ⟨W2.heap.size, 2, none⟩) (by show W2.heap.size < W13.heap.size; omega)).trans w0boxc2_13
    clear w0boxc0_13 w0boxc1_13 w0boxc2_13
    have xboxc0_14 := (hq14.cell (p := ⟨W3.heap.size, 0, none⟩) (by show W3.heap.size < W13.heap.size; omega)).trans xboxc0_13
    have xboxc1_14 := (hq14.cell (p := ⟨W3.heap.size, 1, none⟩) (by show W3.heap.size < W13.heap.size; omega)).trans xboxc1_13
    have xboxc2_14 := (hq14.cell (p := ⟨W3.heap.size, 2, none⟩) (by show W3.heap.size < W13.heap.size; omega)).trans xboxc2_13
    clear xboxc0_13 xboxc1_13 xboxc2_13
    have g0boxc0_14 := (hq14.cell (p := ⟨W4.heap.size, 0, none⟩) (by show W4.heap.size < W13.heap.size; omega)).trans g0boxc0_13
    have g0boxc1_14 := (hq14.cell (p := ⟨W4.heap.size, 1, none⟩) (by show W4.heap.size < W13.heap.size; omega)).trans g0boxc1_13
    have g0boxc2_14 := (hq14.cell (p := ⟨W4.heap.size, 2, none⟩) (by show W4.heap.size < W13.heap.size; omega)).trans g0boxc2_13
    clear g0boxc0_13 g0boxc1_13 g0boxc2_13
    have w0f_14 := w0f_13.belowS hq14
    clear w0f_13
    have w0b_14 := w0b_13.belowS hq14
    clear w0b_13
    have g0f_14 := g0f_13.belowS hq14
    clear g0f_13
    have g0b_14 := g0b_13.belowS hq14
    clear g0b_13
    have h0f_14 := h0f_0.belowS hq14
    clear h0f_0
    have h0b_14 := h0b_0.belowS hq14
    clear h0b_0
    have a_14 := a_13.below hq14 (by omega)
    clear a_13
    have b_14 := b_13.below hq14 (by omega)
    clear b_13
    have hB14 := hB13.trans (hq14.mono (by omega))
    clear hB13
    clear hb hq14
    go_wp2_with fail
    refine (heldBuffers_any W14.heap.size W14.heap.size g0A g0n g0c g0B g0m g0d (writeS xs ys v i x).v 1 _ (g0f_14.mono (Nat.le_refl _) (by omega)).ints (g0b_14.mono (Nat.le_refl _) (by omega)).ints (by omega) (by omega) (by omega) (by omega) (by omega)).mono ?_
    rintro e W15 ⟨rfl, hb⟩
    have hz15 := hb.size
    have abc0_15 := (hb.cell (p := ⟨w.heap.size, 0, none⟩) (by show w.heap.size < W14.heap.size; omega)).trans abc0_14
    have abc1_15 := (hb.cell (p := ⟨w.heap.size, 1, none⟩) (by show w.heap.size < W14.heap.size; omega)).trans abc1_14
    have abc2_15 := (hb.cell (p := ⟨w.heap.size, 2, none⟩) (by show w.heap.size < W14.heap.size; omega)).trans abc2_14
    clear abc0_14 abc1_14 abc2_14
    have w0boxc0_15 := (hb.cell (p := ⟨W2.heap.size, 0, none⟩) (by show W2.heap.size < W14.heap.size; omega)).trans w0boxc0_14
    have w0boxc1_15 := (hb.cell (p := ⟨W2.heap.size, 1, none⟩) (by show W2.heap.size < W14.heap.size; omega)).trans w0boxc1_14
    have w0boxc2_15 := (hb.cell (p := ⟨W2.heap.size, 2, none⟩) (by show W2.heap.size < W14.heap.size; omega)).trans w0boxc2_14
    clear w0boxc0_14 w0boxc1_14 w0boxc2_14
    have xboxc0_15 := (hb.cell (p := ⟨W3.heap.size, 0, none⟩) (by show W3.heap.size < W14.heap.size; omega)).trans xboxc0_14
    have xboxc1_15 := (hb.cell (p := ⟨W3.heap.size, 1, none⟩) (by show W3.heap.size < W14.heap.size; omega)).trans xboxc1_14
    have xboxc2_15 := (hb.cell (p := ⟨W3.heap.size, 2, none⟩) (by show W3.heap.size < W14.heap.size; omega)).trans xboxc2_14
    clear xboxc0_14 xboxc1_14 xboxc2_14
    have g0boxc0_15 := (hb.cell (p := ⟨W4.heap.size, 0, none⟩) (by show W4.heap.size < W14.heap.size; omega)).trans g0boxc0_14
    have g0boxc1_15 := (hb.cell (p := ⟨W4.heap.size, 1, none⟩) (by show W4.heap.size < W14.heap.size; omega)).trans g0boxc1_14
    have g0boxc2_15 := (hb.cell (p := ⟨W4.heap.size, 2, none⟩) (by show W4.heap.size < W14.heap.size; omega)).trans g0boxc2_14
    clear g0boxc0_14 g0boxc1_14 g0boxc2_14
    have h0boxc0_15 := (hb.cell (p := ⟨W13.heap.size, 0, none⟩) (by show W13.heap.size < W14.heap.size; omega)).trans h0boxc0_14
    have h0boxc1_15 := (hb.cell (p := ⟨W13.heap.size, 1, none⟩) (by show W13.heap.size < W14.heap.size; omega)).trans h0boxc1_14
    have h0boxc2_15 := (hb.cell (p := ⟨W13.heap.size, 2, none⟩) (by show W13.heap.size < W14.heap.size; omega)).trans h0boxc2_14
    clear h0boxc0_14 h0boxc1_14 h0boxc2_14
    have w0f_15 := w0f_14.belowS hb
    clear w0f_14
    have w0b_15 := w0b_14.belowS hb
    clear w0b_14
    have g0f_15 := g0f_14.belowS hb
    clear g0f_14
    have g0b_15 := g0b_14.belowS hb
    clear g0b_14
    have h0f_15 := h0f_14.belowS hb
    clear h0f_14
    have h0b_15 := h0b_14.belowS hb
    clear h0b_14
    have a_15 := a_14.below hb (by omega)
    clear a_14
    have b_15 := b_14.below hb (by omega)
    clear b_14
    have hB15 := hB14.trans (hb.mono (by omega))
    clear hB14
    clear hb
    have HB := hide hB15
    clear hB15
    clear w0f_15
    clear w0b_15
    clear g0f_15
    clear g0b_15
    clear h0f_15
    clear h0b_15
    clear a_15
    clear b_15
    go_wp2
    go_ret
    exact ⟨rfl, HB.out⟩
end Go.Proofs.Ytmipeegfeglljaa
