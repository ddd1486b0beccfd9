/- The drawn laws of SwapBuffers and DropBack. Conditions: none. -/
import Derived.Test.YtndnhnekhlifjaaLawBufX
namespace Go.Proofs.Ytndnhnekhlifjaa
open Go.RowKit
set_option linter.unusedVariables false
set_option maxHeartbeats 1000000 in
theorem walk_FnSwapBuffersTwice (a0 : Option Addr) (len cap : Nat) (zs : List Int) (w : World) (h0 : Ints .u8 w w.heap.size a0 len zs) (hc : len ≤ cap) :
    Calls Try.prog 3 #[.slice a0 len cap] w fun e w' => e = .returned (.bool true) ∧ Below w.heap.size w w' := by
  by_cases hl : len ≤ 1048576
  case neg =>
    go_enter Try.func3, Try.ntmps3
    go_wp2
    go_ret
    exact ⟨rfl, Below.refl _ _⟩
  case pos =>
    go_enter Try.func3, Try.ntmps3
    go_wp2_with fail
    refine (drawSwapBuffers_any a0 len cap zs _ h0 hc).mono ?_
    rintro e W0 ⟨A, n, c, B, m, d, xs, ys, v, rfl, hN⟩
    clear h0
    have hF_0 := hide hN.buf
    have hB_0 := hide hN.2.2.2.2.2.2.2.2.2.2
    have hz0 := hB_0.out.size
    clear hN
    have hxl : xs.length = n := hF_0.out.1.1
    have hyl : ys.length = m := hF_0.out.2.1.1
    have hlen := hide (swapS_len xs ys v)
    have he1 := bufEq_self (swapS xs ys v).xs (swapS xs ys v).ys (swapS xs ys v).v
    go_wp2_with fail
    refine (implSwap_any W0.heap.size A n c B m d xs ys v _ (hF_0.out.below (alB _ _) (Nat.le_refl _)) (by simp)).mono ?_
    rintro e W1 ⟨A1, n1, c1, B1, m1, d1, rfl, ht⟩
    have hb := ht.2.2.2.2.1
    have hbb := (alB W0 (.cells #[.slice A n c, .slice B m d, .int .i64 v] 25)).trans (hb.mono (by simp))
    have hF_1 := hide (hF_0.out.below hbb (Nat.le_refl _))
    have hG_1 := hide (ht.buf' hlen.out.1 hlen.out.2)
    have hB_1 := hide (hB_0.out.trans (hbb.mono hz0))
    obtain ⟨b0_1, b1_1, b2_1, _, _, _⟩ := AnyOp.cellsOf ((hb.block W0.heap.size (by simp)).trans (heap_alloc_new W0 _))
    have hz1 : W0.heap.size < W1.heap.size := by have := hb.size; simp at this; omega
    clear hb hbb ht hF_0 hB_0
    go_wp2_with fail
    refine (specSwap_any W0.heap.size A n c B m d xs ys v _ (hF_1.out.below (alB _ _) (by omega)) (by simp; omega)).mono ?_
    rintro e W2 ⟨A2, n2, c2, B2, m2, d2, rfl, ht⟩
    have hb := ht.2.2.2.2.1
    have hbb := (alB W1 (.cells #[.slice A1 n1 c1, .slice B1 m1 d1, .int .i64 (swapS xs ys v).v] 25)).trans (hb.mono (by simp))
    have hH_2 := hide (ht.buf' hlen.out.1 hlen.out.2)
    have hF_2 := hide (hF_1.out.below hbb (by omega))
    have hG_2 := hide (hG_1.out.below hbb (by omega))
    have hB_2 := hide (hB_1.out.trans (hbb.mono (by omega)))
    have b0_2 := (hbb.cell (p := ⟨W0.heap.size, 0, none⟩) hz1).trans b0_1
    have b1_2 := (hbb.cell (p := ⟨W0.heap.size, 1, none⟩) hz1).trans b1_1
    have b2_2 := (hbb.cell (p := ⟨W0.heap.size, 2, none⟩) hz1).trans b2_1
    obtain ⟨g0_2, g1_2, g2_2, _, _, _⟩ := AnyOp.cellsOf ((hb.block W1.heap.size (by simp)).trans (heap_alloc_new W1 _))
    have hz2 : W1.heap.size < W2.heap.size := by have := hb.size; simp at this; omega
    clear hb hbb ht hF_1 hG_1 hB_1 b0_1 b1_1 b2_1
    go_wp2_with fail
    have hGa := hide (hG_2.out.below (alB W2 (.cells #[.slice A2 n2 c2, .slice B2 m2 d2, .int .i64 (swapS xs ys v).v] 25)) (by omega))
    have hHa := hide (hH_2.out.below (alB W2 (.cells #[.slice A2 n2 c2, .slice B2 m2 d2, .int .i64 (swapS xs ys v).v] 25)) (Nat.le_refl _))
    refine (equalBuffers_any W1.heap.size W2.heap.size A1 n1 c1 B1 m1 d1 A2 n2 c2 B2 m2 d2 _ _ _ _ _ _ _ hGa.out.1 hGa.out.2.1 hHa.out.1 hHa.out.2.1 (by simp; omega) (by simp) (by have := hGa.out.2.2.1; omega) (by have := hGa.out.2.2.2.1; omega) (by have := hHa.out.2.2.1; omega) (by have := hHa.out.2.2.2.1; omega)).mono ?_
    rintro e W3 ⟨rfl, hb'⟩
    rw [he1]
    clear hGa hHa
    obtain ⟨h0_3, h1_3, h2_3, _, _, _⟩ := AnyOp.cellsOf ((hb'.block W2.heap.size (by simp)).trans (heap_alloc_new W2 _))
    have hb := (alB W2 (.cells #[.slice A2 n2 c2, .slice B2 m2 d2, .int .i64 (swapS xs ys v).v] 25)).trans (hb'.mono (by simp))
    have hz3' : W2.heap.size < W3.heap.size := by have := hb'.size; simp at this; omega
    clear hb'
    have hF_3 := hide (hF_2.out.below hb (by omega))
    have hG_3 := hide (hG_2.out.below hb (by omega))
    have hH_3 := hide (hH_2.out.below hb (by omega))
    have hB_3 := hide (hB_2.out.trans (hb.mono (by omega)))
    have b0_3 := (hb.cell (p := ⟨W0.heap.size, 0, none⟩) (by show W0.heap.size < W2.heap.size; omega)).trans b0_2
    have b1_3 := (hb.cell (p := ⟨W0.heap.size, 1, none⟩) (by show W0.heap.size < W2.heap.size; omega)).trans b1_2
    have b2_3 := (hb.cell (p := ⟨W0.heap.size, 2, none⟩) (by show W0.heap.size < W2.heap.size; omega)).trans b2_2
    have g0_3 := (hb.cell (p := ⟨W1.heap.size, 0, none⟩) (by show W1.heap.size < W2.heap.size; omega)).trans g0_2
    have g1_3 := (hb.cell (p := ⟨W1.heap.size, 1, none⟩) (by show W1.heap.size < W2.heap.size; omega)).trans g1_2
    have g2_3 := (hb.cell (p := ⟨W1.heap.size, 2, none⟩) (by show W1.heap.size < W2.heap.size; omega)).trans g2_2
    have hz3 := hb.size
    clear hb hF_2 hG_2 hH_2 hB_2 b0_2 b1_2 b2_2 g0_2 g1_2 g2_2
    by_cases hok : (swapS xs ys v).ok = true
    case neg =>
      rw [Bool.not_eq_true] at hok
      rw [hok]
      go_wp2_with fail
      refine (equalBuffers_any W1.heap.size W2.heap.size A1 n1 c1 B1 m1 d1 A2 n2 c2 B2 m2 d2 _ _ _ _ _ _ _ hG_3.out.1 hG_3.out.2.1 hH_3.out.1 hH_3.out.2.1 (by omega) (by omega) (by have := hG_3.out.2.2.1; omega) (by have := hG_3.out.2.2.2.1; omega) (by have := hH_3.out.2.2.1; omega) (by have := hH_3.out.2.2.2.1; omega)).mono ?_
      rintro e W4 ⟨rfl, hb⟩
      rw [he1]
      have hF_4 := hide (hF_3.out.below hb (by omega))
      have hG_4 := hide (hG_3.out.below hb (by omega))
      have hH_4 := hide (hH_3.out.below hb (by omega))
      have hB_4 := hide (hB_3.out.trans (hb.mono (by omega)))
      have b0_4 := (hb.cell (p := ⟨W0.heap.size, 0, none⟩) (by show W0.heap.size < W3.heap.size; omega)).trans b0_3
      have b1_4 := (hb.cell (p := ⟨W0.heap.size, 1, none⟩) (by show W0.heap.size < W3.heap.size; omega)).trans b1_3
      have b2_4 := (hb.cell (p := ⟨W0.heap.size, 2, none⟩) (by show W0.heap.size < W3.heap.size; omega)).trans b2_3
      have g0_4 := (hb.cell (p := ⟨W1.heap.size, 0, none⟩) (by show W1.heap.size < W3.heap.size; omega)).trans g0_3
      have g1_4 := (hb.cell (p := ⟨W1.heap.size, 1, none⟩) (by show W1.heap.size < W3.heap.size; omega)).trans g1_3
      have g2_4 := (hb.cell (p := ⟨W1.heap.size, 2, none⟩) (by show W1.heap.size < W3.heap.size; omega)).trans g2_3
      have h0_4 := (hb.cell (p := ⟨W2.heap.size, 0, none⟩) (by show W2.heap.size < W3.heap.size; omega)).trans h0_3
      have h1_4 := (hb.cell (p := ⟨W2.heap.size, 1, none⟩) (by show W2.heap.size < W3.heap.size; omega)).trans h1_3
      have h2_4 := (hb.cell (p := ⟨W2.heap.size, 2, none⟩) (by show W2.heap.size < W3.heap.size; omega)).trans h2_3
      have hz4 := hb.size
      clear hb hF_3 hG_3 hH_3 hB_3 b0_3 b1_3 b2_3 g0_3 g1_3 g2_3 h0_3 h1_3 h2_3
      go_wp2
      go_ret
      exact ⟨ret_bool (by simp), hB_4.out⟩
    case pos =>
      obtain ⟨hv, hv1⟩ : validB xs ys v = true ∧ v ≠ 1000 := by
        unfold swapS at hok; split at hok
        · assumption
        · simp [noAns] at hok
      have hS : swapS xs ys v = ⟨ys, ys, v + 1, true⟩ := if_pos ⟨hv, hv1⟩
      have hv9 := (validB_iff.1 hv).2.2.2.2
      have hw : IntKind.i64.wrap (v + 1) = v + 1 := IntWalk.i64_in _ (by omega)
      have hvx : validB ys ys (v + 1) = true := by
        have h := validB_iff.1 hv
        exact validB_iff.2 ⟨by omega, rfl, h.2.2.2.1, h.2.2.2.1, by omega, by omega⟩
      simp only [hS] at hG_3 g2_3 ⊢
      have bn1 := hG_3.out.2.2.1
      have bm1 := hG_3.out.2.2.2.1
      have bn := hF_3.out.2.2.1
      have bm := hF_3.out.2.2.2.1
      have hw2 : IntKind.i64.wrap (v + 2) = v + 1 + 1 := by rw [IntWalk.i64_in _ (by omega)]; omega
      clear hS hH_3 h0_3 h1_3 h2_3
      by_cases hmx : v + 1 = 1000
      · obtain rfl : v = 999 := by omega
        simp only [Int.reduceAdd] at g2_3
        have hS2 : swapS ys ys 1000 = ⟨[], [], 0, false⟩ := if_neg (by simp)
        go_wp2_with fail
        refine (implSwap_any W1.heap.size A1 n1 c1 B1 m1 d1 ys ys 1000 _ hG_3.out (by omega)).mono ?_
        rintro e W4 ⟨A4, n4, c4, B4, m4, d4, rfl, ht⟩
        rw [hS2] at ht ⊢
        have hb : Below W3.heap.size W3 W4 := ht.2.2.2.2.1
        clear ht
        have hF_4 := hide (hF_3.out.below hb (by omega))
        have hG_4 := hide (hG_3.out.below hb (by omega))
        have hB_4 := hide (hB_3.out.trans (hb.mono (by omega)))
        have b0_4 := (hb.cell (p := ⟨W0.heap.size, 0, none⟩) (by show W0.heap.size < W3.heap.size; omega)).trans b0_3
        have b1_4 := (hb.cell (p := ⟨W0.heap.size, 1, none⟩) (by show W0.heap.size < W3.heap.size; omega)).trans b1_3
        have b2_4 := (hb.cell (p := ⟨W0.heap.size, 2, none⟩) (by show W0.heap.size < W3.heap.size; omega)).trans b2_3
        have g0_4 := (hb.cell (p := ⟨W1.heap.size, 0, none⟩) (by show W1.heap.size < W3.heap.size; omega)).trans g0_3
        have g1_4 := (hb.cell (p := ⟨W1.heap.size, 1, none⟩) (by show W1.heap.size < W3.heap.size; omega)).trans g1_3
        have g2_4 := (hb.cell (p := ⟨W1.heap.size, 2, none⟩) (by show W1.heap.size < W3.heap.size; omega)).trans g2_3
        have hz4 := hb.size
        clear hb hF_3 hG_3 hB_3 b0_3 b1_3 b2_3 g0_3 g1_3 g2_3
        have al_b0 := fun X => (World.cell?_alloc_lt W4 X ⟨W0.heap.size, 0, none⟩ (by show W0.heap.size < W4.heap.size; omega)).trans b0_4
        have al_b1 := fun X => (World.cell?_alloc_lt W4 X ⟨W0.heap.size, 1, none⟩ (by show W0.heap.size < W4.heap.size; omega)).trans b1_4
        have al_b2 := fun X => (World.cell?_alloc_lt W4 X ⟨W0.heap.size, 2, none⟩ (by show W0.heap.size < W4.heap.size; omega)).trans b2_4
        have al_g0 := fun X => (World.cell?_alloc_lt W4 X ⟨W1.heap.size, 0, none⟩ (by show W1.heap.size < W4.heap.size; omega)).trans g0_4
        have al_g1 := fun X => (World.cell?_alloc_lt W4 X ⟨W1.heap.size, 1, none⟩ (by show W1.heap.size < W4.heap.size; omega)).trans g1_4
        have al_g2 := fun X => (World.cell?_alloc_lt W4 X ⟨W1.heap.size, 2, none⟩ (by show W1.heap.size < W4.heap.size; omega)).trans g2_4
        go_wp2
        go_ret
        exact ⟨ret_bool (by simp), hB_4.out.trans ((alB W4 _).mono (by omega))⟩
      · have hS2 : swapS ys ys (v + 1) = ⟨ys, ys, v + 1 + 1, true⟩ := if_pos ⟨hvx, hmx⟩
        have hlx := (validB_iff.1 hvx).1
        go_wp2_with fail
        refine (implSwap_any W1.heap.size A1 n1 c1 B1 m1 d1 ys ys (v + 1) _ hG_3.out (by omega)).mono ?_
        rintro e W4 ⟨A4, n4, c4, B4, m4, d4, rfl, ht⟩
        rw [hS2] at ht ⊢
        have hb : Below W3.heap.size W3 W4 := ht.2.2.2.2.1
        have hD_4 := hide (ht.buf' (by show ys.length ≤ 16; omega) (by show ys.length ≤ 16; omega))
        clear ht
        have hF_4 := hide (hF_3.out.below hb (by omega))
        have hG_4 := hide (hG_3.out.below hb (by omega))
        have hB_4 := hide (hB_3.out.trans (hb.mono (by omega)))
        have b0_4 := (hb.cell (p := ⟨W0.heap.size, 0, none⟩) (by show W0.heap.size < W3.heap.size; omega)).trans b0_3
        have b1_4 := (hb.cell (p := ⟨W0.heap.size, 1, none⟩) (by show W0.heap.size < W3.heap.size; omega)).trans b1_3
        have b2_4 := (hb.cell (p := ⟨W0.heap.size, 2, none⟩) (by show W0.heap.size < W3.heap.size; omega)).trans b2_3
        have g0_4 := (hb.cell (p := ⟨W1.heap.size, 0, none⟩) (by show W1.heap.size < W3.heap.size; omega)).trans g0_3
        have g1_4 := (hb.cell (p := ⟨W1.heap.size, 1, none⟩) (by show W1.heap.size < W3.heap.size; omega)).trans g1_3
        have g2_4 := (hb.cell (p := ⟨W1.heap.size, 2, none⟩) (by show W1.heap.size < W3.heap.size; omega)).trans g2_3
        have hz4 := hb.size
        clear hb hF_3 hG_3 hB_3 b0_3 b1_3 b2_3 g0_3 g1_3 g2_3
        have al_b0 := fun X => (World.cell?_alloc_lt W4 X ⟨W0.heap.size, 0, none⟩ (by show W0.heap.size < W4.heap.size; omega)).trans b0_4
        have al_b1 := fun X => (World.cell?_alloc_lt W4 X ⟨W0.heap.size, 1, none⟩ (by show W0.heap.size < W4.heap.size; omega)).trans b1_4
        have al_b2 := fun X => (World.cell?_alloc_lt W4 X ⟨W0.heap.size, 2, none⟩ (by show W0.heap.size < W4.heap.size; omega)).trans b2_4
        have al_g0 := fun X => (World.cell?_alloc_lt W4 X ⟨W1.heap.size, 0, none⟩ (by show W1.heap.size < W4.heap.size; omega)).trans g0_4
        have al_g1 := fun X => (World.cell?_alloc_lt W4 X ⟨W1.heap.size, 1, none⟩ (by show W1.heap.size < W4.heap.size; omega)).trans g1_4
        have al_g2 := fun X => (World.cell?_alloc_lt W4 X ⟨W1.heap.size, 2, none⟩ (by show W1.heap.size < W4.heap.size; omega)).trans g2_4
        have bn4 := hD_4.out.2.2.1
        have hDa := hide (hD_4.out.below (alB W4 (.cells #[.slice A4 n4 c4, .slice B4 m4 d4, .int .i64 (v + 1 + 1)] 25)) (Nat.le_refl _))
        have hFa := hide (hG_4.out.below (alB W4 (.cells #[.slice A4 n4 c4, .slice B4 m4 d4, .int .i64 (v + 1 + 1)] 25)) (by omega))
        go_wp2_with fail
        refine (equalInts_any W4.heap.size W1.heap.size A4 A1 n4 n1 c4 c1 _ _ _ hDa.out.1 hFa.out.1 (by omega) (by omega)).mono ?_
        rintro e W5 ⟨rfl, hb'⟩
        rw [listEq_self ys]
        clear hDa hFa
        obtain ⟨e0_5, e1_5, e2_5, _, _, _⟩ := AnyOp.cellsOf ((hb'.block W4.heap.size (by simp)).trans (heap_alloc_new W4 _))
        have hb := (alB W4 (.cells #[.slice A4 n4 c4, .slice B4 m4 d4, .int .i64 (v + 1 + 1)] 25)).trans (hb'.mono (by simp))
        clear hb'
        clear al_b0 al_b1 al_b2 al_g0 al_g1 al_g2
        have hF_5 := hide (hF_4.out.below hb (by omega))
        have hG_5 := hide (hG_4.out.below hb (by omega))
        have hB_5 := hide (hB_4.out.trans (hb.mono (by omega)))
        have b0_5 := (hb.cell (p := ⟨W0.heap.size, 0, none⟩) (by show W0.heap.size < W4.heap.size; omega)).trans b0_4
        have b1_5 := (hb.cell (p := ⟨W0.heap.size, 1, none⟩) (by show W0.heap.size < W4.heap.size; omega)).trans b1_4
        have b2_5 := (hb.cell (p := ⟨W0.heap.size, 2, none⟩) (by show W0.heap.size < W4.heap.size; omega)).trans b2_4
        have g0_5 := (hb.cell (p := ⟨W1.heap.size, 0, none⟩) (by show W1.heap.size < W4.heap.size; omega)).trans g0_4
        have g1_5 := (hb.cell (p := ⟨W1.heap.size, 1, none⟩) (by show W1.heap.size < W4.heap.size; omega)).trans g1_4
        have g2_5 := (hb.cell (p := ⟨W1.heap.size, 2, none⟩) (by show W1.heap.size < W4.heap.size; omega)).trans g2_4
        have hz5 := hb.size
        clear hb hF_4 hG_4 hB_4 b0_4 b1_4 b2_4 g0_4 g1_4 g2_4
        have hmd : decide ((v + 1) < 1000) = true := by simp; omega
        go_wp2
        go_ret
        exact ⟨ret_bool (by simp), hB_5.out⟩
set_option maxHeartbeats 1000000 in
theorem walk_FnDropBackSwap (a0 : Option Addr) (len cap : Nat) (zs : List Int) (w : World) (h0 : Ints .u8 w w.heap.size a0 len zs) (hc : len ≤ cap) :
    Calls Try.prog 4 #[.slice a0 len cap] w fun e w' => e = .returned (.bool true) ∧ Below w.heap.size w w' := by
  by_cases hl : len ≤ 1048576
  case neg =>
    go_enter Try.func4, Try.ntmps4
    go_wp2
    go_ret
    exact ⟨rfl, Below.refl _ _⟩
  case pos =>
    go_enter Try.func4, Try.ntmps4
    go_wp2_with fail
    refine (drawDropBack_any a0 len cap zs _ h0 hc).mono ?_
    rintro e W0 ⟨A, n, c, B, m, d, xs, ys, v, rfl, hN⟩
    clear h0
    have hF_0 := hide hN.buf
    have hB_0 := hide hN.2.2.2.2.2.2.2.2.2.2
    have hz0 := hB_0.out.size
    clear hN
    have hxl : xs.length = n := hF_0.out.1.1
    have hyl : ys.length = m := hF_0.out.2.1.1
    have hlen := hide (dropS_len xs ys v)
    have he1 := bufEq_self (dropS xs ys v).xs (dropS xs ys v).ys (dropS xs ys v).v
    go_wp2_with fail
    refine (implDrop_any W0.heap.size A n c B m d xs ys v _ (hF_0.out.below (alB _ _) (Nat.le_refl _)) (by simp)).mono ?_
    rintro e W1 ⟨A1, n1, c1, B1, m1, d1, rfl, ht⟩
    have hb := ht.2.2.2.2.1
    have hbb := (alB W0 (.cells #[.slice A n c, .slice B m d, .int .i64 v] 25)).trans (hb.mono (by simp))
    have hF_1 := hide (hF_0.out.below hbb (Nat.le_refl _))
    have hG_1 := hide (ht.buf' hlen.out.1 hlen.out.2)
    have hB_1 := hide (hB_0.out.trans (hbb.mono hz0))
    obtain ⟨b0_1, b1_1, b2_1, _, _, _⟩ := AnyOp.cellsOf ((hb.block W0.heap.size (by simp)).trans (heap_alloc_new W0 _))
    have hz1 : W0.heap.size < W1.heap.size := by have := hb.size; simp at this; omega
    clear hb hbb ht hF_0 hB_0
    go_wp2_with fail
    refine (specDrop_any W0.heap.size A n c B m d xs ys v _ (hF_1.out.below (alB _ _) (by omega)) (by simp; omega)).mono ?_
    rintro e W2 ⟨A2, n2, c2, B2, m2, d2, rfl, ht⟩
    have hb := ht.2.2.2.2.1
    have hbb := (alB W1 (.cells #[.slice A1 n1 c1, .slice B1 m1 d1, .int .i64 (dropS xs ys v).v] 25)).trans (hb.mono (by simp))
    have hH_2 := hide (ht.buf' hlen.out.1 hlen.out.2)
    have hF_2 := hide (hF_1.out.below hbb (by omega))
    have hG_2 := hide (hG_1.out.below hbb (by omega))
    have hB_2 := hide (hB_1.out.trans (hbb.mono (by omega)))
    have b0_2 := (hbb.cell (p := ⟨W0.heap.size, 0, none⟩) hz1).trans b0_1
    have b1_2 := (hbb.cell (p := ⟨W0.heap.size, 1, none⟩) hz1).trans b1_1
    have b2_2 := (hbb.cell (p := ⟨W0.heap.size, 2, none⟩) hz1).trans b2_1
    obtain ⟨g0_2, g1_2, g2_2, _, _, _⟩ := AnyOp.cellsOf ((hb.block W1.heap.size (by simp)).trans (heap_alloc_new W1 _))
    have hz2 : W1.heap.size < W2.heap.size := by have := hb.size; simp at this; omega
    clear hb hbb ht hF_1 hG_1 hB_1 b0_1 b1_1 b2_1
    go_wp2_with fail
    have hGa := hide (hG_2.out.below (alB W2 (.cells #[.slice A2 n2 c2, .slice B2 m2 d2, .int .i64 (dropS xs ys v).v] 25)) (by omega))
    have hHa := hide (hH_2.out.below (alB W2 (.cells #[.slice A2 n2 c2, .slice B2 m2 d2, .int .i64 (dropS xs ys v).v] 25)) (Nat.le_refl _))
    refine (equalBuffers_any W1.heap.size W2.heap.size A1 n1 c1 B1 m1 d1 A2 n2 c2 B2 m2 d2 _ _ _ _ _ _ _ hGa.out.1 hGa.out.2.1 hHa.out.1 hHa.out.2.1 (by simp; omega) (by simp) (by have := hGa.out.2.2.1; omega) (by have := hGa.out.2.2.2.1; omega) (by have := hHa.out.2.2.1; omega) (by have := hHa.out.2.2.2.1; omega)).mono ?_
    rintro e W3 ⟨rfl, hb'⟩
    rw [he1]
    clear hGa hHa
    obtain ⟨h0_3, h1_3, h2_3, _, _, _⟩ := AnyOp.cellsOf ((hb'.block W2.heap.size (by simp)).trans (heap_alloc_new W2 _))
    have hb := (alB W2 (.cells #[.slice A2 n2 c2, .slice B2 m2 d2, .int .i64 (dropS xs ys v).v] 25)).trans (hb'.mono (by simp))
    have hz3' : W2.heap.size < W3.heap.size := by have := hb'.size; simp at this; omega
    clear hb'
    have hF_3 := hide (hF_2.out.below hb (by omega))
    have hG_3 := hide (hG_2.out.below hb (by omega))
    have hH_3 := hide (hH_2.out.below hb (by omega))
    have hB_3 := hide (hB_2.out.trans (hb.mono (by omega)))
    have b0_3 := (hb.cell (p := ⟨W0.heap.size, 0, none⟩) (by show W0.heap.size < W2.heap.size; omega)).trans b0_2
    have b1_3 := (hb.cell (p := ⟨W0.heap.size, 1, none⟩) (by show W0.heap.size < W2.heap.size; omega)).trans b1_2
    have b2_3 := (hb.cell (p := ⟨W0.heap.size, 2, none⟩) (by show W0.heap.size < W2.heap.size; omega)).trans b2_2
    have g0_3 := (hb.cell (p := ⟨W1.heap.size, 0, none⟩) (by show W1.heap.size < W2.heap.size; omega)).trans g0_2
    have g1_3 := (hb.cell (p := ⟨W1.heap.size, 1, none⟩) (by show W1.heap.size < W2.heap.size; omega)).trans g1_2
    have g2_3 := (hb.cell (p := ⟨W1.heap.size, 2, none⟩) (by show W1.heap.size < W2.heap.size; omega)).trans g2_2
    have hz3 := hb.size
    clear hb hF_2 hG_2 hH_2 hB_2 b0_2 b1_2 b2_2 g0_2 g1_2 g2_2
    by_cases hok : (dropS xs ys v).ok = true
    case neg =>
      rw [Bool.not_eq_true] at hok
      rw [hok]
      go_wp2_with fail
      refine (equalBuffers_any W1.heap.size W2.heap.size A1 n1 c1 B1 m1 d1 A2 n2 c2 B2 m2 d2 _ _ _ _ _ _ _ hG_3.out.1 hG_3.out.2.1 hH_3.out.1 hH_3.out.2.1 (by omega) (by omega) (by have := hG_3.out.2.2.1; omega) (by have := hG_3.out.2.2.2.1; omega) (by have := hH_3.out.2.2.1; omega) (by have := hH_3.out.2.2.2.1; omega)).mono ?_
      rintro e W4 ⟨rfl, hb⟩
      rw [he1]
      have hF_4 := hide (hF_3.out.below hb (by omega))
      have hG_4 := hide (hG_3.out.below hb (by omega))
      have hH_4 := hide (hH_3.out.below hb (by omega))
      have hB_4 := hide (hB_3.out.trans (hb.mono (by omega)))
      have b0_4 := (hb.cell (p := ⟨W0.heap.size, 0, none⟩) (by show W0.heap.size < W3.heap.size; omega)).trans b0_3
      have b1_4 := (hb.cell (p := ⟨W0.heap.size, 1, none⟩) (by show W0.heap.size < W3.heap.size; omega)).trans b1_3
      have b2_4 := (hb.cell (p := ⟨W0.heap.size, 2, none⟩) (by show W0.heap.size < W3.heap.size; omega)).trans b2_3
      have g0_4 := (hb.cell (p := ⟨W1.heap.size, 0, none⟩) (by show W1.heap.size < W3.heap.size; omega)).trans g0_3
      have g1_4 := (hb.cell (p := ⟨W1.heap.size, 1, none⟩) (by show W1.heap.size < W3.heap.size; omega)).trans g1_3
      have g2_4 := (hb.cell (p := ⟨W1.heap.size, 2, none⟩) (by show W1.heap.size < W3.heap.size; omega)).trans g2_3
      have h0_4 := (hb.cell (p := ⟨W2.heap.size, 0, none⟩) (by show W2.heap.size < W3.heap.size; omega)).trans h0_3
      have h1_4 := (hb.cell (p := ⟨W2.heap.size, 1, none⟩) (by show W2.heap.size < W3.heap.size; omega)).trans h1_3
      have h2_4 := (hb.cell (p := ⟨W2.heap.size, 2, none⟩) (by show W2.heap.size < W3.heap.size; omega)).trans h2_3
      have hz4 := hb.size
      clear hb hF_3 hG_3 hH_3 hB_3 b0_3 b1_3 b2_3 g0_3 g1_3 g2_3 h0_3 h1_3 h2_3
      go_wp2
      go_ret
      exact ⟨ret_bool (by simp), hB_4.out⟩
    case pos =>
      have hv : validB xs ys v = true := by
        unfold dropS at hok; split at hok
        · assumption
        · simp [noAns] at hok
      have hS : dropS xs ys v = ⟨xs, xs, v, true⟩ := if_pos hv
      have hv9 := (validB_iff.1 hv).2.2.2.2
      have hw : IntKind.i64.wrap (v + 1) = v + 1 := IntWalk.i64_in _ (by omega)
      have hvx := validB_twice' hv
      simp only [hS] at hG_3 g2_3 ⊢
      have bn1 := hG_3.out.2.2.1
      have bm1 := hG_3.out.2.2.2.1
      have bn := hF_3.out.2.2.1
      have bm := hF_3.out.2.2.2.1
      clear hS hH_3 h0_3 h1_3 h2_3
      by_cases hmx : v = 1000
      · subst hmx
        have hS2 : swapS xs xs 1000 = ⟨[], [], 0, false⟩ := if_neg (by simp)
        go_wp2_with fail
        refine (implSwap_any W1.heap.size A1 n1 c1 B1 m1 d1 xs xs 1000 _ hG_3.out (by omega)).mono ?_
        rintro e W4 ⟨A4, n4, c4, B4, m4, d4, rfl, ht⟩
        rw [hS2] at ht ⊢
        have hb : Below W3.heap.size W3 W4 := ht.2.2.2.2.1
        clear ht
        have hF_4 := hide (hF_3.out.below hb (by omega))
        have hG_4 := hide (hG_3.out.below hb (by omega))
        have hB_4 := hide (hB_3.out.trans (hb.mono (by omega)))
        have b0_4 := (hb.cell (p := ⟨W0.heap.size, 0, none⟩) (by show W0.heap.size < W3.heap.size; omega)).trans b0_3
        have b1_4 := (hb.cell (p := ⟨W0.heap.size, 1, none⟩) (by show W0.heap.size < W3.heap.size; omega)).trans b1_3
        have b2_4 := (hb.cell (p := ⟨W0.heap.size, 2, none⟩) (by show W0.heap.size < W3.heap.size; omega)).trans b2_3
        have g0_4 := (hb.cell (p := ⟨W1.heap.size, 0, none⟩) (by show W1.heap.size < W3.heap.size; omega)).trans g0_3
        have g1_4 := (hb.cell (p := ⟨W1.heap.size, 1, none⟩) (by show W1.heap.size < W3.heap.size; omega)).trans g1_3
        have g2_4 := (hb.cell (p := ⟨W1.heap.size, 2, none⟩) (by show W1.heap.size < W3.heap.size; omega)).trans g2_3
        have hz4 := hb.size
        clear hb hF_3 hG_3 hB_3 b0_3 b1_3 b2_3 g0_3 g1_3 g2_3
        have al_b0 := fun X => (World.cell?_alloc_lt W4 X ⟨W0.heap.size, 0, none⟩ (by show W0.heap.size < W4.heap.size; omega)).trans b0_4
        have al_b1 := fun X => (World.cell?_alloc_lt W4 X ⟨W0.heap.size, 1, none⟩ (by show W0.heap.size < W4.heap.size; omega)).trans b1_4
        have al_b2 := fun X => (World.cell?_alloc_lt W4 X ⟨W0.heap.size, 2, none⟩ (by show W0.heap.size < W4.heap.size; omega)).trans b2_4
        have al_g0 := fun X => (World.cell?_alloc_lt W4 X ⟨W1.heap.size, 0, none⟩ (by show W1.heap.size < W4.heap.size; omega)).trans g0_4
        have al_g1 := fun X => (World.cell?_alloc_lt W4 X ⟨W1.heap.size, 1, none⟩ (by show W1.heap.size < W4.heap.size; omega)).trans g1_4
        have al_g2 := fun X => (World.cell?_alloc_lt W4 X ⟨W1.heap.size, 2, none⟩ (by show W1.heap.size < W4.heap.size; omega)).trans g2_4
        go_wp2
        go_ret
        exact ⟨ret_bool (by simp), hB_4.out.trans ((alB W4 _).mono (by omega))⟩
      · have hS2 : swapS xs xs (v) = ⟨xs, xs, v + 1, true⟩ := if_pos ⟨hvx, hmx⟩
        have hlx := (validB_iff.1 hvx).1
        go_wp2_with fail
        refine (implSwap_any W1.heap.size A1 n1 c1 B1 m1 d1 xs xs (v) _ hG_3.out (by omega)).mono ?_
        rintro e W4 ⟨A4, n4, c4, B4, m4, d4, rfl, ht⟩
        rw [hS2] at ht ⊢
        have hb : Below W3.heap.size W3 W4 := ht.2.2.2.2.1
        have hD_4 := hide (ht.buf' (by show xs.length ≤ 16; omega) (by show xs.length ≤ 16; omega))
        clear ht
        have hF_4 := hide (hF_3.out.below hb (by omega))
        have hG_4 := hide (hG_3.out.below hb (by omega))
        have hB_4 := hide (hB_3.out.trans (hb.mono (by omega)))
        have b0_4 := (hb.cell (p := ⟨W0.heap.size, 0, none⟩) (by show W0.heap.size < W3.heap.size; omega)).trans b0_3
        have b1_4 := (hb.cell (p := ⟨W0.heap.size, 1, none⟩) (by show W0.heap.size < W3.heap.size; omega)).trans b1_3
        have b2_4 := (hb.cell (p := ⟨W0.heap.size, 2, none⟩) (by show W0.heap.size < W3.heap.size; omega)).trans b2_3
        have g0_4 := (hb.cell (p := ⟨W1.heap.size, 0, none⟩) (by show W1.heap.size < W3.heap.size; omega)).trans g0_3
        have g1_4 := (hb.cell (p := ⟨W1.heap.size, 1, none⟩) (by show W1.heap.size < W3.heap.size; omega)).trans g1_3
        have g2_4 := (hb.cell (p := ⟨W1.heap.size, 2, none⟩) (by show W1.heap.size < W3.heap.size; omega)).trans g2_3
        have hz4 := hb.size
        clear hb hF_3 hG_3 hB_3 b0_3 b1_3 b2_3 g0_3 g1_3 g2_3
        have al_b0 := fun X => (World.cell?_alloc_lt W4 X ⟨W0.heap.size, 0, none⟩ (by show W0.heap.size < W4.heap.size; omega)).trans b0_4
        have al_b1 := fun X => (World.cell?_alloc_lt W4 X ⟨W0.heap.size, 1, none⟩ (by show W0.heap.size < W4.heap.size; omega)).trans b1_4
        have al_b2 := fun X => (World.cell?_alloc_lt W4 X ⟨W0.heap.size, 2, none⟩ (by show W0.heap.size < W4.heap.size; omega)).trans b2_4
        have al_g0 := fun X => (World.cell?_alloc_lt W4 X ⟨W1.heap.size, 0, none⟩ (by show W1.heap.size < W4.heap.size; omega)).trans g0_4
        have al_g1 := fun X => (World.cell?_alloc_lt W4 X ⟨W1.heap.size, 1, none⟩ (by show W1.heap.size < W4.heap.size; omega)).trans g1_4
        have al_g2 := fun X => (World.cell?_alloc_lt W4 X ⟨W1.heap.size, 2, none⟩ (by show W1.heap.size < W4.heap.size; omega)).trans g2_4
        have bn4 := hD_4.out.2.2.1
        have hDa := hide (hD_4.out.below (alB W4 (.cells #[.slice A4 n4 c4, .slice B4 m4 d4, .int .i64 (v + 1)] 25)) (Nat.le_refl _))
        have hFa := hide (hF_4.out.below (alB W4 (.cells #[.slice A4 n4 c4, .slice B4 m4 d4, .int .i64 (v + 1)] 25)) (by omega))
        go_wp2_with fail
        refine (equalInts_any W4.heap.size W0.heap.size A4 A n4 n c4 c _ _ _ hDa.out.1 hFa.out.1 (by omega) (by omega)).mono ?_
        rintro e W5 ⟨rfl, hb'⟩
        rw [listEq_self xs]
        clear hDa hFa
        obtain ⟨e0_5, e1_5, e2_5, _, _, _⟩ := AnyOp.cellsOf ((hb'.block W4.heap.size (by simp)).trans (heap_alloc_new W4 _))
        have hb := (alB W4 (.cells #[.slice A4 n4 c4, .slice B4 m4 d4, .int .i64 (v + 1)] 25)).trans (hb'.mono (by simp))
        clear hb'
        clear al_b0 al_b1 al_b2 al_g0 al_g1 al_g2
        have hF_5 := hide (hF_4.out.below hb (by omega))
        have hG_5 := hide (hG_4.out.below hb (by omega))
        have hB_5 := hide (hB_4.out.trans (hb.mono (by omega)))
        have b0_5 := (hb.cell (p := ⟨W0.heap.size, 0, none⟩) (by show W0.heap.size < W4.heap.size; omega)).trans b0_4
        have b1_5 := (hb.cell (p := ⟨W0.heap.size, 1, none⟩) (by show W0.heap.size < W4.heap.size; omega)).trans b1_4
        have b2_5 := (hb.cell (p := ⟨W0.heap.size, 2, none⟩) (by show W0.heap.size < W4.heap.size; omega)).trans b2_4
        have g0_5 := (hb.cell (p := ⟨W1.heap.size, 0, none⟩) (by show W1.heap.size < W4.heap.size; omega)).trans g0_4
        have g1_5 := (hb.cell (p := ⟨W1.heap.size, 1, none⟩) (by show W1.heap.size < W4.heap.size; omega)).trans g1_4
        have g2_5 := (hb.cell (p := ⟨W1.heap.size, 2, none⟩) (by show W1.heap.size < W4.heap.size; omega)).trans g2_4
        have hz5 := hb.size
        clear hb hF_4 hG_4 hB_4 b0_4 b1_4 b2_4 g0_4 g1_4 g2_4
        have hmd : decide ((v) < 1000) = true := by simp; omega
        go_wp2
        go_ret
        exact ⟨ret_bool (by simp), hB_5.out⟩
end Go.Proofs.Ytndnhnekhlifjaa
