/- The drawn laws of SwapBuffers and DropBack. Conditions: none. -/
import Derived.Test.YtndnhnekhlifjaaLawBufV
namespace Go.Proofs.Ytndnhnekhlifjaa
open Go.RowKit
set_option linter.unusedVariables false
theorem validB_twice' {xs ys : List Int} {v : Int} (h : validB xs ys v = true) : validB xs xs v = true := by
  rw [validB_iff] at h ⊢
  exact ⟨h.1, rfl, h.2.2.1, h.2.2.1, h.2.2.2.2⟩
theorem TwoNew.buf' {xs ys : List Int} {w w' : World} {A B : Option Addr} {n c m d : Nat} (h : TwoNew xs ys w w' A n c B m d) (hx : xs.length ≤ 16) (hy : ys.length ≤ 16) : Buf w' w'.heap.size A n c B m d xs ys := by
  obtain ⟨a1, a2, b1, b2, hb, mid, m1, m2, rA, rB⟩ := h
  have h1 := rA.1
  have h2 := rB.1
  exact ⟨(rA.mono (Nat.le_refl _) m2).ints, (rB.mono m1 (Nat.le_refl _)).ints, by omega, by omega, a1, b1⟩
theorem pendTo_self (xs : List Int) : ∀ k, pendTo xs xs k = []
  | 0 => rfl
  | k + 1 => by simp [pendTo, pendTo_self xs k]
theorem pendS_self (xs : List Int) (v : Int) : pendS xs xs v = [] := by simp [pendS, pendTo_self]

set_option maxHeartbeats 1000000 in
theorem walk_FnSwapBuffers (a0 : Option Addr) (len cap : Nat) (zs : List Int) (w : World) (h0 : Ints .u8 w w.heap.size a0 len zs) (hc : len ≤ cap) :
    Calls Try.prog 6 #[.slice a0 len cap] w fun e w' => e = .returned (.bool true) ∧ Below w.heap.size w w' := by
  by_cases hl : len ≤ 1048576
  case neg =>
    go_enter Try.func6, Try.ntmps6
    go_wp2
    go_ret
    exact ⟨rfl, Below.refl _ _⟩
  case pos =>
    go_enter Try.func6, Try.ntmps6
    go_wp2_with fail
    refine (drawSwapBuffers_any a0 len cap zs _ h0 hc).mono ?_
    rintro e W0 ⟨A, n, c, B, m, d, xs, ys, v, rfl, hN⟩
    clear h0
    have hF_0 := hide hN.buf
    have hB_0 := hide hN.2.2.2.2.2.2.2.2.2.2
    have hz0 := hB_0.out.size
    clear hN
    have hxl : xs.length = n := hF_0.out.1.1
    have hyl : ys.length = m := hF_0.out.2.1.1
    have hlen := hide (swapS_len xs ys v)
    have he1 := bufEq_self (swapS xs ys v).xs (swapS xs ys v).ys (swapS xs ys v).v
    go_wp2_with fail
    refine (implSwap_any W0.heap.size A n c B m d xs ys v _ (hF_0.out.below (alB _ _) (Nat.le_refl _)) (by simp)).mono ?_
    rintro e W1 ⟨A1, n1, c1, B1, m1, d1, rfl, ht⟩
    have hb := ht.2.2.2.2.1
    have hbb := (alB W0 (.cells #[.slice A n c, .slice B m d, .int .i64 v] 25)).trans (hb.mono (by simp))
    have hF_1 := hide (hF_0.out.below hbb (Nat.le_refl _))
    have hG_1 := hide (ht.buf' hlen.out.1 hlen.out.2)
    have hB_1 := hide (hB_0.out.trans (hbb.mono hz0))
    obtain ⟨b0_1, b1_1, b2_1, _, _, _⟩ := AnyOp.cellsOf ((hb.block W0.heap.size (by simp)).trans (heap_alloc_new W0 _))
    have hz1 : W0.heap.size < W1.heap.size := by have := hb.size; simp at this; omega
    clear hb hbb ht hF_0 hB_0
    go_wp2_with fail
    refine (specSwap_any W0.heap.size A n c B m d xs ys v _ (hF_1.out.below (alB _ _) (by omega)) (by simp; omega)).mono ?_
    rintro e W2 ⟨A2, n2, c2, B2, m2, d2, rfl, ht⟩
    have hb := ht.2.2.2.2.1
    have hbb := (alB W1 (.cells #[.slice A1 n1 c1, .slice B1 m1 d1, .int .i64 (swapS xs ys v).v] 25)).trans (hb.mono (by simp))
    have hH_2 := hide (ht.buf' hlen.out.1 hlen.out.2)
    have hF_2 := hide (hF_1.out.below hbb (by omega))
    have hG_2 := hide (hG_1.out.below hbb (by omega))
    have hB_2 := hide (hB_1.out.trans (hbb.mono (by omega)))
    have b0_2 := (hbb.cell (p := ⟨W0.heap.size, 0, none⟩) hz1).trans b0_1
    have b1_2 := (hbb.cell (p := ⟨W0.heap.size, 1, none⟩) hz1).trans b1_1
    have b2_2 := (hbb.cell (p := ⟨W0.heap.size, 2, none⟩) hz1).trans b2_1
    obtain ⟨g0_2, g1_2, g2_2, _, _, _⟩ := AnyOp.cellsOf ((hb.block W1.heap.size (by simp)).trans (heap_alloc_new W1 _))
    have hz2 : W1.heap.size < W2.heap.size := by have := hb.size; simp at this; omega
    clear hb hbb ht hF_1 hG_1 hB_1 b0_1 b1_1 b2_1
    go_wp2_with fail
    have hGa := hide (hG_2.out.below (alB W2 (.cells #[.slice A2 n2 c2, .slice B2 m2 d2, .int .i64 (swapS xs ys v).v] 25)) (by omega))
    have hHa := hide (hH_2.out.below (alB W2 (.cells #[.slice A2 n2 c2, .slice B2 m2 d2, .int .i64 (swapS xs ys v).v] 25)) (Nat.le_refl _))
    refine (equalBuffers_any W1.heap.size W2.heap.size A1 n1 c1 B1 m1 d1 A2 n2 c2 B2 m2 d2 _ _ _ _ _ _ _ hGa.out.1 hGa.out.2.1 hHa.out.1 hHa.out.2.1 (by simp; omega) (by simp) (by have := hGa.out.2.2.1; omega) (by have := hGa.out.2.2.2.1; omega) (by have := hHa.out.2.2.1; omega) (by have := hHa.out.2.2.2.1; omega)).mono ?_
    rintro e W3 ⟨rfl, hb'⟩
    rw [he1]
    clear hGa hHa
    obtain ⟨h0_3, h1_3, h2_3, _, _, _⟩ := AnyOp.cellsOf ((hb'.block W2.heap.size (by simp)).trans (heap_alloc_new W2 _))
    have hb := (alB W2 (.cells #[.slice A2 n2 c2, .slice B2 m2 d2, .int .i64 (swapS xs ys v).v] 25)).trans (hb'.mono (by simp))
    have hz3' : W2.heap.size < W3.heap.size := by have := hb'.size; simp at this; omega
    clear hb'
    have hF_3 := hide (hF_2.out.below hb (by omega))
    have hG_3 := hide (hG_2.out.below hb (by omega))
    have hH_3 := hide (hH_2.out.below hb (by omega))
    have hB_3 := hide (hB_2.out.trans (hb.mono (by omega)))
    have b0_3 := (hb.cell (p := ⟨W0.heap.size, 0, none⟩) (by show W0.heap.size < W2.heap.size; omega)).trans b0_2
    have b1_3 := (hb.cell (p := ⟨W0.heap.size, 1, none⟩) (by show W0.heap.size < W2.heap.size; omega)).trans b1_2
    have b2_3 := (hb.cell (p := ⟨W0.heap.size, 2, none⟩) (by show W0.heap.size < W2.heap.size; omega)).trans b2_2
    have g0_3 := (hb.cell (p := ⟨W1.heap.size, 0, none⟩) (by show W1.heap.size < W2.heap.size; omega)).trans g0_2
    have g1_3 := (hb.cell (p := ⟨W1.heap.size, 1, none⟩) (by show W1.heap.size < W2.heap.size; omega)).trans g1_2
    have g2_3 := (hb.cell (p := ⟨W1.heap.size, 2, none⟩) (by show W1.heap.size < W2.heap.size; omega)).trans g2_2
    have hz3 := hb.size
    clear hb hF_2 hG_2 hH_2 hB_2 b0_2 b1_2 b2_2 g0_2 g1_2 g2_2
    by_cases hok : (swapS xs ys v).ok = true
    case neg =>
      rw [Bool.not_eq_true] at hok
      rw [hok]
      go_wp2_with fail
      refine (equalBuffers_any W1.heap.size W2.heap.size A1 n1 c1 B1 m1 d1 A2 n2 c2 B2 m2 d2 _ _ _ _ _ _ _ hG_3.out.1 hG_3.out.2.1 hH_3.out.1 hH_3.out.2.1 (by omega) (by omega) (by have := hG_3.out.2.2.1; omega) (by have := hG_3.out.2.2.2.1; omega) (by have := hH_3.out.2.2.1; omega) (by have := hH_3.out.2.2.2.1; omega)).mono ?_
      rintro e W4 ⟨rfl, hb⟩
      rw [he1]
      have hF_4 := hide (hF_3.out.below hb (by omega))
      have hG_4 := hide (hG_3.out.below hb (by omega))
      have hH_4 := hide (hH_3.out.below hb (by omega))
      have hB_4 := hide (hB_3.out.trans (hb.mono (by omega)))
      have b0_4 := (hb.cell (p := ⟨W0.heap.size, 0, none⟩) (by show W0.heap.size < W3.heap.size; omega)).trans b0_3
      have b1_4 := (hb.cell (p := ⟨W0.heap.size, 1, none⟩) (by show W0.heap.size < W3.heap.size; omega)).trans b1_3
      have b2_4 := (hb.cell (p := ⟨W0.heap.size, 2, none⟩) (by show W0.heap.size < W3.heap.size; omega)).trans b2_3
      have g0_4 := (hb.cell (p := ⟨W1.heap.size, 0, none⟩) (by show W1.heap.size < W3.heap.size; omega)).trans g0_3
      have g1_4 := (hb.cell (p := ⟨W1.heap.size, 1, none⟩) (by show W1.heap.size < W3.heap.size; omega)).trans g1_3
      have g2_4 := (hb.cell (p := ⟨W1.heap.size, 2, none⟩) (by show W1.heap.size < W3.heap.size; omega)).trans g2_3
      have h0_4 := (hb.cell (p := ⟨W2.heap.size, 0, none⟩) (by show W2.heap.size < W3.heap.size; omega)).trans h0_3
      have h1_4 := (hb.cell (p := ⟨W2.heap.size, 1, none⟩) (by show W2.heap.size < W3.heap.size; omega)).trans h1_3
      have h2_4 := (hb.cell (p := ⟨W2.heap.size, 2, none⟩) (by show W2.heap.size < W3.heap.size; omega)).trans h2_3
      have hz4 := hb.size
      clear hb hF_3 hG_3 hH_3 hB_3 b0_3 b1_3 b2_3 g0_3 g1_3 g2_3 h0_3 h1_3 h2_3
      go_wp2
      go_ret
      exact ⟨ret_bool (by simp), hB_4.out⟩
    case pos =>
      obtain ⟨hv, hv1⟩ : validB xs ys v = true ∧ v ≠ 1000 := by
        unfold swapS at hok; split at hok
        · assumption
        · simp [noAns] at hok
      have hS : swapS xs ys v = ⟨ys, ys, v + 1, true⟩ := if_pos ⟨hv, hv1⟩
      have hv9 := (validB_iff.1 hv).2.2.2.2
      have hw : IntKind.i64.wrap (v + 1) = v + 1 := IntWalk.i64_in _ (by omega)
      have hvy : validB ys ys (v + 1) = true := by
        have h := validB_iff.1 hv
        exact validB_iff.2 ⟨by omega, rfl, h.2.2.2.1, h.2.2.2.1, by omega, by omega⟩
      simp only [hS] at hG_3 g2_3 ⊢
      have bn1 := hG_3.out.2.2.1
      have bm1 := hG_3.out.2.2.2.1
      have bn := hF_3.out.2.2.1
      have bm := hF_3.out.2.2.2.1
      clear hS hH_3 h0_3 h1_3 h2_3
      go_wp2_with fail
      refine (equalInts_any W1.heap.size W0.heap.size A1 B n1 m c1 d _ _ _ hG_3.out.1 hF_3.out.2.1 (by omega) (by omega)).mono ?_
      rintro e W4 ⟨rfl, hb⟩
      rw [listEq_self ys]
      have hF_4 := hide (hF_3.out.below hb (by omega))
      have hG_4 := hide (hG_3.out.below hb (by omega))
      have hB_4 := hide (hB_3.out.trans (hb.mono (by omega)))
      have b0_4 := (hb.cell (p := ⟨W0.heap.size, 0, none⟩) (by show W0.heap.size < W3.heap.size; omega)).trans b0_3
      have b1_4 := (hb.cell (p := ⟨W0.heap.size, 1, none⟩) (by show W0.heap.size < W3.heap.size; omega)).trans b1_3
      have b2_4 := (hb.cell (p := ⟨W0.heap.size, 2, none⟩) (by show W0.heap.size < W3.heap.size; omega)).trans b2_3
      have g0_4 := (hb.cell (p := ⟨W1.heap.size, 0, none⟩) (by show W1.heap.size < W3.heap.size; omega)).trans g0_3
      have g1_4 := (hb.cell (p := ⟨W1.heap.size, 1, none⟩) (by show W1.heap.size < W3.heap.size; omega)).trans g1_3
      have g2_4 := (hb.cell (p := ⟨W1.heap.size, 2, none⟩) (by show W1.heap.size < W3.heap.size; omega)).trans g2_3
      have hz4 := hb.size
      clear hb hF_3 hG_3 hB_3 b0_3 b1_3 b2_3 g0_3 g1_3 g2_3
      go_wp2_with fail
      refine (implPend_any W1.heap.size A1 n1 c1 B1 m1 d1 ys ys (v + 1) _ hG_4.out (by omega)).mono ?_
      rintro e W5 ⟨pA, pn, pc, rfl, _, _, hp, hb⟩
      have hpn : pn = 0 := by have h := hp.1; rw [pendS_self] at h; exact h.symm
      subst hpn
      clear hp
      have hF_5 := hide (hF_4.out.below hb (by omega))
      have hG_5 := hide (hG_4.out.below hb (by omega))
      have hB_5 := hide (hB_4.out.trans (hb.mono (by omega)))
      have b0_5 := (hb.cell (p := ⟨W0.heap.size, 0, none⟩) (by show W0.heap.size < W4.heap.size; omega)).trans b0_4
      have b1_5 := (hb.cell (p := ⟨W0.heap.size, 1, none⟩) (by show W0.heap.size < W4.heap.size; omega)).trans b1_4
      have b2_5 := (hb.cell (p := ⟨W0.heap.size, 2, none⟩) (by show W0.heap.size < W4.heap.size; omega)).trans b2_4
      have g0_5 := (hb.cell (p := ⟨W1.heap.size, 0, none⟩) (by show W1.heap.size < W4.heap.size; omega)).trans g0_4
      have g1_5 := (hb.cell (p := ⟨W1.heap.size, 1, none⟩) (by show W1.heap.size < W4.heap.size; omega)).trans g1_4
      have g2_5 := (hb.cell (p := ⟨W1.heap.size, 2, none⟩) (by show W1.heap.size < W4.heap.size; omega)).trans g2_4
      have hz5 := hb.size
      clear hb hF_4 hG_4 hB_4 b0_4 b1_4 b2_4 g0_4 g1_4 g2_4
      go_wp2_with fail
      refine (implValid_any W1.heap.size A1 n1 c1 B1 m1 d1 ys ys (v + 1) _ hG_5.out (by omega)).mono ?_
      rintro e W6 ⟨rfl, hb⟩
      rw [hvy]
      have hB_6 := hide (hB_5.out.trans (hb.mono (by omega)))
      clear hb
      go_wp2
      go_ret
      exact ⟨ret_bool (by simp), hB_6.out⟩
set_option maxHeartbeats 1000000 in
theorem walk_FnDropBack (a0 : Option Addr) (len cap : Nat) (zs : List Int) (w : World) (h0 : Ints .u8 w w.heap.size a0 len zs) (hc : len ≤ cap) :
    Calls Try.prog 5 #[.slice a0 len cap] w fun e w' => e = .returned (.bool true) ∧ Below w.heap.size w w' := by
  by_cases hl : len ≤ 1048576
  case neg =>
    go_enter Try.func5, Try.ntmps5
    go_wp2
    go_ret
    exact ⟨rfl, Below.refl _ _⟩
  case pos =>
    go_enter Try.func5, Try.ntmps5
    go_wp2_with fail
    refine (drawDropBack_any a0 len cap zs _ h0 hc).mono ?_
    rintro e W0 ⟨A, n, c, B, m, d, xs, ys, v, rfl, hN⟩
    clear h0
    have hF_0 := hide hN.buf
    have hB_0 := hide hN.2.2.2.2.2.2.2.2.2.2
    have hz0 := hB_0.out.size
    clear hN
    have hxl : xs.length = n := hF_0.out.1.1
    have hyl : ys.length = m := hF_0.out.2.1.1
    have hlen := hide (dropS_len xs ys v)
    have he1 := bufEq_self (dropS xs ys v).xs (dropS xs ys v).ys (dropS xs ys v).v
    go_wp2_with fail
    refine (implDrop_any W0.heap.size A n c B m d xs ys v _ (hF_0.out.below (alB _ _) (Nat.le_refl _)) (by simp)).mono ?_
    rintro e W1 ⟨A1, n1, c1, B1, m1, d1, rfl, ht⟩
    have hb := ht.2.2.2.2.1
    have hbb := (alB W0 (.cells #[.slice A n c, .slice B m d, .int .i64 v] 25)).trans (hb.mono (by simp))
    have hF_1 := hide (hF_0.out.below hbb (Nat.le_refl _))
    have hG_1 := hide (ht.buf' hlen.out.1 hlen.out.2)
    have hB_1 := hide (hB_0.out.trans (hbb.mono hz0))
    obtain ⟨b0_1, b1_1, b2_1, _, _, _⟩ := AnyOp.cellsOf ((hb.block W0.heap.size (by simp)).trans (heap_alloc_new W0 _))
    have hz1 : W0.heap.size < W1.heap.size := by have := hb.size; simp at this; omega
    clear hb hbb ht hF_0 hB_0
    go_wp2_with fail
    refine (specDrop_any W0.heap.size A n c B m d xs ys v _ (hF_1.out.below (alB _ _) (by omega)) (by simp; omega)).mono ?_
    rintro e W2 ⟨A2, n2, c2, B2, m2, d2, rfl, ht⟩
    have hb := ht.2.2.2.2.1
    have hbb := (alB W1 (.cells #[.slice A1 n1 c1, .slice B1 m1 d1, .int .i64 (dropS xs ys v).v] 25)).trans (hb.mono (by simp))
    have hH_2 := hide (ht.buf' hlen.out.1 hlen.out.2)
    have hF_2 := hide (hF_1.out.below hbb (by omega))
    have hG_2 := hide (hG_1.out.below hbb (by omega))
    have hB_2 := hide (hB_1.out.trans (hbb.mono (by omega)))
    have b0_2 := (hbb.cell (p := ⟨W0.heap.size, 0, none⟩) hz1).trans b0_1
    have b1_2 := (hbb.cell (p := ⟨W0.heap.size, 1, none⟩) hz1).trans b1_1
    have b2_2 := (hbb.cell (p := ⟨W0.heap.size, 2, none⟩) hz1).trans b2_1
    obtain ⟨g0_2, g1_2, g2_2, _, _, _⟩ := AnyOp.cellsOf ((hb.block W1.heap.size (by simp)).trans (heap_alloc_new W1 _))
    have hz2 : W1.heap.size < W2.heap.size := by have := hb.size; simp at this; omega
    clear hb hbb ht hF_1 hG_1 hB_1 b0_1 b1_1 b2_1
    go_wp2_with fail
    have hGa := hide (hG_2.out.below (alB W2 (.cells #[.slice A2 n2 c2, .slice B2 m2 d2, .int .i64 (dropS xs ys v).v] 25)) (by omega))
    have hHa := hide (hH_2.out.below (alB W2 (.cells #[.slice A2 n2 c2, .slice B2 m2 d2, .int .i64 (dropS xs ys v).v] 25)) (Nat.le_refl _))
    refine (equalBuffers_any W1.heap.size W2.heap.size A1 n1 c1 B1 m1 d1 A2 n2 c2 B2 m2 d2 _ _ _ _ _ _ _ hGa.out.1 hGa.out.2.1 hHa.out.1 hHa.out.2.1 (by simp; omega) (by simp) (by have := hGa.out.2.2.1; omega) (by have := hGa.out.2.2.2.1; omega) (by have := hHa.out.2.2.1; omega) (by have := hHa.out.2.2.2.1; omega)).mono ?_
    rintro e W3 ⟨rfl, hb'⟩
    rw [he1]
    clear hGa hHa
    obtain ⟨h0_3, h1_3, h2_3, _, _, _⟩ := AnyOp.cellsOf ((hb'.block W2.heap.size (by simp)).trans (heap_alloc_new W2 _))
    have hb := (alB W2 (.cells #[.slice A2 n2 c2, .slice B2 m2 d2, .int .i64 (dropS xs ys v).v] 25)).trans (hb'.mono (by simp))
    have hz3' : W2.heap.size < W3.heap.size := by have := hb'.size; simp at this; omega
    clear hb'
    have hF_3 := hide (hF_2.out.below hb (by omega))
    have hG_3 := hide (hG_2.out.below hb (by omega))
    have hH_3 := hide (hH_2.out.below hb (by omega))
    have hB_3 := hide (hB_2.out.trans (hb.mono (by omega)))
    have b0_3 := (hb.cell (p := ⟨W0.heap.size, 0, none⟩) (by show W0.heap.size < W2.heap.size; omega)).trans b0_2
    have b1_3 := (hb.cell (p := ⟨W0.heap.size, 1, none⟩) (by show W0.heap.size < W2.heap.size; omega)).trans b1_2
    have b2_3 := (hb.cell (p := ⟨W0.heap.size, 2, none⟩) (by show W0.heap.size < W2.heap.size; omega)).trans b2_2
    have g0_3 := (hb.cell (p := ⟨W1.heap.size, 0, none⟩) (by show W1.heap.size < W2.heap.size; omega)).trans g0_2
    have g1_3 := (hb.cell (p := ⟨W1.heap.size, 1, none⟩) (by show W1.heap.size < W2.heap.size; omega)).trans g1_2
    have g2_3 := (hb.cell (p := ⟨W1.heap.size, 2, none⟩) (by show W1.heap.size < W2.heap.size; omega)).trans g2_2
    have hz3 := hb.size
    clear hb hF_2 hG_2 hH_2 hB_2 b0_2 b1_2 b2_2 g0_2 g1_2 g2_2
    by_cases hok : (dropS xs ys v).ok = true
    case neg =>
      rw [Bool.not_eq_true] at hok
      rw [hok]
      go_wp2_with fail
      refine (equalBuffers_any W1.heap.size W2.heap.size A1 n1 c1 B1 m1 d1 A2 n2 c2 B2 m2 d2 _ _ _ _ _ _ _ hG_3.out.1 hG_3.out.2.1 hH_3.out.1 hH_3.out.2.1 (by omega) (by omega) (by have := hG_3.out.2.2.1; omega) (by have := hG_3.out.2.2.2.1; omega) (by have := hH_3.out.2.2.1; omega) (by have := hH_3.out.2.2.2.1; omega)).mono ?_
      rintro e W4 ⟨rfl, hb⟩
      rw [he1]
      have hF_4 := hide (hF_3.out.below hb (by omega))
      have hG_4 := hide (hG_3.out.below hb (by omega))
      have hH_4 := hide (hH_3.out.below hb (by omega))
      have hB_4 := hide (hB_3.out.trans (hb.mono (by omega)))
      have b0_4 := (hb.cell (p := ⟨W0.heap.size, 0, none⟩) (by show W0.heap.size < W3.heap.size; omega)).trans b0_3
      have b1_4 := (hb.cell (p := ⟨W0.heap.size, 1, none⟩) (by show W0.heap.size < W3.heap.size; omega)).trans b1_3
      have b2_4 := (hb.cell (p := ⟨W0.heap.size, 2, none⟩) (by show W0.heap.size < W3.heap.size; omega)).trans b2_3
      have g0_4 := (hb.cell (p := ⟨W1.heap.size, 0, none⟩) (by show W1.heap.size < W3.heap.size; omega)).trans g0_3
      have g1_4 := (hb.cell (p := ⟨W1.heap.size, 1, none⟩) (by show W1.heap.size < W3.heap.size; omega)).trans g1_3
      have g2_4 := (hb.cell (p := ⟨W1.heap.size, 2, none⟩) (by show W1.heap.size < W3.heap.size; omega)).trans g2_3
      have h0_4 := (hb.cell (p := ⟨W2.heap.size, 0, none⟩) (by show W2.heap.size < W3.heap.size; omega)).trans h0_3
      have h1_4 := (hb.cell (p := ⟨W2.heap.size, 1, none⟩) (by show W2.heap.size < W3.heap.size; omega)).trans h1_3
      have h2_4 := (hb.cell (p := ⟨W2.heap.size, 2, none⟩) (by show W2.heap.size < W3.heap.size; omega)).trans h2_3
      have hz4 := hb.size
      clear hb hF_3 hG_3 hH_3 hB_3 b0_3 b1_3 b2_3 g0_3 g1_3 g2_3 h0_3 h1_3 h2_3
      go_wp2
      go_ret
      exact ⟨ret_bool (by simp), hB_4.out⟩
    case pos =>
      have hv : validB xs ys v = true := by
        unfold dropS at hok; split at hok
        · assumption
        · simp [noAns] at hok
      have hS : dropS xs ys v = ⟨xs, xs, v, true⟩ := if_pos hv
      have hv9 := (validB_iff.1 hv).2.2.2.2
      have hw : IntKind.i64.wrap (v + 1) = v + 1 := IntWalk.i64_in _ (by omega)
      have hvx := validB_twice' hv
      simp only [hS] at hG_3 g2_3 ⊢
      have bn1 := hG_3.out.2.2.1
      have bm1 := hG_3.out.2.2.2.1
      have bn := hF_3.out.2.2.1
      have bm := hF_3.out.2.2.2.1
      clear hS hH_3 h0_3 h1_3 h2_3
      go_wp2_with fail
      refine (equalInts_any W1.heap.size W0.heap.size A1 A n1 n c1 c _ _ _ hG_3.out.1 hF_3.out.1 (by omega) (by omega)).mono ?_
      rintro e W4 ⟨rfl, hb⟩
      rw [listEq_self xs]
      have hF_4 := hide (hF_3.out.below hb (by omega))
      have hG_4 := hide (hG_3.out.below hb (by omega))
      have hB_4 := hide (hB_3.out.trans (hb.mono (by omega)))
      have b0_4 := (hb.cell (p := ⟨W0.heap.size, 0, none⟩) (by show W0.heap.size < W3.heap.size; omega)).trans b0_3
      have b1_4 := (hb.cell (p := ⟨W0.heap.size, 1, none⟩) (by show W0.heap.size < W3.heap.size; omega)).trans b1_3
      have b2_4 := (hb.cell (p := ⟨W0.heap.size, 2, none⟩) (by show W0.heap.size < W3.heap.size; omega)).trans b2_3
      have g0_4 := (hb.cell (p := ⟨W1.heap.size, 0, none⟩) (by show W1.heap.size < W3.heap.size; omega)).trans g0_3
      have g1_4 := (hb.cell (p := ⟨W1.heap.size, 1, none⟩) (by show W1.heap.size < W3.heap.size; omega)).trans g1_3
      have g2_4 := (hb.cell (p := ⟨W1.heap.size, 2, none⟩) (by show W1.heap.size < W3.heap.size; omega)).trans g2_3
      have hz4 := hb.size
      clear hb hF_3 hG_3 hB_3 b0_3 b1_3 b2_3 g0_3 g1_3 g2_3
      go_wp2_with fail
      refine (equalInts_any W1.heap.size W0.heap.size B1 A m1 n d1 c _ _ _ hG_4.out.2.1 hF_4.out.1 (by omega) (by omega)).mono ?_
      rintro e W5 ⟨rfl, hb⟩
      rw [listEq_self xs]
      have hF_5 := hide (hF_4.out.below hb (by omega))
      have hG_5 := hide (hG_4.out.below hb (by omega))
      have hB_5 := hide (hB_4.out.trans (hb.mono (by omega)))
      have b0_5 := (hb.cell (p := ⟨W0.heap.size, 0, none⟩) (by show W0.heap.size < W4.heap.size; omega)).trans b0_4
      have b1_5 := (hb.cell (p := ⟨W0.heap.size, 1, none⟩) (by show W0.heap.size < W4.heap.size; omega)).trans b1_4
      have b2_5 := (hb.cell (p := ⟨W0.heap.size, 2, none⟩) (by show W0.heap.size < W4.heap.size; omega)).trans b2_4
      have g0_5 := (hb.cell (p := ⟨W1.heap.size, 0, none⟩) (by show W1.heap.size < W4.heap.size; omega)).trans g0_4
      have g1_5 := (hb.cell (p := ⟨W1.heap.size, 1, none⟩) (by show W1.heap.size < W4.heap.size; omega)).trans g1_4
      have g2_5 := (hb.cell (p := ⟨W1.heap.size, 2, none⟩) (by show W1.heap.size < W4.heap.size; omega)).trans g2_4
      have hz5 := hb.size
      clear hb hF_4 hG_4 hB_4 b0_4 b1_4 b2_4 g0_4 g1_4 g2_4
      go_wp2_with fail
      refine (implPend_any W1.heap.size A1 n1 c1 B1 m1 d1 xs xs (v) _ hG_5.out (by omega)).mono ?_
      rintro e W6 ⟨pA, pn, pc, rfl, _, _, hp, hb⟩
      have hpn : pn = 0 := by have h := hp.1; rw [pendS_self] at h; exact h.symm
      subst hpn
      clear hp
      have hF_6 := hide (hF_5.out.below hb (by omega))
      have hG_6 := hide (hG_5.out.below hb (by omega))
      have hB_6 := hide (hB_5.out.trans (hb.mono (by omega)))
      have b0_6 := (hb.cell (p := ⟨W0.heap.size, 0, none⟩) (by show W0.heap.size < W5.heap.size; omega)).trans b0_5
      have b1_6 := (hb.cell (p := ⟨W0.heap.size, 1, none⟩) (by show W0.heap.size < W5.heap.size; omega)).trans b1_5
      have b2_6 := (hb.cell (p := ⟨W0.heap.size, 2, none⟩) (by show W0.heap.size < W5.heap.size; omega)).trans b2_5
      have g0_6 := (hb.cell (p := ⟨W1.heap.size, 0, none⟩) (by show W1.heap.size < W5.heap.size; omega)).trans g0_5
      have g1_6 := (hb.cell (p := ⟨W1.heap.size, 1, none⟩) (by show W1.heap.size < W5.heap.size; omega)).trans g1_5
      have g2_6 := (hb.cell (p := ⟨W1.heap.size, 2, none⟩) (by show W1.heap.size < W5.heap.size; omega)).trans g2_5
      have hz6 := hb.size
      clear hb hF_5 hG_5 hB_5 b0_5 b1_5 b2_5 g0_5 g1_5 g2_5
      go_wp2
      go_ret
      exact ⟨ret_bool (by simp), hB_6.out⟩
end Go.Proofs.Ytndnhnekhlifjaa
