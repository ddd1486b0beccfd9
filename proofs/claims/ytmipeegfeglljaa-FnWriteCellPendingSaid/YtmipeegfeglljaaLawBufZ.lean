/- The drawn laws of WriteCell and FnSwapBuffersRead. Conditions: none. -/
import Derived.Test.YtmipeegfeglljaaLawBufX
import Derived.Test.YtmipeegfeglljaaSpecWrite
import Derived.Test.YtmipeegfeglljaaDrawW
namespace Go.Proofs.Ytmipeegfeglljaa
open Go.RowKit
set_option linter.unusedVariables false
theorem validB_set {xs ys : List Int} {v x : Int} {j : Nat} (h : validB xs ys v = true) (h0 : -10000 ≤ x) (h1 : x ≤ 10000) : validB xs (ys.set j x) v = true := by
  rw [validB_iff] at h ⊢
  refine ⟨h.1, by rw [List.length_set]; exact h.2.1, h.2.2.1, ?_, h.2.2.2.2⟩
  rw [inAll_iff]
  intro y hy
  rcases List.mem_or_eq_of_mem_set hy with hy | rfl
  · exact inAll_iff.1 h.2.2.2.1 y hy
  · exact ⟨h0, h1⟩
theorem writeS_ok {xs ys : List Int} {v i x : Int} (h : (writeS xs ys v i x).ok = true) : validB xs ys v = true ∧ 0 ≤ i ∧ i ≤ (xs.length : Int) - 1 ∧ -10000 ≤ x ∧ x ≤ 10000 := by
  unfold writeS at h
  split at h
  · rename_i h1
    rw [Bool.and_eq_true, inR_iff, inR_iff] at h1
    exact ⟨h1.1.1, h1.1.2.1, h1.1.2.2, h1.2.1, h1.2.2⟩
  · simp [noAns] at h
theorem writeS_of {xs ys : List Int} {v x : Int} {j : Nat} (h : validB xs ys v = true) (hj : j < xs.length) (h0 : -10000 ≤ x) (h1 : x ≤ 10000) : writeS xs ys v j x = ⟨xs, ys.set j x, v, true⟩ := by
  unfold writeS
  rw [if_pos, Int.toNat_natCast]
  rw [Bool.and_eq_true, inR_iff, inR_iff]
  exact ⟨⟨h, by omega, by omega⟩, h0, h1⟩
theorem readOk_of {xs ys : List Int} {v : Int} {j : Nat} (h : validB xs ys v = true) (hj : j < xs.length) : readOk xs ys v j = true := by
  simp only [readOk, Bool.and_eq_true, inR_iff]
  exact ⟨h, by omega, by omega⟩
theorem readV_at {xs ys : List Int} {v : Int} {j : Nat} (h : validB xs ys v = true) (hj : j < xs.length) : readV xs ys v j = xs.getD j 0 := by
  rw [readV, if_pos (readOk_of h hj)]; rfl
theorem hasI_pendTo {xs ys : List Int} (k n : Nat) : hasI (pendTo xs ys n) k = (decide (k < n) && decide (xs.getD k 0 ≠ ys.getD k 0)) := by
  rw [Bool.eq_iff_iff, hasI_iff]
  simp only [Bool.and_eq_true, decide_eq_true_eq]
  induction n with
  | zero => simp [pendTo]
  | succ n ih =>
    simp only [pendTo]
    split
    · rename_i h
      rw [ih]
      constructor
      · rintro ⟨h1, h2⟩; exact ⟨by omega, h2⟩
      · rintro ⟨h1, h2⟩
        refine ⟨?_, h2⟩
        rcases Nat.lt_or_ge k n with h3 | h3
        · exact h3
        · obtain rfl : k = n := by omega
          exact absurd h h2
    · rename_i h
      rw [List.mem_append, ih, List.mem_singleton]
      constructor
      · rintro (⟨h1, h2⟩ | h1)
        · exact ⟨by omega, h2⟩
        · obtain rfl : k = n := by omega
          exact ⟨by omega, h⟩
      · rintro ⟨h1, h2⟩
        by_cases h3 : k = n
        · subst h3; exact .inr rfl
        · exact .inl ⟨by omega, h2⟩
theorem hasI_pendS {xs ys : List Int} {v : Int} {k : Nat} (h : validB xs ys v = true) (hk : k < xs.length) : hasI (pendS xs ys v) k = decide (xs.getD k 0 ≠ ys.getD k 0) := by
  rw [pendS, if_pos h, hasI_pendTo]
  simp [hk]
theorem pendS_len (xs ys : List Int) (v : Int) : (pendS xs ys v).length ≤ xs.length := by
  unfold pendS; split
  · exact pendTo_len _ _ _
  · simp

set_option maxHeartbeats 1000000 in
theorem walk_FnWriteCellOrder (a0 : Option Addr) (len cap : Nat) (zs : List Int) (w : World) (h0 : Ints .u8 w w.heap.size a0 len zs) (hc : len ≤ cap) :
    Calls Try.prog 3 #[.slice a0 len cap] w fun e w' => e = .returned (.bool true) ∧ Below w.heap.size w w' := by
  by_cases hl : len ≤ 1048576
  case neg =>
    go_enter Try.func3, Try.ntmps3
    go_wp2
    go_ret
    exact ⟨rfl, Below.refl _ _⟩
  case pos =>
    go_enter Try.func3, Try.ntmps3
    go_wp2_with fail
    refine (drawWriteCell_any a0 len cap zs _ h0 hc).mono ?_
    rintro e W0 ⟨A, n, c, B, m, d, xs, ys, v, i, x, rfl, hi0, hi1, hx0, hx1, hN⟩
    clear h0
    have hF_0 := hide hN.buf
    have hB_0 := hide hN.2.2.2.2.2.2.2.2.2.2
    have hz0 := hB_0.out.size
    clear hN
    have hxl : xs.length = n := hF_0.out.1.1
    have hyl : ys.length = m := hF_0.out.2.1.1
    have hlen := hide (writeS_len xs ys v i x)
    have he1 := bufEq_self (writeS xs ys v i x).xs (writeS xs ys v i x).ys (writeS xs ys v i x).v
    go_wp2_with fail
    refine (implWrite_any W0.heap.size A n c B m d xs ys v i x _ (hF_0.out.below (alB _ _) (Nat.le_refl _)) (by simp)).mono ?_
    rintro e W1 ⟨A1, n1, c1, B1, m1, d1, rfl, ht⟩
    have hb := ht.2.2.2.2.1
    have hbb := (alB W0 (.cells #[.slice A n c, .slice B m d, .int .i64 v] 25)).trans (hb.mono (by simp))
    have hF_1 := hide (hF_0.out.below hbb (Nat.le_refl _))
    have hG_1 := hide (ht.buf' hlen.out.1 hlen.out.2)
    have hB_1 := hide (hB_0.out.trans (hbb.mono hz0))
    obtain ⟨b0_1, b1_1, b2_1, _, _, _⟩ := AnyOp.cellsOf ((hb.block W0.heap.size (by simp)).trans (heap_alloc_new W0 _))
    have hz1 : W0.heap.size < W1.heap.size := by have := hb.size; simp at this; omega
    clear hb hbb ht hF_0 hB_0
    go_wp2_with fail
    refine (specWrite_any W0.heap.size A n c B m d xs ys v i x _ (hF_1.out.below (alB _ _) (by omega)) (by simp; omega)).mono ?_
    rintro e W2 ⟨A2, n2, c2, B2, m2, d2, rfl, ht⟩
    have hb := ht.2.2.2.2.1
    have hbb := (alB W1 (.cells #[.slice A1 n1 c1, .slice B1 m1 d1, .int .i64 (writeS xs ys v i x).v] 25)).trans (hb.mono (by simp))
    have hH_2 := hide (ht.buf' hlen.out.1 hlen.out.2)
    have hF_2 := hide (hF_1.out.below hbb (by omega))
    have hG_2 := hide (hG_1.out.below hbb (by omega))
    have hB_2 := hide (hB_1.out.trans (hbb.mono (by omega)))
    have b0_2 := (hbb.cell (p := ⟨W0.heap.size, 0, none⟩) hz1).trans b0_1
    have b1_2 := (hbb.cell (p := ⟨W0.heap.size, 1, none⟩) hz1).trans b1_1
    have b2_2 := (hbb.cell (p := ⟨W0.heap.size, 2, none⟩) hz1).trans b2_1
    obtain ⟨g0_2, g1_2, g2_2, _, _, _⟩ := AnyOp.cellsOf ((hb.block W1.heap.size (by simp)).trans (heap_alloc_new W1 _))
    have hz2 : W1.heap.size < W2.heap.size := by have := hb.size; simp at this; omega
    clear hb hbb ht hF_1 hG_1 hB_1 b0_1 b1_1 b2_1
    go_wp2_with fail
    have hGa := hide (hG_2.out.below (alB W2 (.cells #[.slice A2 n2 c2, .slice B2 m2 d2, .int .i64 (writeS xs ys v i x).v] 25)) (by omega))
    have hHa := hide (hH_2.out.below (alB W2 (.cells #[.slice A2 n2 c2, .slice B2 m2 d2, .int .i64 (writeS xs ys v i x).v] 25)) (Nat.le_refl _))
    refine (equalBuffers_any W1.heap.size W2.heap.size A1 n1 c1 B1 m1 d1 A2 n2 c2 B2 m2 d2 _ _ _ _ _ _ _ hGa.out.1 hGa.out.2.1 hHa.out.1 hHa.out.2.1 (by simp; omega) (by simp) (by have := hGa.out.2.2.1; omega) (by have := hGa.out.2.2.2.1; omega) (by have := hHa.out.2.2.1; omega) (by have := hHa.out.2.2.2.1; omega)).mono ?_
    rintro e W3 ⟨rfl, hb'⟩
    rw [he1]
    clear hGa hHa
    obtain ⟨h0_3, h1_3, h2_3, _, _, _⟩ := AnyOp.cellsOf ((hb'.block W2.heap.size (by simp)).trans (heap_alloc_new W2 _))
    have hb := (alB W2 (.cells #[.slice A2 n2 c2, .slice B2 m2 d2, .int .i64 (writeS xs ys v i x).v] 25)).trans (hb'.mono (by simp))
    have hz3' : W2.heap.size < W3.heap.size := by have := hb'.size; simp at this; omega
    clear hb'
    have hF_3 := hide (hF_2.out.below hb (by omega))
    have hG_3 := hide (hG_2.out.below hb (by omega))
    have hH_3 := hide (hH_2.out.below hb (by omega))
    have hB_3 := hide (hB_2.out.trans (hb.mono (by omega)))
    have b0_3 := (hb.cell (p := ⟨W0.heap.size, 0, none⟩) (by show W0.heap.size < W2.heap.size; omega)).trans b0_2
    have b1_3 := (hb.cell (p := ⟨W0.heap.size, 1, none⟩) (by show W0.heap.size < W2.heap.size; omega)).trans b1_2
    have b2_3 := (hb.cell (p := ⟨W0.heap.size, 2, none⟩) (by show W0.heap.size < W2.heap.size; omega)).trans b2_2
    have g0_3 := (hb.cell (p := ⟨W1.heap.size, 0, none⟩) (by show W1.heap.size < W2.heap.size; omega)).trans g0_2
    have g1_3 := (hb.cell (p := ⟨W1.heap.size, 1, none⟩) (by show W1.heap.size < W2.heap.size; omega)).trans g1_2
    have g2_3 := (hb.cell (p := ⟨W1.heap.size, 2, none⟩) (by show W1.heap.size < W2.heap.size; omega)).trans g2_2
    have hz3 := hb.size
    clear hb hF_2 hG_2 hH_2 hB_2 b0_2 b1_2 b2_2 g0_2 g1_2 g2_2
    by_cases hok : (writeS xs ys v i x).ok = true
    case neg =>
      rw [Bool.not_eq_true] at hok
      rw [hok]
      go_wp2_with fail
      refine (equalBuffers_any W1.heap.size W2.heap.size A1 n1 c1 B1 m1 d1 A2 n2 c2 B2 m2 d2 _ _ _ _ _ _ _ hG_3.out.1 hG_3.out.2.1 hH_3.out.1 hH_3.out.2.1 (by omega) (by omega) (by have := hG_3.out.2.2.1; omega) (by have := hG_3.out.2.2.2.1; omega) (by have := hH_3.out.2.2.1; omega) (by have := hH_3.out.2.2.2.1; omega)).mono ?_
      rintro e W4 ⟨rfl, hb⟩
      rw [he1]
      have hF_4 := hide (hF_3.out.below hb (by omega))
      have hG_4 := hide (hG_3.out.below hb (by omega))
      have hH_4 := hide (hH_3.out.below hb (by omega))
      have hB_4 := hide (hB_3.out.trans (hb.mono (by omega)))
      have b0_4 := (hb.cell (p := ⟨W0.heap.size, 0, none⟩) (by show W0.heap.size < W3.heap.size; omega)).trans b0_3
      have b1_4 := (hb.cell (p := ⟨W0.heap.size, 1, none⟩) (by show W0.heap.size < W3.heap.size; omega)).trans b1_3
      have b2_4 := (hb.cell (p := ⟨W0.heap.size, 2, none⟩) (by show W0.heap.size < W3.heap.size; omega)).trans b2_3
      have g0_4 := (hb.cell (p := ⟨W1.heap.size, 0, none⟩) (by show W1.heap.size < W3.heap.size; omega)).trans g0_3
      have g1_4 := (hb.cell (p := ⟨W1.heap.size, 1, none⟩) (by show W1.heap.size < W3.heap.size; omega)).trans g1_3
      have g2_4 := (hb.cell (p := ⟨W1.heap.size, 2, none⟩) (by show W1.heap.size < W3.heap.size; omega)).trans g2_3
      have h0_4 := (hb.cell (p := ⟨W2.heap.size, 0, none⟩) (by show W2.heap.size < W3.heap.size; omega)).trans h0_3
      have h1_4 := (hb.cell (p := ⟨W2.heap.size, 1, none⟩) (by show W2.heap.size < W3.heap.size; omega)).trans h1_3
      have h2_4 := (hb.cell (p := ⟨W2.heap.size, 2, none⟩) (by show W2.heap.size < W3.heap.size; omega)).trans h2_3
      have hz4 := hb.size
      clear hb hF_3 hG_3 hH_3 hB_3 b0_3 b1_3 b2_3 g0_3 g1_3 g2_3 h0_3 h1_3 h2_3
      go_wp2
      go_ret
      exact ⟨ret_bool (by simp), hB_4.out⟩
    case pos =>
      obtain ⟨hv, hj0, hj1, hxb0, hxb1⟩ := writeS_ok hok
      obtain ⟨j, rfl⟩ : ∃ j : Nat, i = (j : Int) := ⟨i.toNat, by omega⟩
      have hjx : j < xs.length := by omega
      have hS : writeS xs ys v j x = ⟨xs, ys.set j x, v, true⟩ := writeS_of hv hjx hxb0 hxb1
      have hv8 := (validB_iff.1 hv).1
      have hv9 := (validB_iff.1 hv).2.2.2.2
      have hyx := (validB_iff.1 hv).2.1
      have hvc : validB xs (ys.set j x) v = true := validB_set hv hxb0 hxb1
      simp only [hS] at hG_3 g2_3 hH_3 h2_3 he1 ⊢
      have bn1 := hG_3.out.2.2.1
      have bm1 := hG_3.out.2.2.2.1
      have bn := hF_3.out.2.2.1
      have bm := hF_3.out.2.2.2.1
      have hmn : m ≤ n ∧ n ≤ m := by omega
      by_cases h2 : n < 2
      · have h2' : m < 2 := by omega
        go_wp2_with fail
        refine (equalBuffers_any W1.heap.size W2.heap.size A1 n1 c1 B1 m1 d1 A2 n2 c2 B2 m2 d2 _ _ _ _ _ _ _ hG_3.out.1 hG_3.out.2.1 hH_3.out.1 hH_3.out.2.1 (by omega) (by omega) (by have := hG_3.out.2.2.1; omega) (by have := hG_3.out.2.2.2.1; omega) (by have := hH_3.out.2.2.1; omega) (by have := hH_3.out.2.2.2.1; omega)).mono ?_
        rintro e W4 ⟨rfl, hb⟩
        rw [he1]
        have hF_4 := hide (hF_3.out.below hb (by omega))
        have hG_4 := hide (hG_3.out.below hb (by omega))
        have hH_4 := hide (hH_3.out.below hb (by omega))
        have hB_4 := hide (hB_3.out.trans (hb.mono (by omega)))
        have b0_4 := (hb.cell (p := ⟨W0.heap.size, 0, none⟩) (by show W0.heap.size < W3.heap.size; omega)).trans b0_3
        have b1_4 := (hb.cell (p := ⟨W0.heap.size, 1, none⟩) (by show W0.heap.size < W3.heap.size; omega)).trans b1_3
        have b2_4 := (hb.cell (p := ⟨W0.heap.size, 2, none⟩) (by show W0.heap.size < W3.heap.size; omega)).trans b2_3
        have g0_4 := (hb.cell (p := ⟨W1.heap.size, 0, none⟩) (by show W1.heap.size < W3.heap.size; omega)).trans g0_3
        have g1_4 := (hb.cell (p := ⟨W1.heap.size, 1, none⟩) (by show W1.heap.size < W3.heap.size; omega)).trans g1_3
        have g2_4 := (hb.cell (p := ⟨W1.heap.size, 2, none⟩) (by show W1.heap.size < W3.heap.size; omega)).trans g2_3
        have h0_4 := (hb.cell (p := ⟨W2.heap.size, 0, none⟩) (by show W2.heap.size < W3.heap.size; omega)).trans h0_3
        have h1_4 := (hb.cell (p := ⟨W2.heap.size, 1, none⟩) (by show W2.heap.size < W3.heap.size; omega)).trans h1_3
        have h2_4 := (hb.cell (p := ⟨W2.heap.size, 2, none⟩) (by show W2.heap.size < W3.heap.size; omega)).trans h2_3
        have hz4 := hb.size
        clear hb hF_3 hG_3 hH_3 hB_3 b0_3 b1_3 b2_3 g0_3 g1_3 g2_3 h0_3 h1_3 h2_3
        go_wp2
        go_ret
        exact ⟨ret_bool (by simp), hB_4.out⟩
      · have h2' : ¬ m < 2 := by omega
        clear hH_3 h0_3 h1_3 h2_3
        obtain ⟨o, ho1, ho2, ho3⟩ : ∃ o : Nat, o < n ∧ o ≠ j ∧ ((j : Int) + 1) % (m : Int) = (o : Int) := by
          by_cases hl1 : j + 1 = n
          · exact ⟨0, by omega, by omega, by rw [show (j : Int) + 1 = (m : Int) by omega, Int.emod_self]; rfl⟩
          · exact ⟨j + 1, by omega, by omega, by rw [Int.emod_eq_of_lt (by omega) (by omega)]; omega⟩
        have ho4 : ((j : Int) + 1).tmod (m : Int) = (o : Int) := by rw [Int.tmod_eq_emod_of_nonneg (by omega)]; exact ho3
        have hS4 : writeS xs (ys.set j x) v o 77 = ⟨xs, (ys.set j x).set o 77, v, true⟩ := writeS_of hvc (by omega) (by omega) (by omega)
        have hS5 : writeS xs ys v o 77 = ⟨xs, ys.set o 77, v, true⟩ := writeS_of hv (by omega) (by omega) (by omega)
        have hS6 : writeS xs (ys.set o 77) v j x = ⟨xs, (ys.set o 77).set j x, v, true⟩ := writeS_of (validB_set hv (by omega) (by omega)) hjx hxb0 hxb1
        have hcm : (ys.set j x).set o 77 = (ys.set o 77).set j x := List.set_comm _ _ (Ne.symm ho2)
        rw [hcm] at hS4
        have l1 : xs.length ≤ 16 := hv8.2
        have l2 : ((ys.set o 77).set j x).length ≤ 16 := by rw [List.length_set, List.length_set]; omega
        have l3 : (ys.set o 77).length ≤ 16 := by rw [List.length_set]; omega
        have he7 := bufEq_self xs ((ys.set o 77).set j x) v
        clear hS hcm
        generalize hY2 : ys.set o 77 = Y2 at *
        generalize hY3 : Y2.set j x = Y3 at *
        generalize hY1 : ys.set j x = Y1 at *
        clear hY1 hY2 hY3
        go_wp2_with fail
        refine (implWrite_any W1.heap.size A1 n1 c1 B1 m1 d1 xs Y1 v o 77 _ hG_3.out (by omega)).mono ?_
        rintro e W4 ⟨A4, n4, c4, B4, m4, d4, rfl, ht⟩
        rw [hS4] at ht ⊢
        have hb : Below W3.heap.size W3 W4 := ht.2.2.2.2.1
        have hX_4 := hide (ht.buf' l1 l2)
        clear ht
        have hF_4 := hide (hF_3.out.below hb (by omega))
        have hG_4 := hide (hG_3.out.below hb (by omega))
        have hB_4 := hide (hB_3.out.trans (hb.mono (by omega)))
        have b0_4 := (hb.cell (p := ⟨W0.heap.size, 0, none⟩) (by show W0.heap.size < W3.heap.size; omega)).trans b0_3
        have b1_4 := (hb.cell (p := ⟨W0.heap.size, 1, none⟩) (by show W0.heap.size < W3.heap.size; omega)).trans b1_3
        have b2_4 := (hb.cell (p := ⟨W0.heap.size, 2, none⟩) (by show W0.heap.size < W3.heap.size; omega)).trans b2_3
        have g0_4 := (hb.cell (p := ⟨W1.heap.size, 0, none⟩) (by show W1.heap.size < W3.heap.size; omega)).trans g0_3
        have g1_4 := (hb.cell (p := ⟨W1.heap.size, 1, none⟩) (by show W1.heap.size < W3.heap.size; omega)).trans g1_3
        have g2_4 := (hb.cell (p := ⟨W1.heap.size, 2, none⟩) (by show W1.heap.size < W3.heap.size; omega)).trans g2_3
        have hz4 := hb.size
        clear hb hF_3 hG_3 hB_3 b0_3 b1_3 b2_3 g0_3 g1_3 g2_3
        have al_b0 := fun X => (World.cell?_alloc_lt W4 X ⟨W0.heap.size, 0, none⟩ (by show W0.heap.size < W4.heap.size; omega)).trans b0_4
        have al_b1 := fun X => (World.cell?_alloc_lt W4 X ⟨W0.heap.size, 1, none⟩ (by show W0.heap.size < W4.heap.size; omega)).trans b1_4
        have al_b2 := fun X => (World.cell?_alloc_lt W4 X ⟨W0.heap.size, 2, none⟩ (by show W0.heap.size < W4.heap.size; omega)).trans b2_4
        have al_g0 := fun X => (World.cell?_alloc_lt W4 X ⟨W1.heap.size, 0, none⟩ (by show W1.heap.size < W4.heap.size; omega)).trans g0_4
        have al_g1 := fun X => (World.cell?_alloc_lt W4 X ⟨W1.heap.size, 1, none⟩ (by show W1.heap.size < W4.heap.size; omega)).trans g1_4
        have al_g2 := fun X => (World.cell?_alloc_lt W4 X ⟨W1.heap.size, 2, none⟩ (by show W1.heap.size < W4.heap.size; omega)).trans g2_4
        have hFa := hide (hF_4.out.below (alB W4 (.cells #[.slice A4 n4 c4, .slice B4 m4 d4, .int .i64 (v)] 25)) (by omega))
        have hGa := hide (hG_4.out.below (alB W4 (.cells #[.slice A4 n4 c4, .slice B4 m4 d4, .int .i64 (v)] 25)) (by omega))
        have hXa := hide (hX_4.out.below (alB W4 (.cells #[.slice A4 n4 c4, .slice B4 m4 d4, .int .i64 (v)] 25)) (by omega))
        go_wp2_with fail
        refine (implWrite_any W0.heap.size A n c B m d xs ys v o 77 _ hFa.out (by simp; omega)).mono ?_
        rintro e W5 ⟨A5, n5, c5, B5, m5, d5, rfl, ht⟩
        rw [hS5] at ht ⊢
        have hb' : Below (W4.alloc _).heap.size (W4.alloc _) W5 := ht.2.2.2.2.1
        have hY_5 := hide (ht.buf' l1 l3)
        clear ht
        clear hFa hGa hXa al_b0 al_b1 al_b2 al_g0 al_g1 al_g2
        obtain ⟨x0_5, x1_5, x2_5, _, _, _⟩ := AnyOp.cellsOf ((hb'.block W4.heap.size (by simp)).trans (heap_alloc_new W4 _))
        have hb := (alB W4 (.cells #[.slice A4 n4 c4, .slice B4 m4 d4, .int .i64 (v)] 25)).trans (hb'.mono (by simp))
        have hz5' : W4.heap.size < W5.heap.size := by have := hb'.size; simp at this; omega
        clear hb'
        have hF_5 := hide (hF_4.out.below hb (by omega))
        have hG_5 := hide (hG_4.out.below hb (by omega))
        have hX_5 := hide (hX_4.out.below hb (by omega))
        have hB_5 := hide (hB_4.out.trans (hb.mono (by omega)))
        have b0_5 := (hb.cell (p := ⟨W0.heap.size, 0, none⟩) (by show W0.heap.size < W4.heap.size; omega)).trans b0_4
        have b1_5 := (hb.cell (p := ⟨W0.heap.size, 1, none⟩) (by show W0.heap.size < W4.heap.size; omega)).trans b1_4
        have b2_5 := (hb.cell (p := ⟨W0.heap.size, 2, none⟩) (by show W0.heap.size < W4.heap.size; omega)).trans b2_4
        have g0_5 := (hb.cell (p := ⟨W1.heap.size, 0, none⟩) (by show W1.heap.size < W4.heap.size; omega)).trans g0_4
        have g1_5 := (hb.cell (p := ⟨W1.heap.size, 1, none⟩) (by show W1.heap.size < W4.heap.size; omega)).trans g1_4
        have g2_5 := (hb.cell (p := ⟨W1.heap.size, 2, none⟩) (by show W1.heap.size < W4.heap.size; omega)).trans g2_4
        have hz5 := hb.size
        clear hb hF_4 hG_4 hX_4 hB_4 b0_4 b1_4 b2_4 g0_4 g1_4 g2_4
        have al_b0 := fun X => (World.cell?_alloc_lt W5 X ⟨W0.heap.size, 0, none⟩ (by show W0.heap.size < W5.heap.size; omega)).trans b0_5
        have al_b1 := fun X => (World.cell?_alloc_lt W5 X ⟨W0.heap.size, 1, none⟩ (by show W0.heap.size < W5.heap.size; omega)).trans b1_5
        have al_b2 := fun X => (World.cell?_alloc_lt W5 X ⟨W0.heap.size, 2, none⟩ (by show W0.heap.size < W5.heap.size; omega)).trans b2_5
        have al_g0 := fun X => (World.cell?_alloc_lt W5 X ⟨W1.heap.size, 0, none⟩ (by show W1.heap.size < W5.heap.size; omega)).trans g0_5
        have al_g1 := fun X => (World.cell?_alloc_lt W5 X ⟨W1.heap.size, 1, none⟩ (by show W1.heap.size < W5.heap.size; omega)).trans g1_5
        have al_g2 := fun X => (World.cell?_alloc_lt W5 X ⟨W1.heap.size, 2, none⟩ (by show W1.heap.size < W5.heap.size; omega)).trans g2_5
        have al_x0 := fun X => (World.cell?_alloc_lt W5 X ⟨W4.heap.size, 0, none⟩ (by show W4.heap.size < W5.heap.size; omega)).trans x0_5
        have al_x1 := fun X => (World.cell?_alloc_lt W5 X ⟨W4.heap.size, 1, none⟩ (by show W4.heap.size < W5.heap.size; omega)).trans x1_5
        have al_x2 := fun X => (World.cell?_alloc_lt W5 X ⟨W4.heap.size, 2, none⟩ (by show W4.heap.size < W5.heap.size; omega)).trans x2_5
        have hFa := hide (hF_5.out.below (alB W5 (.cells #[.slice A5 n5 c5, .slice B5 m5 d5, .int .i64 (v)] 25)) (by omega))
        have hGa := hide (hG_5.out.below (alB W5 (.cells #[.slice A5 n5 c5, .slice B5 m5 d5, .int .i64 (v)] 25)) (by omega))
        have hXa := hide (hX_5.out.below (alB W5 (.cells #[.slice A5 n5 c5, .slice B5 m5 d5, .int .i64 (v)] 25)) (by omega))
        have hYa := hide (hY_5.out.below (alB W5 (.cells #[.slice A5 n5 c5, .slice B5 m5 d5, .int .i64 (v)] 25)) (by omega))
        go_wp2_with fail
        refine (implWrite_any W5.heap.size A5 n5 c5 B5 m5 d5 xs Y2 v j x _ hYa.out (by simp)).mono ?_
        rintro e W6 ⟨A6, n6, c6, B6, m6, d6, rfl, ht⟩
        rw [hS6] at ht ⊢
        have hb' : Below (W5.alloc _).heap.size (W5.alloc _) W6 := ht.2.2.2.2.1
        have hZ_6 := hide (ht.buf' l1 l2)
        clear ht
        clear hFa hGa hXa hYa al_b0 al_b1 al_b2 al_g0 al_g1 al_g2 al_x0 al_x1 al_x2
        obtain ⟨y0_6, y1_6, y2_6, _, _, _⟩ := AnyOp.cellsOf ((hb'.block W5.heap.size (by simp)).trans (heap_alloc_new W5 _))
        have hb := (alB W5 (.cells #[.slice A5 n5 c5, .slice B5 m5 d5, .int .i64 (v)] 25)).trans (hb'.mono (by simp))
        have hz6' : W5.heap.size < W6.heap.size := by have := hb'.size; simp at this; omega
        clear hb'
        have hF_6 := hide (hF_5.out.below hb (by omega))
        have hG_6 := hide (hG_5.out.below hb (by omega))
        have hX_6 := hide (hX_5.out.below hb (by omega))
        have hY_6 := hide (hY_5.out.below hb (by omega))
        have hB_6 := hide (hB_5.out.trans (hb.mono (by omega)))
        have b0_6 := (hb.cell (p := ⟨W0.heap.size, 0, none⟩) (by show W0.heap.size < W5.heap.size; omega)).trans b0_5
        have b1_6 := (hb.cell (p := ⟨W0.heap.size, 1, none⟩) (by show W0.heap.size < W5.heap.size; omega)).trans b1_5
        have b2_6 := (hb.cell (p := ⟨W0.heap.size, 2, none⟩) (by show W0.heap.size < W5.heap.size; omega)).trans b2_5
        have g0_6 := (hb.cell (p := ⟨W1.heap.size, 0, none⟩) (by show W1.heap.size < W5.heap.size; omega)).trans g0_5
        have g1_6 := (hb.cell (p := ⟨W1.heap.size, 1, none⟩) (by show W1.heap.size < W5.heap.size; omega)).trans g1_5
        have g2_6 := (hb.cell (p := ⟨W1.heap.size, 2, none⟩) (by show W1.heap.size < W5.heap.size; omega)).trans g2_5
        have x0_6 := (hb.cell (p := ⟨W4.heap.size, 0, none⟩) (by show W4.heap.size < W5.heap.size; omega)).trans x0_5
        have x1_6 := (hb.cell (p := ⟨W4.heap.size, 1, none⟩) (by show W4.heap.size < W5.heap.size; omega)).trans x1_5
        have x2_6 := (hb.cell (p := ⟨W4.heap.size, 2, none⟩) (by show W4.heap.size < W5.heap.size; omega)).trans x2_5
        have hz6 := hb.size
        clear hb hF_5 hG_5 hX_5 hY_5 hB_5 b0_5 b1_5 b2_5 g0_5 g1_5 g2_5 x0_5 x1_5 x2_5
        have al_b0 := fun X => (World.cell?_alloc_lt W6 X ⟨W0.heap.size, 0, none⟩ (by show W0.heap.size < W6.heap.size; omega)).trans b0_6
        have al_b1 := fun X => (World.cell?_alloc_lt W6 X ⟨W0.heap.size, 1, none⟩ (by show W0.heap.size < W6.heap.size; omega)).trans b1_6
        have al_b2 := fun X => (World.cell?_alloc_lt W6 X ⟨W0.heap.size, 2, none⟩ (by show W0.heap.size < W6.heap.size; omega)).trans b2_6
        have al_g0 := fun X => (World.cell?_alloc_lt W6 X ⟨W1.heap.size, 0, none⟩ (by show W1.heap.size < W6.heap.size; omega)).trans g0_6
        have al_g1 := fun X => (World.cell?_alloc_lt W6 X ⟨W1.heap.size, 1, none⟩ (by show W1.heap.size < W6.heap.size; omega)).trans g1_6
        have al_g2 := fun X => (World.cell?_alloc_lt W6 X ⟨W1.heap.size, 2, none⟩ (by show W1.heap.size < W6.heap.size; omega)).trans g2_6
        have al_x0 := fun X => (World.cell?_alloc_lt W6 X ⟨W4.heap.size, 0, none⟩ (by show W4.heap.size < W6.heap.size; omega)).trans x0_6
        have al_x1 := fun X => (World.cell?_alloc_lt W6 X ⟨W4.heap.size, 1, none⟩ (by show W4.heap.size < W6.heap.size; omega)).trans x1_6
        have al_x2 := fun X => (World.cell?_alloc_lt W6 X ⟨W4.heap.size, 2, none⟩ (by show W4.heap.size < W6.heap.size; omega)).trans x2_6
        have al_y0 := fun X => (World.cell?_alloc_lt W6 X ⟨W5.heap.size, 0, none⟩ (by show W5.heap.size < W6.heap.size; omega)).trans y0_6
        have al_y1 := fun X => (World.cell?_alloc_lt W6 X ⟨W5.heap.size, 1, none⟩ (by show W5.heap.size < W6.heap.size; omega)).trans y1_6
        have al_y2 := fun X => (World.cell?_alloc_lt W6 X ⟨W5.heap.size, 2, none⟩ (by show W5.heap.size < W6.heap.size; omega)).trans y2_6
        have hXa := hide (hX_6.out.below (alB W6 (.cells #[.slice A6 n6 c6, .slice B6 m6 d6, .int .i64 (v)] 25)) (by omega))
        have hZa := hide (hZ_6.out.below (alB W6 (.cells #[.slice A6 n6 c6, .slice B6 m6 d6, .int .i64 (v)] 25)) (by omega))
        go_wp2_with fail
        refine (equalBuffers_any W4.heap.size W6.heap.size A4 n4 c4 B4 m4 d4 A6 n6 c6 B6 m6 d6 _ _ _ _ _ _ _ hXa.out.1 hXa.out.2.1 hZa.out.1 hZa.out.2.1 (by simp; omega) (by simp) (by have := hXa.out.2.2.1; omega) (by have := hXa.out.2.2.2.1; omega) (by have := hZa.out.2.2.1; omega) (by have := hZa.out.2.2.2.1; omega)).mono ?_
        rintro e W7 ⟨rfl, hb'⟩
        rw [he7]
        clear hXa hZa al_b0 al_b1 al_b2 al_g0 al_g1 al_g2 al_x0 al_x1 al_x2 al_y0 al_y1 al_y2
        obtain ⟨z0_7, z1_7, z2_7, _, _, _⟩ := AnyOp.cellsOf ((hb'.block W6.heap.size (by simp)).trans (heap_alloc_new W6 _))
        have hb := (alB W6 (.cells #[.slice A6 n6 c6, .slice B6 m6 d6, .int .i64 (v)] 25)).trans (hb'.mono (by simp))
        have hz7' : W6.heap.size < W7.heap.size := by have := hb'.size; simp at this; omega
        clear hb'
        have hX_7 := hide (hX_6.out.below hb (by omega))
        have hZ_7 := hide (hZ_6.out.below hb (by omega))
        have hB_7 := hide (hB_6.out.trans (hb.mono (by omega)))
        have b0_7 := (hb.cell (p := ⟨W0.heap.size, 0, none⟩) (by show W0.heap.size < W6.heap.size; omega)).trans b0_6
        have b1_7 := (hb.cell (p := ⟨W0.heap.size, 1, none⟩) (by show W0.heap.size < W6.heap.size; omega)).trans b1_6
        have b2_7 := (hb.cell (p := ⟨W0.heap.size, 2, none⟩) (by show W0.heap.size < W6.heap.size; omega)).trans b2_6
        have g0_7 := (hb.cell (p := ⟨W1.heap.size, 0, none⟩) (by show W1.heap.size < W6.heap.size; omega)).trans g0_6
        have g1_7 := (hb.cell (p := ⟨W1.heap.size, 1, none⟩) (by show W1.heap.size < W6.heap.size; omega)).trans g1_6
        have g2_7 := (hb.cell (p := ⟨W1.heap.size, 2, none⟩) (by show W1.heap.size < W6.heap.size; omega)).trans g2_6
        have x0_7 := (hb.cell (p := ⟨W4.heap.size, 0, none⟩) (by show W4.heap.size < W6.heap.size; omega)).trans x0_6
        have x1_7 := (hb.cell (p := ⟨W4.heap.size, 1, none⟩) (by show W4.heap.size < W6.heap.size; omega)).trans x1_6
        have x2_7 := (hb.cell (p := ⟨W4.heap.size, 2, none⟩) (by show W4.heap.size < W6.heap.size; omega)).trans x2_6
        have y0_7 := (hb.cell (p := ⟨W5.heap.size, 0, none⟩) (by show W5.heap.size < W6.heap.size; omega)).trans y0_6
        have y1_7 := (hb.cell (p := ⟨W5.heap.size, 1, none⟩) (by show W5.heap.size < W6.heap.size; omega)).trans y1_6
        have y2_7 := (hb.cell (p := ⟨W5.heap.size, 2, none⟩) (by show W5.heap.size < W6.heap.size; omega)).trans y2_6
        have hz7 := hb.size
        clear hb hX_6 hZ_6 hB_6 b0_6 b1_6 b2_6 g0_6 g1_6 g2_6 x0_6 x1_6 x2_6 y0_6 y1_6 y2_6
        go_wp2
        go_ret
        exact ⟨ret_bool (by simp), hB_7.out⟩
set_option maxHeartbeats 1000000 in
theorem walk_FnWriteCell (a0 : Option Addr) (len cap : Nat) (zs : List Int) (w : World) (h0 : Ints .u8 w w.heap.size a0 len zs) (hc : len ≤ cap) :
    Calls Try.prog 5 #[.slice a0 len cap] w fun e w' => e = .returned (.bool true) ∧ Below w.heap.size w w' := by
  by_cases hl : len ≤ 1048576
  case neg =>
    go_enter Try.func5, Try.ntmps5
    go_wp2
    go_ret
    exact ⟨rfl, Below.refl _ _⟩
  case pos =>
    go_enter Try.func5, Try.ntmps5
    go_wp2_with fail
    refine (drawWriteCell_any a0 len cap zs _ h0 hc).mono ?_
    rintro e W0 ⟨A, n, c, B, m, d, xs, ys, v, i, x, rfl, hi0, hi1, hx0, hx1, hN⟩
    clear h0
    have hF_0 := hide hN.buf
    have hB_0 := hide hN.2.2.2.2.2.2.2.2.2.2
    have hz0 := hB_0.out.size
    clear hN
    have hxl : xs.length = n := hF_0.out.1.1
    have hyl : ys.length = m := hF_0.out.2.1.1
    have hlen := hide (writeS_len xs ys v i x)
    have he1 := bufEq_self (writeS xs ys v i x).xs (writeS xs ys v i x).ys (writeS xs ys v i x).v
    go_wp2_with fail
    refine (implWrite_any W0.heap.size A n c B m d xs ys v i x _ (hF_0.out.below (alB _ _) (Nat.le_refl _)) (by simp)).mono ?_
    rintro e W1 ⟨A1, n1, c1, B1, m1, d1, rfl, ht⟩
    have hb := ht.2.2.2.2.1
    have hbb := (alB W0 (.cells #[.slice A n c, .slice B m d, .int .i64 v] 25)).trans (hb.mono (by simp))
    have hF_1 := hide (hF_0.out.below hbb (Nat.le_refl _))
    have hG_1 := hide (ht.buf' hlen.out.1 hlen.out.2)
    have hB_1 := hide (hB_0.out.trans (hbb.mono hz0))
    obtain ⟨b0_1, b1_1, b2_1, _, _, _⟩ := AnyOp.cellsOf ((hb.block W0.heap.size (by simp)).trans (heap_alloc_new W0 _))
    have hz1 : W0.heap.size < W1.heap.size := by have := hb.size; simp at this; omega
    clear hb hbb ht hF_0 hB_0
    go_wp2_with fail
    refine (specWrite_any W0.heap.size A n c B m d xs ys v i x _ (hF_1.out.below (alB _ _) (by omega)) (by simp; omega)).mono ?_
    rintro e W2 ⟨A2, n2, c2, B2, m2, d2, rfl, ht⟩
    have hb := ht.2.2.2.2.1
    have hbb := (alB W1 (.cells #[.slice A1 n1 c1, .slice B1 m1 d1, .int .i64 (writeS xs ys v i x).v] 25)).trans (hb.mono (by simp))
    have hH_2 := hide (ht.buf' hlen.out.1 hlen.out.2)
    have hF_2 := hide (hF_1.out.below hbb (by omega))
    have hG_2 := hide (hG_1.out.below hbb (by omega))
    have hB_2 := hide (hB_1.out.trans (hbb.mono (by omega)))
    have b0_2 := (hbb.cell (p := ⟨W0.heap.size, 0, none⟩) hz1).trans b0_1
    have b1_2 := (hbb.cell (p := ⟨W0.heap.size, 1, none⟩) hz1).trans b1_1
    have b2_2 := (hbb.cell (p := ⟨W0.heap.size, 2, none⟩) hz1).trans b2_1
    obtain ⟨g0_2, g1_2, g2_2, _, _, _⟩ := AnyOp.cellsOf ((hb.block W1.heap.size (by simp)).trans (heap_alloc_new W1 _))
    have hz2 : W1.heap.size < W2.heap.size := by have := hb.size; simp at this; omega
    clear hb hbb ht hF_1 hG_1 hB_1 b0_1 b1_1 b2_1
    go_wp2_with fail
    have hGa := hide (hG_2.out.below (alB W2 (.cells #[.slice A2 n2 c2, .slice B2 m2 d2, .int .i64 (writeS xs ys v i x).v] 25)) (by omega))
    have hHa := hide (hH_2.out.below (alB W2 (.cells #[.slice A2 n2 c2, .slice B2 m2 d2, .int .i64 (writeS xs ys v i x).v] 25)) (Nat.le_refl _))
    refine (equalBuffers_any W1.heap.size W2.heap.size A1 n1 c1 B1 m1 d1 A2 n2 c2 B2 m2 d2 _ _ _ _ _ _ _ hGa.out.1 hGa.out.2.1 hHa.out.1 hHa.out.2.1 (by simp; omega) (by simp) (by have := hGa.out.2.2.1; omega) (by have := hGa.out.2.2.2.1; omega) (by have := hHa.out.2.2.1; omega) (by have := hHa.out.2.2.2.1; omega)).mono ?_
    rintro e W3 ⟨rfl, hb'⟩
    rw [he1]
    clear hGa hHa
    obtain ⟨h0_3, h1_3, h2_3, _, _, _⟩ := AnyOp.cellsOf ((hb'.block W2.heap.size (by simp)).trans (heap_alloc_new W2 _))
    have hb := (alB W2 (.cells #[.slice A2 n2 c2, .slice B2 m2 d2, .int .i64 (writeS xs ys v i x).v] 25)).trans (hb'.mono (by simp))
    have hz3' : W2.heap.size < W3.heap.size := by have := hb'.size; simp at this; omega
    clear hb'
    have hF_3 := hide (hF_2.out.below hb (by omega))
    have hG_3 := hide (hG_2.out.below hb (by omega))
    have hH_3 := hide (hH_2.out.below hb (by omega))
    have hB_3 := hide (hB_2.out.trans (hb.mono (by omega)))
    have b0_3 := (hb.cell (p := ⟨W0.heap.size, 0, none⟩) (by show W0.heap.size < W2.heap.size; omega)).trans b0_2
    have b1_3 := (hb.cell (p := ⟨W0.heap.size, 1, none⟩) (by show W0.heap.size < W2.heap.size; omega)).trans b1_2
    have b2_3 := (hb.cell (p := ⟨W0.heap.size, 2, none⟩) (by show W0.heap.size < W2.heap.size; omega)).trans b2_2
    have g0_3 := (hb.cell (p := ⟨W1.heap.size, 0, none⟩) (by show W1.heap.size < W2.heap.size; omega)).trans g0_2
    have g1_3 := (hb.cell (p := ⟨W1.heap.size, 1, none⟩) (by show W1.heap.size < W2.heap.size; omega)).trans g1_2
    have g2_3 := (hb.cell (p := ⟨W1.heap.size, 2, none⟩) (by show W1.heap.size < W2.heap.size; omega)).trans g2_2
    have hz3 := hb.size
    clear hb hF_2 hG_2 hH_2 hB_2 b0_2 b1_2 b2_2 g0_2 g1_2 g2_2
    by_cases hok : (writeS xs ys v i x).ok = true
    case neg =>
      rw [Bool.not_eq_true] at hok
      rw [hok]
      go_wp2_with fail
      refine (equalBuffers_any W1.heap.size W2.heap.size A1 n1 c1 B1 m1 d1 A2 n2 c2 B2 m2 d2 _ _ _ _ _ _ _ hG_3.out.1 hG_3.out.2.1 hH_3.out.1 hH_3.out.2.1 (by omega) (by omega) (by have := hG_3.out.2.2.1; omega) (by have := hG_3.out.2.2.2.1; omega) (by have := hH_3.out.2.2.1; omega) (by have := hH_3.out.2.2.2.1; omega)).mono ?_
      rintro e W4 ⟨rfl, hb⟩
      rw [he1]
      have hF_4 := hide (hF_3.out.below hb (by omega))
      have hG_4 := hide (hG_3.out.below hb (by omega))
      have hH_4 := hide (hH_3.out.below hb (by omega))
      have hB_4 := hide (hB_3.out.trans (hb.mono (by omega)))
      have b0_4 := (hb.cell (p := ⟨W0.heap.size, 0, none⟩) (by show W0.heap.size < W3.heap.size; omega)).trans b0_3
      have b1_4 := (hb.cell (p := ⟨W0.heap.size, 1, none⟩) (by show W0.heap.size < W3.heap.size; omega)).trans b1_3
      have b2_4 := (hb.cell (p := ⟨W0.heap.size, 2, none⟩) (by show W0.heap.size < W3.heap.size; omega)).trans b2_3
      have g0_4 := (hb.cell (p := ⟨W1.heap.size, 0, none⟩) (by show W1.heap.size < W3.heap.size; omega)).trans g0_3
      have g1_4 := (hb.cell (p := ⟨W1.heap.size, 1, none⟩) (by show W1.heap.size < W3.heap.size; omega)).trans g1_3
      have g2_4 := (hb.cell (p := ⟨W1.heap.size, 2, none⟩) (by show W1.heap.size < W3.heap.size; omega)).trans g2_3
      have h0_4 := (hb.cell (p := ⟨W2.heap.size, 0, none⟩) (by show W2.heap.size < W3.heap.size; omega)).trans h0_3
      have h1_4 := (hb.cell (p := ⟨W2.heap.size, 1, none⟩) (by show W2.heap.size < W3.heap.size; omega)).trans h1_3
      have h2_4 := (hb.cell (p := ⟨W2.heap.size, 2, none⟩) (by show W2.heap.size < W3.heap.size; omega)).trans h2_3
      have hz4 := hb.size
      clear hb hF_3 hG_3 hH_3 hB_3 b0_3 b1_3 b2_3 g0_3 g1_3 g2_3 h0_3 h1_3 h2_3
      go_wp2
      go_ret
      exact ⟨ret_bool (by simp), hB_4.out⟩
    case pos =>
      obtain ⟨hv, hj0, hj1, hxb0, hxb1⟩ := writeS_ok hok
      obtain ⟨j, rfl⟩ : ∃ j : Nat, i = (j : Int) := ⟨i.toNat, by omega⟩
      have hjx : j < xs.length := by omega
      have hS : writeS xs ys v j x = ⟨xs, ys.set j x, v, true⟩ := writeS_of hv hjx hxb0 hxb1
      have hv8 := (validB_iff.1 hv).1
      have hv9 := (validB_iff.1 hv).2.2.2.2
      have hyx := (validB_iff.1 hv).2.1
      have hvc : validB xs (ys.set j x) v = true := validB_set hv hxb0 hxb1
      simp only [hS] at hG_3 g2_3 hH_3 h2_3 he1 ⊢
      have bn1 := hG_3.out.2.2.1
      have bm1 := hG_3.out.2.2.2.1
      have bn := hF_3.out.2.2.1
      have bm := hF_3.out.2.2.2.1
      have hmn : m ≤ n ∧ n ≤ m := by omega
      clear hH_3 h0_3 h1_3 h2_3 hS he1
      have l1 : xs.length ≤ 16 := hv8.2
      have l2 : (ys.set j x).length ≤ 16 := by rw [List.length_set]; omega
      have HYJ := hide (show (ys.set j x).getD j 0 = x by simp [List.getD_eq_getElem?_getD, show j < ys.length by omega])
      have hlY := hide (show (ys.set j x).length = n by rw [List.length_set]; omega)
      generalize ys.set j x = Y1 at *
      have HVC := hide hvc
      have HV := hide hv
      clear hvc hv
      go_wp2
      go_loopw [10] (fun s wr => ∃ (k : Nat) (W9 : World), k ≤ n ∧ s = .int .i64 k ∧ W9 = wr ∧ Hid (Below W3.heap.size W3 W9)) (fun s _ => n - (intOf s).toNat)
      case atStart => exact ⟨0, W3, Nat.zero_le _, rfl, rfl, hide (Below.refl _ _)⟩
      case round =>
        obtain ⟨k, W9, hk, rfl, rfl, hL_9⟩ := hrel
        have hb := hL_9.out
        have hF_9 := hide (hF_3.out.below hb (by omega))
        have hG_9 := hide (hG_3.out.below hb (by omega))
        have hB_9 := hide (hB_3.out.trans (hb.mono (by omega)))
        have b0_9 := (hb.cell (p := ⟨W0.heap.size, 0, none⟩) (by show W0.heap.size < W3.heap.size; omega)).trans b0_3
        have b1_9 := (hb.cell (p := ⟨W0.heap.size, 1, none⟩) (by show W0.heap.size < W3.heap.size; omega)).trans b1_3
        have b2_9 := (hb.cell (p := ⟨W0.heap.size, 2, none⟩) (by show W0.heap.size < W3.heap.size; omega)).trans b2_3
        have g0_9 := (hb.cell (p := ⟨W1.heap.size, 0, none⟩) (by show W1.heap.size < W3.heap.size; omega)).trans g0_3
        have g1_9 := (hb.cell (p := ⟨W1.heap.size, 1, none⟩) (by show W1.heap.size < W3.heap.size; omega)).trans g1_3
        have g2_9 := (hb.cell (p := ⟨W1.heap.size, 2, none⟩) (by show W1.heap.size < W3.heap.size; omega)).trans g2_3
        have hz9 := hb.size
        clear hb hF_3 hG_3 hB_3 b0_3 b1_3 b2_3 g0_3 g1_3 g2_3
        by_cases hlt : k < n
        · have hk1 := readOk_of (xs := xs) (ys := ys) (j := k) HV.out (by omega)
          have hk2 := readV_at (xs := xs) (ys := ys) (j := k) HV.out (by omega)
          have hk3 := readOk_of (xs := xs) (ys := Y1) (j := k) HVC.out (by omega)
          have hk4 := readV_at (xs := xs) (ys := Y1) (j := k) HVC.out (by omega)
          generalize xs.getD k 0 = z at hk2 hk4
          go_wp2_with fail
          refine (implRead_any W0.heap.size A n c B m d xs ys v k _ hF_9.out (by omega)).mono ?_
          rintro e W10 ⟨rfl, hb⟩
          rw [hk1, hk2]
          have hF_10 := hide (hF_9.out.below hb (by omega))
          have hG_10 := hide (hG_9.out.below hb (by omega))
          have hB_10 := hide (hB_9.out.trans (hb.mono (by omega)))
          have b0_10 := (hb.cell (p := ⟨W0.heap.size, 0, none⟩) (by show W0.heap.size < W9.heap.size; omega)).trans b0_9
          have b1_10 := (hb.cell (p := ⟨W0.heap.size, 1, none⟩) (by show W0.heap.size < W9.heap.size; omega)).trans b1_9
          have b2_10 := (hb.cell (p := ⟨W0.heap.size, 2, none⟩) (by show W0.heap.size < W9.heap.size; omega)).trans b2_9
          have g0_10 := (hb.cell (p := ⟨W1.heap.size, 0, none⟩) (by show W1.heap.size < W9.heap.size; omega)).trans g0_9
          have g1_10 := (hb.cell (p := ⟨W1.heap.size, 1, none⟩) (by show W1.heap.size < W9.heap.size; omega)).trans g1_9
          have g2_10 := (hb.cell (p := ⟨W1.heap.size, 2, none⟩) (by show W1.heap.size < W9.heap.size; omega)).trans g2_9
          have hz10 := hb.size
          have hL_10 := hide (hL_9.out.trans (hb.mono (by omega)))
          clear hb hF_9 hG_9 hB_9 b0_9 b1_9 b2_9 g0_9 g1_9 g2_9 hL_9
          go_wp2_with fail
          refine (implRead_any W1.heap.size A1 n1 c1 B1 m1 d1 xs Y1 v k _ hG_10.out (by omega)).mono ?_
          rintro e W11 ⟨rfl, hb⟩
          rw [hk3, hk4]
          have hF_11 := hide (hF_10.out.below hb (by omega))
          have hG_11 := hide (hG_10.out.below hb (by omega))
          have hB_11 := hide (hB_10.out.trans (hb.mono (by omega)))
          have b0_11 := (hb.cell (p := ⟨W0.heap.size, 0, none⟩) (by show W0.heap.size < W10.heap.size; omega)).trans b0_10
          have b1_11 := (hb.cell (p := ⟨W0.heap.size, 1, none⟩) (by show W0.heap.size < W10.heap.size; omega)).trans b1_10
          have b2_11 := (hb.cell (p := ⟨W0.heap.size, 2, none⟩) (by show W0.heap.size < W10.heap.size; omega)).trans b2_10
          have g0_11 := (hb.cell (p := ⟨W1.heap.size, 0, none⟩) (by show W1.heap.size < W10.heap.size; omega)).trans g0_10
          have g1_11 := (hb.cell (p := ⟨W1.heap.size, 1, none⟩) (by show W1.heap.size < W10.heap.size; omega)).trans g1_10
          have g2_11 := (hb.cell (p := ⟨W1.heap.size, 2, none⟩) (by show W1.heap.size < W10.heap.size; omega)).trans g2_10
          have hz11 := hb.size
          have hL_11 := hide (hL_10.out.trans (hb.mono (by omega)))
          clear hb hF_10 hG_10 hB_10 b0_10 b1_10 b2_10 g0_10 g1_10 g2_10 hL_10
          clear hk1 hk2 hk3 hk4
          go_wp2
          go_roundw
          case rel => exact ⟨k + 1, W11, by omega, by go_num, rfl, hL_11⟩
          case measure => simp [intOf]; omega
        · obtain rfl : k = n := by omega
          by_cases hmx : v = 1000
          · have hS2 : swapS xs Y1 v = ⟨[], [], 0, false⟩ := if_neg (by rintro ⟨_, h⟩; exact h hmx)
            clear hmx
            have hr1 : readOk [] [] 0 (j : Int) = false := by simp [readOk, validB, inR]
            have hr2 : readV [] [] 0 (j : Int) = 0 := by simp [readV, hr1]
            go_wp2_with fail
            refine (implSwap_any W1.heap.size A1 n1 c1 B1 m1 d1 xs Y1 v _ hG_9.out (by omega)).mono ?_
            rintro e W10 ⟨A4, n4, c4, B4, m4, d4, rfl, ht⟩
            rw [hS2] at ht ⊢
            have hb : Below W9.heap.size W9 W10 := ht.2.2.2.2.1
            have hD_10 := hide (ht.buf' (by simp) (by simp))
            clear ht hS2
            have hF_10 := hide (hF_9.out.below hb (by omega))
            have hG_10 := hide (hG_9.out.below hb (by omega))
            have hB_10 := hide (hB_9.out.trans (hb.mono (by omega)))
            have b0_10 := (hb.cell (p := ⟨W0.heap.size, 0, none⟩) (by show W0.heap.size < W9.heap.size; omega)).trans b0_9
            have b1_10 := (hb.cell (p := ⟨W0.heap.size, 1, none⟩) (by show W0.heap.size < W9.heap.size; omega)).trans b1_9
            have b2_10 := (hb.cell (p := ⟨W0.heap.size, 2, none⟩) (by show W0.heap.size < W9.heap.size; omega)).trans b2_9
            have g0_10 := (hb.cell (p := ⟨W1.heap.size, 0, none⟩) (by show W1.heap.size < W9.heap.size; omega)).trans g0_9
            have g1_10 := (hb.cell (p := ⟨W1.heap.size, 1, none⟩) (by show W1.heap.size < W9.heap.size; omega)).trans g1_9
            have g2_10 := (hb.cell (p := ⟨W1.heap.size, 2, none⟩) (by show W1.heap.size < W9.heap.size; omega)).trans g2_9
            have hz10 := hb.size
            have hL_10 := hide (hL_9.out.trans (hb.mono (by omega)))
            clear hb hF_9 hG_9 hB_9 b0_9 b1_9 b2_9 g0_9 g1_9 g2_9 hL_9
            have al_b0 := fun X => (World.cell?_alloc_lt W10 X ⟨W0.heap.size, 0, none⟩ (by show W0.heap.size < W10.heap.size; omega)).trans b0_10
            have al_b1 := fun X => (World.cell?_alloc_lt W10 X ⟨W0.heap.size, 1, none⟩ (by show W0.heap.size < W10.heap.size; omega)).trans b1_10
            have al_b2 := fun X => (World.cell?_alloc_lt W10 X ⟨W0.heap.size, 2, none⟩ (by show W0.heap.size < W10.heap.size; omega)).trans b2_10
            have al_g0 := fun X => (World.cell?_alloc_lt W10 X ⟨W1.heap.size, 0, none⟩ (by show W1.heap.size < W10.heap.size; omega)).trans g0_10
            have al_g1 := fun X => (World.cell?_alloc_lt W10 X ⟨W1.heap.size, 1, none⟩ (by show W1.heap.size < W10.heap.size; omega)).trans g1_10
            have al_g2 := fun X => (World.cell?_alloc_lt W10 X ⟨W1.heap.size, 2, none⟩ (by show W1.heap.size < W10.heap.size; omega)).trans g2_10
            have hFa := hide (hF_10.out.below (alB W10 (.cells #[.slice A4 n4 c4, .slice B4 m4 d4, .int .i64 0] 25)) (by omega))
            have hGa := hide (hG_10.out.below (alB W10 (.cells #[.slice A4 n4 c4, .slice B4 m4 d4, .int .i64 0] 25)) (by omega))
            have hDa := hide (hD_10.out.below (alB W10 (.cells #[.slice A4 n4 c4, .slice B4 m4 d4, .int .i64 0] 25)) (by omega))
            go_wp2_with fail
            refine (implRead_any W10.heap.size A4 n4 c4 B4 m4 d4 [] [] 0 j _ hDa.out (by simp)).mono ?_
            rintro e W11 ⟨rfl, hb'⟩
            rw [hr1, hr2]
            clear hFa hGa hDa al_b0 al_b1 al_b2 al_g0 al_g1 al_g2
            obtain ⟨e0_11, e1_11, e2_11, _, _, _⟩ := AnyOp.cellsOf ((hb'.block W10.heap.size (by simp)).trans (heap_alloc_new W10 _))
            have hb := (alB W10 (.cells #[.slice A4 n4 c4, .slice B4 m4 d4, .int .i64 0] 25)).trans (hb'.mono (by simp))
            have hz11' : W10.heap.size < W11.heap.size := by have := hb'.size; simp at this; omega
            clear hb'
            have hF_11 := hide (hF_10.out.below hb (by omega))
            have hG_11 := hide (hG_10.out.below hb (by omega))
            have hD_11 := hide (hD_10.out.below hb (by omega))
            have hB_11 := hide (hB_10.out.trans (hb.mono (by omega)))
            have b0_11 := (hb.cell (p := ⟨W0.heap.size, 0, none⟩) (by show W0.heap.size < W10.heap.size; omega)).trans b0_10
            have b1_11 := (hb.cell (p := ⟨W0.heap.size, 1, none⟩) (by show W0.heap.size < W10.heap.size; omega)).trans b1_10
            have b2_11 := (hb.cell (p := ⟨W0.heap.size, 2, none⟩) (by show W0.heap.size < W10.heap.size; omega)).trans b2_10
            have g0_11 := (hb.cell (p := ⟨W1.heap.size, 0, none⟩) (by show W1.heap.size < W10.heap.size; omega)).trans g0_10
            have g1_11 := (hb.cell (p := ⟨W1.heap.size, 1, none⟩) (by show W1.heap.size < W10.heap.size; omega)).trans g1_10
            have g2_11 := (hb.cell (p := ⟨W1.heap.size, 2, none⟩) (by show W1.heap.size < W10.heap.size; omega)).trans g2_10
            have hz11 := hb.size
            clear hb hF_10 hG_10 hD_10 hB_10 b0_10 b1_10 b2_10 g0_10 g1_10 g2_10
            go_wp2
            go_ret
            exact ⟨ret_bool (by simp), hB_11.out⟩
          · have hS2 : swapS xs Y1 v = ⟨Y1, Y1, v + 1, true⟩ := if_pos ⟨HVC.out, hmx⟩
            have hvd : validB Y1 Y1 (v + 1) = true := by
              have h := validB_iff.1 HVC.out
              exact validB_iff.2 ⟨by omega, rfl, h.2.2.2.1, h.2.2.2.1, by omega, by omega⟩
            have hr1 := readOk_of (j := j) hvd (by have := hlY.out; omega)
            have hr2 := readV_at (j := j) hvd (by have := hlY.out; omega)
            rw [HYJ.out] at hr2
            have hv11 : -1 ≤ v + 1 ∧ v + 1 ≤ 1000 := by omega
            clear hmx hvd
            go_wp2_with fail
            refine (implSwap_any W1.heap.size A1 n1 c1 B1 m1 d1 xs Y1 v _ hG_9.out (by omega)).mono ?_
            rintro e W10 ⟨A4, n4, c4, B4, m4, d4, rfl, ht⟩
            rw [hS2] at ht ⊢
            have hb : Below W9.heap.size W9 W10 := ht.2.2.2.2.1
            have hD_10 := hide (ht.buf' l2 l2)
            clear ht hS2
            have hF_10 := hide (hF_9.out.below hb (by omega))
            have hG_10 := hide (hG_9.out.below hb (by omega))
            have hB_10 := hide (hB_9.out.trans (hb.mono (by omega)))
            have b0_10 := (hb.cell (p := ⟨W0.heap.size, 0, none⟩) (by show W0.heap.size < W9.heap.size; omega)).trans b0_9
            have b1_10 := (hb.cell (p := ⟨W0.heap.size, 1, none⟩) (by show W0.heap.size < W9.heap.size; omega)).trans b1_9
            have b2_10 := (hb.cell (p := ⟨W0.heap.size, 2, none⟩) (by show W0.heap.size < W9.heap.size; omega)).trans b2_9
            have g0_10 := (hb.cell (p := ⟨W1.heap.size, 0, none⟩) (by show W1.heap.size < W9.heap.size; omega)).trans g0_9
            have g1_10 := (hb.cell (p := ⟨W1.heap.size, 1, none⟩) (by show W1.heap.size < W9.heap.size; omega)).trans g1_9
            have g2_10 := (hb.cell (p := ⟨W1.heap.size, 2, none⟩) (by show W1.heap.size < W9.heap.size; omega)).trans g2_9
            have hz10 := hb.size
            have hL_10 := hide (hL_9.out.trans (hb.mono (by omega)))
            clear hb hF_9 hG_9 hB_9 b0_9 b1_9 b2_9 g0_9 g1_9 g2_9 hL_9
            have al_b0 := fun X => (World.cell?_alloc_lt W10 X ⟨W0.heap.size, 0, none⟩ (by show W0.heap.size < W10.heap.size; omega)).trans b0_10
            have al_b1 := fun X => (World.cell?_alloc_lt W10 X ⟨W0.heap.size, 1, none⟩ (by show W0.heap.size < W10.heap.size; omega)).trans b1_10
            have al_b2 := fun X => (World.cell?_alloc_lt W10 X ⟨W0.heap.size, 2, none⟩ (by show W0.heap.size < W10.heap.size; omega)).trans b2_10
            have al_g0 := fun X => (World.cell?_alloc_lt W10 X ⟨W1.heap.size, 0, none⟩ (by show W1.heap.size < W10.heap.size; omega)).trans g0_10
            have al_g1 := fun X => (World.cell?_alloc_lt W10 X ⟨W1.heap.size, 1, none⟩ (by show W1.heap.size < W10.heap.size; omega)).trans g1_10
            have al_g2 := fun X => (World.cell?_alloc_lt W10 X ⟨W1.heap.size, 2, none⟩ (by show W1.heap.size < W10.heap.size; omega)).trans g2_10
            have hFa := hide (hF_10.out.below (alB W10 (.cells #[.slice A4 n4 c4, .slice B4 m4 d4, .int .i64 (v + 1)] 25)) (by omega))
            have hGa := hide (hG_10.out.below (alB W10 (.cells #[.slice A4 n4 c4, .slice B4 m4 d4, .int .i64 (v + 1)] 25)) (by omega))
            have hDa := hide (hD_10.out.below (alB W10 (.cells #[.slice A4 n4 c4, .slice B4 m4 d4, .int .i64 (v + 1)] 25)) (by omega))
            go_wp2_with fail
            refine (implRead_any W10.heap.size A4 n4 c4 B4 m4 d4 Y1 Y1 (v + 1) j _ hDa.out (by simp)).mono ?_
            rintro e W11 ⟨rfl, hb'⟩
            rw [hr1, hr2]
            clear hFa hGa hDa al_b0 al_b1 al_b2 al_g0 al_g1 al_g2
            obtain ⟨e0_11, e1_11, e2_11, _, _, _⟩ := AnyOp.cellsOf ((hb'.block W10.heap.size (by simp)).trans (heap_alloc_new W10 _))
            have hb := (alB W10 (.cells #[.slice A4 n4 c4, .slice B4 m4 d4, .int .i64 (v + 1)] 25)).trans (hb'.mono (by simp))
            have hz11' : W10.heap.size < W11.heap.size := by have := hb'.size; simp at this; omega
            clear hb'
            have hF_11 := hide (hF_10.out.below hb (by omega))
            have hG_11 := hide (hG_10.out.below hb (by omega))
            have hD_11 := hide (hD_10.out.below hb (by omega))
            have hB_11 := hide (hB_10.out.trans (hb.mono (by omega)))
            have b0_11 := (hb.cell (p := ⟨W0.heap.size, 0, none⟩) (by show W0.heap.size < W10.heap.size; omega)).trans b0_10
            have b1_11 := (hb.cell (p := ⟨W0.heap.size, 1, none⟩) (by show W0.heap.size < W10.heap.size; omega)).trans b1_10
            have b2_11 := (hb.cell (p := ⟨W0.heap.size, 2, none⟩) (by show W0.heap.size < W10.heap.size; omega)).trans b2_10
            have g0_11 := (hb.cell (p := ⟨W1.heap.size, 0, none⟩) (by show W1.heap.size < W10.heap.size; omega)).trans g0_10
            have g1_11 := (hb.cell (p := ⟨W1.heap.size, 1, none⟩) (by show W1.heap.size < W10.heap.size; omega)).trans g1_10
            have g2_11 := (hb.cell (p := ⟨W1.heap.size, 2, none⟩) (by show W1.heap.size < W10.heap.size; omega)).trans g2_10
            have hz11 := hb.size
            clear hb hF_10 hG_10 hD_10 hB_10 b0_10 b1_10 b2_10 g0_10 g1_10 g2_10
            go_wp2
            go_ret
            exact ⟨ret_bool (by simp), hB_11.out⟩
set_option maxHeartbeats 1000000 in
theorem walk_FnSwapBuffersRead (a0 : Option Addr) (len cap : Nat) (zs : List Int) (w : World) (h0 : Ints .u8 w w.heap.size a0 len zs) (hc : len ≤ cap) :
    Calls Try.prog 6 #[.slice a0 len cap] w fun e w' => e = .returned (.bool true) ∧ Below w.heap.size w w' := by
  by_cases hl : len ≤ 1048576
  case neg =>
    go_enter Try.func6, Try.ntmps6
    go_wp2
    go_ret
    exact ⟨rfl, Below.refl _ _⟩
  case pos =>
    go_enter Try.func6, Try.ntmps6
    go_wp2_with fail
    refine (drawSwapBuffers_any a0 len cap zs _ h0 hc).mono ?_
    rintro e W0 ⟨A, n, c, B, m, d, xs, ys, v, rfl, hN⟩
    clear h0
    have hF_0 := hide hN.buf
    have hB_0 := hide hN.2.2.2.2.2.2.2.2.2.2
    have hz0 := hB_0.out.size
    clear hN
    have hxl : xs.length = n := hF_0.out.1.1
    have hyl : ys.length = m := hF_0.out.2.1.1
    have hlen := hide (swapS_len xs ys v)
    have he1 := bufEq_self (swapS xs ys v).xs (swapS xs ys v).ys (swapS xs ys v).v
    go_wp2_with fail
    refine (implSwap_any W0.heap.size A n c B m d xs ys v _ (hF_0.out.below (alB _ _) (Nat.le_refl _)) (by simp)).mono ?_
    rintro e W1 ⟨A1, n1, c1, B1, m1, d1, rfl, ht⟩
    have hb := ht.2.2.2.2.1
    have hbb := (alB W0 (.cells #[.slice A n c, .slice B m d, .int .i64 v] 25)).trans (hb.mono (by simp))
    have hF_1 := hide (hF_0.out.below hbb (Nat.le_refl _))
    have hG_1 := hide (ht.buf' hlen.out.1 hlen.out.2)
    have hB_1 := hide (hB_0.out.trans (hbb.mono hz0))
    obtain ⟨b0_1, b1_1, b2_1, _, _, _⟩ := AnyOp.cellsOf ((hb.block W0.heap.size (by simp)).trans (heap_alloc_new W0 _))
    have hz1 : W0.heap.size < W1.heap.size := by have := hb.size; simp at this; omega
    clear hb hbb ht hF_0 hB_0
    go_wp2_with fail
    refine (specSwap_any W0.heap.size A n c B m d xs ys v _ (hF_1.out.below (alB _ _) (by omega)) (by simp; omega)).mono ?_
    rintro e W2 ⟨A2, n2, c2, B2, m2, d2, rfl, ht⟩
    have hb := ht.2.2.2.2.1
    have hbb := (alB W1 (.cells #[.slice A1 n1 c1, .slice B1 m1 d1, .int .i64 (swapS xs ys v).v] 25)).trans (hb.mono (by simp))
    have hH_2 := hide (ht.buf' hlen.out.1 hlen.out.2)
    have hF_2 := hide (hF_1.out.below hbb (by omega))
    have hG_2 := hide (hG_1.out.below hbb (by omega))
    have hB_2 := hide (hB_1.out.trans (hbb.mono (by omega)))
    have b0_2 := (hbb.cell (p := ⟨W0.heap.size, 0, none⟩) hz1).trans b0_1
    have b1_2 := (hbb.cell (p := ⟨W0.heap.size, 1, none⟩) hz1).trans b1_1
    have b2_2 := (hbb.cell (p := ⟨W0.heap.size, 2, none⟩) hz1).trans b2_1
    obtain ⟨g0_2, g1_2, g2_2, _, _, _⟩ := AnyOp.cellsOf ((hb.block W1.heap.size (by simp)).trans (heap_alloc_new W1 _))
    have hz2 : W1.heap.size < W2.heap.size := by have := hb.size; simp at this; omega
    clear hb hbb ht hF_1 hG_1 hB_1 b0_1 b1_1 b2_1
    go_wp2_with fail
    have hGa := hide (hG_2.out.below (alB W2 (.cells #[.slice A2 n2 c2, .slice B2 m2 d2, .int .i64 (swapS xs ys v).v] 25)) (by omega))
    have hHa := hide (hH_2.out.below (alB W2 (.cells #[.slice A2 n2 c2, .slice B2 m2 d2, .int .i64 (swapS xs ys v).v] 25)) (Nat.le_refl _))
    refine (equalBuffers_any W1.heap.size W2.heap.size A1 n1 c1 B1 m1 d1 A2 n2 c2 B2 m2 d2 _ _ _ _ _ _ _ hGa.out.1 hGa.out.2.1 hHa.out.1 hHa.out.2.1 (by simp; omega) (by simp) (by have := hGa.out.2.2.1; omega) (by have := hGa.out.2.2.2.1; omega) (by have := hHa.out.2.2.1; omega) (by have := hHa.out.2.2.2.1; omega)).mono ?_
    rintro e W3 ⟨rfl, hb'⟩
    rw [he1]
    clear hGa hHa
    obtain ⟨h0_3, h1_3, h2_3, _, _, _⟩ := AnyOp.cellsOf ((hb'.block W2.heap.size (by simp)).trans (heap_alloc_new W2 _))
    have hb := (alB W2 (.cells #[.slice A2 n2 c2, .slice B2 m2 d2, .int .i64 (swapS xs ys v).v] 25)).trans (hb'.mono (by simp))
    have hz3' : W2.heap.size < W3.heap.size := by have := hb'.size; simp at this; omega
    clear hb'
    have hF_3 := hide (hF_2.out.below hb (by omega))
    have hG_3 := hide (hG_2.out.below hb (by omega))
    have hH_3 := hide (hH_2.out.below hb (by omega))
    have hB_3 := hide (hB_2.out.trans (hb.mono (by omega)))
    have b0_3 := (hb.cell (p := ⟨W0.heap.size, 0, none⟩) (by show W0.heap.size < W2.heap.size; omega)).trans b0_2
    have b1_3 := (hb.cell (p := ⟨W0.heap.size, 1, none⟩) (by show W0.heap.size < W2.heap.size; omega)).trans b1_2
    have b2_3 := (hb.cell (p := ⟨W0.heap.size, 2, none⟩) (by show W0.heap.size < W2.heap.size; omega)).trans b2_2
    have g0_3 := (hb.cell (p := ⟨W1.heap.size, 0, none⟩) (by show W1.heap.size < W2.heap.size; omega)).trans g0_2
    have g1_3 := (hb.cell (p := ⟨W1.heap.size, 1, none⟩) (by show W1.heap.size < W2.heap.size; omega)).trans g1_2
    have g2_3 := (hb.cell (p := ⟨W1.heap.size, 2, none⟩) (by show W1.heap.size < W2.heap.size; omega)).trans g2_2
    have hz3 := hb.size
    clear hb hF_2 hG_2 hH_2 hB_2 b0_2 b1_2 b2_2 g0_2 g1_2 g2_2
    by_cases hok : (swapS xs ys v).ok = true
    case neg =>
      rw [Bool.not_eq_true] at hok
      rw [hok]
      go_wp2_with fail
      refine (equalBuffers_any W1.heap.size W2.heap.size A1 n1 c1 B1 m1 d1 A2 n2 c2 B2 m2 d2 _ _ _ _ _ _ _ hG_3.out.1 hG_3.out.2.1 hH_3.out.1 hH_3.out.2.1 (by omega) (by omega) (by have := hG_3.out.2.2.1; omega) (by have := hG_3.out.2.2.2.1; omega) (by have := hH_3.out.2.2.1; omega) (by have := hH_3.out.2.2.2.1; omega)).mono ?_
      rintro e W4 ⟨rfl, hb⟩
      rw [he1]
      have hF_4 := hide (hF_3.out.below hb (by omega))
      have hG_4 := hide (hG_3.out.below hb (by omega))
      have hH_4 := hide (hH_3.out.below hb (by omega))
      have hB_4 := hide (hB_3.out.trans (hb.mono (by omega)))
      have b0_4 := (hb.cell (p := ⟨W0.heap.size, 0, none⟩) (by show W0.heap.size < W3.heap.size; omega)).trans b0_3
      have b1_4 := (hb.cell (p := ⟨W0.heap.size, 1, none⟩) (by show W0.heap.size < W3.heap.size; omega)).trans b1_3
      have b2_4 := (hb.cell (p := ⟨W0.heap.size, 2, none⟩) (by show W0.heap.size < W3.heap.size; omega)).trans b2_3
      have g0_4 := (hb.cell (p := ⟨W1.heap.size, 0, none⟩) (by show W1.heap.size < W3.heap.size; omega)).trans g0_3
      have g1_4 := (hb.cell (p := ⟨W1.heap.size, 1, none⟩) (by show W1.heap.size < W3.heap.size; omega)).trans g1_3
      have g2_4 := (hb.cell (p := ⟨W1.heap.size, 2, none⟩) (by show W1.heap.size < W3.heap.size; omega)).trans g2_3
      have h0_4 := (hb.cell (p := ⟨W2.heap.size, 0, none⟩) (by show W2.heap.size < W3.heap.size; omega)).trans h0_3
      have h1_4 := (hb.cell (p := ⟨W2.heap.size, 1, none⟩) (by show W2.heap.size < W3.heap.size; omega)).trans h1_3
      have h2_4 := (hb.cell (p := ⟨W2.heap.size, 2, none⟩) (by show W2.heap.size < W3.heap.size; omega)).trans h2_3
      have hz4 := hb.size
      clear hb hF_3 hG_3 hH_3 hB_3 b0_3 b1_3 b2_3 g0_3 g1_3 g2_3 h0_3 h1_3 h2_3
      go_wp2
      go_ret
      exact ⟨ret_bool (by simp), hB_4.out⟩
    case pos =>
      obtain ⟨hv, hv1⟩ : validB xs ys v = true ∧ v ≠ 1000 := by
        unfold swapS at hok; split at hok
        · assumption
        · simp [noAns] at hok
      have hS : swapS xs ys v = ⟨ys, ys, v + 1, true⟩ := if_pos ⟨hv, hv1⟩
      have hv9 := (validB_iff.1 hv).2.2.2.2
      have hw : IntKind.i64.wrap (v + 1) = v + 1 := IntWalk.i64_in _ (by omega)
      have hvy : validB ys ys (v + 1) = true := by
        have h := validB_iff.1 hv
        exact validB_iff.2 ⟨by omega, rfl, h.2.2.2.1, h.2.2.2.1, by omega, by omega⟩
      simp only [hS] at hG_3 g2_3 ⊢
      have hv8 := (validB_iff.1 hv).1
      have hyx := (validB_iff.1 hv).2.1
      have bn1 := hG_3.out.2.2.1
      have bm1 := hG_3.out.2.2.2.1
      have bn := hF_3.out.2.2.1
      have bm := hF_3.out.2.2.2.1
      clear hS hH_3 h0_3 h1_3 h2_3 he1 hw
      have HV := hide hv
      have HVY := hide hvy
      clear hv hvy
      go_wp2_with fail
      refine (implPend_any W0.heap.size A n c B m d xs ys v _ hF_3.out (by omega)).mono ?_
      rintro e W4 ⟨pA, pn, pc, rfl, hpc1, hpc2, hp, hb⟩
      have hpn : pn ≤ 16 := by have h := hp.1; have := pendS_len xs ys v; omega
      have hP_4 := hide hp.ints
      clear hp
      have hF_4 := hide (hF_3.out.below hb (by omega))
      have hG_4 := hide (hG_3.out.below hb (by omega))
      have hB_4 := hide (hB_3.out.trans (hb.mono (by omega)))
      have b0_4 := (hb.cell (p := ⟨W0.heap.size, 0, none⟩) (by show W0.heap.size < W3.heap.size; omega)).trans b0_3
      have b1_4 := (hb.cell (p := ⟨W0.heap.size, 1, none⟩) (by show W0.heap.size < W3.heap.size; omega)).trans b1_3
      have b2_4 := (hb.cell (p := ⟨W0.heap.size, 2, none⟩) (by show W0.heap.size < W3.heap.size; omega)).trans b2_3
      have g0_4 := (hb.cell (p := ⟨W1.heap.size, 0, none⟩) (by show W1.heap.size < W3.heap.size; omega)).trans g0_3
      have g1_4 := (hb.cell (p := ⟨W1.heap.size, 1, none⟩) (by show W1.heap.size < W3.heap.size; omega)).trans g1_3
      have g2_4 := (hb.cell (p := ⟨W1.heap.size, 2, none⟩) (by show W1.heap.size < W3.heap.size; omega)).trans g2_3
      have hz4 := hb.size
      clear hb hF_3 hG_3 hB_3 b0_3 b1_3 b2_3 g0_3 g1_3 g2_3
      go_wp2
      go_loopw [9] (fun s wr => ∃ (k : Nat) (W9 : World), k ≤ n ∧ s = .int .i64 k ∧ W9 = wr ∧ Hid (Below W4.heap.size W4 W9)) (fun s _ => n - (intOf s).toNat)
      case atStart => exact ⟨0, W4, Nat.zero_le _, rfl, rfl, hide (Below.refl _ _)⟩
      case round =>
        obtain ⟨k, W9, hk, rfl, rfl, hL_9⟩ := hrel
        have hb := hL_9.out
        have hF_9 := hide (hF_4.out.below hb (by omega))
        have hG_9 := hide (hG_4.out.below hb (by omega))
        have hP_9 := hide (hP_4.out.below hb (by omega))
        have hB_9 := hide (hB_4.out.trans (hb.mono (by omega)))
        have b0_9 := (hb.cell (p := ⟨W0.heap.size, 0, none⟩) (by show W0.heap.size < W4.heap.size; omega)).trans b0_4
        have b1_9 := (hb.cell (p := ⟨W0.heap.size, 1, none⟩) (by show W0.heap.size < W4.heap.size; omega)).trans b1_4
        have b2_9 := (hb.cell (p := ⟨W0.heap.size, 2, none⟩) (by show W0.heap.size < W4.heap.size; omega)).trans b2_4
        have g0_9 := (hb.cell (p := ⟨W1.heap.size, 0, none⟩) (by show W1.heap.size < W4.heap.size; omega)).trans g0_4
        have g1_9 := (hb.cell (p := ⟨W1.heap.size, 1, none⟩) (by show W1.heap.size < W4.heap.size; omega)).trans g1_4
        have g2_9 := (hb.cell (p := ⟨W1.heap.size, 2, none⟩) (by show W1.heap.size < W4.heap.size; omega)).trans g2_4
        have hz9 := hb.size
        clear hb hF_4 hG_4 hP_4 hB_4 b0_4 b1_4 b2_4 g0_4 g1_4 g2_4
        by_cases hlt : k < n
        · have hk1 := readOk_of (xs := xs) (ys := ys) (j := k) HV.out (by omega)
          have hk2 := readV_at (xs := xs) (ys := ys) (j := k) HV.out (by omega)
          have hk3 := readOk_of (xs := ys) (ys := ys) (j := k) HVY.out (by omega)
          have hk4 := readV_at (xs := ys) (ys := ys) (j := k) HVY.out (by omega)
          have hk5 := hasI_pendS (xs := xs) (ys := ys) (k := k) HV.out (by omega)
          generalize xs.getD k 0 = z at hk2 hk5
          generalize ys.getD k 0 = y at hk4 hk5
          go_wp2_with fail
          refine (implRead_any W0.heap.size A n c B m d xs ys v k _ hF_9.out (by omega)).mono ?_
          rintro e W10 ⟨rfl, hb⟩
          rw [hk1, hk2]
          have hF_10 := hide (hF_9.out.below hb (by omega))
          have hG_10 := hide (hG_9.out.below hb (by omega))
          have hP_10 := hide (hP_9.out.below hb (by omega))
          have hB_10 := hide (hB_9.out.trans (hb.mono (by omega)))
          have b0_10 := (hb.cell (p := ⟨W0.heap.size, 0, none⟩) (by show W0.heap.size < W9.heap.size; omega)).trans b0_9
          have b1_10 := (hb.cell (p := ⟨W0.heap.size, 1, none⟩) (by show W0.heap.size < W9.heap.size; omega)).trans b1_9
          have b2_10 := (hb.cell (p := ⟨W0.heap.size, 2, none⟩) (by show W0.heap.size < W9.heap.size; omega)).trans b2_9
          have g0_10 := (hb.cell (p := ⟨W1.heap.size, 0, none⟩) (by show W1.heap.size < W9.heap.size; omega)).trans g0_9
          have g1_10 := (hb.cell (p := ⟨W1.heap.size, 1, none⟩) (by show W1.heap.size < W9.heap.size; omega)).trans g1_9
          have g2_10 := (hb.cell (p := ⟨W1.heap.size, 2, none⟩) (by show W1.heap.size < W9.heap.size; omega)).trans g2_9
          have hz10 := hb.size
          have hL_10 := hide (hL_9.out.trans (hb.mono (by omega)))
          clear hb hF_9 hG_9 hP_9 hB_9 b0_9 b1_9 b2_9 g0_9 g1_9 g2_9 hL_9
          go_wp2_with fail
          refine (implRead_any W1.heap.size A1 n1 c1 B1 m1 d1 ys ys (v + 1) k _ hG_10.out (by omega)).mono ?_
          rintro e W11 ⟨rfl, hb⟩
          rw [hk3, hk4]
          have hF_11 := hide (hF_10.out.below hb (by omega))
          have hG_11 := hide (hG_10.out.below hb (by omega))
          have hP_11 := hide (hP_10.out.below hb (by omega))
          have hB_11 := hide (hB_10.out.trans (hb.mono (by omega)))
          have b0_11 := (hb.cell (p := ⟨W0.heap.size, 0, none⟩) (by show W0.heap.size < W10.heap.size; omega)).trans b0_10
          have b1_11 := (hb.cell (p := ⟨W0.heap.size, 1, none⟩) (by show W0.heap.size < W10.heap.size; omega)).trans b1_10
          have b2_11 := (hb.cell (p := ⟨W0.heap.size, 2, none⟩) (by show W0.heap.size < W10.heap.size; omega)).trans b2_10
          have g0_11 := (hb.cell (p := ⟨W1.heap.size, 0, none⟩) (by show W1.heap.size < W10.heap.size; omega)).trans g0_10
          have g1_11 := (hb.cell (p := ⟨W1.heap.size, 1, none⟩) (by show W1.heap.size < W10.heap.size; omega)).trans g1_10
          have g2_11 := (hb.cell (p := ⟨W1.heap.size, 2, none⟩) (by show W1.heap.size < W10.heap.size; omega)).trans g2_10
          have hz11 := hb.size
          have hL_11 := hide (hL_10.out.trans (hb.mono (by omega)))
          clear hb hF_10 hG_10 hP_10 hB_10 b0_10 b1_10 b2_10 g0_10 g1_10 g2_10 hL_10
          clear hk1 hk2 hk3 hk4
          by_cases hzy : z = y
          · have hk6 : hasI (pendS xs ys v) k = false := by rw [hk5]; simp [hzy]
            have e1 : (z != y) = false := by simp [hzy]
            clear hk5 hzy
            go_wp2_with (go_at_call 22; refine (lawsIsIn_any W4.heap.size pA pn pc (pendS xs ys v) k _ hP_11.out (by omega)).mono ?_; rintro e w' ⟨rfl, rfl⟩)
            go_roundw
            case rel => exact ⟨k + 1, W11, by omega, by go_num, rfl, hL_11⟩
            case measure => simp [intOf]; omega
          · have hk6 : hasI (pendS xs ys v) k = true := by rw [hk5]; simp [hzy]
            have e1 : (z != y) = true := by simp [hzy]
            clear hk5 hzy
            go_wp2_with (go_at_call 22; refine (lawsIsIn_any W4.heap.size pA pn pc (pendS xs ys v) k _ hP_11.out (by omega)).mono ?_; rintro e w' ⟨rfl, rfl⟩)
            go_roundw
            case rel => exact ⟨k + 1, W11, by omega, by go_num, rfl, hL_11⟩
            case measure => simp [intOf]; omega
        · obtain rfl : k = n := by omega
          go_wp2
          go_ret
          exact ⟨rfl, hB_9.out⟩
end Go.Proofs.Ytmipeegfeglljaa
