/- The drawn law of ReadCell. Conditions: none. -/
import Derived.Test.YtjaagekckbjhdaaLawBufV
namespace Go.Proofs.Ytjaagekckbjhdaa
open Go.RowKit
set_option linter.unusedVariables false
theorem validB_twice {xs ys : List Int} {v : Int} (h : validB xs ys v = true) : validB xs xs v = true := by
  rw [validB_iff] at h ⊢
  exact ⟨h.1, rfl, h.2.2.1, h.2.2.1, h.2.2.2.2⟩
theorem TwoNew.buf {xs ys : List Int} {w w' : World} {A B : Option Addr} {n c m d : Nat} (h : TwoNew xs ys w w' A n c B m d) (hx : xs.length ≤ 2097152) (hy : ys.length ≤ 2097152) : Buf w' w'.heap.size A n c B m d xs ys := by
  obtain ⟨a1, a2, b1, b2, hb, mid, m1, m2, rA, rB⟩ := h
  have h1 := rA.1
  have h2 := rB.1
  exact ⟨(rA.mono (Nat.le_refl _) m2).ints, (rB.mono m1 (Nat.le_refl _)).ints, by omega, by omega, a1, b1⟩
theorem readOk_iff {xs ys : List Int} {v i : Int} : readOk xs ys v i = true ↔ validB xs ys v = true ∧ 0 ≤ i ∧ i ≤ (xs.length : Int) - 1 := by
  simp [readOk, inR]
theorem readV_of {xs ys : List Int} {v : Int} {j : Nat} (h : readOk xs ys v j = true) : readV xs ys v j = xs.getD j 0 := by
  rw [readV, if_pos h]; rfl

set_option maxHeartbeats 4000000 in
theorem walk_FnReadCell (a0 : Option Addr) (len cap : Nat) (zs : List Int) (w : World) (h0 : Ints .u8 w w.heap.size a0 len zs) (hc : len ≤ cap) :
    Calls Try.prog 6 #[.slice a0 len cap] w fun e w' => e = .returned (.bool true) ∧ Below w.heap.size w w' := by
  by_cases hl : len ≤ 1048576
  case neg =>
    go_enter Try.func6, Try.ntmps6
    go_wp2
    go_ret
    exact ⟨rfl, Below.refl _ _⟩
  case pos =>
    go_enter Try.func6, Try.ntmps6
    go_wp2_with fail
    refine (drawReadCell_any a0 len cap zs _ h0 hc).mono ?_
    rintro e W0 ⟨A, n, c, B, m, d, xs, ys, v, i, rfl, hi0, hi1, hN⟩
    clear h0
    have hF := hide hN.buf
    have hB0 := hide hN.2.2.2.2.2.2.2.2.2.2
    have hz0 := hB0.out.size
    clear hN
    go_wp2_with fail
    refine (implRead_any W0.heap.size A n c B m d xs ys v i _ (hF.out.below (alB _ _) (Nat.le_refl _)) (by simp)).mono ?_
    rintro e W1 ⟨rfl, hb⟩
    have hbb := (alB W0 (.cells #[.slice A n c, .slice B m d, .int .i64 v] 27)).trans (hb.mono (by simp))
    have hF1 := hide (hF.out.below hbb (Nat.le_refl _))
    have hB1 := hide (hB0.out.trans (hbb.mono hz0))
    obtain ⟨c0_1, c1_1, c2_1, _, _, _⟩ := AnyOp.cellsOf ((hb.block W0.heap.size (by simp)).trans (heap_alloc_new W0 _))
    have hz1 : W0.heap.size < W1.heap.size := by have := hb.size; simp at this; omega
    clear hb hbb hF hB0
    go_wp2_with fail
    refine (specRead_any W0.heap.size A n c B m d xs ys v i _ hF1.out (by omega)).mono ?_
    rintro e W2 ⟨rfl, hb⟩
    have hF2 := hide (hF1.out.below hb (by omega))
    have hB2 := hide (hB1.out.trans (hb.mono (by omega)))
    have c0_2 := (hb.cell (p := ⟨W0.heap.size, 0, none⟩) hz1).trans c0_1
    have c1_2 := (hb.cell (p := ⟨W0.heap.size, 1, none⟩) hz1).trans c1_1
    have c2_2 := (hb.cell (p := ⟨W0.heap.size, 2, none⟩) hz1).trans c2_1
    have hz2 := hb.size
    clear hb hF1 hB1 c0_1 c1_1 c2_1
    by_cases hok : readOk xs ys v i = true
    case neg =>
      rw [Bool.not_eq_true] at hok
      rw [hok]
      go_wp2
      go_ret
      exact ⟨ret_bool (by simp), hB2.out⟩
    case pos =>
      obtain ⟨hv, hi2, hi3⟩ := readOk_iff.1 hok
      obtain ⟨j, rfl⟩ : ∃ j : Nat, i = (j : Int) := ⟨i.toNat, by omega⟩
      have hxl : xs.length = n := hF2.out.1.1
      have hr1 := readV_of hok
      have hok2 : readOk xs xs v j = true := readOk_iff.2 ⟨validB_twice hv, hi2, hi3⟩
      have hr2 := readV_of hok2
      obtain ⟨y, hy⟩ : ∃ y, xs.getD j 0 = y := ⟨_, rfl⟩
      rw [hy] at hr1 hr2
      have HY := hide hy
      clear hy
      have hd : dropS xs ys v = ⟨xs, xs, v, true⟩ := if_pos hv
      have hv16 := (validB_iff.1 hv).1
      rw [hok, hr1]
      go_wp2_with fail
      refine (implDrop_any W0.heap.size A n c B m d xs ys v _ hF2.out (by omega)).mono ?_
      rintro e W3 ⟨A', n', c', B', m', d', rfl, ht⟩
      rw [hd] at ht ⊢
      have hb : Below W2.heap.size W2 W3 := ht.2.2.2.2.1
      have hG := hide (ht.buf (by show xs.length ≤ 2097152; omega) (by show xs.length ≤ 2097152; omega))
      have hF3 := hide (hF2.out.below hb (by omega))
      have hB3 := hide (hB2.out.trans (hb.mono (by omega)))
      have c0_3 := (hb.cell (p := ⟨W0.heap.size, 0, none⟩) (by show W0.heap.size < W2.heap.size; omega)).trans c0_2
      have c1_3 := (hb.cell (p := ⟨W0.heap.size, 1, none⟩) (by show W0.heap.size < W2.heap.size; omega)).trans c1_2
      have c2_3 := (hb.cell (p := ⟨W0.heap.size, 2, none⟩) (by show W0.heap.size < W2.heap.size; omega)).trans c2_2
      have hz3 := hb.size
      clear hb ht hF2 hB2 c0_2 c1_2 c2_2 hd
      go_wp2_with fail
      refine (implRead_any W3.heap.size A' n' c' B' m' d' xs xs v j _ (hG.out.below (alB _ _) (Nat.le_refl _)) (by simp)).mono ?_
      rintro e W4 ⟨rfl, hb⟩
      rw [hok2, hr2]
      have hbb := (alB W3 (.cells #[.slice A' n' c', .slice B' m' d', .int .i64 v] 27)).trans (hb.mono (by simp))
      have hF4 := hide (hF3.out.below hbb (by omega))
      have hB4 := hide (hB3.out.trans (hbb.mono (by omega)))
      have c0_4 := (hbb.cell (p := ⟨W0.heap.size, 0, none⟩) (by show W0.heap.size < W3.heap.size; omega)).trans c0_3
      clear hb hbb hF3 hB3 c0_3 c1_3 c2_3 hG
      obtain ⟨b, off, rfl, _, hcell⟩ := hF4.out.1.2.2 (by omega)
      have h1 := hcell j (by omega)
      rw [HY.out] at h1
      clear hcell hok hok2 hr1 hr2 HY
      have hj1 : (j : Int) < (n : Int) := by omega
      go_wp2
      go_ret
      exact ⟨rfl, hB4.out⟩
end Go.Proofs.Ytjaagekckbjhdaa
