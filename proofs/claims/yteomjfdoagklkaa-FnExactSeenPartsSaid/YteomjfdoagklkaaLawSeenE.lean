/- FnExactSeenParts: the walk. Conditions: none. -/
import Derived.Test.YteomjfdoagklkaaSeen
namespace Go.Proofs.Yteomjfdoagklkaa
open Go.RowKit
set_option linter.unusedVariables false

theorem seenS_len (xs : List Int) (v a : Int) : (seenS xs v a).length ≤ 8 := by
  unfold seenS
  split
  · rename_i h
    have h1 := seenTo_len v a xs xs.length
    simp [seenOk] at h
    omega
  · simp

set_option maxHeartbeats 2000000 in
theorem walk_FnExactSeenParts (a : Option Addr) (n c : Nat) (xs : List Int) (v t : Int) (w : World) (h : Ints .i64 w w.heap.size a n xs) (hc : n ≤ c) (w1 : (Lit.int .i64 v).wf = true) (w2 : (Lit.int .i64 t).wf = true) :
    Calls Try.prog 12 #[.slice a n c, .int .i64 v, .int .i64 t] w fun e w' => e = .returned (.bool true) ∧ Below w.heap.size w w' := by
  by_cases hl : n ≤ 1048576
  case neg =>
    go_enter Try.func12, Try.ntmps12
    go_wp2
    go_ret
    exact ⟨rfl, Below.refl _ _⟩
  case pos =>
    have hlen := hide (seenS_len xs v t)
    have hB0 := Below.refl w.heap.size w
    have hxl := h.1
    have he1 := listEq_self (seenS xs v t)
    have he2 := listEq_self xs
    go_enter Try.func12, Try.ntmps12
    go_wp2_with fail
    refine (toIntS_any a n c xs _ h hl).mono ?_
    rintro e W1 ⟨p1A, p1n, p1c, rfl, p1nc, p1cm, p1_0, hb⟩
    have hz1 := hb.size
    have h_1 := h.below hb (by omega)
    clear h
    have hB1 := hB0.trans (hb.mono (by omega))
    clear hB0
    clear hb
    have p1l : p1n ≤ 1048576 := by have := p1_0.1; omega
    go_wp2_with fail
    refine (specSeen_any _ p1A p1n p1c xs v t _ p1_0.ints (Nat.le_refl _) (by omega)).mono ?_
    rintro e W2 ⟨g0A, g0n, g0c, rfl, g0nc, g0cm, g0_0, hb⟩
    have hz2 := hb.size
    have h_2 := h_1.below hb (by omega)
    clear h_1
    have p1_2 := p1_0.belowS hb
    clear p1_0
    have hB2 := hB1.trans (hb.mono (by omega))
    clear hB1
    clear hb
    have g0l : g0n ≤ 8 := by have := g0_0.1; have := hlen.out; omega
    clear p1_2
    go_wp2_with fail
    refine (toIntS_any a n c xs _ (h_2.more (by omega)) hl).mono ?_
    rintro e W3 ⟨x0A, x0n, x0c, rfl, x0nc, x0cm, x0_0, hb⟩
    have hz3 := hb.size
    have h_3 := h_2.below hb (by omega)
    clear h_2
    have g0_3 := g0_0.belowS hb
    clear g0_0
    have hB3 := hB2.trans (hb.mono (by omega))
    clear hB2
    clear hb
    have x0l : x0n ≤ 1048576 := by have := x0_0.1; omega
    go_wp2_with fail
    refine (implSeen_any _ x0A x0n x0c xs v t _ x0_0.ints (Nat.le_refl _) (by omega)).mono ?_
    rintro e W4 ⟨r0A, r0n, r0c, rfl, r0nc, r0cm, r0_0, hb⟩
    have hz4 := hb.size
    have h_4 := h_3.below hb (by omega)
    clear h_3
    have g0_4 := g0_3.belowS hb
    clear g0_3
    have x0_4 := x0_0.belowS hb
    clear x0_0
    have hB4 := hB3.trans (hb.mono (by omega))
    clear hB3
    clear hb
    have r0l : r0n ≤ 8 := by have := r0_0.1; have := hlen.out; omega
    go_wp2_with fail
    refine (eqIntS_any _ _ r0A g0A r0n g0n r0c g0c _ _ _ r0_0.ints g0_4.ints (by omega) (by omega)).mono ?_
    rintro e W5 ⟨rfl, hb⟩
    have hz5 := hb.size
    have h_5 := h_4.below hb (by omega)
    clear h_4
    have g0_5 := g0_4.belowS hb
    clear g0_4
    have x0_5 := x0_4.belowS hb
    clear x0_4
    have r0_5 := r0_0.belowS hb
    clear r0_0
    have hB5 := hB4.trans (hb.mono (by omega))
    clear hB4
    clear hb
    go_wp2_with fail
    refine (toIntS_any a n c xs _ (h_5.more (by omega)) hl).mono ?_
    rintro e W6 ⟨y0A, y0n, y0c, rfl, y0nc, y0cm, y0_0, hb⟩
    have hz6 := hb.size
    have h_6 := h_5.below hb (by omega)
    clear h_5
    have g0_6 := g0_5.belowS hb
    clear g0_5
    have x0_6 := x0_5.belowS hb
    clear x0_5
    have r0_6 := r0_5.belowS hb
    clear r0_5
    have hB6 := hB5.trans (hb.mono (by omega))
    clear hB5
    clear hb
    have y0l : y0n ≤ 1048576 := by have := y0_0.1; omega
    go_wp2_with fail
    refine (eqIntS_any _ _ x0A y0A x0n y0n x0c y0c _ _ _ x0_6.ints y0_0.ints (by omega) (by omega)).mono ?_
    rintro e W7 ⟨rfl, hb⟩
    have hz7 := hb.size
    have h_7 := h_6.below hb (by omega)
    clear h_6
    have g0_7 := g0_6.belowS hb
    clear g0_6
    have x0_7 := x0_6.belowS hb
    clear x0_6
    have r0_7 := r0_6.belowS hb
    clear r0_6
    have y0_7 := y0_0.belowS hb
    clear y0_0
    have hB7 := hB6.trans (hb.mono (by omega))
    clear hB6
    clear hb
    clear y0_7
    go_wp2_with fail
    refine (markIntS_any _ _ _ x0A x0n x0c _ 1 _ x0_7 (by omega) (by omega)).mono ?_
    rintro e W8 ⟨rfl, hrow, ho⟩
    have hz8 := ho.size
    have h_8 := h_7.only ho (by omega) (by omega)
    clear h_7
    have g0_8 := g0_7.far ho (by omega)
    clear g0_7
    have r0_8 := r0_7.far ho (by omega)
    clear r0_7
    have hB8 := hB7.trans (ho.below (by omega) (by omega))
    clear hB7
    clear ho
    clear x0_7
    have x0_m8 := hrow
    clear hrow
    clear x0_m8
    go_wp2_with fail
    refine (eqIntS_any _ _ r0A g0A r0n g0n r0c g0c _ _ _ r0_8.ints g0_8.ints (by omega) (by omega)).mono ?_
    rintro e W9 ⟨rfl, hb⟩
    have hz9 := hb.size
    have h_9 := h_8.below hb (by omega)
    clear h_8
    have g0_9 := g0_8.belowS hb
    clear g0_8
    have r0_9 := r0_8.belowS hb
    clear r0_8
    have hB9 := hB8.trans (hb.mono (by omega))
    clear hB8
    clear hb
    go_wp2_with fail
    refine (markIntS_any _ _ _ r0A r0n r0c _ 1 _ r0_9 (by omega) (by omega)).mono ?_
    rintro e W10 ⟨rfl, hrow, ho⟩
    have hz10 := ho.size
    have h_10 := h_9.only ho (by omega) (by omega)
    clear h_9
    have g0_10 := g0_9.far ho (by omega)
    clear g0_9
    have hB10 := hB9.trans (ho.below (by omega) (by omega))
    clear hB9
    clear ho
    clear r0_9
    have r0_m10 := hrow
    clear hrow
    go_wp2_with fail
    refine (heldIntS_any _ r0A r0n r0c 1 _ r0_m10.ints (by omega) (by omega)).mono ?_
    rintro e w' ⟨rfl, rfl⟩
    go_wp2_with fail
    refine (toIntS_any a n c xs _ (h_10.more (by omega)) hl).mono ?_
    rintro e W11 ⟨p2A, p2n, p2c, rfl, p2nc, p2cm, p2_0, hb⟩
    have hz11 := hb.size
    have h_11 := h_10.below hb (by omega)
    clear h_10
    have g0_11 := g0_10.belowS hb
    clear g0_10
    have r0_11 := r0_m10.belowS hb
    clear r0_m10
    have hB11 := hB10.trans (hb.mono (by omega))
    clear hB10
    clear hb
    have p2l : p2n ≤ 1048576 := by have := p2_0.1; omega
    go_wp2_with fail
    refine (implSeen_any _ p2A p2n p2c xs v t _ p2_0.ints (Nat.le_refl _) (by omega)).mono ?_
    rintro e W12 ⟨h0A, h0n, h0c, rfl, h0nc, h0cm, h0_0, hb⟩
    have hz12 := hb.size
    have h_12 := h_11.below hb (by omega)
    clear h_11
    have g0_12 := g0_11.belowS hb
    clear g0_11
    have r0_12 := r0_11.belowS hb
    clear r0_11
    have p2_12 := p2_0.belowS hb
    clear p2_0
    have hB12 := hB11.trans (hb.mono (by omega))
    clear hB11
    clear hb
    have h0l : h0n ≤ 8 := by have := h0_0.1; have := hlen.out; omega
    clear p2_12
    go_wp2_with fail
    refine (eqIntS_any _ _ h0A g0A h0n g0n h0c g0c _ _ _ h0_0.ints g0_12.ints (by omega) (by omega)).mono ?_
    rintro e W13 ⟨rfl, hb⟩
    have hz13 := hb.size
    have h_13 := h_12.below hb (by omega)
    clear h_12
    have g0_13 := g0_12.belowS hb
    clear g0_12
    have r0_13 := r0_12.belowS hb
    clear r0_12
    have h0_13 := h0_0.belowS hb
    clear h0_0
    have hB13 := hB12.trans (hb.mono (by omega))
    clear hB12
    clear hb
    go_wp2_with fail
    refine (heldIntS_any _ r0A r0n r0c 1 _ r0_13.ints (by omega) (by omega)).mono ?_
    rintro e w' ⟨rfl, rfl⟩
    have HB := hide hB13
    clear h_13
    clear g0_13
    clear r0_13
    clear h0_13
    clear hB13
    go_wp2
    go_ret
    exact ⟨rfl, HB.out⟩
end Go.Proofs.Yteomjfdoagklkaa
