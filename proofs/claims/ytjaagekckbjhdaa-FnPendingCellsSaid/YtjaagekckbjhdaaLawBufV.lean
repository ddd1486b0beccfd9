/- The drawn laws of ValidBuffers and ReadCell. Conditions: none. -/
import Derived.Test.YtjaagekckbjhdaaLawBufE2
import Derived.Test.YtjaagekckbjhdaaDrawB
namespace Go.Proofs.Ytjaagekckbjhdaa
open Go.RowKit
set_option linter.unusedVariables false

theorem validB_swap (xs ys : List Int) (v : Int) : validB ys xs v = validB xs ys v := by
  rw [Bool.eq_iff_iff, validB_iff, validB_iff]
  constructor
  · rintro ⟨h1, h2, h3, h4, h5⟩; exact ⟨by omega, by omega, h4, h3, h5⟩
  · rintro ⟨h1, h2, h3, h4, h5⟩; exact ⟨by omega, by omega, h4, h3, h5⟩
/-- new buffers, as what a call of the program takes -/
theorem NewB.buf {w w' : World} {n c m d : Nat} {A B : Option Addr} {xs ys : List Int} {v : Int} (h : NewB w w' A n c B m d xs ys v) : Buf w' w'.heap.size A n c B m d xs ys := by
  obtain ⟨k1, k2, k3, k4, k5, k6, k7, k8, rA, rB, hb⟩ := h
  exact ⟨rA.ints, rB.ints, by omega, by omega, k3, k5⟩

set_option maxHeartbeats 4000000 in
theorem walk_FnValidBuffers (a0 : Option Addr) (len cap : Nat) (zs : List Int) (w : World) (h0 : Ints .u8 w w.heap.size a0 len zs) (hc : len ≤ cap) :
    Calls Try.prog 4 #[.slice a0 len cap] w fun e w' => e = .returned (.bool true) ∧ Below w.heap.size w w' := by
  by_cases hl : len ≤ 1048576
  case neg =>
    go_enter Try.func4, Try.ntmps4
    go_wp2
    go_ret
    exact ⟨rfl, Below.refl _ _⟩
  case pos =>
    go_enter Try.func4, Try.ntmps4
    go_wp2_with fail
    refine (drawValidBuffers_any a0 len cap zs _ h0 hc).mono ?_
    rintro e W0 ⟨A, n, c, B, m, d, xs, ys, v, rfl, hN⟩
    clear h0
    have hF := hide hN.buf
    have hB0 := hide hN.2.2.2.2.2.2.2.2.2.2
    have hz0 := hB0.out.size
    clear hN
    have he := validB_swap xs ys v
    go_wp2_with fail
    refine (implValid_any W0.heap.size A n c B m d xs ys v _ (hF.out.below (alB _ _) (Nat.le_refl _)) (by simp)).mono ?_
    rintro e W1 ⟨rfl, hb⟩
    have hbb := (alB W0 (.cells #[.slice A n c, .slice B m d, .int .i64 v] 27)).trans (hb.mono (by simp))
    have hF1 := hide (hF.out.below hbb (Nat.le_refl _))
    have hB1 := hide (hB0.out.trans (hbb.mono hz0))
    obtain ⟨c0_1, c1_1, c2_1, _, _, _⟩ := AnyOp.cellsOf ((hb.block W0.heap.size (by simp)).trans (heap_alloc_new W0 _))
    have hz1 : W0.heap.size < W1.heap.size := by have := hb.size; simp at this; omega
    clear hb hbb hF hB0
    go_wp2_with fail
    refine (specValid_any W0.heap.size A n c B m d xs ys v _ hF1.out (by omega)).mono ?_
    rintro e W2 ⟨rfl, hb⟩
    have hF2 := hide (hF1.out.below hb (by omega))
    have hB2 := hide (hB1.out.trans (hb.mono (by omega)))
    have c0_2 := (hb.cell (p := ⟨W0.heap.size, 0, none⟩) hz1).trans c0_1
    have c1_2 := (hb.cell (p := ⟨W0.heap.size, 1, none⟩) hz1).trans c1_1
    have c2_2 := (hb.cell (p := ⟨W0.heap.size, 2, none⟩) hz1).trans c2_1
    have hz2 := hb.size
    clear hb hF1 hB1 c0_1 c1_1 c2_1
    go_wp2_with fail
    refine (implValid_any W0.heap.size B m d A n c ys xs v _ ⟨hF2.out.2.1, hF2.out.1, hF2.out.2.2.2.1, hF2.out.2.2.1, hF2.out.2.2.2.2.2, hF2.out.2.2.2.2.1⟩ (by omega)).mono ?_
    rintro e W3 ⟨rfl, hb⟩
    have hB3 := hide (hB2.out.trans (hb.mono (by omega)))
    clear hb hF2 hB2 c0_2 c1_2 c2_2
    rw [he]
    go_wp2
    go_ret
    exact ⟨ret_bool (by simp), hB3.out⟩
end Go.Proofs.Ytjaagekckbjhdaa
