/- The law FnExactCommonBox. Conditions: none. -/
import Derived.Test.YtmflfpjcaijmmaaTreeO
namespace Go.Proofs.Ytmflfpjcaijmmaa
open Go.RowKit
set_option linter.unusedVariables false
set_option maxRecDepth 100000 in
set_option maxHeartbeats 4000000 in
theorem walk_FnExactCommonBox (a0 : Option Addr) (len cap : Nat) (zs : List Int) (x y : Int) (w : World) (h0 : Ints .i64 w w.heap.size a0 (len * 9) zs) (hc : len ≤ cap) (hm : cap ≤ maxLen) (w1 : (Lit.int .i64 x).wf = true) (w2 : (Lit.int .i64 y).wf = true) :
    Calls Try.prog 5 #[.slice a0 len cap, .int .i64 x, .int .i64 y] w fun e w' => e = .returned (.bool true) ∧ Below w.heap.size w w' := by
  have hmx : len ≤ 9223372036854775807 := by unfold maxLen at hm; omega
  have HTL := hide h0.1
  by_cases hl : len ≤ 1048576
  case neg =>
    have hl' : (1048576 : Int) < (len : Int) := by omega
    clear h0 hl
    go_enter Try.func5, Try.ntmps5
    go_wp2_with fail
    refine (szBoxS_any a0 len cap 1048576 _ hmx (by omega)).mono ?_
    rintro e w' ⟨rfl, rfl⟩
    rw [if_pos (by omega)]
    go_wp2
    go_ret
    exact ⟨rfl, Below.refl _ _⟩
  case pos =>
    have hl' : ¬ ((1048576 : Int) < (len : Int)) := by omega
    have hl2 : ¬ ((1048576 : Int) - (len : Int) < 0) := by omega
    have H_0 := hide h0
    have B_0 := hide (Below.refl w.heap.size w)
    clear h0
    go_enter Try.func5, Try.ntmps5
    go_wp2_with fail
    refine (szBoxS_any a0 len cap 1048576 _ hmx (by omega)).mono ?_
    rintro e W0 ⟨rfl, rfl⟩
    rw [if_neg (by omega)]
    clear hl'
    go_wp2_with fail
    refine (toBoxS_any a0 len cap zs _ (H_0.out.more (by omega)) hl).mono ?_
    rintro e W1 ⟨A1, n1, c1, rfl, p1, q1, r1, hb⟩
    obtain rfl : len = n1 := by have h1 := r1.1; rw [HTL.out] at h1; omega
    have X_1 := hide r1.ints
    clear r1
    have hz1 := hb.size
    have H_1 := hide (H_0.out.below hb (by omega))
    have B_1 := hide (B_0.out.trans (hb.mono (by omega)))
    clear hb H_0 B_0
    go_wp2_with fail
    refine (specCommon_any W1.heap.size A1 len c1 zs x y _ X_1.out (by omega) (by omega)).mono ?_
    rintro e W2 ⟨rfl, hb⟩
    obtain ⟨v, hv⟩ : ∃ v, cmnR zs len x y = v := ⟨_, rfl⟩
    rw [hv]
    have HV := hide hv
    clear hv
    have hvv : (v != v) = false := by simp
    clear X_1
    have hz2 := hb.size
    have H_2 := hide (H_1.out.below hb (by omega))
    have B_2 := hide (B_1.out.trans (hb.mono (by omega)))
    clear hb H_1 B_1
    go_wp2_with fail
    refine (toBoxS_any a0 len cap zs _ (H_2.out.more (by omega)) hl).mono ?_
    rintro e W3 ⟨A3, n3, c3, rfl, p3, q3, r3, hb⟩
    obtain rfl : len = n3 := by have h1 := r3.1; rw [HTL.out] at h1; omega
    have Y_3 := hide r3.ints
    clear r3
    have hz3 := hb.size
    have H_3 := hide (H_2.out.below hb (by omega))
    have B_3 := hide (B_2.out.trans (hb.mono (by omega)))
    clear hb H_2 B_2
    go_wp2_with fail
    refine (implCommon_any W3.heap.size A3 len c3 zs x y _ Y_3.out (by omega) (by omega)).mono ?_
    rintro e W4 ⟨rfl, hb⟩
    rw [HV.out]
    have hz4 := hb.size
    have H_4 := hide (H_3.out.below hb (by omega))
    have B_4 := hide (B_3.out.trans (hb.mono (by omega)))
    have Y_4 := hide (Y_3.out.below hb (by omega))
    clear hb H_3 B_3 Y_3
    go_wp2_with fail
    refine (toBoxS_any a0 len cap zs _ (H_4.out.more (by omega)) hl).mono ?_
    rintro e W5 ⟨A5, n5, c5, rfl, p5, q5, r5, hb⟩
    obtain rfl : len = n5 := by have h1 := r5.1; rw [HTL.out] at h1; omega
    have Z_5 := hide r5.ints
    clear r5
    have hz5 := hb.size
    have H_5 := hide (H_4.out.below hb (by omega))
    have B_5 := hide (B_4.out.trans (hb.mono (by omega)))
    have Y_5 := hide (Y_4.out.below hb (by omega))
    clear hb H_4 B_4 Y_4
    go_wp2_with fail
    refine (eqBoxS_self W3.heap.size W5.heap.size A3 A5 len c3 c5 zs _ Y_5.out Z_5.out (by omega) (by omega) (by omega)).mono ?_
    rintro e W6 ⟨rfl, hb⟩
    have hz6 := hb.size
    have H_6 := hide (H_5.out.below hb (by omega))
    have B_6 := hide (B_5.out.trans (hb.mono (by omega)))
    have Y_6 := hide (Y_5.out.below hb (by omega))
    have Z_6 := hide (Z_5.out.below hb (by omega))
    clear hb H_5 B_5 Y_5 Z_5
    go_wp2
    go_ret
    exact ⟨rfl, B_6.out⟩
end Go.Proofs.Ytmflfpjcaijmmaa
