/- The drawn arguments of ScrollInto: integers in some range. Conditions: none. -/
import Derived.Test.YteomjfdoagklkaaDrawScroll
import Derived.Test.YteomjfdoagklkaaScrollInto
import Derived.Deep.DeepCutAuto
namespace Go.Proofs.Yteomjfdoagklkaa
open Go.RowKit
set_option linter.unusedVariables false

def DrawsFive (w : World) (e : Ending) (w' : World) : Prop :=
  ∃ c v a l h : Int, (0 ≤ c ∧ c ≤ 300000) ∧ (0 ≤ v ∧ v ≤ 300000) ∧ (-300000 ≤ a ∧ a ≤ 300000) ∧ (-300000 ≤ l ∧ l ≤ 300000) ∧ (-300000 ≤ h ∧ h ≤ 300000) ∧
    e = .returned (.tuple #[.int .i64 c, .int .i64 v, .int .i64 a, .int .i64 l, .int .i64 h]) ∧ Below w.heap.size w w'
theorem results_tmp5 {fn : Func} {t u v x y : Tmp} (h : fn.results = #[.tmp t, .tmp u, .tmp v, .tmp x, .tmp y]) (tmps : Array Value) (P : Program) (w : World) :
    (results fn tmps).run P w = .ok (.tuple #[tmps.getD t undef, tmps.getD u undef, tmps.getD v undef, tmps.getD x undef, tmps.getD y undef]) w := by simp [results, h]

def IntoRel (w0 : World) (R p : Nat) (lo hi : Int) (s : Value) (wx : World) : Prop := ∃ a : Int, lo ≤ a ∧ a ≤ hi ∧ s = .int .i64 a ∧ Rd wx R p ∧ w0.grownBy wx (some R)

set_option maxHeartbeats 1000000 in
theorem drawInto_any (A : Option Addr) (n c : Nat) (zs : List Int) (w : World) (hA : Ints .u8 w w.heap.size A n zs) (hnc : n ≤ c) :
    Calls Try.prog 21 #[.slice A n c] w (DrawsFive w) := by
  go_enter Try.func21, Try.ntmps21
  go_wp2_with fail
  refine (newReader_any A n c zs _ hA hnc).mono ?_
  rintro e W0 ⟨R, hR, hR', rfl, hr, hb⟩
  clear hA
  go_wp2_with fail
  refine (one_lit R 0 [1000, 500, 100, 0, 300] _ _ hr (by omega) (by rfl) (by omega) (by omega)).mono ?_
  rintro e W1 ⟨x, hx, rfl, hr1, hg1⟩
  obtain ⟨hx0, hx1⟩ : 0 ≤ x ∧ x ≤ 1000 := by simp at hx; omega
  clear hx
  go_wp2_with fail
  refine (one_lit R 1 [100, 50, 300, 0, 1000] _ _ hr1 (by omega) (by rfl) (by omega) (by omega)).mono ?_
  rintro e W2 ⟨y, hy, rfl, hr2, hg2⟩
  obtain ⟨hy0, hy1⟩ : 0 ≤ y ∧ y ≤ 1000 := by simp at hy; omega
  clear hy
  have hga := only_trans hg1 hg2
  clear hg1 hg2 hr hr1
  go_wp2_with fail
  refine (pick_any R 2 _ _ hr2 (by omega) (by omega) (by omega)).mono ?_
  rintro e W3 ⟨k, ⟨hk0, hk1, _⟩, rfl, hr3, hg3⟩
  have hk2 := hk1 (by omega)
  clear hk1
  go_wp2_with fail
  refine (specClampIn_any _ _ _ _ (by omega) (by omega)).mono ?_
  rintro e w' ⟨rfl, rfl⟩
  have hcl := clampV_bd x y (4 * k) hx0 hy0
  generalize clampV x y (4 * k) = a0 at hcl
  obtain ⟨ha0, ha1⟩ := hcl
  have hgb := only_trans hga hg3
  clear hga hg3 hr2
  go_wp2_with fail
  refine (pick_any R 3 _ _ hr3 (by omega) (by omega) (by omega)).mono ?_
  rintro e W4 ⟨j, ⟨hj0, hj1, _⟩, rfl, hr4, hg4⟩
  clear hj1
  have hgc := only_trans hgb hg4
  clear hgb hg4 hr3
  go_upto_if 29 with fail
  go_cut [10] (fun s wx => IntoRel W0 R 5 (-1) 2000 s wx)
  case first =>
    go_wp2_with fail
    · refine (one_lit R 4 [-1, 2000] _ _ hr4 (by omega) (by rfl) (by omega) (by omega)).mono ?_
      rintro e W5 ⟨z, hz, rfl, hr5, hg5⟩
      have D := hide (show IntoRel W0 R 5 (-1) 2000 (.int .i64 z) W5 from ⟨z, by simp at hz; omega, by simp at hz; omega, rfl, hr5, only_trans hgc hg5⟩)
      clear hz
      go_wp2_with fail
      go_meet
      exact D.out
    · go_meet
      exact ⟨a0, by omega, by omega, rfl, hr4.mono (by omega), hgc⟩
  case rest =>
    obtain ⟨a, a0', a1', rfl, hr5, hg5⟩ := hcut
    clear hr4 hgc
    by_cases hx3 : x ≤ 250
    all_goals
      go_wp2_with fail
      refine (pick_any R 5 _ _ hr5 (by omega) (by omega) (by omega)).mono ?_
      rintro e W6 ⟨i, ⟨hi0, hi1, hi2⟩, rfl, hr6, hg6⟩
      have hi3 : i ≤ 300 := by omega
      clear hi1 hi2
      have hl0 := Int.emod_nonneg (i * 4) (show x + 1 ≠ 0 by omega)
      have hl1 := Int.emod_lt_of_pos (i * 4) (show 0 < x + 1 by omega)
      have hgd := only_trans hg5 hg6
      clear hg5 hg6 hr5
      go_wp2_with fail
      refine (one_lit R 6 [0, 10, 50, 120, 400] _ _ hr6 (by omega) (by rfl) (by omega) (by omega)).mono ?_
      rintro e W7 ⟨u, hu, rfl, hr7, hg7⟩
      obtain ⟨hu0, hu1⟩ : 0 ≤ u ∧ u ≤ 400 := by simp at hu; omega
      clear hu
      have hge := only_trans hgd hg7
      clear hgd hg7 hr6
      go_wp2_with fail
      all_goals
        refine (pick_any R 7 _ _ hr7 (by omega) (by omega) (by omega)).mono ?_
        rintro e W8 ⟨o, ⟨ho0, ho1, _⟩, rfl, hr8, hg8⟩
        clear ho1
        have hgf := only_trans hge hg8
        clear hge hg8 hr7
        generalize i * 4 % (x + 1) = l at hl0 hl1 ⊢
        go_upto_if 51 with fail
        go_cut [12] (fun s wx => IntoRel W0 R 9 (-1) 2000 s wx)
        case first =>
          go_wp2_with fail
          · refine (one_lit R 8 [l - 1, x + 1] _ _ hr8 (by omega) (by rfl) (by omega) (by omega)).mono ?_
            rintro e W5 ⟨z, hz, rfl, hr5, hg5⟩
            have D := hide (show IntoRel W0 R 9 (-1) 2000 (.int .i64 z) W5 from ⟨z, by simp at hz; omega, by simp at hz; omega, rfl, hr5, only_trans hgf hg5⟩)
            clear hz
            go_wp2_with fail
            go_meet
            exact D.out
          · go_meet
            exact ⟨_, by omega, by omega, rfl, hr8.mono (by omega), hgf⟩
        case rest =>
          obtain ⟨b, b0, b1, rfl, hr9, hg9⟩ := hcut
          have D := hide (show DrawsFive w (.returned (.tuple #[.int .i64 x, .int .i64 y, .int .i64 a, .int .i64 l, .int .i64 b])) _ from
            ⟨x, y, a, l, b, by omega, by omega, by omega, by omega, by omega, rfl, hb.grown hg9 hb.size (fun k hk => by injection hk with hk; omega)⟩)
          clear hgf hg9 hr9 hr8 hb
          go_wp2
          refine bodyPost_ret (results_tmp5 rfl _ _ _) rfl ?_
          exact D.out
end Go.Proofs.Yteomjfdoagklkaa
