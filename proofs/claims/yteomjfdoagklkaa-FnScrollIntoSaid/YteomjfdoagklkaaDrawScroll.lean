/- The drawn arguments of ClampScroll and ScrollInto: integers in some range. Conditions: none. -/
import Derived.Test.YteomjfdoagklkaaOne
import Derived.Test.YteomjfdoagklkaaScroll
namespace Go.Proofs.Yteomjfdoagklkaa
open Go.RowKit

theorem someSpace_any (R p : Nat) (w : World) (h : Rd w R p) (hp : p ≤ 800000) :
    Calls Try.prog 39 #[.pointer (some ⟨R, 0, none⟩)] w (Draws R (p + 2) (fun k => -1 ≤ k ∧ k ≤ 200001) w) := by
  go_enter Try.func39, Try.ntmps39
  go_wp2_with fail
  refine (pick_any R p _ _ h (by omega) (by omega) (by omega)).mono ?_
  rintro e W1 ⟨k, ⟨hk0, hk1, _⟩, rfl, hr1, hg1⟩
  have hk := hk1 (by omega)
  clear hk1
  go_wp2_with fail
  refine (one_lit R (p + 1) [0, 100, 300, 1000, 50, 200000, 200001, -1, 5 * k, 700] _ _ hr1 (by omega) (by rfl) (by omega) (by omega)).mono ?_
  rintro e W2 ⟨j, hj, rfl, hr2, hg2⟩
  have D := hide (show Draws R (p + 2) (fun k => -1 ≤ k ∧ k ≤ 200001) w (.returned (.int .i64 j)) W2 from ⟨_, by simp at hj; omega, rfl, hr2, only_trans hg1 hg2⟩)
  clear hj hr2 hg2 hr1 hg1
  go_wp2
  go_ret
  exact D.out

def DrawsThree (w : World) (e : Ending) (w' : World) : Prop :=
  ∃ c v a : Int, (-300000 ≤ c ∧ c ≤ 300000) ∧ (-300000 ≤ v ∧ v ≤ 300000) ∧ (-300000 ≤ a ∧ a ≤ 300000) ∧ e = .returned (.tuple #[.int .i64 c, .int .i64 v, .int .i64 a]) ∧ Below w.heap.size w w'

theorem drawClamp_any (A : Option Addr) (n c : Nat) (zs : List Int) (w : World) (hA : Ints .u8 w w.heap.size A n zs) (hnc : n ≤ c) :
    Calls Try.prog 20 #[.slice A n c] w (DrawsThree w) := by
  go_enter Try.func20, Try.ntmps20
  go_wp2_with fail
  refine (newReader_any A n c zs _ hA hnc).mono ?_
  rintro e W0 ⟨R, hR, hR', rfl, hr, hb⟩
  have H0 := hide hA
  clear hA
  go_wp2_with fail
  refine (someSpace_any R 0 _ hr (by omega)).mono ?_
  rintro e W1 ⟨x, hx, rfl, hr1, hg1⟩
  go_wp2_with fail
  refine (one_lit R 2 [100, 50, 0, 300, 200001, -1, 1000] _ _ hr1 (by omega) (by rfl) (by omega) (by omega)).mono ?_
  rintro e W2 ⟨y, hy, rfl, hr2, hg2⟩
  go_wp2_with fail
  refine (one_lit R 3 [0, 10, -5, 250, 900, 200000, 200001, -200001] _ _ hr2 (by omega) (by rfl) (by omega) (by omega)).mono ?_
  rintro e W3 ⟨z, hz, rfl, hr3, hg3⟩
  have D := hide (show DrawsThree w (.returned (.tuple #[.int .i64 x, .int .i64 y, .int .i64 z])) W3 from
    ⟨x, y, z, by omega, by simp at hy; omega, by simp at hz; omega, rfl, hb.grown (only_trans (only_trans hg1 hg2) hg3) hb.size (fun k hk => by injection hk with hk; omega)⟩)
  clear hx hy hz hr hr1 hr2 hr3 hg1 hg2 hg3 hb
  go_wp2
  go_ret3
  exact D.out
end Go.Proofs.Yteomjfdoagklkaa
