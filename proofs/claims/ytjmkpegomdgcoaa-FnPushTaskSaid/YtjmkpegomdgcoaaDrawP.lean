/- The drawn arguments of the laws of pushed tasks. Conditions: none. -/
import Derived.Test.YtjmkpegomdgcoaaLawTaskV
import Derived.Test.YtjmkpegomdgcoaaTaskK
namespace Go.Proofs.Ytjmkpegomdgcoaa
open Go.RowKit
set_option linter.unusedVariables false
set_option linter.unusedSimpArgs false
def DrawsP (w : World) (e : Ending) (w' : World) : Prop :=
  ∃ (A : Option Addr) (n c : Nat) (ts : List Tk) (id rank : Int), e = .returned (.tuple #[.slice A n c, .int .i64 id, .int .i64 rank]) ∧ n ≤ 11 ∧ n ≤ c ∧ c ≤ 9223372036854775807 ∧ Row 39 w' w.heap.size w'.heap.size A (n * 3) (flat ts) ∧ Below w.heap.size w w'
theorem DK.drawsP {w W W' : World} {R p n c : Nat} {A : Option Addr} {x y : Int} (h : DK W R p n (.slice A n c) W') (hb : Below w.heap.size w W) (hR : w.heap.size ≤ R) : DrawsP w (.returned (.tuple #[.slice A n c, .int .i64 x, .int .i64 y])) W' := by
  obtain ⟨ts, a1, a2, hrow⟩ := h.row
  exact ⟨A, n, c, ts, x, y, rfl, h.le, a1, a2, hrow.mono hb.size (Nat.le_refl _), below_grownK hb h.grown hR⟩
theorem DK.ints {w W : World} {R p n c : Nat} {A : Option Addr} (h : DK w R p n (.slice A n c) W) : ∃ ts : List Tk, Ints .i64 W W.heap.size A (n * 3) (flat ts) := by
  obtain ⟨ts, _, _, hrow⟩ := h.row
  exact ⟨ts, hrow.ints⟩
set_option maxHeartbeats 2000000 in
theorem drawPush_any (A : Option Addr) (n c : Nat) (zs : List Int) (w : World) (hA : Ints .u8 w w.heap.size A n zs) (hnc : n ≤ c) : Calls Try.prog 19 #[.slice A n c] w (DrawsP w) := by
  go_enter Try.func19, Try.ntmps19
  go_wp2_with fail
  refine (newReader_any A n c zs _ hA hnc).mono ?_
  rintro e W0 ⟨R, hR, hR', rfl, hr, hb⟩
  have HB := hide hb
  have hbz := hb.size
  clear hA hb
  go_wp2_with fail
  refine (anyTasks_any R 0 W0 hr (by omega)).mono ?_
  rintro e W1 ⟨A1, n1, c1, rfl, hk, hn1⟩
  have HK1 := hide hk
  clear hk hr
  go_wp2_with fail
  refine (one_lit R (0 + 60) [3, 15, 29, 99, 100, -1] 6 _ HK1.out.rd (by omega) (by rfl) (by omega) (by omega)).mono ?_
  rintro e W2 ⟨y, hy, rfl, hr2, hg2⟩
  have HK2 := hide (HK1.out.far hg2 hr2 hR')
  clear hy hr2 hg2 HK1
  by_cases hn0 : n1 = 0
  · subst hn0
    go_wp2_with fail
    refine (one_lit R (0 + 60 + 1) [0, 5, 50, 51, -1, 12] 6 _ HK2.out.rd (by omega) (by rfl) (by omega) (by omega)).mono ?_
    rintro e W3 ⟨z, hz, rfl, hr3, hg3⟩
    have D := hide ((HK2.out.far hg3 hr3 hR').drawsP (x := y) (y := z) HB.out hR)
    clear hz hr3 hg3 HK2
    go_wp2
    exact bodyPost_ret (v := .tuple #[_, _, _]) (by simp [results, Try.results19, go_sem]) rfl D.out
  · have hn2 : 0 < (n1 : Int) := by omega
    go_wp2_with fail
    refine (pick_any R (0 + 60 + 1) 3 _ HK2.out.rd (by omega) (by omega) (by omega)).mono ?_
    rintro e W3 ⟨k, hk, rfl, hr3, hg3⟩
    have HK3 := hide (HK2.out.far hg3 hr3 hR')
    clear hk hr3 hg3 HK2
    by_cases hk0 : k = 0
    · subst hk0
      go_wp2_with fail
      refine (pick_any R (0 + 60 + 1 + 1) n1 _ HK3.out.rd (by omega) (by omega) (by omega)).mono ?_
      rintro e W4 ⟨j, ⟨hj0, hj1, _⟩, rfl, hr4, hg4⟩
      obtain ⟨j, rfl⟩ := Int.eq_ofNat_of_zero_le hj0
      have hj2 : j < n1 := by have := hj1 (by omega); omega
      have hj3 : (j : Int) < (n1 : Int) := by omega
      have HK4 := hide (HK3.out.far hg4 hr4 hR')
      clear hj1 hj0 hr4 hg4 HK3
      obtain ⟨ts, hI⟩ := HK4.out.ints
      obtain ⟨b, off, rfl, hb9, hcell⟩ := hI.2.2 (by omega)
      have hc0 := hcell (j * 3) (by omega)
      generalize (flat ts).getD (j * 3) 0 = x at hc0
      clear hcell hI hn0
      go_wp2_with fail
      refine (one_lit R (0 + 60 + 1 + 1 + 1) [0, 5, 50, 51, -1, 12] 6 _ HK4.out.rd (by omega) (by rfl) (by omega) (by omega)).mono ?_
      rintro e W5 ⟨z, hz, rfl, hr5, hg5⟩
      have D := hide ((HK4.out.far hg5 hr5 hR').drawsP (x := x) (y := z) HB.out hR)
      clear hz hr5 hg5 HK4 hc0
      go_wp2
      exact bodyPost_ret (v := .tuple #[_, _, _]) (by simp [results, Try.results19, go_sem]) rfl D.out
    · have g1 : (k == 0) = false := by simpa using hk0
      go_wp2_with fail
      refine (one_lit R (0 + 60 + 1 + 1) [0, 5, 50, 51, -1, 12] 6 _ HK3.out.rd (by omega) (by rfl) (by omega) (by omega)).mono ?_
      rintro e W4 ⟨z, hz, rfl, hr4, hg4⟩
      have D := hide ((HK3.out.far hg4 hr4 hR').drawsP (x := y) (y := z) HB.out hR)
      clear hz hr4 hg4 HK3
      go_wp2
      exact bodyPost_ret (v := .tuple #[_, _, _]) (by simp [results, Try.results19, go_sem]) rfl D.out
end Go.Proofs.Ytjmkpegomdgcoaa
