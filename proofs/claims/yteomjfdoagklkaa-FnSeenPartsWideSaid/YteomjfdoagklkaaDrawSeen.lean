/- The drawn arguments of SeenParts. Conditions: none. -/
import Derived.Test.YteomjfdoagklkaaSpoil
namespace Go.Proofs.Yteomjfdoagklkaa
open Go.RowKit
set_option linter.unusedVariables false

/-- a new list of at most m numbers and two integers are handed back -/
def DrawsSeen (w : World) (e : Ending) (w' : World) : Prop :=
  ∃ (A : Option Addr) (n c : Nat) (ys : List Int) (v a : Int), n ≤ 10 ∧ (-300000 ≤ v ∧ v ≤ 300000) ∧ (-300000 ≤ a ∧ a ≤ 300000) ∧ e = .returned (.tuple #[.slice A n c, .int .i64 v, .int .i64 a]) ∧ n ≤ c ∧ c ≤ 9223372036854775807 ∧
    Row 3 w' w.heap.size w'.heap.size A n ys ∧ Below w.heap.size w w'

/-- a list that is being drawn -/
def Drawing (W0 : World) (R m : Nat) (v : Value) (wr : World) : Prop := ∃ ys, Own 3 1 wr W0.heap.size v m ys ∧ Rd wr R (1 + m) ∧ W0.grownBy wr (some R)
theorem Own.ints {w : World} {base : Nat} {v : Value} {n : Nat} {xs : List Int} (h : Own 3 1 w base v n xs) : ∃ (A : Option Addr) (c : Nat), v = .slice A n c ∧ n ≤ c ∧ c ≤ 9223372036854775807 ∧ Row 3 w base w.heap.size A n xs := by
  obtain ⟨A, c, e, h1, h2, h3⟩ := h.form
  rw [Nat.mul_one] at h3
  exact ⟨A, c, e, h1, h2, h3⟩

set_option maxHeartbeats 2000000 in
theorem drawSeen_any (A : Option Addr) (n c : Nat) (zs : List Int) (w : World) (hA : Ints .u8 w w.heap.size A n zs) (hnc : n ≤ c) :
    Calls Try.prog 28 #[.slice A n c] w (DrawsSeen w) := by
  obtain ⟨i0, hi, hz0, hz1, hz2⟩ := info_parts int_info
  go_enter Try.func28, Try.ntmps28
  go_wp2_with fail
  refine (newReader_any A n c zs _ hA hnc).mono ?_
  rintro e W0 ⟨R, hR, hR', rfl, hr, hb⟩
  clear hA
  have hbz := hb.size
  have HS := hide (Own.made 3 1 W0 #[] 0 W0.heap.size (Nat.le_refl _) (by omega) rfl)
  have hr0 := hr.alloc (.cells #[] 3)
  have hg0 : W0.grownBy (W0.alloc (.cells #[] 3)) (some R) := World.grownBy_alloc _ _ _
  go_wp2_with fail
  refine (one_at R 0 [4, 6, 3, 1, 0, 8, 9] _ _ _ hr0 (by omega) (by rfl) (by omega) (by omega) (by simp)).mono ?_
  rintro e W1 ⟨x, hx, rfl, hr1, hg1⟩
  obtain ⟨hx0, hx1⟩ : 0 ≤ x ∧ x ≤ 9 := by simp at hx; omega
  have HS1 := hide (show Drawing W0 R 0 (.slice (some ⟨W0.heap.size, 0, none⟩) 0 0) W1 from ⟨[], HS.out.farR hg1 hR', hr1, only_trans hg0 hg1⟩)
  clear hx hr hr0 hr1 hg0 hg1 HS
  go_wp2_with fail
  go_loopw [6, 7] (fun s6 s7 wr => ∃ (q : Int) (m : Nat), 0 ≤ q ∧ q + m ≤ 9 ∧ s7 = .int .i64 q ∧ Hid (Drawing W0 R m s6 wr)) (fun _ s7 _ => (intOf s7).toNat)
  case atStart => exact ⟨x, 0, hx0, by omega, rfl, HS1⟩
  case round =>
    obtain ⟨q, m, hq0, hqm, rfl, A⟩ := hrel
    clear HS1
    obtain ⟨ys, ho, hr, hg⟩ := A.out
    obtain ⟨A6, c6, hv6, hc1, hc2, hrow⟩ := ho.ints
    subst hv6
    have HO := hide ho
    have HG := hide hg
    have hzw := hg.size
    clear A ho hg
    by_cases hlt : 0 < q
    · go_wp2_with fail
      refine (one_lit R (1 + m) [50, 0, 100, 20, 7] _ _ hr (by omega) (by rfl) (by omega) (by omega)).mono ?_
      rintro e W2 ⟨y, hy, rfl, hr2, hg2⟩
      have HO2 := hide (HO.out.farR hg2 hR')
      have hzw2 := hg2.size
      have HG2 := hide (only_trans HG.out hg2)
      clear hy hg2 hr
      go_wp2_with (at_builtin; refine wpList_push rfl (.tmp 19) (.tmp 23) 32 3 1 8 i0 _ rfl Try.underlying32 hi hz0 hz1 hz2 rfl (by omega) (by omega) W2 W0.heap.size (.slice A6 m c6) m _ rfl HO2.out [y] 1 1 rfl rfl (by omega) (by omega) ?_; intro v1 w1' ho1 hb1 hg1 hv1; have D := hide (show Drawing W0 R (m + 1) v1 w1' from ⟨_, ho1, hr2.grown hg1 (fun k hk => by have := HO2.out.lt k hk; omega), only_fresh HG2.out hg1 (fun k hk => (HO2.out.lt k hk).1)⟩); clear ho1 hb1 hg1 hv1)
      go_roundw
      case rel => exact ⟨q - 1, m + 1, by omega, by omega, rfl, D⟩
      case measure => simp [intOf]; omega
    · go_wp2_with fail
      refine (one_lit R (1 + m) [100, 50, 0, 300, 200001, 10] _ _ hr (by omega) (by rfl) (by omega) (by omega)).mono ?_
      rintro e W2 ⟨y, hy, rfl, hr2, hg2⟩
      have HO2 := HO.out.farR hg2 hR'
      obtain ⟨A6', c6', hv6, _, _, hrow2⟩ := HO2.ints
      injection hv6 with e1 e2 e3
      subst e1 e3
      have hg3 := only_trans HG.out hg2
      have hzw2 := hg2.size
      clear hg2 HO2 hr hrow HO HG
      go_wp2_with fail
      refine (spoil_any R (2 + m) _ A6 m c6 ys 10001 _ (hr2.mono (by omega)) (by omega) hrow2.ints (Nat.le_refl _) (by omega)).mono ?_
      rintro e W3 ⟨A7, n7, c7, zs7, hn7, rfl, h71, h72, hrow7, hr3, hg4⟩
      have hg5 := only_trans hg3 hg4
      have hzw3 := hg4.size
      clear hg3 hg4 hrow2 hr2
      go_wp2_with fail
      refine (one_lit R (2 + m + 3) [0, 10, -20, 100, 150, 250, 200001] _ _ hr3 (by omega) (by rfl) (by omega) (by omega)).mono ?_
      rintro e W4 ⟨z, hz, rfl, hr4, hg6⟩
      have D := hide (show DrawsSeen w (.returned (.tuple #[.slice A7 n7 c7, .int .i64 y, .int .i64 z])) W4 from
        ⟨A7, n7, c7, zs7, y, z, by omega, by simp at hy; omega, by simp at hz; omega, rfl, h71, h72, (hrow7.keep fun k h1 h2 h3 => hg6.block k h3 (fun e => by injection e with e; omega)).mono (by omega) hg6.size, hb.grown (only_trans hg5 hg6) hb.size (fun k hk => by injection hk with hk; omega)⟩)
      clear hy hz hg5 hg6 hr3 hr4 hrow7 hb
      go_wp2
      go_ret3
      exact D.out
end Go.Proofs.Yteomjfdoagklkaa
