/- The drawn arguments of the laws of frames and places. Conditions: none. -/
import Derived.Test.YtldmnpflcnmcpaaSpoil
namespace Go.Proofs.Ytldmnpflcnmcpaa
open Go.RowKit
set_option linter.unusedVariables false

/-- a list that is being drawn -/
def DrawingF (W0 : World) (R p m : Nat) (v : Value) (wr : World) : Prop := ∃ ys, Own 3 1 wr W0.heap.size v m ys ∧ Rd wr R (p + m) ∧ W0.grownBy wr (some R)
theorem Own.intsF {w : World} {base : Nat} {v : Value} {n : Nat} {xs : List Int} (h : Own 3 1 w base v n xs) : ∃ (A : Option Addr) (c : Nat), v = .slice A n c ∧ n ≤ c ∧ c ≤ 9223372036854775807 ∧ Row 3 w base w.heap.size A n xs := by
  obtain ⟨A, c, e, h1, h2, h3⟩ := h.form
  rw [Nat.mul_one] at h3
  exact ⟨A, c, e, h1, h2, h3⟩
theorem Row.grownF {E : TypeId} {w w' : World} {lo m R : Nat} {A : Option Addr} {xs : List Int} (h : Row E w lo w.heap.size A m xs) (hg : w.grownBy w' (some R)) (hR : R < lo) : Row E w' lo w'.heap.size A m xs :=
  (h.keep fun k h1 _ h3 => hg.block k h3 (fun e => by injection e with e; omega)).mono (Nat.le_refl _) hg.size

set_option maxHeartbeats 2000000 in
theorem anyCosts_any (R p : Nat) (w : World) (h : Rd w R p) (hp : p ≤ 500000) : Calls Try.prog 44 #[.pointer (some ⟨R, 0, none⟩)] w (SomeList R (p + 20) 15 w) := by
  obtain ⟨i0, hi, hz0, hz1, hz2⟩ := info_parts int_info
  have hR' := h.lt
  have HS := hide (Own.made 3 1 w #[] 0 w.heap.size (Nat.le_refl _) (by omega) rfl)
  have hr0 := h.alloc (.cells #[] 3)
  have hg0 : w.grownBy (w.alloc (.cells #[] 3)) (some R) := World.grownBy_alloc _ _ _
  clear h
  go_enter Try.func44, Try.ntmps44
  go_wp2_with fail
  refine (one_at R p [4, 6, 3, 1, 0, 12, 13] _ _ _ hr0 (by omega) (by rfl) (by omega) (by omega) (by simp)).mono ?_
  rintro e W1 ⟨x, hx, rfl, hr1, hg1⟩
  obtain ⟨hx0, hx1⟩ : 0 ≤ x ∧ x ≤ 13 := by simp at hx; omega
  have HS1 := hide (show DrawingF w R (p + 1) 0 (.slice (some ⟨w.heap.size, 0, none⟩) 0 0) W1 from ⟨[], HS.out.farR hg1 hR', hr1, only_trans hg0 hg1⟩)
  clear hx hr0 hr1 hg0 hg1 HS
  go_wp2_with fail
  go_loopw [3, 4] (fun s6 s7 wr => ∃ (q : Int) (m : Nat), 0 ≤ q ∧ q + m ≤ 13 ∧ s7 = .int .i64 q ∧ Hid (DrawingF w R (p + 1) m s6 wr)) (fun _ s7 _ => (intOf s7).toNat)
  case atStart => exact ⟨x, 0, hx0, by omega, rfl, HS1⟩
  case round =>
    obtain ⟨q, m, hq0, hqm, rfl, A⟩ := hrel
    clear HS1
    obtain ⟨ys, ho, hr, hg⟩ := A.out
    obtain ⟨A6, c6, hv6, hc1, hc2, hrow⟩ := ho.intsF
    subst hv6
    have HO := hide ho
    have HG := hide hg
    have hzw := hg.size
    clear A ho hg
    by_cases hlt : 0 < q
    · go_wp2_with fail
      refine (one_lit R (p + 1 + m) [10, 0, 5, 100, 1000, 33] _ _ hr (by omega) (by rfl) (by omega) (by omega)).mono ?_
      rintro e W2 ⟨y, hy, rfl, hr2, hg2⟩
      have HO2 := hide (HO.out.farR hg2 hR')
      have hzw2 := hg2.size
      have HG2 := hide (only_trans HG.out hg2)
      clear hy hg2 hr
      go_wp2_with (at_builtin; refine wpList_push rfl (.tmp 13) (.tmp 17) 22 3 1 8 i0 _ rfl Try.underlying22 hi hz0 hz1 hz2 rfl (by omega) (by omega) W2 w.heap.size (.slice A6 m c6) m _ rfl HO2.out [y] 1 1 rfl rfl (by omega) (by omega) ?_; intro v1 w1' ho1 hb1 hg1 hv1; have D := hide (show DrawingF w R (p + 1) (m + 1) v1 w1' from ⟨_, ho1, (hr2.grown hg1 (fun k hk => by have := HO2.out.lt k hk; omega)).mono (by omega), only_fresh HG2.out hg1 (fun k hk => (HO2.out.lt k hk).1)⟩); clear ho1 hb1 hg1 hv1 hr2)
      go_roundw
      case rel => exact ⟨q - 1, m + 1, by omega, by omega, rfl, D⟩
      case measure => simp [intOf]; omega
    · clear HO
      go_wp2_with fail
      refine (spoil_any R (p + 1 + m) _ A6 m c6 ys 1001 _ hr (by omega) hrow.ints (Nat.le_refl _) (by omega)).mono ?_
      rintro e W3 ⟨A7, n7, c7, zs7, hn7, rfl, h71, h72, hrow7, hr3, hg4⟩
      have D := hide (show SomeList R (p + 20) 15 w (.returned (.slice A7 n7 c7)) W3 from ⟨A7, n7, c7, zs7, by omega, rfl, h71, h72, hrow7.mono hzw (Nat.le_refl _), hr3.mono (by omega), only_trans HG.out hg4⟩)
      clear hr hrow hg4 hrow7 hr3
      go_wp2
      go_ret
      exact D.out
/-- two new lists -/
def Draws2L (w : World) (e : Ending) (w' : World) : Prop :=
  ∃ (A : Option Addr) (n c : Nat) (xs : List Int) (B : Option Addr) (m d : Nat) (ys : List Int), e = .returned (.tuple #[.slice A n c, .slice B m d]) ∧ n ≤ 15 ∧ m ≤ 15 ∧ n ≤ c ∧ c ≤ 9223372036854775807 ∧ m ≤ d ∧ d ≤ 9223372036854775807 ∧
    Row 3 w' w.heap.size w'.heap.size A n xs ∧ Row 3 w' w.heap.size w'.heap.size B m ys ∧ Below w.heap.size w w'
theorem drawFinish_any (A : Option Addr) (n c : Nat) (zs : List Int) (w : World) (hA : Ints .u8 w w.heap.size A n zs) (hnc : n ≤ c) :
    Calls Try.prog 29 #[.slice A n c] w (Draws2L w) := by
  go_enter Try.func29, Try.ntmps29
  go_wp2_with fail
  refine (newReader_any A n c zs _ hA hnc).mono ?_
  rintro e W0 ⟨R, hR, hR', rfl, hr, hb⟩
  clear hA
  have hbz := hb.size
  go_wp2_with fail
  refine (anyCosts_any R 0 W0 hr (by omega)).mono ?_
  rintro e W1 ⟨A1, n1, c1, xs, hn1, rfl, a1, a2, hrow1, hr1, hg1⟩
  have hz1 := hg1.size
  clear hr
  go_wp2_with fail
  refine (anyCosts_any R 20 W1 (hr1.mono (by omega)) (by omega)).mono ?_
  rintro e W2 ⟨A2, n2, c2, ys, hn2, rfl, b1, b2, hrow2, hr2, hg2⟩
  have D := hide (show Draws2L w (.returned (.tuple #[.slice A1 n1 c1, .slice A2 n2 c2])) W2 from
    ⟨_, _, _, xs, _, _, _, ys, rfl, hn1, hn2, a1, a2, b1, b2, (hrow1.grownF hg2 hR').mono (by omega) (Nat.le_refl _), hrow2.mono (by omega) (Nat.le_refl _), hb.grown (only_trans hg1 hg2) hb.size (fun k hk => by injection hk with hk; omega)⟩)
  clear hr1 hr2 hg1 hg2 hrow1 hrow2 hb
  go_wp2
  go_ret2
  exact D.out
theorem drawWork_any (A : Option Addr) (n c : Nat) (zs : List Int) (w : World) (hA : Ints .u8 w w.heap.size A n zs) (hnc : n ≤ c) :
    Calls Try.prog 32 #[.slice A n c] w (Draws2L w) := by
  go_enter Try.func32, Try.ntmps32
  go_wp2_with fail
  refine (drawFinish_any A n c zs _ hA hnc).mono ?_
  rintro e W1 ⟨A1, n1, c1, xs, A2, n2, c2, ys, rfl, hr⟩
  have D := hide (show Draws2L w (.returned (.tuple #[.slice A1 n1 c1, .slice A2 n2 c2])) W1 from ⟨_, _, _, xs, _, _, _, ys, rfl, hr⟩)
  clear hr
  go_wp2
  go_ret2
  exact D.out
/-- a new list and a number -/
def DrawsLI (w : World) (e : Ending) (w' : World) : Prop :=
  ∃ (A : Option Addr) (n c : Nat) (xs : List Int) (k : Int), e = .returned (.tuple #[.slice A n c, .int .i64 k]) ∧ 0 ≤ k ∧ k ≤ 9 ∧ n ≤ 15 ∧ n ≤ c ∧ c ≤ 9223372036854775807 ∧ Row 3 w' w.heap.size w'.heap.size A n xs ∧ Below w.heap.size w w'
set_option maxHeartbeats 2000000 in
theorem drawAuto_any (A : Option Addr) (n c : Nat) (zs : List Int) (w : World) (hA : Ints .u8 w w.heap.size A n zs) (hnc : n ≤ c) :
    Calls Try.prog 24 #[.slice A n c] w (DrawsLI w) := by
  obtain ⟨i0, hi, hz0, hz1, hz2⟩ := info_parts int_info
  go_enter Try.func24, Try.ntmps24
  go_wp2_with fail
  refine (newReader_any A n c zs _ hA hnc).mono ?_
  rintro e W00 ⟨R, hR, hR0, rfl, hr00, hb⟩
  clear hA
  have hbz := hb.size
  go_wp2_with fail
  refine (one_at R 0 [3, 4, 2, 1, 8, 0, 9] _ _ _ hr00 (by omega) (by rfl) (by omega) (by omega) (by simp)).mono ?_
  rintro e W0 ⟨k, hk, rfl, hr, hg00⟩
  obtain ⟨hk0, hk1⟩ : 0 ≤ k ∧ k ≤ 9 := by simp at hk; omega
  have hR' := hr.lt
  have hzg := hg00.size
  have HG00 := hide hg00
  have HS := hide (Own.made 3 1 W0 #[] 0 W0.heap.size (Nat.le_refl _) (by omega) rfl)
  have hr0 := hr.alloc (.cells #[] 3)
  have hg0 : W0.grownBy (W0.alloc (.cells #[] 3)) (some R) := World.grownBy_alloc _ _ _
  clear hr hr00 hk hg00
  go_wp2_with fail
  refine (one_at R 1 [5, 7, 3, 1, 0, 12, 13] _ _ _ hr0 (by omega) (by rfl) (by omega) (by omega) (by simp)).mono ?_
  rintro e W1 ⟨x, hx, rfl, hr1, hg1⟩
  obtain ⟨hx0, hx1⟩ : 0 ≤ x ∧ x ≤ 13 := by simp at hx; omega
  have HS1 := hide (show DrawingF W0 R 2 0 (.slice (some ⟨W0.heap.size, 0, none⟩) 0 0) W1 from ⟨[], HS.out.farR hg1 hR', hr1, only_trans hg0 hg1⟩)
  clear hx hr0 hr1 hg0 hg1 HS
  go_wp2_with fail
  go_loopw [6, 7] (fun s6 s7 wr => ∃ (q : Int) (m : Nat), 0 ≤ q ∧ q + m ≤ 13 ∧ s7 = .int .i64 q ∧ Hid (DrawingF W0 R 2 m s6 wr)) (fun _ s7 _ => (intOf s7).toNat)
  case atStart => exact ⟨x, 0, hx0, by omega, rfl, HS1⟩
  case round =>
    obtain ⟨q, m, hq0, hqm, rfl, A⟩ := hrel
    clear HS1
    obtain ⟨ys, ho, hr, hg⟩ := A.out
    obtain ⟨A6, c6, hv6, hc1, hc2, hrow⟩ := ho.intsF
    subst hv6
    have HO := hide ho
    have HG := hide hg
    have hzw := hg.size
    clear A ho hg
    by_cases hlt : 0 < q
    · have hcs : (k ≤ 4 ∧ 1 < k) ∨ (k ≤ 4 ∧ ¬ 1 < k) ∨ 4 < k := by omega
      rcases hcs with ⟨k1, k2⟩ | ⟨k1, k2⟩ | k1
      all_goals
        go_wp2_with fail
        refine (pick_any R (2 + m) _ _ hr (by omega) (by omega) (by omega)).mono ?_
        rintro e W2 ⟨y, hy, rfl, hr2, hg2⟩
        have hy1 : 0 ≤ y ∧ y ≤ 4 := by obtain ⟨y0, y1, y2⟩ := hy; omega
        have HO2 := hide (HO.out.farR hg2 hR')
        have hzw2 := hg2.size
        have HG2 := hide (only_trans HG.out hg2)
        clear hy hg2 hr
        go_wp2_with (at_builtin; refine wpList_push rfl (.tmp 21) (.tmp 28) 22 3 1 8 i0 _ rfl Try.underlying22 hi hz0 hz1 hz2 rfl (by omega) (by omega) W2 W0.heap.size (.slice A6 m c6) m _ rfl HO2.out [1 + y] 1 1 rfl rfl (by omega) (by omega) ?_; intro v1 w1' ho1 hb1 hg1 hv1; have D := hide (show DrawingF W0 R 2 (m + 1) v1 w1' from ⟨_, ho1, (hr2.grown hg1 (fun k hk => by have := HO2.out.lt k hk; omega)).mono (by omega), only_fresh HG2.out hg1 (fun k hk => (HO2.out.lt k hk).1)⟩); clear ho1 hb1 hg1 hv1 hr2)
        go_roundw
        case rel => exact ⟨q - 1, m + 1, by omega, by omega, rfl, D⟩
        case measure => simp [intOf]; omega
    · clear HO
      go_wp2_with fail
      refine (spoil_any R (2 + m) _ A6 m c6 ys 9 _ hr (by omega) hrow.ints (Nat.le_refl _) (by omega)).mono ?_
      rintro e W3 ⟨A7, n7, c7, zs7, hn7, rfl, h71, h72, hrow7, hr3, hg4⟩
      have D := hide (show DrawsLI w (.returned (.tuple #[.slice A7 n7 c7, .int .i64 k])) W3 from ⟨A7, n7, c7, zs7, k, rfl, hk0, hk1, by omega, h71, h72, hrow7.mono (by omega) (Nat.le_refl _), hb.grown (only_trans HG00.out (only_trans HG.out hg4)) hb.size (fun k hk => by injection hk with hk; omega)⟩)
      clear hr hrow hg4 hrow7 hr3
      go_wp2
      go_ret2
      exact D.out
theorem drawRows_any (A : Option Addr) (n c : Nat) (zs : List Int) (w : World) (hA : Ints .u8 w w.heap.size A n zs) (hnc : n ≤ c) :
    Calls Try.prog 27 #[.slice A n c] w (DrawsLI w) := by
  go_enter Try.func27, Try.ntmps27
  go_wp2_with fail
  refine (drawAuto_any A n c zs _ hA hnc).mono ?_
  rintro e W1 ⟨A1, n1, c1, xs, k, rfl, hr⟩
  have D := hide (show DrawsLI w (.returned (.tuple #[.slice A1 n1 c1, .int .i64 k])) W1 from ⟨_, _, _, xs, _, rfl, hr⟩)
  clear hr
  go_wp2
  go_ret2
  exact D.out
end Go.Proofs.Ytldmnpflcnmcpaa
