/- The drawn arguments of the laws of tracks. Conditions: none. -/
import Derived.Test.YtelokjobhfhhfaaTrackX
import Derived.Test.YtelokjobhfhhfaaOne
namespace Go.Proofs.Ytelokjobhfhhfaa
open Go.RowKit
set_option linter.unusedVariables false
set_option linter.unusedSimpArgs false
theorem Own.farT {E : TypeId} {k R : Nat} {w w' : World} {base : Nat} {v : Value} {n : Nat} {xs : List Int} (h : Own E k w base v n xs) (hg : w.grownBy w' (some R)) (hR : R < base) : Own E k w' base v n xs :=
  h.far hg (by
    rcases hv : v.ownBlock with _ | j
    · exact .inl rfl
    · have := h.lt j hv
      exact .inr (fun e => by injection e with e; omega))
/-- some new list of at most m structs of k cells -/
def SomeRows (E : TypeId) (k R p m : Nat) (w : World) (e : Ending) (w' : World) : Prop :=
  ∃ (A : Option Addr) (n c : Nat) (ys : List Int), n ≤ m ∧ e = .returned (.slice A n c) ∧ n ≤ c ∧ c ≤ 9223372036854775807 ∧ Row E w' w.heap.size w'.heap.size A (n * k) ys ∧ Rd w' R p ∧ w.grownBy w' (some R)
/-- a list of structs that is being drawn -/
def DrawingT (W0 : World) (R p m : Nat) (v : Value) (wr : World) : Prop := ∃ ys, Own 33 2 wr W0.heap.size v m ys ∧ Rd wr R (p + 2 * m) ∧ W0.grownBy wr (some R)
theorem someSpace_any (R p : Nat) (w : World) (h : Rd w R p) (hp : p ≤ 500000) : Calls Try.prog 31 #[.pointer (some ⟨R, 0, none⟩)] w (Draws R (p + 2) (fun x => -1 ≤ x ∧ x ≤ 200001) w) := by
  go_enter Try.func31, Try.ntmps31
  go_wp2_with fail
  refine (pick_any R p 250 _ h (by omega) (by omega) (by omega)).mono ?_
  rintro e W1 ⟨k, hk, rfl, hr1, hg1⟩
  obtain ⟨hk0, hk1⟩ : 0 ≤ k ∧ k ≤ 249 := by have h1 := hk.1; have h2 := hk.2.1 (by omega); omega
  have e1 : IntKind.i64.wrap (5 * k) = 5 * k := IntWalk.i64_in _ (by omega)
  clear hk h
  go_wp2_with fail
  refine (one_lit R (p + 1) [0, 100, 300, 1000, 50, 200000, 200001, -1, 5 * k, 700] _ _ hr1 (by omega) (by rfl) (by omega) (by omega)).mono ?_
  rintro e W2 ⟨x, hx, rfl, hr2, hg2⟩
  have hx' : -1 ≤ x ∧ x ≤ 200001 := by simp at hx; omega
  have D := hide (show Draws R (p + 2) (fun x => -1 ≤ x ∧ x ≤ 200001) w (.returned (.int .i64 x)) W2 from ⟨x, hx', rfl, hr2, only_trans hg1 hg2⟩)
  clear hx hr1 hr2 hg1 hg2
  go_wp2
  go_ret
  exact D.out
theorem someGap_any (R p : Nat) (w : World) (h : Rd w R p) (hp : p ≤ 500000) : Calls Try.prog 32 #[.pointer (some ⟨R, 0, none⟩)] w (Draws R (p + 1) (fun x => -1 ≤ x ∧ x ≤ 51) w) := by
  go_enter Try.func32, Try.ntmps32
  go_wp2_with fail
  refine (one_lit R p [0, 1, 5, 10, 50, 51, -1, 2] _ _ h (by omega) (by rfl) (by omega) (by omega)).mono ?_
  rintro e W2 ⟨x, hx, rfl, hr2, hg2⟩
  have hx' : -1 ≤ x ∧ x ≤ 51 := by simp at hx; omega
  have D := hide (show Draws R (p + 1) (fun x => -1 ≤ x ∧ x ≤ 51) w (.returned (.int .i64 x)) W2 from ⟨x, hx', rfl, hr2, hg2⟩)
  clear hx hr2 hg2 h
  go_wp2
  go_ret
  exact D.out
set_option maxHeartbeats 4000000 in
theorem anyTracks_any (R p : Nat) (w : World) (h : Rd w R p) (hp : p ≤ 400000) : Calls Try.prog 25 #[.pointer (some ⟨R, 0, none⟩)] w (SomeRows 33 2 R (p + 30) 9 w) := by
  obtain ⟨i0, hi, hz0, hz1, hz2⟩ := info_parts Track_info
  have hR' := h.lt
  have HS := hide (Own.made 33 2 w #[] 0 w.heap.size (Nat.le_refl _) (by omega) rfl)
  have hr0 := h.alloc (.cells #[] 33)
  have hg0 : w.grownBy (w.alloc (.cells #[] 33)) (some R) := World.grownBy_alloc _ _ _
  clear h
  go_enter Try.func25, Try.ntmps25
  go_wp2_with fail
  refine (one_at R p [3, 2, 4, 1, 0, 8, 9] _ _ _ hr0 (by omega) (by rfl) (by omega) (by omega) (by simp)).mono ?_
  rintro e W1 ⟨x, hx, rfl, hr1, hg1⟩
  obtain ⟨hx0, hx1⟩ : 0 ≤ x ∧ x ≤ 9 := by simp at hx; omega
  have HS1 := hide (show DrawingT w R (p + 1) 0 (.slice (some ⟨w.heap.size, 0, none⟩) 0 0) W1 from ⟨[], HS.out.farT hg1 hR', hr1, only_trans hg0 hg1⟩)
  clear hx hr0 hr1 hg0 hg1 HS
  go_wp2_with fail
  go_loopw [3, 4] (fun s6 s7 wr => ∃ (q : Int) (m : Nat), 0 ≤ q ∧ q + m ≤ 9 ∧ s7 = .int .i64 q ∧ Hid (DrawingT w R (p + 1) m s6 wr)) (fun _ s7 _ => (intOf s7).toNat)
  case atStart => exact ⟨x, 0, hx0, by omega, rfl, HS1⟩
  case round =>
    obtain ⟨q, m, hq0, hqm, rfl, A⟩ := hrel
    clear HS1
    obtain ⟨ys, ho, hr, hg⟩ := A.out
    obtain ⟨A6, c6, hv6, hc1, hc2, hrow⟩ := ho.form
    subst hv6
    have HO := hide ho
    have HG := hide hg
    have hzw := hg.size
    clear A ho hg
    by_cases hlt : 0 < q
    · go_wp2_with fail
      refine (pick_any R (p + 1 + 2 * m) 2 _ hr (by omega) (by omega) (by omega)).mono ?_
      rintro e W2 ⟨k, hk, rfl, hr2, hg2⟩
      have HO2 := hide (HO.out.farT hg2 hR')
      have hzw2 := hg2.size
      have HG2 := hide (only_trans HG.out hg2)
      clear hg2 hr hk HO HG hrow
      by_cases hk0 : k = 0
      · subst hk0
        go_wp2_with fail
        refine (one_lit R (p + 1 + 2 * m + 1) [50, 100, 0, 20] _ _ hr2 (by omega) (by rfl) (by omega) (by omega)).mono ?_
        rintro e W3 ⟨y, hy, rfl, hr3, hg3⟩
        have HO3 := hide (HO2.out.farT hg3 hR')
        have hzw3 := hg3.size
        have HG3 := hide (only_trans HG2.out hg3)
        clear hy hg3 hr2 HO2 HG2
        go_wp2_with (at_builtin; refine wpList_push rfl (.tmp 16) (.tmp 21) 23 33 2 16 i0 _ rfl Try.underlying23 hi hz0 hz1 hz2 rfl (by omega) (by omega) W3 w.heap.size (.slice A6 m c6) m _ rfl HO3.out [y, 0] 1 1 rfl rfl (by omega) (by omega) ?_; intro v1 w1' ho1 hb1 hg1 hv1; have D := hide (show DrawingT w R (p + 1) (m + 1) v1 w1' from ⟨_, ho1, (hr3.grown hg1 (fun k hk => by have := HO3.out.lt k hk; omega)).mono (by omega), only_fresh HG3.out hg1 (fun k hk => (HO3.out.lt k hk).1)⟩); clear ho1 hb1 hg1 hv1 hr3)
        go_roundw
        case rel => exact ⟨q - 1, m + 1, by omega, by omega, rfl, D⟩
        case measure => simp [intOf]; omega
      · have e1 : (k == 0) = false := by simpa using hk0
        go_wp2_with fail
        refine (one_lit R (p + 1 + 2 * m + 1) [1, 2, 3, 10] _ _ hr2 (by omega) (by rfl) (by omega) (by omega)).mono ?_
        rintro e W3 ⟨y, hy, rfl, hr3, hg3⟩
        have HO3 := hide (HO2.out.farT hg3 hR')
        have hzw3 := hg3.size
        have HG3 := hide (only_trans HG2.out hg3)
        clear hy hg3 hr2 HO2 HG2 hk0 e1
        go_wp2_with (at_builtin; refine wpList_push rfl (.tmp 23) (.tmp 28) 23 33 2 16 i0 _ rfl Try.underlying23 hi hz0 hz1 hz2 rfl (by omega) (by omega) W3 w.heap.size (.slice A6 m c6) m _ rfl HO3.out [0, y] 1 1 rfl rfl (by omega) (by omega) ?_; intro v1 w1' ho1 hb1 hg1 hv1; have D := hide (show DrawingT w R (p + 1) (m + 1) v1 w1' from ⟨_, ho1, (hr3.grown hg1 (fun k hk => by have := HO3.out.lt k hk; omega)).mono (by omega), only_fresh HG3.out hg1 (fun k hk => (HO3.out.lt k hk).1)⟩); clear ho1 hb1 hg1 hv1 hr3)
        go_roundw
        case rel => exact ⟨q - 1, m + 1, by omega, by omega, rfl, D⟩
        case measure => simp [intOf]; omega
    · by_cases hm0 : m = 0
      · subst hm0
        have D := hide (show SomeRows 33 2 R (p + 30) 9 w (.returned (.slice A6 0 c6)) wr from ⟨A6, 0, c6, ys, by omega, rfl, by omega, hc2, hrow.mono (Nat.le_refl _) (Nat.le_refl _), hr.mono (by omega), HG.out⟩)
        clear hr hrow HO HG
        go_wp2
        go_ret
        exact D.out
      · have e5 : decide (0 < m) = true := by simp; omega
        have e6 : 0 < m := by omega
        have e7 : (0 : Int) < (m : Int) := by omega
        clear hm0
        go_wp2_with fail
        refine (pick_any R (p + 1 + 2 * m) 16 _ hr (by omega) (by omega) (by omega)).mono ?_
        rintro e W2 ⟨k, hk, rfl, hr2, hg2⟩
        have HO2 := hide (HO.out.farT hg2 hR')
        have hzw2 := hg2.size
        have HG2 := hide (only_trans HG.out hg2)
        clear hg2 hr hk HO HG hrow
        by_cases hk0 : k = 0
        · subst hk0
          go_wp2_with fail
          refine (pick_any R (p + 1 + 2 * m + 1) (m : Int) _ hr2 (by omega) (by omega) (by omega)).mono ?_
          rintro e W3 ⟨i, hik, rfl, hr3, hg3⟩
          have HO3 := hide (HO2.out.farT hg3 hR')
          have hzw3 := hg3.size
          have HG3 := hide (only_trans HG2.out hg3)
          obtain ⟨i0', rfl⟩ := Int.eq_ofNat_of_zero_le hik.1
          have him : i0' < m := by have := hik.2.1 (by omega); omega
          clear hg3 hr2 HO2 HG2 hik
          go_wp2_with fail
          refine (one_lit R (p + 1 + 2 * m + 2) [5, 10001, -1] _ _ hr3 (by omega) (by rfl) (by omega) (by omega)).mono ?_
          rintro e W4 ⟨y, hy, rfl, hr4, hg4⟩
          have HO4 := hide (HO3.out.farT hg4 hR')
          have hzw4 := hg4.size
          have HG4 := hide (only_trans HG3.out hg4)
          clear hg4 hr3 HO3 HG3 hy
          go_wp2_with fail
          refine (one_lit R (p + 1 + 2 * m + 3) [1, 11, 0] _ _ hr4 (by omega) (by rfl) (by omega) (by omega)).mono ?_
          rintro e W5 ⟨z, hz, rfl, hr5, hg5⟩
          have HO5 := hide (HO4.out.farT hg5 hR')
          have hzw5 := hg5.size
          have HG5 := hide (only_trans HG4.out hg5)
          clear hg5 hr4 HO4 HG4 hz
          obtain ⟨A7, c7, hv7, _, _, hrow⟩ := HO5.out.form
          injection hv7 with q1 q2 q3
          subst q1 q3
          obtain ⟨g, off, _, rfl, hg0, hg1, _⟩ := hrow.2 (by omega)
          have hlm : i0' * 2 + 2 ≤ m * 2 := by omega
          obtain ⟨v0, f0⟩ := hrow.cell (i0' * 2) (by omega)
          obtain ⟨v1, f1⟩ := hrow.cell (i0' * 2 + 1) (by omega)
          rw [← Nat.add_assoc] at v1 f1
          have hrow2 := (hrow.put (show i0' * 2 < m * 2 by omega) y).put (show i0' * 2 + 1 < m * 2 by omega) z
          rw [← Nat.add_assoc] at hrow2
          have HGf := hide (fun (v : Value) => only_setCell (only_setCell HG5.out (p := ⟨g, off + i0' * 2, none⟩) (.inr (by show w.heap.size ≤ g; omega)) (.int .i64 y)) (p := ⟨g, off + i0' * 2 + 1, none⟩) (.inr (by show w.heap.size ≤ g; omega)) v)
          have hr6 := (hr5.setCell (a := ⟨g, off + i0' * 2, none⟩) (by show R < g; omega) (.int .i64 y)).setCell (a := ⟨g, off + i0' * 2 + 1, none⟩) (by show R < g; omega) (.int .i64 z)
          have D := hide (show SomeRows 33 2 R (p + 30) 9 w (.returned (.slice (some ⟨g, off, none⟩) m c6)) ((W5.setCell ⟨g, off + i0' * 2, none⟩ (.int .i64 y)).setCell ⟨g, off + i0' * 2 + 1, none⟩ (.int .i64 z)) from ⟨_, m, c6, _, by omega, rfl, hc1, hc2, hrow2.mono (Nat.le_refl _) (by simp [World.setCell]), hr6.mono (by omega), HGf.out _⟩)
          clear hrow hrow2 HO5 HG5 HGf hr5 hr6
          go_wp2
          go_ret
          exact D.out
        · have e1 : (k == 0) = false := by simpa using hk0
          obtain ⟨A7, c7, hv7, _, _, hrow⟩ := HO2.out.form
          injection hv7 with q1 q2 q3
          subst q1 q3
          have D := hide (show SomeRows 33 2 R (p + 30) 9 w (.returned (.slice A6 m c6)) W2 from ⟨A6, m, c6, ys, by omega, rfl, hc1, hc2, hrow.mono (Nat.le_refl _) (Nat.le_refl _), hr2.mono (by omega), HG2.out⟩)
          clear hr2 hrow HO2 HG2
          go_wp2
          go_ret
          exact D.out
theorem Row.grownT {E : TypeId} {w w' : World} {lo m R : Nat} {A : Option Addr} {xs : List Int} (h : Row E w lo w.heap.size A m xs) (hg : w.grownBy w' (some R)) (hR : R < lo) : Row E w' lo w'.heap.size A m xs :=
  (h.keep fun k h1 _ h3 => hg.block k h3 (fun e => by injection e with e; omega)).mono (Nat.le_refl _) hg.size
theorem below_grownT {w w1 w' : World} {R : Nat} (h : Below w.heap.size w w1) (hg : w1.grownBy w' (some R)) (hR : w.heap.size ≤ R) : Below w.heap.size w w' :=
  h.trans ⟨hg.os, hg.tape, hg.output, hg.size, fun i hi => hg.block i (by have := h.size; omega) (fun e => by injection e with e; omega)⟩
def DrawsT1 (w : World) (e : Ending) (w' : World) : Prop :=
  ∃ (A : Option Addr) (n c : Nat) (zs : List Int), e = .returned (.slice A n c) ∧ n ≤ 9 ∧ n ≤ c ∧ c ≤ 9223372036854775807 ∧ Row 33 w' w.heap.size w'.heap.size A (n * 2) zs ∧ Below w.heap.size w w'
def DrawsT3 (w : World) (e : Ending) (w' : World) : Prop :=
  ∃ (A : Option Addr) (n c : Nat) (zs : List Int) (s g : Int), e = .returned (.tuple #[.slice A n c, .int .i64 s, .int .i64 g]) ∧ n ≤ 9 ∧ n ≤ c ∧ c ≤ 9223372036854775807 ∧ (-1 ≤ s ∧ s ≤ 200001) ∧ (-1 ≤ g ∧ g ≤ 51) ∧ Row 33 w' w.heap.size w'.heap.size A (n * 2) zs ∧ Below w.heap.size w w'
def DrawsT5 (w : World) (e : Ending) (w' : World) : Prop :=
  ∃ (A : Option Addr) (n c : Nat) (zs : List Int) (s g f m : Int), e = .returned (.tuple #[.slice A n c, .int .i64 s, .int .i64 g, .int .i64 f, .int .i64 m]) ∧ n ≤ 9 ∧ n ≤ c ∧ c ≤ 9223372036854775807 ∧ (-1 ≤ s ∧ s ≤ 200001) ∧ (-1 ≤ g ∧ g ≤ 51) ∧ (-1 ≤ f ∧ f ≤ 10) ∧ (0 ≤ m ∧ m ≤ 4) ∧ Row 33 w' w.heap.size w'.heap.size A (n * 2) zs ∧ Below w.heap.size w w'
theorem drawValidTr_any (A : Option Addr) (n c : Nat) (zs : List Int) (w : World) (hA : Ints .u8 w w.heap.size A n zs) (hnc : n ≤ c) : Calls Try.prog 11 #[.slice A n c] w (DrawsT1 w) := by
  go_enter Try.func11, Try.ntmps11
  go_wp2_with fail
  refine (newReader_any A n c zs _ hA hnc).mono ?_
  rintro e W0 ⟨R, hR, hR', rfl, hr, hb⟩
  clear hA
  have hbz := hb.size
  go_wp2_with fail
  refine (anyTracks_any R 0 W0 hr (by omega)).mono ?_
  rintro e W1 ⟨A1, n1, c1, ys, hn1, rfl, a1, a2, hrow1, hr1, hg1⟩
  have D := hide (show DrawsT1 w (.returned (.slice A1 n1 c1)) W1 from ⟨_, _, _, ys, rfl, hn1, a1, a2, hrow1.mono (by omega) (Nat.le_refl _), below_grownT hb hg1 (by omega)⟩)
  clear hr hr1 hg1 hrow1 hb
  go_wp2
  go_ret
  exact D.out
theorem drawSizes_any (A : Option Addr) (n c : Nat) (zs : List Int) (w : World) (hA : Ints .u8 w w.heap.size A n zs) (hnc : n ≤ c) : Calls Try.prog 14 #[.slice A n c] w (DrawsT3 w) := by
  go_enter Try.func14, Try.ntmps14
  go_wp2_with fail
  refine (newReader_any A n c zs _ hA hnc).mono ?_
  rintro e W0 ⟨R, hR, hR', rfl, hr, hb⟩
  clear hA
  have hbz := hb.size
  go_wp2_with fail
  refine (anyTracks_any R 0 W0 hr (by omega)).mono ?_
  rintro e W1 ⟨A1, n1, c1, ys, hn1, rfl, a1, a2, hrow1, hr1, hg1⟩
  have hz1 := hg1.size
  clear hr
  go_wp2_with fail
  refine (someSpace_any R 30 W1 (hr1.mono (by omega)) (by omega)).mono ?_
  rintro e W2 ⟨s, hs, rfl, hr2, hg2⟩
  have hz2 := hg2.size
  clear hr1
  go_wp2_with fail
  refine (someGap_any R 32 W2 hr2 (by omega)).mono ?_
  rintro e W3 ⟨g, hg, rfl, hr3, hg3⟩
  have D := hide (show DrawsT3 w (.returned (.tuple #[.slice A1 n1 c1, .int .i64 s, .int .i64 g])) W3 from ⟨_, _, _, ys, s, g, rfl, hn1, a1, a2, hs, hg, ((hrow1.grownT hg2 hR').grownT hg3 hR').mono (by omega) (Nat.le_refl _), below_grownT hb (only_trans (only_trans hg1 hg2) hg3) (by omega)⟩)
  clear hr2 hr3 hg1 hg2 hg3 hrow1 hb hs hg
  go_wp2
  exact bodyPost_ret (v := .tuple #[.slice A1 n1 c1, .int .i64 s, .int .i64 g]) (by simp [results, Try.results14, go_sem]) rfl D.out
theorem drawSpan_any (A : Option Addr) (n c : Nat) (zs : List Int) (w : World) (hA : Ints .u8 w w.heap.size A n zs) (hnc : n ≤ c) : Calls Try.prog 24 #[.slice A n c] w (DrawsT5 w) := by
  go_enter Try.func24, Try.ntmps24
  go_wp2_with fail
  refine (newReader_any A n c zs _ hA hnc).mono ?_
  rintro e W0 ⟨R, hR, hR', rfl, hr, hb⟩
  clear hA
  have hbz := hb.size
  go_wp2_with fail
  refine (anyTracks_any R 0 W0 hr (by omega)).mono ?_
  rintro e W1 ⟨A1, n1, c1, ys, hn1, rfl, a1, a2, hrow1, hr1, hg1⟩
  have hz1 := hg1.size
  clear hr
  go_wp2_with fail
  refine (someSpace_any R 30 W1 (hr1.mono (by omega)) (by omega)).mono ?_
  rintro e W2 ⟨s, hs, rfl, hr2, hg2⟩
  have hz2 := hg2.size
  clear hr1
  go_wp2_with fail
  refine (someGap_any R 32 W2 hr2 (by omega)).mono ?_
  rintro e W3 ⟨g, hg, rfl, hr3, hg3⟩
  have hz3 := hg3.size
  clear hr2
  have e1 : IntKind.i64.wrap ((n1 : Int) + 2) = (n1 : Int) + 2 := IntWalk.i64_in _ (by omega)
  go_wp2_with fail
  refine (pick_any R 33 ((n1 : Int) + 2) W3 hr3 (by omega) (by omega) (by omega)).mono ?_
  rintro e W4 ⟨f, hf, rfl, hr4, hg4⟩
  have hz4 := hg4.size
  have hf' : 0 ≤ f ∧ f ≤ 10 := by have h1 := hf.1; have h2 := hf.2.1 (by omega); omega
  have e2 : IntKind.i64.wrap (f - 1) = f - 1 := IntWalk.i64_in _ (by omega)
  clear hr3 hf
  go_wp2_with fail
  refine (pick_any R 34 5 W4 hr4 (by omega) (by omega) (by omega)).mono ?_
  rintro e W5 ⟨m, hm, rfl, hr5, hg5⟩
  have hm' : 0 ≤ m ∧ m ≤ 4 := by have h1 := hm.1; have h2 := hm.2.1 (by omega); omega
  have D := hide (show DrawsT5 w (.returned (.tuple #[.slice A1 n1 c1, .int .i64 s, .int .i64 g, .int .i64 (f - 1), .int .i64 m])) W5 from ⟨_, _, _, ys, s, g, f - 1, m, rfl, hn1, a1, a2, hs, hg, by omega, hm', ((((hrow1.grownT hg2 hR').grownT hg3 hR').grownT hg4 hR').grownT hg5 hR').mono (by omega) (Nat.le_refl _), below_grownT hb (only_trans (only_trans (only_trans (only_trans hg1 hg2) hg3) hg4) hg5) (by omega)⟩)
  clear hr4 hr5 hg1 hg2 hg3 hg4 hg5 hrow1 hb hs hg hm
  go_wp2
  exact bodyPost_ret (v := .tuple #[.slice A1 n1 c1, .int .i64 s, .int .i64 g, .int .i64 (f - 1), .int .i64 m]) (by simp [results, Try.results24, go_sem]) rfl D.out
end Go.Proofs.Ytelokjobhfhhfaa
