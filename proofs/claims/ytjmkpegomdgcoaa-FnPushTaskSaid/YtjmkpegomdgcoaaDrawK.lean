/- The drawn arguments of the laws of tasks. Conditions: none. -/
import Derived.Test.YtjmkpegomdgcoaaTaskR
import Derived.Test.YtjmkpegomdgcoaaOne
namespace Go.Proofs.Ytjmkpegomdgcoaa
open Go.RowKit
set_option linter.unusedVariables false
set_option linter.unusedSimpArgs false
theorem Own.farK {E : TypeId} {k R : Nat} {w w' : World} {base : Nat} {v : Value} {n : Nat} {xs : List Int} (h : Own E k w base v n xs) (hg : w.grownBy w' (some R)) (hR : R < base) : Own E k w' base v n xs :=
  h.far hg (by
    rcases hv : v.ownBlock with _ | j
    · exact .inl rfl
    · have := h.lt j hv
      exact .inr (fun e => by injection e with e; omega))
theorem own_flat {w : World} {base n : Nat} {v : Value} {ys : List Int} (h : Own 39 3 w base v n ys) : ∃ ts : List Tk, ts.length = n ∧ flat ts = ys := unflat ys n h.len
/-- tasks that are being drawn -/
structure DK (w : World) (R p n : Nat) (s : Value) (W : World) : Prop where
  le : n ≤ 11
  own : ∃ ts : List Tk, ts.length = n ∧ Own 39 3 W w.heap.size s n (flat ts)
  rd : Rd W R p
  grown : w.grownBy W (some R)
theorem DK.far {w W W' : World} {R p p' n : Nat} {s : Value} (h : DK w R p n s W) (hg : W.grownBy W' (some R)) (hr : Rd W' R p') (hR : R < w.heap.size) : DK w R p' n s W' where
  le := h.le
  own := by obtain ⟨ts, h1, h2⟩ := h.own; exact ⟨ts, h1, h2.farK hg hR⟩
  rd := hr
  grown := only_trans h.grown hg
theorem DK.below {w W W' : World} {R p n : Nat} {s : Value} (h : DK w R p n s W) (hb : Below W.heap.size W W') : DK w R p n s W' where
  le := h.le
  own := by obtain ⟨ts, h1, h2⟩ := h.own; exact ⟨ts, h1, h2.keep hb⟩
  rd := h.rd.below hb h.rd.lt
  grown := only_below h.grown hb h.grown.size
/-- the same in one step, with a new list -/
theorem DK.new {w W W' : World} {R p n m : Nat} {s v : Value} {ts : List Tk} (h : DK w R p n s W) (hb : Below W.heap.size W W') (ho : Own 39 3 W' W.heap.size v m (flat ts)) (hm : m ≤ 11) : DK w R p m v W' where
  le := hm
  own := ⟨ts, by have := ho.len; rw [flat_len] at this; omega, ho.mono h.grown.size⟩
  rd := h.rd.below hb h.rd.lt
  grown := only_below h.grown hb h.grown.size
theorem DK.mono {w W : World} {R p p' n : Nat} {s : Value} (h : DK w R p n s W) (hp : p ≤ p') : DK w R p' n s W := ⟨h.le, h.own, h.rd.mono hp, h.grown⟩
def DrawnK (w : World) (R p m : Nat) (e : Ending) (w' : World) : Prop := ∃ (A : Option Addr) (n c : Nat), e = .returned (.slice A n c) ∧ DK w R p n (.slice A n c) w' ∧ n ≤ m
set_option maxHeartbeats 4000000 in
theorem someTasks_any (R p : Nat) (w : World) (h : Rd w R p) (hp : p ≤ 400000) : Calls Try.prog 38 #[.pointer (some ⟨R, 0, none⟩)] w (DrawnK w R (p + 50) 10) := by
  have hR' := h.lt
  have HS := hide (show DK w R p 0 (.slice (some ⟨w.heap.size, 0, none⟩) 0 0) (w.alloc (.cells #[] 39)) from ⟨by omega, ⟨[], rfl, Own.made 39 3 w #[] 0 w.heap.size (Nat.le_refl _) (by omega) rfl⟩, h.alloc _, World.grownBy_alloc _ _ _⟩)
  have hr0 := h.alloc (.cells #[] 39)
  clear h
  go_enter Try.func38, Try.ntmps38
  go_wp2_with fail
  refine (one_at R p [4, 6, 8, 2, 1, 0, 12] _ _ _ hr0 (by omega) (by rfl) (by omega) (by omega) (by simp)).mono ?_
  rintro e W1 ⟨x, hx, rfl, hr1, hg1⟩
  obtain ⟨hx0, hx1⟩ : 0 ≤ x ∧ x ≤ 12 := by simp at hx; omega
  have HS1 := hide (HS.out.far hg1 hr1 hR')
  clear hx hr0 hr1 hg1 HS
  go_wp2_with fail
  go_loopw [3, 4] (fun s3 s4 wr => ∃ (q : Int) (i n c : Nat) (A : Option Addr) (W9 : World), 0 ≤ q ∧ q + i ≤ 12 ∧ n ≤ 10 ∧ s3 = .slice A n c ∧ s4 = .int .i64 q ∧ W9 = wr ∧ Hid (DK w R (p + 1 + 3 * i) n (.slice A n c) W9)) (fun _ s4 _ => (intOf s4).toNat)
  case atStart => exact ⟨x, 0, 0, 0, _, _, hx0, by omega, by omega, rfl, rfl, rfl, HS1⟩
  case round =>
    obtain ⟨q, i, n, c, A, W9, hq0, hqi, hn10, rfl, rfl, rfl, HK⟩ := hrel
    clear HS1
    by_cases hlt : 0 < q
    · go_wp2_with fail
      refine (pick_any R (p + 1 + 3 * i) 30 _ HK.out.rd (by omega) (by omega) (by omega)).mono ?_
      rintro e W2 ⟨k, hk, rfl, hr2, hg2⟩
      have HK2 := hide (HK.out.far hg2 hr2 hR')
      clear hk hr2 hg2 HK
      go_wp2_with fail
      refine (one_lit R (p + 1 + 3 * i + 1) [5, 0, 10, 50, 20, 7] _ _ HK2.out.rd (by omega) (by rfl) (by omega) (by omega)).mono ?_
      rintro e W3 ⟨y, hy, rfl, hr3, hg3⟩
      have HK3 := hide (HK2.out.far hg3 hr3 hR')
      clear hy hr3 hg3 HK2
      obtain ⟨ts, hts, ho⟩ := HK3.out.own
      have HI := hide (show Ints .i64 W3 W3.heap.size A (n * 3) (flat ts) from by
        obtain ⟨A', c', e, _, _, hr⟩ := ho.form
        injection e with e1 e2 e3
        subst e1
        exact hr.ints)
      clear ho
      go_wp2_with fail
      refine (specPush_any W3.heap.size A n c ts k y _ HI.out (Nat.le_refl _) (by omega)).mono ?_
      rintro e W4 ⟨A4, m4, c4, rfl, ho4, hb4⟩
      have hm4 : m4 ≤ 10 := by have h1 := ho4.len; rw [flat_len] at h1; have := pushS_len (ts := ts) (id := k) (rank := y); omega
      have HKa := hide (HK3.out.below hb4)
      have HKb := hide (HK3.out.new hb4 ho4 (by omega))
      clear HK3 HI ho4 hb4 hts
      have HALL := hide (show ∀ (b : Bool), ∃ (A' : Option Addr) (n' c' : Nat), (if b = true then Value.slice A4 m4 c4 else Value.slice A n c) = .slice A' n' c' ∧ n' ≤ 10 ∧ DK w R (p + 1 + 3 * i + 1 + 1) n' (.slice A' n' c') W4 from fun b => by
        cases b
        · exact ⟨A, n, c, rfl, hn10, HKa.out⟩
        · exact ⟨A4, m4, c4, rfl, hm4, HKb.out⟩)
      cases hq : pushOk ts k y
      case false =>
        clear HKb HALL
        by_cases h2 : 2 < n
        · have h2' : (2 : Int) < (n : Int) := by omega
          go_wp2_with fail
          refine (pick_any R (p + 1 + 3 * i + 2) 4 _ HKa.out.rd (by omega) (by omega) (by omega)).mono ?_
          rintro e W5 ⟨k5, hk5, rfl, hr5, hg5⟩
          have HK5 := hide (HKa.out.far hg5 hr5 hR')
          clear hk5 hr5 hg5 HKa
          by_cases hk0 : k5 = 0
          · subst hk0
            obtain ⟨ts5, hts5, ho5⟩ := HK5.out.own
            have HI5 := hide (show Ints .i64 W5 W5.heap.size A (n * 3) (flat ts5) from by
              obtain ⟨A', c', e, _, _, hr⟩ := ho5.form
              injection e with e1 e2 e3
              subst e1
              exact hr.ints)
            clear ho5 hts5
            go_wp2_with fail
            refine (take_any W5.heap.size A n c (flat ts5) _ HI5.out (Nat.le_refl _) (by omega)).mono ?_
            rintro e W6 ⟨A6, n6, c6, ys6, hn6, rfl, ho6, hb6⟩
            obtain ⟨ts6, hts6, rfl⟩ := own_flat ho6
            have D := hide ((HK5.out.new hb6 ho6 (by omega)).mono (show p + 1 + 3 * i + 2 + 1 ≤ p + 1 + 3 * (i + 1) by omega))
            clear ho6 hb6 HI5 HK5 hts6
            go_wp2
            go_roundw
            case rel => exact ⟨q - 1, i + 1, n6, c6, A6, _, by omega, by omega, by omega, rfl, rfl, rfl, D⟩
            case measure => simp [intOf]; omega
          · have g1 : (k5 == 0) = false := by simpa using hk0
            have D := hide (HK5.out.mono (show p + 1 + 3 * i + 2 + 1 ≤ p + 1 + 3 * (i + 1) by omega))
            clear hk0 HK5
            go_wp2
            go_roundw
            case rel => exact ⟨q - 1, i + 1, n, c, A, _, by omega, by omega, by omega, rfl, rfl, rfl, D⟩
            case measure => simp [intOf]; omega
        · have h2' : ¬ (2 : Int) < (n : Int) := by omega
          have D := hide (HKa.out.mono (show p + 1 + 3 * i + 1 + 1 ≤ p + 1 + 3 * (i + 1) by omega))
          clear HKa
          go_wp2
          go_roundw
          case rel => exact ⟨q - 1, i + 1, n, c, A, _, by omega, by omega, by omega, rfl, rfl, rfl, D⟩
          case measure => simp [intOf]; omega
      case true =>
        clear HKa HALL
        by_cases h2 : 2 < m4
        · have h2' : (2 : Int) < (m4 : Int) := by omega
          go_wp2_with fail
          refine (pick_any R (p + 1 + 3 * i + 2) 4 _ HKb.out.rd (by omega) (by omega) (by omega)).mono ?_
          rintro e W5 ⟨k5, hk5, rfl, hr5, hg5⟩
          have HK5 := hide (HKb.out.far hg5 hr5 hR')
          clear hk5 hr5 hg5 HKb
          by_cases hk0 : k5 = 0
          · subst hk0
            obtain ⟨ts5, hts5, ho5⟩ := HK5.out.own
            have HI5 := hide (show Ints .i64 W5 W5.heap.size A4 (m4 * 3) (flat ts5) from by
              obtain ⟨A', c', e, _, _, hr⟩ := ho5.form
              injection e with e1 e2 e3
              subst e1
              exact hr.ints)
            clear ho5 hts5
            go_wp2_with fail
            refine (take_any W5.heap.size A4 m4 c4 (flat ts5) _ HI5.out (Nat.le_refl _) (by omega)).mono ?_
            rintro e W6 ⟨A6, n6, c6, ys6, hn6, rfl, ho6, hb6⟩
            obtain ⟨ts6, hts6, rfl⟩ := own_flat ho6
            have D := hide ((HK5.out.new hb6 ho6 (by omega)).mono (show p + 1 + 3 * i + 2 + 1 ≤ p + 1 + 3 * (i + 1) by omega))
            clear ho6 hb6 HI5 HK5 hts6
            go_wp2
            go_roundw
            case rel => exact ⟨q - 1, i + 1, n6, c6, A6, _, by omega, by omega, by omega, rfl, rfl, rfl, D⟩
            case measure => simp [intOf]; omega
          · have g1 : (k5 == 0) = false := by simpa using hk0
            have D := hide (HK5.out.mono (show p + 1 + 3 * i + 2 + 1 ≤ p + 1 + 3 * (i + 1) by omega))
            clear hk0 HK5
            go_wp2
            go_roundw
            case rel => exact ⟨q - 1, i + 1, m4, c4, A4, _, by omega, by omega, by omega, rfl, rfl, rfl, D⟩
            case measure => simp [intOf]; omega
        · have h2' : ¬ (2 : Int) < (m4 : Int) := by omega
          have D := hide (HKb.out.mono (show p + 1 + 3 * i + 1 + 1 ≤ p + 1 + 3 * (i + 1) by omega))
          clear HKb
          go_wp2
          go_roundw
          case rel => exact ⟨q - 1, i + 1, m4, c4, A4, _, by omega, by omega, by omega, rfl, rfl, rfl, D⟩
          case measure => simp [intOf]; omega
    · have D := hide (show DrawnK w R (p + 50) 10 (.returned (.slice A n c)) W9 from ⟨A, n, c, rfl, HK.out.mono (by omega), hn10⟩)
      clear HK
      go_wp2
      go_ret
      exact D.out
set_option maxHeartbeats 2000000 in
theorem anyTasks_any (R p : Nat) (w : World) (h : Rd w R p) (hp : p ≤ 400000) : Calls Try.prog 27 #[.pointer (some ⟨R, 0, none⟩)] w (DrawnK w R (p + 60) 11) := by
  obtain ⟨i0, hi, hz0, hz1, hz2⟩ := info_parts Task_info
  have hR' := h.lt
  go_enter Try.func27, Try.ntmps27
  go_wp2_with fail
  refine (someTasks_any R p w h hp).mono ?_
  rintro e W1 ⟨A, n, c, rfl, hk1, hn10⟩
  have HK1 := hide hk1
  clear h hk1
  go_wp2_with fail
  refine (pick_any R (p + 50) 16 _ HK1.out.rd (by omega) (by omega) (by omega)).mono ?_
  rintro e W2 ⟨k, hk, rfl, hr2, hg2⟩
  have HK2 := hide (HK1.out.far hg2 hr2 hR')
  clear hk hr2 hg2 HK1
  by_cases hk0 : k = 0
  · subst hk0
    go_wp2_with fail
    refine (one_lit R (p + 51) [0, 99, 100] _ _ HK2.out.rd (by omega) (by rfl) (by omega) (by omega)).mono ?_
    rintro e W3 ⟨x, hx, rfl, hr3, hg3⟩
    have HK3 := hide (HK2.out.far hg3 hr3 hR')
    clear hx hr3 hg3 HK2
    go_wp2_with fail
    refine (one_lit R (p + 52) [0, 51, -1] _ _ HK3.out.rd (by omega) (by rfl) (by omega) (by omega)).mono ?_
    rintro e W4 ⟨y, hy, rfl, hr4, hg4⟩
    have HK4 := hide (HK3.out.far hg4 hr4 hR')
    clear hy hr4 hg4 HK3
    go_wp2_with fail
    refine (one_lit R (p + 53) [0, 21] _ _ HK4.out.rd (by omega) (by rfl) (by omega) (by omega)).mono ?_
    rintro e W5 ⟨z, hz, rfl, hr5, hg5⟩
    have HK5 := hide (HK4.out.far hg5 hr5 hR')
    clear hz hr5 hg5 HK4
    obtain ⟨ts, hts, ho⟩ := HK5.out.own
    have HO := hide ho
    have hz5 := HK5.out.grown.size
    clear ho
    go_wp2_with (at_builtin; refine wpList_push rfl (.tmp 9) (.tmp 20) 25 39 3 24 i0 _ rfl Try.underlying25 hi hz0 hz1 hz2 rfl (by omega) (by omega) W5 w.heap.size (.slice A n c) n _ rfl HO.out [x, y, z] 1 1 rfl rfl (by omega) (by omega) ?_; intro v1 w1' ho1 hb1 hg1 hv1; have D := hide (show DK w R (p + 60) (n + 1) v1 w1' from ⟨by omega, ⟨ts ++ [⟨x, y, z⟩], by simp [hts], by rw [flat_append]; exact ho1⟩, (HK5.out.rd.grown hg1 (fun k hk => by have := HO.out.lt k hk; omega)).mono (by omega), only_fresh HK5.out.grown hg1 (fun k hk => (HO.out.lt k hk).1)⟩); obtain ⟨A1, cc1, hvv1, _, _, _⟩ := ho1.form; subst hvv1; clear ho1 hb1 hg1 hv1)
    go_ret
    exact ⟨_, _, _, rfl, D.out, by omega⟩
  · have g1 : (k == 0) = false := by simpa using hk0
    have D := hide (show DrawnK w R (p + 60) 11 (.returned (.slice A n c)) W2 from ⟨A, n, c, rfl, HK2.out.mono (by omega), by omega⟩)
    clear hk0 HK2
    go_wp2
    go_ret
    exact D.out
end Go.Proofs.Ytjmkpegomdgcoaa
