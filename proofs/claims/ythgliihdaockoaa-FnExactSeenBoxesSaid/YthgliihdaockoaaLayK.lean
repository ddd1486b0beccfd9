/- Layout: the lists of the boxes in a box: the reference and the program. Conditions: none. -/
import Derived.Test.YthgliihdaockoaaLayM
namespace Go.Proofs.Ythgliihdaockoaa
open Go.RowKit
set_option linter.unusedVariables false
set_option linter.unusedSimpArgs false
theorem pickN_skip {p : Nat → Bool} {k : Nat} (h : ∀ j, j < k → p j = false) : pickN p k = [] := by
  induction k with
  | zero => rfl
  | succ k ih => rw [pickN_no (h k (by omega)), ih (fun j hj => h j (by omega))]
set_option maxHeartbeats 2000000 in
theorem specKidsL_any (B : Nat) (a : Option Addr) (n c : Nat) (xs : List Int) (p : Nat) (w : World) (hA : Ints .i64 w B a (n * 9) xs) (hB : B ≤ w.heap.size) (hn : n ≤ 1048577) (hp : p < n) (hpre : Pre xs n) :
    Calls Try.prog 35 #[.slice a n c, .int .i64 p] w (ListR (kidsL xs n p) w) := by
  obtain ⟨i0, hi, hz0, hz1, hz2⟩ := info_parts int_info
  have e1 : IntKind.i64.wrap ((p : Int) + 1) = ((p + 1 : Nat) : Int) := by rw [IntWalk.i64_in _ (by omega)]; omega
  have HNone := hide (pickN_skip (p := fun j => decide (par xs j = (p : Int))) (k := p + 1) (fun j hj => by have := (hpre j (by omega)).2.1; simp; omega))
  obtain ⟨p1, hp1⟩ : ∃ p1, p + 1 = p1 := ⟨_, rfl⟩
  rw [hp1] at e1 HNone
  have hp2 : p1 ≤ n := by omega
  clear hp1
  obtain ⟨b, off, rfl, hb9, hcell, _⟩ := hA.fldAt (by omega)
  have HC := hide (fun W (h : Below w.heap.size w W) i (hi : i < n) => (h.cell (p := ⟨b, off + i * 9, none⟩) (by show b < w.heap.size; omega)).trans (hcell i hi))
  have HS := hide (show Own 3 1 (w.alloc (.cells #[] 3)) w.heap.size (.slice (some ⟨w.heap.size, 0, none⟩) 0 0) 0 [] from Own.made 3 1 w #[] 0 w.heap.size (Nat.le_refl _) (by omega) rfl)
  have HB := hide (show Below w.heap.size w (w.alloc (.cells #[] 3)) from (Below.refl _ _).alloc (Nat.le_refl _) _)
  clear hA hcell
  go_enter Try.func35, Try.ntmps35
  go_wp2
  generalize w.alloc (.cells #[] 3) = W0 at HS HB ⊢
  go_loopw [5, 6] (fun s5 s6 wr => ∃ (k m c' : Nat) (A : Option Addr) (ys : List Int) (W9 : World), p1 ≤ k ∧ k ≤ n ∧ m ≤ k ∧ s5 = .slice A m c' ∧ s6 = .int .i64 k ∧ W9 = wr ∧ Hid (ys = pickN (fun j => decide (par xs j = (p : Int))) k) ∧ Hid (Own 3 1 W9 w.heap.size (.slice A m c') m ys) ∧ Hid (Below w.heap.size w W9)) (fun _ s6 _ => n - (intOf s6).toNat)
  case atStart => exact ⟨p1, 0, 0, _, [], _, Nat.le_refl _, hp2, Nat.zero_le _, rfl, rfl, rfl, hide HNone.out.symm, HS, HB⟩
  case round =>
    obtain ⟨k, m, c', A, ys, W9, hk1, hk2, hmk, rfl, rfl, rfl, HM, HO, HBw⟩ := hrel
    clear HS HB
    have hz9 := HBw.out.size
    by_cases hlt : k < n
    · have hc0 := HC.out W9 HBw.out k hlt
      by_cases he : par xs k = p
      · rw [he] at hc0
        have D := hide (show ys ++ [(k : Int)] = pickN (fun j => decide (par xs j = (p : Int))) (k + 1) by rw [pickN_yes (by simpa using he), HM.out])
        clear he HM
        go_wp2_with (at_builtin; refine wpList_push rfl (.tmp 23) (.tmp 25) 26 3 1 8 i0 _ rfl Try.underlying26 hi hz0 hz1 hz2 rfl (by omega) (by omega) W9 w.heap.size (.slice A m c') m ys rfl HO.out [(k : Int)] 1 1 rfl rfl (by omega) hz9 ?_; intro v1 w1 ho1 hb1 hg1 hv1; obtain ⟨A1, c1, hvv1, _, _, _⟩ := ho1.form; subst hvv1; have HO1 := hide ho1; have HB1 := hide (HBw.out.trans hb1); clear ho1 hb1 hg1 hv1)
        go_roundw
        case rel => exact ⟨k + 1, m + 1, _, _, _, _, by omega, by omega, by omega, rfl, by go_num, rfl, D, HO1, HB1⟩
        case measure => simp [intOf]; omega
      · have he' : (par xs k == (p : Int)) = false := by simpa using he
        have D := hide (show ys = pickN (fun j => decide (par xs j = (p : Int))) (k + 1) by rw [pickN_no (by simpa using he), HM.out])
        generalize par xs k = y at hc0 he'
        clear he HM
        go_wp2
        go_roundw
        case rel => exact ⟨k + 1, m, _, _, _, _, by omega, by omega, by omega, rfl, by go_num, rfl, D, HO, HBw⟩
        case measure => simp [intOf]; omega
    · obtain rfl : n = k := by omega
      have D := hide (show ListR (kidsL xs n p) w (.returned (.slice A m c')) W9 by rw [kidsL, ← HM.out]; exact ListR.own HO.out HBw.out)
      clear HM HO HBw
      go_wp2
      go_ret
      exact D.out
set_option maxRecDepth 100000 in
set_option maxHeartbeats 2000000 in
theorem implKidsL_any (B : Nat) (a : Option Addr) (n c : Nat) (xs : List Int) (p : Nat) (w : World) (hA : Ints .i64 w B a (n * 9) xs) (hB : B ≤ w.heap.size) (hn : n ≤ 1048577) :
    Calls Try.prog 30 #[.slice a n c, .int .i64 p] w (ListR (kidsL xs n p) w) := by
  obtain ⟨i0, hi, hz0, hz1, hz2⟩ := info_parts int_info
  have HA := hide (fun W (h : Below w.heap.size w W) => hA.below h hB)
  have HS := hide (show Own 3 1 (w.alloc (.cells #[] 3)) w.heap.size (.slice (some ⟨w.heap.size, 0, none⟩) 0 0) 0 [] from Own.made 3 1 w #[] 0 w.heap.size (Nat.le_refl _) (by omega) rfl)
  have HB := hide (show Below w.heap.size w (w.alloc (.cells #[] 3)) from (Below.refl _ _).alloc (Nat.le_refl _) _)
  clear hA
  go_enter Try.func30, Try.ntmps30
  go_wp2
  generalize w.alloc (.cells #[] 3) = W0 at HS HB ⊢
  go_loopw [5, 11] (fun s5 s11 wr => ∃ (k m c' : Nat) (A : Option Addr) (ys : List Int) (W9 : World), k ≤ n ∧ m ≤ k ∧ s5 = .slice A m c' ∧ s11 = .int .i64 k ∧ W9 = wr ∧ Hid (ys = pickN (fun j => decide (par xs j = (p : Int))) k) ∧ Hid (Own 3 1 W9 w.heap.size (.slice A m c') m ys) ∧ Hid (Below w.heap.size w W9)) (fun _ s11 _ => n - (intOf s11).toNat)
  case atStart => exact ⟨0, 0, 0, _, [], _, Nat.zero_le _, Nat.zero_le _, rfl, rfl, rfl, hide rfl, HS, HB⟩
  case round =>
    obtain ⟨k, m, c', A, ys, W9, hk2, hmk, rfl, rfl, rfl, HM, HO, HBw⟩ := hrel
    clear HS HB
    have hz9 := HBw.out.size
    by_cases hlt : k < n
    · have hkn : (k : Int) < (n : Int) := by omega
      obtain ⟨b, off, rfl, hb9, h1, h2⟩ := (HA.out _ HBw.out).fldAt (by omega)
      have hc0 := h1 k hlt
      have hc1 := h2 k 1 hlt (by omega)
      have hc2 := h2 k 2 hlt (by omega)
      have hc3 := h2 k 3 hlt (by omega)
      have hc4 := h2 k 4 hlt (by omega)
      have hc5 := h2 k 5 hlt (by omega)
      have hc6 := h2 k 6 hlt (by omega)
      have hc7 := h2 k 7 hlt (by omega)
      have hc8 := h2 k 8 hlt (by omega)
      clear h1 h2
      obtain ⟨y, hy⟩ : ∃ y, par xs k = y := ⟨_, rfl⟩
      have HYY := hide hy
      rw [hy] at hc0
      clear hy
      generalize fld xs k 1 = y1 at hc1
      generalize fld xs k 2 = y2 at hc2
      generalize fld xs k 3 = y3 at hc3
      generalize fld xs k 4 = y4 at hc4
      generalize fld xs k 5 = y5 at hc5
      generalize fld xs k 6 = y6 at hc6
      generalize fld xs k 7 = y7 at hc7
      generalize fld xs k 8 = y8 at hc8
      have hba : Below W9.heap.size W9 (W9.alloc (.cells #[.int .i64 y, .int .i64 y1, .int .i64 y2, .int .i64 y3, .int .i64 y4, .int .i64 y5, .int .i64 y6, .int .i64 y7, .int .i64 y8] 43)) := (Below.refl _ _).alloc (Nat.le_refl _) _
      have HO0 := hide (HO.out.keep hba)
      have HB0 := hide (HBw.out.trans (hba.mono hz9))
      have hz0' := HB0.out.size
      clear hba HO
      by_cases he : y = p
      · have D := hide (show ys ++ [(k : Int)] = pickN (fun j => decide (par xs j = (p : Int))) (k + 1) by rw [pickN_yes (by rw [HYY.out]; simpa using he), HM.out])
        have he' : (y == (p : Int)) = true := by simpa using he
        clear he HM
        go_wp2_with (at_builtin; refine wpList_push rfl (.tmp 20) (.tmp 22) 26 3 1 8 i0 _ rfl Try.underlying26 hi hz0 hz1 hz2 rfl (by omega) (by omega) (W9.alloc (.cells #[.int .i64 y, .int .i64 y1, .int .i64 y2, .int .i64 y3, .int .i64 y4, .int .i64 y5, .int .i64 y6, .int .i64 y7, .int .i64 y8] 43)) w.heap.size (.slice A m c') m ys rfl HO0.out [(k : Int)] 1 1 (by show Value.slice (some ⟨W9.heap.size + 1, 0, none⟩) 1 1 = _; simp) rfl (by omega) hz0' ?_; intro v1 w1 ho1 hb1 hg1 hv1; obtain ⟨A1, c1, hvv1, _, _, _⟩ := ho1.form; subst hvv1; have HO1 := hide ho1; have HB1 := hide (HB0.out.trans hb1); clear ho1 hb1 hg1 hv1)
        go_roundw
        case rel => exact ⟨k + 1, m + 1, _, _, _, _, by omega, by omega, rfl, by go_num, rfl, D, HO1, HB1⟩
        case measure => simp [intOf]; omega
      · have he' : (y == (p : Int)) = false := by simpa using he
        have D := hide (show ys = pickN (fun j => decide (par xs j = (p : Int))) (k + 1) by rw [pickN_no (by rw [HYY.out]; simpa using he), HM.out])
        clear he HM
        go_wp2
        go_roundw
        case rel => exact ⟨k + 1, m, _, _, _, _, by omega, by omega, rfl, by go_num, rfl, D, HO0, HB0⟩
        case measure => simp [intOf]; omega
    · obtain rfl : n = k := by omega
      obtain ⟨A', c'', e, hc1, hc2, hrow⟩ := HO.out.form
      injection e with e1 e2 e3
      subst e1 e3
      have D := hide (show ListR (kidsL xs n p) w (.returned (.slice A m m)) W9 by rw [kidsL, ← HM.out]; rw [Nat.mul_one] at hrow; exact ⟨A, m, m, rfl, hrow, HBw.out⟩)
      clear hrow
      clear HM HO HBw
      go_wp2_with (go_at_call 22; refine (clipInts_any A m c' _ hc1 (by unfold maxLen; omega)).mono ?_; rintro e w' ⟨rfl, rfl⟩)
      go_ret
      exact D.out
end Go.Proofs.Ythgliihdaockoaa
