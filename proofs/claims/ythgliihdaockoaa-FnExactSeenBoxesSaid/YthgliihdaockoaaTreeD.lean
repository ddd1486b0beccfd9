/- Trees: the program's paths and children. Conditions: none. -/
import Derived.Test.YthgliihdaockoaaTreeC
namespace Go.Proofs.Ythgliihdaockoaa
open Go.RowKit
set_option linter.unusedVariables false
set_option linter.unusedSimpArgs false
theorem upN_len {xs : List Int} {k i : Nat} (hp : Pre xs k) (hi : i < k) : 0 < (upN xs i).length ∧ (upN xs i).length ≤ i + 1 := by
  induction i using Nat.strongRecOn with
  | _ i ih =>
    by_cases hneg : par xs i < 0
    · rw [upN_root hneg]; simp
    · obtain ⟨q, hqq⟩ : ∃ q : Nat, par xs i = q := ⟨(par xs i).toNat, by omega⟩
      have h2 := (hp i hi).2.1
      have := ih q (by omega) (by omega)
      rw [upN_step hp hi hqq, List.length_cons]
      omega
/-- what is still to come of a path -/
def rest (xs : List Int) (p : Int) : List Int := if p < 0 then [] else upN xs p.toNat
def PathR (xs : List Int) (i : Nat) (w : World) (e : Ending) (w' : World) : Prop :=
  ∃ (A : Option Addr) (m : Nat), m = (upN xs i).length ∧ e = .returned (.slice A m m) ∧ Row 3 w' w.heap.size w'.heap.size A m (upN xs i).reverse ∧ Below w.heap.size w w'
set_option maxRecDepth 100000 in
set_option maxHeartbeats 2000000 in
theorem path_any (B : Nat) (a : Option Addr) (n c : Nat) (xs : List Int) (i : Nat) (w : World) (hA : Ints .i64 w B a (n * 9) xs) (hB : B ≤ w.heap.size) (hn : n ≤ 1048577) (hi : i < n) (hp : Pre xs (i + 1)) :
    Calls Try.prog 41 #[.slice a n c, .int .i64 i] w (PathR xs i w) := by
  obtain ⟨i0, hi0, hz0, hz1, hz2⟩ := info_parts int_info
  obtain ⟨b, off, rfl, hb9, hcell, -⟩ := hA.fldAt (by omega)
  have HC := hide (fun W (h : Below w.heap.size w W) i (hi : i < n) => (h.cell (p := ⟨b, off + i * 9, none⟩) (by show b < w.heap.size; omega)).trans (hcell i hi))
  have HP := hide hp
  have HL := hide (upN_len hp (Nat.lt_succ_self i))
  have HS := hide (show Own 3 1 (w.alloc (.cells #[] 3)) w.heap.size (.slice (some ⟨w.heap.size, 0, none⟩) 0 0) 0 [] from Own.made 3 1 w #[] 0 w.heap.size (Nat.le_refl _) (by omega) rfl)
  have HB := hide (show Below w.heap.size w (w.alloc (.cells #[] 3)) from (Below.refl _ _).alloc (Nat.le_refl _) _)
  clear hA hcell hp
  go_enter Try.func41, Try.ntmps41
  go_wp2
  generalize w.alloc (.cells #[] 3) = W0 at HS HB ⊢
  go_loopw [1, 5] (fun s1 s5 wr => ∃ (p : Int) (m c' : Nat) (A : Option Addr) (ys : List Int) (W9 : World), -1 ≤ p ∧ p ≤ i ∧ (m : Int) + p ≤ i ∧ s1 = .int .i64 p ∧ s5 = .slice A m c' ∧ W9 = wr ∧ Hid (ys ++ rest xs p = upN xs i) ∧ Hid (Own 3 1 W9 w.heap.size (.slice A m c') m ys) ∧ Hid (Below w.heap.size w W9)) (fun s1 _ _ => (intOf s1 + 1).toNat)
  case atStart => exact ⟨i, 0, 0, _, [], _, by omega, by omega, by omega, rfl, rfl, rfl, hide (by rw [rest, if_neg (by omega), Int.toNat_natCast]; rfl), HS, HB⟩
  case round =>
    obtain ⟨p, m, c', A, ys, W9, hp1, hp2, hmp, rfl, rfl, rfl, HY, HO, HBw⟩ := hrel
    clear HS HB
    have hz9 := HBw.out.size
    by_cases hneg : p < 0
    · have hneg' : ¬ 0 ≤ p := by omega
      have hys : ys = upN xs i := by have h := HY.out; rw [rest, if_pos hneg, List.append_nil] at h; exact h
      subst hys
      obtain ⟨A', c'', e, hc1, hc2, hrow⟩ := HO.out.form
      injection e with e1 e2 e3
      subst e1 e3
      rw [Nat.mul_one] at hrow
      have hml : m = (upN xs i).length := hrow.1.symm
      have HM := hide hml
      have hm1 : m ≤ 1048577 := by have := HL.out; omega
      have HR := hide hrow
      clear hrow hml HY HO
      go_wp2_with fail
      refine (reverse_any w.heap.size W9.heap.size A m c' (upN xs i) W9 HR.out hm1).mono ?_
      rintro e W10 ⟨rfl, hr, ho⟩
      have D := hide (show PathR xs i w (.returned (.slice A m m)) W10 from ⟨A, m, HM.out, rfl, hr.mono (Nat.le_refl _) ho.size, HBw.out.trans (ho.below (Nat.le_refl _) hz9)⟩)
      clear hr ho HR
      go_wp2_with (go_at_call 22; refine (clipInts_any A m c' _ hc1 (by unfold maxLen; omega)).mono ?_; rintro e w' ⟨rfl, rfl⟩)
      go_ret
      exact D.out
    · obtain ⟨q, rfl⟩ := Int.eq_ofNat_of_zero_le (show 0 ≤ p by omega)
      have hq0 : (0 : Int) ≤ (q : Int) := by omega
      have hqn : q < n := by omega
      have hqn' : (q : Int) < (n : Int) := by omega
      have hpq := HP.out q (by omega)
      have D := hide (show (ys ++ [(q : Int)]) ++ rest xs (par xs q) = upN xs i by
        rw [← HY.out, List.append_assoc]
        congr 1
        rw [rest, rest, if_neg (by omega : ¬ (q : Int) < 0), Int.toNat_natCast]
        by_cases hn : par xs q < 0
        · rw [if_pos hn, upN_root hn]; rfl
        · obtain ⟨r, hr⟩ : ∃ r : Nat, par xs q = r := ⟨(par xs q).toNat, by omega⟩
          rw [if_neg hn, hr, Int.toNat_natCast, upN_step HP.out (by omega) hr]; rfl)
      have HC1 := hide (fun W (h : Below w.heap.size w W) => HC.out W h q hqn)
      generalize par xs q = z at hpq D HC1
      clear HY
      go_wp2_with (at_builtin; refine wpList_push rfl (.tmp 14) (.tmp 16) 26 3 1 8 i0 _ rfl Try.underlying26 hi0 hz0 hz1 hz2 rfl (by omega) (by omega) W9 w.heap.size (.slice A m c') m ys rfl HO.out [(q : Int)] 1 1 rfl rfl (by omega) hz9 ?_; intro v1 w1 ho1 hb1 hg1 hv1; obtain ⟨A1, c1, hvv1, _, _, _⟩ := ho1.form; subst hvv1; have HO1 := hide ho1; have HB1 := hide (HBw.out.trans hb1); have gc1 := HC1.out _ HB1.out; clear ho1 hb1 hg1 hv1)
      go_roundw
      case rel => exact ⟨z, m + 1, _, _, _, _, by omega, by omega, by omega, rfl, rfl, rfl, D, HO1, HB1⟩
      case measure => simp [intOf]; omega
set_option maxRecDepth 100000 in
set_option maxHeartbeats 2000000 in
theorem kids_any (B : Nat) (a : Option Addr) (n c : Nat) (xs : List Int) (p : Nat) (w : World) (hA : Ints .i64 w B a (n * 9) xs) (hB : B ≤ w.heap.size) (hn : n ≤ 1048577) :
    Calls Try.prog 30 #[.slice a n c, .int .i64 p] w fun e w' => (∃ A : Option Addr, e = .returned (.slice A (kcnt xs p 0 n) (kcnt xs p 0 n))) ∧ Below w.heap.size w w' := by
  obtain ⟨i0, hi, hz0, hz1, hz2⟩ := info_parts int_info
  have HA := hide (fun W (h : Below w.heap.size w W) => hA.below h hB)
  have HS := hide (show Own 3 1 (w.alloc (.cells #[] 3)) w.heap.size (.slice (some ⟨w.heap.size, 0, none⟩) 0 0) 0 [] from Own.made 3 1 w #[] 0 w.heap.size (Nat.le_refl _) (by omega) rfl)
  have HB := hide (show Below w.heap.size w (w.alloc (.cells #[] 3)) from (Below.refl _ _).alloc (Nat.le_refl _) _)
  clear hA
  go_enter Try.func30, Try.ntmps30
  go_wp2
  generalize w.alloc (.cells #[] 3) = W0 at HS HB ⊢
  go_loopw [5, 11] (fun s5 s11 wr => ∃ (k m c' : Nat) (A : Option Addr) (ys : List Int) (W9 : World), k ≤ n ∧ m ≤ k ∧ s5 = .slice A m c' ∧ s11 = .int .i64 k ∧ W9 = wr ∧ Hid (m = kcnt xs p 0 k) ∧ Hid (Own 3 1 W9 w.heap.size (.slice A m c') m ys) ∧ Hid (Below w.heap.size w W9)) (fun _ s11 _ => n - (intOf s11).toNat)
  case atStart => exact ⟨0, 0, 0, _, [], _, Nat.zero_le _, Nat.zero_le _, rfl, rfl, rfl, hide rfl, HS, HB⟩
  case round =>
    obtain ⟨k, m, c', A, ys, W9, hk2, hmk, rfl, rfl, rfl, HM, HO, HBw⟩ := hrel
    clear HS HB
    have hz9 := HBw.out.size
    by_cases hlt : k < n
    · have hkn : (k : Int) < (n : Int) := by omega
      obtain ⟨b, off, rfl, hb9, h1, h2⟩ := (HA.out _ HBw.out).fldAt (by omega)
      have hc0 := h1 k hlt
      have hc1 := h2 k 1 hlt (by omega)
      have hc2 := h2 k 2 hlt (by omega)
      have hc3 := h2 k 3 hlt (by omega)
      have hc4 := h2 k 4 hlt (by omega)
      have hc5 := h2 k 5 hlt (by omega)
      have hc6 := h2 k 6 hlt (by omega)
      have hc7 := h2 k 7 hlt (by omega)
      have hc8 := h2 k 8 hlt (by omega)
      clear h1 h2
      obtain ⟨y, hy⟩ : ∃ y, par xs k = y := ⟨_, rfl⟩
      have HYY := hide hy
      rw [hy] at hc0
      clear hy
      generalize fld xs k 1 = y1 at hc1
      generalize fld xs k 2 = y2 at hc2
      generalize fld xs k 3 = y3 at hc3
      generalize fld xs k 4 = y4 at hc4
      generalize fld xs k 5 = y5 at hc5
      generalize fld xs k 6 = y6 at hc6
      generalize fld xs k 7 = y7 at hc7
      generalize fld xs k 8 = y8 at hc8
      have hba : Below W9.heap.size W9 (W9.alloc (.cells #[.int .i64 y, .int .i64 y1, .int .i64 y2, .int .i64 y3, .int .i64 y4, .int .i64 y5, .int .i64 y6, .int .i64 y7, .int .i64 y8] 43)) := (Below.refl _ _).alloc (Nat.le_refl _) _
      have HO0 := hide (HO.out.keep hba)
      have HB0 := hide (HBw.out.trans (hba.mono hz9))
      have hz0' := HB0.out.size
      clear hba HO
      by_cases he : y = p
      · have D := hide (show m + 1 = kcnt xs p 0 (k + 1) by rw [kcnt, if_pos ⟨Nat.zero_le _, by rw [HYY.out]; exact he⟩, HM.out])
        have he' : (y == (p : Int)) = true := by simpa using he
        clear he HM
        go_wp2_with (at_builtin; refine wpList_push rfl (.tmp 20) (.tmp 22) 26 3 1 8 i0 _ rfl Try.underlying26 hi hz0 hz1 hz2 rfl (by omega) (by omega) (W9.alloc (.cells #[.int .i64 y, .int .i64 y1, .int .i64 y2, .int .i64 y3, .int .i64 y4, .int .i64 y5, .int .i64 y6, .int .i64 y7, .int .i64 y8] 43)) w.heap.size (.slice A m c') m ys rfl HO0.out [(k : Int)] 1 1 (by show Value.slice (some ⟨W9.heap.size + 1, 0, none⟩) 1 1 = _; simp) rfl (by omega) hz0' ?_; intro v1 w1 ho1 hb1 hg1 hv1; obtain ⟨A1, c1, hvv1, _, _, _⟩ := ho1.form; subst hvv1; have HO1 := hide ho1; have HB1 := hide (HB0.out.trans hb1); clear ho1 hb1 hg1 hv1)
        go_roundw
        case rel => exact ⟨k + 1, m + 1, _, _, _, _, by omega, by omega, rfl, by go_num, rfl, D, HO1, HB1⟩
        case measure => simp [intOf]; omega
      · have he' : (y == (p : Int)) = false := by simpa using he
        have D := hide (show m = kcnt xs p 0 (k + 1) by rw [kcnt, if_neg (fun h => he (by rw [← HYY.out]; exact h.2)), HM.out]; rfl)
        clear he HM
        go_wp2
        go_roundw
        case rel => exact ⟨k + 1, m, _, _, _, _, by omega, by omega, rfl, by go_num, rfl, D, HO0, HB0⟩
        case measure => simp [intOf]; omega
    · obtain rfl : k = n := by omega
      obtain ⟨A', c'', e, hc1, hc2, _⟩ := HO.out.form
      injection e with e1 e2 e3
      subst e1 e3
      have D := hide (show (∃ A' : Option Addr, (Ending.returned (.slice A m m)) = .returned (.slice A' (kcnt xs p 0 k) (kcnt xs p 0 k))) ∧ Below w.heap.size w W9 from ⟨⟨A, by rw [HM.out]⟩, HBw.out⟩)
      clear HM HO HBw
      go_wp2_with (go_at_call 22; refine (clipInts_any A m c' _ hc1 (by unfold maxLen; omega)).mono ?_; rintro e w' ⟨rfl, rfl⟩)
      go_ret
      exact D.out
end Go.Proofs.Ythgliihdaockoaa
