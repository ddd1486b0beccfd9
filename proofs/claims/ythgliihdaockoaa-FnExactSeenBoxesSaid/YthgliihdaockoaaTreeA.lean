/- Trees: what the reference asks of a box, and of all of them. Conditions: none. -/
import Derived.Test.YthgliihdaockoaaTreeM
import Derived.Test.YthgliihdaockoaaBoxS
import Derived.BigQuiet
namespace Go.Proofs.Ythgliihdaockoaa
open Go.RowKit
set_option linter.unusedVariables false
set_option linter.unusedSimpArgs false
theorem inRange_is {n lo hi : Int} {b : Bool} (h : inR n lo hi = b) (w : World) : Calls Try.prog 25 #[.int .i64 n, .int .i64 lo, .int .i64 hi] w fun e w' => e = .returned (.bool b) ∧ w = w' := h ▸ inRange_any n lo hi w
theorem within_is {n lo hi : Int} {b : Bool} (h : inR n lo hi = b) (w : World) : Calls Try.prog 28 #[.int .i64 n, .int .i64 lo, .int .i64 hi] w fun e w' => e = .returned (.bool b) ∧ w = w' := h ▸ within_any n lo hi w
theorem fld_zero (xs : List Int) (i : Nat) : fld xs i 0 = par xs i := rfl
/-- the cells of a tree: the j-th number of the i-th box -/
theorem Ints.fldAt {w : World} {B n : Nat} {a : Option Addr} {xs : List Int} (h : Ints .i64 w B a (n * 9) xs) (hn : 0 < n) :
    ∃ b off, a = some ⟨b, off, none⟩ ∧ b < B ∧ (∀ i, i < n → w.cell? ⟨b, off + i * 9, none⟩ = some (.int .i64 (par xs i))) ∧ ∀ i j, i < n → j < 9 → w.cell? ⟨b, off + i * 9 + j, none⟩ = some (.int .i64 (fld xs i j)) := by
  obtain ⟨b, off, e, hb, hc⟩ := h.2.2 (by omega)
  exact ⟨b, off, e, hb, fun i hi => hc (i * 9) (by omega), fun i j hi hj => by rw [Nat.add_assoc]; exact hc (i * 9 + j) (by omega)⟩
set_option maxHeartbeats 4000000 in
theorem validBox_any (x0 x1 x2 x3 x4 x5 x6 x7 x8 : Int) (w : World) :
    Calls Try.prog 34 #[.agg #[.int .i64 x0, .int .i64 x1, .int .i64 x2, .int .i64 x3, .int .i64 x4, .int .i64 x5, .int .i64 x6, .int .i64 x7, .int .i64 x8]] w fun e w' => e = .returned (.bool (box9 x1 x2 x3 x4 x5 x6 x7 x8)) ∧ Below w.heap.size w w' := by
  have HB := hide (show Below w.heap.size w (w.alloc (.cells #[.int .i64 x0, .int .i64 x1, .int .i64 x2, .int .i64 x3, .int .i64 x4, .int .i64 x5, .int .i64 x6, .int .i64 x7, .int .i64 x8] 43)) from (Below.refl _ _).alloc (Nat.le_refl _) _)
  cases h1 : inR x1 0 3
  case false =>
    have D := hide (show box9 x1 x2 x3 x4 x5 x6 x7 x8 = false by simp [box9, h1])
    go_enter Try.func34, Try.ntmps34
    go_wp2_with (first | (go_at_call 25; with_reducible refine (inRange_is h1 _).mono ?_; rintro e w' ⟨rfl, rfl⟩))
    go_ret
    exact ⟨ret_bool D.out.symm, HB.out⟩
  case true =>
    cases h2 : inR x2 0 100
    case false =>
      have D := hide (show box9 x1 x2 x3 x4 x5 x6 x7 x8 = false by simp [box9, h1, h2])
      go_enter Try.func34, Try.ntmps34
      go_wp2_with (first | (go_at_call 25; with_reducible refine (inRange_is h1 _).mono ?_; rintro e w' ⟨rfl, rfl⟩) | (go_at_call 25; with_reducible refine (inRange_is h2 _).mono ?_; rintro e w' ⟨rfl, rfl⟩))
      go_ret
      exact ⟨ret_bool D.out.symm, HB.out⟩
    case true =>
      cases h3 : inR x3 0 100
      case false =>
        have D := hide (show box9 x1 x2 x3 x4 x5 x6 x7 x8 = false by simp [box9, h1, h2, h3])
        go_enter Try.func34, Try.ntmps34
        go_wp2_with (first | (go_at_call 25; with_reducible refine (inRange_is h1 _).mono ?_; rintro e w' ⟨rfl, rfl⟩) | (go_at_call 25; with_reducible refine (inRange_is h2 _).mono ?_; rintro e w' ⟨rfl, rfl⟩) | (go_at_call 25; with_reducible refine (inRange_is h3 _).mono ?_; rintro e w' ⟨rfl, rfl⟩))
        go_ret
        exact ⟨ret_bool D.out.symm, HB.out⟩
      case true =>
        cases h4 : inR x4 0 50
        case false =>
          have D := hide (show box9 x1 x2 x3 x4 x5 x6 x7 x8 = false by simp [box9, h1, h2, h3, h4])
          go_enter Try.func34, Try.ntmps34
          go_wp2_with (first | (go_at_call 25; with_reducible refine (inRange_is h1 _).mono ?_; rintro e w' ⟨rfl, rfl⟩) | (go_at_call 25; with_reducible refine (inRange_is h2 _).mono ?_; rintro e w' ⟨rfl, rfl⟩) | (go_at_call 25; with_reducible refine (inRange_is h3 _).mono ?_; rintro e w' ⟨rfl, rfl⟩) | (go_at_call 25; with_reducible refine (inRange_is h4 _).mono ?_; rintro e w' ⟨rfl, rfl⟩))
          go_ret
          exact ⟨ret_bool D.out.symm, HB.out⟩
        case true =>
          cases h5 : inR x5 0 50
          case false =>
            have D := hide (show box9 x1 x2 x3 x4 x5 x6 x7 x8 = false by simp [box9, h1, h2, h3, h4, h5])
            go_enter Try.func34, Try.ntmps34
            go_wp2_with (first | (go_at_call 25; with_reducible refine (inRange_is h1 _).mono ?_; rintro e w' ⟨rfl, rfl⟩) | (go_at_call 25; with_reducible refine (inRange_is h2 _).mono ?_; rintro e w' ⟨rfl, rfl⟩) | (go_at_call 25; with_reducible refine (inRange_is h3 _).mono ?_; rintro e w' ⟨rfl, rfl⟩) | (go_at_call 25; with_reducible refine (inRange_is h4 _).mono ?_; rintro e w' ⟨rfl, rfl⟩) | (go_at_call 25; with_reducible refine (inRange_is h5 _).mono ?_; rintro e w' ⟨rfl, rfl⟩))
            go_ret
            exact ⟨ret_bool D.out.symm, HB.out⟩
          case true =>
            cases h6 : inR x6 0 10
            case false =>
              have D := hide (show box9 x1 x2 x3 x4 x5 x6 x7 x8 = false by simp [box9, h1, h2, h3, h4, h5, h6])
              go_enter Try.func34, Try.ntmps34
              go_wp2_with (first | (go_at_call 25; with_reducible refine (inRange_is h1 _).mono ?_; rintro e w' ⟨rfl, rfl⟩) | (go_at_call 25; with_reducible refine (inRange_is h2 _).mono ?_; rintro e w' ⟨rfl, rfl⟩) | (go_at_call 25; with_reducible refine (inRange_is h3 _).mono ?_; rintro e w' ⟨rfl, rfl⟩) | (go_at_call 25; with_reducible refine (inRange_is h4 _).mono ?_; rintro e w' ⟨rfl, rfl⟩) | (go_at_call 25; with_reducible refine (inRange_is h5 _).mono ?_; rintro e w' ⟨rfl, rfl⟩) | (go_at_call 25; with_reducible refine (inRange_is h6 _).mono ?_; rintro e w' ⟨rfl, rfl⟩))
              go_ret
              exact ⟨ret_bool D.out.symm, HB.out⟩
            case true =>
              cases h7 : inR x7 0 10
              case false =>
                have D := hide (show box9 x1 x2 x3 x4 x5 x6 x7 x8 = false by simp [box9, h1, h2, h3, h4, h5, h6, h7])
                go_enter Try.func34, Try.ntmps34
                go_wp2_with (first | (go_at_call 25; with_reducible refine (inRange_is h1 _).mono ?_; rintro e w' ⟨rfl, rfl⟩) | (go_at_call 25; with_reducible refine (inRange_is h2 _).mono ?_; rintro e w' ⟨rfl, rfl⟩) | (go_at_call 25; with_reducible refine (inRange_is h3 _).mono ?_; rintro e w' ⟨rfl, rfl⟩) | (go_at_call 25; with_reducible refine (inRange_is h4 _).mono ?_; rintro e w' ⟨rfl, rfl⟩) | (go_at_call 25; with_reducible refine (inRange_is h5 _).mono ?_; rintro e w' ⟨rfl, rfl⟩) | (go_at_call 25; with_reducible refine (inRange_is h6 _).mono ?_; rintro e w' ⟨rfl, rfl⟩) | (go_at_call 25; with_reducible refine (inRange_is h7 _).mono ?_; rintro e w' ⟨rfl, rfl⟩))
                go_ret
                exact ⟨ret_bool D.out.symm, HB.out⟩
              case true =>
                cases h8 : inR x8 0 3
                case false =>
                  have D := hide (show box9 x1 x2 x3 x4 x5 x6 x7 x8 = false by simp [box9, h1, h2, h3, h4, h5, h6, h7, h8])
                  go_enter Try.func34, Try.ntmps34
                  go_wp2_with (first | (go_at_call 25; with_reducible refine (inRange_is h1 _).mono ?_; rintro e w' ⟨rfl, rfl⟩) | (go_at_call 25; with_reducible refine (inRange_is h2 _).mono ?_; rintro e w' ⟨rfl, rfl⟩) | (go_at_call 25; with_reducible refine (inRange_is h3 _).mono ?_; rintro e w' ⟨rfl, rfl⟩) | (go_at_call 25; with_reducible refine (inRange_is h4 _).mono ?_; rintro e w' ⟨rfl, rfl⟩) | (go_at_call 25; with_reducible refine (inRange_is h5 _).mono ?_; rintro e w' ⟨rfl, rfl⟩) | (go_at_call 25; with_reducible refine (inRange_is h6 _).mono ?_; rintro e w' ⟨rfl, rfl⟩) | (go_at_call 25; with_reducible refine (inRange_is h7 _).mono ?_; rintro e w' ⟨rfl, rfl⟩) | (go_at_call 25; with_reducible refine (inRange_is h8 _).mono ?_; rintro e w' ⟨rfl, rfl⟩))
                  go_ret
                  exact ⟨ret_bool D.out.symm, HB.out⟩
                case true =>
                  cases g1 : (x1 == 0)
                  case true =>
                    have D := hide (show box9 x1 x2 x3 x4 x5 x6 x7 x8 = true by simp [box9, h1, h2, h3, h4, h5, h6, h7, h8, g1])
                    go_enter Try.func34, Try.ntmps34
                    go_wp2_with (first | (go_at_call 25; with_reducible refine (inRange_is h1 _).mono ?_; rintro e w' ⟨rfl, rfl⟩) | (go_at_call 25; with_reducible refine (inRange_is h2 _).mono ?_; rintro e w' ⟨rfl, rfl⟩) | (go_at_call 25; with_reducible refine (inRange_is h3 _).mono ?_; rintro e w' ⟨rfl, rfl⟩) | (go_at_call 25; with_reducible refine (inRange_is h4 _).mono ?_; rintro e w' ⟨rfl, rfl⟩) | (go_at_call 25; with_reducible refine (inRange_is h5 _).mono ?_; rintro e w' ⟨rfl, rfl⟩) | (go_at_call 25; with_reducible refine (inRange_is h6 _).mono ?_; rintro e w' ⟨rfl, rfl⟩) | (go_at_call 25; with_reducible refine (inRange_is h7 _).mono ?_; rintro e w' ⟨rfl, rfl⟩) | (go_at_call 25; with_reducible refine (inRange_is h8 _).mono ?_; rintro e w' ⟨rfl, rfl⟩))
                    go_ret
                    exact ⟨ret_bool D.out.symm, HB.out⟩
                  case false =>
                    cases g2 : (x2 == 0)
                    case false =>
                      have D := hide (show box9 x1 x2 x3 x4 x5 x6 x7 x8 = false by simp [box9, h1, h2, h3, h4, h5, h6, h7, h8, g1, g2])
                      go_enter Try.func34, Try.ntmps34
                      go_wp2_with (first | (go_at_call 25; with_reducible refine (inRange_is h1 _).mono ?_; rintro e w' ⟨rfl, rfl⟩) | (go_at_call 25; with_reducible refine (inRange_is h2 _).mono ?_; rintro e w' ⟨rfl, rfl⟩) | (go_at_call 25; with_reducible refine (inRange_is h3 _).mono ?_; rintro e w' ⟨rfl, rfl⟩) | (go_at_call 25; with_reducible refine (inRange_is h4 _).mono ?_; rintro e w' ⟨rfl, rfl⟩) | (go_at_call 25; with_reducible refine (inRange_is h5 _).mono ?_; rintro e w' ⟨rfl, rfl⟩) | (go_at_call 25; with_reducible refine (inRange_is h6 _).mono ?_; rintro e w' ⟨rfl, rfl⟩) | (go_at_call 25; with_reducible refine (inRange_is h7 _).mono ?_; rintro e w' ⟨rfl, rfl⟩) | (go_at_call 25; with_reducible refine (inRange_is h8 _).mono ?_; rintro e w' ⟨rfl, rfl⟩))
                      go_ret
                      exact ⟨ret_bool D.out.symm, HB.out⟩
                    case true =>
                      cases g3 : (x3 == 0)
                      case false =>
                        have D := hide (show box9 x1 x2 x3 x4 x5 x6 x7 x8 = false by simp [box9, h1, h2, h3, h4, h5, h6, h7, h8, g1, g2, g3])
                        go_enter Try.func34, Try.ntmps34
                        go_wp2_with (first | (go_at_call 25; with_reducible refine (inRange_is h1 _).mono ?_; rintro e w' ⟨rfl, rfl⟩) | (go_at_call 25; with_reducible refine (inRange_is h2 _).mono ?_; rintro e w' ⟨rfl, rfl⟩) | (go_at_call 25; with_reducible refine (inRange_is h3 _).mono ?_; rintro e w' ⟨rfl, rfl⟩) | (go_at_call 25; with_reducible refine (inRange_is h4 _).mono ?_; rintro e w' ⟨rfl, rfl⟩) | (go_at_call 25; with_reducible refine (inRange_is h5 _).mono ?_; rintro e w' ⟨rfl, rfl⟩) | (go_at_call 25; with_reducible refine (inRange_is h6 _).mono ?_; rintro e w' ⟨rfl, rfl⟩) | (go_at_call 25; with_reducible refine (inRange_is h7 _).mono ?_; rintro e w' ⟨rfl, rfl⟩) | (go_at_call 25; with_reducible refine (inRange_is h8 _).mono ?_; rintro e w' ⟨rfl, rfl⟩))
                        go_ret
                        exact ⟨ret_bool D.out.symm, HB.out⟩
                      case true =>
                        have D := hide (show box9 x1 x2 x3 x4 x5 x6 x7 x8 = true by simp [box9, h1, h2, h3, h4, h5, h6, h7, h8, g1, g2, g3])
                        go_enter Try.func34, Try.ntmps34
                        go_wp2_with (first | (go_at_call 25; with_reducible refine (inRange_is h1 _).mono ?_; rintro e w' ⟨rfl, rfl⟩) | (go_at_call 25; with_reducible refine (inRange_is h2 _).mono ?_; rintro e w' ⟨rfl, rfl⟩) | (go_at_call 25; with_reducible refine (inRange_is h3 _).mono ?_; rintro e w' ⟨rfl, rfl⟩) | (go_at_call 25; with_reducible refine (inRange_is h4 _).mono ?_; rintro e w' ⟨rfl, rfl⟩) | (go_at_call 25; with_reducible refine (inRange_is h5 _).mono ?_; rintro e w' ⟨rfl, rfl⟩) | (go_at_call 25; with_reducible refine (inRange_is h6 _).mono ?_; rintro e w' ⟨rfl, rfl⟩) | (go_at_call 25; with_reducible refine (inRange_is h7 _).mono ?_; rintro e w' ⟨rfl, rfl⟩) | (go_at_call 25; with_reducible refine (inRange_is h8 _).mono ?_; rintro e w' ⟨rfl, rfl⟩))
                        go_ret
                        exact ⟨ret_bool D.out.symm, HB.out⟩
set_option maxHeartbeats 2000000 in
theorem specKids_any (B : Nat) (a : Option Addr) (n c : Nat) (xs : List Int) (p : Nat) (w : World) (hA : Ints .i64 w B a (n * 9) xs) (hB : B ≤ w.heap.size) (hn : n ≤ 1048577) (hp : p < n) :
    Calls Try.prog 35 #[.slice a n c, .int .i64 p] w fun e w' => ∃ A c', e = .returned (.slice A (kcnt xs p (p + 1) n) c') ∧ Below w.heap.size w w' := by
  obtain ⟨i0, hi, hz0, hz1, hz2⟩ := info_parts int_info
  have e1 : IntKind.i64.wrap ((p : Int) + 1) = ((p + 1 : Nat) : Int) := by rw [IntWalk.i64_in _ (by omega)]; omega
  obtain ⟨p1, hp1⟩ : ∃ p1, p + 1 = p1 := ⟨_, rfl⟩
  rw [hp1] at e1 ⊢
  have hp2 : p1 ≤ n := by omega
  clear hp1
  obtain ⟨b, off, rfl, hb9, hcell, _⟩ := hA.fldAt (by omega)
  have HC := hide (fun W (h : Below w.heap.size w W) i (hi : i < n) => (h.cell (p := ⟨b, off + i * 9, none⟩) (by show b < w.heap.size; omega)).trans (hcell i hi))
  have HS := hide (show Own 3 1 (w.alloc (.cells #[] 3)) w.heap.size (.slice (some ⟨w.heap.size, 0, none⟩) 0 0) 0 [] from Own.made 3 1 w #[] 0 w.heap.size (Nat.le_refl _) (by omega) rfl)
  have HB := hide (show Below w.heap.size w (w.alloc (.cells #[] 3)) from (Below.refl _ _).alloc (Nat.le_refl _) _)
  clear hA hcell
  go_enter Try.func35, Try.ntmps35
  go_wp2
  generalize w.alloc (.cells #[] 3) = W0 at HS HB ⊢
  go_loopw [5, 6] (fun s5 s6 wr => ∃ (k m c' : Nat) (A : Option Addr) (ys : List Int) (W9 : World), p1 ≤ k ∧ k ≤ n ∧ m ≤ k ∧ s5 = .slice A m c' ∧ s6 = .int .i64 k ∧ W9 = wr ∧ Hid (m = kcnt xs p p1 k) ∧ Hid (Own 3 1 W9 w.heap.size (.slice A m c') m ys) ∧ Hid (Below w.heap.size w W9)) (fun _ s6 _ => n - (intOf s6).toNat)
  case atStart => exact ⟨p1, 0, 0, _, [], _, Nat.le_refl _, hp2, Nat.zero_le _, rfl, rfl, rfl, hide (kcnt_none (Nat.le_refl _)).symm, HS, HB⟩
  case round =>
    obtain ⟨k, m, c', A, ys, W9, hk1, hk2, hmk, rfl, rfl, rfl, HM, HO, HBw⟩ := hrel
    clear HS HB
    have hz9 := HBw.out.size
    by_cases hlt : k < n
    · have hc0 := HC.out W9 HBw.out k hlt
      by_cases he : par xs k = p
      · rw [he] at hc0
        have D := hide (show m + 1 = kcnt xs p p1 (k + 1) by rw [kcnt, if_pos ⟨hk1, he⟩, HM.out])
        clear he HM
        go_wp2_with (at_builtin; refine wpList_push rfl (.tmp 23) (.tmp 25) 26 3 1 8 i0 _ rfl Try.underlying26 hi hz0 hz1 hz2 rfl (by omega) (by omega) W9 w.heap.size (.slice A m c') m ys rfl HO.out [(k : Int)] 1 1 rfl rfl (by omega) hz9 ?_; intro v1 w1 ho1 hb1 hg1 hv1; obtain ⟨A1, c1, hvv1, _, _, _⟩ := ho1.form; subst hvv1; have HO1 := hide ho1; have HB1 := hide (HBw.out.trans hb1); clear ho1 hb1 hg1 hv1)
        go_roundw
        case rel => exact ⟨k + 1, m + 1, _, _, _, _, by omega, by omega, by omega, rfl, by go_num, rfl, D, HO1, HB1⟩
        case measure => simp [intOf]; omega
      · have he' : (par xs k == (p : Int)) = false := by simpa using he
        have D := hide (show m = kcnt xs p p1 (k + 1) by rw [kcnt, if_neg (fun h => he h.2), HM.out]; rfl)
        generalize par xs k = y at hc0 he'
        clear he HM
        go_wp2
        go_roundw
        case rel => exact ⟨k + 1, m, _, _, _, _, by omega, by omega, by omega, rfl, by go_num, rfl, D, HO, HBw⟩
        case measure => simp [intOf]; omega
    · obtain rfl : k = n := by omega
      have D := hide (show ∃ A' c'', (Ending.returned (.slice A m c')) = .returned (.slice A' (kcnt xs p p1 k) c'') ∧ Below w.heap.size w W9 from ⟨A, c', by rw [HM.out], HBw.out⟩)
      clear HM HO HBw
      go_wp2
      go_ret
      exact D.out
set_option maxHeartbeats 2000000 in
theorem depth_any (B : Nat) (a : Option Addr) (n c : Nat) (xs : List Int) (i : Nat) (w : World) (hA : Ints .i64 w B a (n * 9) xs) (hn : n ≤ 1048577) (hi : i < n) (hp : Pre xs (i + 1)) :
    Calls Try.prog 36 #[.slice a n c, .int .i64 i] w fun e w' => (∃ d : Nat, d + 1 = (upN xs i).length ∧ e = .returned (.int .i64 d)) ∧ w = w' := by
  obtain ⟨b, off, rfl, hb9, hcell, _⟩ := hA.fldAt (by omega)
  have HC := hide hcell
  have HP := hide hp
  clear hA hcell hp
  go_enter Try.func36, Try.ntmps36
  go_wp2
  go_loopw [1, 5] (fun s1 s5 wr => ∃ (p d : Nat), p ≤ i ∧ p + d ≤ i ∧ s1 = .int .i64 p ∧ s5 = .int .i64 d ∧ w = wr ∧ Hid (d + (upN xs p).length = (upN xs i).length)) (fun s1 _ _ => (intOf s1).toNat)
  case atStart => exact ⟨i, 0, Nat.le_refl _, by omega, rfl, rfl, by trivial, hide (by omega)⟩
  case round =>
    obtain ⟨p, d, hpi, hpd, rfl, rfl, rfl, HD⟩ := hrel
    have hc0 := HC.out p (by omega)
    have hq := HP.out p (by omega)
    by_cases hneg : par xs p < 0
    · have D := hide (show ∃ d' : Nat, d' + 1 = (upN xs i).length ∧ Ending.returned (.int .i64 d) = .returned (.int .i64 d') from ⟨d, by have := HD.out; rw [upN_root hneg] at this; exact this, rfl⟩)
      generalize par xs p = y at hc0 hneg hq
      have h0 : ¬ 0 ≤ y := by omega
      clear hq HD
      go_wp2
      go_ret
      exact ⟨D.out, rfl⟩
    · obtain ⟨q, hqq⟩ : ∃ q : Nat, par xs p = q := ⟨(par xs p).toNat, by omega⟩
      have D := hide (show d + 1 + (upN xs q).length = (upN xs i).length by have := HD.out; rw [upN_step HP.out (by omega) hqq] at this; simp at this; omega)
      rw [hqq] at hc0 hq
      have hqp : q < p := by omega
      clear hq HD hqq hneg
      go_wp2
      go_roundw
      case rel => exact ⟨q, d + 1, by omega, by omega, rfl, by go_num, by trivial, D⟩
      case measure => simp [intOf]; omega
def Ordered (xs : List Int) (n : Nat) (e : Ending) : Prop := ∃ b : Bool, e = .returned (.bool b) ∧ (b = true ↔ ∀ i, 0 < i → i < n → par xs i ∈ upN xs (i - 1))
theorem mem_upN_neg {xs : List Int} {k i : Nat} (hp : Pre xs k) (hi : i < k) {a : Int} (ha : a ∈ upN xs i) : 0 ≤ a := by
  induction i using Nat.strongRecOn with
  | _ i ih =>
    by_cases hneg : par xs i < 0
    · rw [upN_root hneg] at ha
      simp at ha; omega
    · obtain ⟨q, hqq⟩ : ∃ q : Nat, par xs i = q := ⟨(par xs i).toNat, by omega⟩
      have h2 := (hp i hi).2.1
      rw [upN_step hp hi hqq] at ha
      rcases List.mem_cons.1 ha with h | h
      · omega
      · exact ih q (by omega) (by omega) h
set_option maxHeartbeats 2000000 in
theorem inOrder_any (B : Nat) (a : Option Addr) (n c : Nat) (xs : List Int) (w : World) (hA : Ints .i64 w B a (n * 9) xs) (hn : n ≤ 1048577) (hn1 : 1 ≤ n) (hp : Pre xs n) :
    Calls Try.prog 37 #[.slice a n c] w fun e w' => Ordered xs n e ∧ w = w' := by
  obtain ⟨b, off, rfl, hb9, hcell, _⟩ := hA.fldAt (by omega)
  have HC := hide hcell
  have HP := hide hp
  have hn1' : (1 : Int) ≤ (n : Int) := by omega
  clear hA hcell hp
  go_enter Try.func37, Try.ntmps37
  go_wp2
  go_loopw [3, 4] (fun s3 _ wr => ∃ (k : Nat), 1 ≤ k ∧ k ≤ n ∧ s3 = .int .i64 k ∧ w = wr ∧ Hid (∀ i, 0 < i → i < k → par xs i ∈ upN xs (i - 1))) (fun s3 _ _ => n - (intOf s3).toNat)
  case atStart => exact ⟨1, by omega, hn1, rfl, by trivial, hide (fun i h1 h2 => by omega)⟩
  case round =>
    obtain ⟨k, hk1, hk2, rfl, rfl, HA⟩ := hrel
    by_cases hlt : k < n
    · have hlt' : (k : Int) < (n : Int) := by omega
      have hc0 := HC.out k hlt
      obtain ⟨y, hy⟩ : ∃ y, par xs k = y := ⟨_, rfl⟩
      have HY := hide hy
      rw [hy] at hc0
      clear hy
      have e1 : IntKind.i64.wrap ((k : Int) - 1) = ((k - 1 : Nat) : Int) := by rw [IntWalk.i64_in _ (by omega)]; omega
      obtain ⟨k1, hk1'⟩ : ∃ k1, k - 1 = k1 := ⟨_, rfl⟩
      rw [hk1'] at e1
      have hk3 : k1 < k := by omega
      have HK1 := hide hk1'
      clear hk1'
      have HS := hide (show (y ∈ upN xs k1 ↔ (0 ≤ (k1 : Int) ∧ y ∈ upN xs ((k1 : Int)).toNat)) by rw [Int.toNat_natCast]; exact ⟨fun h => ⟨by omega, h⟩, fun h => h.2⟩)
      go_wp2
      go_loopw [4] (fun s4 wr => ∃ (p : Int), -1 ≤ p ∧ p < k ∧ s4 = .int .i64 p ∧ w = wr ∧ Hid (y ∈ upN xs k1 ↔ (0 ≤ p ∧ y ∈ upN xs p.toNat))) (fun s4 _ => (intOf s4 + 1).toNat)
      case atStart => exact ⟨k1, by omega, by omega, rfl, by trivial, HS⟩
      case round =>
        obtain ⟨p, hp1, hp2, rfl, rfl, HI⟩ := hrel
        clear HS
        by_cases hneg : p < 0
        · have hneg' : ¬ 0 ≤ p := by omega
          have D := hide (show Ordered xs n (.returned (.bool false)) from ⟨false, rfl, by
            refine ⟨fun h => (by cases h), fun h => ?_⟩
            have h1 := h k (by omega) hlt
            rw [HK1.out, HY.out] at h1
            exact absurd (HI.out.1 h1).1 hneg'⟩)
          clear HI
          go_wp2
          go_ret
          exact ⟨D.out, rfl⟩
        · obtain ⟨q, rfl⟩ := Int.eq_ofNat_of_zero_le (show 0 ≤ p by omega)
          have hq0 : (0 : Int) ≤ (q : Int) := by omega
          have hq0' : ¬ (q : Int) < 0 := by omega
          by_cases he : y = q
          · have he' : ((q : Int) != y) = false := by simpa using he.symm
            have D := hide (show ∀ i, 0 < i → i < k + 1 → par xs i ∈ upN xs (i - 1) from fun i h1 h2 => by
              by_cases hik : i = k
              · subst hik
                rw [HK1.out, HY.out]
                refine HI.out.2 ⟨hq0, ?_⟩
                rw [Int.toNat_natCast, he, upN, chain, if_neg (by omega)]
                exact List.mem_cons_self
              · exact HA.out i h1 (by omega))
            clear HI HA he
            go_wp2
            go_roundw
            case rel => exact ⟨k + 1, by omega, by omega, by go_num, by trivial, D⟩
            case measure => simp [intOf]; omega
          · have he' : ((q : Int) != y) = true := by simpa using fun h => he (h.symm)
            have hc1 := HC.out q (by omega)
            have hq := HP.out q (by omega)
            have D := hide (show (y ∈ upN xs k1 ↔ (0 ≤ par xs q ∧ y ∈ upN xs (par xs q).toNat)) by
              rw [HI.out, Int.toNat_natCast]
              by_cases hn : par xs q < 0
              · rw [upN_root hn]
                simp; omega
              · obtain ⟨r, hr⟩ : ∃ r : Nat, par xs q = r := ⟨(par xs q).toNat, by omega⟩
                rw [upN_step HP.out (by omega) hr, hr, Int.toNat_natCast, List.mem_cons]
                constructor
                · rintro ⟨_, h | h⟩
                  · exact absurd h he
                  · exact ⟨by omega, h⟩
                · rintro ⟨_, h⟩; exact ⟨by omega, .inr h⟩)
            generalize par xs q = z at hc1 hq D
            clear HI he
            go_wp2
            go_roundw
            case rel => exact ⟨z, by omega, by omega, rfl, by trivial, D⟩
            case measure => simp [intOf]; omega
    · obtain rfl : k = n := by omega
      have D := hide (show Ordered xs k (.returned (.bool true)) from ⟨true, rfl, ⟨fun _ => HA.out, fun _ => rfl⟩⟩)
      clear HA
      go_wp2
      go_ret
      exact ⟨D.out, rfl⟩
end Go.Proofs.Ythgliihdaockoaa
