/- Trees: what the program asks of a box, and of all of them. Conditions: none. -/
import Derived.Test.YthgliihdaockoaaTreeB
import Derived.BigRegion
namespace Go.Proofs.Ythgliihdaockoaa
open Go.RowKit
set_option linter.unusedVariables false
set_option linter.unusedSimpArgs false
theorem box9_alt (x1 x2 x3 x4 x5 x6 x7 x8 : Int) : box9 x1 x2 x3 x4 x5 x6 x7 x8 = (inR x1 0 3 && (inR x2 0 (if x1 = 0 then 100 else 0) && (inR x3 0 (if x1 = 0 then 100 else 0) && (inR x4 0 50 && (inR x5 0 50 && (inR x6 0 10 && (inR x7 0 10 && inR x8 0 3))))))) := by
  rw [Bool.eq_iff_iff]
  by_cases h : x1 = 0
  · rw [if_pos h]
    simp only [box9, Bool.and_eq_true, inR_iff, Bool.or_eq_true, beq_iff_eq]
    exact ⟨fun ⟨a, b, c, d, e, f, g, i, _⟩ => ⟨a, b, c, d, e, f, g, i⟩, fun ⟨a, b, c, d, e, f, g, i⟩ => ⟨a, b, c, d, e, f, g, i, .inl h⟩⟩
  · rw [if_neg h]
    simp only [box9, Bool.and_eq_true, inR_iff, Bool.or_eq_true, beq_iff_eq]
    exact ⟨fun ⟨a, b, c, d, e, f, g, i, j⟩ => ⟨a, by omega, by omega, d, e, f, g, i⟩, fun ⟨a, b, c, d, e, f, g, i⟩ => ⟨a, by omega, by omega, d, e, f, g, i, .inr ⟨by omega, by omega⟩⟩⟩
theorem justifyOk_any (n : Int) (w : World) :
    Calls Try.prog 55 #[.int .i64 n] w fun e w' => e = .returned (.bool (inR n 0 3)) ∧ w = w' := by
  go_enter Try.func55, Try.ntmps55
  go_wp2_with (go_at_call 28; refine (within_any _ _ _ _).mono ?_; rintro e w' ⟨rfl, rfl⟩)
  go_ret
  exact ⟨rfl, rfl⟩
theorem justifyOk_is {n : Int} {b : Bool} (h : inR n 0 3 = b) (w : World) : Calls Try.prog 55 #[.int .i64 n] w fun e w' => e = .returned (.bool b) ∧ w = w' := h ▸ justifyOk_any n w
theorem edgeOk_is {n : Int} {b : Bool} (h : inR n 0 50 = b) (w : World) : Calls Try.prog 54 #[.int .i64 n] w fun e w' => e = .returned (.bool b) ∧ w = w' := h ▸ edgeOk_any n w
set_option maxHeartbeats 4000000 in
theorem styled_any (x0 x1 x2 x3 x4 x5 x6 x7 x8 : Int) (w : World) :
    Calls Try.prog 39 #[.agg #[.int .i64 x0, .int .i64 x1, .int .i64 x2, .int .i64 x3, .int .i64 x4, .int .i64 x5, .int .i64 x6, .int .i64 x7, .int .i64 x8]] w fun e w' => e = .returned (.bool (box9 x1 x2 x3 x4 x5 x6 x7 x8)) ∧ Below w.heap.size w w' := by
  have HB := hide (show Below w.heap.size w (w.alloc (.cells #[.int .i64 x0, .int .i64 x1, .int .i64 x2, .int .i64 x3, .int .i64 x4, .int .i64 x5, .int .i64 x6, .int .i64 x7, .int .i64 x8] 43)) from (Below.refl _ _).alloc (Nat.le_refl _) _)
  rw [box9_alt]
  by_cases g : x1 = 0
  · rw [if_pos g]
    have g' : (x1 == 0) = true := by simpa using g
    clear g
    cases h1 : inR x1 0 3
    case false =>
      go_enter Try.func39, Try.ntmps39
      go_wp2_with (first | (go_at_call 28; with_reducible refine (within_is h1 _).mono ?_; rintro e w' ⟨rfl, rfl⟩))
      go_ret
      exact ⟨ret_bool (by simp), HB.out⟩
    case true =>
      cases h2 : inR x2 0 100
      case false =>
        go_enter Try.func39, Try.ntmps39
        go_wp2_with (first | (go_at_call 28; with_reducible refine (within_is h1 _).mono ?_; rintro e w' ⟨rfl, rfl⟩) | (go_at_call 28; with_reducible refine (within_is h2 _).mono ?_; rintro e w' ⟨rfl, rfl⟩))
        go_ret
        exact ⟨ret_bool (by simp), HB.out⟩
      case true =>
        cases h3 : inR x3 0 100
        case false =>
          go_enter Try.func39, Try.ntmps39
          go_wp2_with (first | (go_at_call 28; with_reducible refine (within_is h1 _).mono ?_; rintro e w' ⟨rfl, rfl⟩) | (go_at_call 28; with_reducible refine (within_is h2 _).mono ?_; rintro e w' ⟨rfl, rfl⟩) | (go_at_call 28; with_reducible refine (within_is h3 _).mono ?_; rintro e w' ⟨rfl, rfl⟩))
          go_ret
          exact ⟨ret_bool (by simp), HB.out⟩
        case true =>
          cases h4 : inR x4 0 50
          case false =>
            go_enter Try.func39, Try.ntmps39
            go_wp2_with (first | (go_at_call 28; with_reducible refine (within_is h1 _).mono ?_; rintro e w' ⟨rfl, rfl⟩) | (go_at_call 28; with_reducible refine (within_is h2 _).mono ?_; rintro e w' ⟨rfl, rfl⟩) | (go_at_call 28; with_reducible refine (within_is h3 _).mono ?_; rintro e w' ⟨rfl, rfl⟩) | (go_at_call 54; with_reducible refine (edgeOk_is h4 _).mono ?_; rintro e w' ⟨rfl, rfl⟩))
            go_ret
            exact ⟨ret_bool (by simp), HB.out⟩
          case true =>
            cases h5 : inR x5 0 50
            case false =>
              go_enter Try.func39, Try.ntmps39
              go_wp2_with (first | (go_at_call 28; with_reducible refine (within_is h1 _).mono ?_; rintro e w' ⟨rfl, rfl⟩) | (go_at_call 28; with_reducible refine (within_is h2 _).mono ?_; rintro e w' ⟨rfl, rfl⟩) | (go_at_call 28; with_reducible refine (within_is h3 _).mono ?_; rintro e w' ⟨rfl, rfl⟩) | (go_at_call 54; with_reducible refine (edgeOk_is h4 _).mono ?_; rintro e w' ⟨rfl, rfl⟩) | (go_at_call 54; with_reducible refine (edgeOk_is h5 _).mono ?_; rintro e w' ⟨rfl, rfl⟩))
              go_ret
              exact ⟨ret_bool (by simp), HB.out⟩
            case true =>
              cases h6 : inR x6 0 10
              case false =>
                go_enter Try.func39, Try.ntmps39
                go_wp2_with (first | (go_at_call 28; with_reducible refine (within_is h1 _).mono ?_; rintro e w' ⟨rfl, rfl⟩) | (go_at_call 28; with_reducible refine (within_is h2 _).mono ?_; rintro e w' ⟨rfl, rfl⟩) | (go_at_call 28; with_reducible refine (within_is h3 _).mono ?_; rintro e w' ⟨rfl, rfl⟩) | (go_at_call 54; with_reducible refine (edgeOk_is h4 _).mono ?_; rintro e w' ⟨rfl, rfl⟩) | (go_at_call 54; with_reducible refine (edgeOk_is h5 _).mono ?_; rintro e w' ⟨rfl, rfl⟩) | (go_at_call 28; with_reducible refine (within_is h6 _).mono ?_; rintro e w' ⟨rfl, rfl⟩))
                go_ret
                exact ⟨ret_bool (by simp), HB.out⟩
              case true =>
                cases h7 : inR x7 0 10
                case false =>
                  go_enter Try.func39, Try.ntmps39
                  go_wp2_with (first | (go_at_call 28; with_reducible refine (within_is h1 _).mono ?_; rintro e w' ⟨rfl, rfl⟩) | (go_at_call 28; with_reducible refine (within_is h2 _).mono ?_; rintro e w' ⟨rfl, rfl⟩) | (go_at_call 28; with_reducible refine (within_is h3 _).mono ?_; rintro e w' ⟨rfl, rfl⟩) | (go_at_call 54; with_reducible refine (edgeOk_is h4 _).mono ?_; rintro e w' ⟨rfl, rfl⟩) | (go_at_call 54; with_reducible refine (edgeOk_is h5 _).mono ?_; rintro e w' ⟨rfl, rfl⟩) | (go_at_call 28; with_reducible refine (within_is h6 _).mono ?_; rintro e w' ⟨rfl, rfl⟩) | (go_at_call 28; with_reducible refine (within_is h7 _).mono ?_; rintro e w' ⟨rfl, rfl⟩))
                  go_ret
                  exact ⟨ret_bool (by simp), HB.out⟩
                case true =>
                  cases h8 : inR x8 0 3
                  case false =>
                    go_enter Try.func39, Try.ntmps39
                    go_wp2_with (first | (go_at_call 28; with_reducible refine (within_is h1 _).mono ?_; rintro e w' ⟨rfl, rfl⟩) | (go_at_call 28; with_reducible refine (within_is h2 _).mono ?_; rintro e w' ⟨rfl, rfl⟩) | (go_at_call 28; with_reducible refine (within_is h3 _).mono ?_; rintro e w' ⟨rfl, rfl⟩) | (go_at_call 54; with_reducible refine (edgeOk_is h4 _).mono ?_; rintro e w' ⟨rfl, rfl⟩) | (go_at_call 54; with_reducible refine (edgeOk_is h5 _).mono ?_; rintro e w' ⟨rfl, rfl⟩) | (go_at_call 28; with_reducible refine (within_is h6 _).mono ?_; rintro e w' ⟨rfl, rfl⟩) | (go_at_call 28; with_reducible refine (within_is h7 _).mono ?_; rintro e w' ⟨rfl, rfl⟩) | (go_at_call 55; with_reducible refine (justifyOk_is h8 _).mono ?_; rintro e w' ⟨rfl, rfl⟩))
                    go_ret
                    exact ⟨ret_bool (by simp), HB.out⟩
                  case true =>
                    go_enter Try.func39, Try.ntmps39
                    go_wp2_with (first | (go_at_call 28; with_reducible refine (within_is h1 _).mono ?_; rintro e w' ⟨rfl, rfl⟩) | (go_at_call 28; with_reducible refine (within_is h2 _).mono ?_; rintro e w' ⟨rfl, rfl⟩) | (go_at_call 28; with_reducible refine (within_is h3 _).mono ?_; rintro e w' ⟨rfl, rfl⟩) | (go_at_call 54; with_reducible refine (edgeOk_is h4 _).mono ?_; rintro e w' ⟨rfl, rfl⟩) | (go_at_call 54; with_reducible refine (edgeOk_is h5 _).mono ?_; rintro e w' ⟨rfl, rfl⟩) | (go_at_call 28; with_reducible refine (within_is h6 _).mono ?_; rintro e w' ⟨rfl, rfl⟩) | (go_at_call 28; with_reducible refine (within_is h7 _).mono ?_; rintro e w' ⟨rfl, rfl⟩) | (go_at_call 55; with_reducible refine (justifyOk_is h8 _).mono ?_; rintro e w' ⟨rfl, rfl⟩))
                    go_ret
                    exact ⟨ret_bool (by rfl), HB.out⟩
  · rw [if_neg g]
    have g' : (x1 == 0) = false := by simpa using g
    clear g
    cases h1 : inR x1 0 3
    case false =>
      go_enter Try.func39, Try.ntmps39
      go_wp2_with (first | (go_at_call 28; with_reducible refine (within_is h1 _).mono ?_; rintro e w' ⟨rfl, rfl⟩))
      go_ret
      exact ⟨ret_bool (by simp), HB.out⟩
    case true =>
      cases h2 : inR x2 0 0
      case false =>
        go_enter Try.func39, Try.ntmps39
        go_wp2_with (first | (go_at_call 28; with_reducible refine (within_is h1 _).mono ?_; rintro e w' ⟨rfl, rfl⟩) | (go_at_call 28; with_reducible refine (within_is h2 _).mono ?_; rintro e w' ⟨rfl, rfl⟩))
        go_ret
        exact ⟨ret_bool (by simp), HB.out⟩
      case true =>
        cases h3 : inR x3 0 0
        case false =>
          go_enter Try.func39, Try.ntmps39
          go_wp2_with (first | (go_at_call 28; with_reducible refine (within_is h1 _).mono ?_; rintro e w' ⟨rfl, rfl⟩) | (go_at_call 28; with_reducible refine (within_is h2 _).mono ?_; rintro e w' ⟨rfl, rfl⟩) | (go_at_call 28; with_reducible refine (within_is h3 _).mono ?_; rintro e w' ⟨rfl, rfl⟩))
          go_ret
          exact ⟨ret_bool (by simp), HB.out⟩
        case true =>
          cases h4 : inR x4 0 50
          case false =>
            go_enter Try.func39, Try.ntmps39
            go_wp2_with (first | (go_at_call 28; with_reducible refine (within_is h1 _).mono ?_; rintro e w' ⟨rfl, rfl⟩) | (go_at_call 28; with_reducible refine (within_is h2 _).mono ?_; rintro e w' ⟨rfl, rfl⟩) | (go_at_call 28; with_reducible refine (within_is h3 _).mono ?_; rintro e w' ⟨rfl, rfl⟩) | (go_at_call 54; with_reducible refine (edgeOk_is h4 _).mono ?_; rintro e w' ⟨rfl, rfl⟩))
            go_ret
            exact ⟨ret_bool (by simp), HB.out⟩
          case true =>
            cases h5 : inR x5 0 50
            case false =>
              go_enter Try.func39, Try.ntmps39
              go_wp2_with (first | (go_at_call 28; with_reducible refine (within_is h1 _).mono ?_; rintro e w' ⟨rfl, rfl⟩) | (go_at_call 28; with_reducible refine (within_is h2 _).mono ?_; rintro e w' ⟨rfl, rfl⟩) | (go_at_call 28; with_reducible refine (within_is h3 _).mono ?_; rintro e w' ⟨rfl, rfl⟩) | (go_at_call 54; with_reducible refine (edgeOk_is h4 _).mono ?_; rintro e w' ⟨rfl, rfl⟩) | (go_at_call 54; with_reducible refine (edgeOk_is h5 _).mono ?_; rintro e w' ⟨rfl, rfl⟩))
              go_ret
              exact ⟨ret_bool (by simp), HB.out⟩
            case true =>
              cases h6 : inR x6 0 10
              case false =>
                go_enter Try.func39, Try.ntmps39
                go_wp2_with (first | (go_at_call 28; with_reducible refine (within_is h1 _).mono ?_; rintro e w' ⟨rfl, rfl⟩) | (go_at_call 28; with_reducible refine (within_is h2 _).mono ?_; rintro e w' ⟨rfl, rfl⟩) | (go_at_call 28; with_reducible refine (within_is h3 _).mono ?_; rintro e w' ⟨rfl, rfl⟩) | (go_at_call 54; with_reducible refine (edgeOk_is h4 _).mono ?_; rintro e w' ⟨rfl, rfl⟩) | (go_at_call 54; with_reducible refine (edgeOk_is h5 _).mono ?_; rintro e w' ⟨rfl, rfl⟩) | (go_at_call 28; with_reducible refine (within_is h6 _).mono ?_; rintro e w' ⟨rfl, rfl⟩))
                go_ret
                exact ⟨ret_bool (by simp), HB.out⟩
              case true =>
                cases h7 : inR x7 0 10
                case false =>
                  go_enter Try.func39, Try.ntmps39
                  go_wp2_with (first | (go_at_call 28; with_reducible refine (within_is h1 _).mono ?_; rintro e w' ⟨rfl, rfl⟩) | (go_at_call 28; with_reducible refine (within_is h2 _).mono ?_; rintro e w' ⟨rfl, rfl⟩) | (go_at_call 28; with_reducible refine (within_is h3 _).mono ?_; rintro e w' ⟨rfl, rfl⟩) | (go_at_call 54; with_reducible refine (edgeOk_is h4 _).mono ?_; rintro e w' ⟨rfl, rfl⟩) | (go_at_call 54; with_reducible refine (edgeOk_is h5 _).mono ?_; rintro e w' ⟨rfl, rfl⟩) | (go_at_call 28; with_reducible refine (within_is h6 _).mono ?_; rintro e w' ⟨rfl, rfl⟩) | (go_at_call 28; with_reducible refine (within_is h7 _).mono ?_; rintro e w' ⟨rfl, rfl⟩))
                  go_ret
                  exact ⟨ret_bool (by simp), HB.out⟩
                case true =>
                  cases h8 : inR x8 0 3
                  case false =>
                    go_enter Try.func39, Try.ntmps39
                    go_wp2_with (first | (go_at_call 28; with_reducible refine (within_is h1 _).mono ?_; rintro e w' ⟨rfl, rfl⟩) | (go_at_call 28; with_reducible refine (within_is h2 _).mono ?_; rintro e w' ⟨rfl, rfl⟩) | (go_at_call 28; with_reducible refine (within_is h3 _).mono ?_; rintro e w' ⟨rfl, rfl⟩) | (go_at_call 54; with_reducible refine (edgeOk_is h4 _).mono ?_; rintro e w' ⟨rfl, rfl⟩) | (go_at_call 54; with_reducible refine (edgeOk_is h5 _).mono ?_; rintro e w' ⟨rfl, rfl⟩) | (go_at_call 28; with_reducible refine (within_is h6 _).mono ?_; rintro e w' ⟨rfl, rfl⟩) | (go_at_call 28; with_reducible refine (within_is h7 _).mono ?_; rintro e w' ⟨rfl, rfl⟩) | (go_at_call 55; with_reducible refine (justifyOk_is h8 _).mono ?_; rintro e w' ⟨rfl, rfl⟩))
                    go_ret
                    exact ⟨ret_bool (by simp), HB.out⟩
                  case true =>
                    go_enter Try.func39, Try.ntmps39
                    go_wp2_with (first | (go_at_call 28; with_reducible refine (within_is h1 _).mono ?_; rintro e w' ⟨rfl, rfl⟩) | (go_at_call 28; with_reducible refine (within_is h2 _).mono ?_; rintro e w' ⟨rfl, rfl⟩) | (go_at_call 28; with_reducible refine (within_is h3 _).mono ?_; rintro e w' ⟨rfl, rfl⟩) | (go_at_call 54; with_reducible refine (edgeOk_is h4 _).mono ?_; rintro e w' ⟨rfl, rfl⟩) | (go_at_call 54; with_reducible refine (edgeOk_is h5 _).mono ?_; rintro e w' ⟨rfl, rfl⟩) | (go_at_call 28; with_reducible refine (within_is h6 _).mono ?_; rintro e w' ⟨rfl, rfl⟩) | (go_at_call 28; with_reducible refine (within_is h7 _).mono ?_; rintro e w' ⟨rfl, rfl⟩) | (go_at_call 55; with_reducible refine (justifyOk_is h8 _).mono ?_; rintro e w' ⟨rfl, rfl⟩))
                    go_ret
                    exact ⟨ret_bool (by rfl), HB.out⟩
set_option maxHeartbeats 1000000 in
theorem indexInt_any (B : Nat) (a : Option Addr) (n c : Nat) (xs : List Int) (x : Int) (w : World) (hA : Ints .i64 w B a n xs) (hn : n ≤ 1099511627776) :
    Calls Try.prog 56 #[.slice a n c, .int .i64 x] w fun e w' => (∃ i : Int, decide (0 ≤ i) = decide (x ∈ xs) ∧ e = .returned (.int .i64 i)) ∧ w = w' := by
  have HA := hide hA
  have hl := hide hA.1
  clear hA
  go_enter Try.func56, Try.ntmps56
  go_wp2
  go_loopw [8] (fun s8 wr => ∃ (k : Nat), k ≤ n ∧ s8 = .int .i64 k ∧ w = wr ∧ Hid (x ∉ xs.take k)) (fun s8 _ => n - (intOf s8).toNat)
  case atStart => exact ⟨0, Nat.zero_le _, rfl, by trivial, hide (by simp)⟩
  case round =>
    obtain ⟨k, hk, rfl, rfl, HN⟩ := hrel
    by_cases hlt : k < n
    · obtain ⟨b, off, rfl, hb9, hcell⟩ := HA.out.2.2 (by omega)
      have hc0 := hcell k hlt
      have hkn : (k : Int) < (n : Int) := by omega
      have hkl : k < xs.length := by rw [hl.out]; exact hlt
      clear hcell
      by_cases he : x = xs.getD k 0
      · have he' : (x == xs.getD k 0) = true := by simpa using he
        have D := hide (show ∃ i : Int, decide (0 ≤ i) = decide (x ∈ xs) ∧ Ending.returned (.int .i64 (k : Int)) = .returned (.int .i64 i) from ⟨k, by
          have hm : x ∈ xs := by
            rw [he, List.getD_eq_getElem?_getD, List.getElem?_eq_getElem hkl]
            exact List.getElem_mem _
          simp [hm], rfl⟩)
        generalize xs.getD k 0 = y at hc0 he'
        clear he HN
        go_wp2
        go_ret
        exact ⟨D.out, rfl⟩
      · have he' : (x == xs.getD k 0) = false := by simpa using he
        have D := hide (show x ∉ xs.take (k + 1) by
          rw [List.take_succ_eq_append_getElem hkl]
          intro h
          rcases List.mem_append.1 h with h | h
          · exact HN.out h
          · simp at h
            exact he (by rw [h, List.getD_eq_getElem?_getD, List.getElem?_eq_getElem hkl]; rfl))
        generalize xs.getD k 0 = y at hc0 he'
        clear he HN
        go_wp2
        go_roundw
        case rel => exact ⟨k + 1, by omega, by go_num, by trivial, D⟩
        case measure => simp [intOf]; omega
    · obtain rfl : k = n := by omega
      have D := hide (show ∃ i : Int, decide (0 ≤ i) = decide (x ∈ xs) ∧ Ending.returned (.int .i64 (-1)) = .returned (.int .i64 i) from ⟨-1, by
        have h := HN.out
        rw [← hl.out, List.take_length] at h
        simp [h], rfl⟩)
      clear HN
      go_wp2
      go_ret
      exact ⟨D.out, rfl⟩
theorem containsInt_any (B : Nat) (a : Option Addr) (n c : Nat) (xs : List Int) (x : Int) (w : World) (hA : Ints .i64 w B a n xs) (hn : n ≤ 1099511627776) :
    Calls Try.prog 40 #[.slice a n c, .int .i64 x] w fun e w' => e = .returned (.bool (decide (x ∈ xs))) ∧ w = w' := by
  have h := indexInt_any B a n c xs x w hA hn
  go_enter Try.func40, Try.ntmps40
  go_wp2_with (go_at_call 56; refine h.mono ?_; rintro e w' ⟨⟨i, hi, rfl⟩, rfl⟩)
  go_ret
  first | exact ⟨ret_bool hi, rfl⟩ | exact ⟨rfl, rfl⟩
theorem containsInt_is {B : Nat} {a : Option Addr} {n c : Nat} {xs : List Int} {x : Int} {w : World} {b : Bool} (h : decide (x ∈ xs) = b) (hA : Ints .i64 w B a n xs) (hn : n ≤ 1099511627776) :
    Calls Try.prog 40 #[.slice a n c, .int .i64 x] w fun e w' => e = .returned (.bool b) ∧ w = w' := h ▸ containsInt_any B a n c xs x w hA hn
theorem Only.drew {lo hi : Nat} {w w' : World} (h : Only lo hi w w') : Only lo hi w w'.drew := ⟨h.os, h.tape, h.output, h.size, h.block⟩
/-- the ends of a list, exchanged up to i -/
def revAt (ys : List Int) (m i t : Nat) : Int := if t < i ∨ m - 1 - i < t then ys.getD (m - 1 - t) 0 else ys.getD t 0
def RevTo (ys : List Int) (m i : Nat) (zs : List Int) : Prop := zs.length = m ∧ ∀ t, t < m → zs.getD t 0 = revAt ys m i t
theorem getD_set {xs : List Int} {i t : Nat} {v : Int} (hi : i < xs.length) : (xs.set i v).getD t 0 = if t = i then v else xs.getD t 0 := by
  rw [List.getD_eq_getElem?_getD, List.getD_eq_getElem?_getD, List.getElem?_set]
  by_cases e : t = i
  · subst e; rw [if_pos rfl, if_pos rfl, if_pos hi]; rfl
  · rw [if_neg (fun h => e h.symm), if_neg e]
theorem RevTo.start {ys : List Int} {m : Nat} (h : ys.length = m) : RevTo ys m 0 ys := ⟨h, fun t ht => by rw [revAt, if_neg (by omega)]⟩
theorem RevTo.step {ys zs : List Int} {m i j : Nat} (h : RevTo ys m i zs) (hij : i + j + 1 = m) (hlt : i < j) : RevTo ys m (i + 1) ((zs.set i (ys.getD j 0)).set j (ys.getD i 0)) := by
  refine ⟨by simp [h.1], fun t ht => ?_⟩
  rw [getD_set (by simp [h.1]; omega), getD_set (by rw [h.1]; omega)]
  by_cases e1 : t = j
  · subst e1
    rw [if_pos rfl, revAt, if_pos (by omega), show m - 1 - t = i by omega]
  · rw [if_neg e1]
    by_cases e2 : t = i
    · subst e2
      rw [if_pos rfl, revAt, if_pos (by omega), show m - 1 - t = j by omega]
    · rw [if_neg e2, h.2 t ht, revAt, revAt]
      by_cases h1 : t < i ∨ m - 1 - i < t
      · rw [if_pos h1, if_pos (by omega)]
      · rw [if_neg h1, if_neg (by omega)]
theorem RevTo.done {ys zs : List Int} {m i : Nat} (h : RevTo ys m i zs) (hy : ys.length = m) (hi : m ≤ 2 * i + 1) : zs = ys.reverse := by
  apply List.ext_getElem
  · rw [h.1, List.length_reverse, hy]
  · intro t h1 h2
    have h3 := h.2 t (by rw [← h.1]; exact h1)
    rw [List.getD_eq_getElem?_getD, List.getElem?_eq_getElem h1] at h3
    rw [List.getElem_reverse]
    have ht : t < m := by rw [← h.1]; exact h1
    have h4 : ys.getD (m - 1 - t) 0 = ys[ys.length - 1 - t]'(by omega) := by
      rw [List.getD_eq_getElem?_getD, List.getElem?_eq_getElem (by omega)]
      simp [hy]
    rw [← h4]
    have h5 : zs[t] = revAt ys m i t := h3
    rw [h5, revAt]
    by_cases h6 : t < i ∨ m - 1 - i < t
    · rw [if_pos h6]
    · rw [if_neg h6, show m - 1 - t = t by omega]
theorem RevTo.mid {ys zs : List Int} {m i t : Nat} (h : RevTo ys m i zs) (h1 : i ≤ t) (h2 : t + i < m) : zs.getD t 0 = ys.getD t 0 := by
  rw [h.2 t (by omega), revAt, if_neg (by omega)]
def Reversed (lo hi : Nat) (a : Option Addr) (m : Nat) (ys : List Int) (w : World) (e : Ending) (w' : World) : Prop := e = .returned (.tuple #[]) ∧ Row 3 w' lo hi a m ys.reverse ∧ Only lo hi w w'
set_option maxHeartbeats 4000000 in
theorem reverse_any (lo hi : Nat) (a : Option Addr) (m c : Nat) (ys : List Int) (w : World) (hA : Row 3 w lo hi a m ys) (hm : m ≤ 1048577) :
    Calls Try.prog 57 #[.slice a m c] w (Reversed lo hi a m ys w) := by
  have hy := hide hA.1
  have HS := hide hA
  have HS0 := hide (RevTo.start hA.1)
  clear hA
  have e0 : IntKind.i64.wrap ((m : Int) - 1) = (m : Int) - 1 := IntWalk.i64_in _ (by omega)
  go_enter Try.func57, Try.ntmps57
  go_wp2
  go_loopw [2, 3] (fun s2 s3 wr => ∃ (i : Nat) (j : Int) (zs : List Int) (W9 : World), (i : Int) + j + 1 = m ∧ (i : Int) ≤ j + 1 ∧ s2 = .int .i64 i ∧ s3 = .int .i64 j ∧ W9 = wr ∧ Hid (Row 3 W9 lo hi a m zs) ∧ Hid (RevTo ys m i zs) ∧ Hid (Only lo hi w W9)) (fun s2 _ _ => m - (intOf s2).toNat)
  case atStart => exact ⟨0, (m : Int) - 1, ys, _, by omega, by omega, rfl, rfl, rfl, HS, HS0, hide (Only.refl _ _ _)⟩
  case round =>
    obtain ⟨i, j, zs, W9, hij, hij2, rfl, rfl, rfl, HR, HT, HO⟩ := hrel
    clear HS HS0
    by_cases hlt : (i : Int) < j
    · obtain ⟨q, rfl⟩ := Int.eq_ofNat_of_zero_le (show 0 ≤ j by omega)
      have hiq : i < q := by omega
      have hqm : q < m := by omega
      have him : i < m := by omega
      obtain ⟨g, off, cur, rfl, hg1, hg2, _⟩ := HR.out.2 (by omega)
      obtain ⟨hci, hfi⟩ := HR.out.cell i him
      obtain ⟨hcq, hfq⟩ := HR.out.cell q hqm
      rw [HT.out.mid (Nat.le_refl _) (by omega)] at hci
      rw [HT.out.mid (by omega) (by omega)] at hcq
      have D1 := hide ((HR.out.put him (ys.getD q 0)).put hqm (ys.getD i 0))
      have D2 := hide (HT.out.step (by omega) hiq)
      have D3 := hide ((HO.out.set hg1 hg2 (o := off + i) (.int .i64 (ys.getD q 0))).set hg1 hg2 (o := off + q) (.int .i64 (ys.getD i 0))).drew
      generalize ys.getD q 0 = yq at hcq D1 D2 D3
      generalize ys.getD i 0 = yi at hci D1 D2 D3
      clear HR HT HO
      go_wp2
      go_region
      go_wp2
      go_roundw
      case rel => exact ⟨i + 1, (q : Int) - 1, _, _, by omega, by omega, by go_num, by go_num, rfl, D1, D2, D3⟩
      case measure => simp [intOf]; omega
    · have D := hide (show zs = ys.reverse from HT.out.done hy.out (by omega))
      have DR := hide (show Row 3 W9 lo hi a m ys.reverse by rw [← D.out]; exact HR.out)
      have DV := hide (show Reversed lo hi a m ys w (.returned (.tuple #[])) W9 from ⟨rfl, DR.out, HO.out⟩)
      clear D HR HT
      go_wp2
      exact bodyPost_ret (v := .tuple #[]) (by simp [results, Try.results57, go_sem]) rfl DV.out
end Go.Proofs.Ythgliihdaockoaa
