/- Tracks: which are valid. Conditions: none. -/
import Derived.Test.YtelokjobhfhhfaaTrackS
import Derived.BigQuiet
namespace Go.Proofs.Ytelokjobhfhhfaa
open Go.RowKit
set_option linter.unusedVariables false
set_option linter.unusedSimpArgs false
theorem quietT {P : Program} {f : FuncId} {args : Array Value} {w : World} {n : Nat} {v : Value}
    (h : Calls P f args (w.drewN n) fun e w' => e = .returned v ∧ w.drewN n = w') : Calls P f args (w.drewN n) fun e w'' => e = .returned v ∧ ∃ m, w'' = w.drewN m :=
  h.mono fun _ _ ⟨he, hm⟩ => ⟨he, n, hm.symm⟩
theorem within_is {n lo hi : Int} {b : Bool} (h : inR n lo hi = b) (w : World) : Calls Try.prog 27 #[.int .i64 n, .int .i64 lo, .int .i64 hi] w fun e w' => e = .returned (.bool b) ∧ w = w' := h ▸ within_any n lo hi w
theorem inRange_is {n lo hi : Int} {b : Bool} (h : inR n lo hi = b) (w : World) : Calls Try.prog 35 #[.int .i64 n, .int .i64 lo, .int .i64 hi] w fun e w' => e = .returned (.bool b) ∧ w = w' := h ▸ inRange_any n lo hi w
/-- one track -/
def trOk (s p : Int) : Bool := inR s 0 10000 && (inR p 0 10 && !(decide (0 < s) && decide (0 < p)))
/-- the first k tracks -/
def okTr (xs : List Int) : Nat → Bool
  | 0 => true
  | k + 1 => okTr xs k && trOk (xs.getD (k * 2) 0) (xs.getD (k * 2 + 1) 0)
def validTr (xs : List Int) (n : Nat) : Bool := inR n 1 8 && okTr xs n
theorem trOk_iff {s p : Int} : trOk s p = true ↔ (0 ≤ s ∧ s ≤ 10000) ∧ (0 ≤ p ∧ p ≤ 10) ∧ ¬ (0 < s ∧ 0 < p) := by
  simp [trOk, inR_iff, inR]
  intros
  omega
theorem okTr_iff {xs : List Int} {k : Nat} : okTr xs k = true ↔ ∀ i, i < k → trOk (xs.getD (i * 2) 0) (xs.getD (i * 2 + 1) 0) = true := by
  induction k with
  | zero => simp [okTr]
  | succ k ih =>
    rw [okTr, Bool.and_eq_true, ih]
    constructor
    · rintro ⟨h1, h2⟩ i hi
      by_cases e : i = k
      · subst e; exact h2
      · exact h1 i (by omega)
    · exact fun h => ⟨fun i hi => h i (by omega), h k (by omega)⟩
theorem okTr_false {xs : List Int} {k n : Nat} (hk : k ≤ n) (h : okTr xs k = false) : okTr xs n = false := by
  rw [← Bool.not_eq_true] at h ⊢
  intro h'
  rw [okTr_iff] at h h'
  exact h fun i hi => h' i (by omega)
theorem validTr_iff {xs : List Int} {n : Nat} : validTr xs n = true ↔ (1 ≤ n ∧ n ≤ 8) ∧ ∀ i, i < n → trOk (xs.getD (i * 2) 0) (xs.getD (i * 2 + 1) 0) = true := by
  rw [validTr, Bool.and_eq_true, inR_iff, okTr_iff]
  constructor
  · rintro ⟨h1, h2⟩; exact ⟨by omega, h2⟩
  · rintro ⟨h1, h2⟩; exact ⟨by omega, h2⟩
theorem trackBad_any (y0 y1 : Int) (w : World) :
    Calls Try.prog 29 #[.agg #[.int .i64 y0, .int .i64 y1]] w fun e w' => e = .returned (.bool (!trOk y0 y1)) ∧ Below w.heap.size w w' := by
  have D := hide (show Below w.heap.size w (w.alloc (.cells #[.int .i64 y0, .int .i64 y1] 33)) from (Below.refl _ _).alloc (Nat.le_refl _) _)
  cases h0 : inR y0 0 10000
  case false =>
    go_enter Try.func29, Try.ntmps29
    go_wp2_with (first | (go_at_call 27; with_reducible refine (within_is h0 _).mono ?_; rintro e w' ⟨rfl, rfl⟩))
    go_ret
    exact ⟨ret_bool (by rw [trOk]; simp [h0] <;> omega), D.out⟩
  case true =>
    cases h1 : inR y1 0 10
    case false =>
      go_enter Try.func29, Try.ntmps29
      go_wp2_with (first | (go_at_call 27; with_reducible refine (within_is h0 _).mono ?_; rintro e w' ⟨rfl, rfl⟩) | (go_at_call 27; with_reducible refine (within_is h1 _).mono ?_; rintro e w' ⟨rfl, rfl⟩))
      go_ret
      exact ⟨ret_bool (by rw [trOk]; simp [h0, h1] <;> omega), D.out⟩
    case true =>
      by_cases h2 : 0 < y0
      · by_cases h3 : 0 < y1
        · have e2 : decide (0 < y0) = true := by simp; omega
          have e3 : decide (0 < y1) = true := by simp; omega
          go_enter Try.func29, Try.ntmps29
          go_wp2_with (first | (go_at_call 27; with_reducible refine (within_is h0 _).mono ?_; rintro e w' ⟨rfl, rfl⟩) | (go_at_call 27; with_reducible refine (within_is h1 _).mono ?_; rintro e w' ⟨rfl, rfl⟩))
          go_ret
          exact ⟨ret_bool (by rw [trOk]; simp [h0, h1, h2, h3] <;> omega), D.out⟩
        · have e2 : decide (0 < y0) = true := by simp; omega
          have e3 : decide (0 < y1) = false := by simp; omega
          go_enter Try.func29, Try.ntmps29
          go_wp2_with (first | (go_at_call 27; with_reducible refine (within_is h0 _).mono ?_; rintro e w' ⟨rfl, rfl⟩) | (go_at_call 27; with_reducible refine (within_is h1 _).mono ?_; rintro e w' ⟨rfl, rfl⟩))
          go_ret
          exact ⟨ret_bool (by rw [trOk]; simp [h0, h1, h2, h3] <;> omega), D.out⟩
      · have e2 : decide (0 < y0) = false := by simp; omega
        go_enter Try.func29, Try.ntmps29
        go_wp2_with (first | (go_at_call 27; with_reducible refine (within_is h0 _).mono ?_; rintro e w' ⟨rfl, rfl⟩) | (go_at_call 27; with_reducible refine (within_is h1 _).mono ?_; rintro e w' ⟨rfl, rfl⟩))
        go_ret
        exact ⟨ret_bool (by rw [trOk]; simp [h0, h1, h2] <;> omega), D.out⟩
/-- a place, or a number below 0, as there is a track that is not valid -/
theorem indexTrack_any (B : Nat) (a : Option Addr) (n c : Nat) (xs : List Int) (w : World) (hA : Ints .i64 w B a (n * 2) xs) (hB : B ≤ w.heap.size) (hn : n ≤ 1099511627776) :
    Calls Try.prog 43 #[.slice a n c, .func (.func 29) #[] #[]] w fun e w' => ∃ i : Int, decide (0 ≤ i) = !okTr xs n ∧ e = .returned (.int .i64 i) ∧ Below w.heap.size w w' := by
  have eg : ∀ args w, (callFunc 29 args).run Try.prog w = .ok (.enter 29 args) w := enters_of Try.func29 (by kernel_rfl) rfl
  have HA := hide hA
  clear hA
  go_enter Try.func43, Try.ntmps43
  go_wp2
  go_loopw [5, 8] (fun _ s8 wr => ∃ (k : Nat) (W9 : World), k ≤ n ∧ s8 = .int .i64 k ∧ W9 = wr ∧ Hid (okTr xs k = true) ∧ Hid (Below w.heap.size w W9)) (fun _ s8 _ => n - (intOf s8).toNat)
  case atStart => exact ⟨0, w, Nat.zero_le _, rfl, rfl, hide rfl, hide (Below.refl _ _)⟩
  case round =>
    obtain ⟨k, W9, hk, rfl, rfl, A, hBw⟩ := hrel
    by_cases hlt : k < n
    · have HV := hide (show okTr xs (k + 1) = trOk (xs.getD (k * 2) 0) (xs.getD (k * 2 + 1) 0) by rw [okTr, A.out]; rfl)
      have hF := hide (fun h : okTr xs (k + 1) = false => okTr_false (k := k + 1) (n := n) (by omega) h)
      obtain ⟨b, off, rfl, hb9, hcell⟩ := (HA.out.below hBw.out hB).2.2 (by omega)
      have hz9 := hBw.out.size
      have hc0 := hcell (k * 2 + 0) (by omega)
      rw [← Nat.add_assoc] at hc0
      rw [Nat.add_zero, Nat.add_zero] at hc0
      have hc1 := hcell (k * 2 + 1) (by omega)
      rw [← Nat.add_assoc] at hc1
      clear hcell
      generalize xs.getD (k * 2) 0 = y0 at hc0 HV
      generalize xs.getD (k * 2 + 1) 0 = y1 at hc1 HV
      have hcall := trackBad_any y0 y1 W9
      cases hq : trOk y0 y1 with
      | false =>
        have D := hide (hF.out (by rw [HV.out, hq]))
        rw [hq] at hcall
        go_wp2_with (go_at_fn 29; refine hcall.mono ?_; rintro e w1 ⟨rfl, hb⟩; have HB1 := hide (hBw.out.trans (hb.mono hz9)); clear hb)
        go_ret
        exact ⟨k, by rw [D.out]; simp, rfl, HB1.out⟩
      | true =>
        have D := hide (show okTr xs (k + 1) = true by rw [HV.out, hq])
        rw [hq] at hcall
        go_wp2_with (go_at_fn 29; refine hcall.mono ?_; rintro e w1 ⟨rfl, hb⟩; have HB1 := hide (hBw.out.trans (hb.mono hz9)); clear hb)
        go_roundw
        case rel => exact ⟨k + 1, _, by omega, by go_num, rfl, D, HB1⟩
        case measure => simp [intOf]; omega
    · obtain rfl : k = n := by omega
      have D := hide A.out
      go_wp2
      go_ret
      exact ⟨-1, by rw [D.out]; rfl, rfl, hBw.out⟩
theorem containsTrack_any (B : Nat) (a : Option Addr) (n c : Nat) (xs : List Int) (w : World) (hA : Ints .i64 w B a (n * 2) xs) (hB : B ≤ w.heap.size) (hn : n ≤ 1099511627776) :
    Calls Try.prog 28 #[.slice a n c, .func (.func 29) #[] #[]] w fun e w' => e = .returned (.bool (!okTr xs n)) ∧ Below w.heap.size w w' := by
  have HA := hide hA
  clear hA
  go_enter Try.func28, Try.ntmps28
  go_wp2_with fail
  refine (indexTrack_any B a n c xs _ HA.out hB hn).mono ?_
  rintro e w' ⟨i, hi, rfl, hb⟩
  have HB := hide hb
  clear hb
  cases hq : okTr xs n
  · have hi' : 0 ≤ i := by rw [hq] at hi; simpa using hi
    clear hi
    go_wp2
    go_ret
    exact ⟨by first | rfl | exact ret_bool (by simp [*]), HB.out⟩
  · have hi' : ¬ 0 ≤ i := by rw [hq] at hi; simpa using hi
    clear hi
    go_wp2
    go_ret
    exact ⟨by first | rfl | exact ret_bool (by simp [*]), HB.out⟩
theorem implValidTr_any (B : Nat) (a : Option Addr) (n c : Nat) (xs : List Int) (w : World) (hA : Ints .i64 w B a (n * 2) xs) (hB : B ≤ w.heap.size) (hn : n ≤ 1099511627776) :
    Calls Try.prog 12 #[.slice a n c] w fun e w' => e = .returned (.bool (validTr xs n)) ∧ Below w.heap.size w w' := by
  have HA := hide hA
  clear hA
  have hc := within_any (n : Int) 1 8 w
  have hs := hide (show validTr xs n = (inR n 1 8 && okTr xs n) from rfl)
  cases h0 : inR (n : Int) 1 8
  case false =>
    rw [h0] at hs hc
    go_enter Try.func12, Try.ntmps12
    go_wp2_with (go_at_call 27; refine hc.mono ?_; rintro e w' ⟨rfl, rfl⟩)
    go_ret
    exact ⟨ret_bool hs.out.symm, Below.refl _ _⟩
  case true =>
    rw [h0] at hs hc
    go_enter Try.func12, Try.ntmps12
    go_wp2_with (first
      | (go_at_call 27; refine hc.mono ?_; rintro e w' ⟨rfl, rfl⟩)
      | (go_at_call 28; refine (containsTrack_any B a n c xs _ HA.out hB hn).mono ?_; rintro e w1 ⟨rfl, hb⟩; have HB := hide hb; clear hb))
    go_ret
    exact ⟨ret_bool (by rw [hs.out]; simp), HB.out⟩
set_option maxHeartbeats 2000000 in
theorem specValidTr0_any (B : Nat) (a : Option Addr) (n c : Nat) (xs : List Int) (w : World) (hA : Ints .i64 w B a (n * 2) xs) (hB : B ≤ w.heap.size) (hn : n ≤ 1099511627776) :
    Calls Try.prog 30 #[.slice a n c] w fun e w' => e = .returned (.bool (validTr xs n)) ∧ Below w.heap.size w w' := by
  have HA := hide hA
  clear hA
  go_enter Try.func30, Try.ntmps30
  go_wp2
  go_loopw [3] (fun s3 wr => ∃ (k : Nat) (W9 : World), k ≤ n ∧ s3 = .int .i64 k ∧ W9 = wr ∧ Hid (okTr xs k = true) ∧ Hid (Below w.heap.size w W9)) (fun s3 _ => n - (intOf s3).toNat)
  case atStart => exact ⟨0, w, Nat.zero_le _, rfl, rfl, hide rfl, hide (Below.refl _ _)⟩
  case round =>
    obtain ⟨k, W9, hk, rfl, rfl, A, hBw⟩ := hrel
    by_cases hlt : k < n
    · have HV := hide (show okTr xs (k + 1) = trOk (xs.getD (k * 2) 0) (xs.getD (k * 2 + 1) 0) by rw [okTr, A.out]; rfl)
      have hF := hide (fun h : okTr xs (k + 1) = false => show validTr xs n = false by rw [validTr, okTr_false (k := k + 1) (n := n) (by omega) h, Bool.and_false])
      obtain ⟨b, off, rfl, hb9, hcell⟩ := (HA.out.below hBw.out hB).2.2 (by omega)
      have h3 : (k : Int) < (n : Int) := by omega
      have hc0 := hcell (k * 2 + 0) (by omega)
      rw [← Nat.add_assoc] at hc0
      rw [Nat.add_zero, Nat.add_zero] at hc0
      have hc1 := hcell (k * 2 + 1) (by omega)
      rw [← Nat.add_assoc] at hc1
      clear hcell
      generalize xs.getD (k * 2) 0 = y0 at hc0 HV
      generalize xs.getD (k * 2 + 1) 0 = y1 at hc1 HV
      cases h0 : inR y0 0 10000
      case false =>
        have D := hide (hF.out (by rw [HV.out, trOk]; simp [h0] <;> omega))
        go_wp2_with (first | (go_at_call 35; with_reducible refine (inRange_is h0 _).mono ?_; rintro e w' ⟨rfl, rfl⟩))
        go_ret
        exact ⟨ret_bool D.out.symm, hBw.out⟩
      case true =>
        cases h1 : inR y1 0 10
        case false =>
          have D := hide (hF.out (by rw [HV.out, trOk]; simp [h0, h1] <;> omega))
          go_wp2_with (first | (go_at_call 35; with_reducible refine (inRange_is h0 _).mono ?_; rintro e w' ⟨rfl, rfl⟩) | (go_at_call 35; with_reducible refine (inRange_is h1 _).mono ?_; rintro e w' ⟨rfl, rfl⟩))
          go_ret
          exact ⟨ret_bool D.out.symm, hBw.out⟩
        case true =>
          by_cases h2 : 0 < y0
          · by_cases h4 : 0 < y1
            · have e2 : decide (0 < y0) = true := by simp; omega
              have e3 : decide (0 < y1) = true := by simp; omega
              have D := hide (hF.out (by rw [HV.out, trOk]; simp [h0, h1, h2, h4] <;> omega))
              go_wp2_with (first | (go_at_call 35; with_reducible refine (inRange_is h0 _).mono ?_; rintro e w' ⟨rfl, rfl⟩) | (go_at_call 35; with_reducible refine (inRange_is h1 _).mono ?_; rintro e w' ⟨rfl, rfl⟩))
              go_ret
              exact ⟨ret_bool D.out.symm, hBw.out⟩
            · have e2 : decide (0 < y0) = true := by simp; omega
              have e3 : decide (0 < y1) = false := by simp; omega
              have D := hide (show okTr xs (k + 1) = true by rw [HV.out, trOk]; simp [h0, h1, h2, h4] <;> omega)
              go_wp2_with (first | (go_at_call 35; with_reducible refine (inRange_is h0 _).mono ?_; rintro e w' ⟨rfl, rfl⟩) | (go_at_call 35; with_reducible refine (inRange_is h1 _).mono ?_; rintro e w' ⟨rfl, rfl⟩))
              go_roundw
              case rel => exact ⟨k + 1, _, by omega, by go_num, rfl, D, hBw⟩
              case measure => simp [intOf]; omega
          · have e2 : decide (0 < y0) = false := by simp; omega
            have D := hide (show okTr xs (k + 1) = true by rw [HV.out, trOk]; simp [h0, h1, h2] <;> omega)
            go_wp2_with (first | (go_at_call 35; with_reducible refine (inRange_is h0 _).mono ?_; rintro e w' ⟨rfl, rfl⟩) | (go_at_call 35; with_reducible refine (inRange_is h1 _).mono ?_; rintro e w' ⟨rfl, rfl⟩))
            go_roundw
            case rel => exact ⟨k + 1, _, by omega, by go_num, rfl, D, hBw⟩
            case measure => simp [intOf]; omega
    · obtain rfl : k = n := by omega
      have hs := hide (show validTr xs k = inR k 1 8 by rw [validTr, A.out, Bool.and_true])
      go_wp2_with (go_at_call 35; refine (inRange_any _ _ _ _).mono ?_; rintro e w' ⟨rfl, rfl⟩)
      go_ret
      exact ⟨ret_bool hs.out.symm, hBw.out⟩
theorem specValidTr_any (B : Nat) (a : Option Addr) (n c : Nat) (xs : List Int) (w : World) (hA : Ints .i64 w B a (n * 2) xs) (hB : B ≤ w.heap.size) (hn : n ≤ 1099511627776) :
    Calls Try.prog 13 #[.slice a n c] w fun e w' => e = .returned (.bool (validTr xs n)) ∧ Below w.heap.size w w' := by
  have HA := hide hA
  clear hA
  go_enter Try.func13, Try.ntmps13
  go_wp2_with fail
  refine (specValidTr0_any B a n c xs _ HA.out hB hn).mono ?_
  rintro e w' ⟨rfl, hb⟩
  have HB := hide hb
  clear hb
  go_wp2
  go_ret
  exact ⟨rfl, HB.out⟩
end Go.Proofs.Ytelokjobhfhhfaa
