/- Tasks: which queues are valid, the reference's answer. Conditions: none. -/
import Derived.Test.YtjmkpegomdgcoaaTaskV
namespace Go.Proofs.Ytjmkpegomdgcoaa
open Go.RowKit
set_option linter.unusedVariables false
set_option linter.unusedSimpArgs false
set_option maxHeartbeats 2000000 in
theorem specValid0_any (B : Nat) (a : Option Addr) (n c : Nat) (ts : List Tk) (w : World) (hA : Ints .i64 w B a (n * 3) (flat ts)) (hB : B ≤ w.heap.size) (hn : n ≤ 1048577) :
    Calls Try.prog 21 #[.slice a n c] w fun e w' => e = .returned (.bool (validT ts)) ∧ Below w.heap.size w w' := by
  have HA := hide hA
  have hl := hide (show ts.length = n by have := hA.1; rw [flat_len] at this; omega)
  clear hA
  go_enter Try.func21, Try.ntmps21
  go_wp2
  go_loopw [3] (fun s3 wr => ∃ (k : Nat) (W9 : World), k ≤ n ∧ s3 = .int .i64 k ∧ W9 = wr ∧ Hid (okTo ts k = true) ∧ Hid (Below w.heap.size w W9)) (fun s3 _ => n - (intOf s3).toNat)
  case atStart => exact ⟨0, w, Nat.zero_le _, rfl, rfl, hide rfl, hide (Below.refl _ _)⟩
  case round =>
    obtain ⟨k, W9, hk, rfl, rfl, A, hBw⟩ := hrel
    by_cases hlt : k < n
    · have hF := hide (fun h : okTo ts (k + 1) = false => show validT ts = false by rw [validT, okTo_false (k := k + 1) (n := ts.length) (by have := hl.out; omega) h]; rfl)
      have HV := hide (show okTo ts (k + 1) = ((inR (tk ts k).id 0 99 && (inR (tk ts k).rank 0 50 && inR (tk ts k).age 0 20)) && (decide (k = 0) || decide ((tk ts (k - 1)).id < (tk ts k).id))) by rw [okTo, A.out]; rfl)
      obtain ⟨b, off, rfl, hb9, hcell⟩ := (HA.out.below hBw.out hB).2.2 (by omega)
      have hz9 := hBw.out.size
      have h3 : (k : Int) < (n : Int) := by omega
      have hlk : k * 3 + 3 ≤ n * 3 := by omega
      have hc0 := hcell (k * 3 + 0) (by omega)
      rw [← Nat.add_assoc] at hc0
      rw [Nat.add_zero, Nat.add_zero] at hc0
      have hc1 := hcell (k * 3 + 1) (by omega)
      rw [← Nat.add_assoc] at hc1
      have hc2 := hcell (k * 3 + 2) (by omega)
      rw [← Nat.add_assoc] at hc2
      obtain ⟨q0, q1, q2⟩ := flat_at ts k
      rw [q0] at hc0; rw [q1] at hc1; rw [q2] at hc2
      clear q0 q1 q2
      have HPR := hide (show 0 < k → W9.cell? ⟨b, off + (k - 1) * 3, none⟩ = some (.int .i64 (tk ts (k - 1)).id) from fun h => by
        rw [hcell ((k - 1) * 3) (by omega), (flat_at ts (k - 1)).1])
      clear hcell
      generalize (tk ts k).id = y0 at hc0 HV
      generalize (tk ts k).rank = y1 at hc1 HV
      generalize (tk ts k).age = y2 at hc2 HV
      generalize (tk ts (k - 1)).id = p at HPR HV
      cases h0 : inR y0 0 99
      case false =>
        have D := hide (hF.out (by rw [HV.out]; simp [h0]))
        go_wp2_with fail
        go_quiet (first | (go_at_call 29; with_reducible exact quietT (inRange_is h0 _)))
        go_wp2
        go_ret
        exact ⟨ret_bool D.out.symm, below_drewN hBw.out _⟩
      case true =>
        cases h1 : inR y1 0 50
        case false =>
          have D := hide (hF.out (by rw [HV.out]; simp [h0, h1]))
          go_wp2_with fail
          go_quiet (first | (go_at_call 29; with_reducible exact quietT (inRange_is h0 _)) | (go_at_call 29; with_reducible exact quietT (inRange_is h1 _)))
          go_wp2
          go_ret
          exact ⟨ret_bool D.out.symm, below_drewN hBw.out _⟩
        case true =>
          cases h2 : inR y2 0 20
          case false =>
            have D := hide (hF.out (by rw [HV.out]; simp [h0, h1, h2]))
            go_wp2_with fail
            go_quiet (first | (go_at_call 29; with_reducible exact quietT (inRange_is h0 _)) | (go_at_call 29; with_reducible exact quietT (inRange_is h1 _)) | (go_at_call 29; with_reducible exact quietT (inRange_is h2 _)))
            go_wp2
            go_ret
            exact ⟨ret_bool D.out.symm, below_drewN hBw.out _⟩
          case true =>
            by_cases hk0 : k = 0
            · have HK0 := hide hk0
              have e4 : decide ((0 : Int) < (k : Int)) = false := by simp; omega
              have e5 : decide (0 < k) = false := by simp; omega
              clear hk0
              have D := hide (show okTo ts (k + 1) = true by rw [HV.out]; simp [h0, h1, h2, HK0.out])
              go_wp2_with fail
              go_quiet (first | (go_at_call 29; with_reducible exact quietT (inRange_is h0 _)) | (go_at_call 29; with_reducible exact quietT (inRange_is h1 _)) | (go_at_call 29; with_reducible exact quietT (inRange_is h2 _)))
              go_wp2
              go_roundw
              case rel => exact ⟨k + 1, _, by omega, by go_num, rfl, D, hide (below_drewN hBw.out _)⟩
              case measure => simp [intOf]; omega
            · have hcp := HPR.out (by omega)
              have hk1 : IntKind.i64.wrap ((k : Int) - 1) = ((k - 1 : Nat) : Int) := by rw [IntWalk.i64_in _ (by omega)]; omega
              obtain ⟨j, hj⟩ : ∃ j, k - 1 = j := ⟨_, rfl⟩
              have hjk : j < k := by omega
              have e4 : decide ((0 : Int) < (k : Int)) = true := by simp; omega
              have e5 : decide (0 < k) = true := by simp; omega
              have HKZ := hide (show decide (k = 0) = false by simp; omega)
              clear hk0
              have hjn : j < n := by omega
              have hjn' : (j : Int) < (n : Int) := by omega
              rw [hj] at hcp hk1
              clear hj
              have HPP := hide hlt
              by_cases hp : p < y0
              · have hpy : ¬ y0 ≤ p := by omega
                have D := hide (show okTo ts (k + 1) = true by rw [HV.out]; simp [h0, h1, h2, hp])
                go_wp2_with fail
                go_quiet (first | (go_at_call 29; with_reducible exact quietT (inRange_is h0 _)) | (go_at_call 29; with_reducible exact quietT (inRange_is h1 _)) | (go_at_call 29; with_reducible exact quietT (inRange_is h2 _)))
                go_wp2
                go_roundw
                case rel => exact ⟨k + 1, _, by omega, by go_num, rfl, D, hide (below_drewN hBw.out _)⟩
                case measure => simp [intOf]; omega
              · have hpy : y0 ≤ p := by omega
                have D := hide (hF.out (by rw [HV.out]; simp [h0, h1, h2, hp, HKZ.out]))
                go_wp2_with fail
                go_quiet (first | (go_at_call 29; with_reducible exact quietT (inRange_is h0 _)) | (go_at_call 29; with_reducible exact quietT (inRange_is h1 _)) | (go_at_call 29; with_reducible exact quietT (inRange_is h2 _)))
                go_wp2
                go_ret
                exact ⟨ret_bool D.out.symm, below_drewN hBw.out _⟩
    · obtain rfl : k = n := by omega
      have HH := hide (show validT ts = decide ((k : Int) ≤ 10) by rw [validT, hl.out, A.out, Bool.true_and]; exact decide_eq_decide.2 (by omega))
      clear A
      go_wp2
      go_ret
      exact ⟨ret_bool HH.out.symm, hBw.out⟩
theorem specValid_any (B : Nat) (a : Option Addr) (n c : Nat) (ts : List Tk) (w : World) (hA : Ints .i64 w B a (n * 3) (flat ts)) (hB : B ≤ w.heap.size) (hn : n ≤ 1048577) :
    Calls Try.prog 10 #[.slice a n c] w fun e w' => e = .returned (.bool (validT ts)) ∧ Below w.heap.size w w' := by
  have HA := hide hA
  clear hA
  go_enter Try.func10, Try.ntmps10
  go_wp2_with fail
  refine (specValid0_any B a n c ts _ HA.out hB hn).mono ?_
  rintro e w' ⟨rfl, hb⟩
  have HB := hide hb
  clear hb
  go_wp2
  go_ret
  exact ⟨rfl, HB.out⟩
end Go.Proofs.Ytjmkpegomdgcoaa
