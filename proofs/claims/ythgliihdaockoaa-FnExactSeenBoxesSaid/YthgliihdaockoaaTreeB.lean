/- Trees: which are valid, the reference's answer. Conditions: none. -/
import Derived.Test.YthgliihdaockoaaTreeA
namespace Go.Proofs.Ythgliihdaockoaa
open Go.RowKit
set_option linter.unusedVariables false
set_option linter.unusedSimpArgs false
/-- what the reference has seen of the first k boxes -/
def SP (xs : List Int) (n k : Nat) : Prop :=
  Pre xs k ∧ (∀ i, i < k → boxB xs i = true) ∧ (∀ i, 0 < i → i < k → fld xs (par xs i).toNat 1 ≠ 0 ∧ kcnt xs (par xs i) ((par xs i).toNat + 1) n ≤ 8) ∧ ∀ i, i < k → (upN xs i).length ≤ 6
theorem SP.zero (xs : List Int) (n : Nat) : SP xs n 0 := ⟨fun j hj => by omega, fun i hi => by omega, fun i _ hi => by omega, fun i hi => by omega⟩
theorem SP.succ {xs : List Int} {n k : Nat} (h : SP xs n k) (hp : Pre xs (k + 1)) (hb : boxB xs k = true) (hk : 0 < k → fld xs (par xs k).toNat 1 ≠ 0 ∧ kcnt xs (par xs k) ((par xs k).toNat + 1) n ≤ 8) (hd : (upN xs k).length ≤ 6) : SP xs n (k + 1) := by
  refine ⟨hp, fun i hi => ?_, fun i h0 hi => ?_, fun i hi => ?_⟩
  · by_cases e : i = k
    · subst e; exact hb
    · exact h.2.1 i (by omega)
  · by_cases e : i = k
    · subst e; exact hk h0
    · exact h.2.2.1 i h0 (by omega)
  · by_cases e : i = k
    · subst e; exact hd
    · exact h.2.2.2 i (by omega)
theorem SP.all {xs : List Int} {n : Nat} (h : SP xs n n) (lo : 1 ≤ n) (hi : n ≤ 16) (ho : ∀ i, 0 < i → i < n → par xs i ∈ upN xs (i - 1)) : TreeP xs n :=
  TreeP.ofSpec lo hi h.1 h.2.1 (fun i h0 hi => (h.2.2.1 i h0 hi).1) (fun i h0 hi => (h.2.2.1 i h0 hi).2) h.2.2.2 ho
set_option maxHeartbeats 4000000 in
theorem specValid_any (B : Nat) (a : Option Addr) (n c : Nat) (xs : List Int) (w : World) (hA : Ints .i64 w B a (n * 9) xs) (hB : B ≤ w.heap.size) (hn : n ≤ 1048577) :
    Calls Try.prog 24 #[.slice a n c] w fun e w' => e = .returned (.bool (treeV xs n)) ∧ Below w.heap.size w w' := by
  have HA := hide (fun W (h : Below w.heap.size w W) => hA.below h hB)
  clear hA
  go_enter Try.func24, Try.ntmps24
  go_wp2
  go_loopw [3] (fun s3 wr => ∃ (k : Nat) (W9 : World), k ≤ n ∧ s3 = .int .i64 k ∧ W9 = wr ∧ Hid (SP xs n k) ∧ Hid (Below w.heap.size w W9)) (fun s3 _ => n - (intOf s3).toNat)
  case atStart => exact ⟨0, w, Nat.zero_le _, rfl, rfl, hide (SP.zero _ _), hide (Below.refl _ _)⟩
  case round =>
    obtain ⟨k, W9, hk, rfl, rfl, HS, HB⟩ := hrel
    have hz9 := HB.out.size
    by_cases hlt : k < n
    · have hkn : (k : Int) < (n : Int) := by omega
      obtain ⟨b, off, rfl, hb9, -⟩ := (HA.out _ HB.out).fldAt (by omega)
      have HC := hide (fun W (h : Below w.heap.size w W) => (by
        obtain ⟨b', off', e, _, h1, h2⟩ := (HA.out _ h).fldAt (by omega)
        injection e with e
        injection e with e1 e2
        subst e1 e2
        exact ⟨h1, h2⟩ : (∀ i, i < n → W.cell? ⟨b, off + i * 9, none⟩ = some (.int .i64 (par xs i))) ∧ ∀ i j, i < n → j < 9 → W.cell? ⟨b, off + i * 9 + j, none⟩ = some (.int .i64 (fld xs i j))))
      have hc0 := (HC.out _ HB.out).1 k hlt
      have hc1 := (HC.out _ HB.out).2 k 1 hlt (by omega)
      have hc2 := (HC.out _ HB.out).2 k 2 hlt (by omega)
      have hc3 := (HC.out _ HB.out).2 k 3 hlt (by omega)
      have hc4 := (HC.out _ HB.out).2 k 4 hlt (by omega)
      have hc5 := (HC.out _ HB.out).2 k 5 hlt (by omega)
      have hc6 := (HC.out _ HB.out).2 k 6 hlt (by omega)
      have hc7 := (HC.out _ HB.out).2 k 7 hlt (by omega)
      have hc8 := (HC.out _ HB.out).2 k 8 hlt (by omega)
      have HV := hide (show boxB xs k = box9 (fld xs k 1) (fld xs k 2) (fld xs k 3) (fld xs k 4) (fld xs k 5) (fld xs k 6) (fld xs k 7) (fld xs k 8) from rfl)
      obtain ⟨y, hy⟩ : ∃ y, par xs k = y := ⟨_, rfl⟩
      have HY := hide hy
      rw [hy] at hc0
      clear hy
      have hbox := validBox_any y (fld xs k 1) (fld xs k 2) (fld xs k 3) (fld xs k 4) (fld xs k 5) (fld xs k 6) (fld xs k 7) (fld xs k 8) W9
      rw [← HV.out] at hbox
      generalize fld xs k 1 = y1 at hc1 hbox
      generalize fld xs k 2 = y2 at hc2 hbox
      generalize fld xs k 3 = y3 at hc3 hbox
      generalize fld xs k 4 = y4 at hc4 hbox
      generalize fld xs k 5 = y5 at hc5 hbox
      generalize fld xs k 6 = y6 at hc6 hbox
      generalize fld xs k 7 = y7 at hc7 hbox
      generalize fld xs k 8 = y8 at hc8 hbox
      clear HV
      cases hv : boxB xs k
      case false =>
        rw [hv] at hbox
        have D := hide (treeV_no (xs := xs) (n := n) (fun h => by have := h.box k hlt; rw [hv] at this; cases this))
        clear hv
        go_wp2_with fail
        refine hbox.mono ?_
        rintro e W1 ⟨rfl, hb⟩
        have HB1 := hide (HB.out.trans (hb.mono hz9))
        clear hb hbox hc0 hc1 hc2 hc3 hc4 hc5 hc6 hc7 hc8
        go_wp2
        go_ret
        exact ⟨ret_bool D.out.symm, HB1.out⟩
      case true =>
        rw [hv] at hbox
        have HV := hide hv
        clear hv
        go_wp2_with fail
        refine hbox.mono ?_
        rintro e W1 ⟨rfl, hb⟩
        have HB1 := hide (HB.out.trans (hb.mono hz9))
        have hz1 := HB1.out.size
        clear hb hbox hc0 hc1 hc2 hc3 hc4 hc5 hc6 hc7 hc8
        have hc0 := (HC.out _ HB1.out).1 k hlt
        rw [HY.out] at hc0
        by_cases hk0 : k = 0
        · subst hk0
          rw [Nat.zero_mul, Nat.add_zero] at hc0
          cases hr : inR y (-1) (-1)
          case false =>
            have D := hide (treeV_no (xs := xs) (n := n) (fun h => by have := h.pre 0 hlt; rw [HY.out] at this; have h2 := inR_not.1 hr; omega))
            go_wp2_with (go_at_call 25; with_reducible refine (inRange_is hr _).mono ?_; rintro e w' ⟨rfl, rfl⟩)
            go_ret
            exact ⟨ret_bool D.out.symm, HB1.out⟩
          case true =>
            have hr2 := inR_iff.1 hr
            have D := hide (HS.out.succ (HS.out.1.succ (by rw [HY.out]; omega) (by rw [HY.out]; omega) (fun h => by omega)) HV.out (fun h => by omega) (by rw [upN_root (by rw [HY.out]; omega)]; simp))
            clear hr2
            go_wp2_with (go_at_call 25; with_reducible refine (inRange_is hr _).mono ?_; rintro e w' ⟨rfl, rfl⟩)
            go_roundw
            case rel => exact ⟨1, _, by omega, by go_num, rfl, D, HB1⟩
            case measure => simp [intOf]; omega
        · have e1 : IntKind.i64.wrap ((k : Int) - 1) = (k : Int) - 1 := IntWalk.i64_in _ (by omega)
          have hk1 : (0 : Int) < (k : Int) := by omega
          rcases Classical.em ((k : Int) ≤ 1) with hk2 | hk2
          all_goals
            cases hr : inR y 0 ((k : Int) - 1)
            case false =>
              have HR2 := hide (fun h : (k : Int) ≤ 1 => (show inR y ((k : Int) - 1) ((k : Int) - 1) = false by rw [show (k : Int) - 1 = 0 by omega] at hr ⊢; exact hr))
              have D := hide (treeV_no (xs := xs) (n := n) (fun h => by have := h.pre k hlt; rw [HY.out] at this; have h2 := inR_not.1 hr; omega))
              go_wp2_with (go_at_call 25; (first | with_reducible refine (inRange_is hr _).mono ?_ | with_reducible refine (inRange_is (HR2.out hk2) _).mono ?_); rintro e w' ⟨rfl, rfl⟩)
              go_ret
              exact ⟨ret_bool D.out.symm, HB1.out⟩
            case true =>
              have HR2 := hide (fun h : (k : Int) ≤ 1 => (show inR y ((k : Int) - 1) ((k : Int) - 1) = true by rw [show (k : Int) - 1 = 0 by omega] at hr ⊢; exact hr))
              have hr2 := inR_iff.1 hr
              obtain ⟨q, rfl⟩ := Int.eq_ofNat_of_zero_le hr2.1
              have hqk : q < k := by omega
              have hqn : q < n := by omega
              have hqn' : (q : Int) < (n : Int) := by omega
              have HP := hide (HS.out.1.succ (by rw [HY.out]; omega) (by rw [HY.out]; omega) (fun _ => by rw [HY.out]; omega))
              clear hr2
              have gc1 := (HC.out _ HB1.out).2 q 1 hqn (by omega)
              obtain ⟨z, hz⟩ : ∃ z, fld xs q 1 = z := ⟨_, rfl⟩
              have HZ := hide hz
              rw [hz] at gc1
              clear hz
              by_cases hz0 : z = 0
              · have hz0' : (z == 0) = true := by simpa using hz0
                have D := hide (treeV_no (xs := xs) (n := n) (fun h => h.leaf k (by omega) hlt (by rw [HY.out, Int.toNat_natCast, HZ.out]; exact hz0)))
                clear hz0
                go_wp2_with (go_at_call 25; (first | with_reducible refine (inRange_is hr _).mono ?_ | with_reducible refine (inRange_is (HR2.out hk2) _).mono ?_); rintro e w' ⟨rfl, rfl⟩)
                go_ret
                exact ⟨ret_bool D.out.symm, HB1.out⟩
              · have hz0' : (z == 0) = false := by simpa using hz0
                have HZ0 := hide (show fld xs (par xs k).toNat 1 ≠ 0 by rw [HY.out, Int.toNat_natCast, HZ.out]; exact hz0)
                clear hz0 HZ
                go_wp2_with (go_at_call 25; (first | with_reducible refine (inRange_is hr _).mono ?_ | with_reducible refine (inRange_is (HR2.out hk2) _).mono ?_); rintro e w' ⟨rfl, rfl⟩)
                refine (specKids_any B (some ⟨b, off, none⟩) n c xs q _ (HA.out _ HB1.out) (by omega) hn hqn).mono ?_
                rintro e W2 ⟨A2, c2, rfl, hb⟩
                have HB2 := hide (HB1.out.trans (hb.mono hz1))
                have hz2 := hb.size
                clear hb hc0 gc1
                obtain ⟨m, hm⟩ : ∃ m, kcnt xs q (q + 1) n = m := ⟨_, rfl⟩
                rw [hm]
                have HM := hide (show kcnt xs (par xs k) ((par xs k).toNat + 1) n = m by rw [HY.out, Int.toNat_natCast]; exact hm)
                clear hm
                by_cases hm8 : 8 < m
                · have hm8' : (8 : Int) < (m : Int) := by omega
                  have D := hide (treeV_no (xs := xs) (n := n) (fun h => by have h1 := h.many k (by omega) hlt; have h2 := kcnt_le (xs := xs) (p := par xs k) (s := (par xs k).toNat + 1) (n := n); rw [HM.out] at h2; omega))
                  go_wp2
                  go_ret
                  exact ⟨ret_bool D.out.symm, HB2.out⟩
                · have hm8' : ¬ (8 : Int) < (m : Int) := by omega
                  have HK := hide (show kcnt xs (par xs k) ((par xs k).toNat + 1) n ≤ 8 by rw [HM.out]; omega)
                  clear hm8 HM
                  go_wp2_with fail
                  refine (depth_any B (some ⟨b, off, none⟩) n c xs k _ (HA.out _ HB2.out) hn hlt HP.out).mono ?_
                  rintro e _ ⟨⟨d, hd, rfl⟩, rfl⟩
                  have HD := hide hd
                  clear hd
                  by_cases hd5 : 5 < d
                  · have hd5' : (5 : Int) < (d : Int) := by omega
                    have D := hide (treeV_no (xs := xs) (n := n) (fun h => by have h1 := h.deep k hlt; have := HD.out; omega))
                    go_wp2
                    go_ret
                    exact ⟨ret_bool D.out.symm, HB2.out⟩
                  · have hd5' : ¬ (5 : Int) < (d : Int) := by omega
                    have D := hide (HS.out.succ HP.out HV.out (fun _ => ⟨HZ0.out, HK.out⟩) (by have := HD.out; omega))
                    clear HD HK HZ0 HP HR2 hr
                    go_wp2
                    go_roundw
                    case rel => exact ⟨k + 1, _, by omega, by go_num, rfl, D, HB2⟩
                    case measure => simp [intOf]; omega
    · obtain rfl : k = n := by omega
      cases hr : inR (k : Int) 1 16
      case false =>
        have D := hide (treeV_no (xs := xs) (n := k) (fun h => by have h1 := h.lo; have h2 := h.hi; have := inR_not.1 hr; omega))
        go_wp2_with (go_at_call 25; with_reducible refine (inRange_is hr _).mono ?_; rintro e w' ⟨rfl, rfl⟩)
        go_ret
        exact ⟨ret_bool D.out.symm, HB.out⟩
      case true =>
        have hr2 := inR_iff.1 hr
        have HO := inOrder_any B a k c xs W9 (HA.out _ HB.out) hn (by omega) HS.out.1
        have D := hide (fun (b : Bool) (h : b = true ↔ ∀ i, 0 < i → i < k → par xs i ∈ upN xs (i - 1)) => (show b = treeV xs k from by
          cases b
          · exact (treeV_no (fun t => by have := h.2 t.order; cases this)).symm
          · exact (treeV_yes (HS.out.all (by omega) (by omega) (h.1 rfl))).symm))
        clear hr2
        go_wp2_with (first | (go_at_call 25; with_reducible refine (inRange_is hr _).mono ?_; rintro e w' ⟨rfl, rfl⟩) | (go_at_call 37; refine HO.mono ?_; rintro e w' ⟨⟨b, rfl, hb⟩, rfl⟩; have E1 := hide (D.out b hb); clear hb))
        go_ret
        exact ⟨ret_bool E1.out, HB.out⟩
end Go.Proofs.Ythgliihdaockoaa
