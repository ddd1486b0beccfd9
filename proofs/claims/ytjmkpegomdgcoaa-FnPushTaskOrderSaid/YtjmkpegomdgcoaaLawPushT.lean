/- The laws FnPushTaskTwice, FnPushTaskOrder. Conditions: none. -/
import Derived.Test.YtjmkpegomdgcoaaDrawP
namespace Go.Proofs.Ytjmkpegomdgcoaa
open Go.RowKit
set_option linter.unusedVariables false
set_option linter.unusedSimpArgs false
theorem pushL_len_eq (id r r' : Int) (ts : List Tk) : (pushL id r ts).length = (pushL id r' ts).length := by
  induction ts with
  | nil => rfl
  | cons t q ih =>
    unfold pushL
    split
    · simp [ih]
    · split <;> simp
theorem push_twice {ts us : List Tk} {id rank : Int} (h : pushOk ts id rank = true) (hu : pushS ts id rank = us) : pushOk us id 6 = true ∧ pushOk ts id (min rank 6) = true ∧ pushS us id 6 = pushS ts id (min rank 6) := by
  have hv := pushS_valid h
  obtain ⟨h1, h2, h3, h4⟩ := pushOk_iff.1 h
  have hu' : us = pushL id rank ts := by rw [← hu, pushS, if_pos h]
  rw [hu] at hv
  have ht : pushL id 6 us = pushL id (min rank 6) ts := by rw [hu', pushL_twice]
  have hl : (pushL id (min rank 6) ts).length ≤ 10 := by rw [pushL_len_eq id _ rank]; exact h4
  have a1 : pushOk us id 6 = true := pushOk_iff.2 ⟨hv, h2, by omega, by rw [ht]; exact hl⟩
  have a2 : pushOk ts id (min rank 6) = true := pushOk_iff.2 ⟨h1, h2, by omega, hl⟩
  exact ⟨a1, a2, by rw [pushS, if_pos a1, pushS, if_pos a2, ht]⟩
theorem push_order {ts us vs : List Tk} {id rank : Int} (hne : id ≠ 41) (h : pushOk ts id rank = true) (hu : pushS ts id rank = us) (h1 : pushOk us 41 8 = true) (h2 : pushOk ts 41 8 = true) (hv : pushS ts 41 8 = vs) : pushOk vs id rank = true ∧ pushS vs id rank = pushS us 41 8 := by
  have hvv := pushS_valid h2
  obtain ⟨_, c2, c3, _⟩ := pushOk_iff.1 h
  obtain ⟨_, _, _, c4⟩ := pushOk_iff.1 h1
  have hu' : us = pushL id rank ts := by rw [← hu, pushS, if_pos h]
  have hv' : vs = pushL 41 8 ts := by rw [← hv, pushS, if_pos h2]
  rw [hv] at hvv
  have ht : pushL id rank vs = pushL 41 8 us := by rw [hu', hv', pushL_comm hne]
  have a1 : pushOk vs id rank = true := pushOk_iff.2 ⟨hvv, c2, c3, by rw [ht]; exact c4⟩
  exact ⟨a1, by rw [pushS, if_pos a1, pushS, if_pos h1, ht]⟩
set_option maxRecDepth 100000 in
set_option maxHeartbeats 4000000 in
theorem walk_FnPushTaskTwice (a0 : Option Addr) (len cap : Nat) (zs : List Int) (w : World) (h0 : Ints .u8 w w.heap.size a0 len zs) (hc : len ≤ cap) :
    Calls Try.prog 8 #[.slice a0 len cap] w fun e w' => e = .returned (.bool true) ∧ Below w.heap.size w w' := by
  by_cases hl : len ≤ 1048576
  case neg =>
    go_enter Try.func8, Try.ntmps8
    go_wp2
    go_ret
    exact ⟨rfl, Below.refl _ _⟩
  case pos =>
    go_enter Try.func8, Try.ntmps8
    go_wp2_with fail
    refine (drawPush_any a0 len cap zs _ h0 hc).mono ?_
    rintro e W0 ⟨A, n, c, ts, id, rank, rfl, hn9, hnc, hcm, hrow, hb0⟩
    clear h0
    have L_0 := hide hrow.ints
    have B_0 := hide hb0
    have hz0 := hb0.size
    clear hrow hb0
    go_wp2_with fail
    refine (implPush_any W0.heap.size A _ c ts (id) (rank) _ L_0.out (by omega) (by omega)).mono ?_
    rintro e W1 ⟨A1, m, c1, rfl, m1, m2, m3, rm, hb⟩
    obtain ⟨us, hus⟩ : ∃ us, pushS ts id rank = us := ⟨_, rfl⟩
    rw [hus] at rm
    have HUS := hide hus
    clear hus
    have P_1 := hide rm.ints
    have HM := hide rm.1
    clear rm
    obtain ⟨ok, hok⟩ : ∃ ok, pushOk ts id rank = ok := ⟨_, rfl⟩
    rw [hok]
    have HOK := hide hok
    clear hok
    have hz1 := hb.size
    have L_1 := hide (L_0.out.below hb (by omega))
    have B_1 := hide (B_0.out.trans (hb.mono (by omega)))
    clear hb L_0 B_0
    go_wp2_with fail
    refine (specPush_any W0.heap.size A _ c ts id rank _ L_1.out (by omega) (by omega)).mono ?_
    rintro e W2 ⟨A2, m2, c2, rfl, hS, hb⟩
    rw [HUS.out] at hS
    obtain ⟨_, _, eS, s1, s2, rS⟩ := hS.form
    injection eS with eA _ eC
    subst eA eC
    obtain rfl : m = m2 := by have h1 := rS.1; have h2 := HM.out; omega
    have S_2 := hide rS.ints
    clear rS hS
    rw [HOK.out]
    have hz2 := hb.size
    have L_2 := hide (L_1.out.below hb (by omega))
    have B_2 := hide (B_1.out.trans (hb.mono (by omega)))
    have P_2 := hide (P_1.out.below hb (by omega))
    clear hb L_1 B_1 P_1
    go_wp2_with fail
    refine (equalTasks_self W1.heap.size W2.heap.size A1 A2 m c1 c2 (flat us) _ P_2.out S_2.out (by omega) (by omega) (by omega)).mono ?_
    rintro e W3 ⟨rfl, hb⟩
    have hz3 := hb.size
    have L_3 := hide (L_2.out.below hb (by omega))
    have B_3 := hide (B_2.out.trans (hb.mono (by omega)))
    have P_3 := hide (P_2.out.below hb (by omega))
    have S_3 := hide (S_2.out.below hb (by omega))
    clear hb L_2 B_2 P_2 S_2
    cases ok
    case false =>
      go_wp2_with fail
      refine (equalTasks_self W1.heap.size W2.heap.size A1 A2 m c1 c2 (flat us) _ P_3.out S_3.out (by omega) (by omega) (by omega)).mono ?_
      rintro e W4 ⟨rfl, hb⟩
      have hz4 := hb.size
      have L_4 := hide (L_3.out.below hb (by omega))
      have B_4 := hide (B_3.out.trans (hb.mono (by omega)))
      have P_4 := hide (P_3.out.below hb (by omega))
      have S_4 := hide (S_3.out.below hb (by omega))
      clear hb L_3 B_3 P_3 S_3
      go_wp2
      go_ret
      exact ⟨rfl, B_4.out⟩
    case true =>
      have HT := hide (push_twice HOK.out HUS.out)
      go_wp2_with fail
      refine (implPush_any W1.heap.size A1 m c1 us (id) (6) _ P_3.out (by omega) (by omega)).mono ?_
      rintro e W4 ⟨A5, m5, c5, rfl, m51, m52, m53, rm5, hb⟩
      rw [HT.out.1]
      rw [HT.out.2.2] at rm5
      obtain ⟨vs, hvs⟩ : ∃ vs, pushS ts id (min rank 6) = vs := ⟨_, rfl⟩
      rw [hvs] at rm5
      have HVS := hide hvs
      clear hvs
      have Q_4 := hide rm5.ints
      have HM5 := hide rm5.1
      clear rm5
      have hz4 := hb.size
      have L_4 := hide (L_3.out.below hb (by omega))
      have B_4 := hide (B_3.out.trans (hb.mono (by omega)))
      have P_4 := hide (P_3.out.below hb (by omega))
      have S_4 := hide (S_3.out.below hb (by omega))
      clear hb L_3 B_3 P_3 S_3
      go_wp2_with fail
      refine (implPush_any W0.heap.size A _ c ts (id) (min rank 6) _ L_4.out (by omega) (by omega)).mono ?_
      rintro e W5 ⟨A6, m6, c6, rfl, m61, m62, m63, rm6, hb⟩
      rw [HT.out.2.1]
      rw [HVS.out] at rm6
      obtain rfl : m5 = m6 := by have h1 := rm6.1; have h2 := HM5.out; omega
      have V_5 := hide rm6.ints
      clear rm6
      have hz5 := hb.size
      have L_5 := hide (L_4.out.below hb (by omega))
      have B_5 := hide (B_4.out.trans (hb.mono (by omega)))
      have P_5 := hide (P_4.out.below hb (by omega))
      have S_5 := hide (S_4.out.below hb (by omega))
      have Q_5 := hide (Q_4.out.below hb (by omega))
      clear hb L_4 B_4 P_4 S_4 Q_4
      go_wp2_with fail
      refine (equalTasks_self W4.heap.size W5.heap.size A5 A6 m5 c5 c6 (flat vs) _ Q_5.out V_5.out (by omega) (by omega) (by omega)).mono ?_
      rintro e W6 ⟨rfl, hb⟩
      have hz6 := hb.size
      have L_6 := hide (L_5.out.below hb (by omega))
      have B_6 := hide (B_5.out.trans (hb.mono (by omega)))
      have P_6 := hide (P_5.out.below hb (by omega))
      have S_6 := hide (S_5.out.below hb (by omega))
      have Q_6 := hide (Q_5.out.below hb (by omega))
      have V_6 := hide (V_5.out.below hb (by omega))
      clear hb L_5 B_5 P_5 S_5 Q_5 V_5
      go_wp2
      go_ret
      exact ⟨rfl, B_6.out⟩
set_option maxRecDepth 100000 in
set_option maxHeartbeats 4000000 in
theorem walk_FnPushTaskOrder (a0 : Option Addr) (len cap : Nat) (zs : List Int) (w : World) (h0 : Ints .u8 w w.heap.size a0 len zs) (hc : len ≤ cap) :
    Calls Try.prog 7 #[.slice a0 len cap] w fun e w' => e = .returned (.bool true) ∧ Below w.heap.size w w' := by
  by_cases hl : len ≤ 1048576
  case neg =>
    go_enter Try.func7, Try.ntmps7
    go_wp2
    go_ret
    exact ⟨rfl, Below.refl _ _⟩
  case pos =>
    go_enter Try.func7, Try.ntmps7
    go_wp2_with fail
    refine (drawPush_any a0 len cap zs _ h0 hc).mono ?_
    rintro e W0 ⟨A, n, c, ts, id, rank, rfl, hn9, hnc, hcm, hrow, hb0⟩
    clear h0
    have L_0 := hide hrow.ints
    have B_0 := hide hb0
    have hz0 := hb0.size
    clear hrow hb0
    go_wp2_with fail
    refine (implPush_any W0.heap.size A _ c ts (id) (rank) _ L_0.out (by omega) (by omega)).mono ?_
    rintro e W1 ⟨A1, m, c1, rfl, m1, m2, m3, rm, hb⟩
    obtain ⟨us, hus⟩ : ∃ us, pushS ts id rank = us := ⟨_, rfl⟩
    rw [hus] at rm
    have HUS := hide hus
    clear hus
    have P_1 := hide rm.ints
    have HM := hide rm.1
    clear rm
    obtain ⟨ok, hok⟩ : ∃ ok, pushOk ts id rank = ok := ⟨_, rfl⟩
    rw [hok]
    have HOK := hide hok
    clear hok
    have hz1 := hb.size
    have L_1 := hide (L_0.out.below hb (by omega))
    have B_1 := hide (B_0.out.trans (hb.mono (by omega)))
    clear hb L_0 B_0
    go_wp2_with fail
    refine (specPush_any W0.heap.size A _ c ts id rank _ L_1.out (by omega) (by omega)).mono ?_
    rintro e W2 ⟨A2, m2, c2, rfl, hS, hb⟩
    rw [HUS.out] at hS
    obtain ⟨_, _, eS, s1, s2, rS⟩ := hS.form
    injection eS with eA _ eC
    subst eA eC
    obtain rfl : m = m2 := by have h1 := rS.1; have h2 := HM.out; omega
    have S_2 := hide rS.ints
    clear rS hS
    rw [HOK.out]
    have hz2 := hb.size
    have L_2 := hide (L_1.out.below hb (by omega))
    have B_2 := hide (B_1.out.trans (hb.mono (by omega)))
    have P_2 := hide (P_1.out.below hb (by omega))
    clear hb L_1 B_1 P_1
    go_wp2_with fail
    refine (equalTasks_self W1.heap.size W2.heap.size A1 A2 m c1 c2 (flat us) _ P_2.out S_2.out (by omega) (by omega) (by omega)).mono ?_
    rintro e W3 ⟨rfl, hb⟩
    have hz3 := hb.size
    have L_3 := hide (L_2.out.below hb (by omega))
    have B_3 := hide (B_2.out.trans (hb.mono (by omega)))
    have P_3 := hide (P_2.out.below hb (by omega))
    have S_3 := hide (S_2.out.below hb (by omega))
    clear hb L_2 B_2 P_2 S_2
    cases ok
    case false =>
      go_wp2_with fail
      refine (equalTasks_self W1.heap.size W2.heap.size A1 A2 m c1 c2 (flat us) _ P_3.out S_3.out (by omega) (by omega) (by omega)).mono ?_
      rintro e W4 ⟨rfl, hb⟩
      have hz4 := hb.size
      have L_4 := hide (L_3.out.below hb (by omega))
      have B_4 := hide (B_3.out.trans (hb.mono (by omega)))
      have P_4 := hide (P_3.out.below hb (by omega))
      have S_4 := hide (S_3.out.below hb (by omega))
      clear hb L_3 B_3 P_3 S_3
      go_wp2
      go_ret
      exact ⟨rfl, B_4.out⟩
    case true =>
      by_cases h41 : id = 41
      · have e41 : (id == 41) = true := by simpa using h41
        clear h41
        go_wp2_with fail
        refine (equalTasks_self W1.heap.size W2.heap.size A1 A2 m c1 c2 (flat us) _ P_3.out S_3.out (by omega) (by omega) (by omega)).mono ?_
        rintro e W4 ⟨rfl, hb⟩
        have hz4 := hb.size
        have L_4 := hide (L_3.out.below hb (by omega))
        have B_4 := hide (B_3.out.trans (hb.mono (by omega)))
        have P_4 := hide (P_3.out.below hb (by omega))
        have S_4 := hide (S_3.out.below hb (by omega))
        clear hb L_3 B_3 P_3 S_3
        go_wp2
        go_ret
        exact ⟨rfl, B_4.out⟩
      · have e41 : (id == 41) = false := by simpa using h41
        have H41 := hide h41
        clear h41
        go_wp2_with fail
        refine (implPush_any W1.heap.size A1 m c1 us (41) (8) _ P_3.out (by omega) (by omega)).mono ?_
        rintro e W4 ⟨A5, m5, c5, rfl, m51, m52, m53, rm5, hb⟩
        obtain ⟨b5, hb5⟩ : ∃ b, pushOk us 41 8 = b := ⟨_, rfl⟩
        rw [hb5]
        have H5 := hide hb5
        clear hb5
        obtain ⟨xs, hxs⟩ : ∃ xs, pushS us 41 8 = xs := ⟨_, rfl⟩
        rw [hxs] at rm5
        have HXS := hide hxs
        clear hxs
        have Q_4 := hide rm5.ints
        have HM5 := hide rm5.1
        clear rm5
        have hz4 := hb.size
        have L_4 := hide (L_3.out.below hb (by omega))
        have B_4 := hide (B_3.out.trans (hb.mono (by omega)))
        have P_4 := hide (P_3.out.below hb (by omega))
        have S_4 := hide (S_3.out.below hb (by omega))
        clear hb L_3 B_3 P_3 S_3
        go_wp2_with fail
        refine (implPush_any W0.heap.size A _ c ts (41) (8) _ L_4.out (by omega) (by omega)).mono ?_
        rintro e W5 ⟨A6, m6, c6, rfl, m61, m62, m63, rm6, hb⟩
        obtain ⟨b6, hb6⟩ : ∃ b, pushOk ts 41 8 = b := ⟨_, rfl⟩
        rw [hb6]
        have H6 := hide hb6
        clear hb6
        obtain ⟨vs, hvs⟩ : ∃ vs, pushS ts 41 8 = vs := ⟨_, rfl⟩
        rw [hvs] at rm6
        have HVS := hide hvs
        clear hvs
        have V_5 := hide rm6.ints
        clear rm6
        have hz5 := hb.size
        have L_5 := hide (L_4.out.below hb (by omega))
        have B_5 := hide (B_4.out.trans (hb.mono (by omega)))
        have P_5 := hide (P_4.out.below hb (by omega))
        have S_5 := hide (S_4.out.below hb (by omega))
        have Q_5 := hide (Q_4.out.below hb (by omega))
        clear hb L_4 B_4 P_4 S_4 Q_4
        go_wp2_with fail
        refine (implPush_any W5.heap.size A6 m6 c6 vs (id) (rank) _ V_5.out (by omega) (by omega)).mono ?_
        rintro e W6 ⟨A7, m7, c7, rfl, m71, m72, m73, rm7, hb⟩
        obtain ⟨b7, hb7⟩ : ∃ b, pushOk vs id rank = b := ⟨_, rfl⟩
        rw [hb7]
        have H7 := hide hb7
        clear hb7
        have U_6 := hide rm7.ints
        have HM7 := hide rm7.1
        clear rm7
        have hz6 := hb.size
        have L_6 := hide (L_5.out.below hb (by omega))
        have B_6 := hide (B_5.out.trans (hb.mono (by omega)))
        have P_6 := hide (P_5.out.below hb (by omega))
        have S_6 := hide (S_5.out.below hb (by omega))
        have Q_6 := hide (Q_5.out.below hb (by omega))
        have V_6 := hide (V_5.out.below hb (by omega))
        clear hb L_5 B_5 P_5 S_5 Q_5 V_5
        cases b5
        case false =>
          go_wp2
          go_ret
          exact ⟨rfl, B_6.out⟩
        case true =>
          cases b6
          case false =>
            go_wp2
            go_ret
            exact ⟨rfl, B_6.out⟩
          case true =>
            have HT := hide (push_order H41.out HOK.out HUS.out H5.out H6.out HVS.out)
            obtain rfl : b7 = true := by rw [← H7.out]; exact HT.out.1
            have hxx := HT.out.2.trans HXS.out
            rw [hxx] at U_6 HM7
            clear hxx
            obtain rfl : m5 = m7 := by have h1 := HM7.out; have h2 := HM5.out; omega
            go_wp2_with fail
            refine (equalTasks_self W4.heap.size W6.heap.size A5 A7 m5 c5 c7 (flat xs) _ Q_6.out U_6.out (by omega) (by omega) (by omega)).mono ?_
            rintro e W7 ⟨rfl, hb⟩
            have hz7 := hb.size
            have L_7 := hide (L_6.out.below hb (by omega))
            have B_7 := hide (B_6.out.trans (hb.mono (by omega)))
            have P_7 := hide (P_6.out.below hb (by omega))
            have S_7 := hide (S_6.out.below hb (by omega))
            have Q_7 := hide (Q_6.out.below hb (by omega))
            have V_7 := hide (V_6.out.below hb (by omega))
            have U_7 := hide (U_6.out.below hb (by omega))
            clear hb L_6 B_6 P_6 S_6 Q_6 V_6 U_6
            go_wp2
            go_ret
            exact ⟨rfl, B_7.out⟩
end Go.Proofs.Ytjmkpegomdgcoaa
