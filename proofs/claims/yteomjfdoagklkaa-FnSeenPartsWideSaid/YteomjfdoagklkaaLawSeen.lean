/- The laws of SeenParts on drawn arguments: the walks. Conditions: none. -/
import Derived.Test.YteomjfdoagklkaaSeen
import Derived.Test.YteomjfdoagklkaaDrawSeen
namespace Go.Proofs.Yteomjfdoagklkaa
open Go.RowKit
set_option linter.unusedVariables false

theorem quiet_any {P : Program} {f : FuncId} {args : Array Value} {w : World} {n : Nat} {v : Value}
    (h : Calls P f args (w.drewN n) fun e w' => e = .returned v ∧ w.drewN n = w') : Calls P f args (w.drewN n) fun e w'' => e = .returned v ∧ ∃ m, w'' = w.drewN m :=
  h.mono fun _ _ ⟨he, hm⟩ => ⟨he, n, hm.symm⟩


set_option maxHeartbeats 4000000 in
theorem walk_FnSeenPartsAll (a0 : Option Addr) (len cap : Nat) (zs : List Int) (w : World) (h0 : Ints .u8 w w.heap.size a0 len zs) (hc : len ≤ cap) :
    Calls Try.prog 13 #[.slice a0 len cap] w fun e w' => e = .returned (.bool true) ∧ Below w.heap.size w w' := by
  by_cases hl : len ≤ 1048576
  case neg =>
    go_enter Try.func13, Try.ntmps13
    go_wp2
    go_ret
    exact ⟨rfl, Below.refl _ _⟩
  case pos =>
    go_enter Try.func13, Try.ntmps13
    go_wp2_with fail
    refine (drawSeen_any a0 len cap zs _ h0 hc).mono ?_
    rintro e W0 ⟨sA, sn, sc, xs, v, a, hsn, hv, ha, rfl, hs1, hs2, s_0, hB0⟩
    clear h0
    have hzz := hB0.size
    have hxl := s_0.1
    have hlen := hide (seenS_len xs v a)
    have he1 := listEq_self (seenS xs v a)
    go_wp2_with fail
    refine (implSeen_any _ sA sn sc xs v a _ s_0.ints (Nat.le_refl _) (by omega)).mono ?_
    rintro e W1 ⟨rA, rn, rc, rfl, rnc, rcm, r_0, hb⟩
    have hz1 := hb.size
    have s_1 := s_0.belowS hb
    clear s_0
    have hB1 := hB0.trans (hb.mono (by omega))
    clear hB0
    clear hb
    have rl : rn ≤ 8 := by have := r_0.1; have := hlen.out; omega
    go_wp2_with fail
    refine (specSeen_any _ sA sn sc xs v a _ s_1.ints (by omega) (by omega)).mono ?_
    rintro e W2 ⟨qA, qn, qc, rfl, qnc, qcm, q_0, hb⟩
    have hz2 := hb.size
    have s_2 := s_1.belowS hb
    clear s_1
    have r_2 := r_0.belowS hb
    clear r_0
    have hB2 := hB1.trans (hb.mono (by omega))
    clear hB1
    clear hb
    have ql : qn ≤ 8 := by have := q_0.1; have := hlen.out; omega
    go_wp2_with fail
    refine (equalInts_any _ _ rA qA rn qn rc qc _ _ _ r_2.ints q_0.ints (by omega) (by omega)).mono ?_
    rintro e W3 ⟨rfl, hb⟩
    have hz3 := hb.size
    have s_3 := s_2.belowS hb
    clear s_2
    have r_3 := r_2.belowS hb
    clear r_2
    have q_3 := q_0.belowS hb
    clear q_0
    have hB3 := hB2.trans (hb.mono (by omega))
    clear hB2
    clear hb
    clear q_3
    by_cases hrn : rn = 0
    · subst hrn
      go_wp2_with fail
      refine (specSeen_any _ sA sn sc xs v a _ s_3.ints (by omega) (by omega)).mono ?_
      rintro e W4 ⟨q2A, q2n, q2c, rfl, q2nc, q2cm, q2_0, hb⟩
      have hz4 := hb.size
      have s_4 := s_3.belowS hb
      clear s_3
      have r_4 := r_3.belowS hb
      clear r_3
      have hB4 := hB3.trans (hb.mono (by omega))
      clear hB3
      clear hb
      have q2l : q2n ≤ 8 := by have := q2_0.1; have := hlen.out; omega
      go_wp2_with fail
      refine (equalInts_any _ _ rA q2A 0 q2n rc q2c _ _ _ r_4.ints q2_0.ints (by omega) (by omega)).mono ?_
      rintro e W5 ⟨rfl, hb⟩
      have hz5 := hb.size
      have s_5 := s_4.belowS hb
      clear s_4
      have r_5 := r_4.belowS hb
      clear r_4
      have q2_5 := q2_0.belowS hb
      clear q2_0
      have hB5 := hB4.trans (hb.mono (by omega))
      clear hB4
      clear hb
      have HB := hide hB5
      clear s_5
      clear r_5
      clear q2_5
      clear hB5
      go_wp2
      go_ret
      exact ⟨rfl, HB.out⟩
    · have hb0 : ((rn : Int) == 0) = false := by simpa using hrn
      obtain ⟨hok, hsS⟩ := seenS_some (xs := xs) (v := v) (a := a) (by have := r_3.1; omega)
      obtain ⟨hk1, hall, hk3, hk4⟩ := seenOk_iff.1 hok
      have HS := hide hsS
      have HA := hide hall
      clear hsS hall hok
      have hsum := seen_sum HA.out hk1 xs.length
      rw [List.take_length] at hsum
      clear r_3
      go_wp2_with fail
      refine (lawsSum_any _ sA sn sc xs _ s_3.ints (by omega) (inAll_small HA.out (by omega) (by omega))).mono ?_
      rintro e w' ⟨rfl, rfl⟩
      go_wp2_with fail
      refine (implSeen_any _ sA sn sc xs _ 0 _ s_3.ints (by omega) (by omega)).mono ?_
      rintro e W4 ⟨tA, tn, tc, rfl, tnc, tcm, t_0, hb⟩
      have hz4 := hb.size
      have s_4 := s_3.belowS hb
      clear s_3
      have hB4 := hB3.trans (hb.mono (by omega))
      clear hB3
      clear hb
      have htl : (tn : Int) = posTo xs sn := by
        have h1 := t_0.1
        have h2 : seenS xs (sumI xs) 0 = seenTo (sumI xs) 0 xs xs.length := if_pos (seenOk_iff.2 ⟨hk1, HA.out, by omega, by omega⟩)
        have h3 := seen_all HA.out hk1 (Nat.le_refl _)
        rw [h2] at h1; rw [hxl] at h1 h3; omega
      have HT := hide htl
      clear htl
      clear t_0
      have HB := hide hB4
      clear hB4
      have HI := hide s_4.ints
      clear s_4
      go_wp2_with fail
      go_loop [8, 9] (fun s8 s9 => ∃ k : Nat, k ≤ sn ∧ s8 = .int .i64 (posTo xs k) ∧ s9 = .int .i64 k) (fun _ s9 => sn - (intOf s9).toNat)
      case atStart => exact ⟨0, Nat.zero_le _, rfl, rfl⟩
      case round =>
        obtain ⟨k, hk, rfl, rfl⟩ := hrel
        by_cases hlt : k < sn
        · obtain ⟨b, off, rfl, _, hcell⟩ := HI.out.2.2 (by omega)
          have h1 := hcell k hlt
          obtain ⟨p0, p1⟩ := posTo_bd xs k
          have HP := hide (show posTo xs (k + 1) = if 0 < xs.getD k 0 then posTo xs k + 1 else posTo xs k from rfl)
          clear hcell
          generalize xs.getD k 0 = y at h1 HP
          obtain ⟨t, ht⟩ : ∃ t, posTo xs k = t := ⟨_, rfl⟩
          rw [ht] at p0 p1
          by_cases hy : 0 < y
          · have D := hide (show posTo xs (k + 1) = t + 1 by rw [HP.out, if_pos hy, ht])
            clear HP
            go_wp2
            go_round
            case rel => exact ⟨k + 1, by omega, by rw [D.out], by go_num⟩
            case measure => simp [intOf]; omega
          · have D := hide (show posTo xs (k + 1) = posTo xs k by rw [HP.out, if_neg hy])
            clear HP
            go_wp2
            go_round
            case rel => exact ⟨k + 1, by omega, by rw [D.out], by go_num⟩
            case measure => simp [intOf]; omega
        · obtain rfl : k = sn := by omega
          have hT := HT.out
          generalize posTo xs k = t at hT ⊢
          subst hT
          go_wp2
          go_ret
          exact ⟨ret_bool (by simp), HB.out⟩


set_option maxHeartbeats 4000000 in
theorem walk_FnSeenParts (a0 : Option Addr) (len cap : Nat) (zs : List Int) (w : World) (h0 : Ints .u8 w w.heap.size a0 len zs) (hc : len ≤ cap) :
    Calls Try.prog 14 #[.slice a0 len cap] w fun e w' => e = .returned (.bool true) ∧ Below w.heap.size w w' := by
  by_cases hl : len ≤ 1048576
  case neg =>
    go_enter Try.func14, Try.ntmps14
    go_wp2
    go_ret
    exact ⟨rfl, Below.refl _ _⟩
  case pos =>
    go_enter Try.func14, Try.ntmps14
    go_wp2_with fail
    refine (drawSeen_any a0 len cap zs _ h0 hc).mono ?_
    rintro e W0 ⟨sA, sn, sc, xs, v, a, hsn, hv, ha, rfl, hs1, hs2, s_0, hB0⟩
    clear h0
    have hzz := hB0.size
    have hxl := s_0.1
    have hlen := hide (seenS_len xs v a)
    have he1 := listEq_self (seenS xs v a)
    go_wp2_with fail
    refine (implSeen_any _ sA sn sc xs v a _ s_0.ints (Nat.le_refl _) (by omega)).mono ?_
    rintro e W1 ⟨rA, rn, rc, rfl, rnc, rcm, r_0, hb⟩
    have hz1 := hb.size
    have s_1 := s_0.belowS hb
    clear s_0
    have hB1 := hB0.trans (hb.mono (by omega))
    clear hB0
    clear hb
    have rl : rn ≤ 8 := by have := r_0.1; have := hlen.out; omega
    go_wp2_with fail
    refine (specSeen_any _ sA sn sc xs v a _ s_1.ints (by omega) (by omega)).mono ?_
    rintro e W2 ⟨qA, qn, qc, rfl, qnc, qcm, q_0, hb⟩
    have hz2 := hb.size
    have s_2 := s_1.belowS hb
    clear s_1
    have r_2 := r_0.belowS hb
    clear r_0
    have hB2 := hB1.trans (hb.mono (by omega))
    clear hB1
    clear hb
    have ql : qn ≤ 8 := by have := q_0.1; have := hlen.out; omega
    go_wp2_with fail
    refine (equalInts_any _ _ rA qA rn qn rc qc _ _ _ r_2.ints q_0.ints (by omega) (by omega)).mono ?_
    rintro e W3 ⟨rfl, hb⟩
    have hz3 := hb.size
    have s_3 := s_2.belowS hb
    clear s_2
    have r_3 := r_2.belowS hb
    clear r_2
    have q_3 := q_0.belowS hb
    clear q_0
    have hB3 := hB2.trans (hb.mono (by omega))
    clear hB2
    clear hb
    clear q_3
    by_cases hrn : rn = 0
    · subst hrn
      go_wp2_with fail
      refine (specSeen_any _ sA sn sc xs v a _ s_3.ints (by omega) (by omega)).mono ?_
      rintro e W4 ⟨q2A, q2n, q2c, rfl, q2nc, q2cm, q2_0, hb⟩
      have hz4 := hb.size
      have s_4 := s_3.belowS hb
      clear s_3
      have r_4 := r_3.belowS hb
      clear r_3
      have hB4 := hB3.trans (hb.mono (by omega))
      clear hB3
      clear hb
      have q2l : q2n ≤ 8 := by have := q2_0.1; have := hlen.out; omega
      go_wp2_with fail
      refine (equalInts_any _ _ rA q2A 0 q2n rc q2c _ _ _ r_4.ints q2_0.ints (by omega) (by omega)).mono ?_
      rintro e W5 ⟨rfl, hb⟩
      have hz5 := hb.size
      have s_5 := s_4.belowS hb
      clear s_4
      have r_5 := r_4.belowS hb
      clear r_4
      have q2_5 := q2_0.belowS hb
      clear q2_0
      have hB5 := hB4.trans (hb.mono (by omega))
      clear hB4
      clear hb
      have HB := hide hB5
      clear s_5
      clear r_5
      clear q2_5
      clear hB5
      go_wp2
      go_ret
      exact ⟨rfl, HB.out⟩
    · have hb0 : ((rn : Int) == 0) = false := by simpa using hrn
      obtain ⟨hok, hsS⟩ := seenS_some (xs := xs) (v := v) (a := a) (by have := r_3.1; omega)
      obtain ⟨hk1, hall, hk3, hk4⟩ := seenOk_iff.1 hok
      have HS := hide hsS
      have HA := hide hall
      clear hsS hall hok
      have hsum := hide (seen_sum HA.out hk1)
      have hel := hide (fun (k : Nat) (hk : k < xs.length) => inAll_iff.1 HA.out _ (getD_mem hk))
      have HB := hide hB3
      clear hB3
      have HI := hide s_3.ints
      have HR := hide r_3.ints
      clear s_3
      clear r_3
      go_wp2_with fail
      go_loop [7, 8, 9] (fun s7 s8 _ => ∃ k : Nat, k ≤ sn ∧ s7 = .int .i64 (sumI (xs.take k)) ∧ s8 = .int .i64 k) (fun _ s8 _ => sn - (intOf s8).toNat)
      case atStart => exact ⟨0, Nat.zero_le _, rfl, rfl⟩
      case round =>
        obtain ⟨k, hk, rfl, rfl⟩ := hrel
        by_cases hlt : k < sn
        · obtain ⟨b, off, rfl, _, hcell⟩ := HI.out.2.2 (by omega)
          have h1 := hcell k hlt
          obtain ⟨s0, s1⟩ := hsum.out k
          obtain ⟨y0, y1⟩ := hel.out k (by omega)
          have HN := hide (sumI_take_succ (xs := xs) (k := k) (by omega))
          have HC := hide (show hasI (seenS xs v a) (k : Int) = decide (seenC (sumI (xs.take k)) (xs.getD k 0) v a) by rw [HS.out]; exact hasI_seenTo (by omega))
          clear hcell
          generalize xs.getD k 0 = y at h1 HN HC y0 y1
          obtain ⟨t, ht⟩ : ∃ t, sumI (xs.take k) = t := ⟨_, rfl⟩
          rw [ht] at s0 s1
          have HNt := hide (show sumI (xs.take (k + 1)) = t + y by rw [HN.out, ht])
          by_cases hcc : seenC t y v a
          · have hin : hasI (seenS xs v a) (k : Int) = true := by rw [HC.out, ht]; exact decide_eq_true hcc
            obtain ⟨c1, c2, c3, c4⟩ := hcc
            clear HN HC
            go_wp2_with (go_at_call 31; refine (lawsIsIn_any _ _ _ _ _ _ _ HR.out (by omega)).mono ?_; rintro e w' ⟨rfl, rfl⟩)
            go_round
            case rel => exact ⟨k + 1, by omega, by rw [HNt.out], by go_num⟩
            case measure => simp [intOf]; omega
          · have hin : hasI (seenS xs v a) (k : Int) = false := by rw [HC.out, ht]; exact decide_eq_false hcc
            have hc' : y ≤ 0 ∨ v ≤ 0 ∨ a + v ≤ t ∨ t + y ≤ a := by unfold seenC at hcc; omega
            clear HN HC hcc
            by_cases g1 : 0 < y <;> by_cases g2 : 0 < v <;> by_cases g3 : t < a + v <;> by_cases g4 : a < t + y
            all_goals first
              | (exfalso; omega)
              | (go_wp2_with (go_at_call 31; refine (lawsIsIn_any _ _ _ _ _ _ _ HR.out (by omega)).mono ?_; rintro e w' ⟨rfl, rfl⟩)
                 go_round
                 case rel => exact ⟨k + 1, by omega, by rw [HNt.out], by go_num⟩
                 case measure => simp [intOf]; omega)
        · obtain rfl : k = sn := by omega
          go_wp2
          go_ret
          exact ⟨rfl, HB.out⟩


set_option maxHeartbeats 4000000 in
theorem walk_FnSeenPartsWide (a0 : Option Addr) (len cap : Nat) (zs : List Int) (w : World) (h0 : Ints .u8 w w.heap.size a0 len zs) (hc : len ≤ cap) :
    Calls Try.prog 15 #[.slice a0 len cap] w fun e w' => e = .returned (.bool true) ∧ Below w.heap.size w w' := by
  by_cases hl : len ≤ 1048576
  case neg =>
    go_enter Try.func15, Try.ntmps15
    go_wp2
    go_ret
    exact ⟨rfl, Below.refl _ _⟩
  case pos =>
    go_enter Try.func15, Try.ntmps15
    go_wp2_with fail
    refine (drawSeen_any a0 len cap zs _ h0 hc).mono ?_
    rintro e W0 ⟨sA, sn, sc, xs, v, a, hsn, hv, ha, rfl, hs1, hs2, s_0, hB0⟩
    clear h0
    have hzz := hB0.size
    have hxl := s_0.1
    have hlen := hide (seenS_len xs v a)
    have he1 := listEq_self (seenS xs v a)
    go_wp2_with fail
    refine (implSeen_any _ sA sn sc xs v a _ s_0.ints (Nat.le_refl _) (by omega)).mono ?_
    rintro e W1 ⟨rA, rn, rc, rfl, rnc, rcm, r_0, hb⟩
    have hz1 := hb.size
    have s_1 := s_0.belowS hb
    clear s_0
    have hB1 := hB0.trans (hb.mono (by omega))
    clear hB0
    clear hb
    have rl : rn ≤ 8 := by have := r_0.1; have := hlen.out; omega
    go_wp2_with fail
    refine (specSeen_any _ sA sn sc xs v a _ s_1.ints (by omega) (by omega)).mono ?_
    rintro e W2 ⟨qA, qn, qc, rfl, qnc, qcm, q_0, hb⟩
    have hz2 := hb.size
    have s_2 := s_1.belowS hb
    clear s_1
    have r_2 := r_0.belowS hb
    clear r_0
    have hB2 := hB1.trans (hb.mono (by omega))
    clear hB1
    clear hb
    have ql : qn ≤ 8 := by have := q_0.1; have := hlen.out; omega
    go_wp2_with fail
    refine (equalInts_any _ _ rA qA rn qn rc qc _ _ _ r_2.ints q_0.ints (by omega) (by omega)).mono ?_
    rintro e W3 ⟨rfl, hb⟩
    have hz3 := hb.size
    have s_3 := s_2.belowS hb
    clear s_2
    have r_3 := r_2.belowS hb
    clear r_2
    have q_3 := q_0.belowS hb
    clear q_0
    have hB3 := hB2.trans (hb.mono (by omega))
    clear hB2
    clear hb
    clear q_3
    by_cases hrn : rn = 0
    · subst hrn
      go_wp2_with fail
      refine (specSeen_any _ sA sn sc xs v a _ s_3.ints (by omega) (by omega)).mono ?_
      rintro e W4 ⟨q2A, q2n, q2c, rfl, q2nc, q2cm, q2_0, hb⟩
      have hz4 := hb.size
      have s_4 := s_3.belowS hb
      clear s_3
      have r_4 := r_3.belowS hb
      clear r_3
      have hB4 := hB3.trans (hb.mono (by omega))
      clear hB3
      clear hb
      have q2l : q2n ≤ 8 := by have := q2_0.1; have := hlen.out; omega
      go_wp2_with fail
      refine (equalInts_any _ _ rA q2A 0 q2n rc q2c _ _ _ r_4.ints q2_0.ints (by omega) (by omega)).mono ?_
      rintro e W5 ⟨rfl, hb⟩
      have hz5 := hb.size
      have s_5 := s_4.belowS hb
      clear s_4
      have r_5 := r_4.belowS hb
      clear r_4
      have q2_5 := q2_0.belowS hb
      clear q2_0
      have hB5 := hB4.trans (hb.mono (by omega))
      clear hB4
      clear hb
      have HB := hide hB5
      clear s_5
      clear r_5
      clear q2_5
      clear hB5
      go_wp2
      go_ret
      exact ⟨rfl, HB.out⟩
    · have hb0 : ((rn : Int) == 0) = false := by simpa using hrn
      obtain ⟨hok, hsS⟩ := seenS_some (xs := xs) (v := v) (a := a) (by have := r_3.1; omega)
      obtain ⟨hk1, hall, hk3, hk4⟩ := seenOk_iff.1 hok
      have HS := hide hsS
      have HA := hide hall
      clear hsS hall hok
      by_cases hw50 : v + 50 ≤ 200000
      · go_wp2_with fail
        refine (implSeen_any _ sA sn sc xs (v + 50) a _ s_3.ints (by omega) (by omega)).mono ?_
        rintro e W4 ⟨mA, mn, mc, rfl, mnc, mcm, m_0, hb⟩
        have hz4 := hb.size
        have s_4 := s_3.belowS hb
        clear s_3
        have r_4 := r_3.belowS hb
        clear r_3
        have hB4 := hB3.trans (hb.mono (by omega))
        clear hB3
        clear hb
        have ml : mn ≤ 8 := by have := m_0.1; have := seenS_len xs (v + 50) a; omega
        have HW := hide (show ∀ x ∈ seenS xs v a, hasI (seenS xs (v + 50) a) x = true from fun x hx => by rw [HS.out] at hx; rw [hasI_iff, show seenS xs (v + 50) a = seenTo (v + 50) a xs xs.length from if_pos (seenOk_iff.2 ⟨hk1, HA.out, by omega, hk4⟩)]; exact seenTo_wide hx)
        have HAsc := hide (show Asc (seenS xs v a) by rw [HS.out]; exact seenTo_asc v a xs _)
        have HRl := hide r_4.1
        clear s_4
        have HB := hide hB4
        clear hB4
        have HM := hide m_0.ints
        have HR := hide r_4.ints
        clear m_0
        clear r_4
        go_wp2_with fail
        go_loopw [8] (fun s8 wr => ∃ k : Nat, k ≤ rn ∧ s8 = .int .i64 k ∧ Hid (∃ q : Nat, wr = W4.drewN q)) (fun s8 _ => rn - (intOf s8).toNat)
        case atStart => exact ⟨0, Nat.zero_le _, rfl, hide ⟨0, rfl⟩⟩
        case round =>
          obtain ⟨k, hk, rfl, A⟩ := hrel
          have HMr : Ints .i64 wr _ mA mn _ := HM.out.keep fun b o _ => by obtain ⟨q, rfl⟩ := A.out; rfl
          have HRr : Ints .i64 wr _ rA rn _ := HR.out.keep fun b o _ => by obtain ⟨q, rfl⟩ := A.out; rfl
          have HBr := hide (show Below w.heap.size w wr by obtain ⟨q, rfl⟩ := A.out; exact below_drewN HB.out q)
          have HD := hide (fun n : Nat => (show ∃ q : Nat, wr.drewN n = W4.drewN q by obtain ⟨q, rfl⟩ := A.out; exact ⟨q + n, by simp [World.drewN_drewN]⟩))
          by_cases hlt : k < rn
          · obtain ⟨b, off, rfl, _, hcell⟩ := HRr.2.2 (by omega)
            have h1 := hcell k hlt
            have HIN := HW.out _ (getD_mem (xs := seenS xs v a) (k := k) (by have := HRl.out; omega))
            have hk1' : (k : Int) < (rn : Int) := by omega
            by_cases hk0 : k = 0
            · subst hk0
              rw [Nat.add_zero] at h1
              have hk1' : (0 : Int) < (rn : Int) := by omega
              clear hcell
              generalize (seenS xs v a).getD 0 0 = y at h1 HIN
              go_wp2
              go_quiet ((go_at_call 31; exact quiet_any (lawsIsIn_any _ _ _ _ _ _ _ (HMr.keep fun _ _ _ => rfl) (by omega))))
              have D := hide (HD.out nq)
              go_wp2
              go_roundw
              case rel => exact ⟨1, by omega, rfl, D⟩
              case measure => simp [intOf]; omega
            · have hd : decide ((0 : Int) < (k : Int)) = true := by simp; omega
              have hd' : decide (0 < k) = true := by simp; omega
              have hd2 : 0 < k := by omega
              obtain ⟨j, hj⟩ : ∃ j : Nat, k = j + 1 := ⟨k - 1, by omega⟩
              have h2 := hcell j (by omega)
              have hasc := HAsc.out j (by have := HRl.out; omega)
              rw [← hj] at hasc
              have hj0 : (j : Int) < (rn : Int) := by omega
              have a1 : IntKind.i64.wrap ((k : Int) - 1) = (j : Int) := by rw [IntWalk.i64_in _ (by omega)]; omega
              clear hcell hj
              generalize (seenS xs v a).getD k 0 = y at h1 HIN hasc
              generalize (seenS xs v a).getD j 0 = z at h2 hasc
              have hle : decide (y ≤ z) = false := by simp; omega
              go_wp2
              go_quiet ((go_at_call 31; exact quiet_any (lawsIsIn_any _ _ _ _ _ _ _ (HMr.keep fun _ _ _ => rfl) (by omega))))
              have D := hide (HD.out nq)
              clear a1
              go_wp2
              go_roundw
              case rel => exact ⟨k + 1, by omega, by go_num, D⟩
              case measure => simp [intOf]; omega
          · obtain rfl : k = rn := by omega
            clear HMr HRr HD
            go_wp2
            go_ret
            exact ⟨rfl, HBr.out⟩
      · go_wp2_with fail
        refine (specSeen_any _ sA sn sc xs v a _ s_3.ints (by omega) (by omega)).mono ?_
        rintro e W4 ⟨q2A, q2n, q2c, rfl, q2nc, q2cm, q2_0, hb⟩
        have hz4 := hb.size
        have s_4 := s_3.belowS hb
        clear s_3
        have r_4 := r_3.belowS hb
        clear r_3
        have hB4 := hB3.trans (hb.mono (by omega))
        clear hB3
        clear hb
        have q2l : q2n ≤ 8 := by have := q2_0.1; have := hlen.out; omega
        go_wp2_with fail
        refine (equalInts_any _ _ rA q2A rn q2n rc q2c _ _ _ r_4.ints q2_0.ints (by omega) (by omega)).mono ?_
        rintro e W5 ⟨rfl, hb⟩
        have hz5 := hb.size
        have s_5 := s_4.belowS hb
        clear s_4
        have r_5 := r_4.belowS hb
        clear r_4
        have q2_5 := q2_0.belowS hb
        clear q2_0
        have hB5 := hB4.trans (hb.mono (by omega))
        clear hB4
        clear hb
        have HB := hide hB5
        clear s_5
        clear r_5
        clear q2_5
        clear hB5
        go_wp2
        go_ret
        exact ⟨rfl, HB.out⟩

end Go.Proofs.Yteomjfdoagklkaa
