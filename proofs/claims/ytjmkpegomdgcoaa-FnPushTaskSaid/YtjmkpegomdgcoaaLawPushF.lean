/- The law FnPushTask. Conditions: none. -/
import Derived.Test.YtjmkpegomdgcoaaDrawP
import Derived.BigQuiet
namespace Go.Proofs.Ytjmkpegomdgcoaa
open Go.RowKit
set_option linter.unusedVariables false
set_option linter.unusedSimpArgs false
theorem pushL_new (id rank : Int) (ts : List Tk) : ∃ u, u ∈ pushL id rank ts ∧ u.id = id ∧ u.rank ≤ rank := by
  induction ts with
  | nil => exact ⟨⟨id, rank, 0⟩, by simp [pushL], rfl, Int.le_refl _⟩
  | cons t r ih =>
    unfold pushL
    split
    · obtain ⟨u, h1, h2⟩ := ih
      exact ⟨u, List.mem_cons_of_mem _ h1, h2⟩
    · split
      · exact ⟨_, List.mem_cons_self, rfl, by show min t.rank rank ≤ rank; omega⟩
      · exact ⟨_, List.mem_cons_self, rfl, Int.le_refl _⟩
theorem push_spot {ts us : List Tk} {id rank : Int} {m : Nat} (h : pushOk ts id rank = true) (hu : pushS ts id rank = us) (hm : us.length = m) :
    ∃ j0, j0 < m ∧ (tk us j0).id = id ∧ (tk us j0).rank ≤ rank ∧ ∀ i, i < m → i ≠ j0 → (tk us i).id ≠ id := by
  subst hm
  have ha : Asc us := (validT_iff.1 (by rw [← hu]; exact pushS_valid h)).2.1
  have hu' : us = pushL id rank ts := by rw [← hu, pushS, if_pos h]
  obtain ⟨u, h1, h2, h3⟩ := pushL_new id rank ts
  rw [← hu'] at h1
  obtain ⟨j0, hj, rfl⟩ := mem_tk h1
  refine ⟨j0, hj, h2, h3, fun i hi hne e => ?_⟩
  rcases Nat.lt_or_gt_of_ne hne with hlt | hlt
  · have := asc_at ha hlt hj; omega
  · have := asc_at ha hlt hi; omega
theorem push_holds {ts us : List Tk} {id rank : Int} {m n : Nat} (h : pushOk ts id rank = true) (hu : pushS ts id rank = us) (hm : us.length = m) (hn : ts.length = n) (i : Nat) (hi : i < n) :
    (tk ts i).id = id ∨ ∃ j, j < m ∧ tk us j = tk ts i := by
  subst hm hn
  by_cases he : (tk ts i).id = id
  · exact .inl he
  · have hu' : us = pushL id rank ts := by rw [← hu, pushS, if_pos h]
    have h1 := pushL_has (rank := rank) (tk_mem hi) he
    rw [← hu'] at h1
    obtain ⟨j, hj, e⟩ := mem_tk h1
    exact .inr ⟨j, hj, e⟩
set_option maxRecDepth 100000 in
set_option maxHeartbeats 4000000 in
theorem walk_FnPushTask (a0 : Option Addr) (len cap : Nat) (zs : List Int) (w : World) (h0 : Ints .u8 w w.heap.size a0 len zs) (hc : len ≤ cap) :
    Calls Try.prog 6 #[.slice a0 len cap] w fun e w' => e = .returned (.bool true) ∧ Below w.heap.size w w' := by
  by_cases hl : len ≤ 1048576
  case neg =>
    go_enter Try.func6, Try.ntmps6
    go_wp2
    go_ret
    exact ⟨rfl, Below.refl _ _⟩
  case pos =>
    go_enter Try.func6, Try.ntmps6
    go_wp2_with fail
    refine (drawPush_any a0 len cap zs _ h0 hc).mono ?_
    rintro e W0 ⟨A, n, c, ts, id, rank, rfl, hn9, hnc, hcm, hrow, hb0⟩
    clear h0
    have L_0 := hide hrow.ints
    have B_0 := hide hb0
    have hz0 := hb0.size
    clear hrow hb0
    go_wp2_with fail
    refine (implPush_any W0.heap.size A _ c ts (id) (rank) _ L_0.out (by omega) (by omega)).mono ?_
    rintro e W1 ⟨A1, m, c1, rfl, m1, m2, m3, rm, hb⟩
    obtain ⟨us, hus⟩ : ∃ us, pushS ts id rank = us := ⟨_, rfl⟩
    rw [hus] at rm
    have HUS := hide hus
    clear hus
    have P_1 := hide rm.ints
    have HM := hide rm.1
    clear rm
    obtain ⟨ok, hok⟩ : ∃ ok, pushOk ts id rank = ok := ⟨_, rfl⟩
    rw [hok]
    have HOK := hide hok
    clear hok
    have hz1 := hb.size
    have L_1 := hide (L_0.out.below hb (by omega))
    have B_1 := hide (B_0.out.trans (hb.mono (by omega)))
    clear hb L_0 B_0
    go_wp2_with fail
    refine (specPush_any W0.heap.size A _ c ts id rank _ L_1.out (by omega) (by omega)).mono ?_
    rintro e W2 ⟨A2, m2, c2, rfl, hS, hb⟩
    rw [HUS.out] at hS
    obtain ⟨_, _, eS, s1, s2, rS⟩ := hS.form
    injection eS with eA _ eC
    subst eA eC
    obtain rfl : m = m2 := by have h1 := rS.1; have h2 := HM.out; omega
    have S_2 := hide rS.ints
    clear rS hS
    rw [HOK.out]
    have hz2 := hb.size
    have L_2 := hide (L_1.out.below hb (by omega))
    have B_2 := hide (B_1.out.trans (hb.mono (by omega)))
    have P_2 := hide (P_1.out.below hb (by omega))
    clear hb L_1 B_1 P_1
    go_wp2_with fail
    refine (equalTasks_self W1.heap.size W2.heap.size A1 A2 m c1 c2 (flat us) _ P_2.out S_2.out (by omega) (by omega) (by omega)).mono ?_
    rintro e W3 ⟨rfl, hb⟩
    have hz3 := hb.size
    have L_3 := hide (L_2.out.below hb (by omega))
    have B_3 := hide (B_2.out.trans (hb.mono (by omega)))
    have P_3 := hide (P_2.out.below hb (by omega))
    have S_3 := hide (S_2.out.below hb (by omega))
    clear hb L_2 B_2 P_2 S_2
    cases ok
    case false =>
      go_wp2_with fail
      refine (equalTasks_self W1.heap.size W2.heap.size A1 A2 m c1 c2 (flat us) _ P_3.out S_3.out (by omega) (by omega) (by omega)).mono ?_
      rintro e W4 ⟨rfl, hb⟩
      have hz4 := hb.size
      have L_4 := hide (L_3.out.below hb (by omega))
      have B_4 := hide (B_3.out.trans (hb.mono (by omega)))
      have P_4 := hide (P_3.out.below hb (by omega))
      have S_4 := hide (S_3.out.below hb (by omega))
      clear hb L_3 B_3 P_3 S_3
      go_wp2
      go_ret
      exact ⟨rfl, B_4.out⟩
    case true =>
      have HML := hide (show us.length = m by have h1 := HM.out; rw [flat_len] at h1; omega)
      have hnl : (flat ts).length = n * 3 := L_3.out.1
      have HNL := hide (show ts.length = n by rw [flat_len] at hnl; omega)
      obtain ⟨j0, hj0, HJ1, HJ2, HJ3⟩ : ∃ j0, j0 < m ∧ Hid ((tk us j0).id = id) ∧ Hid ((tk us j0).rank ≤ rank) ∧ Hid (∀ i, i < m → i ≠ j0 → (tk us i).id ≠ id) := by
        obtain ⟨j0, a1, a2, a3, a4⟩ := push_spot HOK.out HUS.out HML.out
        exact ⟨j0, a1, hide a2, hide a3, hide a4⟩
      have HALL := hide (push_holds HOK.out HUS.out HML.out HNL.out)
      have HVU := hide (show validT us = true by rw [← HUS.out]; exact pushS_valid HOK.out)
      have hmn : m ≤ n + 1 := by
        have h1 := (pushL_len id rank ts).2
        have h2 : us = pushL id rank ts := by rw [← HUS.out, pushS, if_pos HOK.out]
        rw [← h2, HML.out, HNL.out] at h1
        exact h1
      have HP := hide (fun W (h : Below W3.heap.size W3 W) => P_3.out.below h (by omega))
      have HL := hide (fun W (h : Below W3.heap.size W3 W) => L_3.out.below h (by omega))
      have HBW := hide (fun W (h : Below W3.heap.size W3 W) => B_3.out.trans (h.mono (by omega)))
      have HB0 := hide (Below.refl W3.heap.size W3)
      clear P_3 L_3 B_3 S_3 HM HUS HOK hnl
      go_wp2
      go_loopw [10, 11] (fun s10 s11 wr => ∃ (k : Nat) (z : Int) (W9 : World), k ≤ m ∧ s10 = .int .i64 z ∧ s11 = .int .i64 k ∧ W9 = wr ∧ Hid (z = if j0 < k then 1 else 0) ∧ Hid (Below W3.heap.size W3 W9)) (fun _ s11 _ => m - (intOf s11).toNat)
      case atStart => exact ⟨0, 0, _, Nat.zero_le _, rfl, rfl, rfl, hide (by rw [if_neg (by omega)]), HB0⟩
      case round =>
        obtain ⟨k, z, W9, hk, rfl, rfl, rfl, HZ, BA⟩ := hrel
        by_cases hlt : k < m
        · have HPW := hide (HP.out _ BA.out)
          obtain ⟨b, bo, rfl, bB, bcell⟩ := HPW.out.2.2 (by omega)
          have hc0 := bcell (k * 3) (by omega)
          have hc1 := bcell (k * 3 + 1) (by omega)
          have hc2 := bcell (k * 3 + 2) (by omega)
          obtain ⟨hcq0, hcq1, hcq2⟩ := flat_at us k
          rw [hcq0] at hc0
          rw [hcq1] at hc1
          rw [hcq2] at hc2
          rw [← Nat.add_assoc] at hc1 hc2
          clear hcq0 hcq1 hcq2 bcell
          clear HPW
          by_cases hkj : k = j0
          · subst hkj
            obtain rfl : z = 0 := by rw [HZ.out]; simp
            rw [HJ1.out] at hc0
            have hrk : ¬ rank < (tk us k).rank := by have := HJ2.out; omega
            generalize (tk us k).rank = y at hc1 hrk
            have D := hide (show (1 : Int) = if k < k + 1 then 1 else 0 by rw [if_pos (by omega)])
            clear hc2 HZ
            go_wp2
            go_roundw
            case rel => exact ⟨k + 1, 1, _, by omega, by go_num, by go_num, rfl, D, BA⟩
            case measure => simp [intOf]; omega
          · have hx : ((tk us k).id == id) = false := by simpa using HJ3.out k hlt hkj
            generalize (tk us k).id = x at hc0 hx
            have D := hide (show z = if j0 < k + 1 then 1 else 0 by rw [HZ.out]; split <;> split <;> omega)
            clear hc1 hc2 HZ hkj
            go_wp2
            go_roundw
            case rel => exact ⟨k + 1, z, _, by omega, rfl, by go_num, rfl, D, BA⟩
            case measure => simp [intOf]; omega
        · obtain rfl : k = m := by omega
          obtain rfl : z = 1 := by rw [HZ.out, if_pos hj0]
          have HVC := hide (fun W (h : Below W3.heap.size W3 W) => (by have h1 := implValid_any W1.heap.size A1 k c1 us W (HP.out W h) (by have := h.size; omega) (by omega); rw [HVU.out] at h1; exact h1 : Calls Try.prog 12 #[.slice A1 k c1] W fun e w' => e = .returned (.bool true) ∧ Below W.heap.size W w'))
          clear HZ HB0 hlt HVU HJ1 HJ2 HJ3 hj0 HML HNL
          go_wp2
          go_loopw [12, 13, 14] (fun s12 _ _ wr => ∃ (i : Nat) (W8 : World), i ≤ n ∧ s12 = .int .i64 i ∧ W8 = wr ∧ Hid (Below W3.heap.size W3 W8)) (fun s12 _ _ _ => n - (intOf s12).toNat)
          case atStart => exact ⟨0, _, Nat.zero_le _, rfl, rfl, BA⟩
          case round =>
            obtain ⟨i, W8, hi, rfl, rfl, B8⟩ := hrel
            clear BA
            by_cases hin : i < n
            · have HLW := hide (HL.out _ B8.out)
              obtain ⟨q, qo, rfl, qB, bcell⟩ := HLW.out.2.2 (by omega)
              have hi0 := bcell (i * 3) (by omega)
              rw [(flat_at ts i).1] at hi0
              have HA := hide (HALL.out i hin)
              have hs0 : (((tk ts i).id = id ∨ ∃ q, q < 0 ∧ tk us q = tk ts i) → ((tk ts i).id == id) = true) := by
                intro h
                rcases h with h | ⟨q, h, _⟩
                · simpa using h
                · omega
              have HS := hide hs0
              clear hs0
              clear bcell HLW
              go_wp2
              generalize ((tk ts i).id == id) = b0 at HS ⊢
              clear hi0
              go_loopw [13, 14] (fun s13 s14 wr => ∃ (j : Nat) (b1 : Bool) (W7 : World), j ≤ k ∧ s13 = .bool b1 ∧ s14 = .int .i64 j ∧ W7 = wr ∧ Hid (((tk ts i).id = id ∨ ∃ q, q < j ∧ tk us q = tk ts i) → b1 = true) ∧ Hid (Below W3.heap.size W3 W7)) (fun _ s14 _ => k - (intOf s14).toNat)
              case atStart => exact ⟨0, b0, _, Nat.zero_le _, rfl, rfl, rfl, HS, B8⟩
              case round =>
                obtain ⟨j, b1, W7, hj, rfl, rfl, rfl, HF, B7⟩ := hrel
                clear B8 HS
                by_cases hjk : j < k
                · have HPW := hide (HP.out _ B7.out)
                  have HLW := hide (HL.out _ B7.out)
                  have hjm : (j : Int) < (k : Int) := by omega
                  cases b1
                  case true =>
                    clear HF HPW HLW
                    go_wp2
                    go_quiet (fail)
                    go_wp2
                    go_roundw
                    case rel => exact ⟨j + 1, true, _, by omega, rfl, by go_num, rfl, hide (fun _ => rfl), hide (below_drewN B7.out _)⟩
                    case measure => simp [intOf]; omega
                  case false =>
                    obtain ⟨b, bo, rfl, bB, bcell⟩ := HPW.out.2.2 (by omega)
                    have hc0 := bcell (j * 3) (by omega)
                    have hc1 := bcell (j * 3 + 1) (by omega)
                    have hc2 := bcell (j * 3 + 2) (by omega)
                    obtain ⟨hcq0, hcq1, hcq2⟩ := flat_at us j
                    rw [hcq0] at hc0
                    rw [hcq1] at hc1
                    rw [hcq2] at hc2
                    rw [← Nat.add_assoc] at hc1 hc2
                    clear hcq0 hcq1 hcq2 bcell
                    obtain ⟨p, po, ep, pB, pcell⟩ := HLW.out.2.2 (by omega)
                    injection ep with ep
                    injection ep with e1 e2
                    subst e1 e2
                    have gc0 := pcell (i * 3) (by omega)
                    have gc1 := pcell (i * 3 + 1) (by omega)
                    have gc2 := pcell (i * 3 + 2) (by omega)
                    obtain ⟨gcq0, gcq1, gcq2⟩ := flat_at ts i
                    rw [gcq0] at gc0
                    rw [gcq1] at gc1
                    rw [gcq2] at gc2
                    rw [← Nat.add_assoc] at gc1 gc2
                    clear gcq0 gcq1 gcq2 pcell
                    clear HPW HLW
                    by_cases he : tk us j = tk ts i
                    · rw [he] at hc0 hc1 hc2
                      generalize (tk ts i).id = x0 at hc0 gc0
                      generalize (tk ts i).rank = x1 at hc1 gc1
                      generalize (tk ts i).age = x2 at hc2 gc2
                      clear HF he
                      go_wp2
                      go_quiet (fail)
                      go_wp2
                      go_roundw
                      case rel => exact ⟨j + 1, true, _, by omega, rfl, by go_num, rfl, hide (fun _ => rfl), hide (below_drewN B7.out _)⟩
                      case measure => simp [intOf]; omega
                    · have D := hide (fun (b : Bool) => (show (((tk ts i).id = id ∨ ∃ q, q < j + 1 ∧ tk us q = tk ts i) → b = true) from fun h => absurd (HF.out (by
                        rcases h with h | ⟨q, hq, e⟩
                        · exact .inl h
                        · by_cases hqj : q = j
                          · subst hqj; exact absurd e he
                          · exact .inr ⟨q, by omega, e⟩)) (by simp)))
                      by_cases f0 : (tk us j).id = (tk ts i).id
                      · by_cases f1 : (tk us j).rank = (tk ts i).rank
                        · have f2 : ((tk us j).age == (tk ts i).age) = false := by
                            have : ¬ (tk us j).age = (tk ts i).age := fun h => he (by cases h1 : tk us j; cases h2 : tk ts i; simp_all)
                            simpa using this
                          rw [f0] at hc0
                          rw [f1] at hc1
                          generalize (tk ts i).id = x0 at hc0 gc0 D
                          generalize (tk ts i).rank = x1 at hc1 gc1
                          generalize (tk us j).age = y2 at hc2 f2
                          generalize (tk ts i).age = x2 at gc2 f2
                          clear f0 f1
                          clear HF he
                          go_wp2
                          go_quiet (fail)
                          go_wp2
                          go_roundw
                          case rel => exact ⟨j + 1, _, _, by omega, rfl, by go_num, rfl, hide (D.out _), hide (below_drewN B7.out _)⟩
                          case measure => simp [intOf]; omega
                        · have f1' : ((tk us j).rank == (tk ts i).rank) = false := by simpa using f1
                          rw [f0] at hc0
                          generalize (tk ts i).id = x0 at hc0 gc0 D
                          clear f0 f1
                          generalize (tk us j).rank = y1 at hc1 f1'
                          generalize (tk ts i).rank = x1 at gc1 f1'
                          generalize (tk us j).age = y2 at hc2
                          generalize (tk ts i).age = x2 at gc2
                          clear HF he
                          go_wp2
                          go_quiet (fail)
                          go_wp2
                          go_roundw
                          case rel => exact ⟨j + 1, _, _, by omega, rfl, by go_num, rfl, hide (D.out _), hide (below_drewN B7.out _)⟩
                          case measure => simp [intOf]; omega
                      · have f0' : ((tk us j).id == (tk ts i).id) = false := by simpa using f0
                        clear f0
                        generalize (tk us j).id = y0 at hc0 f0'
                        generalize (tk ts i).id = x0 at gc0 f0' D
                        generalize (tk us j).rank = y1 at hc1
                        generalize (tk ts i).rank = x1 at gc1
                        generalize (tk us j).age = y2 at hc2
                        generalize (tk ts i).age = x2 at gc2
                        clear HF he
                        go_wp2
                        go_quiet (fail)
                        go_wp2
                        go_roundw
                        case rel => exact ⟨j + 1, _, _, by omega, rfl, by go_num, rfl, hide (D.out _), hide (below_drewN B7.out _)⟩
                        case measure => simp [intOf]; omega
                · obtain rfl : j = k := by omega
                  obtain rfl : b1 = true := HF.out HA.out
                  clear HF HA
                  go_wp2
                  go_roundw
                  case rel => exact ⟨i + 1, _, by omega, by go_num, rfl, B7⟩
                  case measure => simp [intOf]; omega
            · obtain rfl : i = n := by omega
              have hmi : (k : Int) ≤ (i : Int) + 1 := by omega
              have hbz := B8.out.size
              go_wp2_with (go_at_call 12; refine (HVC.out _ B8.out).mono ?_; rintro e w9 ⟨rfl, hb⟩; have D := hide (HBW.out _ (B8.out.trans (hb.mono hbz))); clear hb)
              go_ret
              exact ⟨rfl, D.out⟩
end Go.Proofs.Ytjmkpegomdgcoaa
