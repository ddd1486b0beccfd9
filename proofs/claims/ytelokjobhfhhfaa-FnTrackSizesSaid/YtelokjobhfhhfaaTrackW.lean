/- The sizes of tracks, the program's and the reference's. Conditions: none. -/
import Derived.Test.YtelokjobhfhhfaaTrackT
namespace Go.Proofs.Ytelokjobhfhhfaa
open Go.RowKit
set_option linter.unusedVariables false
set_option linter.unusedSimpArgs false
set_option maxHeartbeats 4000000 in
theorem implTracks_any (B : Nat) (a : Option Addr) (n c : Nat) (zs : List Int) (space gap : Int) (w : World) (hA : Ints .i64 w B a (n * 2) zs) (hB : B ≤ w.heap.size) (hv : validTr zs n = true) (hs : 0 ≤ space ∧ space ≤ 200000) (hg : 0 ≤ gap ∧ gap ≤ 50) :
    Calls Try.prog 34 #[.slice a n c, .int .i64 space, .int .i64 gap] w (Made (trackL zs n space gap) w) := by
  obtain ⟨i0, hi, hz0, hz1, hz2⟩ := info_parts int_info
  obtain ⟨n1, n8⟩ := (validTr_iff.1 hv).1
  have hmk0 := mk_ints0n n (by omega)
  have HA := hide (fun W (h : Below w.heap.size w W) => hA.below h hB)
  have HV := hide hv
  have T0 := hide (trRel_two w (szF zs) (ptF zs) n (by omega))
  have T1 := hide ((trRel_two w (ptF zs) (szF zs) n (by omega)).swap)
  clear hA hv
  go_enter Try.func34, Try.ntmps34
  go_wp2_with fail
  go_cut [7, 8] (fun s7 s8 wx => ∃ W9 : World, W9 = wx ∧ Hid (TrRel w (szF zs) (ptF zs) 0 0 s7 s8 W9))
  case first =>
    go_region
    all_goals go_wp2_with fail
    · go_meet
      exact ⟨_, rfl, hide (T0.out.keep ((Below.refl _ _).drew))⟩
    · go_meet
      exact ⟨_, rfl, hide (T1.out.keep ((Below.refl _ _).drew))⟩
  case rest =>
    clear T0 T1 hmk0
    obtain ⟨W9, rfl, HT⟩ := hcut
    go_wp2
    go_loopw [7, 8, 22] (fun s7 s8 s22 wr => ∃ (k : Nat) (W9 : World), k ≤ n ∧ s22 = .int .i64 k ∧ W9 = wr ∧ Hid (TrRel w (szF zs) (ptF zs) k k s7 s8 W9)) (fun _ _ s22 _ => n - (intOf s22).toNat)
    case atStart => exact ⟨0, _, Nat.zero_le _, rfl, rfl, HT⟩
    case round =>
      clear HT
      obtain ⟨k, W9, hk, rfl, rfl, HT⟩ := hrel
      obtain ⟨A7, c7, e7, h71, h72, hr7⟩ := HT.out.a.form
      obtain ⟨A8, c8, e8, h81, h82, hr8⟩ := HT.out.b.form
      subst e7 e8
      have hsz := HT.out.below.size
      by_cases hlt : k < n
      · obtain ⟨b, off, rfl, hbB, hcell⟩ := (HA.out _ HT.out.below).2.2 (by omega)
        have hc0 := hcell (k * 2) (by omega)
        have hc1 := hcell (k * 2 + 1) (by omega)
        rw [← Nat.add_assoc] at hc1
        have HT1 := hide (HT.out.keep ((Below.refl _ _).alloc (Nat.le_refl _) (.cells #[.int .i64 (szF zs k), .int .i64 (ptF zs k)] 33)))
        have hbx := hide (show (W9.alloc (.cells #[.int .i64 (szF zs k), .int .i64 (ptF zs k)] 33)).cell? ⟨W9.heap.size, 1, none⟩ = some (.int .i64 (ptF zs k)) by simp [go_sem])
        have hown := hide (fun j (hj : (Value.slice A7 k c7).ownBlock = some j) => HT.out.a.lt j hj)
        clear hcell hr7 hr8 HT
        change _ = some (Value.int .i64 (szF zs k)) at hc0
        change _ = some (Value.int .i64 (ptF zs k)) at hc1
        generalize hx0 : szF zs k = x0 at hc0 hc1 HT1 hbx
        generalize hx1 : ptF zs k = x1 at hc0 hc1 HT1 hbx
        have HX0 := hide hx0
        have HX1 := hide hx1
        clear hx0 hx1
        go_wp2_with (first
          | (at_builtin; refine wpList_push rfl (.tmp 26) (.tmp 29) 29 3 1 8 i0 _ rfl Try.underlying29 hi hz0 hz1 hz2 rfl (by omega) (by omega) (W9.alloc (.cells #[.int .i64 x0, .int .i64 x1] 33)) w.heap.size (.slice A7 k c7) k _ rfl HT1.out.a [x0] 1 1 (by show Value.slice (some ⟨W9.heap.size + 1, 0, none⟩) 1 1 = _; simp) rfl (by omega) (by simp; omega) ?_; intro v1 w1' ho1 hb1' hg1 hv1; have HT2 := hide (HT1.out.pushA (by rw [HX0.out]; exact ho1) hg1 hv1); have hbox := (World.cell?_of_block (hg1.block W9.heap.size (by simp) (fun e => by have := hown.out _ e.symm; omega))).trans hbx.out; have hsz2 := HT2.out.below.size; clear ho1 hb1' hg1 hv1 HT1)
          | (at_builtin; refine wpList_push rfl (.tmp 31) (.tmp 34) 29 3 1 8 i0 _ rfl Try.underlying29 hi hz0 hz1 hz2 rfl (by omega) (by omega) w1' w.heap.size (.slice A8 k c8) k _ rfl HT2.out.b [x1] 1 1 rfl rfl (by omega) hsz2 ?_; intro v2 w2' ho2 hb2' hg2 hv2; have HT3 := hide (HT2.out.pushB (by rw [HX1.out]; exact ho2) hg2 hv2); clear ho2 hb2' hg2 hv2 HT2))
        go_roundw
        case rel => exact ⟨k + 1, _, by omega, by go_num, rfl, HT3⟩
        case measure => simp [intOf]; omega
      · obtain rfl : k = n := by omega
        rw [Nat.mul_one] at hr7 hr8
        have HI7 := hide hr7.ints
        have HI8 := hide hr8.ints
        clear hr7 hr8
        have hT := sz_sum HV.out (Nat.le_refl k)
        have hsm := hide (fl_small (n := k) (f := szF zs) fun i hi' => by have := (track_at HV.out hi').1; omega)
        have hG := gap_bd hg ⟨n1, n8⟩
        have HL := hide (show leftT zs k space gap = max (space - sumI (fl k (szF zs)) - gap * ((k : Int) - 1)) 0 from rfl)
        obtain ⟨T, hTe⟩ : ∃ T, sumI (fl k (szF zs)) = T := ⟨_, rfl⟩
        have htot := hide (total_any W9.heap.size A7 k c7 (fl k (szF zs)) W9 HI7.out (by omega) hsm.out)
        rw [hTe] at hT HL htot
        obtain ⟨P, hPe⟩ : ∃ P, gap * ((k : Int) - 1) = P := ⟨_, rfl⟩
        have e1 : IntKind.i64.wrap ((k : Int) - 1) = (k : Int) - 1 := IntWalk.i64_in _ (by omega)
        have e2 : IntKind.i64.wrap (gap * ((k : Int) - 1)) = P := by rw [hPe]; exact IntWalk.i64_in _ (by omega)
        rw [hPe] at hG HL
        have e3 : IntKind.i64.wrap (space - T) = space - T := IntWalk.i64_in _ (by omega)
        have e4 : IntKind.i64.wrap (space - T - P) = space - T - P := IntWalk.i64_in _ (by omega)
        clear hPe hTe
        go_upto_region 8 with fail
        go_cut [11] (fun s11 wx => s11 = .int .i64 (leftT zs k space gap) ∧ W9 = wx)
        case first =>
          go_wp2_with (go_at_call 40; refine htot.out.mono ?_; rintro e w' ⟨rfl, rfl⟩)
          all_goals go_meet
          all_goals exact ⟨by rw [HL.out]; exact congrArg _ (by omega), rfl⟩
        case rest =>
          obtain ⟨rfl, rfl⟩ := hcut
          clear e1 e2 e3 e4 htot HL
          obtain ⟨g, cap, hv, hgb, hgl, hnc, hcm, hRO⟩ := own_rowF HT.out.a (by omega)
          injection hv with hv1 hv2 hv3
          subst hv1 hv3
          have HSh := hide (implShare_any W9.heap.size A8 k c8 (fl k (ptF zs)) (leftT zs k space gap) W9 HI8.out (Nat.le_refl _) ⟨n1, n8⟩ (pt_ok HV.out) (left_ok HV.out hs hg))
          have HRO := hide hRO
          have HBT := hide HT.out.below
          clear hRO HT HI7 HI8
          go_wp2_with fail
          refine HSh.out.mono ?_
          rintro e W1 ⟨A1, m1, d1, rfl, q1, q2, r1, hb⟩
          obtain rfl : k = m1 := by have h1 := r1.1; rw [shareL_len, fl_len] at h1; exact h1
          obtain ⟨b1, o1, _, rfl, hb1, hb1', _⟩ := r1.2 (by omega)
          have HR := hide ((HRO.out.belowS hb).congr (g := fun i => if i < 0 then trF zs k space gap i else szF zs i) fun i _ => by rw [if_neg (by omega)])
          have HS := hide (r1.mono (show g + 1 ≤ W9.heap.size by omega) (Nat.le_refl _))
          have HB := hide (show Below w.heap.size w W1 ∧ g < W1.heap.size from ⟨HBT.out.trans (hb.mono HBT.out.size), by have := hb.size; omega⟩)
          clear r1 hb HSh HRO HBT
          generalize W1.heap.size = hi1 at hb1' HS
          go_wp2
          go_loopw [52] (fun s52 wr => ∃ (j : Nat) (W8 : World), j ≤ k ∧ s52 = .int .i64 j ∧ W8 = wr ∧ Hid (RowF W8 g k (fun i => if i < j then trF zs k space gap i else szF zs i)) ∧ Hid (Row 3 W8 (g + 1) hi1 (some ⟨b1, o1, none⟩) k (shareL (leftT zs k space gap) (fl k (ptF zs)))) ∧ Hid (Below w.heap.size w W8 ∧ g < W8.heap.size)) (fun s52 _ => k - (intOf s52).toNat)
          case atStart => exact ⟨0, _, Nat.zero_le _, rfl, rfl, HR, HS, HB⟩
          case round =>
            clear HR HS HB
            obtain ⟨j, W8, hj, rfl, rfl, HR, HS, HB⟩ := hrel
            by_cases hlt2 : j < k
            · have cs := (HS.out.cell j hlt2).1
              obtain ⟨ha, hfa⟩ := HR.out.cell hlt2
              rw [if_neg (by omega)] at ha
              obtain ⟨⟨s0, s1⟩, t0, t1⟩ := tr_bd (zs := zs) (space := space) (gap := gap) HV.out hs hg hlt2
              have hz := (track_at HV.out hlt2).1
              have htr := hide (show trF zs k space gap j = szF zs j + (shareL (leftT zs k space gap) (fl k (ptF zs))).getD j 0 from rfl)
              have DR := hide ((HR.out.put hlt2 (trF zs k space gap j)).congr (g := fun i => if i < j + 1 then trF zs k space gap i else szF zs i) fun i _ => by
                by_cases e : i = j
                · rw [if_pos e, if_pos (by omega), e]
                · rw [if_neg e]
                  by_cases h : i < j
                  · rw [if_pos h, if_pos (by omega)]
                  · rw [if_neg h, if_neg (by omega)])
              have DS := hide (HS.out.far ((Only.refl g (g + 1) W8).set (g := g) (o := j) (Nat.le_refl _) (Nat.lt_succ_self _) (.int .i64 (trF zs k space gap j))) (.inr (Nat.le_refl _)))
              have DB := hide (show Below w.heap.size w (W8.setCell ⟨g, j, none⟩ (.int .i64 (trF zs k space gap j))) ∧ g < (W8.setCell ⟨g, j, none⟩ (.int .i64 (trF zs k space gap j))).heap.size from ⟨HB.out.1.setCell hgb _, by have := HB.out.2; simpa [World.setCell] using this⟩)
              clear HR HS HB
              rw [htr.out] at DR DS DB t0 t1
              generalize szF zs j = x at ha hz DR DS DB t0 t1
              generalize (shareL (leftT zs k space gap) (fl k (ptF zs))).getD j 0 = y at cs s0 s1 DR DS DB t0 t1
              have e1 : IntKind.i64.wrap (x + y) = x + y := IntWalk.i64_in _ (by omega)
              go_wp2
              go_roundw
              case rel => exact ⟨j + 1, _, by omega, by go_num, rfl, DR, DS, DB⟩
              case measure => simp [intOf]; omega
            · obtain rfl : j = k := by omega
              have D := hide (show Made (trackL zs j space gap) w (.returned (.slice (some ⟨g, 0, none⟩) j c7)) W8 from ⟨_, j, c7, rfl, hnc, hcm, (HR.out.congr (g := trF zs j space gap) fun i hi' => if_pos hi').row hgb HB.out.2, HB.out.1⟩)
              clear HR HS HB
              go_wp2
              go_ret
              exact D.out
end Go.Proofs.Ytelokjobhfhhfaa
