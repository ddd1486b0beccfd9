/- The sizes of tracks, the reference's. Conditions: none. -/
import Derived.Test.YtelokjobhfhhfaaTrackW
import Derived.Deep.RegionHeld3
namespace Go.Proofs.Ytelokjobhfhhfaa
open Go.RowKit
set_option linter.unusedVariables false
set_option linter.unusedSimpArgs false
theorem trRel_nil (w : World) (f g : Nat → Int) : TrRel w f g 0 0 (.slice (some ⟨w.heap.size, 0, none⟩) 0 0) (.slice (some ⟨w.heap.size + 1, 0, none⟩) 0 0) ((w.alloc (.cells #[] 3)).alloc (.cells #[] 3)) where
  a := (Own.made 3 1 w #[] 0 w.heap.size (Nat.le_refl _) (by omega) rfl).keep ((Below.refl _ _).alloc (Nat.le_refl _) _)
  b := by
    have h := Own.made 3 1 (w.alloc (.cells #[] 3)) #[] 0 w.heap.size (by simp) (by omega) rfl
    rw [show (w.alloc (.cells #[] 3)).heap.size = w.heap.size + 1 by simp] at h
    exact h
  ne := fun j hj e => by
    simp only [Value.ownBlock] at hj e
    injection hj with hj; injection e with e; omega
  below := ((Below.refl _ _).alloc (Nat.le_refl _) _).alloc (by simp) _
/-- a row of the call's own beside one that grows -/
def Beside (s7 : Value) (b1 o1 n : Nat) (xs : List Int) (W : World) : Prop := Row 3 W b1 (b1 + 1) (some ⟨b1, o1, none⟩) n xs ∧ b1 < W.heap.size ∧ ∀ q, s7.ownBlock = some q → q ≠ b1
theorem Beside.push {s7 v1 : Value} {b1 o1 n : Nat} {xs : List Int} {W W1 W' : World} (h : Beside s7 b1 o1 n xs W) (hb : Below W.heap.size W W1) (hg : W1.grownBy W' s7.ownBlock) (hv : v1.ownBlock = s7.ownBlock ∨ v1.ownBlock = some W1.heap.size) : Beside v1 b1 o1 n xs W' := by
  have h1 := hb.size
  have h2 := hg.size
  refine ⟨(h.1.belowS hb).keep fun k k1 k2 k3 => hg.block k k3 (fun e => h.2.2 k e.symm (by omega)), by have := h.2.1; omega, fun q hq e => ?_⟩
  rcases hv with hv | hv
  · exact h.2.2 q (hv ▸ hq) e
  · rw [hv] at hq; injection hq with hq; have := h.2.1; omega
set_option maxHeartbeats 4000000 in
theorem specTracks_any (B : Nat) (a : Option Addr) (n c : Nat) (zs : List Int) (space gap : Int) (w : World) (hA : Ints .i64 w B a (n * 2) zs) (hB : B ≤ w.heap.size) (hv : validTr zs n = true) (hs : 0 ≤ space ∧ space ≤ 200000) (hg : 0 ≤ gap ∧ gap ≤ 50) :
    Calls Try.prog 36 #[.slice a n c, .int .i64 space, .int .i64 gap] w (Made (trackL zs n space gap) w) := by
  obtain ⟨i0, hi, hz0, hz1, hz2⟩ := info_parts int_info
  obtain ⟨n1, n8⟩ := (validTr_iff.1 hv).1
  have HA := hide (fun W (h : Below w.heap.size w W) => hA.below h hB)
  have HV := hide hv
  have T0 := hide (trRel_nil w (trF zs n space gap) (ptF zs))
  have HL := hide (show leftT zs n space gap = max (space - sumI (fl n (szF zs)) - gap * ((n : Int) - 1)) 0 from rfl)
  have hG := gap_bd hg ⟨n1, n8⟩
  obtain ⟨P, hPe⟩ : ∃ P, gap * ((n : Int) - 1) = P := ⟨_, rfl⟩
  have e1 : IntKind.i64.wrap ((n : Int) - 1) = (n : Int) - 1 := IntWalk.i64_in _ (by omega)
  have e2 : IntKind.i64.wrap (gap * ((n : Int) - 1)) = P := by rw [hPe]; exact IntWalk.i64_in _ (by omega)
  rw [hPe] at hG HL
  have e3 : IntKind.i64.wrap (space - P) = space - P := IntWalk.i64_in _ (by omega)
  clear hA hv hPe
  go_enter Try.func36, Try.ntmps36
  go_wp2
  clear e1 e2 e3
  go_loopw [8, 9, 10] (fun s8 s9 s10 wr => ∃ (k : Nat) (W9 : World), k ≤ n ∧ s9 = .int .i64 (space - P - sumI (fl k (szF zs))) ∧ s10 = .int .i64 k ∧ W9 = wr ∧ Hid (TrRel w (trF zs n space gap) (ptF zs) 0 k (.slice (some ⟨w.heap.size, 0, none⟩) 0 0) s8 W9)) (fun _ _ s10 _ => n - (intOf s10).toNat)
  case atStart => exact ⟨0, _, Nat.zero_le _, by rw [show sumI (fl 0 (szF zs)) = 0 from rfl, Int.sub_zero], rfl, rfl, T0⟩
  case round =>
    clear T0
    obtain ⟨k, W9, hk, rfl, rfl, rfl, HT⟩ := hrel
    obtain ⟨A8, c8, e8, h81, h82, hr8⟩ := HT.out.b.form
    subst e8
    have hsz := HT.out.below.size
    have hSk := sz_sum HV.out hk
    by_cases hlt : k < n
    · obtain ⟨b, off, rfl, hbB, hcell⟩ := (HA.out _ HT.out.below).2.2 (by omega)
      have hc0 := hcell (k * 2) (by omega)
      have hc1 := hcell (k * 2 + 1) (by omega)
      rw [← Nat.add_assoc] at hc1
      have hz := (track_at HV.out hlt).1
      have HSN := hide (show sumI (fl (k + 1) (szF zs)) = sumI (fl k (szF zs)) + szF zs k by rw [fl_succ, sumI_append, sumI_cons, sumI_nil]; omega)
      clear hcell hr8
      change _ = some (Value.int .i64 (szF zs k)) at hc0
      change _ = some (Value.int .i64 (ptF zs k)) at hc1
      generalize szF zs k = x0 at hc0 hz HSN
      generalize hx1 : ptF zs k = x1 at hc1
      have HX1 := hide hx1
      clear hx1
      generalize sumI (fl k (szF zs)) = F at hSk HSN ⊢
      have e4 : IntKind.i64.wrap (space - P - F - x0) = space - P - F - x0 := IntWalk.i64_in _ (by omega)
      go_wp2_with (at_builtin; refine wpList_push rfl (.tmp 35) (.tmp 41) 29 3 1 8 i0 _ rfl Try.underlying29 hi hz0 hz1 hz2 rfl (by omega) (by omega) W9 w.heap.size (.slice A8 k c8) k _ rfl HT.out.b [x1] 1 1 rfl rfl (by omega) hsz ?_; intro v2 w2' ho2 hb2' hg2 hv2; have HT3 := hide (HT.out.pushB (by rw [HX1.out]; exact ho2) hg2 hv2); clear ho2 hb2' hg2 hv2 HT)
      go_roundw
      case rel => exact ⟨k + 1, _, by omega, by rw [HSN.out]; exact congrArg _ (by omega), by go_num, rfl, HT3⟩
      case measure => simp [intOf]; omega
    · obtain rfl : k = n := by omega
      rw [Nat.mul_one] at hr8
      have HI8 := hide hr8.ints
      clear hr8
      have HSh := hide (fun (v : Int) (hv : v = leftT zs k space gap) => (show Calls Try.prog 47 #[.int .i64 v, .slice A8 k c8] W9 (Made (shareL (leftT zs k space gap) (fl k (ptF zs))) W9) by rw [hv]; exact specShare_any W9.heap.size A8 k c8 (fl k (ptF zs)) (leftT zs k space gap) W9 HI8.out (Nat.le_refl _) n8 (pt_ok HV.out) (left_ok HV.out hs hg)))
      have HF := hide (show shareL (leftT zs k space gap) (fl k (ptF zs)) = shareL (leftT zs k space gap) (fl k (ptF zs)) from rfl)
      generalize sumI (fl k (szF zs)) = F at hSk HL ⊢
      go_upto_region 9 with fail
      go_cut [11] (fun s11 wx => ∃ (b1 o1 d1 : Nat) (W1 : World), s11 = .slice (some ⟨b1, o1, none⟩) k d1 ∧ W1 = wx ∧ Hid (Beside (.slice (some ⟨w.heap.size, 0, none⟩) 0 0) b1 o1 k (shareL (leftT zs k space gap) (fl k (ptF zs))) W1) ∧ Hid (TrRel w (trF zs k space gap) (ptF zs) 0 k (.slice (some ⟨w.heap.size, 0, none⟩) 0 0) (.slice A8 k c8) W1))
      case first =>
        have HFIN := hide (show ∀ e W1, Made (shareL (leftT zs k space gap) (fl k (ptF zs))) W9 e W1 → ∃ (b1 o1 d1 : Nat), e = .returned (.slice (some ⟨b1, o1, none⟩) k d1) ∧ Hid (Beside (.slice (some ⟨w.heap.size, 0, none⟩) 0 0) b1 o1 k (shareL (leftT zs k space gap) (fl k (ptF zs))) W1) ∧ Hid (TrRel w (trF zs k space gap) (ptF zs) 0 k (.slice (some ⟨w.heap.size, 0, none⟩) 0 0) (.slice A8 k c8) W1) from by
          rintro e W1 ⟨A1, m1, d1, rfl, q1, q2, r1, hb⟩
          obtain rfl : k = m1 := by have h1 := r1.1; rw [shareL_len, fl_len] at h1; exact h1
          obtain ⟨b1, o1, cur, rfl, hb1, hb1', rest⟩ := r1.2 (by omega)
          refine ⟨b1, o1, d1, rfl, hide ⟨⟨r1.1, fun _ => ⟨b1, o1, cur, rfl, Nat.le_refl _, Nat.lt_succ_self _, rest⟩⟩, hb1', fun q hq e => ?_⟩, hide (HT.out.keep hb)⟩
          simp only [Value.ownBlock] at hq
          injection hq with hq
          have := HT.out.a.lt w.heap.size rfl
          omega)
        clear HT HI8 HF
        go_wp2_with (go_at_call 47; refine (HSh.out _ (by rw [HL.out]; omega)).mono ?_; intro e W1 hm; obtain ⟨b1, o1, d1, he, hB1, hT1⟩ := HFIN.out e W1 hm; subst he; clear hm)
        all_goals go_meet
        all_goals exact ⟨b1, o1, d1, W1, rfl, rfl, hB1, hT1⟩
      case rest =>
        clear HSh HL HI8 HF HT hSk
        obtain ⟨b1, o1, d1, W1, rfl, rfl, HB, HT⟩ := hcut
        go_wp2
        go_loopw [7, 12] (fun s7 s12 wr => ∃ (j : Nat) (W9 : World), j ≤ k ∧ s12 = .int .i64 j ∧ W9 = wr ∧ Hid (Beside s7 b1 o1 k (shareL (leftT zs k space gap) (fl k (ptF zs))) W9) ∧ Hid (TrRel w (trF zs k space gap) (ptF zs) j k s7 (.slice A8 k c8) W9)) (fun _ s12 _ => k - (intOf s12).toNat)
        case atStart => exact ⟨0, _, Nat.zero_le _, rfl, rfl, HB, HT⟩
        case round =>
          clear HB HT
          obtain ⟨j, W9, hj, rfl, rfl, HB, HT⟩ := hrel
          obtain ⟨A7, c7, e7, h71, h72, hr7⟩ := HT.out.a.form
          subst e7
          have hsz := HT.out.below.size
          by_cases hlt : j < k
          · obtain ⟨b, off, rfl, hbB, hcell⟩ := (HA.out _ HT.out.below).2.2 (by omega)
            have hc0 := hcell (j * 2) (by omega)
            have cs := (HB.out.1.cell j hlt).1
            have hb9 := HB.out.2.1
            have hz := (track_at HV.out hlt).1
            obtain ⟨⟨s0, s1⟩, t0, t1⟩ := tr_bd (zs := zs) (space := space) (gap := gap) HV.out hs hg hlt
            have htr := hide (show trF zs k space gap j = szF zs j + (shareL (leftT zs k space gap) (fl k (ptF zs))).getD j 0 from rfl)
            have j1 : (j : Int) < (k : Int) := by omega
            clear hcell hr7
            change _ = some (Value.int .i64 (szF zs j)) at hc0
            generalize szF zs j = x at hc0 hz htr
            generalize (shareL (leftT zs k space gap) (fl k (ptF zs))).getD j 0 = y at cs s0 s1 htr
            have e1 : IntKind.i64.wrap (x + y) = x + y := IntWalk.i64_in _ (by omega)
            have HOa := hide (show ((W9.drew).alloc (.cells #[.int .i64 (x + y)] 3)).ownsRow w.heap.size 3 1 (.slice A7 j c7) j (iv (fl j (trF zs k space gap))) from World.ownsRow.alloc HT.out.a _)
            have HRd := hide (reads_new 3 W9.drew 1 1 [x + y] rfl)
            have hne := hide HB.out.2.2
            go_wp2_with fail
            go_region_held3 (fun w' => w'.cell? ⟨b, off + j * 2, none⟩ = some (.int .i64 x) ∧ w'.cell? ⟨b1, o1 + j, none⟩ = some (.int .i64 y)) (first | go_keep | exact ⟨hcx, hcy⟩)
              ((refine step_append_any _ (by rfl) _ _ _ (by rfl) w.heap.size 3 i0 _ 1 8 Try.underlying29 hi hz0 hz1 hz2 rfl (by omega) (.slice A7 j c7) j (iv (fl j (trF zs k space gap))) (by rfl) HOa.out (W9.heap.size + 1) (some ⟨W9.heap.size, 0, none⟩) 1 1 (iv [x + y]) (by rfl) HRd.out (iv_one _) (by unfold maxLen; omega) (by omega) (by simp; omega) ?_; intro v1 w1 ho1 hg1 hv1; have hgw := only_trans (only_drew (World.grownBy_alloc W9 _ _)) hg1; have hbw := Own.below HT.out.a hsz hgw; have hcx := (hbw.cell (p := ⟨b, off + j * 2, none⟩) (by show b < w.heap.size; omega)).trans hc0; have hcy := (World.cell?_of_block (hgw.block b1 hb9 (fun e => hne.out b1 e.symm rfl))).trans cs))
            have D := hide (HT.out.pushA (v1 := v1) (W' := w1) (by rw [htr.out]; rw [← iv_append] at ho1; exact ho1) hgw (by simpa using hv1))
            have DB := hide (HB.out.push (v1 := v1) (W' := w1) (((Below.refl _ _).alloc (Nat.le_refl _) _).drew) hg1 hv1)
            clear ho1 hg1 hv1 hgw hbw HOa HRd HB HT hcx hcy hne
            go_wp2
            go_roundw
            case rel => exact ⟨j + 1, _, by omega, by go_num, rfl, DB, D⟩
            case measure => simp [intOf]; omega
          · obtain rfl : j = k := by omega
            have D := hide (show Made (trackL zs j space gap) w (.returned (.slice A7 j c7)) W9 from by
              obtain ⟨A', c', e, h1, h2, hr⟩ := HT.out.a.form
              injection e with q1 q2 q3
              subst q1 q3
              rw [Nat.mul_one] at hr
              exact ⟨_, _, _, rfl, h1, h2, hr, HT.out.below⟩)
            clear HB HT hr7
            go_wp2
            go_ret
            exact D.out
/-- the sizes of tracks; nil for other arguments -/
def trOkB (zs : List Int) (n : Nat) (space gap : Int) : Bool := validTr zs n && (inR space 0 200000 && inR gap 0 50)
def sizesT (zs : List Int) (n : Nat) (space gap : Int) : List Int := if trOkB zs n space gap = true then trackL zs n space gap else []
theorem trOkB_iff {zs : List Int} {n : Nat} {space gap : Int} : trOkB zs n space gap = true ↔ validTr zs n = true ∧ (0 ≤ space ∧ space ≤ 200000) ∧ 0 ≤ gap ∧ gap ≤ 50 := by
  simp only [trOkB, Bool.and_eq_true, inR_iff]
theorem made_nil {w w' : World} {xs : List Int} (h : xs = []) (hb : Below w.heap.size w w') : Made xs w (.returned (.slice none 0 0)) w' := by
  subst h
  exact ⟨none, 0, 0, rfl, Nat.le_refl _, by omega, Row.nil _ _ _ _ _, hb⟩
theorem Made.after {w w1 w' : World} {xs : List Int} {e : Ending} (h : Made xs w1 e w') (hb : Below w.heap.size w w1) : Made xs w e w' := by
  obtain ⟨A, n, c, he, h1, h2, hr, hb'⟩ := h
  exact ⟨A, n, c, he, h1, h2, hr.mono hb.size (Nat.le_refl _), hb.trans (hb'.mono hb.size)⟩
set_option maxHeartbeats 1000000 in
theorem tracksOk_any (B : Nat) (a : Option Addr) (n c : Nat) (zs : List Int) (space gap : Int) (w : World) (hA : Ints .i64 w B a (n * 2) zs) (hB : B ≤ w.heap.size) (hn : n ≤ 1099511627776) :
    Calls Try.prog 33 #[.slice a n c, .int .i64 space, .int .i64 gap] w fun e w' => e = .returned (.bool (trOkB zs n space gap)) ∧ Below w.heap.size w w' := by
  have HC := hide (implValidTr_any B a n c zs w hA hB hn)
  have HD := hide (show trOkB zs n space gap = (validTr zs n && (inR space 0 200000 && inR gap 0 50)) from rfl)
  clear hA
  cases h0 : validTr zs n
  case false =>
    rw [h0] at HC HD
    go_enter Try.func33, Try.ntmps33
    go_wp2_with (go_at_call 12; refine HC.out.mono ?_; rintro e w1 ⟨rfl, hb⟩; have HB := hide hb; clear hb)
    go_ret
    exact ⟨ret_bool (by rw [HD.out]; rfl), HB.out⟩
  case true =>
    rw [h0] at HC HD
    cases h1 : inR space 0 200000
    case false =>
      rw [h1] at HD
      go_enter Try.func33, Try.ntmps33
      go_wp2_with (first | (go_at_call 12; refine HC.out.mono ?_; rintro e w1 ⟨rfl, hb⟩; have HB := hide hb; clear hb) | (go_at_call 44; refine (sizeOk_any _ _).mono ?_; rintro e w' ⟨rfl, rfl⟩; rw [h1]))
      go_ret
      exact ⟨ret_bool (by rw [HD.out]; rfl), HB.out⟩
    case true =>
      rw [h1] at HD
      go_enter Try.func33, Try.ntmps33
      go_wp2_with (first | (go_at_call 12; refine HC.out.mono ?_; rintro e w1 ⟨rfl, hb⟩; have HB := hide hb; clear hb) | (go_at_call 44; refine (sizeOk_any _ _).mono ?_; rintro e w' ⟨rfl, rfl⟩; rw [h1]) | (go_at_call 45; refine (edgeOk_any _ _).mono ?_; rintro e w' ⟨rfl, rfl⟩))
      go_ret
      exact ⟨ret_bool (by rw [HD.out]; simp), HB.out⟩
set_option maxHeartbeats 1000000 in
theorem implSizes_any (B : Nat) (a : Option Addr) (n c : Nat) (zs : List Int) (space gap : Int) (w : World) (hA : Ints .i64 w B a (n * 2) zs) (hB : B ≤ w.heap.size) (hn : n ≤ 1099511627776) :
    Calls Try.prog 15 #[.slice a n c, .int .i64 space, .int .i64 gap] w (Made (sizesT zs n space gap) w) := by
  have HC := hide (tracksOk_any B a n c zs space gap w hA hB hn)
  have HT := hide (fun (h : trOkB zs n space gap = true) W (hb : Below w.heap.size w W) => implTracks_any B a n c zs space gap W (hA.below hb hB) (by have := hb.size; omega) (trOkB_iff.1 h).1 (trOkB_iff.1 h).2.1 (trOkB_iff.1 h).2.2)
  clear hA
  cases h0 : trOkB zs n space gap
  case false =>
    have hs := hide (show sizesT zs n space gap = [] from if_neg (by simp [h0]))
    rw [h0] at HC
    go_enter Try.func15, Try.ntmps15
    go_wp2_with (go_at_call 33; refine HC.out.mono ?_; rintro e w1 ⟨rfl, hb⟩; have HB := hide hb; clear hb)
    go_ret
    exact made_nil hs.out HB.out
  case true =>
    have hs := hide (show sizesT zs n space gap = trackL zs n space gap from if_pos h0)
    have HT2 := hide (HT.out h0)
    clear HT
    rw [h0] at HC
    go_enter Try.func15, Try.ntmps15
    go_wp2_with (go_at_call 33; refine HC.out.mono ?_; rintro e w1 ⟨rfl, hb⟩; have HB := hide hb; clear hb)
    refine (HT2.out w1 HB.out).mono ?_
    rintro e w2 hm
    have D := hide (show Made (sizesT zs n space gap) w e w2 by rw [hs.out]; exact hm.after HB.out)
    obtain ⟨A, m, d, rfl, _, _, _, _⟩ := hm
    clear HT2 HC
    go_wp2
    go_ret
    exact D.out
set_option maxHeartbeats 1000000 in
theorem specSizes_any (B : Nat) (a : Option Addr) (n c : Nat) (zs : List Int) (space gap : Int) (w : World) (hA : Ints .i64 w B a (n * 2) zs) (hB : B ≤ w.heap.size) (hn : n ≤ 1099511627776) :
    Calls Try.prog 17 #[.slice a n c, .int .i64 space, .int .i64 gap] w (Made (sizesT zs n space gap) w) := by
  have HC := hide (specValidTr0_any B a n c zs w hA hB hn)
  have HT := hide (fun (h : trOkB zs n space gap = true) W (hb : Below w.heap.size w W) => specTracks_any B a n c zs space gap W (hA.below hb hB) (by have := hb.size; omega) (trOkB_iff.1 h).1 (trOkB_iff.1 h).2.1 (trOkB_iff.1 h).2.2)
  have HD := hide (show trOkB zs n space gap = (validTr zs n && (inR space 0 200000 && inR gap 0 50)) from rfl)
  clear hA
  cases h0 : validTr zs n
  case false =>
    have hs := hide (show sizesT zs n space gap = [] from if_neg (by rw [HD.out, h0]; simp))
    rw [h0] at HC
    go_enter Try.func17, Try.ntmps17
    go_wp2_with (go_at_call 30; refine HC.out.mono ?_; rintro e w1 ⟨rfl, hb⟩; have HB := hide hb; clear hb)
    go_ret
    exact made_nil hs.out HB.out
  case true =>
    rw [h0] at HC
    cases h1 : inR space 0 200000
    case false =>
      have hs := hide (show sizesT zs n space gap = [] from if_neg (by rw [HD.out, h0, h1]; simp))
      go_enter Try.func17, Try.ntmps17
      go_wp2_with (first | (go_at_call 30; refine HC.out.mono ?_; rintro e w1 ⟨rfl, hb⟩; have HB := hide hb; clear hb) | (go_at_call 35; with_reducible refine (inRange_is h1 _).mono ?_; rintro e w' ⟨rfl, rfl⟩))
      go_ret
      exact made_nil hs.out HB.out
    case true =>
      cases h2 : inR gap 0 50
      case false =>
        have hs := hide (show sizesT zs n space gap = [] from if_neg (by rw [HD.out, h0, h1, h2]; simp))
        go_enter Try.func17, Try.ntmps17
        go_wp2_with (first | (go_at_call 30; refine HC.out.mono ?_; rintro e w1 ⟨rfl, hb⟩; have HB := hide hb; clear hb) | (go_at_call 35; with_reducible refine (inRange_is h1 _).mono ?_; rintro e w' ⟨rfl, rfl⟩) | (go_at_call 35; with_reducible refine (inRange_is h2 _).mono ?_; rintro e w' ⟨rfl, rfl⟩))
        go_ret
        exact made_nil hs.out HB.out
      case true =>
        have h3 : trOkB zs n space gap = true := by rw [HD.out, h0, h1, h2]; rfl
        have hs := hide (show sizesT zs n space gap = trackL zs n space gap from if_pos h3)
        have HT2 := hide (HT.out h3)
        clear HT h3 HD
        go_enter Try.func17, Try.ntmps17
        go_wp2_with (first | (go_at_call 30; refine HC.out.mono ?_; rintro e w1 ⟨rfl, hb⟩; have HB := hide hb; clear hb) | (go_at_call 35; with_reducible refine (inRange_is h1 _).mono ?_; rintro e w' ⟨rfl, rfl⟩) | (go_at_call 35; with_reducible refine (inRange_is h2 _).mono ?_; rintro e w' ⟨rfl, rfl⟩))
        refine (HT2.out w1 HB.out).mono ?_
        rintro e w2 hm
        have D := hide (show Made (sizesT zs n space gap) w e w2 by rw [hs.out]; exact hm.after HB.out)
        obtain ⟨A, m, d, rfl, _, _, _, _⟩ := hm
        clear HT2 HC
        go_wp2
        go_ret
        exact D.out
end Go.Proofs.Ytelokjobhfhhfaa
