/- Layout: offsets: the program. Conditions: none. -/
import Derived.Test.YthgliihdaockoaaLayU
import Derived.Test.YthgliihdaockoaaLayR
import Derived.BigRegion
namespace Go.Proofs.Ythgliihdaockoaa
open Go.RowKit
set_option linter.unusedVariables false
set_option linter.unusedSimpArgs false
theorem ints_one (w : World) : Ints .i64 (w.alloc (.cells #[.int .i64 1] 3)) (w.heap.size + 1) (some ⟨w.heap.size, 0, none⟩) 1 [1] :=
  ⟨rfl, (fun h => by cases h), fun _ => ⟨_, _, rfl, by omega, fun i hi => by
    obtain rfl : i = 0 := by omega
    rw [cell_of_row _ _ _ _ _ (0, 0) (heap_alloc_new w _)]; rfl⟩⟩
theorem fl_shareK {left : Int} {k : Nat} : fl k (moS left k) = shareL left (List.replicate k 1) := fl_shareS left k
set_option maxRecDepth 100000 in
set_option maxHeartbeats 16000000 in
theorem implOffsets_any (B : Nat) (a : Option Addr) (m c : Nat) (sz : Nat → Int) (space gap just : Int) (w : World) (hA : Ints .i64 w B a m (fl m sz)) (hB : B ≤ w.heap.size) (hm : 1 ≤ m ∧ m ≤ 8) (hz : OutOk sz m) (hsp : 0 ≤ space ∧ space ≤ 100000) (hg : 0 ≤ gap ∧ gap ≤ 50) (hj : 0 ≤ just ∧ just ≤ 3) :
    Calls Try.prog 47 #[.slice a m c, .int .i64 space, .int .i64 gap, .int .i64 just] w (ListR (fl m (offS sz m space gap just)) w) := by
  obtain ⟨i0, hi0, hz0, hz1, hz2⟩ := info_parts int_info
  have HA := hide (fun W (h : Below w.heap.size w W) => (hA.more hB).below h (Nat.le_refl _))
  have HZ := hide hz
  have hTs : 0 ≤ sumF sz (List.range m) ∧ sumF sz (List.range m) ≤ 80000 := by
    have h1 := sumF_nonneg (f := sz) (l := List.range m) fun i hi => (hz i (List.mem_range.1 hi)).1
    have h2 := sumF_le (f := sz) (l := List.range m) (M := 10000) fun i hi => (hz i (List.mem_range.1 hi)).2
    rw [List.length_range] at h2
    omega
  obtain ⟨T, hT⟩ : ∃ T, sumF sz (List.range m) = T := ⟨_, rfl⟩
  rw [hT] at hTs
  have HT := hide hT
  have hP : 0 ≤ gap * ((m : Int) - 1) ∧ gap * ((m : Int) - 1) ≤ 350 := by
    have h := gap_bd hg (show m - 1 ≤ 7 by omega)
    rw [show ((m - 1 : Nat) : Int) = (m : Int) - 1 by omega] at h
    exact h
  obtain ⟨P, hmul⟩ : ∃ P, gap * ((m : Int) - 1) = P := ⟨_, rfl⟩
  rw [hmul] at hP
  have HPe := hide hmul
  obtain ⟨l, hl⟩ : ∃ l, space - T - P = l := ⟨_, rfl⟩
  have hlb : -90000 ≤ l ∧ l ≤ 100000 := by omega
  have HL := hide (show leftO sz m space gap = max l 0 by unfold leftO; rw [HT.out, HPe.out, hl])
  obtain ⟨b, off, rfl, hb9, -⟩ := hA.2.2 (by omega)
  have HSm := hide (show Small 1000000000 (fl m sz) from fun x hx => by
    obtain ⟨i, hi, rfl⟩ := fl_mem hx
    have := hz i hi
    omega)
  clear hT hA hz
  obtain ⟨k, hkm⟩ : ∃ k, k + 1 = m := ⟨m - 1, by omega⟩
  have hmk1 : (m : Int) - 1 = k := by omega
  have hPk := HPe.out
  rw [hmk1] at hPk
  have hmk := mk_ints k (by omega)
  have hmk0 := mk_ints0n m (by omega)
  have HTot := hide (show Calls Try.prog 59 #[.slice (some ⟨b, off, none⟩) m c] w fun e w' => e = .returned (.int .i64 T) ∧ w = w' from by
    have h2 := total_any w.heap.size (some ⟨b, off, none⟩) m c (fl m sz) w (HA.out _ (Below.refl _ _)) (by omega) HSm.out
    rw [show sumI (fl m sz) = T from HT.out] at h2
    exact h2)
  by_cases hX : l < 0
  · by_cases q0 : just = 0
    · have HLe := hide (show (0 : Int) = leftO sz m space gap by rw [HL.out]; omega)
      have hlb2 : 0 ≤ (0 : Int) ∧ (0 : Int) ≤ 100000 := by omega
      have Hat := hide (show (0 : Int) = atO 0 just by unfold atO; rw [if_neg (by omega), if_neg (by omega)])
      have hv0 : 0 ≤ (0 : Int) ∧ (0 : Int) ≤ 100000 := by omega
      have j1 : (just == 1) = false := by simp; omega
      have j2 : (just == 2) = false := by simp; omega
      have j3 : (just == 3) = false := by simp; omega
      obtain ⟨mo, hmo⟩ : ∃ mo : Nat → Int, mo = fun _ => 0 := ⟨_, rfl⟩
      have HMoE := hide (fun t (ht : t + 1 < m) => (show mo t = moreO m 0 just t by unfold moreO; rw [hmo, if_neg (by omega)]))
      have HMoB := hide (fun t (ht : t < m) => (show 0 ≤ mo t ∧ mo t ≤ 100000 by rw [hmo]; exact ⟨Int.le_refl _, by show (0 : Int) ≤ 100000; omega⟩))
      have HMo := hide (show Row 3 ((w.alloc (.cells (madeCells #[.int .i64 0] k) 3)).alloc (.cells (madeCells #[.int .i64 0] m) 3)) w.heap.size (w.heap.size + 1) (some ⟨w.heap.size, 0, none⟩) k (fl k mo) by rw [hmo]; exact (rowF_alloc w k).keep fun h3 => heap_alloc_old _ _ h3)
      have HO := hide (show Own 3 1 ((w.alloc (.cells (madeCells #[.int .i64 0] k) 3)).alloc (.cells (madeCells #[.int .i64 0] m) 3)) w.heap.size (.slice (some ⟨w.heap.size + 1, 0, none⟩) 0 m) 0 [] from by have h := Own.made 3 1 (w.alloc (.cells (madeCells #[.int .i64 0] k) 3)) (madeCells #[.int .i64 0] m) m w.heap.size (by simp) (by omega) (by rw [size_madeCells, Nat.mul_one]); simp only [World.size_alloc] at h; exact h)
      have HB := hide (show Below w.heap.size w ((w.alloc (.cells (madeCells #[.int .i64 0] k) 3)).alloc (.cells (madeCells #[.int .i64 0] m) 3)) from ((Below.refl _ _).alloc (Nat.le_refl _) _).alloc (by simp) _)
      have hhim : w.heap.size + 1 ≤ ((w.alloc (.cells (madeCells #[.int .i64 0] k) 3)).alloc (.cells (madeCells #[.int .i64 0] m) 3)).heap.size := by simp
      have HSp := hide (show ∀ j, (Value.slice (some ⟨w.heap.size + 1, 0, none⟩) 0 m).ownBlock = some j → j < w.heap.size ∨ w.heap.size + 1 ≤ j from fun j e => by simp [Value.ownBlock] at e; omega)
      clear hmo
      go_enter Try.func47, Try.ntmps47
      go_wp2_with (go_at_call 59; refine HTot.out.mono ?_; rintro e w' ⟨rfl, rfl⟩)
      generalize (w.alloc (.cells (madeCells #[.int .i64 0] k) 3)).alloc (.cells (madeCells #[.int .i64 0] m) 3) = Wp at HO HB HMo hhim ⊢
      go_loopw [11, 13, 14, 15, 52] (fun s11 s13 _ _ s52 wr => ∃ (t c' : Nat) (A : Option Addr) (W9 : World), t ≤ m ∧ s11 = .int .i64 (offV sz mo gap 0 (min t k)) ∧ s13 = .slice A t c' ∧ s52 = .int .i64 t ∧ W9 = wr ∧ Hid (Own 3 1 W9 w.heap.size (.slice A t c') t (fl t (offV sz mo gap 0))) ∧ Hid (∀ j, (Value.slice A t c').ownBlock = some j → j < w.heap.size ∨ (w.heap.size + 1) ≤ j) ∧ (w.heap.size + 1) ≤ W9.heap.size ∧ Hid (Row 3 W9 w.heap.size (w.heap.size + 1) (some ⟨w.heap.size, 0, none⟩) k (fl k mo)) ∧ Hid (Below w.heap.size w W9)) (fun _ _ _ _ s52 _ => m - (intOf s52).toNat)
      case atStart => exact ⟨0, _, _, _, Nat.zero_le _, by rw [Nat.zero_min, offV_zero], rfl, rfl, rfl, HO, HSp, hhim, HMo, HB⟩
      case round =>
        clear HO HSp HMo HB hhim
        obtain ⟨t, c', A, W9, htm, rfl, rfl, rfl, rfl, HO, HSp, hhim, HMo, HB⟩ := hrel
        have hz9 := HB.out.size
        by_cases hlt : t < m
        · have hlt' : (t : Int) < (m : Int) := by omega
          obtain ⟨b', off', eb, -, hcell⟩ := (HA.out _ HB.out).2.2 (by omega)
          injection eb with eb
          injection eb with eb1 eb2
          subst eb1 eb2
          have hc1 := hcell t hlt
          rw [fl_at sz hlt] at hc1
          have hzt := HZ.out t hlt
          obtain ⟨x, hx⟩ : ∃ x, sz t = x := ⟨_, rfl⟩
          rw [hx] at hc1 hzt
          have hvb := offV_bd (sz := sz) (mo := mo) (m := m) (t := t) HZ.out hg hv0 HMoB.out htm hm.2
          obtain ⟨v, hv⟩ : ∃ v, offV sz mo gap 0 t = v := ⟨_, rfl⟩
          rw [hv] at hvb
          have HFl := hide (show fl (t + 1) (offV sz mo gap 0) = fl t (offV sz mo gap 0) ++ [v] by rw [fl_snoc, hv])
          clear hcell
          by_cases hk2 : t < k
          · have hk3 : (t : Int) < (k : Int) := by omega
            rw [show min t k = t by omega, hv]
            have hmt := HMoB.out t hlt
            obtain ⟨y, hy⟩ : ∃ y, mo t = y := ⟨_, rfl⟩
            rw [hy] at hmt
            have DV := hide (show offV sz mo gap 0 (min (t + 1) k) = v + (x + gap + y) by rw [show min (t + 1) k = t + 1 by omega, offV_succ, hv, hx, hy]; omega)
            have HY9 := hide hy
            clear hx hy hv
            go_wp2_with (at_builtin; refine wpList_push rfl (.tmp 57) (.tmp 59) 26 3 1 8 i0 _ rfl Try.underlying26 hi0 hz0 hz1 hz2 rfl (by omega) (by omega) W9 w.heap.size (.slice A t c') t (fl t (offV sz mo gap 0)) rfl HO.out [v] 1 1 rfl rfl (by omega) hz9 ?_; intro v1 w1 ho1 hb1 hg1 hv1; obtain ⟨A1, c1, hvv1, _, _, _⟩ := ho1.form; subst hvv1; have HO1 := hide ho1; have HB1 := hide (HB.out.trans hb1); have HMo1 := hide (HMo.out.keep (fun j h1 h2 h3 => hg1.block j h3 (fun e => by have := HSp.out j e.symm; omega))); have HSp1 := hide (own_next HSp.out hv1 (by omega)); have hhim1 := Nat.le_trans hhim hg1.size; have hd1 := (hb1.cell (p := ⟨b, off + t, none⟩) (by show b < w.heap.size; omega)).trans hc1; have hd2 := (HMo1.out.cell t hk2).1; rw [fl_at mo hk2, HY9.out, Nat.zero_add] at hd2; clear ho1 hb1 hg1 hv1)
            clear hc1 HO HSp HMo HB hhim
            go_roundw
            case rel => exact ⟨t + 1, _, _, _, by omega, by rw [DV.out], rfl, by go_num, rfl, by rw [HFl.out]; exact HO1, HSp1, hhim1, HMo1, HB1⟩
            case measure => simp [intOf]; omega
          · have hk3 : ¬ (t : Int) < (k : Int) := by omega
            rw [show min t k = t by omega, hv]
            have DV := hide (show offV sz mo gap 0 (min (t + 1) k) = v by rw [show min (t + 1) k = t by omega, hv])
            clear hx hv
            go_wp2_with (at_builtin; refine wpList_push rfl (.tmp 57) (.tmp 59) 26 3 1 8 i0 _ rfl Try.underlying26 hi0 hz0 hz1 hz2 rfl (by omega) (by omega) W9 w.heap.size (.slice A t c') t (fl t (offV sz mo gap 0)) rfl HO.out [v] 1 1 rfl rfl (by omega) hz9 ?_; intro v1 w1 ho1 hb1 hg1 hv1; obtain ⟨A1, c1, hvv1, _, _, _⟩ := ho1.form; subst hvv1; have HO1 := hide ho1; have HB1 := hide (HB.out.trans hb1); have HMo1 := hide (HMo.out.keep (fun j h1 h2 h3 => hg1.block j h3 (fun e => by have := HSp.out j e.symm; omega))); have HSp1 := hide (own_next HSp.out hv1 (by omega)); have hhim1 := Nat.le_trans hhim hg1.size; clear ho1 hb1 hg1 hv1)
            clear hc1 HO HSp HMo HB hhim
            go_roundw
            case rel => exact ⟨t + 1, _, _, _, by omega, by rw [DV.out], rfl, by go_num, rfl, by rw [HFl.out]; exact HO1, HSp1, hhim1, HMo1, HB1⟩
            case measure => simp [intOf]; omega
        · obtain rfl : m = t := by omega
          have D := hide (show ListR (fl m (offS sz m space gap just)) w (.returned (.slice A m c')) W9 by
            rw [← fl_congr (f := offV sz mo gap 0) (fun j hj => offV_eq HLe.out Hat.out HMoE.out hj)]
            exact ListR.own HO.out HB.out)
          clear HO HMo HB HSp
          go_wp2
          go_ret
          exact D.out
    · by_cases q1 : just = 1
      · have HLe := hide (show (0 : Int) = leftO sz m space gap by rw [HL.out]; omega)
        have hlb2 : 0 ≤ (0 : Int) ∧ (0 : Int) ≤ 100000 := by omega
        have Hat := hide (show (0 : Int) = atO 0 just by unfold atO; rw [if_pos (by omega)])
        have hv0 : 0 ≤ (0 : Int) ∧ (0 : Int) ≤ 100000 := by omega
        have j1 : (just == 1) = true := by simp; omega
        obtain ⟨mo, hmo⟩ : ∃ mo : Nat → Int, mo = fun _ => 0 := ⟨_, rfl⟩
        have HMoE := hide (fun t (ht : t + 1 < m) => (show mo t = moreO m 0 just t by unfold moreO; rw [hmo, if_neg (by omega)]))
        have HMoB := hide (fun t (ht : t < m) => (show 0 ≤ mo t ∧ mo t ≤ 100000 by rw [hmo]; exact ⟨Int.le_refl _, by show (0 : Int) ≤ 100000; omega⟩))
        have HMo := hide (show Row 3 ((w.alloc (.cells (madeCells #[.int .i64 0] k) 3)).alloc (.cells (madeCells #[.int .i64 0] m) 3)) w.heap.size (w.heap.size + 1) (some ⟨w.heap.size, 0, none⟩) k (fl k mo) by rw [hmo]; exact (rowF_alloc w k).keep fun h3 => heap_alloc_old _ _ h3)
        have HO := hide (show Own 3 1 ((w.alloc (.cells (madeCells #[.int .i64 0] k) 3)).alloc (.cells (madeCells #[.int .i64 0] m) 3)) w.heap.size (.slice (some ⟨w.heap.size + 1, 0, none⟩) 0 m) 0 [] from by have h := Own.made 3 1 (w.alloc (.cells (madeCells #[.int .i64 0] k) 3)) (madeCells #[.int .i64 0] m) m w.heap.size (by simp) (by omega) (by rw [size_madeCells, Nat.mul_one]); simp only [World.size_alloc] at h; exact h)
        have HB := hide (show Below w.heap.size w ((w.alloc (.cells (madeCells #[.int .i64 0] k) 3)).alloc (.cells (madeCells #[.int .i64 0] m) 3)) from ((Below.refl _ _).alloc (Nat.le_refl _) _).alloc (by simp) _)
        have hhim : w.heap.size + 1 ≤ ((w.alloc (.cells (madeCells #[.int .i64 0] k) 3)).alloc (.cells (madeCells #[.int .i64 0] m) 3)).heap.size := by simp
        have HSp := hide (show ∀ j, (Value.slice (some ⟨w.heap.size + 1, 0, none⟩) 0 m).ownBlock = some j → j < w.heap.size ∨ w.heap.size + 1 ≤ j from fun j e => by simp [Value.ownBlock] at e; omega)
        clear hmo
        go_enter Try.func47, Try.ntmps47
        go_wp2_with (go_at_call 59; refine HTot.out.mono ?_; rintro e w' ⟨rfl, rfl⟩)
        generalize (w.alloc (.cells (madeCells #[.int .i64 0] k) 3)).alloc (.cells (madeCells #[.int .i64 0] m) 3) = Wp at HO HB HMo hhim ⊢
        go_loopw [11, 13, 14, 15, 52] (fun s11 s13 _ _ s52 wr => ∃ (t c' : Nat) (A : Option Addr) (W9 : World), t ≤ m ∧ s11 = .int .i64 (offV sz mo gap 0 (min t k)) ∧ s13 = .slice A t c' ∧ s52 = .int .i64 t ∧ W9 = wr ∧ Hid (Own 3 1 W9 w.heap.size (.slice A t c') t (fl t (offV sz mo gap 0))) ∧ Hid (∀ j, (Value.slice A t c').ownBlock = some j → j < w.heap.size ∨ (w.heap.size + 1) ≤ j) ∧ (w.heap.size + 1) ≤ W9.heap.size ∧ Hid (Row 3 W9 w.heap.size (w.heap.size + 1) (some ⟨w.heap.size, 0, none⟩) k (fl k mo)) ∧ Hid (Below w.heap.size w W9)) (fun _ _ _ _ s52 _ => m - (intOf s52).toNat)
        case atStart => exact ⟨0, _, _, _, Nat.zero_le _, by rw [Nat.zero_min, offV_zero], rfl, rfl, rfl, HO, HSp, hhim, HMo, HB⟩
        case round =>
          clear HO HSp HMo HB hhim
          obtain ⟨t, c', A, W9, htm, rfl, rfl, rfl, rfl, HO, HSp, hhim, HMo, HB⟩ := hrel
          have hz9 := HB.out.size
          by_cases hlt : t < m
          · have hlt' : (t : Int) < (m : Int) := by omega
            obtain ⟨b', off', eb, -, hcell⟩ := (HA.out _ HB.out).2.2 (by omega)
            injection eb with eb
            injection eb with eb1 eb2
            subst eb1 eb2
            have hc1 := hcell t hlt
            rw [fl_at sz hlt] at hc1
            have hzt := HZ.out t hlt
            obtain ⟨x, hx⟩ : ∃ x, sz t = x := ⟨_, rfl⟩
            rw [hx] at hc1 hzt
            have hvb := offV_bd (sz := sz) (mo := mo) (m := m) (t := t) HZ.out hg hv0 HMoB.out htm hm.2
            obtain ⟨v, hv⟩ : ∃ v, offV sz mo gap 0 t = v := ⟨_, rfl⟩
            rw [hv] at hvb
            have HFl := hide (show fl (t + 1) (offV sz mo gap 0) = fl t (offV sz mo gap 0) ++ [v] by rw [fl_snoc, hv])
            clear hcell
            by_cases hk2 : t < k
            · have hk3 : (t : Int) < (k : Int) := by omega
              rw [show min t k = t by omega, hv]
              have hmt := HMoB.out t hlt
              obtain ⟨y, hy⟩ : ∃ y, mo t = y := ⟨_, rfl⟩
              rw [hy] at hmt
              have DV := hide (show offV sz mo gap 0 (min (t + 1) k) = v + (x + gap + y) by rw [show min (t + 1) k = t + 1 by omega, offV_succ, hv, hx, hy]; omega)
              have HY9 := hide hy
              clear hx hy hv
              go_wp2_with (at_builtin; refine wpList_push rfl (.tmp 57) (.tmp 59) 26 3 1 8 i0 _ rfl Try.underlying26 hi0 hz0 hz1 hz2 rfl (by omega) (by omega) W9 w.heap.size (.slice A t c') t (fl t (offV sz mo gap 0)) rfl HO.out [v] 1 1 rfl rfl (by omega) hz9 ?_; intro v1 w1 ho1 hb1 hg1 hv1; obtain ⟨A1, c1, hvv1, _, _, _⟩ := ho1.form; subst hvv1; have HO1 := hide ho1; have HB1 := hide (HB.out.trans hb1); have HMo1 := hide (HMo.out.keep (fun j h1 h2 h3 => hg1.block j h3 (fun e => by have := HSp.out j e.symm; omega))); have HSp1 := hide (own_next HSp.out hv1 (by omega)); have hhim1 := Nat.le_trans hhim hg1.size; have hd1 := (hb1.cell (p := ⟨b, off + t, none⟩) (by show b < w.heap.size; omega)).trans hc1; have hd2 := (HMo1.out.cell t hk2).1; rw [fl_at mo hk2, HY9.out, Nat.zero_add] at hd2; clear ho1 hb1 hg1 hv1)
              clear hc1 HO HSp HMo HB hhim
              go_roundw
              case rel => exact ⟨t + 1, _, _, _, by omega, by rw [DV.out], rfl, by go_num, rfl, by rw [HFl.out]; exact HO1, HSp1, hhim1, HMo1, HB1⟩
              case measure => simp [intOf]; omega
            · have hk3 : ¬ (t : Int) < (k : Int) := by omega
              rw [show min t k = t by omega, hv]
              have DV := hide (show offV sz mo gap 0 (min (t + 1) k) = v by rw [show min (t + 1) k = t by omega, hv])
              clear hx hv
              go_wp2_with (at_builtin; refine wpList_push rfl (.tmp 57) (.tmp 59) 26 3 1 8 i0 _ rfl Try.underlying26 hi0 hz0 hz1 hz2 rfl (by omega) (by omega) W9 w.heap.size (.slice A t c') t (fl t (offV sz mo gap 0)) rfl HO.out [v] 1 1 rfl rfl (by omega) hz9 ?_; intro v1 w1 ho1 hb1 hg1 hv1; obtain ⟨A1, c1, hvv1, _, _, _⟩ := ho1.form; subst hvv1; have HO1 := hide ho1; have HB1 := hide (HB.out.trans hb1); have HMo1 := hide (HMo.out.keep (fun j h1 h2 h3 => hg1.block j h3 (fun e => by have := HSp.out j e.symm; omega))); have HSp1 := hide (own_next HSp.out hv1 (by omega)); have hhim1 := Nat.le_trans hhim hg1.size; clear ho1 hb1 hg1 hv1)
              clear hc1 HO HSp HMo HB hhim
              go_roundw
              case rel => exact ⟨t + 1, _, _, _, by omega, by rw [DV.out], rfl, by go_num, rfl, by rw [HFl.out]; exact HO1, HSp1, hhim1, HMo1, HB1⟩
              case measure => simp [intOf]; omega
          · obtain rfl : m = t := by omega
            have D := hide (show ListR (fl m (offS sz m space gap just)) w (.returned (.slice A m c')) W9 by
              rw [← fl_congr (f := offV sz mo gap 0) (fun j hj => offV_eq HLe.out Hat.out HMoE.out hj)]
              exact ListR.own HO.out HB.out)
            clear HO HMo HB HSp
            go_wp2
            go_ret
            exact D.out
      · by_cases q2 : just = 2
        · have HLe := hide (show (0 : Int) = leftO sz m space gap by rw [HL.out]; omega)
          have hlb2 : 0 ≤ (0 : Int) ∧ (0 : Int) ≤ 100000 := by omega
          have Hat := hide (show (0 : Int) = atO 0 just by unfold atO; rw [if_neg (by omega), if_pos (by omega)]; rfl)
          have hv0 : 0 ≤ (0 : Int) ∧ (0 : Int) ≤ 100000 := by omega
          have j1 : (just == 1) = false := by simp; omega
          have j2 : (just == 2) = true := by simp; omega
          obtain ⟨mo, hmo⟩ : ∃ mo : Nat → Int, mo = fun _ => 0 := ⟨_, rfl⟩
          have HMoE := hide (fun t (ht : t + 1 < m) => (show mo t = moreO m 0 just t by unfold moreO; rw [hmo, if_neg (by omega)]))
          have HMoB := hide (fun t (ht : t < m) => (show 0 ≤ mo t ∧ mo t ≤ 100000 by rw [hmo]; exact ⟨Int.le_refl _, by show (0 : Int) ≤ 100000; omega⟩))
          have HMo := hide (show Row 3 ((w.alloc (.cells (madeCells #[.int .i64 0] k) 3)).alloc (.cells (madeCells #[.int .i64 0] m) 3)) w.heap.size (w.heap.size + 1) (some ⟨w.heap.size, 0, none⟩) k (fl k mo) by rw [hmo]; exact (rowF_alloc w k).keep fun h3 => heap_alloc_old _ _ h3)
          have HO := hide (show Own 3 1 ((w.alloc (.cells (madeCells #[.int .i64 0] k) 3)).alloc (.cells (madeCells #[.int .i64 0] m) 3)) w.heap.size (.slice (some ⟨w.heap.size + 1, 0, none⟩) 0 m) 0 [] from by have h := Own.made 3 1 (w.alloc (.cells (madeCells #[.int .i64 0] k) 3)) (madeCells #[.int .i64 0] m) m w.heap.size (by simp) (by omega) (by rw [size_madeCells, Nat.mul_one]); simp only [World.size_alloc] at h; exact h)
          have HB := hide (show Below w.heap.size w ((w.alloc (.cells (madeCells #[.int .i64 0] k) 3)).alloc (.cells (madeCells #[.int .i64 0] m) 3)) from ((Below.refl _ _).alloc (Nat.le_refl _) _).alloc (by simp) _)
          have hhim : w.heap.size + 1 ≤ ((w.alloc (.cells (madeCells #[.int .i64 0] k) 3)).alloc (.cells (madeCells #[.int .i64 0] m) 3)).heap.size := by simp
          have HSp := hide (show ∀ j, (Value.slice (some ⟨w.heap.size + 1, 0, none⟩) 0 m).ownBlock = some j → j < w.heap.size ∨ w.heap.size + 1 ≤ j from fun j e => by simp [Value.ownBlock] at e; omega)
          clear hmo
          go_enter Try.func47, Try.ntmps47
          go_wp2_with (go_at_call 59; refine HTot.out.mono ?_; rintro e w' ⟨rfl, rfl⟩)
          generalize (w.alloc (.cells (madeCells #[.int .i64 0] k) 3)).alloc (.cells (madeCells #[.int .i64 0] m) 3) = Wp at HO HB HMo hhim ⊢
          go_loopw [11, 13, 14, 15, 52] (fun s11 s13 _ _ s52 wr => ∃ (t c' : Nat) (A : Option Addr) (W9 : World), t ≤ m ∧ s11 = .int .i64 (offV sz mo gap 0 (min t k)) ∧ s13 = .slice A t c' ∧ s52 = .int .i64 t ∧ W9 = wr ∧ Hid (Own 3 1 W9 w.heap.size (.slice A t c') t (fl t (offV sz mo gap 0))) ∧ Hid (∀ j, (Value.slice A t c').ownBlock = some j → j < w.heap.size ∨ (w.heap.size + 1) ≤ j) ∧ (w.heap.size + 1) ≤ W9.heap.size ∧ Hid (Row 3 W9 w.heap.size (w.heap.size + 1) (some ⟨w.heap.size, 0, none⟩) k (fl k mo)) ∧ Hid (Below w.heap.size w W9)) (fun _ _ _ _ s52 _ => m - (intOf s52).toNat)
          case atStart => exact ⟨0, _, _, _, Nat.zero_le _, by rw [Nat.zero_min, offV_zero], rfl, rfl, rfl, HO, HSp, hhim, HMo, HB⟩
          case round =>
            clear HO HSp HMo HB hhim
            obtain ⟨t, c', A, W9, htm, rfl, rfl, rfl, rfl, HO, HSp, hhim, HMo, HB⟩ := hrel
            have hz9 := HB.out.size
            by_cases hlt : t < m
            · have hlt' : (t : Int) < (m : Int) := by omega
              obtain ⟨b', off', eb, -, hcell⟩ := (HA.out _ HB.out).2.2 (by omega)
              injection eb with eb
              injection eb with eb1 eb2
              subst eb1 eb2
              have hc1 := hcell t hlt
              rw [fl_at sz hlt] at hc1
              have hzt := HZ.out t hlt
              obtain ⟨x, hx⟩ : ∃ x, sz t = x := ⟨_, rfl⟩
              rw [hx] at hc1 hzt
              have hvb := offV_bd (sz := sz) (mo := mo) (m := m) (t := t) HZ.out hg hv0 HMoB.out htm hm.2
              obtain ⟨v, hv⟩ : ∃ v, offV sz mo gap 0 t = v := ⟨_, rfl⟩
              rw [hv] at hvb
              have HFl := hide (show fl (t + 1) (offV sz mo gap 0) = fl t (offV sz mo gap 0) ++ [v] by rw [fl_snoc, hv])
              clear hcell
              by_cases hk2 : t < k
              · have hk3 : (t : Int) < (k : Int) := by omega
                rw [show min t k = t by omega, hv]
                have hmt := HMoB.out t hlt
                obtain ⟨y, hy⟩ : ∃ y, mo t = y := ⟨_, rfl⟩
                rw [hy] at hmt
                have DV := hide (show offV sz mo gap 0 (min (t + 1) k) = v + (x + gap + y) by rw [show min (t + 1) k = t + 1 by omega, offV_succ, hv, hx, hy]; omega)
                have HY9 := hide hy
                clear hx hy hv
                go_wp2_with (at_builtin; refine wpList_push rfl (.tmp 57) (.tmp 59) 26 3 1 8 i0 _ rfl Try.underlying26 hi0 hz0 hz1 hz2 rfl (by omega) (by omega) W9 w.heap.size (.slice A t c') t (fl t (offV sz mo gap 0)) rfl HO.out [v] 1 1 rfl rfl (by omega) hz9 ?_; intro v1 w1 ho1 hb1 hg1 hv1; obtain ⟨A1, c1, hvv1, _, _, _⟩ := ho1.form; subst hvv1; have HO1 := hide ho1; have HB1 := hide (HB.out.trans hb1); have HMo1 := hide (HMo.out.keep (fun j h1 h2 h3 => hg1.block j h3 (fun e => by have := HSp.out j e.symm; omega))); have HSp1 := hide (own_next HSp.out hv1 (by omega)); have hhim1 := Nat.le_trans hhim hg1.size; have hd1 := (hb1.cell (p := ⟨b, off + t, none⟩) (by show b < w.heap.size; omega)).trans hc1; have hd2 := (HMo1.out.cell t hk2).1; rw [fl_at mo hk2, HY9.out, Nat.zero_add] at hd2; clear ho1 hb1 hg1 hv1)
                clear hc1 HO HSp HMo HB hhim
                go_roundw
                case rel => exact ⟨t + 1, _, _, _, by omega, by rw [DV.out], rfl, by go_num, rfl, by rw [HFl.out]; exact HO1, HSp1, hhim1, HMo1, HB1⟩
                case measure => simp [intOf]; omega
              · have hk3 : ¬ (t : Int) < (k : Int) := by omega
                rw [show min t k = t by omega, hv]
                have DV := hide (show offV sz mo gap 0 (min (t + 1) k) = v by rw [show min (t + 1) k = t by omega, hv])
                clear hx hv
                go_wp2_with (at_builtin; refine wpList_push rfl (.tmp 57) (.tmp 59) 26 3 1 8 i0 _ rfl Try.underlying26 hi0 hz0 hz1 hz2 rfl (by omega) (by omega) W9 w.heap.size (.slice A t c') t (fl t (offV sz mo gap 0)) rfl HO.out [v] 1 1 rfl rfl (by omega) hz9 ?_; intro v1 w1 ho1 hb1 hg1 hv1; obtain ⟨A1, c1, hvv1, _, _, _⟩ := ho1.form; subst hvv1; have HO1 := hide ho1; have HB1 := hide (HB.out.trans hb1); have HMo1 := hide (HMo.out.keep (fun j h1 h2 h3 => hg1.block j h3 (fun e => by have := HSp.out j e.symm; omega))); have HSp1 := hide (own_next HSp.out hv1 (by omega)); have hhim1 := Nat.le_trans hhim hg1.size; clear ho1 hb1 hg1 hv1)
                clear hc1 HO HSp HMo HB hhim
                go_roundw
                case rel => exact ⟨t + 1, _, _, _, by omega, by rw [DV.out], rfl, by go_num, rfl, by rw [HFl.out]; exact HO1, HSp1, hhim1, HMo1, HB1⟩
                case measure => simp [intOf]; omega
            · obtain rfl : m = t := by omega
              have D := hide (show ListR (fl m (offS sz m space gap just)) w (.returned (.slice A m c')) W9 by
                rw [← fl_congr (f := offV sz mo gap 0) (fun j hj => offV_eq HLe.out Hat.out HMoE.out hj)]
                exact ListR.own HO.out HB.out)
              clear HO HMo HB HSp
              go_wp2
              go_ret
              exact D.out
        · have q3 : just = 3 := by omega
          by_cases qm : 1 < m
          · have HLe := hide (show (0 : Int) = leftO sz m space gap by rw [HL.out]; omega)
            have hlb2 : 0 ≤ (0 : Int) ∧ (0 : Int) ≤ 100000 := by omega
            have Hat := hide (show (0 : Int) = atO 0 just by unfold atO; rw [if_neg (by omega), if_neg (by omega)])
            have hv0 : 0 ≤ (0 : Int) ∧ (0 : Int) ≤ 100000 := by omega
            have j1 : (just == 1) = false := by simp; omega
            have j2 : (just == 2) = false := by simp; omega
            have j3 : (just == 3) = true := by simp; omega
            have hk1 : 1 ≤ k ∧ k ≤ 7 := by omega
            have hk0 : 0 < (k : Int) := by omega
            obtain ⟨mo, hmo⟩ : ∃ mo : Nat → Int, mo = moS 0 k := ⟨_, rfl⟩
            have HMoE := hide (fun t (ht : t + 1 < m) => (show mo t = moreO m 0 just t by rw [hmo, show k = m - 1 by omega]; exact moS_more (by omega) t ht))
            have HMoB := hide (fun t (ht : t < m) => (show 0 ≤ mo t ∧ mo t ≤ 100000 by rw [hmo]; exact moS_bd hlb2 k t))
            have HMoL := hide (show shareL 0 (List.replicate k 1) = fl k mo by rw [hmo]; exact fl_shareK.symm)
            have HRep := hide (repeat_any (w.heap.size + 2) k 1 (some ⟨w.heap.size + 1, 0, none⟩) ((w.alloc (.cells (madeCells #[.int .i64 0] k) 3)).alloc (.cells #[.int .i64 1] 3)) (by have h := ints_one (w.alloc (.cells (madeCells #[.int .i64 0] k) 3)); rw [show (w.alloc (.cells (madeCells #[.int .i64 0] k) 3)).heap.size = w.heap.size + 1 by simp] at h; exact h.more (by omega)) (by simp) hk1)
            have HB0 := hide (show Below w.heap.size w ((w.alloc (.cells (madeCells #[.int .i64 0] k) 3)).alloc (.cells #[.int .i64 1] 3)) from ((Below.refl _ _).alloc (Nat.le_refl _) _).alloc (by simp) _)
            have hz0' : ((w.alloc (.cells (madeCells #[.int .i64 0] k) 3)).alloc (.cells #[.int .i64 1] 3)).heap.size = w.heap.size + 2 := by simp
            clear hmo
            go_enter Try.func47, Try.ntmps47
            go_wp2_with (go_at_call 59; refine HTot.out.mono ?_; rintro e w' ⟨rfl, rfl⟩)
            refine HRep.out.mono ?_
            rintro e W2 ⟨A2, n2, c2, rfl, hr2, hb2⟩
            obtain rfl : k = n2 := by have h1 := hr2.1; rw [List.length_replicate] at h1; exact h1
            have HR2 := hide hr2
            have HB2 := hide (HB0.out.trans (hb2.mono (by rw [hz0']; omega)))
            have hz2' := hb2.size
            rw [hz0'] at hz2'
            clear hr2 hb2 HRep
            have HSh := hide (implShare_any W2.heap.size A2 k c2 (List.replicate k 1) 0 W2 HR2.out.ints (Nat.le_refl _) (by omega) (ones_ok k) (by omega))
            go_wp2_with fail
            refine HSh.out.mono ?_
            rintro e W3 ⟨A3, n3, c3, rfl, hn3, hc3, hr3, hb3⟩
            obtain rfl : k = n3 := by have h1 := hr3.1; rw [shareL_len, List.length_replicate] at h1; exact h1
            have HR3 := hide hr3
            have HB3 := hide (HB2.out.trans (hb3.mono (by omega)))
            have hz3' := hb3.size
            clear hr3 hb3 HSh
            have hr1 := HR3.out
            rw [HMoL.out] at hr1
            obtain ⟨bm, om, hA1⟩ : ∃ bm om, A3 = some ⟨bm, om, none⟩ := by
              obtain ⟨g, o9, cur, e, -⟩ := hr1.2 (by omega)
              exact ⟨g, o9, e⟩
            subst hA1
            have HMo := hide (show Row 3 (W3.alloc (.cells (madeCells #[.int .i64 0] m) 3)) W2.heap.size W3.heap.size (some ⟨bm, om, none⟩) k (fl k mo) from hr1.keep fun j h1 h2 h3 => heap_alloc_old _ _ h3)
            have HO := hide (show Own 3 1 (W3.alloc (.cells (madeCells #[.int .i64 0] m) 3)) w.heap.size (.slice (some ⟨W3.heap.size, 0, none⟩) 0 m) 0 [] from Own.made 3 1 W3 (madeCells #[.int .i64 0] m) m w.heap.size HB3.out.size (by omega) (by rw [size_madeCells, Nat.mul_one]))
            have HB := hide (show Below w.heap.size w (W3.alloc (.cells (madeCells #[.int .i64 0] m) 3)) from HB3.out.alloc HB3.out.size _)
            have hhim : W3.heap.size ≤ (W3.alloc (.cells (madeCells #[.int .i64 0] m) 3)).heap.size := by simp
            have HSp := hide (show ∀ j, (Value.slice (some ⟨W3.heap.size, 0, none⟩) 0 m).ownBlock = some j → j < W2.heap.size ∨ W3.heap.size ≤ j from fun j e => by simp [Value.ownBlock] at e; omega)
            clear hr1 HR3 HR2 HB3 HB2 HB0 HMoL
            go_wp2
            generalize W3.alloc (.cells (madeCells #[.int .i64 0] m) 3) = Wp at HO HB HMo hhim ⊢
            go_loopw [11, 13, 14, 15, 52] (fun s11 s13 _ _ s52 wr => ∃ (t c' : Nat) (A : Option Addr) (W9 : World), t ≤ m ∧ s11 = .int .i64 (offV sz mo gap 0 (min t k)) ∧ s13 = .slice A t c' ∧ s52 = .int .i64 t ∧ W9 = wr ∧ Hid (Own 3 1 W9 w.heap.size (.slice A t c') t (fl t (offV sz mo gap 0))) ∧ Hid (∀ j, (Value.slice A t c').ownBlock = some j → j < W2.heap.size ∨ W3.heap.size ≤ j) ∧ W3.heap.size ≤ W9.heap.size ∧ Hid (Row 3 W9 W2.heap.size W3.heap.size (some ⟨bm, om, none⟩) k (fl k mo)) ∧ Hid (Below w.heap.size w W9)) (fun _ _ _ _ s52 _ => m - (intOf s52).toNat)
            case atStart => exact ⟨0, _, _, _, Nat.zero_le _, by rw [Nat.zero_min, offV_zero], rfl, rfl, rfl, HO, HSp, hhim, HMo, HB⟩
            case round =>
              clear HO HSp HMo HB hhim
              obtain ⟨t, c', A, W9, htm, rfl, rfl, rfl, rfl, HO, HSp, hhim, HMo, HB⟩ := hrel
              have hz9 := HB.out.size
              by_cases hlt : t < m
              · have hlt' : (t : Int) < (m : Int) := by omega
                obtain ⟨b', off', eb, -, hcell⟩ := (HA.out _ HB.out).2.2 (by omega)
                injection eb with eb
                injection eb with eb1 eb2
                subst eb1 eb2
                have hc1 := hcell t hlt
                rw [fl_at sz hlt] at hc1
                have hzt := HZ.out t hlt
                obtain ⟨x, hx⟩ : ∃ x, sz t = x := ⟨_, rfl⟩
                rw [hx] at hc1 hzt
                have hvb := offV_bd (sz := sz) (mo := mo) (m := m) (t := t) HZ.out hg hv0 HMoB.out htm hm.2
                obtain ⟨v, hv⟩ : ∃ v, offV sz mo gap 0 t = v := ⟨_, rfl⟩
                rw [hv] at hvb
                have HFl := hide (show fl (t + 1) (offV sz mo gap 0) = fl t (offV sz mo gap 0) ++ [v] by rw [fl_snoc, hv])
                clear hcell
                by_cases hk2 : t < k
                · have hk3 : (t : Int) < (k : Int) := by omega
                  rw [show min t k = t by omega, hv]
                  have hmt := HMoB.out t hlt
                  obtain ⟨y, hy⟩ : ∃ y, mo t = y := ⟨_, rfl⟩
                  rw [hy] at hmt
                  have DV := hide (show offV sz mo gap 0 (min (t + 1) k) = v + (x + gap + y) by rw [show min (t + 1) k = t + 1 by omega, offV_succ, hv, hx, hy]; omega)
                  have HY9 := hide hy
                  clear hx hy hv
                  go_wp2_with (at_builtin; refine wpList_push rfl (.tmp 57) (.tmp 59) 26 3 1 8 i0 _ rfl Try.underlying26 hi0 hz0 hz1 hz2 rfl (by omega) (by omega) W9 w.heap.size (.slice A t c') t (fl t (offV sz mo gap 0)) rfl HO.out [v] 1 1 rfl rfl (by omega) hz9 ?_; intro v1 w1 ho1 hb1 hg1 hv1; obtain ⟨A1, c1, hvv1, _, _, _⟩ := ho1.form; subst hvv1; have HO1 := hide ho1; have HB1 := hide (HB.out.trans hb1); have HMo1 := hide (HMo.out.keep (fun j h1 h2 h3 => hg1.block j h3 (fun e => by have := HSp.out j e.symm; omega))); have HSp1 := hide (own_next HSp.out hv1 (by omega)); have hhim1 := Nat.le_trans hhim hg1.size; have hd1 := (hb1.cell (p := ⟨b, off + t, none⟩) (by show b < w.heap.size; omega)).trans hc1; have hd2 := (HMo1.out.cell t hk2).1; rw [fl_at mo hk2, HY9.out] at hd2; clear ho1 hb1 hg1 hv1)
                  clear hc1 HO HSp HMo HB hhim
                  go_roundw
                  case rel => exact ⟨t + 1, _, _, _, by omega, by rw [DV.out], rfl, by go_num, rfl, by rw [HFl.out]; exact HO1, HSp1, hhim1, HMo1, HB1⟩
                  case measure => simp [intOf]; omega
                · have hk3 : ¬ (t : Int) < (k : Int) := by omega
                  rw [show min t k = t by omega, hv]
                  have DV := hide (show offV sz mo gap 0 (min (t + 1) k) = v by rw [show min (t + 1) k = t by omega, hv])
                  clear hx hv
                  go_wp2_with (at_builtin; refine wpList_push rfl (.tmp 57) (.tmp 59) 26 3 1 8 i0 _ rfl Try.underlying26 hi0 hz0 hz1 hz2 rfl (by omega) (by omega) W9 w.heap.size (.slice A t c') t (fl t (offV sz mo gap 0)) rfl HO.out [v] 1 1 rfl rfl (by omega) hz9 ?_; intro v1 w1 ho1 hb1 hg1 hv1; obtain ⟨A1, c1, hvv1, _, _, _⟩ := ho1.form; subst hvv1; have HO1 := hide ho1; have HB1 := hide (HB.out.trans hb1); have HMo1 := hide (HMo.out.keep (fun j h1 h2 h3 => hg1.block j h3 (fun e => by have := HSp.out j e.symm; omega))); have HSp1 := hide (own_next HSp.out hv1 (by omega)); have hhim1 := Nat.le_trans hhim hg1.size; clear ho1 hb1 hg1 hv1)
                  clear hc1 HO HSp HMo HB hhim
                  go_roundw
                  case rel => exact ⟨t + 1, _, _, _, by omega, by rw [DV.out], rfl, by go_num, rfl, by rw [HFl.out]; exact HO1, HSp1, hhim1, HMo1, HB1⟩
                  case measure => simp [intOf]; omega
              · obtain rfl : m = t := by omega
                have D := hide (show ListR (fl m (offS sz m space gap just)) w (.returned (.slice A m c')) W9 by
                  rw [← fl_congr (f := offV sz mo gap 0) (fun j hj => offV_eq HLe.out Hat.out HMoE.out hj)]
                  exact ListR.own HO.out HB.out)
                clear HO HMo HB HSp
                go_wp2
                go_ret
                exact D.out
          · have HLe := hide (show (0 : Int) = leftO sz m space gap by rw [HL.out]; omega)
            have hlb2 : 0 ≤ (0 : Int) ∧ (0 : Int) ≤ 100000 := by omega
            have Hat := hide (show (0 : Int) = atO 0 just by unfold atO; rw [if_neg (by omega), if_neg (by omega)])
            have hv0 : 0 ≤ (0 : Int) ∧ (0 : Int) ≤ 100000 := by omega
            have j1 : (just == 1) = false := by simp; omega
            have j2 : (just == 2) = false := by simp; omega
            have j3 : (just == 3) = true := by simp; omega
            have hkn : ¬ 0 < (k : Int) := by omega
            have hkn' : ¬ 0 < k := by omega
            obtain ⟨mo, hmo⟩ : ∃ mo : Nat → Int, mo = fun _ => 0 := ⟨_, rfl⟩
            have HMoE := hide (fun t (ht : t + 1 < m) => (show mo t = moreO m 0 just t by unfold moreO; rw [hmo, if_neg (by omega)]))
            have HMoB := hide (fun t (ht : t < m) => (show 0 ≤ mo t ∧ mo t ≤ 100000 by rw [hmo]; exact ⟨Int.le_refl _, by show (0 : Int) ≤ 100000; omega⟩))
            have HMo := hide (show Row 3 ((w.alloc (.cells (madeCells #[.int .i64 0] k) 3)).alloc (.cells (madeCells #[.int .i64 0] m) 3)) w.heap.size (w.heap.size + 1) (some ⟨w.heap.size, 0, none⟩) k (fl k mo) by rw [hmo]; exact (rowF_alloc w k).keep fun h3 => heap_alloc_old _ _ h3)
            have HO := hide (show Own 3 1 ((w.alloc (.cells (madeCells #[.int .i64 0] k) 3)).alloc (.cells (madeCells #[.int .i64 0] m) 3)) w.heap.size (.slice (some ⟨w.heap.size + 1, 0, none⟩) 0 m) 0 [] from by have h := Own.made 3 1 (w.alloc (.cells (madeCells #[.int .i64 0] k) 3)) (madeCells #[.int .i64 0] m) m w.heap.size (by simp) (by omega) (by rw [size_madeCells, Nat.mul_one]); simp only [World.size_alloc] at h; exact h)
            have HB := hide (show Below w.heap.size w ((w.alloc (.cells (madeCells #[.int .i64 0] k) 3)).alloc (.cells (madeCells #[.int .i64 0] m) 3)) from ((Below.refl _ _).alloc (Nat.le_refl _) _).alloc (by simp) _)
            have hhim : w.heap.size + 1 ≤ ((w.alloc (.cells (madeCells #[.int .i64 0] k) 3)).alloc (.cells (madeCells #[.int .i64 0] m) 3)).heap.size := by simp
            have HSp := hide (show ∀ j, (Value.slice (some ⟨w.heap.size + 1, 0, none⟩) 0 m).ownBlock = some j → j < w.heap.size ∨ w.heap.size + 1 ≤ j from fun j e => by simp [Value.ownBlock] at e; omega)
            clear hmo
            go_enter Try.func47, Try.ntmps47
            go_wp2_with (go_at_call 59; refine HTot.out.mono ?_; rintro e w' ⟨rfl, rfl⟩)
            generalize (w.alloc (.cells (madeCells #[.int .i64 0] k) 3)).alloc (.cells (madeCells #[.int .i64 0] m) 3) = Wp at HO HB HMo hhim ⊢
            go_loopw [11, 13, 14, 15, 52] (fun s11 s13 _ _ s52 wr => ∃ (t c' : Nat) (A : Option Addr) (W9 : World), t ≤ m ∧ s11 = .int .i64 (offV sz mo gap 0 (min t k)) ∧ s13 = .slice A t c' ∧ s52 = .int .i64 t ∧ W9 = wr ∧ Hid (Own 3 1 W9 w.heap.size (.slice A t c') t (fl t (offV sz mo gap 0))) ∧ Hid (∀ j, (Value.slice A t c').ownBlock = some j → j < w.heap.size ∨ (w.heap.size + 1) ≤ j) ∧ (w.heap.size + 1) ≤ W9.heap.size ∧ Hid (Row 3 W9 w.heap.size (w.heap.size + 1) (some ⟨w.heap.size, 0, none⟩) k (fl k mo)) ∧ Hid (Below w.heap.size w W9)) (fun _ _ _ _ s52 _ => m - (intOf s52).toNat)
            case atStart => exact ⟨0, _, _, _, Nat.zero_le _, by rw [Nat.zero_min, offV_zero], rfl, rfl, rfl, HO, HSp, hhim, HMo, HB⟩
            case round =>
              clear HO HSp HMo HB hhim
              obtain ⟨t, c', A, W9, htm, rfl, rfl, rfl, rfl, HO, HSp, hhim, HMo, HB⟩ := hrel
              have hz9 := HB.out.size
              by_cases hlt : t < m
              · have hlt' : (t : Int) < (m : Int) := by omega
                obtain ⟨b', off', eb, -, hcell⟩ := (HA.out _ HB.out).2.2 (by omega)
                injection eb with eb
                injection eb with eb1 eb2
                subst eb1 eb2
                have hc1 := hcell t hlt
                rw [fl_at sz hlt] at hc1
                have hzt := HZ.out t hlt
                obtain ⟨x, hx⟩ : ∃ x, sz t = x := ⟨_, rfl⟩
                rw [hx] at hc1 hzt
                have hvb := offV_bd (sz := sz) (mo := mo) (m := m) (t := t) HZ.out hg hv0 HMoB.out htm hm.2
                obtain ⟨v, hv⟩ : ∃ v, offV sz mo gap 0 t = v := ⟨_, rfl⟩
                rw [hv] at hvb
                have HFl := hide (show fl (t + 1) (offV sz mo gap 0) = fl t (offV sz mo gap 0) ++ [v] by rw [fl_snoc, hv])
                clear hcell
                by_cases hk2 : t < k
                · exact absurd hk2 (by omega)
                · have hk3 : ¬ (t : Int) < (k : Int) := by omega
                  rw [show min t k = t by omega, hv]
                  have DV := hide (show offV sz mo gap 0 (min (t + 1) k) = v by rw [show min (t + 1) k = t by omega, hv])
                  clear hx hv
                  go_wp2_with (at_builtin; refine wpList_push rfl (.tmp 57) (.tmp 59) 26 3 1 8 i0 _ rfl Try.underlying26 hi0 hz0 hz1 hz2 rfl (by omega) (by omega) W9 w.heap.size (.slice A t c') t (fl t (offV sz mo gap 0)) rfl HO.out [v] 1 1 rfl rfl (by omega) hz9 ?_; intro v1 w1 ho1 hb1 hg1 hv1; obtain ⟨A1, c1, hvv1, _, _, _⟩ := ho1.form; subst hvv1; have HO1 := hide ho1; have HB1 := hide (HB.out.trans hb1); have HMo1 := hide (HMo.out.keep (fun j h1 h2 h3 => hg1.block j h3 (fun e => by have := HSp.out j e.symm; omega))); have HSp1 := hide (own_next HSp.out hv1 (by omega)); have hhim1 := Nat.le_trans hhim hg1.size; clear ho1 hb1 hg1 hv1)
                  clear hc1 HO HSp HMo HB hhim
                  go_roundw
                  case rel => exact ⟨t + 1, _, _, _, by omega, by rw [DV.out], rfl, by go_num, rfl, by rw [HFl.out]; exact HO1, HSp1, hhim1, HMo1, HB1⟩
                  case measure => simp [intOf]; omega
              · obtain rfl : m = t := by omega
                have D := hide (show ListR (fl m (offS sz m space gap just)) w (.returned (.slice A m c')) W9 by
                  rw [← fl_congr (f := offV sz mo gap 0) (fun j hj => offV_eq HLe.out Hat.out HMoE.out hj)]
                  exact ListR.own HO.out HB.out)
                clear HO HMo HB HSp
                go_wp2
                go_ret
                exact D.out
  · have hX2 : 0 ≤ l := by omega
    obtain ⟨h2, hh2⟩ : ∃ h2, l / 2 = h2 := ⟨_, rfl⟩
    have Hh2 := hide hh2
    have htd : l.tdiv 2 = h2 := by rw [Int.tdiv_eq_ediv_of_nonneg (by omega)]; exact hh2
    have h2b : 0 ≤ h2 ∧ h2 ≤ 100000 := by omega
    clear hh2
    by_cases q0 : just = 0
    · have HLe := hide (show (l : Int) = leftO sz m space gap by rw [HL.out]; omega)
      have hlb2 : 0 ≤ (l : Int) ∧ (l : Int) ≤ 100000 := by omega
      have Hat := hide (show (0 : Int) = atO l just by unfold atO; rw [if_neg (by omega), if_neg (by omega)])
      have hv0 : 0 ≤ (0 : Int) ∧ (0 : Int) ≤ 100000 := by omega
      have j1 : (just == 1) = false := by simp; omega
      have j2 : (just == 2) = false := by simp; omega
      have j3 : (just == 3) = false := by simp; omega
      obtain ⟨mo, hmo⟩ : ∃ mo : Nat → Int, mo = fun _ => 0 := ⟨_, rfl⟩
      have HMoE := hide (fun t (ht : t + 1 < m) => (show mo t = moreO m l just t by unfold moreO; rw [hmo, if_neg (by omega)]))
      have HMoB := hide (fun t (ht : t < m) => (show 0 ≤ mo t ∧ mo t ≤ 100000 by rw [hmo]; exact ⟨Int.le_refl _, by show (0 : Int) ≤ 100000; omega⟩))
      have HMo := hide (show Row 3 ((w.alloc (.cells (madeCells #[.int .i64 0] k) 3)).alloc (.cells (madeCells #[.int .i64 0] m) 3)) w.heap.size (w.heap.size + 1) (some ⟨w.heap.size, 0, none⟩) k (fl k mo) by rw [hmo]; exact (rowF_alloc w k).keep fun h3 => heap_alloc_old _ _ h3)
      have HO := hide (show Own 3 1 ((w.alloc (.cells (madeCells #[.int .i64 0] k) 3)).alloc (.cells (madeCells #[.int .i64 0] m) 3)) w.heap.size (.slice (some ⟨w.heap.size + 1, 0, none⟩) 0 m) 0 [] from by have h := Own.made 3 1 (w.alloc (.cells (madeCells #[.int .i64 0] k) 3)) (madeCells #[.int .i64 0] m) m w.heap.size (by simp) (by omega) (by rw [size_madeCells, Nat.mul_one]); simp only [World.size_alloc] at h; exact h)
      have HB := hide (show Below w.heap.size w ((w.alloc (.cells (madeCells #[.int .i64 0] k) 3)).alloc (.cells (madeCells #[.int .i64 0] m) 3)) from ((Below.refl _ _).alloc (Nat.le_refl _) _).alloc (by simp) _)
      have hhim : w.heap.size + 1 ≤ ((w.alloc (.cells (madeCells #[.int .i64 0] k) 3)).alloc (.cells (madeCells #[.int .i64 0] m) 3)).heap.size := by simp
      have HSp := hide (show ∀ j, (Value.slice (some ⟨w.heap.size + 1, 0, none⟩) 0 m).ownBlock = some j → j < w.heap.size ∨ w.heap.size + 1 ≤ j from fun j e => by simp [Value.ownBlock] at e; omega)
      clear hmo
      go_enter Try.func47, Try.ntmps47
      go_wp2_with (go_at_call 59; refine HTot.out.mono ?_; rintro e w' ⟨rfl, rfl⟩)
      generalize (w.alloc (.cells (madeCells #[.int .i64 0] k) 3)).alloc (.cells (madeCells #[.int .i64 0] m) 3) = Wp at HO HB HMo hhim ⊢
      go_loopw [11, 13, 14, 15, 52] (fun s11 s13 _ _ s52 wr => ∃ (t c' : Nat) (A : Option Addr) (W9 : World), t ≤ m ∧ s11 = .int .i64 (offV sz mo gap 0 (min t k)) ∧ s13 = .slice A t c' ∧ s52 = .int .i64 t ∧ W9 = wr ∧ Hid (Own 3 1 W9 w.heap.size (.slice A t c') t (fl t (offV sz mo gap 0))) ∧ Hid (∀ j, (Value.slice A t c').ownBlock = some j → j < w.heap.size ∨ (w.heap.size + 1) ≤ j) ∧ (w.heap.size + 1) ≤ W9.heap.size ∧ Hid (Row 3 W9 w.heap.size (w.heap.size + 1) (some ⟨w.heap.size, 0, none⟩) k (fl k mo)) ∧ Hid (Below w.heap.size w W9)) (fun _ _ _ _ s52 _ => m - (intOf s52).toNat)
      case atStart => exact ⟨0, _, _, _, Nat.zero_le _, by rw [Nat.zero_min, offV_zero], rfl, rfl, rfl, HO, HSp, hhim, HMo, HB⟩
      case round =>
        clear HO HSp HMo HB hhim
        obtain ⟨t, c', A, W9, htm, rfl, rfl, rfl, rfl, HO, HSp, hhim, HMo, HB⟩ := hrel
        have hz9 := HB.out.size
        by_cases hlt : t < m
        · have hlt' : (t : Int) < (m : Int) := by omega
          obtain ⟨b', off', eb, -, hcell⟩ := (HA.out _ HB.out).2.2 (by omega)
          injection eb with eb
          injection eb with eb1 eb2
          subst eb1 eb2
          have hc1 := hcell t hlt
          rw [fl_at sz hlt] at hc1
          have hzt := HZ.out t hlt
          obtain ⟨x, hx⟩ : ∃ x, sz t = x := ⟨_, rfl⟩
          rw [hx] at hc1 hzt
          have hvb := offV_bd (sz := sz) (mo := mo) (m := m) (t := t) HZ.out hg hv0 HMoB.out htm hm.2
          obtain ⟨v, hv⟩ : ∃ v, offV sz mo gap 0 t = v := ⟨_, rfl⟩
          rw [hv] at hvb
          have HFl := hide (show fl (t + 1) (offV sz mo gap 0) = fl t (offV sz mo gap 0) ++ [v] by rw [fl_snoc, hv])
          clear hcell
          by_cases hk2 : t < k
          · have hk3 : (t : Int) < (k : Int) := by omega
            rw [show min t k = t by omega, hv]
            have hmt := HMoB.out t hlt
            obtain ⟨y, hy⟩ : ∃ y, mo t = y := ⟨_, rfl⟩
            rw [hy] at hmt
            have DV := hide (show offV sz mo gap 0 (min (t + 1) k) = v + (x + gap + y) by rw [show min (t + 1) k = t + 1 by omega, offV_succ, hv, hx, hy]; omega)
            have HY9 := hide hy
            clear hx hy hv
            go_wp2_with (at_builtin; refine wpList_push rfl (.tmp 57) (.tmp 59) 26 3 1 8 i0 _ rfl Try.underlying26 hi0 hz0 hz1 hz2 rfl (by omega) (by omega) W9 w.heap.size (.slice A t c') t (fl t (offV sz mo gap 0)) rfl HO.out [v] 1 1 rfl rfl (by omega) hz9 ?_; intro v1 w1 ho1 hb1 hg1 hv1; obtain ⟨A1, c1, hvv1, _, _, _⟩ := ho1.form; subst hvv1; have HO1 := hide ho1; have HB1 := hide (HB.out.trans hb1); have HMo1 := hide (HMo.out.keep (fun j h1 h2 h3 => hg1.block j h3 (fun e => by have := HSp.out j e.symm; omega))); have HSp1 := hide (own_next HSp.out hv1 (by omega)); have hhim1 := Nat.le_trans hhim hg1.size; have hd1 := (hb1.cell (p := ⟨b, off + t, none⟩) (by show b < w.heap.size; omega)).trans hc1; have hd2 := (HMo1.out.cell t hk2).1; rw [fl_at mo hk2, HY9.out, Nat.zero_add] at hd2; clear ho1 hb1 hg1 hv1)
            clear hc1 HO HSp HMo HB hhim
            go_roundw
            case rel => exact ⟨t + 1, _, _, _, by omega, by rw [DV.out], rfl, by go_num, rfl, by rw [HFl.out]; exact HO1, HSp1, hhim1, HMo1, HB1⟩
            case measure => simp [intOf]; omega
          · have hk3 : ¬ (t : Int) < (k : Int) := by omega
            rw [show min t k = t by omega, hv]
            have DV := hide (show offV sz mo gap 0 (min (t + 1) k) = v by rw [show min (t + 1) k = t by omega, hv])
            clear hx hv
            go_wp2_with (at_builtin; refine wpList_push rfl (.tmp 57) (.tmp 59) 26 3 1 8 i0 _ rfl Try.underlying26 hi0 hz0 hz1 hz2 rfl (by omega) (by omega) W9 w.heap.size (.slice A t c') t (fl t (offV sz mo gap 0)) rfl HO.out [v] 1 1 rfl rfl (by omega) hz9 ?_; intro v1 w1 ho1 hb1 hg1 hv1; obtain ⟨A1, c1, hvv1, _, _, _⟩ := ho1.form; subst hvv1; have HO1 := hide ho1; have HB1 := hide (HB.out.trans hb1); have HMo1 := hide (HMo.out.keep (fun j h1 h2 h3 => hg1.block j h3 (fun e => by have := HSp.out j e.symm; omega))); have HSp1 := hide (own_next HSp.out hv1 (by omega)); have hhim1 := Nat.le_trans hhim hg1.size; clear ho1 hb1 hg1 hv1)
            clear hc1 HO HSp HMo HB hhim
            go_roundw
            case rel => exact ⟨t + 1, _, _, _, by omega, by rw [DV.out], rfl, by go_num, rfl, by rw [HFl.out]; exact HO1, HSp1, hhim1, HMo1, HB1⟩
            case measure => simp [intOf]; omega
        · obtain rfl : m = t := by omega
          have D := hide (show ListR (fl m (offS sz m space gap just)) w (.returned (.slice A m c')) W9 by
            rw [← fl_congr (f := offV sz mo gap 0) (fun j hj => offV_eq HLe.out Hat.out HMoE.out hj)]
            exact ListR.own HO.out HB.out)
          clear HO HMo HB HSp
          go_wp2
          go_ret
          exact D.out
    · by_cases q1 : just = 1
      · have HLe := hide (show (l : Int) = leftO sz m space gap by rw [HL.out]; omega)
        have hlb2 : 0 ≤ (l : Int) ∧ (l : Int) ≤ 100000 := by omega
        have Hat := hide (show (l : Int) = atO l just by unfold atO; rw [if_pos (by omega)])
        have hv0 : 0 ≤ (l : Int) ∧ (l : Int) ≤ 100000 := by omega
        have j1 : (just == 1) = true := by simp; omega
        obtain ⟨mo, hmo⟩ : ∃ mo : Nat → Int, mo = fun _ => 0 := ⟨_, rfl⟩
        have HMoE := hide (fun t (ht : t + 1 < m) => (show mo t = moreO m l just t by unfold moreO; rw [hmo, if_neg (by omega)]))
        have HMoB := hide (fun t (ht : t < m) => (show 0 ≤ mo t ∧ mo t ≤ 100000 by rw [hmo]; exact ⟨Int.le_refl _, by show (0 : Int) ≤ 100000; omega⟩))
        have HMo := hide (show Row 3 ((w.alloc (.cells (madeCells #[.int .i64 0] k) 3)).alloc (.cells (madeCells #[.int .i64 0] m) 3)) w.heap.size (w.heap.size + 1) (some ⟨w.heap.size, 0, none⟩) k (fl k mo) by rw [hmo]; exact (rowF_alloc w k).keep fun h3 => heap_alloc_old _ _ h3)
        have HO := hide (show Own 3 1 ((w.alloc (.cells (madeCells #[.int .i64 0] k) 3)).alloc (.cells (madeCells #[.int .i64 0] m) 3)) w.heap.size (.slice (some ⟨w.heap.size + 1, 0, none⟩) 0 m) 0 [] from by have h := Own.made 3 1 (w.alloc (.cells (madeCells #[.int .i64 0] k) 3)) (madeCells #[.int .i64 0] m) m w.heap.size (by simp) (by omega) (by rw [size_madeCells, Nat.mul_one]); simp only [World.size_alloc] at h; exact h)
        have HB := hide (show Below w.heap.size w ((w.alloc (.cells (madeCells #[.int .i64 0] k) 3)).alloc (.cells (madeCells #[.int .i64 0] m) 3)) from ((Below.refl _ _).alloc (Nat.le_refl _) _).alloc (by simp) _)
        have hhim : w.heap.size + 1 ≤ ((w.alloc (.cells (madeCells #[.int .i64 0] k) 3)).alloc (.cells (madeCells #[.int .i64 0] m) 3)).heap.size := by simp
        have HSp := hide (show ∀ j, (Value.slice (some ⟨w.heap.size + 1, 0, none⟩) 0 m).ownBlock = some j → j < w.heap.size ∨ w.heap.size + 1 ≤ j from fun j e => by simp [Value.ownBlock] at e; omega)
        clear hmo
        go_enter Try.func47, Try.ntmps47
        go_wp2_with (go_at_call 59; refine HTot.out.mono ?_; rintro e w' ⟨rfl, rfl⟩)
        generalize (w.alloc (.cells (madeCells #[.int .i64 0] k) 3)).alloc (.cells (madeCells #[.int .i64 0] m) 3) = Wp at HO HB HMo hhim ⊢
        go_loopw [11, 13, 14, 15, 52] (fun s11 s13 _ _ s52 wr => ∃ (t c' : Nat) (A : Option Addr) (W9 : World), t ≤ m ∧ s11 = .int .i64 (offV sz mo gap l (min t k)) ∧ s13 = .slice A t c' ∧ s52 = .int .i64 t ∧ W9 = wr ∧ Hid (Own 3 1 W9 w.heap.size (.slice A t c') t (fl t (offV sz mo gap l))) ∧ Hid (∀ j, (Value.slice A t c').ownBlock = some j → j < w.heap.size ∨ (w.heap.size + 1) ≤ j) ∧ (w.heap.size + 1) ≤ W9.heap.size ∧ Hid (Row 3 W9 w.heap.size (w.heap.size + 1) (some ⟨w.heap.size, 0, none⟩) k (fl k mo)) ∧ Hid (Below w.heap.size w W9)) (fun _ _ _ _ s52 _ => m - (intOf s52).toNat)
        case atStart => exact ⟨0, _, _, _, Nat.zero_le _, by rw [Nat.zero_min, offV_zero], rfl, rfl, rfl, HO, HSp, hhim, HMo, HB⟩
        case round =>
          clear HO HSp HMo HB hhim
          obtain ⟨t, c', A, W9, htm, rfl, rfl, rfl, rfl, HO, HSp, hhim, HMo, HB⟩ := hrel
          have hz9 := HB.out.size
          by_cases hlt : t < m
          · have hlt' : (t : Int) < (m : Int) := by omega
            obtain ⟨b', off', eb, -, hcell⟩ := (HA.out _ HB.out).2.2 (by omega)
            injection eb with eb
            injection eb with eb1 eb2
            subst eb1 eb2
            have hc1 := hcell t hlt
            rw [fl_at sz hlt] at hc1
            have hzt := HZ.out t hlt
            obtain ⟨x, hx⟩ : ∃ x, sz t = x := ⟨_, rfl⟩
            rw [hx] at hc1 hzt
            have hvb := offV_bd (sz := sz) (mo := mo) (m := m) (t := t) HZ.out hg hv0 HMoB.out htm hm.2
            obtain ⟨v, hv⟩ : ∃ v, offV sz mo gap l t = v := ⟨_, rfl⟩
            rw [hv] at hvb
            have HFl := hide (show fl (t + 1) (offV sz mo gap l) = fl t (offV sz mo gap l) ++ [v] by rw [fl_snoc, hv])
            clear hcell
            by_cases hk2 : t < k
            · have hk3 : (t : Int) < (k : Int) := by omega
              rw [show min t k = t by omega, hv]
              have hmt := HMoB.out t hlt
              obtain ⟨y, hy⟩ : ∃ y, mo t = y := ⟨_, rfl⟩
              rw [hy] at hmt
              have DV := hide (show offV sz mo gap l (min (t + 1) k) = v + (x + gap + y) by rw [show min (t + 1) k = t + 1 by omega, offV_succ, hv, hx, hy]; omega)
              have HY9 := hide hy
              clear hx hy hv
              go_wp2_with (at_builtin; refine wpList_push rfl (.tmp 57) (.tmp 59) 26 3 1 8 i0 _ rfl Try.underlying26 hi0 hz0 hz1 hz2 rfl (by omega) (by omega) W9 w.heap.size (.slice A t c') t (fl t (offV sz mo gap l)) rfl HO.out [v] 1 1 rfl rfl (by omega) hz9 ?_; intro v1 w1 ho1 hb1 hg1 hv1; obtain ⟨A1, c1, hvv1, _, _, _⟩ := ho1.form; subst hvv1; have HO1 := hide ho1; have HB1 := hide (HB.out.trans hb1); have HMo1 := hide (HMo.out.keep (fun j h1 h2 h3 => hg1.block j h3 (fun e => by have := HSp.out j e.symm; omega))); have HSp1 := hide (own_next HSp.out hv1 (by omega)); have hhim1 := Nat.le_trans hhim hg1.size; have hd1 := (hb1.cell (p := ⟨b, off + t, none⟩) (by show b < w.heap.size; omega)).trans hc1; have hd2 := (HMo1.out.cell t hk2).1; rw [fl_at mo hk2, HY9.out, Nat.zero_add] at hd2; clear ho1 hb1 hg1 hv1)
              clear hc1 HO HSp HMo HB hhim
              go_roundw
              case rel => exact ⟨t + 1, _, _, _, by omega, by rw [DV.out], rfl, by go_num, rfl, by rw [HFl.out]; exact HO1, HSp1, hhim1, HMo1, HB1⟩
              case measure => simp [intOf]; omega
            · have hk3 : ¬ (t : Int) < (k : Int) := by omega
              rw [show min t k = t by omega, hv]
              have DV := hide (show offV sz mo gap l (min (t + 1) k) = v by rw [show min (t + 1) k = t by omega, hv])
              clear hx hv
              go_wp2_with (at_builtin; refine wpList_push rfl (.tmp 57) (.tmp 59) 26 3 1 8 i0 _ rfl Try.underlying26 hi0 hz0 hz1 hz2 rfl (by omega) (by omega) W9 w.heap.size (.slice A t c') t (fl t (offV sz mo gap l)) rfl HO.out [v] 1 1 rfl rfl (by omega) hz9 ?_; intro v1 w1 ho1 hb1 hg1 hv1; obtain ⟨A1, c1, hvv1, _, _, _⟩ := ho1.form; subst hvv1; have HO1 := hide ho1; have HB1 := hide (HB.out.trans hb1); have HMo1 := hide (HMo.out.keep (fun j h1 h2 h3 => hg1.block j h3 (fun e => by have := HSp.out j e.symm; omega))); have HSp1 := hide (own_next HSp.out hv1 (by omega)); have hhim1 := Nat.le_trans hhim hg1.size; clear ho1 hb1 hg1 hv1)
              clear hc1 HO HSp HMo HB hhim
              go_roundw
              case rel => exact ⟨t + 1, _, _, _, by omega, by rw [DV.out], rfl, by go_num, rfl, by rw [HFl.out]; exact HO1, HSp1, hhim1, HMo1, HB1⟩
              case measure => simp [intOf]; omega
          · obtain rfl : m = t := by omega
            have D := hide (show ListR (fl m (offS sz m space gap just)) w (.returned (.slice A m c')) W9 by
              rw [← fl_congr (f := offV sz mo gap l) (fun j hj => offV_eq HLe.out Hat.out HMoE.out hj)]
              exact ListR.own HO.out HB.out)
            clear HO HMo HB HSp
            go_wp2
            go_ret
            exact D.out
      · by_cases q2 : just = 2
        · have HLe := hide (show (l : Int) = leftO sz m space gap by rw [HL.out]; omega)
          have hlb2 : 0 ≤ (l : Int) ∧ (l : Int) ≤ 100000 := by omega
          have Hat := hide (show (h2 : Int) = atO l just by unfold atO; rw [if_neg (by omega), if_pos (by omega)]; exact Hh2.out.symm)
          have hv0 : 0 ≤ (h2 : Int) ∧ (h2 : Int) ≤ 100000 := by omega
          have j1 : (just == 1) = false := by simp; omega
          have j2 : (just == 2) = true := by simp; omega
          obtain ⟨mo, hmo⟩ : ∃ mo : Nat → Int, mo = fun _ => 0 := ⟨_, rfl⟩
          have HMoE := hide (fun t (ht : t + 1 < m) => (show mo t = moreO m l just t by unfold moreO; rw [hmo, if_neg (by omega)]))
          have HMoB := hide (fun t (ht : t < m) => (show 0 ≤ mo t ∧ mo t ≤ 100000 by rw [hmo]; exact ⟨Int.le_refl _, by show (0 : Int) ≤ 100000; omega⟩))
          have HMo := hide (show Row 3 ((w.alloc (.cells (madeCells #[.int .i64 0] k) 3)).alloc (.cells (madeCells #[.int .i64 0] m) 3)) w.heap.size (w.heap.size + 1) (some ⟨w.heap.size, 0, none⟩) k (fl k mo) by rw [hmo]; exact (rowF_alloc w k).keep fun h3 => heap_alloc_old _ _ h3)
          have HO := hide (show Own 3 1 ((w.alloc (.cells (madeCells #[.int .i64 0] k) 3)).alloc (.cells (madeCells #[.int .i64 0] m) 3)) w.heap.size (.slice (some ⟨w.heap.size + 1, 0, none⟩) 0 m) 0 [] from by have h := Own.made 3 1 (w.alloc (.cells (madeCells #[.int .i64 0] k) 3)) (madeCells #[.int .i64 0] m) m w.heap.size (by simp) (by omega) (by rw [size_madeCells, Nat.mul_one]); simp only [World.size_alloc] at h; exact h)
          have HB := hide (show Below w.heap.size w ((w.alloc (.cells (madeCells #[.int .i64 0] k) 3)).alloc (.cells (madeCells #[.int .i64 0] m) 3)) from ((Below.refl _ _).alloc (Nat.le_refl _) _).alloc (by simp) _)
          have hhim : w.heap.size + 1 ≤ ((w.alloc (.cells (madeCells #[.int .i64 0] k) 3)).alloc (.cells (madeCells #[.int .i64 0] m) 3)).heap.size := by simp
          have HSp := hide (show ∀ j, (Value.slice (some ⟨w.heap.size + 1, 0, none⟩) 0 m).ownBlock = some j → j < w.heap.size ∨ w.heap.size + 1 ≤ j from fun j e => by simp [Value.ownBlock] at e; omega)
          clear hmo
          go_enter Try.func47, Try.ntmps47
          go_wp2_with (go_at_call 59; refine HTot.out.mono ?_; rintro e w' ⟨rfl, rfl⟩)
          generalize (w.alloc (.cells (madeCells #[.int .i64 0] k) 3)).alloc (.cells (madeCells #[.int .i64 0] m) 3) = Wp at HO HB HMo hhim ⊢
          go_loopw [11, 13, 14, 15, 52] (fun s11 s13 _ _ s52 wr => ∃ (t c' : Nat) (A : Option Addr) (W9 : World), t ≤ m ∧ s11 = .int .i64 (offV sz mo gap h2 (min t k)) ∧ s13 = .slice A t c' ∧ s52 = .int .i64 t ∧ W9 = wr ∧ Hid (Own 3 1 W9 w.heap.size (.slice A t c') t (fl t (offV sz mo gap h2))) ∧ Hid (∀ j, (Value.slice A t c').ownBlock = some j → j < w.heap.size ∨ (w.heap.size + 1) ≤ j) ∧ (w.heap.size + 1) ≤ W9.heap.size ∧ Hid (Row 3 W9 w.heap.size (w.heap.size + 1) (some ⟨w.heap.size, 0, none⟩) k (fl k mo)) ∧ Hid (Below w.heap.size w W9)) (fun _ _ _ _ s52 _ => m - (intOf s52).toNat)
          case atStart => exact ⟨0, _, _, _, Nat.zero_le _, by rw [Nat.zero_min, offV_zero], rfl, rfl, rfl, HO, HSp, hhim, HMo, HB⟩
          case round =>
            clear HO HSp HMo HB hhim
            obtain ⟨t, c', A, W9, htm, rfl, rfl, rfl, rfl, HO, HSp, hhim, HMo, HB⟩ := hrel
            have hz9 := HB.out.size
            by_cases hlt : t < m
            · have hlt' : (t : Int) < (m : Int) := by omega
              obtain ⟨b', off', eb, -, hcell⟩ := (HA.out _ HB.out).2.2 (by omega)
              injection eb with eb
              injection eb with eb1 eb2
              subst eb1 eb2
              have hc1 := hcell t hlt
              rw [fl_at sz hlt] at hc1
              have hzt := HZ.out t hlt
              obtain ⟨x, hx⟩ : ∃ x, sz t = x := ⟨_, rfl⟩
              rw [hx] at hc1 hzt
              have hvb := offV_bd (sz := sz) (mo := mo) (m := m) (t := t) HZ.out hg hv0 HMoB.out htm hm.2
              obtain ⟨v, hv⟩ : ∃ v, offV sz mo gap h2 t = v := ⟨_, rfl⟩
              rw [hv] at hvb
              have HFl := hide (show fl (t + 1) (offV sz mo gap h2) = fl t (offV sz mo gap h2) ++ [v] by rw [fl_snoc, hv])
              clear hcell
              by_cases hk2 : t < k
              · have hk3 : (t : Int) < (k : Int) := by omega
                rw [show min t k = t by omega, hv]
                have hmt := HMoB.out t hlt
                obtain ⟨y, hy⟩ : ∃ y, mo t = y := ⟨_, rfl⟩
                rw [hy] at hmt
                have DV := hide (show offV sz mo gap h2 (min (t + 1) k) = v + (x + gap + y) by rw [show min (t + 1) k = t + 1 by omega, offV_succ, hv, hx, hy]; omega)
                have HY9 := hide hy
                clear hx hy hv
                go_wp2_with (at_builtin; refine wpList_push rfl (.tmp 57) (.tmp 59) 26 3 1 8 i0 _ rfl Try.underlying26 hi0 hz0 hz1 hz2 rfl (by omega) (by omega) W9 w.heap.size (.slice A t c') t (fl t (offV sz mo gap h2)) rfl HO.out [v] 1 1 rfl rfl (by omega) hz9 ?_; intro v1 w1 ho1 hb1 hg1 hv1; obtain ⟨A1, c1, hvv1, _, _, _⟩ := ho1.form; subst hvv1; have HO1 := hide ho1; have HB1 := hide (HB.out.trans hb1); have HMo1 := hide (HMo.out.keep (fun j h1 h2 h3 => hg1.block j h3 (fun e => by have := HSp.out j e.symm; omega))); have HSp1 := hide (own_next HSp.out hv1 (by omega)); have hhim1 := Nat.le_trans hhim hg1.size; have hd1 := (hb1.cell (p := ⟨b, off + t, none⟩) (by show b < w.heap.size; omega)).trans hc1; have hd2 := (HMo1.out.cell t hk2).1; rw [fl_at mo hk2, HY9.out, Nat.zero_add] at hd2; clear ho1 hb1 hg1 hv1)
                clear hc1 HO HSp HMo HB hhim
                go_roundw
                case rel => exact ⟨t + 1, _, _, _, by omega, by rw [DV.out], rfl, by go_num, rfl, by rw [HFl.out]; exact HO1, HSp1, hhim1, HMo1, HB1⟩
                case measure => simp [intOf]; omega
              · have hk3 : ¬ (t : Int) < (k : Int) := by omega
                rw [show min t k = t by omega, hv]
                have DV := hide (show offV sz mo gap h2 (min (t + 1) k) = v by rw [show min (t + 1) k = t by omega, hv])
                clear hx hv
                go_wp2_with (at_builtin; refine wpList_push rfl (.tmp 57) (.tmp 59) 26 3 1 8 i0 _ rfl Try.underlying26 hi0 hz0 hz1 hz2 rfl (by omega) (by omega) W9 w.heap.size (.slice A t c') t (fl t (offV sz mo gap h2)) rfl HO.out [v] 1 1 rfl rfl (by omega) hz9 ?_; intro v1 w1 ho1 hb1 hg1 hv1; obtain ⟨A1, c1, hvv1, _, _, _⟩ := ho1.form; subst hvv1; have HO1 := hide ho1; have HB1 := hide (HB.out.trans hb1); have HMo1 := hide (HMo.out.keep (fun j h1 h2 h3 => hg1.block j h3 (fun e => by have := HSp.out j e.symm; omega))); have HSp1 := hide (own_next HSp.out hv1 (by omega)); have hhim1 := Nat.le_trans hhim hg1.size; clear ho1 hb1 hg1 hv1)
                clear hc1 HO HSp HMo HB hhim
                go_roundw
                case rel => exact ⟨t + 1, _, _, _, by omega, by rw [DV.out], rfl, by go_num, rfl, by rw [HFl.out]; exact HO1, HSp1, hhim1, HMo1, HB1⟩
                case measure => simp [intOf]; omega
            · obtain rfl : m = t := by omega
              have D := hide (show ListR (fl m (offS sz m space gap just)) w (.returned (.slice A m c')) W9 by
                rw [← fl_congr (f := offV sz mo gap h2) (fun j hj => offV_eq HLe.out Hat.out HMoE.out hj)]
                exact ListR.own HO.out HB.out)
              clear HO HMo HB HSp
              go_wp2
              go_ret
              exact D.out
        · have q3 : just = 3 := by omega
          by_cases qm : 1 < m
          · have HLe := hide (show (l : Int) = leftO sz m space gap by rw [HL.out]; omega)
            have hlb2 : 0 ≤ (l : Int) ∧ (l : Int) ≤ 100000 := by omega
            have Hat := hide (show (0 : Int) = atO l just by unfold atO; rw [if_neg (by omega), if_neg (by omega)])
            have hv0 : 0 ≤ (0 : Int) ∧ (0 : Int) ≤ 100000 := by omega
            have j1 : (just == 1) = false := by simp; omega
            have j2 : (just == 2) = false := by simp; omega
            have j3 : (just == 3) = true := by simp; omega
            have hk1 : 1 ≤ k ∧ k ≤ 7 := by omega
            have hk0 : 0 < (k : Int) := by omega
            obtain ⟨mo, hmo⟩ : ∃ mo : Nat → Int, mo = moS l k := ⟨_, rfl⟩
            have HMoE := hide (fun t (ht : t + 1 < m) => (show mo t = moreO m l just t by rw [hmo, show k = m - 1 by omega]; exact moS_more (by omega) t ht))
            have HMoB := hide (fun t (ht : t < m) => (show 0 ≤ mo t ∧ mo t ≤ 100000 by rw [hmo]; exact moS_bd hlb2 k t))
            have HMoL := hide (show shareL l (List.replicate k 1) = fl k mo by rw [hmo]; exact fl_shareK.symm)
            have HRep := hide (repeat_any (w.heap.size + 2) k 1 (some ⟨w.heap.size + 1, 0, none⟩) ((w.alloc (.cells (madeCells #[.int .i64 0] k) 3)).alloc (.cells #[.int .i64 1] 3)) (by have h := ints_one (w.alloc (.cells (madeCells #[.int .i64 0] k) 3)); rw [show (w.alloc (.cells (madeCells #[.int .i64 0] k) 3)).heap.size = w.heap.size + 1 by simp] at h; exact h.more (by omega)) (by simp) hk1)
            have HB0 := hide (show Below w.heap.size w ((w.alloc (.cells (madeCells #[.int .i64 0] k) 3)).alloc (.cells #[.int .i64 1] 3)) from ((Below.refl _ _).alloc (Nat.le_refl _) _).alloc (by simp) _)
            have hz0' : ((w.alloc (.cells (madeCells #[.int .i64 0] k) 3)).alloc (.cells #[.int .i64 1] 3)).heap.size = w.heap.size + 2 := by simp
            clear hmo
            go_enter Try.func47, Try.ntmps47
            go_wp2_with (go_at_call 59; refine HTot.out.mono ?_; rintro e w' ⟨rfl, rfl⟩)
            refine HRep.out.mono ?_
            rintro e W2 ⟨A2, n2, c2, rfl, hr2, hb2⟩
            obtain rfl : k = n2 := by have h1 := hr2.1; rw [List.length_replicate] at h1; exact h1
            have HR2 := hide hr2
            have HB2 := hide (HB0.out.trans (hb2.mono (by rw [hz0']; omega)))
            have hz2' := hb2.size
            rw [hz0'] at hz2'
            clear hr2 hb2 HRep
            have HSh := hide (implShare_any W2.heap.size A2 k c2 (List.replicate k 1) l W2 HR2.out.ints (Nat.le_refl _) (by omega) (ones_ok k) (by omega))
            go_wp2_with fail
            refine HSh.out.mono ?_
            rintro e W3 ⟨A3, n3, c3, rfl, hn3, hc3, hr3, hb3⟩
            obtain rfl : k = n3 := by have h1 := hr3.1; rw [shareL_len, List.length_replicate] at h1; exact h1
            have HR3 := hide hr3
            have HB3 := hide (HB2.out.trans (hb3.mono (by omega)))
            have hz3' := hb3.size
            clear hr3 hb3 HSh
            have hr1 := HR3.out
            rw [HMoL.out] at hr1
            obtain ⟨bm, om, hA1⟩ : ∃ bm om, A3 = some ⟨bm, om, none⟩ := by
              obtain ⟨g, o9, cur, e, -⟩ := hr1.2 (by omega)
              exact ⟨g, o9, e⟩
            subst hA1
            have HMo := hide (show Row 3 (W3.alloc (.cells (madeCells #[.int .i64 0] m) 3)) W2.heap.size W3.heap.size (some ⟨bm, om, none⟩) k (fl k mo) from hr1.keep fun j h1 h2 h3 => heap_alloc_old _ _ h3)
            have HO := hide (show Own 3 1 (W3.alloc (.cells (madeCells #[.int .i64 0] m) 3)) w.heap.size (.slice (some ⟨W3.heap.size, 0, none⟩) 0 m) 0 [] from Own.made 3 1 W3 (madeCells #[.int .i64 0] m) m w.heap.size HB3.out.size (by omega) (by rw [size_madeCells, Nat.mul_one]))
            have HB := hide (show Below w.heap.size w (W3.alloc (.cells (madeCells #[.int .i64 0] m) 3)) from HB3.out.alloc HB3.out.size _)
            have hhim : W3.heap.size ≤ (W3.alloc (.cells (madeCells #[.int .i64 0] m) 3)).heap.size := by simp
            have HSp := hide (show ∀ j, (Value.slice (some ⟨W3.heap.size, 0, none⟩) 0 m).ownBlock = some j → j < W2.heap.size ∨ W3.heap.size ≤ j from fun j e => by simp [Value.ownBlock] at e; omega)
            clear hr1 HR3 HR2 HB3 HB2 HB0 HMoL
            go_wp2
            generalize W3.alloc (.cells (madeCells #[.int .i64 0] m) 3) = Wp at HO HB HMo hhim ⊢
            go_loopw [11, 13, 14, 15, 52] (fun s11 s13 _ _ s52 wr => ∃ (t c' : Nat) (A : Option Addr) (W9 : World), t ≤ m ∧ s11 = .int .i64 (offV sz mo gap 0 (min t k)) ∧ s13 = .slice A t c' ∧ s52 = .int .i64 t ∧ W9 = wr ∧ Hid (Own 3 1 W9 w.heap.size (.slice A t c') t (fl t (offV sz mo gap 0))) ∧ Hid (∀ j, (Value.slice A t c').ownBlock = some j → j < W2.heap.size ∨ W3.heap.size ≤ j) ∧ W3.heap.size ≤ W9.heap.size ∧ Hid (Row 3 W9 W2.heap.size W3.heap.size (some ⟨bm, om, none⟩) k (fl k mo)) ∧ Hid (Below w.heap.size w W9)) (fun _ _ _ _ s52 _ => m - (intOf s52).toNat)
            case atStart => exact ⟨0, _, _, _, Nat.zero_le _, by rw [Nat.zero_min, offV_zero], rfl, rfl, rfl, HO, HSp, hhim, HMo, HB⟩
            case round =>
              clear HO HSp HMo HB hhim
              obtain ⟨t, c', A, W9, htm, rfl, rfl, rfl, rfl, HO, HSp, hhim, HMo, HB⟩ := hrel
              have hz9 := HB.out.size
              by_cases hlt : t < m
              · have hlt' : (t : Int) < (m : Int) := by omega
                obtain ⟨b', off', eb, -, hcell⟩ := (HA.out _ HB.out).2.2 (by omega)
                injection eb with eb
                injection eb with eb1 eb2
                subst eb1 eb2
                have hc1 := hcell t hlt
                rw [fl_at sz hlt] at hc1
                have hzt := HZ.out t hlt
                obtain ⟨x, hx⟩ : ∃ x, sz t = x := ⟨_, rfl⟩
                rw [hx] at hc1 hzt
                have hvb := offV_bd (sz := sz) (mo := mo) (m := m) (t := t) HZ.out hg hv0 HMoB.out htm hm.2
                obtain ⟨v, hv⟩ : ∃ v, offV sz mo gap 0 t = v := ⟨_, rfl⟩
                rw [hv] at hvb
                have HFl := hide (show fl (t + 1) (offV sz mo gap 0) = fl t (offV sz mo gap 0) ++ [v] by rw [fl_snoc, hv])
                clear hcell
                by_cases hk2 : t < k
                · have hk3 : (t : Int) < (k : Int) := by omega
                  rw [show min t k = t by omega, hv]
                  have hmt := HMoB.out t hlt
                  obtain ⟨y, hy⟩ : ∃ y, mo t = y := ⟨_, rfl⟩
                  rw [hy] at hmt
                  have DV := hide (show offV sz mo gap 0 (min (t + 1) k) = v + (x + gap + y) by rw [show min (t + 1) k = t + 1 by omega, offV_succ, hv, hx, hy]; omega)
                  have HY9 := hide hy
                  clear hx hy hv
                  go_wp2_with (at_builtin; refine wpList_push rfl (.tmp 57) (.tmp 59) 26 3 1 8 i0 _ rfl Try.underlying26 hi0 hz0 hz1 hz2 rfl (by omega) (by omega) W9 w.heap.size (.slice A t c') t (fl t (offV sz mo gap 0)) rfl HO.out [v] 1 1 rfl rfl (by omega) hz9 ?_; intro v1 w1 ho1 hb1 hg1 hv1; obtain ⟨A1, c1, hvv1, _, _, _⟩ := ho1.form; subst hvv1; have HO1 := hide ho1; have HB1 := hide (HB.out.trans hb1); have HMo1 := hide (HMo.out.keep (fun j h1 h2 h3 => hg1.block j h3 (fun e => by have := HSp.out j e.symm; omega))); have HSp1 := hide (own_next HSp.out hv1 (by omega)); have hhim1 := Nat.le_trans hhim hg1.size; have hd1 := (hb1.cell (p := ⟨b, off + t, none⟩) (by show b < w.heap.size; omega)).trans hc1; have hd2 := (HMo1.out.cell t hk2).1; rw [fl_at mo hk2, HY9.out] at hd2; clear ho1 hb1 hg1 hv1)
                  clear hc1 HO HSp HMo HB hhim
                  go_roundw
                  case rel => exact ⟨t + 1, _, _, _, by omega, by rw [DV.out], rfl, by go_num, rfl, by rw [HFl.out]; exact HO1, HSp1, hhim1, HMo1, HB1⟩
                  case measure => simp [intOf]; omega
                · have hk3 : ¬ (t : Int) < (k : Int) := by omega
                  rw [show min t k = t by omega, hv]
                  have DV := hide (show offV sz mo gap 0 (min (t + 1) k) = v by rw [show min (t + 1) k = t by omega, hv])
                  clear hx hv
                  go_wp2_with (at_builtin; refine wpList_push rfl (.tmp 57) (.tmp 59) 26 3 1 8 i0 _ rfl Try.underlying26 hi0 hz0 hz1 hz2 rfl (by omega) (by omega) W9 w.heap.size (.slice A t c') t (fl t (offV sz mo gap 0)) rfl HO.out [v] 1 1 rfl rfl (by omega) hz9 ?_; intro v1 w1 ho1 hb1 hg1 hv1; obtain ⟨A1, c1, hvv1, _, _, _⟩ := ho1.form; subst hvv1; have HO1 := hide ho1; have HB1 := hide (HB.out.trans hb1); have HMo1 := hide (HMo.out.keep (fun j h1 h2 h3 => hg1.block j h3 (fun e => by have := HSp.out j e.symm; omega))); have HSp1 := hide (own_next HSp.out hv1 (by omega)); have hhim1 := Nat.le_trans hhim hg1.size; clear ho1 hb1 hg1 hv1)
                  clear hc1 HO HSp HMo HB hhim
                  go_roundw
                  case rel => exact ⟨t + 1, _, _, _, by omega, by rw [DV.out], rfl, by go_num, rfl, by rw [HFl.out]; exact HO1, HSp1, hhim1, HMo1, HB1⟩
                  case measure => simp [intOf]; omega
              · obtain rfl : m = t := by omega
                have D := hide (show ListR (fl m (offS sz m space gap just)) w (.returned (.slice A m c')) W9 by
                  rw [← fl_congr (f := offV sz mo gap 0) (fun j hj => offV_eq HLe.out Hat.out HMoE.out hj)]
                  exact ListR.own HO.out HB.out)
                clear HO HMo HB HSp
                go_wp2
                go_ret
                exact D.out
          · have HLe := hide (show (l : Int) = leftO sz m space gap by rw [HL.out]; omega)
            have hlb2 : 0 ≤ (l : Int) ∧ (l : Int) ≤ 100000 := by omega
            have Hat := hide (show (0 : Int) = atO l just by unfold atO; rw [if_neg (by omega), if_neg (by omega)])
            have hv0 : 0 ≤ (0 : Int) ∧ (0 : Int) ≤ 100000 := by omega
            have j1 : (just == 1) = false := by simp; omega
            have j2 : (just == 2) = false := by simp; omega
            have j3 : (just == 3) = true := by simp; omega
            have hkn : ¬ 0 < (k : Int) := by omega
            have hkn' : ¬ 0 < k := by omega
            obtain ⟨mo, hmo⟩ : ∃ mo : Nat → Int, mo = fun _ => 0 := ⟨_, rfl⟩
            have HMoE := hide (fun t (ht : t + 1 < m) => (show mo t = moreO m l just t by unfold moreO; rw [hmo, if_neg (by omega)]))
            have HMoB := hide (fun t (ht : t < m) => (show 0 ≤ mo t ∧ mo t ≤ 100000 by rw [hmo]; exact ⟨Int.le_refl _, by show (0 : Int) ≤ 100000; omega⟩))
            have HMo := hide (show Row 3 ((w.alloc (.cells (madeCells #[.int .i64 0] k) 3)).alloc (.cells (madeCells #[.int .i64 0] m) 3)) w.heap.size (w.heap.size + 1) (some ⟨w.heap.size, 0, none⟩) k (fl k mo) by rw [hmo]; exact (rowF_alloc w k).keep fun h3 => heap_alloc_old _ _ h3)
            have HO := hide (show Own 3 1 ((w.alloc (.cells (madeCells #[.int .i64 0] k) 3)).alloc (.cells (madeCells #[.int .i64 0] m) 3)) w.heap.size (.slice (some ⟨w.heap.size + 1, 0, none⟩) 0 m) 0 [] from by have h := Own.made 3 1 (w.alloc (.cells (madeCells #[.int .i64 0] k) 3)) (madeCells #[.int .i64 0] m) m w.heap.size (by simp) (by omega) (by rw [size_madeCells, Nat.mul_one]); simp only [World.size_alloc] at h; exact h)
            have HB := hide (show Below w.heap.size w ((w.alloc (.cells (madeCells #[.int .i64 0] k) 3)).alloc (.cells (madeCells #[.int .i64 0] m) 3)) from ((Below.refl _ _).alloc (Nat.le_refl _) _).alloc (by simp) _)
            have hhim : w.heap.size + 1 ≤ ((w.alloc (.cells (madeCells #[.int .i64 0] k) 3)).alloc (.cells (madeCells #[.int .i64 0] m) 3)).heap.size := by simp
            have HSp := hide (show ∀ j, (Value.slice (some ⟨w.heap.size + 1, 0, none⟩) 0 m).ownBlock = some j → j < w.heap.size ∨ w.heap.size + 1 ≤ j from fun j e => by simp [Value.ownBlock] at e; omega)
            clear hmo
            go_enter Try.func47, Try.ntmps47
            go_wp2_with (go_at_call 59; refine HTot.out.mono ?_; rintro e w' ⟨rfl, rfl⟩)
            generalize (w.alloc (.cells (madeCells #[.int .i64 0] k) 3)).alloc (.cells (madeCells #[.int .i64 0] m) 3) = Wp at HO HB HMo hhim ⊢
            go_loopw [11, 13, 14, 15, 52] (fun s11 s13 _ _ s52 wr => ∃ (t c' : Nat) (A : Option Addr) (W9 : World), t ≤ m ∧ s11 = .int .i64 (offV sz mo gap 0 (min t k)) ∧ s13 = .slice A t c' ∧ s52 = .int .i64 t ∧ W9 = wr ∧ Hid (Own 3 1 W9 w.heap.size (.slice A t c') t (fl t (offV sz mo gap 0))) ∧ Hid (∀ j, (Value.slice A t c').ownBlock = some j → j < w.heap.size ∨ (w.heap.size + 1) ≤ j) ∧ (w.heap.size + 1) ≤ W9.heap.size ∧ Hid (Row 3 W9 w.heap.size (w.heap.size + 1) (some ⟨w.heap.size, 0, none⟩) k (fl k mo)) ∧ Hid (Below w.heap.size w W9)) (fun _ _ _ _ s52 _ => m - (intOf s52).toNat)
            case atStart => exact ⟨0, _, _, _, Nat.zero_le _, by rw [Nat.zero_min, offV_zero], rfl, rfl, rfl, HO, HSp, hhim, HMo, HB⟩
            case round =>
              clear HO HSp HMo HB hhim
              obtain ⟨t, c', A, W9, htm, rfl, rfl, rfl, rfl, HO, HSp, hhim, HMo, HB⟩ := hrel
              have hz9 := HB.out.size
              by_cases hlt : t < m
              · have hlt' : (t : Int) < (m : Int) := by omega
                obtain ⟨b', off', eb, -, hcell⟩ := (HA.out _ HB.out).2.2 (by omega)
                injection eb with eb
                injection eb with eb1 eb2
                subst eb1 eb2
                have hc1 := hcell t hlt
                rw [fl_at sz hlt] at hc1
                have hzt := HZ.out t hlt
                obtain ⟨x, hx⟩ : ∃ x, sz t = x := ⟨_, rfl⟩
                rw [hx] at hc1 hzt
                have hvb := offV_bd (sz := sz) (mo := mo) (m := m) (t := t) HZ.out hg hv0 HMoB.out htm hm.2
                obtain ⟨v, hv⟩ : ∃ v, offV sz mo gap 0 t = v := ⟨_, rfl⟩
                rw [hv] at hvb
                have HFl := hide (show fl (t + 1) (offV sz mo gap 0) = fl t (offV sz mo gap 0) ++ [v] by rw [fl_snoc, hv])
                clear hcell
                by_cases hk2 : t < k
                · exact absurd hk2 (by omega)
                · have hk3 : ¬ (t : Int) < (k : Int) := by omega
                  rw [show min t k = t by omega, hv]
                  have DV := hide (show offV sz mo gap 0 (min (t + 1) k) = v by rw [show min (t + 1) k = t by omega, hv])
                  clear hx hv
                  go_wp2_with (at_builtin; refine wpList_push rfl (.tmp 57) (.tmp 59) 26 3 1 8 i0 _ rfl Try.underlying26 hi0 hz0 hz1 hz2 rfl (by omega) (by omega) W9 w.heap.size (.slice A t c') t (fl t (offV sz mo gap 0)) rfl HO.out [v] 1 1 rfl rfl (by omega) hz9 ?_; intro v1 w1 ho1 hb1 hg1 hv1; obtain ⟨A1, c1, hvv1, _, _, _⟩ := ho1.form; subst hvv1; have HO1 := hide ho1; have HB1 := hide (HB.out.trans hb1); have HMo1 := hide (HMo.out.keep (fun j h1 h2 h3 => hg1.block j h3 (fun e => by have := HSp.out j e.symm; omega))); have HSp1 := hide (own_next HSp.out hv1 (by omega)); have hhim1 := Nat.le_trans hhim hg1.size; clear ho1 hb1 hg1 hv1)
                  clear hc1 HO HSp HMo HB hhim
                  go_roundw
                  case rel => exact ⟨t + 1, _, _, _, by omega, by rw [DV.out], rfl, by go_num, rfl, by rw [HFl.out]; exact HO1, HSp1, hhim1, HMo1, HB1⟩
                  case measure => simp [intOf]; omega
              · obtain rfl : m = t := by omega
                have D := hide (show ListR (fl m (offS sz m space gap just)) w (.returned (.slice A m c')) W9 by
                  rw [← fl_congr (f := offV sz mo gap 0) (fun j hj => offV_eq HLe.out Hat.out HMoE.out hj)]
                  exact ListR.own HO.out HB.out)
                clear HO HMo HB HSp
                go_wp2
                go_ret
                exact D.out
end Go.Proofs.Ythgliihdaockoaa
