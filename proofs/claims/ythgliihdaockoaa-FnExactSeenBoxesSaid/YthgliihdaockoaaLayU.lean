/- Layout: offsets: the reference. Conditions: none. -/
import Derived.Test.YthgliihdaockoaaLayS
import Derived.BigRegion
namespace Go.Proofs.Ythgliihdaockoaa
open Go.RowKit
set_option linter.unusedVariables false
set_option linter.unusedSimpArgs false
theorem own_next {v v' : Value} {lo hi z : Nat} (h : ∀ j, v.ownBlock = some j → j < lo ∨ hi ≤ j) (hv : v'.ownBlock = v.ownBlock ∨ v'.ownBlock = some (z + 1)) (hz : hi ≤ z) : ∀ j, v'.ownBlock = some j → j < lo ∨ hi ≤ j := fun j e => by
  rcases hv with h1 | h1
  · exact h j (h1.symm.trans e)
  · rw [h1] at e; injection e with e; omega
theorem ones_ok (k : Nat) : WOk (List.replicate k 1) := fun x hx => by rw [List.eq_of_mem_replicate hx]; omega
theorem share_one_bd {k : Nat} {left : Int} (hl : 0 ≤ left) (t : Nat) (ht : t < k) : 0 ≤ (shareL left (List.replicate k 1)).getD t 0 ∧ (shareL left (List.replicate k 1)).getD t 0 ≤ left := by
  have hs : 0 < sumI (List.replicate k (1 : Int)) := by rw [ones_sum]; omega
  have hl2 := shareL_len left (List.replicate k 1)
  rw [List.length_replicate] at hl2
  have hb : ∀ j, j < k → 0 ≤ (shareL left (List.replicate k 1)).getD j 0 := fun j hj => by
    rw [shareL_getD (by omega) (by rw [List.length_replicate]; exact hj)]
    refine share_nonneg hl hs ?_
    rw [List.getD_eq_getElem?_getD, List.getElem?_replicate]
    split <;> simp
  refine ⟨hb t ht, ?_⟩
  have h1 : sumF (fun j => (shareL left (List.replicate k 1)).getD j 0) (List.range k) = left := by
    have h2 := shareL_sum (s := left) hs
    rw [sumI_range, hl2] at h2
    exact h2
  have h3 := sumF_take_le (f := fun j => (shareL left (List.replicate k 1)).getD j 0) (n := k) hb (k := t + 1) (by omega)
  rw [h1, sumF_range_succ] at h3
  have h4 := sumF_nonneg (f := fun j => (shareL left (List.replicate k 1)).getD j 0) (l := List.range t) fun j hj => hb j (by have := List.mem_range.1 hj; omega)
  omega
/-- what the gaps get: shares, then nothing -/
def moS (left : Int) (k t : Nat) : Int := if t < k then (shareL left (List.replicate k 1)).getD t 0 else 0
theorem moS_bd {left : Int} (hl : 0 ≤ left ∧ left ≤ 100000) (k t : Nat) : 0 ≤ moS left k t ∧ moS left k t ≤ 100000 := by
  unfold moS
  split
  · rename_i h
    have := share_one_bd hl.1 t h
    omega
  · omega
theorem moS_more {left just : Int} {m : Nat} (hj : just = 3) (t : Nat) (ht : t + 1 < m) : moS left (m - 1) t = moreO m left just t := by
  unfold moS moreO
  rw [if_pos (show t < m - 1 by omega), if_pos ⟨hj, by omega⟩]
theorem fl_shareS (left : Int) (k : Nat) : fl k (moS left k) = shareL left (List.replicate k 1) := by
  apply List.ext_getElem
  · rw [fl_len, shareL_len, List.length_replicate]
  · intro i h1 h2
    rw [fl_len] at h1
    simp only [fl, List.getElem_map, List.getElem_range]
    unfold moS
    rw [if_pos h1, List.getD_eq_getElem?_getD, List.getElem?_eq_getElem h2]; rfl
theorem fl_moS (left : Int) (k : Nat) : fl (k + 1) (moS left k) = shareL left (List.replicate k 1) ++ [0] := by
  rw [fl_snoc, fl_shareS]
  congr 1
  unfold moS
  rw [if_neg (by omega)]
/-- how the offsets are told on the way -/
def offV (sz mo : Nat → Int) (gap v0 : Int) (t : Nat) : Int := v0 + sumF (fun j => sz j + gap + mo j) (List.range t)
theorem offV_zero (sz mo : Nat → Int) (gap v0 : Int) : offV sz mo gap v0 0 = v0 := by simp [offV, sumF_nil]
theorem offV_succ (sz mo : Nat → Int) (gap v0 : Int) (t : Nat) : offV sz mo gap v0 (t + 1) = offV sz mo gap v0 t + sz t + gap + mo t := by unfold offV; rw [sumF_range_succ]; omega
theorem offV_eq {sz mo : Nat → Int} {m : Nat} {space gap just v0 left : Int} (hl : left = leftO sz m space gap) (h0 : v0 = atO left just) (hm : ∀ t, t + 1 < m → mo t = moreO m left just t) {t : Nat} (ht : t < m) : offV sz mo gap v0 t = offS sz m space gap just t := by
  unfold offV offS
  rw [← hl, ← h0]
  congr 1
  exact sumF_congr fun j hj => by rw [hm j (by have := List.mem_range.1 hj; omega)]
theorem offV_bd {sz mo : Nat → Int} {m : Nat} {gap v0 : Int} (hz : OutOk sz m) (hg : 0 ≤ gap ∧ gap ≤ 50) (h0 : 0 ≤ v0 ∧ v0 ≤ 100000) (hmo : ∀ t, t < m → 0 ≤ mo t ∧ mo t ≤ 100000) {t : Nat} (ht : t ≤ m) (hm : m ≤ 8) : 0 ≤ offV sz mo gap v0 t ∧ offV sz mo gap v0 t ≤ 1100000 := by
  have h1 := sumF_nonneg (f := fun j => sz j + gap + mo j) (l := List.range t) fun j hj => by
    have hj' := List.mem_range.1 hj
    have := hz j (by omega)
    have := hmo j (by omega)
    show 0 ≤ sz j + gap + mo j
    omega
  have h2 := sumF_le (f := fun j => sz j + gap + mo j) (l := List.range t) (M := 110050) fun j hj => by
    have hj' := List.mem_range.1 hj
    have := hz j (by omega)
    have := hmo j (by omega)
    show sz j + gap + mo j ≤ 110050
    omega
  rw [List.length_range] at h2
  unfold offV
  omega
set_option maxRecDepth 100000 in
set_option maxHeartbeats 16000000 in
theorem specOffsets_any (B : Nat) (a : Option Addr) (m c : Nat) (sz : Nat → Int) (space gap just : Int) (w : World) (hA : Ints .i64 w B a m (fl m sz)) (hB : B ≤ w.heap.size) (hm : 1 ≤ m ∧ m ≤ 8) (hz : OutOk sz m) (hsp : 0 ≤ space ∧ space ≤ 100000) (hg : 0 ≤ gap ∧ gap ≤ 50) (hj : 0 ≤ just ∧ just ≤ 3) :
    Calls Try.prog 52 #[.slice a m c, .int .i64 space, .int .i64 gap, .int .i64 just] w (ListR (fl m (offS sz m space gap just)) w) := by
  obtain ⟨i0, hi0, hz0, hz1, hz2⟩ := info_parts int_info
  have HA := hide (fun W (h : Below w.heap.size w W) => (hA.more hB).below h (Nat.le_refl _))
  have HZ := hide hz
  have hTs : 0 ≤ sumF sz (List.range m) ∧ sumF sz (List.range m) ≤ 80000 := by
    have h1 := sumF_nonneg (f := sz) (l := List.range m) fun i hi => (hz i (List.mem_range.1 hi)).1
    have h2 := sumF_le (f := sz) (l := List.range m) (M := 10000) fun i hi => (hz i (List.mem_range.1 hi)).2
    rw [List.length_range] at h2
    omega
  obtain ⟨T, hT⟩ : ∃ T, sumF sz (List.range m) = T := ⟨_, rfl⟩
  rw [hT] at hTs
  have HT := hide hT
  have hP : 0 ≤ gap * ((m : Int) - 1) ∧ gap * ((m : Int) - 1) ≤ 350 := by
    have h := gap_bd hg (show m - 1 ≤ 7 by omega)
    rw [show ((m - 1 : Nat) : Int) = (m : Int) - 1 by omega] at h
    exact h
  obtain ⟨P, hmul⟩ : ∃ P, gap * ((m : Int) - 1) = P := ⟨_, rfl⟩
  rw [hmul] at hP
  have HPe := hide hmul
  obtain ⟨l, hl⟩ : ∃ l, space - T - P = l := ⟨_, rfl⟩
  have hlb : -90000 ≤ l ∧ l ≤ 100000 := by omega
  have HL := hide (show leftO sz m space gap = max l 0 by unfold leftO; rw [HT.out, HPe.out, hl])
  obtain ⟨b, off, rfl, hb9, -⟩ := hA.2.2 (by omega)
  have HSm := hide (show Small 1000000000 (fl m sz) from fun x hx => by
    obtain ⟨i, hi, rfl⟩ := fl_mem hx
    have := hz i hi
    omega)
  clear hT hA hz
  have hmk := mk_ints m (by omega)
  have HO := hide (show Own 3 1 ((w.alloc (.cells #[] 3)).alloc (.cells (madeCells #[.int .i64 0] m) 3)) w.heap.size (.slice (some ⟨w.heap.size, 0, none⟩) 0 0) 0 [] from (Own.made 3 1 w #[] 0 w.heap.size (Nat.le_refl _) (by omega) rfl).keep ((Below.refl _ _).alloc (Nat.le_refl _) _))
  have HB := hide (show Below w.heap.size w ((w.alloc (.cells #[] 3)).alloc (.cells (madeCells #[.int .i64 0] m) 3)) from ((Below.refl _ _).alloc (Nat.le_refl _) _).alloc (by simp) _)
  have HMz := hide (show Row 3 ((w.alloc (.cells #[] 3)).alloc (.cells (madeCells #[.int .i64 0] m) 3)) (w.heap.size + 1) (w.heap.size + 2) (some ⟨w.heap.size + 1, 0, none⟩) m (fl m (fun _ => 0)) from by
    have h := rowF_alloc (w.alloc (.cells #[] 3)) m
    rw [show (w.alloc (.cells #[] 3)).heap.size = w.heap.size + 1 by simp] at h
    exact h)
  have hhim : w.heap.size + 2 ≤ ((w.alloc (.cells #[] 3)).alloc (.cells (madeCells #[.int .i64 0] m) 3)).heap.size := by simp
  have HSum := hide (show Calls Try.prog 65 #[.slice (some ⟨b, off, none⟩) m c] (w.alloc (.cells #[] 3)) fun e w' => e = .returned (.int .i64 T) ∧ (w.alloc (.cells #[] 3)) = w' from by
    have h2 := specSum_any w.heap.size (some ⟨b, off, none⟩) m c (fl m sz) (w.alloc (.cells #[] 3)) (HA.out _ ((Below.refl _ _).alloc (Nat.le_refl _) _)) (by omega) HSm.out
    rw [show sumI (fl m sz) = T from HT.out] at h2
    exact h2)
  by_cases hX : 0 < l
  · obtain ⟨h2, hh2⟩ : ∃ h2, l / 2 = h2 := ⟨_, rfl⟩
    have Hh2 := hide hh2
    have htd : l.tdiv 2 = h2 := by rw [Int.tdiv_eq_ediv_of_nonneg (by omega)]; exact hh2
    have h2b : 0 ≤ h2 ∧ h2 ≤ 100000 := by omega
    clear hh2
    by_cases q0 : just = 0
    · have HLe := hide (show (l : Int) = leftO sz m space gap by rw [HL.out]; omega)
      have hlb2 : 0 ≤ (l : Int) ∧ (l : Int) ≤ 100000 := by omega
      have Hat := hide (show (0 : Int) = atO l just by unfold atO; rw [if_neg (by omega), if_neg (by omega)])
      have hv0 : 0 ≤ (0 : Int) ∧ (0 : Int) ≤ 100000 := by omega
      have j1 : (just == 1) = false := by simp; omega
      have j2 : (just == 2) = false := by simp; omega
      have j3 : (just == 3) = false := by simp; omega
      obtain ⟨mo, hmo⟩ : ∃ mo : Nat → Int, mo = fun _ => 0 := ⟨_, rfl⟩
      have HMoE := hide (fun t (ht : t + 1 < m) => (show mo t = moreO m l just t by unfold moreO; rw [hmo, if_neg (by omega)]))
      have HMoB := hide (fun t (ht : t < m) => (show 0 ≤ mo t ∧ mo t ≤ 100000 by rw [hmo]; exact ⟨Int.le_refl _, by show (0 : Int) ≤ 100000; omega⟩))
      have HMo := hide (show Row 3 ((w.alloc (.cells #[] 3)).alloc (.cells (madeCells #[.int .i64 0] m) 3)) (w.heap.size + 1) (w.heap.size + 2) (some ⟨w.heap.size + 1, 0, none⟩) m (fl m mo) by rw [hmo]; exact HMz.out)
      have HSp := hide (show ∀ j, (Value.slice (some ⟨w.heap.size, 0, none⟩) 0 0).ownBlock = some j → j < w.heap.size + 1 ∨ w.heap.size + 2 ≤ j from fun j e => by simp [Value.ownBlock] at e; omega)
      clear hmo
      skip
      go_enter Try.func52, Try.ntmps52
      go_wp2_with (go_at_call 65; refine HSum.out.mono ?_; rintro e w' ⟨rfl, rfl⟩)
      generalize ((w.alloc (.cells #[] 3)).alloc (.cells (madeCells #[.int .i64 0] m) 3)) = Wp at HO HB HMo hhim ⊢
      go_loopw [9, 12, 15] (fun s9 s12 s15 wr => ∃ (t c' : Nat) (A : Option Addr) (W9 : World), t ≤ m ∧ s9 = .slice A t c' ∧ s12 = .int .i64 (offV sz mo gap 0 t) ∧ s15 = .int .i64 t ∧ W9 = wr ∧ Hid (Own 3 1 W9 w.heap.size (.slice A t c') t (fl t (offV sz mo gap 0))) ∧ Hid (∀ j, (Value.slice A t c').ownBlock = some j → j < (w.heap.size + 1) ∨ (w.heap.size + 2) ≤ j) ∧ (w.heap.size + 2) ≤ W9.heap.size ∧ Hid (Row 3 W9 (w.heap.size + 1) (w.heap.size + 2) (some ⟨w.heap.size + 1, 0, none⟩) m (fl m mo)) ∧ Hid (Below w.heap.size w W9)) (fun _ _ s15 _ => m - (intOf s15).toNat)
      case atStart => exact ⟨0, _, _, _, Nat.zero_le _, rfl, by rw [offV_zero], rfl, rfl, HO, HSp, hhim, HMo, HB⟩
      case round =>
        clear HO HSp HMo HB hhim
        obtain ⟨t, c', A, W9, htm, rfl, rfl, rfl, rfl, HO, HSp, hhim, HMo, HB⟩ := hrel
        have hz9 := HB.out.size
        have hvb := offV_bd (sz := sz) (mo := mo) (m := m) (t := t) HZ.out hg hv0 HMoB.out htm hm.2
        obtain ⟨v, hv⟩ : ∃ v, offV sz mo gap 0 t = v := ⟨_, rfl⟩
        rw [hv] at hvb
        rw [hv]
        have HV := hide hv
        clear hv
        by_cases hlt : t < m
        · have hlt' : (t : Int) < (m : Int) := by omega
          skip
          obtain ⟨b', off', eb, -, hcell⟩ := (HA.out _ HB.out).2.2 (by omega)
          injection eb with eb
          injection eb with eb1 eb2
          subst eb1 eb2
          have hc1 := hcell t hlt
          rw [fl_at sz hlt] at hc1
          have hzt := HZ.out t hlt
          have hmt := HMoB.out t hlt
          have DV := hide (offV_succ sz mo gap 0 t)
          obtain ⟨x, hx⟩ : ∃ x, sz t = x := ⟨_, rfl⟩
          obtain ⟨y, hy⟩ : ∃ y, mo t = y := ⟨_, rfl⟩
          rw [hx] at hc1 hzt
          rw [hy] at hmt
          have DV := hide (show offV sz mo gap 0 (t + 1) = v + x + gap + y by rw [DV.out, HV.out, hx, hy])
          have HY9 := hide hy
          have HFl := hide (show fl (t + 1) (offV sz mo gap 0) = fl t (offV sz mo gap 0) ++ [v] by rw [fl_snoc, HV.out])
          clear hx hy hcell
          go_wp2_with (at_builtin; refine wpList_push rfl (.tmp 69) (.tmp 71) 26 3 1 8 i0 _ rfl Try.underlying26 hi0 hz0 hz1 hz2 rfl (by omega) (by omega) W9 w.heap.size (.slice A t c') t (fl t (offV sz mo gap 0)) rfl HO.out [v] 1 1 rfl rfl (by omega) hz9 ?_; intro v1 w1 ho1 hb1 hg1 hv1; obtain ⟨A1, c1, hvv1, _, _, _⟩ := ho1.form; subst hvv1; have HO1 := hide ho1; have HB1 := hide (HB.out.trans hb1); have HMo1 := hide (HMo.out.keep (fun j h1 h2 h3 => hg1.block j h3 (fun e => by have := HSp.out j e.symm; omega))); have HSp1 := hide (own_next HSp.out hv1 (by omega)); have hhim1 := Nat.le_trans hhim hg1.size; have hd1 := (hb1.cell (p := ⟨b, off + t, none⟩) (by show b < w.heap.size; omega)).trans hc1; have hd2 := (HMo1.out.cell t hlt).1; rw [fl_at mo hlt, HY9.out, Nat.zero_add] at hd2; clear ho1 hb1 hg1 hv1)
          clear hc1 HO HSp HMo HB hhim
          go_region
          go_wp2
          go_roundw
          case rel => exact ⟨t + 1, _, _, _, by omega, rfl, by rw [DV.out], by go_num, rfl, by rw [HFl.out]; exact hide (HO1.out.keep (Below.refl _ _).drew), HSp1, hhim1, hide (HMo1.out.keep fun _ _ _ _ => rfl), hide HB1.out.drew⟩
          case measure => simp [intOf]; omega
        · obtain rfl : m = t := by omega
          have D := hide (show ListR (fl m (offS sz m space gap just)) w (.returned (.slice A m c')) W9 by
            rw [← fl_congr (f := offV sz mo gap 0) (fun j hj => offV_eq HLe.out Hat.out HMoE.out hj)]
            exact ListR.own HO.out HB.out)
          clear HO HMo HB HV HSp
          go_wp2
          go_ret
          exact D.out
    · by_cases q1 : just = 1
      · have HLe := hide (show (l : Int) = leftO sz m space gap by rw [HL.out]; omega)
        have hlb2 : 0 ≤ (l : Int) ∧ (l : Int) ≤ 100000 := by omega
        have Hat := hide (show (l : Int) = atO l just by unfold atO; rw [if_pos (by omega)])
        have hv0 : 0 ≤ (l : Int) ∧ (l : Int) ≤ 100000 := by omega
        have j1 : (just == 1) = true := by simp; omega
        obtain ⟨mo, hmo⟩ : ∃ mo : Nat → Int, mo = fun _ => 0 := ⟨_, rfl⟩
        have HMoE := hide (fun t (ht : t + 1 < m) => (show mo t = moreO m l just t by unfold moreO; rw [hmo, if_neg (by omega)]))
        have HMoB := hide (fun t (ht : t < m) => (show 0 ≤ mo t ∧ mo t ≤ 100000 by rw [hmo]; exact ⟨Int.le_refl _, by show (0 : Int) ≤ 100000; omega⟩))
        have HMo := hide (show Row 3 ((w.alloc (.cells #[] 3)).alloc (.cells (madeCells #[.int .i64 0] m) 3)) (w.heap.size + 1) (w.heap.size + 2) (some ⟨w.heap.size + 1, 0, none⟩) m (fl m mo) by rw [hmo]; exact HMz.out)
        have HSp := hide (show ∀ j, (Value.slice (some ⟨w.heap.size, 0, none⟩) 0 0).ownBlock = some j → j < w.heap.size + 1 ∨ w.heap.size + 2 ≤ j from fun j e => by simp [Value.ownBlock] at e; omega)
        clear hmo
        skip
        go_enter Try.func52, Try.ntmps52
        go_wp2_with (go_at_call 65; refine HSum.out.mono ?_; rintro e w' ⟨rfl, rfl⟩)
        generalize ((w.alloc (.cells #[] 3)).alloc (.cells (madeCells #[.int .i64 0] m) 3)) = Wp at HO HB HMo hhim ⊢
        go_loopw [9, 12, 15] (fun s9 s12 s15 wr => ∃ (t c' : Nat) (A : Option Addr) (W9 : World), t ≤ m ∧ s9 = .slice A t c' ∧ s12 = .int .i64 (offV sz mo gap l t) ∧ s15 = .int .i64 t ∧ W9 = wr ∧ Hid (Own 3 1 W9 w.heap.size (.slice A t c') t (fl t (offV sz mo gap l))) ∧ Hid (∀ j, (Value.slice A t c').ownBlock = some j → j < (w.heap.size + 1) ∨ (w.heap.size + 2) ≤ j) ∧ (w.heap.size + 2) ≤ W9.heap.size ∧ Hid (Row 3 W9 (w.heap.size + 1) (w.heap.size + 2) (some ⟨w.heap.size + 1, 0, none⟩) m (fl m mo)) ∧ Hid (Below w.heap.size w W9)) (fun _ _ s15 _ => m - (intOf s15).toNat)
        case atStart => exact ⟨0, _, _, _, Nat.zero_le _, rfl, by rw [offV_zero], rfl, rfl, HO, HSp, hhim, HMo, HB⟩
        case round =>
          clear HO HSp HMo HB hhim
          obtain ⟨t, c', A, W9, htm, rfl, rfl, rfl, rfl, HO, HSp, hhim, HMo, HB⟩ := hrel
          have hz9 := HB.out.size
          have hvb := offV_bd (sz := sz) (mo := mo) (m := m) (t := t) HZ.out hg hv0 HMoB.out htm hm.2
          obtain ⟨v, hv⟩ : ∃ v, offV sz mo gap l t = v := ⟨_, rfl⟩
          rw [hv] at hvb
          rw [hv]
          have HV := hide hv
          clear hv
          by_cases hlt : t < m
          · have hlt' : (t : Int) < (m : Int) := by omega
            skip
            obtain ⟨b', off', eb, -, hcell⟩ := (HA.out _ HB.out).2.2 (by omega)
            injection eb with eb
            injection eb with eb1 eb2
            subst eb1 eb2
            have hc1 := hcell t hlt
            rw [fl_at sz hlt] at hc1
            have hzt := HZ.out t hlt
            have hmt := HMoB.out t hlt
            have DV := hide (offV_succ sz mo gap l t)
            obtain ⟨x, hx⟩ : ∃ x, sz t = x := ⟨_, rfl⟩
            obtain ⟨y, hy⟩ : ∃ y, mo t = y := ⟨_, rfl⟩
            rw [hx] at hc1 hzt
            rw [hy] at hmt
            have DV := hide (show offV sz mo gap l (t + 1) = v + x + gap + y by rw [DV.out, HV.out, hx, hy])
            have HY9 := hide hy
            have HFl := hide (show fl (t + 1) (offV sz mo gap l) = fl t (offV sz mo gap l) ++ [v] by rw [fl_snoc, HV.out])
            clear hx hy hcell
            go_wp2_with (at_builtin; refine wpList_push rfl (.tmp 69) (.tmp 71) 26 3 1 8 i0 _ rfl Try.underlying26 hi0 hz0 hz1 hz2 rfl (by omega) (by omega) W9 w.heap.size (.slice A t c') t (fl t (offV sz mo gap l)) rfl HO.out [v] 1 1 rfl rfl (by omega) hz9 ?_; intro v1 w1 ho1 hb1 hg1 hv1; obtain ⟨A1, c1, hvv1, _, _, _⟩ := ho1.form; subst hvv1; have HO1 := hide ho1; have HB1 := hide (HB.out.trans hb1); have HMo1 := hide (HMo.out.keep (fun j h1 h2 h3 => hg1.block j h3 (fun e => by have := HSp.out j e.symm; omega))); have HSp1 := hide (own_next HSp.out hv1 (by omega)); have hhim1 := Nat.le_trans hhim hg1.size; have hd1 := (hb1.cell (p := ⟨b, off + t, none⟩) (by show b < w.heap.size; omega)).trans hc1; have hd2 := (HMo1.out.cell t hlt).1; rw [fl_at mo hlt, HY9.out, Nat.zero_add] at hd2; clear ho1 hb1 hg1 hv1)
            clear hc1 HO HSp HMo HB hhim
            go_region
            go_wp2
            go_roundw
            case rel => exact ⟨t + 1, _, _, _, by omega, rfl, by rw [DV.out], by go_num, rfl, by rw [HFl.out]; exact hide (HO1.out.keep (Below.refl _ _).drew), HSp1, hhim1, hide (HMo1.out.keep fun _ _ _ _ => rfl), hide HB1.out.drew⟩
            case measure => simp [intOf]; omega
          · obtain rfl : m = t := by omega
            have D := hide (show ListR (fl m (offS sz m space gap just)) w (.returned (.slice A m c')) W9 by
              rw [← fl_congr (f := offV sz mo gap l) (fun j hj => offV_eq HLe.out Hat.out HMoE.out hj)]
              exact ListR.own HO.out HB.out)
            clear HO HMo HB HV HSp
            go_wp2
            go_ret
            exact D.out
      · by_cases q2 : just = 2
        · have HLe := hide (show (l : Int) = leftO sz m space gap by rw [HL.out]; omega)
          have hlb2 : 0 ≤ (l : Int) ∧ (l : Int) ≤ 100000 := by omega
          have Hat := hide (show (h2 : Int) = atO l just by unfold atO; rw [if_neg (by omega), if_pos (by omega)]; exact Hh2.out.symm)
          have hv0 : 0 ≤ (h2 : Int) ∧ (h2 : Int) ≤ 100000 := by omega
          have j1 : (just == 1) = false := by simp; omega
          have j2 : (just == 2) = true := by simp; omega
          obtain ⟨mo, hmo⟩ : ∃ mo : Nat → Int, mo = fun _ => 0 := ⟨_, rfl⟩
          have HMoE := hide (fun t (ht : t + 1 < m) => (show mo t = moreO m l just t by unfold moreO; rw [hmo, if_neg (by omega)]))
          have HMoB := hide (fun t (ht : t < m) => (show 0 ≤ mo t ∧ mo t ≤ 100000 by rw [hmo]; exact ⟨Int.le_refl _, by show (0 : Int) ≤ 100000; omega⟩))
          have HMo := hide (show Row 3 ((w.alloc (.cells #[] 3)).alloc (.cells (madeCells #[.int .i64 0] m) 3)) (w.heap.size + 1) (w.heap.size + 2) (some ⟨w.heap.size + 1, 0, none⟩) m (fl m mo) by rw [hmo]; exact HMz.out)
          have HSp := hide (show ∀ j, (Value.slice (some ⟨w.heap.size, 0, none⟩) 0 0).ownBlock = some j → j < w.heap.size + 1 ∨ w.heap.size + 2 ≤ j from fun j e => by simp [Value.ownBlock] at e; omega)
          clear hmo
          skip
          go_enter Try.func52, Try.ntmps52
          go_wp2_with (go_at_call 65; refine HSum.out.mono ?_; rintro e w' ⟨rfl, rfl⟩)
          generalize ((w.alloc (.cells #[] 3)).alloc (.cells (madeCells #[.int .i64 0] m) 3)) = Wp at HO HB HMo hhim ⊢
          go_loopw [9, 12, 15] (fun s9 s12 s15 wr => ∃ (t c' : Nat) (A : Option Addr) (W9 : World), t ≤ m ∧ s9 = .slice A t c' ∧ s12 = .int .i64 (offV sz mo gap h2 t) ∧ s15 = .int .i64 t ∧ W9 = wr ∧ Hid (Own 3 1 W9 w.heap.size (.slice A t c') t (fl t (offV sz mo gap h2))) ∧ Hid (∀ j, (Value.slice A t c').ownBlock = some j → j < (w.heap.size + 1) ∨ (w.heap.size + 2) ≤ j) ∧ (w.heap.size + 2) ≤ W9.heap.size ∧ Hid (Row 3 W9 (w.heap.size + 1) (w.heap.size + 2) (some ⟨w.heap.size + 1, 0, none⟩) m (fl m mo)) ∧ Hid (Below w.heap.size w W9)) (fun _ _ s15 _ => m - (intOf s15).toNat)
          case atStart => exact ⟨0, _, _, _, Nat.zero_le _, rfl, by rw [offV_zero], rfl, rfl, HO, HSp, hhim, HMo, HB⟩
          case round =>
            clear HO HSp HMo HB hhim
            obtain ⟨t, c', A, W9, htm, rfl, rfl, rfl, rfl, HO, HSp, hhim, HMo, HB⟩ := hrel
            have hz9 := HB.out.size
            have hvb := offV_bd (sz := sz) (mo := mo) (m := m) (t := t) HZ.out hg hv0 HMoB.out htm hm.2
            obtain ⟨v, hv⟩ : ∃ v, offV sz mo gap h2 t = v := ⟨_, rfl⟩
            rw [hv] at hvb
            rw [hv]
            have HV := hide hv
            clear hv
            by_cases hlt : t < m
            · have hlt' : (t : Int) < (m : Int) := by omega
              skip
              obtain ⟨b', off', eb, -, hcell⟩ := (HA.out _ HB.out).2.2 (by omega)
              injection eb with eb
              injection eb with eb1 eb2
              subst eb1 eb2
              have hc1 := hcell t hlt
              rw [fl_at sz hlt] at hc1
              have hzt := HZ.out t hlt
              have hmt := HMoB.out t hlt
              have DV := hide (offV_succ sz mo gap h2 t)
              obtain ⟨x, hx⟩ : ∃ x, sz t = x := ⟨_, rfl⟩
              obtain ⟨y, hy⟩ : ∃ y, mo t = y := ⟨_, rfl⟩
              rw [hx] at hc1 hzt
              rw [hy] at hmt
              have DV := hide (show offV sz mo gap h2 (t + 1) = v + x + gap + y by rw [DV.out, HV.out, hx, hy])
              have HY9 := hide hy
              have HFl := hide (show fl (t + 1) (offV sz mo gap h2) = fl t (offV sz mo gap h2) ++ [v] by rw [fl_snoc, HV.out])
              clear hx hy hcell
              go_wp2_with (at_builtin; refine wpList_push rfl (.tmp 69) (.tmp 71) 26 3 1 8 i0 _ rfl Try.underlying26 hi0 hz0 hz1 hz2 rfl (by omega) (by omega) W9 w.heap.size (.slice A t c') t (fl t (offV sz mo gap h2)) rfl HO.out [v] 1 1 rfl rfl (by omega) hz9 ?_; intro v1 w1 ho1 hb1 hg1 hv1; obtain ⟨A1, c1, hvv1, _, _, _⟩ := ho1.form; subst hvv1; have HO1 := hide ho1; have HB1 := hide (HB.out.trans hb1); have HMo1 := hide (HMo.out.keep (fun j h1 h2 h3 => hg1.block j h3 (fun e => by have := HSp.out j e.symm; omega))); have HSp1 := hide (own_next HSp.out hv1 (by omega)); have hhim1 := Nat.le_trans hhim hg1.size; have hd1 := (hb1.cell (p := ⟨b, off + t, none⟩) (by show b < w.heap.size; omega)).trans hc1; have hd2 := (HMo1.out.cell t hlt).1; rw [fl_at mo hlt, HY9.out, Nat.zero_add] at hd2; clear ho1 hb1 hg1 hv1)
              clear hc1 HO HSp HMo HB hhim
              go_region
              go_wp2
              go_roundw
              case rel => exact ⟨t + 1, _, _, _, by omega, rfl, by rw [DV.out], by go_num, rfl, by rw [HFl.out]; exact hide (HO1.out.keep (Below.refl _ _).drew), HSp1, hhim1, hide (HMo1.out.keep fun _ _ _ _ => rfl), hide HB1.out.drew⟩
              case measure => simp [intOf]; omega
            · obtain rfl : m = t := by omega
              have D := hide (show ListR (fl m (offS sz m space gap just)) w (.returned (.slice A m c')) W9 by
                rw [← fl_congr (f := offV sz mo gap h2) (fun j hj => offV_eq HLe.out Hat.out HMoE.out hj)]
                exact ListR.own HO.out HB.out)
              clear HO HMo HB HV HSp
              go_wp2
              go_ret
              exact D.out
        · have q3 : just = 3 := by omega
          by_cases qm : 1 < m
          · have HLe := hide (show (l : Int) = leftO sz m space gap by rw [HL.out]; omega)
            have hlb2 : 0 ≤ (l : Int) ∧ (l : Int) ≤ 100000 := by omega
            have Hat := hide (show (0 : Int) = atO l just by unfold atO; rw [if_neg (by omega), if_neg (by omega)])
            have hv0 : 0 ≤ (0 : Int) ∧ (0 : Int) ≤ 100000 := by omega
            have j1 : (just == 1) = false := by simp; omega
            have j2 : (just == 2) = false := by simp; omega
            have j3 : (just == 3) = true := by simp; omega
            have hm1 : (1 : Int) < (m : Int) := by omega
            have hm1' : 1 < m := by omega
            obtain ⟨k, hk⟩ : ∃ k, m - 1 = k := ⟨_, rfl⟩
            have hkm : k + 1 = m := by omega
            have hk1 : 1 ≤ k ∧ k ≤ 7 := by omega
            obtain ⟨mo, hmo⟩ : ∃ mo : Nat → Int, mo = moS l k := ⟨_, rfl⟩
            have HMoE := hide (fun t (ht : t + 1 < m) => (show mo t = moreO m l just t by rw [hmo, ← hk]; exact moS_more (by omega) t ht))
            have HMoB := hide (fun t (ht : t < m) => (show 0 ≤ mo t ∧ mo t ≤ 100000 by rw [hmo]; exact moS_bd hlb2 k t))
            have HMoL := hide (show fl m mo = shareL l (List.replicate k 1) ++ [0] by rw [hmo, ← hkm]; exact fl_moS _ _)
            have HKm := hide hkm
            have HOn := hide (show Own 3 1 (((w.alloc (.cells #[] 3)).alloc (.cells (madeCells #[.int .i64 0] m) 3)).alloc (.cells #[] 3)) (w.heap.size + 2) (.slice (some ⟨w.heap.size + 2, 0, none⟩) 0 0) 0 [] from by have h := Own.made 3 1 ((w.alloc (.cells #[] 3)).alloc (.cells (madeCells #[.int .i64 0] m) 3)) #[] 0 (w.heap.size + 2) (by simp) (by omega) rfl; simp only [World.size_alloc] at h; exact h)
            have HB2 := hide (show Below (w.heap.size + 2) ((w.alloc (.cells #[] 3)).alloc (.cells (madeCells #[.int .i64 0] m) 3)) (((w.alloc (.cells #[] 3)).alloc (.cells (madeCells #[.int .i64 0] m) 3)).alloc (.cells #[] 3)) from (Below.refl _ _).alloc (by simp) _)
            clear hmo hk hkm
            go_enter Try.func52, Try.ntmps52
            go_wp2_with (go_at_call 65; refine HSum.out.mono ?_; rintro e w' ⟨rfl, rfl⟩)
            have hhimE : ((w.alloc (.cells #[] 3)).alloc (.cells (madeCells #[.int .i64 0] m) 3)).heap.size = w.heap.size + 2 := by simp
            generalize hWp : ((w.alloc (.cells #[] 3)).alloc (.cells (madeCells #[.int .i64 0] m) 3)) = Wp at HO HB HOn HB2 HMz hhim hhimE ⊢
            clear hWp
            generalize Wp.alloc (.cells #[] 3) = Wq at HOn HB2 ⊢
            go_loopw [13, 14] (fun s13 s14 wr => ∃ (t c' : Nat) (A : Option Addr) (W9 : World), t ≤ k ∧ s13 = .slice A t c' ∧ s14 = .int .i64 ((t : Int) + 1) ∧ W9 = wr ∧ Hid (Own 3 1 W9 (w.heap.size + 2) (.slice A t c') t (List.replicate t 1)) ∧ Hid (Below (w.heap.size + 2) Wp W9)) (fun _ s14 _ => m + 1 - (intOf s14).toNat)
            case atStart => exact ⟨0, _, _, _, Nat.zero_le _, rfl, rfl, rfl, HOn, HB2⟩
            case round =>
              clear HOn HB2
              obtain ⟨t, c', A, W9, htk, rfl, rfl, rfl, HOn, HB2⟩ := hrel
              have hz9 := HB2.out.size
              by_cases hlt : t < k
              · have hlt' : (t : Int) + 1 < (m : Int) := by have := HKm.out; omega
                go_wp2_with (at_builtin; refine wpList_push rfl (.tmp 55) (.tmp 56) 26 3 1 8 i0 _ rfl Try.underlying26 hi0 hz0 hz1 hz2 rfl (by omega) (by omega) W9 (w.heap.size + 2) (.slice A t c') t (List.replicate t 1) rfl HOn.out [1] 1 1 rfl rfl (by omega) (by omega) ?_; intro v1 w1 ho1 hb1 hg1 hv1; obtain ⟨A1, c1, hvv1, _, _, _⟩ := ho1.form; subst hvv1; have HO1 := hide (show Own 3 1 w1 (w.heap.size + 2) (.slice A1 (t + 1) c1) (t + 1) (List.replicate (t + 1) 1) by rw [List.replicate_succ']; exact ho1); have HB3 := hide (HB2.out.trans hb1); clear ho1 hb1 hg1 hv1)
                go_roundw
                case rel => exact ⟨t + 1, _, _, _, by omega, rfl, by go_num, rfl, HO1, HB3⟩
                case measure => simp [intOf]; have := HKm.out; omega
              · obtain rfl : k = t := by omega
                have hlt' : ¬ (k : Int) + 1 < (m : Int) := by have := HKm.out; omega
                obtain ⟨A', c'', e, hc1, hc2, hrow⟩ := HOn.out.form
                injection e with e1 e2 e3
                subst e1 e3
                rw [Nat.mul_one] at hrow
                have HSh := hide (specShareN_any W9.heap.size A k c' (List.replicate k 1) l W9 hrow.ints (Nat.le_refl _) (by omega) (ones_ok k) (by omega))
                clear hrow HOn
                go_wp2_with fail
                refine HSh.out.mono ?_
                rintro e W10 ⟨A9, n9, rfl, hr9, hb9'⟩
                obtain rfl : k = n9 := by have h1 := hr9.1; rw [shareL_len, List.length_replicate] at h1; exact h1
                have HR9 := hide hr9
                have HB10 := hide (HB2.out.trans (hb9'.mono (by omega)))
                have hz10 := HB10.out.size
                clear hr9 hb9' HSh
                go_wp2_with (at_builtin; refine wpList_grows rfl (.tmp 60) (.tmp 61) rfl W10 W9.heap.size W10.heap.size A9 k (shareL l (List.replicate k 1)) 0 1 rfl HR9.out (by omega) rfl ?_; intro v1 w1 ho1 hb1; have HKeep := hide (HB10.out.trans (hb1.mono (by omega))); have hw1 := hb1.size; obtain ⟨A1, c1, hvv1, hv1, hv2, hv3⟩ := ho1.form; subst hvv1; rw [Nat.mul_one] at hv3; have HR1 := hide hv3; clear ho1 hb1 hv1 hv2 hv3)
                have hr1 := HR1.out
                rw [HKm.out, ← HMoL.out] at hr1
                rw [show ((k : Int) + 1) = (m : Int) by have := HKm.out; omega] at *
                obtain ⟨bm, om, hA1⟩ : ∃ bm om, A1 = some ⟨bm, om, none⟩ := by
                  obtain ⟨g, o9, cur, e, -⟩ := hr1.2 (by omega)
                  exact ⟨g, o9, e⟩
                subst hA1
                have HMo := hide hr1
                have HO := hide (HO.out.keep (HKeep.out.mono (by omega)))
                have HB := hide (HB.out.trans (HKeep.out.mono (by omega)))
                have HSp := hide (show ∀ j, (Value.slice (some ⟨w.heap.size, 0, none⟩) 0 0).ownBlock = some j → j < W10.heap.size + 1 ∨ w1.heap.size ≤ j from fun j e => by simp [Value.ownBlock] at e; omega)
                obtain ⟨him, hhe⟩ : ∃ him, w1.heap.size = him := ⟨_, rfl⟩
                rw [hhe] at HSp HMo
                have hhim2 : him ≤ w1.heap.size := by omega
                clear hhim
                have hhim := hhim2
                clear hhim2
                clear hr1 HR1 HKeep HR9 HB10 HB2 HMz
                go_wp2
                go_loopw [9, 12, 15] (fun s9 s12 s15 wr => ∃ (t c' : Nat) (A : Option Addr) (W9 : World), t ≤ m ∧ s9 = .slice A t c' ∧ s12 = .int .i64 (offV sz mo gap 0 t) ∧ s15 = .int .i64 t ∧ W9 = wr ∧ Hid (Own 3 1 W9 w.heap.size (.slice A t c') t (fl t (offV sz mo gap 0))) ∧ Hid (∀ j, (Value.slice A t c').ownBlock = some j → j < (W10.heap.size + 1) ∨ him ≤ j) ∧ him ≤ W9.heap.size ∧ Hid (Row 3 W9 (W10.heap.size + 1) him (some ⟨bm, om, none⟩) m (fl m mo)) ∧ Hid (Below w.heap.size w W9)) (fun _ _ s15 _ => m - (intOf s15).toNat)
                case atStart => exact ⟨0, _, _, _, Nat.zero_le _, rfl, by rw [offV_zero], rfl, rfl, HO, HSp, hhim, HMo, HB⟩
                case round =>
                  clear HO HSp HMo HB hhim
                  obtain ⟨t, c', A, W9, htm, rfl, rfl, rfl, rfl, HO, HSp, hhim, HMo, HB⟩ := hrel
                  have hz9 := HB.out.size
                  have hvb := offV_bd (sz := sz) (mo := mo) (m := m) (t := t) HZ.out hg hv0 HMoB.out htm hm.2
                  obtain ⟨v, hv⟩ : ∃ v, offV sz mo gap 0 t = v := ⟨_, rfl⟩
                  rw [hv] at hvb
                  rw [hv]
                  have HV := hide hv
                  clear hv
                  by_cases hlt : t < m
                  · have hlt' : (t : Int) < (m : Int) := by omega
                    have hlt3 : (t : Int) < (k : Int) + 1 := by have := HKm.out; omega
                    obtain ⟨b', off', eb, -, hcell⟩ := (HA.out _ HB.out).2.2 (by omega)
                    injection eb with eb
                    injection eb with eb1 eb2
                    subst eb1 eb2
                    have hc1 := hcell t hlt
                    rw [fl_at sz hlt] at hc1
                    have hzt := HZ.out t hlt
                    have hmt := HMoB.out t hlt
                    have DV := hide (offV_succ sz mo gap 0 t)
                    obtain ⟨x, hx⟩ : ∃ x, sz t = x := ⟨_, rfl⟩
                    obtain ⟨y, hy⟩ : ∃ y, mo t = y := ⟨_, rfl⟩
                    rw [hx] at hc1 hzt
                    rw [hy] at hmt
                    have DV := hide (show offV sz mo gap 0 (t + 1) = v + x + gap + y by rw [DV.out, HV.out, hx, hy])
                    have HY9 := hide hy
                    have HFl := hide (show fl (t + 1) (offV sz mo gap 0) = fl t (offV sz mo gap 0) ++ [v] by rw [fl_snoc, HV.out])
                    clear hx hy hcell
                    go_wp2_with (at_builtin; refine wpList_push rfl (.tmp 69) (.tmp 71) 26 3 1 8 i0 _ rfl Try.underlying26 hi0 hz0 hz1 hz2 rfl (by omega) (by omega) W9 w.heap.size (.slice A t c') t (fl t (offV sz mo gap 0)) rfl HO.out [v] 1 1 rfl rfl (by omega) hz9 ?_; intro v1 w1 ho1 hb1 hg1 hv1; obtain ⟨A1, c1, hvv1, _, _, _⟩ := ho1.form; subst hvv1; have HO1 := hide ho1; have HB1 := hide (HB.out.trans hb1); have HMo1 := hide (HMo.out.keep (fun j h1 h2 h3 => hg1.block j h3 (fun e => by have := HSp.out j e.symm; omega))); have HSp1 := hide (own_next HSp.out hv1 (by omega)); have hhim1 := Nat.le_trans hhim hg1.size; have hd1 := (hb1.cell (p := ⟨b, off + t, none⟩) (by show b < w.heap.size; omega)).trans hc1; have hd2 := (HMo1.out.cell t hlt).1; rw [fl_at mo hlt, HY9.out] at hd2; clear ho1 hb1 hg1 hv1)
                    clear hc1 HO HSp HMo HB hhim
                    go_region
                    go_wp2
                    go_roundw
                    case rel => exact ⟨t + 1, _, _, _, by omega, rfl, by rw [DV.out], by go_num, rfl, by rw [HFl.out]; exact hide (HO1.out.keep (Below.refl _ _).drew), HSp1, hhim1, hide (HMo1.out.keep fun _ _ _ _ => rfl), hide HB1.out.drew⟩
                    case measure => simp [intOf]; omega
                  · obtain rfl : m = t := by omega
                    have D := hide (show ListR (fl m (offS sz m space gap just)) w (.returned (.slice A m c')) W9 by
                      rw [← fl_congr (f := offV sz mo gap 0) (fun j hj => offV_eq HLe.out Hat.out HMoE.out hj)]
                      exact ListR.own HO.out HB.out)
                    clear HO HMo HB HV HSp
                    go_wp2
                    go_ret
                    exact D.out
          · have HLe := hide (show (l : Int) = leftO sz m space gap by rw [HL.out]; omega)
            have hlb2 : 0 ≤ (l : Int) ∧ (l : Int) ≤ 100000 := by omega
            have Hat := hide (show (0 : Int) = atO l just by unfold atO; rw [if_neg (by omega), if_neg (by omega)])
            have hv0 : 0 ≤ (0 : Int) ∧ (0 : Int) ≤ 100000 := by omega
            have j1 : (just == 1) = false := by simp; omega
            have j2 : (just == 2) = false := by simp; omega
            have j3 : (just == 3) = true := by simp; omega
            have hm1 : ¬ (1 : Int) < (m : Int) := by omega
            have hm1' : ¬ 1 < m := by omega
            obtain ⟨mo, hmo⟩ : ∃ mo : Nat → Int, mo = fun _ => 0 := ⟨_, rfl⟩
            have HMoE := hide (fun t (ht : t + 1 < m) => (show mo t = moreO m l just t by unfold moreO; rw [hmo, if_neg (by omega)]))
            have HMoB := hide (fun t (ht : t < m) => (show 0 ≤ mo t ∧ mo t ≤ 100000 by rw [hmo]; exact ⟨Int.le_refl _, by show (0 : Int) ≤ 100000; omega⟩))
            have HMo := hide (show Row 3 ((w.alloc (.cells #[] 3)).alloc (.cells (madeCells #[.int .i64 0] m) 3)) (w.heap.size + 1) (w.heap.size + 2) (some ⟨w.heap.size + 1, 0, none⟩) m (fl m mo) by rw [hmo]; exact HMz.out)
            have HSp := hide (show ∀ j, (Value.slice (some ⟨w.heap.size, 0, none⟩) 0 0).ownBlock = some j → j < w.heap.size + 1 ∨ w.heap.size + 2 ≤ j from fun j e => by simp [Value.ownBlock] at e; omega)
            clear hmo
            skip
            go_enter Try.func52, Try.ntmps52
            go_wp2_with (go_at_call 65; refine HSum.out.mono ?_; rintro e w' ⟨rfl, rfl⟩)
            generalize ((w.alloc (.cells #[] 3)).alloc (.cells (madeCells #[.int .i64 0] m) 3)) = Wp at HO HB HMo hhim ⊢
            go_loopw [9, 12, 15] (fun s9 s12 s15 wr => ∃ (t c' : Nat) (A : Option Addr) (W9 : World), t ≤ m ∧ s9 = .slice A t c' ∧ s12 = .int .i64 (offV sz mo gap 0 t) ∧ s15 = .int .i64 t ∧ W9 = wr ∧ Hid (Own 3 1 W9 w.heap.size (.slice A t c') t (fl t (offV sz mo gap 0))) ∧ Hid (∀ j, (Value.slice A t c').ownBlock = some j → j < (w.heap.size + 1) ∨ (w.heap.size + 2) ≤ j) ∧ (w.heap.size + 2) ≤ W9.heap.size ∧ Hid (Row 3 W9 (w.heap.size + 1) (w.heap.size + 2) (some ⟨w.heap.size + 1, 0, none⟩) m (fl m mo)) ∧ Hid (Below w.heap.size w W9)) (fun _ _ s15 _ => m - (intOf s15).toNat)
            case atStart => exact ⟨0, _, _, _, Nat.zero_le _, rfl, by rw [offV_zero], rfl, rfl, HO, HSp, hhim, HMo, HB⟩
            case round =>
              clear HO HSp HMo HB hhim
              obtain ⟨t, c', A, W9, htm, rfl, rfl, rfl, rfl, HO, HSp, hhim, HMo, HB⟩ := hrel
              have hz9 := HB.out.size
              have hvb := offV_bd (sz := sz) (mo := mo) (m := m) (t := t) HZ.out hg hv0 HMoB.out htm hm.2
              obtain ⟨v, hv⟩ : ∃ v, offV sz mo gap 0 t = v := ⟨_, rfl⟩
              rw [hv] at hvb
              rw [hv]
              have HV := hide hv
              clear hv
              by_cases hlt : t < m
              · have hlt' : (t : Int) < (m : Int) := by omega
                skip
                obtain ⟨b', off', eb, -, hcell⟩ := (HA.out _ HB.out).2.2 (by omega)
                injection eb with eb
                injection eb with eb1 eb2
                subst eb1 eb2
                have hc1 := hcell t hlt
                rw [fl_at sz hlt] at hc1
                have hzt := HZ.out t hlt
                have hmt := HMoB.out t hlt
                have DV := hide (offV_succ sz mo gap 0 t)
                obtain ⟨x, hx⟩ : ∃ x, sz t = x := ⟨_, rfl⟩
                obtain ⟨y, hy⟩ : ∃ y, mo t = y := ⟨_, rfl⟩
                rw [hx] at hc1 hzt
                rw [hy] at hmt
                have DV := hide (show offV sz mo gap 0 (t + 1) = v + x + gap + y by rw [DV.out, HV.out, hx, hy])
                have HY9 := hide hy
                have HFl := hide (show fl (t + 1) (offV sz mo gap 0) = fl t (offV sz mo gap 0) ++ [v] by rw [fl_snoc, HV.out])
                clear hx hy hcell
                go_wp2_with (at_builtin; refine wpList_push rfl (.tmp 69) (.tmp 71) 26 3 1 8 i0 _ rfl Try.underlying26 hi0 hz0 hz1 hz2 rfl (by omega) (by omega) W9 w.heap.size (.slice A t c') t (fl t (offV sz mo gap 0)) rfl HO.out [v] 1 1 rfl rfl (by omega) hz9 ?_; intro v1 w1 ho1 hb1 hg1 hv1; obtain ⟨A1, c1, hvv1, _, _, _⟩ := ho1.form; subst hvv1; have HO1 := hide ho1; have HB1 := hide (HB.out.trans hb1); have HMo1 := hide (HMo.out.keep (fun j h1 h2 h3 => hg1.block j h3 (fun e => by have := HSp.out j e.symm; omega))); have HSp1 := hide (own_next HSp.out hv1 (by omega)); have hhim1 := Nat.le_trans hhim hg1.size; have hd1 := (hb1.cell (p := ⟨b, off + t, none⟩) (by show b < w.heap.size; omega)).trans hc1; have hd2 := (HMo1.out.cell t hlt).1; rw [fl_at mo hlt, HY9.out, Nat.zero_add] at hd2; clear ho1 hb1 hg1 hv1)
                clear hc1 HO HSp HMo HB hhim
                go_region
                go_wp2
                go_roundw
                case rel => exact ⟨t + 1, _, _, _, by omega, rfl, by rw [DV.out], by go_num, rfl, by rw [HFl.out]; exact hide (HO1.out.keep (Below.refl _ _).drew), HSp1, hhim1, hide (HMo1.out.keep fun _ _ _ _ => rfl), hide HB1.out.drew⟩
                case measure => simp [intOf]; omega
              · obtain rfl : m = t := by omega
                have D := hide (show ListR (fl m (offS sz m space gap just)) w (.returned (.slice A m c')) W9 by
                  rw [← fl_congr (f := offV sz mo gap 0) (fun j hj => offV_eq HLe.out Hat.out HMoE.out hj)]
                  exact ListR.own HO.out HB.out)
                clear HO HMo HB HV HSp
                go_wp2
                go_ret
                exact D.out
  · by_cases q0 : just = 0
    · have HLe := hide (show (0 : Int) = leftO sz m space gap by rw [HL.out]; omega)
      have hlb2 : 0 ≤ (0 : Int) ∧ (0 : Int) ≤ 100000 := by omega
      have Hat := hide (show (0 : Int) = atO 0 just by unfold atO; rw [if_neg (by omega), if_neg (by omega)])
      have hv0 : 0 ≤ (0 : Int) ∧ (0 : Int) ≤ 100000 := by omega
      have j1 : (just == 1) = false := by simp; omega
      have j2 : (just == 2) = false := by simp; omega
      have j3 : (just == 3) = false := by simp; omega
      obtain ⟨mo, hmo⟩ : ∃ mo : Nat → Int, mo = fun _ => 0 := ⟨_, rfl⟩
      have HMoE := hide (fun t (ht : t + 1 < m) => (show mo t = moreO m 0 just t by unfold moreO; rw [hmo, if_neg (by omega)]))
      have HMoB := hide (fun t (ht : t < m) => (show 0 ≤ mo t ∧ mo t ≤ 100000 by rw [hmo]; exact ⟨Int.le_refl _, by show (0 : Int) ≤ 100000; omega⟩))
      have HMo := hide (show Row 3 ((w.alloc (.cells #[] 3)).alloc (.cells (madeCells #[.int .i64 0] m) 3)) (w.heap.size + 1) (w.heap.size + 2) (some ⟨w.heap.size + 1, 0, none⟩) m (fl m mo) by rw [hmo]; exact HMz.out)
      have HSp := hide (show ∀ j, (Value.slice (some ⟨w.heap.size, 0, none⟩) 0 0).ownBlock = some j → j < w.heap.size + 1 ∨ w.heap.size + 2 ≤ j from fun j e => by simp [Value.ownBlock] at e; omega)
      clear hmo
      skip
      go_enter Try.func52, Try.ntmps52
      go_wp2_with (go_at_call 65; refine HSum.out.mono ?_; rintro e w' ⟨rfl, rfl⟩)
      generalize ((w.alloc (.cells #[] 3)).alloc (.cells (madeCells #[.int .i64 0] m) 3)) = Wp at HO HB HMo hhim ⊢
      go_loopw [9, 12, 15] (fun s9 s12 s15 wr => ∃ (t c' : Nat) (A : Option Addr) (W9 : World), t ≤ m ∧ s9 = .slice A t c' ∧ s12 = .int .i64 (offV sz mo gap 0 t) ∧ s15 = .int .i64 t ∧ W9 = wr ∧ Hid (Own 3 1 W9 w.heap.size (.slice A t c') t (fl t (offV sz mo gap 0))) ∧ Hid (∀ j, (Value.slice A t c').ownBlock = some j → j < (w.heap.size + 1) ∨ (w.heap.size + 2) ≤ j) ∧ (w.heap.size + 2) ≤ W9.heap.size ∧ Hid (Row 3 W9 (w.heap.size + 1) (w.heap.size + 2) (some ⟨w.heap.size + 1, 0, none⟩) m (fl m mo)) ∧ Hid (Below w.heap.size w W9)) (fun _ _ s15 _ => m - (intOf s15).toNat)
      case atStart => exact ⟨0, _, _, _, Nat.zero_le _, rfl, by rw [offV_zero], rfl, rfl, HO, HSp, hhim, HMo, HB⟩
      case round =>
        clear HO HSp HMo HB hhim
        obtain ⟨t, c', A, W9, htm, rfl, rfl, rfl, rfl, HO, HSp, hhim, HMo, HB⟩ := hrel
        have hz9 := HB.out.size
        have hvb := offV_bd (sz := sz) (mo := mo) (m := m) (t := t) HZ.out hg hv0 HMoB.out htm hm.2
        obtain ⟨v, hv⟩ : ∃ v, offV sz mo gap 0 t = v := ⟨_, rfl⟩
        rw [hv] at hvb
        rw [hv]
        have HV := hide hv
        clear hv
        by_cases hlt : t < m
        · have hlt' : (t : Int) < (m : Int) := by omega
          skip
          obtain ⟨b', off', eb, -, hcell⟩ := (HA.out _ HB.out).2.2 (by omega)
          injection eb with eb
          injection eb with eb1 eb2
          subst eb1 eb2
          have hc1 := hcell t hlt
          rw [fl_at sz hlt] at hc1
          have hzt := HZ.out t hlt
          have hmt := HMoB.out t hlt
          have DV := hide (offV_succ sz mo gap 0 t)
          obtain ⟨x, hx⟩ : ∃ x, sz t = x := ⟨_, rfl⟩
          obtain ⟨y, hy⟩ : ∃ y, mo t = y := ⟨_, rfl⟩
          rw [hx] at hc1 hzt
          rw [hy] at hmt
          have DV := hide (show offV sz mo gap 0 (t + 1) = v + x + gap + y by rw [DV.out, HV.out, hx, hy])
          have HY9 := hide hy
          have HFl := hide (show fl (t + 1) (offV sz mo gap 0) = fl t (offV sz mo gap 0) ++ [v] by rw [fl_snoc, HV.out])
          clear hx hy hcell
          go_wp2_with (at_builtin; refine wpList_push rfl (.tmp 69) (.tmp 71) 26 3 1 8 i0 _ rfl Try.underlying26 hi0 hz0 hz1 hz2 rfl (by omega) (by omega) W9 w.heap.size (.slice A t c') t (fl t (offV sz mo gap 0)) rfl HO.out [v] 1 1 rfl rfl (by omega) hz9 ?_; intro v1 w1 ho1 hb1 hg1 hv1; obtain ⟨A1, c1, hvv1, _, _, _⟩ := ho1.form; subst hvv1; have HO1 := hide ho1; have HB1 := hide (HB.out.trans hb1); have HMo1 := hide (HMo.out.keep (fun j h1 h2 h3 => hg1.block j h3 (fun e => by have := HSp.out j e.symm; omega))); have HSp1 := hide (own_next HSp.out hv1 (by omega)); have hhim1 := Nat.le_trans hhim hg1.size; have hd1 := (hb1.cell (p := ⟨b, off + t, none⟩) (by show b < w.heap.size; omega)).trans hc1; have hd2 := (HMo1.out.cell t hlt).1; rw [fl_at mo hlt, HY9.out, Nat.zero_add] at hd2; clear ho1 hb1 hg1 hv1)
          clear hc1 HO HSp HMo HB hhim
          go_region
          go_wp2
          go_roundw
          case rel => exact ⟨t + 1, _, _, _, by omega, rfl, by rw [DV.out], by go_num, rfl, by rw [HFl.out]; exact hide (HO1.out.keep (Below.refl _ _).drew), HSp1, hhim1, hide (HMo1.out.keep fun _ _ _ _ => rfl), hide HB1.out.drew⟩
          case measure => simp [intOf]; omega
        · obtain rfl : m = t := by omega
          have D := hide (show ListR (fl m (offS sz m space gap just)) w (.returned (.slice A m c')) W9 by
            rw [← fl_congr (f := offV sz mo gap 0) (fun j hj => offV_eq HLe.out Hat.out HMoE.out hj)]
            exact ListR.own HO.out HB.out)
          clear HO HMo HB HV HSp
          go_wp2
          go_ret
          exact D.out
    · by_cases q1 : just = 1
      · have HLe := hide (show (0 : Int) = leftO sz m space gap by rw [HL.out]; omega)
        have hlb2 : 0 ≤ (0 : Int) ∧ (0 : Int) ≤ 100000 := by omega
        have Hat := hide (show (0 : Int) = atO 0 just by unfold atO; rw [if_pos (by omega)])
        have hv0 : 0 ≤ (0 : Int) ∧ (0 : Int) ≤ 100000 := by omega
        have j1 : (just == 1) = true := by simp; omega
        obtain ⟨mo, hmo⟩ : ∃ mo : Nat → Int, mo = fun _ => 0 := ⟨_, rfl⟩
        have HMoE := hide (fun t (ht : t + 1 < m) => (show mo t = moreO m 0 just t by unfold moreO; rw [hmo, if_neg (by omega)]))
        have HMoB := hide (fun t (ht : t < m) => (show 0 ≤ mo t ∧ mo t ≤ 100000 by rw [hmo]; exact ⟨Int.le_refl _, by show (0 : Int) ≤ 100000; omega⟩))
        have HMo := hide (show Row 3 ((w.alloc (.cells #[] 3)).alloc (.cells (madeCells #[.int .i64 0] m) 3)) (w.heap.size + 1) (w.heap.size + 2) (some ⟨w.heap.size + 1, 0, none⟩) m (fl m mo) by rw [hmo]; exact HMz.out)
        have HSp := hide (show ∀ j, (Value.slice (some ⟨w.heap.size, 0, none⟩) 0 0).ownBlock = some j → j < w.heap.size + 1 ∨ w.heap.size + 2 ≤ j from fun j e => by simp [Value.ownBlock] at e; omega)
        clear hmo
        skip
        go_enter Try.func52, Try.ntmps52
        go_wp2_with (go_at_call 65; refine HSum.out.mono ?_; rintro e w' ⟨rfl, rfl⟩)
        generalize ((w.alloc (.cells #[] 3)).alloc (.cells (madeCells #[.int .i64 0] m) 3)) = Wp at HO HB HMo hhim ⊢
        go_loopw [9, 12, 15] (fun s9 s12 s15 wr => ∃ (t c' : Nat) (A : Option Addr) (W9 : World), t ≤ m ∧ s9 = .slice A t c' ∧ s12 = .int .i64 (offV sz mo gap 0 t) ∧ s15 = .int .i64 t ∧ W9 = wr ∧ Hid (Own 3 1 W9 w.heap.size (.slice A t c') t (fl t (offV sz mo gap 0))) ∧ Hid (∀ j, (Value.slice A t c').ownBlock = some j → j < (w.heap.size + 1) ∨ (w.heap.size + 2) ≤ j) ∧ (w.heap.size + 2) ≤ W9.heap.size ∧ Hid (Row 3 W9 (w.heap.size + 1) (w.heap.size + 2) (some ⟨w.heap.size + 1, 0, none⟩) m (fl m mo)) ∧ Hid (Below w.heap.size w W9)) (fun _ _ s15 _ => m - (intOf s15).toNat)
        case atStart => exact ⟨0, _, _, _, Nat.zero_le _, rfl, by rw [offV_zero], rfl, rfl, HO, HSp, hhim, HMo, HB⟩
        case round =>
          clear HO HSp HMo HB hhim
          obtain ⟨t, c', A, W9, htm, rfl, rfl, rfl, rfl, HO, HSp, hhim, HMo, HB⟩ := hrel
          have hz9 := HB.out.size
          have hvb := offV_bd (sz := sz) (mo := mo) (m := m) (t := t) HZ.out hg hv0 HMoB.out htm hm.2
          obtain ⟨v, hv⟩ : ∃ v, offV sz mo gap 0 t = v := ⟨_, rfl⟩
          rw [hv] at hvb
          rw [hv]
          have HV := hide hv
          clear hv
          by_cases hlt : t < m
          · have hlt' : (t : Int) < (m : Int) := by omega
            skip
            obtain ⟨b', off', eb, -, hcell⟩ := (HA.out _ HB.out).2.2 (by omega)
            injection eb with eb
            injection eb with eb1 eb2
            subst eb1 eb2
            have hc1 := hcell t hlt
            rw [fl_at sz hlt] at hc1
            have hzt := HZ.out t hlt
            have hmt := HMoB.out t hlt
            have DV := hide (offV_succ sz mo gap 0 t)
            obtain ⟨x, hx⟩ : ∃ x, sz t = x := ⟨_, rfl⟩
            obtain ⟨y, hy⟩ : ∃ y, mo t = y := ⟨_, rfl⟩
            rw [hx] at hc1 hzt
            rw [hy] at hmt
            have DV := hide (show offV sz mo gap 0 (t + 1) = v + x + gap + y by rw [DV.out, HV.out, hx, hy])
            have HY9 := hide hy
            have HFl := hide (show fl (t + 1) (offV sz mo gap 0) = fl t (offV sz mo gap 0) ++ [v] by rw [fl_snoc, HV.out])
            clear hx hy hcell
            go_wp2_with (at_builtin; refine wpList_push rfl (.tmp 69) (.tmp 71) 26 3 1 8 i0 _ rfl Try.underlying26 hi0 hz0 hz1 hz2 rfl (by omega) (by omega) W9 w.heap.size (.slice A t c') t (fl t (offV sz mo gap 0)) rfl HO.out [v] 1 1 rfl rfl (by omega) hz9 ?_; intro v1 w1 ho1 hb1 hg1 hv1; obtain ⟨A1, c1, hvv1, _, _, _⟩ := ho1.form; subst hvv1; have HO1 := hide ho1; have HB1 := hide (HB.out.trans hb1); have HMo1 := hide (HMo.out.keep (fun j h1 h2 h3 => hg1.block j h3 (fun e => by have := HSp.out j e.symm; omega))); have HSp1 := hide (own_next HSp.out hv1 (by omega)); have hhim1 := Nat.le_trans hhim hg1.size; have hd1 := (hb1.cell (p := ⟨b, off + t, none⟩) (by show b < w.heap.size; omega)).trans hc1; have hd2 := (HMo1.out.cell t hlt).1; rw [fl_at mo hlt, HY9.out, Nat.zero_add] at hd2; clear ho1 hb1 hg1 hv1)
            clear hc1 HO HSp HMo HB hhim
            go_region
            go_wp2
            go_roundw
            case rel => exact ⟨t + 1, _, _, _, by omega, rfl, by rw [DV.out], by go_num, rfl, by rw [HFl.out]; exact hide (HO1.out.keep (Below.refl _ _).drew), HSp1, hhim1, hide (HMo1.out.keep fun _ _ _ _ => rfl), hide HB1.out.drew⟩
            case measure => simp [intOf]; omega
          · obtain rfl : m = t := by omega
            have D := hide (show ListR (fl m (offS sz m space gap just)) w (.returned (.slice A m c')) W9 by
              rw [← fl_congr (f := offV sz mo gap 0) (fun j hj => offV_eq HLe.out Hat.out HMoE.out hj)]
              exact ListR.own HO.out HB.out)
            clear HO HMo HB HV HSp
            go_wp2
            go_ret
            exact D.out
      · by_cases q2 : just = 2
        · have HLe := hide (show (0 : Int) = leftO sz m space gap by rw [HL.out]; omega)
          have hlb2 : 0 ≤ (0 : Int) ∧ (0 : Int) ≤ 100000 := by omega
          have Hat := hide (show (0 : Int) = atO 0 just by unfold atO; rw [if_neg (by omega), if_pos (by omega)]; rfl)
          have hv0 : 0 ≤ (0 : Int) ∧ (0 : Int) ≤ 100000 := by omega
          have j1 : (just == 1) = false := by simp; omega
          have j2 : (just == 2) = true := by simp; omega
          obtain ⟨mo, hmo⟩ : ∃ mo : Nat → Int, mo = fun _ => 0 := ⟨_, rfl⟩
          have HMoE := hide (fun t (ht : t + 1 < m) => (show mo t = moreO m 0 just t by unfold moreO; rw [hmo, if_neg (by omega)]))
          have HMoB := hide (fun t (ht : t < m) => (show 0 ≤ mo t ∧ mo t ≤ 100000 by rw [hmo]; exact ⟨Int.le_refl _, by show (0 : Int) ≤ 100000; omega⟩))
          have HMo := hide (show Row 3 ((w.alloc (.cells #[] 3)).alloc (.cells (madeCells #[.int .i64 0] m) 3)) (w.heap.size + 1) (w.heap.size + 2) (some ⟨w.heap.size + 1, 0, none⟩) m (fl m mo) by rw [hmo]; exact HMz.out)
          have HSp := hide (show ∀ j, (Value.slice (some ⟨w.heap.size, 0, none⟩) 0 0).ownBlock = some j → j < w.heap.size + 1 ∨ w.heap.size + 2 ≤ j from fun j e => by simp [Value.ownBlock] at e; omega)
          clear hmo
          skip
          go_enter Try.func52, Try.ntmps52
          go_wp2_with (go_at_call 65; refine HSum.out.mono ?_; rintro e w' ⟨rfl, rfl⟩)
          generalize ((w.alloc (.cells #[] 3)).alloc (.cells (madeCells #[.int .i64 0] m) 3)) = Wp at HO HB HMo hhim ⊢
          go_loopw [9, 12, 15] (fun s9 s12 s15 wr => ∃ (t c' : Nat) (A : Option Addr) (W9 : World), t ≤ m ∧ s9 = .slice A t c' ∧ s12 = .int .i64 (offV sz mo gap 0 t) ∧ s15 = .int .i64 t ∧ W9 = wr ∧ Hid (Own 3 1 W9 w.heap.size (.slice A t c') t (fl t (offV sz mo gap 0))) ∧ Hid (∀ j, (Value.slice A t c').ownBlock = some j → j < (w.heap.size + 1) ∨ (w.heap.size + 2) ≤ j) ∧ (w.heap.size + 2) ≤ W9.heap.size ∧ Hid (Row 3 W9 (w.heap.size + 1) (w.heap.size + 2) (some ⟨w.heap.size + 1, 0, none⟩) m (fl m mo)) ∧ Hid (Below w.heap.size w W9)) (fun _ _ s15 _ => m - (intOf s15).toNat)
          case atStart => exact ⟨0, _, _, _, Nat.zero_le _, rfl, by rw [offV_zero], rfl, rfl, HO, HSp, hhim, HMo, HB⟩
          case round =>
            clear HO HSp HMo HB hhim
            obtain ⟨t, c', A, W9, htm, rfl, rfl, rfl, rfl, HO, HSp, hhim, HMo, HB⟩ := hrel
            have hz9 := HB.out.size
            have hvb := offV_bd (sz := sz) (mo := mo) (m := m) (t := t) HZ.out hg hv0 HMoB.out htm hm.2
            obtain ⟨v, hv⟩ : ∃ v, offV sz mo gap 0 t = v := ⟨_, rfl⟩
            rw [hv] at hvb
            rw [hv]
            have HV := hide hv
            clear hv
            by_cases hlt : t < m
            · have hlt' : (t : Int) < (m : Int) := by omega
              skip
              obtain ⟨b', off', eb, -, hcell⟩ := (HA.out _ HB.out).2.2 (by omega)
              injection eb with eb
              injection eb with eb1 eb2
              subst eb1 eb2
              have hc1 := hcell t hlt
              rw [fl_at sz hlt] at hc1
              have hzt := HZ.out t hlt
              have hmt := HMoB.out t hlt
              have DV := hide (offV_succ sz mo gap 0 t)
              obtain ⟨x, hx⟩ : ∃ x, sz t = x := ⟨_, rfl⟩
              obtain ⟨y, hy⟩ : ∃ y, mo t = y := ⟨_, rfl⟩
              rw [hx] at hc1 hzt
              rw [hy] at hmt
              have DV := hide (show offV sz mo gap 0 (t + 1) = v + x + gap + y by rw [DV.out, HV.out, hx, hy])
              have HY9 := hide hy
              have HFl := hide (show fl (t + 1) (offV sz mo gap 0) = fl t (offV sz mo gap 0) ++ [v] by rw [fl_snoc, HV.out])
              clear hx hy hcell
              go_wp2_with (at_builtin; refine wpList_push rfl (.tmp 69) (.tmp 71) 26 3 1 8 i0 _ rfl Try.underlying26 hi0 hz0 hz1 hz2 rfl (by omega) (by omega) W9 w.heap.size (.slice A t c') t (fl t (offV sz mo gap 0)) rfl HO.out [v] 1 1 rfl rfl (by omega) hz9 ?_; intro v1 w1 ho1 hb1 hg1 hv1; obtain ⟨A1, c1, hvv1, _, _, _⟩ := ho1.form; subst hvv1; have HO1 := hide ho1; have HB1 := hide (HB.out.trans hb1); have HMo1 := hide (HMo.out.keep (fun j h1 h2 h3 => hg1.block j h3 (fun e => by have := HSp.out j e.symm; omega))); have HSp1 := hide (own_next HSp.out hv1 (by omega)); have hhim1 := Nat.le_trans hhim hg1.size; have hd1 := (hb1.cell (p := ⟨b, off + t, none⟩) (by show b < w.heap.size; omega)).trans hc1; have hd2 := (HMo1.out.cell t hlt).1; rw [fl_at mo hlt, HY9.out, Nat.zero_add] at hd2; clear ho1 hb1 hg1 hv1)
              clear hc1 HO HSp HMo HB hhim
              go_region
              go_wp2
              go_roundw
              case rel => exact ⟨t + 1, _, _, _, by omega, rfl, by rw [DV.out], by go_num, rfl, by rw [HFl.out]; exact hide (HO1.out.keep (Below.refl _ _).drew), HSp1, hhim1, hide (HMo1.out.keep fun _ _ _ _ => rfl), hide HB1.out.drew⟩
              case measure => simp [intOf]; omega
            · obtain rfl : m = t := by omega
              have D := hide (show ListR (fl m (offS sz m space gap just)) w (.returned (.slice A m c')) W9 by
                rw [← fl_congr (f := offV sz mo gap 0) (fun j hj => offV_eq HLe.out Hat.out HMoE.out hj)]
                exact ListR.own HO.out HB.out)
              clear HO HMo HB HV HSp
              go_wp2
              go_ret
              exact D.out
        · have q3 : just = 3 := by omega
          by_cases qm : 1 < m
          · have HLe := hide (show (0 : Int) = leftO sz m space gap by rw [HL.out]; omega)
            have hlb2 : 0 ≤ (0 : Int) ∧ (0 : Int) ≤ 100000 := by omega
            have Hat := hide (show (0 : Int) = atO 0 just by unfold atO; rw [if_neg (by omega), if_neg (by omega)])
            have hv0 : 0 ≤ (0 : Int) ∧ (0 : Int) ≤ 100000 := by omega
            have j1 : (just == 1) = false := by simp; omega
            have j2 : (just == 2) = false := by simp; omega
            have j3 : (just == 3) = true := by simp; omega
            have hm1 : (1 : Int) < (m : Int) := by omega
            have hm1' : 1 < m := by omega
            obtain ⟨k, hk⟩ : ∃ k, m - 1 = k := ⟨_, rfl⟩
            have hkm : k + 1 = m := by omega
            have hk1 : 1 ≤ k ∧ k ≤ 7 := by omega
            obtain ⟨mo, hmo⟩ : ∃ mo : Nat → Int, mo = moS 0 k := ⟨_, rfl⟩
            have HMoE := hide (fun t (ht : t + 1 < m) => (show mo t = moreO m 0 just t by rw [hmo, ← hk]; exact moS_more (by omega) t ht))
            have HMoB := hide (fun t (ht : t < m) => (show 0 ≤ mo t ∧ mo t ≤ 100000 by rw [hmo]; exact moS_bd hlb2 k t))
            have HMoL := hide (show fl m mo = shareL 0 (List.replicate k 1) ++ [0] by rw [hmo, ← hkm]; exact fl_moS _ _)
            have HKm := hide hkm
            have HOn := hide (show Own 3 1 (((w.alloc (.cells #[] 3)).alloc (.cells (madeCells #[.int .i64 0] m) 3)).alloc (.cells #[] 3)) (w.heap.size + 2) (.slice (some ⟨w.heap.size + 2, 0, none⟩) 0 0) 0 [] from by have h := Own.made 3 1 ((w.alloc (.cells #[] 3)).alloc (.cells (madeCells #[.int .i64 0] m) 3)) #[] 0 (w.heap.size + 2) (by simp) (by omega) rfl; simp only [World.size_alloc] at h; exact h)
            have HB2 := hide (show Below (w.heap.size + 2) ((w.alloc (.cells #[] 3)).alloc (.cells (madeCells #[.int .i64 0] m) 3)) (((w.alloc (.cells #[] 3)).alloc (.cells (madeCells #[.int .i64 0] m) 3)).alloc (.cells #[] 3)) from (Below.refl _ _).alloc (by simp) _)
            clear hmo hk hkm
            go_enter Try.func52, Try.ntmps52
            go_wp2_with (go_at_call 65; refine HSum.out.mono ?_; rintro e w' ⟨rfl, rfl⟩)
            have hhimE : ((w.alloc (.cells #[] 3)).alloc (.cells (madeCells #[.int .i64 0] m) 3)).heap.size = w.heap.size + 2 := by simp
            generalize hWp : ((w.alloc (.cells #[] 3)).alloc (.cells (madeCells #[.int .i64 0] m) 3)) = Wp at HO HB HOn HB2 HMz hhim hhimE ⊢
            clear hWp
            generalize Wp.alloc (.cells #[] 3) = Wq at HOn HB2 ⊢
            go_loopw [13, 14] (fun s13 s14 wr => ∃ (t c' : Nat) (A : Option Addr) (W9 : World), t ≤ k ∧ s13 = .slice A t c' ∧ s14 = .int .i64 ((t : Int) + 1) ∧ W9 = wr ∧ Hid (Own 3 1 W9 (w.heap.size + 2) (.slice A t c') t (List.replicate t 1)) ∧ Hid (Below (w.heap.size + 2) Wp W9)) (fun _ s14 _ => m + 1 - (intOf s14).toNat)
            case atStart => exact ⟨0, _, _, _, Nat.zero_le _, rfl, rfl, rfl, HOn, HB2⟩
            case round =>
              clear HOn HB2
              obtain ⟨t, c', A, W9, htk, rfl, rfl, rfl, HOn, HB2⟩ := hrel
              have hz9 := HB2.out.size
              by_cases hlt : t < k
              · have hlt' : (t : Int) + 1 < (m : Int) := by have := HKm.out; omega
                go_wp2_with (at_builtin; refine wpList_push rfl (.tmp 55) (.tmp 56) 26 3 1 8 i0 _ rfl Try.underlying26 hi0 hz0 hz1 hz2 rfl (by omega) (by omega) W9 (w.heap.size + 2) (.slice A t c') t (List.replicate t 1) rfl HOn.out [1] 1 1 rfl rfl (by omega) (by omega) ?_; intro v1 w1 ho1 hb1 hg1 hv1; obtain ⟨A1, c1, hvv1, _, _, _⟩ := ho1.form; subst hvv1; have HO1 := hide (show Own 3 1 w1 (w.heap.size + 2) (.slice A1 (t + 1) c1) (t + 1) (List.replicate (t + 1) 1) by rw [List.replicate_succ']; exact ho1); have HB3 := hide (HB2.out.trans hb1); clear ho1 hb1 hg1 hv1)
                go_roundw
                case rel => exact ⟨t + 1, _, _, _, by omega, rfl, by go_num, rfl, HO1, HB3⟩
                case measure => simp [intOf]; have := HKm.out; omega
              · obtain rfl : k = t := by omega
                have hlt' : ¬ (k : Int) + 1 < (m : Int) := by have := HKm.out; omega
                obtain ⟨A', c'', e, hc1, hc2, hrow⟩ := HOn.out.form
                injection e with e1 e2 e3
                subst e1 e3
                rw [Nat.mul_one] at hrow
                have HSh := hide (specShareN_any W9.heap.size A k c' (List.replicate k 1) 0 W9 hrow.ints (Nat.le_refl _) (by omega) (ones_ok k) (by omega))
                clear hrow HOn
                go_wp2_with fail
                refine HSh.out.mono ?_
                rintro e W10 ⟨A9, n9, rfl, hr9, hb9'⟩
                obtain rfl : k = n9 := by have h1 := hr9.1; rw [shareL_len, List.length_replicate] at h1; exact h1
                have HR9 := hide hr9
                have HB10 := hide (HB2.out.trans (hb9'.mono (by omega)))
                have hz10 := HB10.out.size
                clear hr9 hb9' HSh
                go_wp2_with (at_builtin; refine wpList_grows rfl (.tmp 60) (.tmp 61) rfl W10 W9.heap.size W10.heap.size A9 k (shareL 0 (List.replicate k 1)) 0 1 rfl HR9.out (by omega) rfl ?_; intro v1 w1 ho1 hb1; have HKeep := hide (HB10.out.trans (hb1.mono (by omega))); have hw1 := hb1.size; obtain ⟨A1, c1, hvv1, hv1, hv2, hv3⟩ := ho1.form; subst hvv1; rw [Nat.mul_one] at hv3; have HR1 := hide hv3; clear ho1 hb1 hv1 hv2 hv3)
                have hr1 := HR1.out
                rw [HKm.out, ← HMoL.out] at hr1
                rw [show ((k : Int) + 1) = (m : Int) by have := HKm.out; omega] at *
                obtain ⟨bm, om, hA1⟩ : ∃ bm om, A1 = some ⟨bm, om, none⟩ := by
                  obtain ⟨g, o9, cur, e, -⟩ := hr1.2 (by omega)
                  exact ⟨g, o9, e⟩
                subst hA1
                have HMo := hide hr1
                have HO := hide (HO.out.keep (HKeep.out.mono (by omega)))
                have HB := hide (HB.out.trans (HKeep.out.mono (by omega)))
                have HSp := hide (show ∀ j, (Value.slice (some ⟨w.heap.size, 0, none⟩) 0 0).ownBlock = some j → j < W10.heap.size + 1 ∨ w1.heap.size ≤ j from fun j e => by simp [Value.ownBlock] at e; omega)
                obtain ⟨him, hhe⟩ : ∃ him, w1.heap.size = him := ⟨_, rfl⟩
                rw [hhe] at HSp HMo
                have hhim2 : him ≤ w1.heap.size := by omega
                clear hhim
                have hhim := hhim2
                clear hhim2
                clear hr1 HR1 HKeep HR9 HB10 HB2 HMz
                go_wp2
                go_loopw [9, 12, 15] (fun s9 s12 s15 wr => ∃ (t c' : Nat) (A : Option Addr) (W9 : World), t ≤ m ∧ s9 = .slice A t c' ∧ s12 = .int .i64 (offV sz mo gap 0 t) ∧ s15 = .int .i64 t ∧ W9 = wr ∧ Hid (Own 3 1 W9 w.heap.size (.slice A t c') t (fl t (offV sz mo gap 0))) ∧ Hid (∀ j, (Value.slice A t c').ownBlock = some j → j < (W10.heap.size + 1) ∨ him ≤ j) ∧ him ≤ W9.heap.size ∧ Hid (Row 3 W9 (W10.heap.size + 1) him (some ⟨bm, om, none⟩) m (fl m mo)) ∧ Hid (Below w.heap.size w W9)) (fun _ _ s15 _ => m - (intOf s15).toNat)
                case atStart => exact ⟨0, _, _, _, Nat.zero_le _, rfl, by rw [offV_zero], rfl, rfl, HO, HSp, hhim, HMo, HB⟩
                case round =>
                  clear HO HSp HMo HB hhim
                  obtain ⟨t, c', A, W9, htm, rfl, rfl, rfl, rfl, HO, HSp, hhim, HMo, HB⟩ := hrel
                  have hz9 := HB.out.size
                  have hvb := offV_bd (sz := sz) (mo := mo) (m := m) (t := t) HZ.out hg hv0 HMoB.out htm hm.2
                  obtain ⟨v, hv⟩ : ∃ v, offV sz mo gap 0 t = v := ⟨_, rfl⟩
                  rw [hv] at hvb
                  rw [hv]
                  have HV := hide hv
                  clear hv
                  by_cases hlt : t < m
                  · have hlt' : (t : Int) < (m : Int) := by omega
                    have hlt3 : (t : Int) < (k : Int) + 1 := by have := HKm.out; omega
                    obtain ⟨b', off', eb, -, hcell⟩ := (HA.out _ HB.out).2.2 (by omega)
                    injection eb with eb
                    injection eb with eb1 eb2
                    subst eb1 eb2
                    have hc1 := hcell t hlt
                    rw [fl_at sz hlt] at hc1
                    have hzt := HZ.out t hlt
                    have hmt := HMoB.out t hlt
                    have DV := hide (offV_succ sz mo gap 0 t)
                    obtain ⟨x, hx⟩ : ∃ x, sz t = x := ⟨_, rfl⟩
                    obtain ⟨y, hy⟩ : ∃ y, mo t = y := ⟨_, rfl⟩
                    rw [hx] at hc1 hzt
                    rw [hy] at hmt
                    have DV := hide (show offV sz mo gap 0 (t + 1) = v + x + gap + y by rw [DV.out, HV.out, hx, hy])
                    have HY9 := hide hy
                    have HFl := hide (show fl (t + 1) (offV sz mo gap 0) = fl t (offV sz mo gap 0) ++ [v] by rw [fl_snoc, HV.out])
                    clear hx hy hcell
                    go_wp2_with (at_builtin; refine wpList_push rfl (.tmp 69) (.tmp 71) 26 3 1 8 i0 _ rfl Try.underlying26 hi0 hz0 hz1 hz2 rfl (by omega) (by omega) W9 w.heap.size (.slice A t c') t (fl t (offV sz mo gap 0)) rfl HO.out [v] 1 1 rfl rfl (by omega) hz9 ?_; intro v1 w1 ho1 hb1 hg1 hv1; obtain ⟨A1, c1, hvv1, _, _, _⟩ := ho1.form; subst hvv1; have HO1 := hide ho1; have HB1 := hide (HB.out.trans hb1); have HMo1 := hide (HMo.out.keep (fun j h1 h2 h3 => hg1.block j h3 (fun e => by have := HSp.out j e.symm; omega))); have HSp1 := hide (own_next HSp.out hv1 (by omega)); have hhim1 := Nat.le_trans hhim hg1.size; have hd1 := (hb1.cell (p := ⟨b, off + t, none⟩) (by show b < w.heap.size; omega)).trans hc1; have hd2 := (HMo1.out.cell t hlt).1; rw [fl_at mo hlt, HY9.out] at hd2; clear ho1 hb1 hg1 hv1)
                    clear hc1 HO HSp HMo HB hhim
                    go_region
                    go_wp2
                    go_roundw
                    case rel => exact ⟨t + 1, _, _, _, by omega, rfl, by rw [DV.out], by go_num, rfl, by rw [HFl.out]; exact hide (HO1.out.keep (Below.refl _ _).drew), HSp1, hhim1, hide (HMo1.out.keep fun _ _ _ _ => rfl), hide HB1.out.drew⟩
                    case measure => simp [intOf]; omega
                  · obtain rfl : m = t := by omega
                    have D := hide (show ListR (fl m (offS sz m space gap just)) w (.returned (.slice A m c')) W9 by
                      rw [← fl_congr (f := offV sz mo gap 0) (fun j hj => offV_eq HLe.out Hat.out HMoE.out hj)]
                      exact ListR.own HO.out HB.out)
                    clear HO HMo HB HV HSp
                    go_wp2
                    go_ret
                    exact D.out
          · have HLe := hide (show (0 : Int) = leftO sz m space gap by rw [HL.out]; omega)
            have hlb2 : 0 ≤ (0 : Int) ∧ (0 : Int) ≤ 100000 := by omega
            have Hat := hide (show (0 : Int) = atO 0 just by unfold atO; rw [if_neg (by omega), if_neg (by omega)])
            have hv0 : 0 ≤ (0 : Int) ∧ (0 : Int) ≤ 100000 := by omega
            have j1 : (just == 1) = false := by simp; omega
            have j2 : (just == 2) = false := by simp; omega
            have j3 : (just == 3) = true := by simp; omega
            have hm1 : ¬ (1 : Int) < (m : Int) := by omega
            have hm1' : ¬ 1 < m := by omega
            obtain ⟨mo, hmo⟩ : ∃ mo : Nat → Int, mo = fun _ => 0 := ⟨_, rfl⟩
            have HMoE := hide (fun t (ht : t + 1 < m) => (show mo t = moreO m 0 just t by unfold moreO; rw [hmo, if_neg (by omega)]))
            have HMoB := hide (fun t (ht : t < m) => (show 0 ≤ mo t ∧ mo t ≤ 100000 by rw [hmo]; exact ⟨Int.le_refl _, by show (0 : Int) ≤ 100000; omega⟩))
            have HMo := hide (show Row 3 ((w.alloc (.cells #[] 3)).alloc (.cells (madeCells #[.int .i64 0] m) 3)) (w.heap.size + 1) (w.heap.size + 2) (some ⟨w.heap.size + 1, 0, none⟩) m (fl m mo) by rw [hmo]; exact HMz.out)
            have HSp := hide (show ∀ j, (Value.slice (some ⟨w.heap.size, 0, none⟩) 0 0).ownBlock = some j → j < w.heap.size + 1 ∨ w.heap.size + 2 ≤ j from fun j e => by simp [Value.ownBlock] at e; omega)
            clear hmo
            skip
            go_enter Try.func52, Try.ntmps52
            go_wp2_with (go_at_call 65; refine HSum.out.mono ?_; rintro e w' ⟨rfl, rfl⟩)
            generalize ((w.alloc (.cells #[] 3)).alloc (.cells (madeCells #[.int .i64 0] m) 3)) = Wp at HO HB HMo hhim ⊢
            go_loopw [9, 12, 15] (fun s9 s12 s15 wr => ∃ (t c' : Nat) (A : Option Addr) (W9 : World), t ≤ m ∧ s9 = .slice A t c' ∧ s12 = .int .i64 (offV sz mo gap 0 t) ∧ s15 = .int .i64 t ∧ W9 = wr ∧ Hid (Own 3 1 W9 w.heap.size (.slice A t c') t (fl t (offV sz mo gap 0))) ∧ Hid (∀ j, (Value.slice A t c').ownBlock = some j → j < (w.heap.size + 1) ∨ (w.heap.size + 2) ≤ j) ∧ (w.heap.size + 2) ≤ W9.heap.size ∧ Hid (Row 3 W9 (w.heap.size + 1) (w.heap.size + 2) (some ⟨w.heap.size + 1, 0, none⟩) m (fl m mo)) ∧ Hid (Below w.heap.size w W9)) (fun _ _ s15 _ => m - (intOf s15).toNat)
            case atStart => exact ⟨0, _, _, _, Nat.zero_le _, rfl, by rw [offV_zero], rfl, rfl, HO, HSp, hhim, HMo, HB⟩
            case round =>
              clear HO HSp HMo HB hhim
              obtain ⟨t, c', A, W9, htm, rfl, rfl, rfl, rfl, HO, HSp, hhim, HMo, HB⟩ := hrel
              have hz9 := HB.out.size
              have hvb := offV_bd (sz := sz) (mo := mo) (m := m) (t := t) HZ.out hg hv0 HMoB.out htm hm.2
              obtain ⟨v, hv⟩ : ∃ v, offV sz mo gap 0 t = v := ⟨_, rfl⟩
              rw [hv] at hvb
              rw [hv]
              have HV := hide hv
              clear hv
              by_cases hlt : t < m
              · have hlt' : (t : Int) < (m : Int) := by omega
                skip
                obtain ⟨b', off', eb, -, hcell⟩ := (HA.out _ HB.out).2.2 (by omega)
                injection eb with eb
                injection eb with eb1 eb2
                subst eb1 eb2
                have hc1 := hcell t hlt
                rw [fl_at sz hlt] at hc1
                have hzt := HZ.out t hlt
                have hmt := HMoB.out t hlt
                have DV := hide (offV_succ sz mo gap 0 t)
                obtain ⟨x, hx⟩ : ∃ x, sz t = x := ⟨_, rfl⟩
                obtain ⟨y, hy⟩ : ∃ y, mo t = y := ⟨_, rfl⟩
                rw [hx] at hc1 hzt
                rw [hy] at hmt
                have DV := hide (show offV sz mo gap 0 (t + 1) = v + x + gap + y by rw [DV.out, HV.out, hx, hy])
                have HY9 := hide hy
                have HFl := hide (show fl (t + 1) (offV sz mo gap 0) = fl t (offV sz mo gap 0) ++ [v] by rw [fl_snoc, HV.out])
                clear hx hy hcell
                go_wp2_with (at_builtin; refine wpList_push rfl (.tmp 69) (.tmp 71) 26 3 1 8 i0 _ rfl Try.underlying26 hi0 hz0 hz1 hz2 rfl (by omega) (by omega) W9 w.heap.size (.slice A t c') t (fl t (offV sz mo gap 0)) rfl HO.out [v] 1 1 rfl rfl (by omega) hz9 ?_; intro v1 w1 ho1 hb1 hg1 hv1; obtain ⟨A1, c1, hvv1, _, _, _⟩ := ho1.form; subst hvv1; have HO1 := hide ho1; have HB1 := hide (HB.out.trans hb1); have HMo1 := hide (HMo.out.keep (fun j h1 h2 h3 => hg1.block j h3 (fun e => by have := HSp.out j e.symm; omega))); have HSp1 := hide (own_next HSp.out hv1 (by omega)); have hhim1 := Nat.le_trans hhim hg1.size; have hd1 := (hb1.cell (p := ⟨b, off + t, none⟩) (by show b < w.heap.size; omega)).trans hc1; have hd2 := (HMo1.out.cell t hlt).1; rw [fl_at mo hlt, HY9.out, Nat.zero_add] at hd2; clear ho1 hb1 hg1 hv1)
                clear hc1 HO HSp HMo HB hhim
                go_region
                go_wp2
                go_roundw
                case rel => exact ⟨t + 1, _, _, _, by omega, rfl, by rw [DV.out], by go_num, rfl, by rw [HFl.out]; exact hide (HO1.out.keep (Below.refl _ _).drew), HSp1, hhim1, hide (HMo1.out.keep fun _ _ _ _ => rfl), hide HB1.out.drew⟩
                case measure => simp [intOf]; omega
              · obtain rfl : m = t := by omega
                have D := hide (show ListR (fl m (offS sz m space gap just)) w (.returned (.slice A m c')) W9 by
                  rw [← fl_congr (f := offV sz mo gap 0) (fun j hj => offV_eq HLe.out Hat.out HMoE.out hj)]
                  exact ListR.own HO.out HB.out)
                clear HO HMo HB HV HSp
                go_wp2
                go_ret
                exact D.out
end Go.Proofs.Ythgliihdaockoaa
