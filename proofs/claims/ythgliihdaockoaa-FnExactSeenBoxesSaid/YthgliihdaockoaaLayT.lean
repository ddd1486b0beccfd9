/- Layout: the boxes of which something is in a rectangle: the program. Conditions: none. -/
import Derived.Test.YthgliihdaockoaaLayL
namespace Go.Proofs.Ythgliihdaockoaa
open Go.RowKit
set_option linter.unusedVariables false
set_option linter.unusedSimpArgs false
theorem rectB_of {x y u v : Int} (hx : 0 ≤ x ∧ x ≤ 50250) (hy : 0 ≤ y ∧ y ≤ 50250) (hu : 0 ≤ u ∧ u ≤ 10000) (hv : 0 ≤ v ∧ v ≤ 10000) : rectB x y u v = true := by
  simp only [rectB, Bool.and_eq_true, inR_iff]; omega
set_option maxRecDepth 100000 in
set_option maxHeartbeats 8000000 in
theorem implSeen_any (B : Nat) (a : Option Addr) (n c : Nat) (xs : List Int) (wd ht vx vy vw vh : Int) (w : World) (hA : Ints .i64 w B a (n * 9) xs) (hB : B ≤ w.heap.size) (hn : n ≤ 1048577) :
    Calls Try.prog 8 #[.slice a n c, .int .i64 wd, .int .i64 ht, .agg #[.int .i64 vx, .int .i64 vy, .int .i64 vw, .int .i64 vh]] w (ListR (seenL xs n wd ht vx vy vw vh) w) := by
  obtain ⟨i0, hi0, hz0, hz1, hz2⟩ := info_parts int_info
  have hB0 : Below w.heap.size w (w.alloc (.cells #[.int .i64 vx, .int .i64 vy, .int .i64 vw, .int .i64 vh] 30)) := (Below.refl _ _).alloc (Nat.le_refl _) _
  have hzw0 : (w.alloc (.cells #[.int .i64 vx, .int .i64 vy, .int .i64 vw, .int .i64 vh] 30)).heap.size = w.heap.size + 1 := by simp
  have HB0 := hide hB0
  have HSc := hide (screenOk_any B a n c xs wd ht (w.alloc (.cells #[.int .i64 vx, .int .i64 vy, .int .i64 vw, .int .i64 vh] 30)) (hA.below hB0 hB) (by omega) hn)
  have HA := hide (fun W (h : Below w.heap.size w W) => hA.below h hB)
  have hVr : (w.alloc (.cells #[.int .i64 vx, .int .i64 vy, .int .i64 vw, .int .i64 vh] 30)).heap[w.heap.size]? = some (.cells #[.int .i64 vx, .int .i64 vy, .int .i64 vw, .int .i64 vh] 30 (0, 0)) := heap_alloc_new w _
  cases hs : scrB xs n wd ht
  case false =>
    rw [hs] at HSc
    have D := hide (seenL_no (xs := xs) (n := n) (wd := wd) (ht := ht) (vx := vx) (vy := vy) (vw := vw) (vh := vh) (by rw [hs]; rfl))
    clear hA hB0
    go_enter Try.func8, Try.ntmps8
    go_wp2_with fail
    refine HSc.out.mono ?_
    rintro e w1 ⟨rfl, hb⟩
    have HB1 := hide (HB0.out.trans (hb.mono (by omega)))
    have hz1' := hb.size
    have hVr1 := (hb.block w.heap.size (by omega)).trans hVr
    rw [hzw0] at hz1'
    clear hb HB0 HSc hVr hzw0
    go_wp2
    go_ret
    exact ListR.nil D.out HB1.out
  case true =>
    rw [hs] at HSc
    have hT : TreeP xs n := by have h := hs; unfold scrB at h; simp only [Bool.and_eq_true] at h; exact treeV_iff.1 h.1
    have hwh : (0 ≤ wd ∧ wd ≤ 10000) ∧ (0 ≤ ht ∧ ht ≤ 10000) := by have h := hs; unfold scrB at h; simp only [Bool.and_eq_true, inR_iff] at h; exact h.2
    have hn16 := hT.hi
    have hlo := hT.lo
    have HRc := hide (fun i (hi : i < n) => rc_ok hT (root_ok hwh.1 hwh.2) hi)
    have HLO := hide (fun W (h : Below w.heap.size w W) => implLayoutOf_any B a n c xs wd ht W (HA.out W h) (Nat.le_trans hB h.size) hT hwh.1 hwh.2)
    cases hv : rectB vx vy vw vh
    case false =>
      have D := hide (seenL_no (xs := xs) (n := n) (wd := wd) (ht := ht) (vx := vx) (vy := vy) (vw := vw) (vh := vh) (by rw [hs, hv]; rfl))
      have HV := hide (fun W => (show Calls Try.prog 19 #[.agg #[.int .i64 vx, .int .i64 vy, .int .i64 vw, .int .i64 vh]] W fun e w' => e = .returned (.bool false) ∧ Below W.heap.size W w' from by have h := implRectOk_any vx vy vw vh W; rw [hv] at h; exact h))
      clear hA hT hwh HRc hB0 hv hs
      go_enter Try.func8, Try.ntmps8
      go_wp2_with fail
      refine HSc.out.mono ?_
      rintro e w1 ⟨rfl, hb⟩
      have HB1 := hide (HB0.out.trans (hb.mono (by omega)))
      have hz1' := hb.size
      have hVr1 := (hb.block w.heap.size (by omega)).trans hVr
      rw [hzw0] at hz1'
      clear hb HB0 HSc hVr hzw0
      have v0 : w1.cell? ⟨w.heap.size, 0, none⟩ = some (.int .i64 vx) := (cell_of_row _ _ 0 _ _ (0, 0) hVr1).trans rfl
      have v1 : w1.cell? ⟨w.heap.size, 1, none⟩ = some (.int .i64 vy) := (cell_of_row _ _ 1 _ _ (0, 0) hVr1).trans rfl
      have v2 : w1.cell? ⟨w.heap.size, 2, none⟩ = some (.int .i64 vw) := (cell_of_row _ _ 2 _ _ (0, 0) hVr1).trans rfl
      have v3 : w1.cell? ⟨w.heap.size, 3, none⟩ = some (.int .i64 vh) := (cell_of_row _ _ 3 _ _ (0, 0) hVr1).trans rfl
      go_wp2_with fail
      refine (HV.out _).mono ?_
      rintro e Wm ⟨rfl, hbm⟩
      have HB2 := hide (HB1.out.trans (hbm.mono HB1.out.size))
      clear hbm
      go_wp2
      go_ret
      exact ListR.nil D.out HB2.out
    case true =>
      have HD := hide (seenL_yes (xs := xs) (n := n) (wd := wd) (ht := ht) (vx := vx) (vy := vy) (vw := vw) (vh := vh) (by rw [hs, hv]; rfl))
      have HVb := hide hv
      have HV := hide (fun W => (show Calls Try.prog 19 #[.agg #[.int .i64 vx, .int .i64 vy, .int .i64 vw, .int .i64 vh]] W fun e w' => e = .returned (.bool true) ∧ Below W.heap.size W w' from by have h := implRectOk_any vx vy vw vh W; rw [hv] at h; exact h))
      clear hA hT hwh hv hs hB0
      go_enter Try.func8, Try.ntmps8
      go_wp2_with fail
      refine HSc.out.mono ?_
      rintro e w1 ⟨rfl, hb⟩
      have HB1 := hide (HB0.out.trans (hb.mono (by omega)))
      have hz1' := hb.size
      have hVr1 := (hb.block w.heap.size (by omega)).trans hVr
      rw [hzw0] at hz1'
      clear hb HB0 HSc hVr hzw0
      have v0 : w1.cell? ⟨w.heap.size, 0, none⟩ = some (.int .i64 vx) := (cell_of_row _ _ 0 _ _ (0, 0) hVr1).trans rfl
      have v1 : w1.cell? ⟨w.heap.size, 1, none⟩ = some (.int .i64 vy) := (cell_of_row _ _ 1 _ _ (0, 0) hVr1).trans rfl
      have v2 : w1.cell? ⟨w.heap.size, 2, none⟩ = some (.int .i64 vw) := (cell_of_row _ _ 2 _ _ (0, 0) hVr1).trans rfl
      have v3 : w1.cell? ⟨w.heap.size, 3, none⟩ = some (.int .i64 vh) := (cell_of_row _ _ 3 _ _ (0, 0) hVr1).trans rfl
      go_wp2_with fail
      refine (HV.out _).mono ?_
      rintro e Wm ⟨rfl, hbm⟩
      have hzm := hbm.size
      have HB2 := hide (HB1.out.trans (hbm.mono HB1.out.size))
      have HVm := hide ((hbm.block w.heap.size (by omega)).trans hVr1)
      have HB3 := hide (show Below w.heap.size w (Wm.alloc (.cells #[] 3)) from HB2.out.alloc (by omega) _)
      have HO3 := hide (show Own 3 1 (Wm.alloc (.cells #[] 3)) w.heap.size (.slice (some ⟨Wm.heap.size, 0, none⟩) 0 0) 0 [] from Own.made 3 1 Wm #[] 0 w.heap.size (by omega) (by omega) rfl)
      have hz3 : (Wm.alloc (.cells #[] 3)).heap.size = Wm.heap.size + 1 := by simp
      have HLa := hide (HLO.out (Wm.alloc (.cells #[] 3)) HB3.out)
      clear hbm hVr1 HB1 HV v0 v1 v2 v3 HLO
      go_wp2_with fail
      refine HLa.out.mono ?_
      rintro e Wl ⟨bl, bo, rfl, hbo, hcl, hR, hb⟩
      have hzl := hb.size
      rw [hz3] at hzl hbo
      have HBl := hide (HB3.out.trans (hb.mono HB3.out.size))
      have HVl := hide ((hb.block w.heap.size (by omega)).trans ((heap_alloc_old Wm (.cells #[] 3) (show w.heap.size < Wm.heap.size by omega)).trans HVm.out))
      have HOl := hide (HO3.out.keep hb)
      have HRl := hide hR
      have hbol : bo < Wl.heap.size := hR.lt (by omega)
      have HSpl := hide (show ∀ j, (Value.slice (some ⟨Wm.heap.size, 0, none⟩) 0 0).ownBlock = some j → j = Wm.heap.size ∨ Wl.heap.size ≤ j from fun j e => by simp [Value.ownBlock] at e; omega)
      have HPl := hide (show ([] : List Int) = pickN (fun j => meetB (rc xs n (ri 0 0 wd ht) j) (ri vx vy vw vh)) 0 from rfl)
      clear hb hR HB3 HO3 HLa HB2 HVm
      go_wp2
      clear hcl
      go_loopw [9, 10, 11, 12, 13, 33] (fun s9 _ _ _ _ s33 wr => ∃ (t k c' : Nat) (A : Option Addr) (ys : List Int) (W9 : World), t ≤ n ∧ k ≤ t ∧ s9 = .slice A k c' ∧ s33 = .int .i64 t ∧ W9 = wr ∧ Hid (ys = pickN (fun j => meetB (rc xs n (ri 0 0 wd ht) j) (ri vx vy vw vh)) t) ∧ Hid (Own 3 1 W9 w.heap.size (.slice A k c') k ys) ∧ Hid (∀ j, (Value.slice A k c').ownBlock = some j → j = Wm.heap.size ∨ Wl.heap.size ≤ j) ∧ Wl.heap.size ≤ W9.heap.size ∧ Hid (W9.heap[w.heap.size]? = some (.cells #[.int .i64 vx, .int .i64 vy, .int .i64 vw, .int .i64 vh] 30 (0, 0))) ∧ Hid (RR W9 bo 0 n (rc xs n (ri 0 0 wd ht))) ∧ Hid (Below w.heap.size w W9)) (fun _ _ _ _ _ s33 _ => n - (intOf s33).toNat)
      case atStart => exact ⟨0, 0, _, _, _, _, Nat.zero_le _, Nat.zero_le _, rfl, rfl, rfl, HPl, HOl, HSpl, Nat.le_refl _, HVl, HRl, HBl⟩
      case round =>
        clear HPl HOl HSpl HVl HRl HBl
        obtain ⟨t, k, c', A, ys, W9, htn, hkt, rfl, rfl, rfl, HP, HO, HSp, hz9, HVw, HR, HB⟩ := hrel
        have hz9w := HB.out.size
        by_cases hlt : t < n
        · have hlt' : (t : Int) < (n : Int) := by omega
          have hrb := HRc.out t hlt
          have hg := HR.out.get hlt
          have DP := hide (fun b (h : meetB (rc xs n (ri 0 0 wd ht) t) (ri vx vy vw vh) = b) => (show pickN (fun j => meetB (rc xs n (ri 0 0 wd ht) j) (ri vx vy vw vh)) (t + 1) = if b = true then ys ++ [(t : Int)] else ys from by
            cases b
            · rw [pickN_no h, HP.out]; rfl
            · rw [pickN_yes h, HP.out]; rfl))
          obtain ⟨⟨x, y, u, v⟩, hRe⟩ : ∃ R, rc xs n (ri 0 0 wd ht) t = R := ⟨_, rfl⟩
          rw [hRe] at hrb hg DP
          have hx : 0 ≤ x ∧ x ≤ 50250 := ⟨hrb.x0, by have := hrb.x1; simpa using this⟩
          have hy : 0 ≤ y ∧ y ≤ 50250 := ⟨hrb.y0, by have := hrb.y1; simpa using this⟩
          have hu : 0 ≤ u ∧ u ≤ 10000 := ⟨hrb.w0, hrb.w1⟩
          have hv : 0 ≤ v ∧ v ≤ 10000 := ⟨hrb.h0, hrb.h1⟩
          clear hrb hRe
          rw [Nat.zero_add] at hg
          obtain ⟨g0, g1, g2, g3⟩ := hg
          have hbo9 : bo < W9.heap.size := HR.out.lt (by omega)
          have hw9 : w.heap.size < W9.heap.size := by omega
          have HBa := hide (show Below W9.heap.size W9 (W9.alloc (.cells #[.int .i64 x, .int .i64 y, .int .i64 u, .int .i64 v] 30)) from (Below.refl _ _).alloc (Nat.le_refl _) _)
          have hra : (W9.alloc (.cells #[.int .i64 x, .int .i64 y, .int .i64 u, .int .i64 v] 30)).heap[W9.heap.size]? = some (.cells #[.int .i64 x, .int .i64 y, .int .i64 u, .int .i64 v] 30 (0, 0)) := heap_alloc_new W9 _
          have hza : (W9.alloc (.cells #[.int .i64 x, .int .i64 y, .int .i64 u, .int .i64 v] 30)).heap.size = W9.heap.size + 1 := by simp
          have hva := (HBa.out.block w.heap.size hw9).trans HVw.out
          have a0 : (W9.alloc (.cells #[.int .i64 x, .int .i64 y, .int .i64 u, .int .i64 v] 30)).cell? ⟨W9.heap.size, 0, none⟩ = some (.int .i64 x) := (cell_of_row _ _ 0 _ _ (0, 0) hra).trans rfl
          have a1 : (W9.alloc (.cells #[.int .i64 x, .int .i64 y, .int .i64 u, .int .i64 v] 30)).cell? ⟨W9.heap.size, 1, none⟩ = some (.int .i64 y) := (cell_of_row _ _ 1 _ _ (0, 0) hra).trans rfl
          have a2 : (W9.alloc (.cells #[.int .i64 x, .int .i64 y, .int .i64 u, .int .i64 v] 30)).cell? ⟨W9.heap.size, 2, none⟩ = some (.int .i64 u) := (cell_of_row _ _ 2 _ _ (0, 0) hra).trans rfl
          have a3 : (W9.alloc (.cells #[.int .i64 x, .int .i64 y, .int .i64 u, .int .i64 v] 30)).cell? ⟨W9.heap.size, 3, none⟩ = some (.int .i64 v) := (cell_of_row _ _ 3 _ _ (0, 0) hra).trans rfl
          have v0 : W9.cell? ⟨w.heap.size, 0, none⟩ = some (.int .i64 vx) := (cell_of_row _ _ 0 _ _ (0, 0) HVw.out).trans rfl
          have v1 : W9.cell? ⟨w.heap.size, 1, none⟩ = some (.int .i64 vy) := (cell_of_row _ _ 1 _ _ (0, 0) HVw.out).trans rfl
          have v2 : W9.cell? ⟨w.heap.size, 2, none⟩ = some (.int .i64 vw) := (cell_of_row _ _ 2 _ _ (0, 0) HVw.out).trans rfl
          have v3 : W9.cell? ⟨w.heap.size, 3, none⟩ = some (.int .i64 vh) := (cell_of_row _ _ 3 _ _ (0, 0) HVw.out).trans rfl
          clear hra hva
          cases hmt : meetB (ri x y u v) (ri vx vy vw vh)
          case false =>
            have DP2 := hide (DP.out false hmt)
            have HMe := hide (fun W => (show Calls Try.prog 21 #[.agg #[.int .i64 x, .int .i64 y, .int .i64 u, .int .i64 v], .agg #[.int .i64 vx, .int .i64 vy, .int .i64 vw, .int .i64 vh]] W (fun e w' => MetR false e ∧ Below W.heap.size W w') from by have h := meetRects_any x y u v vx vy vw vh W (rectB_of hx hy hu hv) HVb.out; rw [hmt] at h; exact h))
            clear hmt DP
            go_wp2_with fail
            refine (HMe.out _).mono ?_
            rintro e W10 ⟨⟨r0, r1, r2, r3, rfl⟩, hb10⟩
            have HB11 := hide (show Below W9.heap.size W9 (W10.alloc (.cells #[.int .i64 r0, .int .i64 r1, .int .i64 r2, .int .i64 r3] 30)) from (HBa.out.trans (hb10.mono (by omega))).alloc (by have := hb10.size; omega) _)
            clear hb10 HMe
            have HR11 := hide (HR.out.below HB11.out hbo9)
            have HV11 := hide ((HB11.out.block w.heap.size hw9).trans HVw.out)
            have HO11 := hide (HO.out.keep HB11.out)
            have HBw := hide (HB.out.trans (HB11.out.mono hz9w))
            have hz11 := HB11.out.size
            have hz12 := HBw.out.size
            have hzm1 := Nat.le_trans hz9 hz11
            clear HO HB HR HVw HP HBa g0 g1 g2 g3 v0 v1 v2 v3 a0 a1 a2 a3
            go_wp2
            go_roundw
            case rel => exact ⟨t + 1, k, _, _, _, _, by omega, by omega, rfl, by go_num, rfl, hide DP2.out.symm, HO11, HSp, hzm1, HV11, HR11, HBw⟩
            case measure => simp [intOf]; omega
          case true =>
            have DP2 := hide (DP.out true hmt)
            have HMe := hide (fun W => (show Calls Try.prog 21 #[.agg #[.int .i64 x, .int .i64 y, .int .i64 u, .int .i64 v], .agg #[.int .i64 vx, .int .i64 vy, .int .i64 vw, .int .i64 vh]] W (fun e w' => MetR true e ∧ Below W.heap.size W w') from by have h := meetRects_any x y u v vx vy vw vh W (rectB_of hx hy hu hv) HVb.out; rw [hmt] at h; exact h))
            clear hmt DP
            go_wp2_with fail
            refine (HMe.out _).mono ?_
            rintro e W10 ⟨⟨r0, r1, r2, r3, rfl⟩, hb10⟩
            have HB11 := hide (show Below W9.heap.size W9 (W10.alloc (.cells #[.int .i64 r0, .int .i64 r1, .int .i64 r2, .int .i64 r3] 30)) from (HBa.out.trans (hb10.mono (by omega))).alloc (by have := hb10.size; omega) _)
            clear hb10 HMe
            have HR11 := hide (HR.out.below HB11.out hbo9)
            have HV11 := hide ((HB11.out.block w.heap.size hw9).trans HVw.out)
            have HO11 := hide (HO.out.keep HB11.out)
            have HBw := hide (HB.out.trans (HB11.out.mono hz9w))
            have hz11 := HB11.out.size
            have hz12 := HBw.out.size
            have hzm1 := Nat.le_trans hz9 hz11
            clear HO HB HR HVw HP HBa g0 g1 g2 g3 v0 v1 v2 v3 a0 a1 a2 a3
            go_wp2_with (at_builtin; refine wpList_push rfl (.tmp 45) (.tmp 47) 26 3 1 8 i0 _ rfl Try.underlying26 hi0 hz0 hz1 hz2 rfl (by omega) (by omega) (W10.alloc (.cells #[.int .i64 r0, .int .i64 r1, .int .i64 r2, .int .i64 r3] 30)) w.heap.size (.slice A k c') k ys rfl HO11.out [(t : Int)] 1 1 (by show Value.slice (some ⟨W10.heap.size + 1, 0, none⟩) 1 1 = _; simp) rfl (by omega) hz12 ?_; intro v1 w2 ho1 hb1 hg1 hv1; obtain ⟨A1, c1, hvv1, _, _, _⟩ := ho1.form; subst hvv1; have HO1 := hide ho1; have HB1 := hide (HBw.out.trans hb1); have HR1 := hide (HR11.out.keep fun hlt9 => hg1.block bo hlt9 (fun e => by have := HSp.out bo e.symm; omega)); have HV1 := hide ((hg1.block w.heap.size (by omega) (fun e => by have := HSp.out w.heap.size e.symm; omega)).trans HV11.out); have HSp1 := hide (own_next2 HSp.out hv1 (by omega)); have hzm2 := Nat.le_trans hzm1 hg1.size; clear ho1 hb1 hg1 hv1)
            clear HO11 HBw HR11 HV11 HSp
            go_roundw
            case rel => exact ⟨t + 1, k + 1, _, _, _, _, by omega, by omega, rfl, by go_num, rfl, hide DP2.out.symm, HO1, HSp1, hzm2, HV1, HR1, HB1⟩
            case measure => simp [intOf]; omega
        · obtain rfl : n = t := by omega
          obtain ⟨A', c'', e, hc1, hc2, hrow⟩ := HO.out.form
          injection e with e1 e2 e3
          subst e1 e3
          have D := hide (show ListR (seenL xs n wd ht vx vy vw vh) w (.returned (.slice A k k)) W9 by rw [HD.out, ← HP.out]; rw [Nat.mul_one] at hrow; exact ⟨A, k, k, rfl, hrow, HB.out⟩)
          clear hrow HP HO HB HR HVw HSp HD
          go_wp2_with (go_at_call 22; refine (clipInts_any A k c' _ hc1 (by unfold maxLen; omega)).mono ?_; rintro e w' ⟨rfl, rfl⟩)
          go_ret
          exact D.out
end Go.Proofs.Ythgliihdaockoaa
