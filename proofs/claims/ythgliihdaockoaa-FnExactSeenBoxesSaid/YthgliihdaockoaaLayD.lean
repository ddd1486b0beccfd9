/- Layout: the boxes that are seen: the reference. Conditions: none. -/
import Derived.Test.YthgliihdaockoaaLayC
import Derived.Deep.RegionHeld3
namespace Go.Proofs.Ythgliihdaockoaa
open Go.RowKit
set_option linter.unusedVariables false
set_option linter.unusedSimpArgs false
/-- the boxes whose rectangles meet the view -/
noncomputable def seenL (xs : List Int) (n : Nat) (wd ht vx vy vw vh : Int) : List Int :=
  if (scrB xs n wd ht && rectB vx vy vw vh) = true then pickN (fun j => meetB (rc xs n (ri 0 0 wd ht) j) (ri vx vy vw vh)) n else []
theorem seenL_no {xs : List Int} {n : Nat} {wd ht vx vy vw vh : Int} (h : (scrB xs n wd ht && rectB vx vy vw vh) = false) : seenL xs n wd ht vx vy vw vh = [] := by unfold seenL; rw [h]; rfl
theorem seenL_yes {xs : List Int} {n : Nat} {wd ht vx vy vw vh : Int} (h : (scrB xs n wd ht && rectB vx vy vw vh) = true) : seenL xs n wd ht vx vy vw vh = pickN (fun j => meetB (rc xs n (ri 0 0 wd ht) j) (ri vx vy vw vh)) n := by unfold seenL; rw [if_pos h]
theorem LaidO_no (xs : List Int) (n : Nat) (root : RectI) (w : World) : LaidO false xs n root w = fun e w' => e = .returned (.slice none 0 0) ∧ Below w.heap.size w w' := by funext e w'; simp [LaidO]
theorem LaidO_yes (xs : List Int) (n : Nat) (root : RectI) (w : World) : LaidO true xs n root w = LaidR xs n root w := by funext e w'; simp [LaidO]
theorem frozen_row {w : World} {z : Nat} {vs : Array Value} {E : TypeId} (h : w.heap[z]? = some (.cells vs E (0, 0))) (k : Nat) : w.frozen? ⟨z, k, none⟩ = false := by simp [World.frozen?, h]
theorem set4_below0 {B : Nat} {w w1 : World} (h : Below B w w1) {z : Nat} (hz : B ≤ z) (a b c d : Value) :
    Below B w ((((w1.setCell ⟨z, 0, none⟩ a).setCell ⟨z, 1, none⟩ b).setCell ⟨z, 2, none⟩ c).setCell ⟨z, 3, none⟩ d) :=
  (((h.setCell (p := ⟨z, 0, none⟩) hz _).setCell (p := ⟨z, 1, none⟩) hz _).setCell (p := ⟨z, 2, none⟩) hz _).setCell (p := ⟨z, 3, none⟩) hz _
theorem own_next2 {v v' : Value} {x hi z : Nat} (h : ∀ j, v.ownBlock = some j → j = x ∨ hi ≤ j) (hv : v'.ownBlock = v.ownBlock ∨ v'.ownBlock = some (z + 1)) (hz : hi ≤ z) : ∀ j, v'.ownBlock = some j → j = x ∨ hi ≤ j := fun j e => by
  rcases hv with h1 | h1
  · exact h j (h1.symm.trans e)
  · rw [h1] at e; injection e with e; omega
set_option maxRecDepth 100000 in
set_option maxHeartbeats 8000000 in
theorem specSeen_any (B : Nat) (a : Option Addr) (n c : Nat) (xs : List Int) (wd ht vx vy vw vh : Int) (w : World) (hA : Ints .i64 w B a (n * 9) xs) (hB : B ≤ w.heap.size) (hn : n ≤ 1048577) :
    Calls Try.prog 5 #[.slice a n c, .int .i64 wd, .int .i64 ht, .agg #[.int .i64 vx, .int .i64 vy, .int .i64 vw, .int .i64 vh]] w (ListR (seenL xs n wd ht vx vy vw vh) w) := by
  obtain ⟨i0, hi0, hz0, hz1, hz2⟩ := info_parts int_info
  have hB0 : Below w.heap.size w ((w.alloc (.cells #[.int .i64 vx, .int .i64 vy, .int .i64 vw, .int .i64 vh] 30)).alloc (.cells #[] 3)) := ((Below.refl _ _).alloc (Nat.le_refl _) _).alloc (by simp) _
  have hzw0 : ((w.alloc (.cells #[.int .i64 vx, .int .i64 vy, .int .i64 vw, .int .i64 vh] 30)).alloc (.cells #[] 3)).heap.size = w.heap.size + 2 := by simp
  have HB0 := hide hB0
  have HLT := hide (specLayoutTree_any B a n c xs wd ht ((w.alloc (.cells #[.int .i64 vx, .int .i64 vy, .int .i64 vw, .int .i64 vh] 30)).alloc (.cells #[] 3)) (hA.below hB0 hB) (by simp; omega) hn)
  have HOwn := hide (show Own 3 1 ((w.alloc (.cells #[.int .i64 vx, .int .i64 vy, .int .i64 vw, .int .i64 vh] 30)).alloc (.cells #[] 3)) w.heap.size (.slice (some ⟨w.heap.size + 1, 0, none⟩) 0 0) 0 [] from by have h := Own.made 3 1 (w.alloc (.cells #[.int .i64 vx, .int .i64 vy, .int .i64 vw, .int .i64 vh] 30)) #[] 0 w.heap.size (by simp) (by omega) rfl; simp only [World.size_alloc] at h; exact h)
  have hVr : ((w.alloc (.cells #[.int .i64 vx, .int .i64 vy, .int .i64 vw, .int .i64 vh] 30)).alloc (.cells #[] 3)).heap[w.heap.size]? = some (.cells #[.int .i64 vx, .int .i64 vy, .int .i64 vw, .int .i64 vh] 30 (0, 0)) := by rw [heap_alloc_old _ _ (by simp)]; exact heap_alloc_new w _
  cases hs : scrB xs n wd ht
  case false =>
    rw [hs, LaidO_no] at HLT
    have D := hide (seenL_no (xs := xs) (n := n) (wd := wd) (ht := ht) (vx := vx) (vy := vy) (vw := vw) (vh := vh) (by rw [hs]; rfl))
    clear hA hVr HOwn
    go_enter Try.func5, Try.ntmps5
    go_wp2_with fail
    refine HLT.out.mono ?_
    rintro e w1 ⟨rfl, hb⟩
    have HB1 := hide (HB0.out.trans (hb.mono (by omega)))
    clear hb
    go_wp2
    go_ret
    exact ListR.nil D.out HB1.out
  case true =>
    rw [hs, LaidO_yes] at HLT
    have hT : TreeP xs n := by have h := hs; unfold scrB at h; simp only [Bool.and_eq_true] at h; exact treeV_iff.1 h.1
    have hwh : (0 ≤ wd ∧ wd ≤ 10000) ∧ (0 ≤ ht ∧ ht ≤ 10000) := by have h := hs; unfold scrB at h; simp only [Bool.and_eq_true, inR_iff] at h; exact h.2
    have hn16 := hT.hi
    have hlo := hT.lo
    have hn0 : ((n : Int) == 0) = false := by simp; omega
    have HRc := hide (fun i (hi : i < n) => rc_ok hT (root_ok hwh.1 hwh.2) hi)
    cases hv : rectB vx vy vw vh
    case false =>
      have D := hide (seenL_no (xs := xs) (n := n) (wd := wd) (ht := ht) (vx := vx) (vy := vy) (vw := vw) (vh := vh) (by rw [hs, hv]; rfl))
      have HV := hide (fun W => (show Calls Try.prog 15 #[.agg #[.int .i64 vx, .int .i64 vy, .int .i64 vw, .int .i64 vh]] W fun e w' => e = .returned (.bool false) ∧ Below W.heap.size W w' from by have h := specRectOk_any vx vy vw vh W; rw [hv] at h; exact h))
      clear hA hT hwh HRc
      go_enter Try.func5, Try.ntmps5
      go_wp2_with fail
      refine HLT.out.mono ?_
      rintro e w1 ⟨bo, rfl, hbo, hR, hb⟩
      have HB1 := hide (HB0.out.trans (hb.mono (by omega)))
      have hz1' := hb.size
      have hVr1 := (hb.block w.heap.size (by omega)).trans hVr
      have HO1 := hide (HOwn.out.keep hb)
      have v0 : w1.cell? ⟨w.heap.size, 0, none⟩ = some (.int .i64 vx) := by rw [cell_of_row _ _ 0 _ _ (0, 0) hVr1]; rfl
      have v1 : w1.cell? ⟨w.heap.size, 1, none⟩ = some (.int .i64 vy) := by rw [cell_of_row _ _ 1 _ _ (0, 0) hVr1]; rfl
      have v2 : w1.cell? ⟨w.heap.size, 2, none⟩ = some (.int .i64 vw) := by rw [cell_of_row _ _ 2 _ _ (0, 0) hVr1]; rfl
      have v3 : w1.cell? ⟨w.heap.size, 3, none⟩ = some (.int .i64 vh) := by rw [cell_of_row _ _ 3 _ _ (0, 0) hVr1]; rfl
      clear hb HOwn HB0 HLT
      rw [hzw0] at hz1' hbo
      clear hVr hB0 hzw0
      go_wp2_with fail
      refine (HV.out w1).mono ?_
      rintro e Wm ⟨rfl, hbm⟩
      have HB2 := hide (HB1.out.trans (hbm.mono HB1.out.size))
      clear hbm
      go_wp2
      go_ret
      exact ListR.nil D.out HB2.out
    case true =>
      have HD := hide (seenL_yes (xs := xs) (n := n) (wd := wd) (ht := ht) (vx := vx) (vy := vy) (vw := vw) (vh := vh) (by rw [hs, hv]; rfl))
      have hvb := rectB_bd hv
      have HV := hide (fun W => (show Calls Try.prog 15 #[.agg #[.int .i64 vx, .int .i64 vy, .int .i64 vw, .int .i64 vh]] W fun e w' => e = .returned (.bool true) ∧ Below W.heap.size W w' from by have h := specRectOk_any vx vy vw vh W; rw [hv] at h; exact h))
      clear hA hT hwh hv hs
      go_enter Try.func5, Try.ntmps5
      go_wp2_with fail
      refine HLT.out.mono ?_
      rintro e w1 ⟨bo, rfl, hbo, hR, hb⟩
      have HB1 := hide (HB0.out.trans (hb.mono (by omega)))
      have hz1' := hb.size
      have hVr1 := (hb.block w.heap.size (by omega)).trans hVr
      have HO1 := hide (HOwn.out.keep hb)
      have v0 : w1.cell? ⟨w.heap.size, 0, none⟩ = some (.int .i64 vx) := by rw [cell_of_row _ _ 0 _ _ (0, 0) hVr1]; rfl
      have v1 : w1.cell? ⟨w.heap.size, 1, none⟩ = some (.int .i64 vy) := by rw [cell_of_row _ _ 1 _ _ (0, 0) hVr1]; rfl
      have v2 : w1.cell? ⟨w.heap.size, 2, none⟩ = some (.int .i64 vw) := by rw [cell_of_row _ _ 2 _ _ (0, 0) hVr1]; rfl
      have v3 : w1.cell? ⟨w.heap.size, 3, none⟩ = some (.int .i64 vh) := by rw [cell_of_row _ _ 3 _ _ (0, 0) hVr1]; rfl
      clear hb HOwn HB0 HLT
      rw [hzw0] at hz1' hbo
      clear hVr hB0 hzw0
      go_wp2_with fail
      refine (HV.out w1).mono ?_
      rintro e Wm ⟨rfl, hbm⟩
      have hbw1 : bo < w1.heap.size := hR.lt (by omega)
      have HBm := hide (HB1.out.trans (hbm.mono HB1.out.size))
      have hzm := hbm.size
      have HVm := hide ((hbm.block w.heap.size (by omega)).trans hVr1)
      have HOm := hide (HO1.out.keep hbm)
      have HRm := hide (hR.below hbm hbw1)
      have HSpm := hide (show ∀ j, (Value.slice (some ⟨w.heap.size + 1, 0, none⟩) 0 0).ownBlock = some j → j = w.heap.size + 1 ∨ Wm.heap.size ≤ j from fun j e => by simp [Value.ownBlock] at e; omega)
      have HPm := hide (show ([] : List Int) = pickN (fun j => meetB (rc xs n (ri 0 0 wd ht) j) (ri vx vy vw vh)) 0 from rfl)
      clear hbm hVr1 HO1 HB1 HV v0 v1 v2 v3 hR
      go_wp2
      go_loopw [9, 11, 12, 13] (fun s9 s11 _ _ wr => ∃ (t k c' : Nat) (A : Option Addr) (ys : List Int) (W9 : World), t ≤ n ∧ k ≤ t ∧ s9 = .slice A k c' ∧ s11 = .int .i64 t ∧ W9 = wr ∧ Hid (ys = pickN (fun j => meetB (rc xs n (ri 0 0 wd ht) j) (ri vx vy vw vh)) t) ∧ Hid (Own 3 1 W9 w.heap.size (.slice A k c') k ys) ∧ Hid (∀ j, (Value.slice A k c').ownBlock = some j → j = w.heap.size + 1 ∨ Wm.heap.size ≤ j) ∧ Wm.heap.size ≤ W9.heap.size ∧ Hid (W9.heap[w.heap.size]? = some (.cells #[.int .i64 vx, .int .i64 vy, .int .i64 vw, .int .i64 vh] 30 (0, 0))) ∧ Hid (RR W9 bo 0 n (rc xs n (ri 0 0 wd ht))) ∧ Hid (Below w.heap.size w W9)) (fun _ s11 _ _ _ => n - (intOf s11).toNat)
      case atStart => exact ⟨0, 0, _, _, _, _, Nat.zero_le _, Nat.zero_le _, rfl, rfl, rfl, HPm, HOm, HSpm, Nat.le_refl _, HVm, HRm, HBm⟩
      case round =>
        clear HPm HOm HSpm HVm HRm HBm
        obtain ⟨t, k, c', A, ys, W9, htn, hkt, rfl, rfl, rfl, HP, HO, HSp, hz9, HVw, HR, HB⟩ := hrel
        have hz9w := HB.out.size
        by_cases hlt : t < n
        · have hlt' : (t : Int) < (n : Int) := by omega
          have hrb := HRc.out t hlt
          have hg := HR.out.get hlt
          have DP := hide (fun b (h : meetB (rc xs n (ri 0 0 wd ht) t) (ri vx vy vw vh) = b) => (show pickN (fun j => meetB (rc xs n (ri 0 0 wd ht) j) (ri vx vy vw vh)) (t + 1) = if b = true then ys ++ [(t : Int)] else ys from by
            cases b
            · rw [pickN_no h, HP.out]; rfl
            · rw [pickN_yes h, HP.out]; rfl))
          obtain ⟨⟨x, y, u, v⟩, hRe⟩ : ∃ R, rc xs n (ri 0 0 wd ht) t = R := ⟨_, rfl⟩
          rw [hRe] at hrb hg DP
          have HRe := hide hRe
          have hx : 0 ≤ x ∧ x ≤ 50250 := ⟨hrb.x0, by have := hrb.x1; simpa using this⟩
          have hy : 0 ≤ y ∧ y ≤ 50250 := ⟨hrb.y0, by have := hrb.y1; simpa using this⟩
          have hu : 0 ≤ u ∧ u ≤ 10000 := ⟨hrb.w0, hrb.w1⟩
          have hv : 0 ≤ v ∧ v ≤ 10000 := ⟨hrb.h0, hrb.h1⟩
          clear hrb hRe
          rw [Nat.zero_add] at hg
          obtain ⟨g0, g1, g2, g3⟩ := hg
          have v0 : W9.cell? ⟨w.heap.size, 0, none⟩ = some (.int .i64 vx) := by rw [cell_of_row _ _ 0 _ _ (0, 0) HVw.out]; rfl
          have v1 : W9.cell? ⟨w.heap.size, 1, none⟩ = some (.int .i64 vy) := by rw [cell_of_row _ _ 1 _ _ (0, 0) HVw.out]; rfl
          have v2 : W9.cell? ⟨w.heap.size, 2, none⟩ = some (.int .i64 vw) := by rw [cell_of_row _ _ 2 _ _ (0, 0) HVw.out]; rfl
          have v3 : W9.cell? ⟨w.heap.size, 3, none⟩ = some (.int .i64 vh) := by rw [cell_of_row _ _ 3 _ _ (0, 0) HVw.out]; rfl
          have hbo9 : bo < W9.heap.size := HR.out.lt (by omega)
          have hw9 : w.heap.size < W9.heap.size := by omega
          have HCe := hide (fun W (h : Below W9.heap.size W9 W) => (show W.cell? ⟨bo, t * 4, none⟩ = some (.int .i64 x) ∧ W.cell? ⟨bo, t * 4 + 1, none⟩ = some (.int .i64 y) ∧ W.cell? ⟨bo, t * 4 + 2, none⟩ = some (.int .i64 u) ∧ W.cell? ⟨bo, t * 4 + 3, none⟩ = some (.int .i64 v) ∧ W.cell? ⟨w.heap.size, 0, none⟩ = some (.int .i64 vx) ∧ W.cell? ⟨w.heap.size, 1, none⟩ = some (.int .i64 vy) ∧ W.cell? ⟨w.heap.size, 2, none⟩ = some (.int .i64 vw) ∧ W.cell? ⟨w.heap.size, 3, none⟩ = some (.int .i64 vh) from
            ⟨(h.cell (p := ⟨bo, t * 4, none⟩) hbo9).trans g0, (h.cell (p := ⟨bo, t * 4 + 1, none⟩) hbo9).trans g1, (h.cell (p := ⟨bo, t * 4 + 2, none⟩) hbo9).trans g2, (h.cell (p := ⟨bo, t * 4 + 3, none⟩) hbo9).trans g3, (h.cell (p := ⟨w.heap.size, 0, none⟩) hw9).trans v0, (h.cell (p := ⟨w.heap.size, 1, none⟩) hw9).trans v1, (h.cell (p := ⟨w.heap.size, 2, none⟩) hw9).trans v2, (h.cell (p := ⟨w.heap.size, 3, none⟩) hw9).trans v3⟩))
          cases hmt : meetB (ri x y u v) (ri vx vy vw vh)
          case false =>
            have DP2 := hide (DP.out false hmt)
            have HMg := hide (fun W => (show Calls Try.prog 16 #[.agg #[.int .i64 x, .int .i64 y, .int .i64 u, .int .i64 v], .agg #[.int .i64 vx, .int .i64 vy, .int .i64 vw, .int .i64 vh]] W (fun e w' => MetR false e ∧ Below W.heap.size W w') from by have h := specMeet_any x y u v vx vy vw vh W (by omega) (by omega) (by omega) (by omega) (by omega) (by omega) (by omega) (by omega); rw [hmt] at h; exact h))
            clear hmt DP
            go_wp2_with fail
            first | go_region_held3 (fun w' => w'.cell? ⟨bo, t * 4, none⟩ = some (.int .i64 x) ∧ w'.cell? ⟨bo, t * 4 + 1, none⟩ = some (.int .i64 y) ∧ w'.cell? ⟨bo, t * 4 + 2, none⟩ = some (.int .i64 u) ∧ w'.cell? ⟨bo, t * 4 + 3, none⟩ = some (.int .i64 v) ∧ w'.cell? ⟨w.heap.size, 0, none⟩ = some (.int .i64 vx) ∧ w'.cell? ⟨w.heap.size, 1, none⟩ = some (.int .i64 vy) ∧ w'.cell? ⟨w.heap.size, 2, none⟩ = some (.int .i64 vw) ∧ w'.cell? ⟨w.heap.size, 3, none⟩ = some (.int .i64 vh)) (first | exact t9 | exact t10 | go_keep) (first | (go_at_call 16; refine (HMg.out _).mono ?_; rintro e W10 ⟨⟨r0, r1, r2, r3, rfl⟩, hb⟩; have hb1 : Below W9.drew.heap.size W9.drew W10 := hb; have HB10 := hide (show Below W9.heap.size W9 W10 from (Below.refl _ _).drew.trans hb1); have t9 := HCe.out W10 HB10.out; clear hb hb1) | (go_at_call 16; refine (HMg.out _).mono ?_; rintro e W10 ⟨⟨r0, r1, r2, r3, rfl⟩, hb⟩; have hb1 : Below (W9.drew.alloc (.cells #[.int .i64 0, .int .i64 0, .int .i64 0, .int .i64 0] 30)).heap.size (W9.drew.alloc (.cells #[.int .i64 0, .int .i64 0, .int .i64 0, .int .i64 0] 30)) W10 := hb; have HB10 := hide (show Below W9.heap.size W9 W10 from ((Below.refl _ _).drew.alloc (Nat.le_refl _) _).trans (hb1.mono (by simp))); have hr9 := (hb1.block W9.heap.size (by simp)).trans (heap_alloc_new W9.drew (.cells #[.int .i64 0, .int .i64 0, .int .i64 0, .int .i64 0] 30)); have n0 : W10.cell? ⟨W9.heap.size, 0, none⟩ = some (.int .i64 0) := (cell_of_row _ _ 0 _ _ (0, 0) hr9).trans rfl; have n1 : W10.cell? ⟨W9.heap.size, 1, none⟩ = some (.int .i64 0) := (cell_of_row _ _ 1 _ _ (0, 0) hr9).trans rfl; have n2 : W10.cell? ⟨W9.heap.size, 2, none⟩ = some (.int .i64 0) := (cell_of_row _ _ 2 _ _ (0, 0) hr9).trans rfl; have n3 : W10.cell? ⟨W9.heap.size, 3, none⟩ = some (.int .i64 0) := (cell_of_row _ _ 3 _ _ (0, 0) hr9).trans rfl; have m0 : W10.frozen? ⟨W9.heap.size, 0, none⟩ = false := frozen_row hr9 0; have m1 : W10.frozen? ⟨W9.heap.size, 1, none⟩ = false := frozen_row hr9 1; have m2 : W10.frozen? ⟨W9.heap.size, 2, none⟩ = false := frozen_row hr9 2; have m3 : W10.frozen? ⟨W9.heap.size, 3, none⟩ = false := frozen_row hr9 3; have t9 := HCe.out W10 HB10.out; have HB10s := hide (set4_below0 HB10.out (Nat.le_refl _) (.int .i64 r0) (.int .i64 r1) (.int .i64 r2) (.int .i64 r3)); have t10 := HCe.out _ HB10s.out; clear hb hb1)) | fail
            all_goals
              first
                | (have hd9 := HB10s; clear hd9; generalize hW : ((((W10.setCell ⟨W9.heap.size, 0, none⟩ (.int .i64 r0)).setCell ⟨W9.heap.size, 1, none⟩ (.int .i64 r1)).setCell ⟨W9.heap.size, 2, none⟩ (.int .i64 r2)).setCell ⟨W9.heap.size, 3, none⟩ (.int .i64 r3)) = W11; have HB11 := hide (show Below W9.heap.size W9 W11 from hW ▸ HB10s.out))
                | (generalize hW : (W10.alloc (.cells #[.int .i64 r0, .int .i64 r1, .int .i64 r2, .int .i64 r3] 30)) = W11; have HB11 := hide (show Below W9.heap.size W9 W11 from hW ▸ HB10.out.alloc HB10.out.size _))
              clear hW t9 HMg
              try clear t10
              try clear HB10s
              try clear n0 n1 n2 n3 m0 m1 m2 m3
              have hz11 := HB11.out.size
              have HR11 := hide (HR.out.below HB11.out hbo9)
              have HV11 := hide ((HB11.out.block w.heap.size hw9).trans HVw.out)
              have HO11 := hide (HO.out.keep HB11.out)
              have HBw := hide (HB.out.trans (HB11.out.mono hz9w))
              have hz12 := HBw.out.size
              have hzm1 := Nat.le_trans hz9 hz11
              clear HO HB HR HVw HP HCe g0 g1 g2 g3 v0 v1 v2 v3
              go_wp2
              go_roundw
              case rel => exact ⟨t + 1, k, _, _, _, _, by omega, by omega, rfl, by go_num, rfl, hide DP2.out.symm, HO11, HSp, hzm1, HV11, HR11, HBw⟩
              case measure => simp [intOf]; omega
          case true =>
            have DP2 := hide (DP.out true hmt)
            have HMg := hide (fun W => (show Calls Try.prog 16 #[.agg #[.int .i64 x, .int .i64 y, .int .i64 u, .int .i64 v], .agg #[.int .i64 vx, .int .i64 vy, .int .i64 vw, .int .i64 vh]] W (fun e w' => MetR true e ∧ Below W.heap.size W w') from by have h := specMeet_any x y u v vx vy vw vh W (by omega) (by omega) (by omega) (by omega) (by omega) (by omega) (by omega) (by omega); rw [hmt] at h; exact h))
            clear hmt DP
            go_wp2_with fail
            first | go_region_held3 (fun w' => w'.cell? ⟨bo, t * 4, none⟩ = some (.int .i64 x) ∧ w'.cell? ⟨bo, t * 4 + 1, none⟩ = some (.int .i64 y) ∧ w'.cell? ⟨bo, t * 4 + 2, none⟩ = some (.int .i64 u) ∧ w'.cell? ⟨bo, t * 4 + 3, none⟩ = some (.int .i64 v) ∧ w'.cell? ⟨w.heap.size, 0, none⟩ = some (.int .i64 vx) ∧ w'.cell? ⟨w.heap.size, 1, none⟩ = some (.int .i64 vy) ∧ w'.cell? ⟨w.heap.size, 2, none⟩ = some (.int .i64 vw) ∧ w'.cell? ⟨w.heap.size, 3, none⟩ = some (.int .i64 vh)) (first | exact t9 | exact t10 | go_keep) (first | (go_at_call 16; refine (HMg.out _).mono ?_; rintro e W10 ⟨⟨r0, r1, r2, r3, rfl⟩, hb⟩; have hb1 : Below W9.drew.heap.size W9.drew W10 := hb; have HB10 := hide (show Below W9.heap.size W9 W10 from (Below.refl _ _).drew.trans hb1); have t9 := HCe.out W10 HB10.out; clear hb hb1) | (go_at_call 16; refine (HMg.out _).mono ?_; rintro e W10 ⟨⟨r0, r1, r2, r3, rfl⟩, hb⟩; have hb1 : Below (W9.drew.alloc (.cells #[.int .i64 0, .int .i64 0, .int .i64 0, .int .i64 0] 30)).heap.size (W9.drew.alloc (.cells #[.int .i64 0, .int .i64 0, .int .i64 0, .int .i64 0] 30)) W10 := hb; have HB10 := hide (show Below W9.heap.size W9 W10 from ((Below.refl _ _).drew.alloc (Nat.le_refl _) _).trans (hb1.mono (by simp))); have hr9 := (hb1.block W9.heap.size (by simp)).trans (heap_alloc_new W9.drew (.cells #[.int .i64 0, .int .i64 0, .int .i64 0, .int .i64 0] 30)); have n0 : W10.cell? ⟨W9.heap.size, 0, none⟩ = some (.int .i64 0) := (cell_of_row _ _ 0 _ _ (0, 0) hr9).trans rfl; have n1 : W10.cell? ⟨W9.heap.size, 1, none⟩ = some (.int .i64 0) := (cell_of_row _ _ 1 _ _ (0, 0) hr9).trans rfl; have n2 : W10.cell? ⟨W9.heap.size, 2, none⟩ = some (.int .i64 0) := (cell_of_row _ _ 2 _ _ (0, 0) hr9).trans rfl; have n3 : W10.cell? ⟨W9.heap.size, 3, none⟩ = some (.int .i64 0) := (cell_of_row _ _ 3 _ _ (0, 0) hr9).trans rfl; have m0 : W10.frozen? ⟨W9.heap.size, 0, none⟩ = false := frozen_row hr9 0; have m1 : W10.frozen? ⟨W9.heap.size, 1, none⟩ = false := frozen_row hr9 1; have m2 : W10.frozen? ⟨W9.heap.size, 2, none⟩ = false := frozen_row hr9 2; have m3 : W10.frozen? ⟨W9.heap.size, 3, none⟩ = false := frozen_row hr9 3; have t9 := HCe.out W10 HB10.out; have HB10s := hide (set4_below0 HB10.out (Nat.le_refl _) (.int .i64 r0) (.int .i64 r1) (.int .i64 r2) (.int .i64 r3)); have t10 := HCe.out _ HB10s.out; clear hb hb1)) | fail
            all_goals
              first
                | (have hd9 := HB10s; clear hd9; generalize hW : ((((W10.setCell ⟨W9.heap.size, 0, none⟩ (.int .i64 r0)).setCell ⟨W9.heap.size, 1, none⟩ (.int .i64 r1)).setCell ⟨W9.heap.size, 2, none⟩ (.int .i64 r2)).setCell ⟨W9.heap.size, 3, none⟩ (.int .i64 r3)) = W11; have HB11 := hide (show Below W9.heap.size W9 W11 from hW ▸ HB10s.out))
                | (generalize hW : (W10.alloc (.cells #[.int .i64 r0, .int .i64 r1, .int .i64 r2, .int .i64 r3] 30)) = W11; have HB11 := hide (show Below W9.heap.size W9 W11 from hW ▸ HB10.out.alloc HB10.out.size _))
              clear hW t9 HMg
              try clear t10
              try clear HB10s
              try clear n0 n1 n2 n3 m0 m1 m2 m3
              have hz11 := HB11.out.size
              have HR11 := hide (HR.out.below HB11.out hbo9)
              have HV11 := hide ((HB11.out.block w.heap.size hw9).trans HVw.out)
              have HO11 := hide (HO.out.keep HB11.out)
              have HBw := hide (HB.out.trans (HB11.out.mono hz9w))
              have hz12 := HBw.out.size
              go_wp2_with (at_builtin; refine wpList_push rfl (.tmp 43) (.tmp 45) 26 3 1 8 i0 _ rfl Try.underlying26 hi0 hz0 hz1 hz2 rfl (by omega) (by omega) W11 w.heap.size (.slice A k c') k ys rfl HO11.out [(t : Int)] 1 1 rfl rfl (by omega) hz12 ?_; intro v1 w2 ho1 hb1 hg1 hv1; obtain ⟨A1, c1, hvv1, _, _, _⟩ := ho1.form; subst hvv1; have HO1 := hide ho1; have HB1 := hide (HBw.out.trans hb1); have HR1 := hide (HR11.out.keep fun hlt9 => hg1.block bo hlt9 (fun e => by have := HSp.out bo e.symm; omega)); have HV1 := hide ((hg1.block w.heap.size (by omega) (fun e => by have := HSp.out w.heap.size e.symm; omega)).trans HV11.out); have HSp1 := hide (own_next2 HSp.out hv1 (by omega)); have hzm1 := Nat.le_trans (Nat.le_trans hz9 hz11) hg1.size; clear ho1 hb1 hg1 hv1)
              clear HO HB HR HVw HP HO11 HBw HR11 HV11 HCe HSp g0 g1 g2 g3 v0 v1 v2 v3
              go_roundw
              case rel => exact ⟨t + 1, k + 1, _, _, _, _, by omega, by omega, rfl, by go_num, rfl, hide DP2.out.symm, HO1, HSp1, hzm1, HV1, HR1, HB1⟩
              case measure => simp [intOf]; omega
        · obtain rfl : n = t := by omega
          have D := hide (show ListR (seenL xs n wd ht vx vy vw vh) w (.returned (.slice A k c')) W9 by rw [HD.out, ← HP.out]; exact ListR.own HO.out HB.out)
          clear HP HO HB HR HVw HSp HD
          go_wp2
          go_ret
          exact D.out
end Go.Proofs.Ythgliihdaockoaa
