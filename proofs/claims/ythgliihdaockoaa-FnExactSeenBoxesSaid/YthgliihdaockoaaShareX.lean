/- The program's share of a number by weights: the walk. Conditions: none. -/
import Derived.Test.YthgliihdaockoaaShareV
namespace Go.Proofs.Ythgliihdaockoaa
open Go.RowKit
set_option linter.unusedVariables false
set_option linter.unusedSimpArgs false
theorem grown_cell {w w' : World} {g : Nat} {p : Addr} {v : Value} (h : w.grownBy w' (some g)) (hp : p.block ≠ g) (hc : w.cell? p = some v) : w'.cell? p = some v := by
  have h1 := cell_lt hc
  rw [← hc]
  exact World.cell?_of_block (h.block p.block h1 (fun e => by injection e with e; exact hp e))
/-- the boxes that the closure reads -/
structure Box3 (w : World) (s : Int) (v : Value) (S : Int) (W : World) : Prop where
  x : W.cell? ⟨w.heap.size, 0, none⟩ = some (.int .i64 s)
  y : W.cell? ⟨w.heap.size + 1, 0, none⟩ = some v
  z : W.cell? ⟨w.heap.size + 3, 0, none⟩ = some (.int .i64 S)
  below : Below w.heap.size w W
  size : w.heap.size + 4 ≤ W.heap.size
theorem Box3.grown {w W W' : World} {s S : Int} {v : Value} {g : Nat} (h : Box3 w s v S W) (hg : W.grownBy W' (some g)) (h2 : g = w.heap.size + 2 ∨ w.heap.size + 4 ≤ g) : Box3 w s v S W' where
  x := grown_cell hg (by show w.heap.size ≠ g; omega) h.x
  y := grown_cell hg (by show w.heap.size + 1 ≠ g; omega) h.y
  z := grown_cell hg (by show w.heap.size + 3 ≠ g; omega) h.z
  below := h.below.trans ⟨hg.os, hg.tape, hg.output, hg.size, fun i hi => hg.block i (by have := h.size; omega) (fun e => by injection e with e; omega)⟩
  size := by have := hg.size; have := h.size; omega
theorem Box3.belowB {w W W' : World} {s S : Int} {v : Value} (h : Box3 w s v S W) (hb : Below (w.heap.size + 4) W W') : Box3 w s v S W' where
  x := (hb.cell (p := ⟨w.heap.size, 0, none⟩) (by show w.heap.size < _; omega)).trans h.x
  y := (hb.cell (p := ⟨w.heap.size + 1, 0, none⟩) (by show w.heap.size + 1 < _; omega)).trans h.y
  z := (hb.cell (p := ⟨w.heap.size + 3, 0, none⟩) (by show w.heap.size + 3 < _; omega)).trans h.z
  below := h.below.trans (hb.mono (by omega))
  size := by have := hb.size; have := h.size; omega
theorem Box3.drewN {w W : World} {s S : Int} {v : Value} (h : Box3 w s v S W) (m : Nat) : Box3 w s v S (W.drewN m) := ⟨h.x, h.y, h.z, below_drewN h.below m, h.size⟩
theorem RowF.grown {w w' : World} {G n g : Nat} {f : Nat → Int} (h : RowF w G n f) (hg : w.grownBy w' (some g)) (hne : G ≠ g) : RowF w' G n f :=
  h.keep fun hl => hg.block G hl (fun e => by injection e with e; exact hne e)
theorem outF_at {r : Nat → Int} {n q : Nat} (hq : q < n) : outF r n q = (sortR r n).getD q 0 := if_pos hq

set_option maxHeartbeats 4000000 in
theorem implShare_any (B : Nat) (a : Option Addr) (n c : Nat) (ws : List Int) (s : Int) (w : World) (hA : Ints .i64 w B a n ws) (hB : B ≤ w.heap.size) (hn : 1 ≤ n ∧ n ≤ 8) (hw : WOk ws) (hs : 0 ≤ s ∧ s ≤ 200000) :
    Calls Try.prog 62 #[.int .i64 s, .slice a n c] w (Made (shareL s ws) w) := by
  obtain ⟨i0, hi, hz0, hz1, hz2⟩ := info_parts int_info
  have hmk := mk_ints n (by omega)
  have hmk0 := mk_ints0n n (by omega)
  have hl := hide hA.1
  have HA := hide (fun W (h : Below w.heap.size w W) => hA.below h hB)
  have HW := hide hw
  have HS0 := hide (show sumI ws = 0 → shareL s ws = fl n (fun _ => 0) from fun h => by
    rw [shareL, if_pos h, hl.out]
    apply List.ext_getElem
    · simp [fl]
    · intro i h1 h2; simp [fl])
  have hsum := hw.sum (by rw [hA.1]; exact hn.2)
  have hP := hide (fun (h : 0 < sumI ws) => (⟨fun i hi => base_bd hs hw h hi, fun i => rest_bd h i, left_bd h, fun k hk => sumF_base_bd hs hw h (by rw [hA.1]; exact hn.2) hk⟩ : (∀ i, i < ws.length → 0 ≤ baseW s ws i ∧ baseW s ws i ≤ 2000000) ∧ (∀ i, 0 ≤ restW s ws i ∧ restW s ws i ≤ sumI ws - 1) ∧ (0 ≤ leftW s ws ∧ leftW s ws < ws.length) ∧ ∀ k, k ≤ ws.length → 0 ≤ sumF (baseW s ws) (List.range k) ∧ sumF (baseW s ws) (List.range k) ≤ 16000000))
  have hprod := hide (fun (i : Nat) (hi : i < ws.length) => prod_bd hs (hw.at hi))
  have hfin := hide (fun (h : ¬ sumI ws = 0) => (show fl n (given (baseW s ws) (restW s ws) n (leftW s ws).toNat) = shareL s ws by rw [shareL, if_neg h, hl.out]; exact fl_congr fun i hi => by rw [shareAt, hl.out]; rfl))
  have hleft := hide (show leftW s ws = s - sumI (fl n (baseW s ws)) by rw [leftW, hl.out]; rfl)
  have hbr := hide (fun (h : 0 < sumI ws) (i : Nat) (hi : i < ws.length) => (show (s * ws.getD i 0).tdiv (sumI ws) = baseW s ws i by rw [Int.tdiv_eq_ediv_of_nonneg (prod_bd hs (hw.at hi)).1]; rfl))
  have hsm := hw.small
  have hb1 : Below w.heap.size w ((w.alloc (.cells #[.int .i64 s] 3)).alloc (.cells #[.slice a n c] 26)) := ((Below.refl _ _).alloc (Nat.le_refl _) _).alloc (by simp) _
  have hI2 := hide (hA.below (hb1.alloc (by simp; omega) (.cells (madeCells #[.int .i64 0] n) 3)) hB)
  have hR1 := hide (rowF_alloc ((w.alloc (.cells #[.int .i64 s] 3)).alloc (.cells #[.slice a n c] 26)) n)
  have HB1 := hide hb1
  clear hA hw hb1
  go_enter Try.func62, Try.ntmps62
  go_wp2_with fail
  refine (total_any B a n c ws _ hI2.out (by omega) hsm).mono ?_
  rintro e w' ⟨rfl, rfl⟩
  clear hsm hI2
  obtain ⟨S, hS⟩ : ∃ S, sumI ws = S := ⟨_, rfl⟩
  by_cases hS0 : S = 0
  · rw [hS] at hsum ⊢
    have D := hide (show ∀ W, Below (w.heap.size + 3) (((w.alloc (.cells #[.int .i64 s] 3)).alloc (.cells #[.slice a n c] 26)).alloc (.cells (madeCells #[.int .i64 0] n) 3)) W → Made (shareL s ws) w (.returned (.slice (some ⟨w.heap.size + 2, 0, none⟩) n n)) W from fun W hb => by
      have h2 := hR1.out
      rw [show ((w.alloc (.cells #[.int .i64 s] 3)).alloc (.cells #[.slice a n c] 26)).heap.size = w.heap.size + 2 by simp] at h2
      have h3 := h2.below hb (by omega)
      refine ⟨_, n, n, rfl, Nat.le_refl _, by omega, ?_, (HB1.out.alloc (by simp; omega) _).trans (hb.mono (by omega))⟩
      rw [HS0.out (hS.trans hS0)]
      exact h3.row (by omega) (by have := hb.size; simp at this; omega))
    subst hS0
    clear hS
    go_wp2
    go_ret
    exact D.out _ ((Below.refl _ _).alloc (by simp) _)
  · obtain ⟨hb1, hr1, ⟨hl0, hl1⟩, hsf⟩ := hP.out (by omega)
    have Hb1 := hide hb1
    have Hr1 := hide hr1
    have Hsf := hide hsf
    have Hbr := hide (hbr.out (by omega))
    have HFN := hide (hfin.out (by omega))
    clear hb1 hr1 hsf hP hbr hfin HS0
    obtain ⟨L, hL⟩ : ∃ L, (leftW s ws).toNat = L := ⟨_, rfl⟩
    have hLi : leftW s ws = (L : Int) := by omega
    rw [hL] at HFN
    have hLn : L < n := by have := hl.out; omega
    have HLI := hide hLi
    clear hl0 hl1 hL hLi
    have HSS := hide hS
    rw [hS] at hsum Hr1 Hbr ⊢
    clear hS
    have hS1 : 0 < S := by omega
    have hSn : (S == 0) = false := by simp; omega
    have HX0 := hide (show Box3 w s (.slice a n c) S ((((w.alloc (.cells #[.int .i64 s] 3)).alloc (.cells #[.slice a n c] 26)).alloc (.cells (madeCells #[.int .i64 0] n) 3)).alloc (.cells #[.int .i64 S] 3)) from
      ⟨by simp [go_sem, World.cell?_alloc_past], by simp [go_sem, World.cell?_alloc_past], by simp [go_sem, World.cell?_alloc_past], ((HB1.out.alloc (by simp; omega) _).alloc (by simp; omega) _), by simp⟩)
    have HR0 := hide (show RowF ((((w.alloc (.cells #[.int .i64 s] 3)).alloc (.cells #[.slice a n c] 26)).alloc (.cells (madeCells #[.int .i64 0] n) 3)).alloc (.cells #[.int .i64 S] 3)) (w.heap.size + 2) n (fun _ => 0) from by
      have h2 := hR1.out
      rw [show ((w.alloc (.cells #[.int .i64 s] 3)).alloc (.cells #[.slice a n c] 26)).heap.size = w.heap.size + 2 by simp] at h2
      exact h2.belowS ((Below.refl _ _).alloc (Nat.le_refl _) _))
    clear hR1 HB1
    have HSTART := hide (show ∀ W, W = ((((w.alloc (.cells #[.int .i64 s] 3)).alloc (.cells #[.slice a n c] 26)).alloc (.cells (madeCells #[.int .i64 0] n) 3)).alloc (.cells #[.int .i64 S] 3)).alloc (.cells (madeCells #[.int .i64 0] n) 3) →
        Hid (Box3 w s (.slice a n c) S W) ∧ Hid (RowF W (w.heap.size + 2) n (upTo (baseW s ws) 0)) ∧ Hid (Own 3 1 W (w.heap.size + 4) (.slice (some ⟨w.heap.size + 4, 0, none⟩) 0 n) 0 (fl 0 (fun q => (q : Nat)))) from fun W hW => by
      subst hW
      refine ⟨hide (HX0.out.belowB ((Below.refl _ _).alloc (by simp) _)), hide ((HR0.out.belowS ((Below.refl _ _).alloc (Nat.le_refl _) _)).congr fun i _ => by simp [upTo]), hide ?_⟩
      have h := Own.made 3 1 ((((w.alloc (.cells #[.int .i64 s] 3)).alloc (.cells #[.slice a n c] 26)).alloc (.cells (madeCells #[.int .i64 0] n) 3)).alloc (.cells #[.int .i64 S] 3)) (madeCells #[.int .i64 0] n) n (w.heap.size + 4) (by simp) (by omega) (by rw [size_madeCells]; omega)
      rw [show ((((w.alloc (.cells #[.int .i64 s] 3)).alloc (.cells #[.slice a n c] 26)).alloc (.cells (madeCells #[.int .i64 0] n) 3)).alloc (.cells #[.int .i64 S] 3)).heap.size = w.heap.size + 4 by simp] at h
      exact h)
    clear HX0 HR0
    go_wp2
    simp only [Nat.add_assoc, Nat.reduceAdd]
    go_loopw [7, 25] (fun s7 s25 wr => ∃ (k : Nat) (W9 : World), k ≤ n ∧ s25 = .int .i64 k ∧ W9 = wr ∧ Hid (Box3 w s (.slice a n c) S W9) ∧ Hid (RowF W9 (w.heap.size + 2) n (upTo (baseW s ws) k)) ∧ Hid (Own 3 1 W9 (w.heap.size + 4) s7 k (fl k (fun q => (q : Nat))))) (fun _ s25 _ => n - (intOf s25).toNat)
    case atStart => exact ⟨0, _, Nat.zero_le _, rfl, rfl, HSTART.out _ rfl⟩
    case round =>
      clear HSTART hmk hmk0
      obtain ⟨k, W9, hk, rfl, rfl, HX, HR, HO⟩ := hrel
      obtain ⟨A7, c7, hv7, h71, h72, _⟩ := HO.out.form
      subst hv7
      by_cases hlt : k < n
      · have hkl : k < ws.length := by have := hl.out; omega
        have hsz := HX.out.size
        obtain ⟨b, off, rfl, hbB, hcell⟩ := (HA.out _ HX.out.below).2.2 (by omega)
        have hx := hcell k hlt
        have c2 := HX.out.x
        have c6 := HX.out.z
        obtain ⟨ha, hfa⟩ := HR.out.cell hlt
        obtain ⟨p0, p1⟩ := hprod.out k hkl
        obtain ⟨q0, q1⟩ := Hb1.out k hkl
        have d1 := Hbr.out k hkl
        have hgS : W9.grownBy (W9.setCell ⟨w.heap.size + 2, k, none⟩ (.int .i64 (baseW s ws k))) (some (w.heap.size + 2)) := only_setCell (only_refl _ _) (.inl rfl) _
        have HO1 := hide (HO.out.far hgS (.inr (fun e => by have := HO.out.lt _ e; omega)))
        have HX1 := hide (HX.out.grown hgS (.inl rfl))
        have HR1 := hide ((HR.out.put hlt (baseW s ws k)).congr (g := upTo (baseW s ws) (k + 1)) fun i _ => upTo_next (baseW s ws) k i)
        have hz9 : w.heap.size + 4 ≤ (W9.setCell ⟨w.heap.size + 2, k, none⟩ (.int .i64 (baseW s ws k))).heap.size := HX1.out.size
        clear HX HR HO hcell hgS
        generalize ws.getD k 0 = y at hx p0 p1 d1
        generalize baseW s ws k = q at ha hfa q0 q1 d1 HO1 HX1 HR1 hz9
        generalize upTo (baseW s ws) k k = z1 at ha hfa
        have e1 : IntKind.i64.wrap (s * y) = s * y := IntWalk.i64_in _ (by omega)
        have e2 : IntKind.i64.wrap q = q := IntWalk.i64_in _ (by omega)
        go_wp2_with (at_builtin; refine wpList_push rfl (.tmp 38) (.tmp 40) 26 3 1 8 i0 _ rfl Try.underlying26 hi hz0 hz1 hz2 rfl (by omega) (by omega) (W9.setCell ⟨w.heap.size + 2, k, none⟩ (.int .i64 q)) (w.heap.size + 4) (.slice A7 k c7) k _ rfl HO1.out [(k : Int)] 1 1 (by show Value.slice (some ⟨W9.heap.size, 0, none⟩) 1 1 = _; simp [World.setCell]) rfl (by omega) hz9 ?_; intro v1 w1' ho1 hb1' hg1 hv1; have DX := hide (HX1.out.belowB hb1'); have DR := hide (HR1.out.below hb1' (by omega)); have DO := hide (show Own 3 1 w1' (w.heap.size + 4) v1 (k + 1) (fl (k + 1) (fun q => (q : Nat))) by rw [fl_succ]; exact ho1); clear ho1 hb1' hg1 hv1)
        go_roundw
        case rel => exact ⟨k + 1, _, by omega, by go_num, rfl, DX, DR, DO⟩
        case measure => simp [intOf]; omega
      · obtain rfl : k = n := by omega
        obtain ⟨g, cap, hv, hgb, hgl, hnc, hcm, hRO⟩ := own_rowF HO.out (by omega)
        injection hv with hv1 hv2 hv3
        subst hv1 hv3
        clear HO h71 h72
        have eg : ∀ args w, (callFunc 70 args).run Try.prog w = .ok (.enter 70 args) w := enters_of Try.func70 (by kernel_rfl) rfl
        have HSort := hide (sortStable_any (restW s ws) k g c7 70 #[.pointer (some ⟨w.heap.size, 0, none⟩), .pointer (some ⟨w.heap.size + 1, 0, none⟩), .pointer (some ⟨w.heap.size + 3, 0, none⟩)] eg W9 hn hnc hRO (fun W hg i j hi' hj' => by
          have hX := HX.out.grown hg (.inr hgb)
          exact shareCmp_any w.heap.size (w.heap.size + 1) (w.heap.size + 3) B a k c ws s W (HA.out W hX.below) hn.2 HW.out hs (by rw [HSS.out]; exact hS1) hX.x hX.y (by rw [HSS.out]; exact hX.z) i j hi' hj'))
        have HXX := hide HX.out
        clear hRO HX
        go_wp2_with fail
        refine HSort.out.mono ?_
        rintro e W1 ⟨rfl, hR1, hg1⟩
        have HX1 := hide (HXX.out.grown hg1 (.inr hgb))
        have HR2 := hide ((HR.out.grown hg1 (by omega)).congr (g := given (baseW s ws) (restW s ws) k 0) fun i hi => by rw [upTo_all _ hi, given_zero])
        have HG := hide hR1
        have hgl1 : g < W1.heap.size := by have := hg1.size; omega
        clear hR1 hg1 HSort HXX HR
        have c2 := HX1.out.x
        have HBw := hide (show Below w.heap.size w W1 ∧ w.heap.size + 4 ≤ W1.heap.size from ⟨HX1.out.below, HX1.out.size⟩)
        have hTv : sumI (fl k (given (baseW s ws) (restW s ws) k 0)) = s - (L : Int) := by
          rw [fl_congr (g := baseW s ws) (fun i _ => given_zero _ _ _ _)]
          have h1 := hleft.out
          have h2 := HLI.out
          omega
        obtain ⟨T, hT⟩ : ∃ T, s - (L : Int) = T := ⟨_, rfl⟩
        have htot := hide (show ∀ m, Calls Try.prog 59 #[.slice (some ⟨w.heap.size + 2, 0, none⟩) k k] (W1.drewN m) fun e w' => e = .returned (.int .i64 T) ∧ W1.drewN m = w' from fun m => by
          have h := total_any (w.heap.size + 3) (some ⟨w.heap.size + 2, 0, none⟩) k k (fl k (given (baseW s ws) (restW s ws) k 0)) (W1.drewN m) (HR2.out.drewN m).ints (by omega) (fun x hx => by
            obtain ⟨i, hi', e⟩ := List.mem_map.1 hx
            have h3 := given_bd (b := baseW s ws) (r := restW s ws) (n := k) (k := 0) (Hb1.out i (by have := List.mem_range.1 hi'; have := hl.out; omega))
            omega)
          rw [hTv, hT] at h
          exact h)
        have e1 : IntKind.i64.wrap (s - T) = (L : Int) := by rw [IntWalk.i64_in _ (by omega)]; omega
        have hLc : L ≤ c7 := by omega
        have hLc' : (L : Int) ≤ (c7 : Int) := by omega
        clear hTv hT HX1
        go_wp2_with fail
        go_quiet ((go_at_call 59; exact quietSh (htot.out _)))
        clear htot e1 c2
        have HR3 := hide (HR2.out.drewN nq)
        have HG3 := hide (HG.out.drewN nq)
        have HB3 := hide (show Below w.heap.size w (W1.drewN nq) ∧ w.heap.size + 4 ≤ (W1.drewN nq).heap.size from ⟨below_drewN HBw.out.1 _, HBw.out.2⟩)
        clear HR2 HG HBw
        generalize W1.drewN nq = W2 at HR3 HG3 HB3 ⊢
        go_wp2
        go_loopw [53] (fun s53 wr => ∃ (j : Nat) (W8 : World), j ≤ L ∧ s53 = .int .i64 j ∧ W8 = wr ∧ Hid (RowF W8 (w.heap.size + 2) k (given (baseW s ws) (restW s ws) k j)) ∧ Hid (RowF W8 g k (fun q => (outF (restW s ws) k q : Nat))) ∧ Hid (Below w.heap.size w W8 ∧ w.heap.size + 4 ≤ W8.heap.size)) (fun s53 _ => L - (intOf s53).toNat)
        case atStart => exact ⟨0, _, Nat.zero_le _, rfl, rfl, HR3, HG3, HB3⟩
        case round =>
          clear HR3 HG3 HB3
          obtain ⟨j, W8, hj, rfl, rfl, HR, HG, HB8⟩ := hrel
          by_cases hlt2 : j < L
          · have hjk : j < k := by omega
            obtain ⟨t, ht⟩ : ∃ t, (sortR (restW s ws) k).getD j 0 = t := ⟨_, rfl⟩
            have htk : t < k := by rw [← ht]; exact sort_lt hjk
            have htk' : (t : Int) < (k : Int) := by omega
            have cg := (HG.out.cell hjk).1
            rw [outF_at hjk, ht] at cg
            obtain ⟨ha, hfa⟩ := HR.out.cell htk
            have hg := given_bd (b := baseW s ws) (r := restW s ws) (n := k) (k := j) (Hb1.out t (by have := hl.out; omega))
            have DR := hide ((HR.out.put htk (given (baseW s ws) (restW s ws) k j t + 1)).congr (g := given (baseW s ws) (restW s ws) k (j + 1)) fun i _ => by rw [← ht]; exact given_next hjk i)
            have DG := hide (HG.out.other (p := ⟨w.heap.size + 2, t, none⟩) (by show w.heap.size + 2 ≠ g; omega) (.int .i64 (given (baseW s ws) (restW s ws) k j t + 1)))
            have DB := hide (show Below w.heap.size w (W8.setCell ⟨w.heap.size + 2, t, none⟩ (.int .i64 (given (baseW s ws) (restW s ws) k j t + 1))) ∧ w.heap.size + 4 ≤ (W8.setCell ⟨w.heap.size + 2, t, none⟩ (.int .i64 (given (baseW s ws) (restW s ws) k j t + 1))).heap.size from ⟨HB8.out.1.setCell (by show w.heap.size ≤ w.heap.size + 2; omega) _, by have := HB8.out.2; simpa [World.setCell] using this⟩)
            clear HR HG HB8 ht
            generalize given (baseW s ws) (restW s ws) k j t = v1 at ha hfa hg DR DG DB
            have e1 : IntKind.i64.wrap (v1 + 1) = v1 + 1 := IntWalk.i64_in _ (by omega)
            go_wp2
            go_roundw
            case rel => exact ⟨j + 1, _, by omega, by go_num, rfl, DR, DG, DB⟩
            case measure => simp [intOf]; omega
          · obtain rfl : j = L := by omega
            have D := hide (show Made (shareL s ws) w (.returned (.slice (some ⟨w.heap.size + 2, 0, none⟩) k k)) W8 from ⟨_, k, k, rfl, Nat.le_refl _, by omega, HFN.out ▸ HR.out.row (by omega) (by have := HB8.out.2; omega), HB8.out.1⟩)
            clear HR HG HB8
            go_wp2
            go_ret
            exact D.out
end Go.Proofs.Ythgliihdaockoaa
