/- Layout: the boxes of a row: the program. Conditions: none. -/
import Derived.Test.YthgliihdaockoaaLayG
import Derived.Test.YthgliihdaockoaaLayQ
import Derived.Test.YthgliihdaockoaaLayV
import Derived.Test.YthgliihdaockoaaLayA
import Derived.BigRegion
import Derived.Deep.RegionHeld3
namespace Go.Proofs.Ythgliihdaockoaa
open Go.RowKit
set_option linter.unusedVariables false
set_option linter.unusedSimpArgs false
theorem mk_flex0n (n : Nat) (hn : n ≤ 1099511627776) (w : World) :
    (Instr.makeSlice 69 (.int .i64 0) (.int .i64 (n : Int))).run Try.prog w = .ok (.slice (some ⟨w.heap.size, 0, none⟩) 0 n) (w.alloc (.cells (madeCells #[.int .i64 0, .int .i64 0, .int .i64 0, .int .i64 0, .int .i64 0] (n * 5)) 72)) := by
  obtain ⟨i0, hi, hz0, hz1, hz2⟩ := info_parts Flex_info
  have h := run_make w 69 72 i0 (.agg #[.int .i64 0, .int .i64 0, .int .i64 0, .int .i64 0, .int .i64 0]) Try.underlying69 hi hz0 .i64 .i64 0 n (by omega) (by omega) (by rw [hz2]; omega) (by omega)
  simpa [hz1, Value.cells] using h
set_option maxRecDepth 100000 in
set_option maxHeartbeats 16000000 in
theorem lineRow_any (B b off n c : Nat) (xs : List Int) (root : RectI) (bo oo bl i : Nat) (A : Option Addr) (m cl lo hi9 : Nat) (f : Nat → RectI) (w : World) (hT : TreeP xs n) (hr : RcB 0 root) (hA : Ints .i64 w B (some ⟨b, off, none⟩) (n * 9) xs) (hBo : B ≤ bo)
    (hLy : LyW w bl (some ⟨b, off, none⟩) n c bo oo) (hbl : bl ≠ bo) (hR : RR w bo oo n f) (hLr : Row 3 w lo hi9 A m (kidsL xs n i)) (hlo : bo + 1 ≤ lo) (hi : i < n) (hm : 1 ≤ m) (hf : LaidK xs n root i 0 f) (hk : fld xs i 1 = 2) :
    Calls Try.prog 32 #[.pointer (some ⟨bl, 0, none⟩), .int .i64 i, .slice A m cl, .bool false] w (LaidW xs n root bo oo i m w) := by
  have hn16 := hT.hi
  have hin : (i : Int) < (n : Int) := by omega
  have hbw : bo < w.heap.size := hR.lt (by omega)
  have hblw := hLy.lt
  have HT := hide hT
  have HML := hide hLr.1
  have hm8 : m ≤ 8 := by have := hT.kidsLen hi; have := hLr.1; omega
  have HRB := hide (rc_ok hT hr hi)
  have hnum := hT.nums hi
  have hfi := hf.1.at hT.pre hi
  have HF0 := hide hf
  have hg := hR.get hi
  obtain ⟨⟨x, y0, u, v⟩, hRe⟩ : ∃ R, rc xs n root i = R := ⟨_, rfl⟩
  rw [hRe] at HRB
  rw [hfi, hRe] at hg
  have HRe := hide (show rc xs n root i = ri x y0 u v from hRe)
  have hRb := HRB.out
  have hx : 0 ≤ x ∧ x ≤ 50250 := ⟨hRb.x0, by have := hRb.x1; simpa using this⟩
  have hy : 0 ≤ y0 ∧ y0 ≤ 50250 := ⟨hRb.y0, by have := hRb.y1; simpa using this⟩
  have hu : 0 ≤ u ∧ u ≤ 10000 := ⟨hRb.w0, hRb.w1⟩
  have hv : 0 ≤ v ∧ v ≤ 10000 := ⟨hRb.h0, hRb.h1⟩
  obtain ⟨b', off', eb, hb9, h1, h2⟩ := hA.fldAt (by omega)
  injection eb with eb
  injection eb with eb1 eb2
  subst eb1 eb2
  have hbw9 : b < w.heap.size := by omega
  have hbne : b ≠ bo := by omega
  have hc0 := h1 i hi
  have hc1 := h2 i 1 hi (by omega)
  have hc2 := h2 i 2 hi (by omega)
  have hc3 := h2 i 3 hi (by omega)
  have hc4 := h2 i 4 hi (by omega)
  have hc5 := h2 i 5 hi (by omega)
  have hc6 := h2 i 6 hi (by omega)
  have hc7 := h2 i 7 hi (by omega)
  have hc8 := h2 i 8 hi (by omega)
  obtain ⟨y, hy⟩ : ∃ y, par xs i = y := ⟨_, rfl⟩
  rw [hy] at hc0
  have HYc0 := hide hy
  clear hy
  obtain ⟨y1, hy1⟩ : ∃ y1, fld xs i 1 = y1 := ⟨_, rfl⟩
  rw [hy1] at hc1
  have HY1 := hide hy1
  clear hy1
  obtain ⟨y2, hy2⟩ : ∃ y2, fld xs i 2 = y2 := ⟨_, rfl⟩
  rw [hy2] at hc2
  have HY2 := hide hy2
  clear hy2
  obtain ⟨y3, hy3⟩ : ∃ y3, fld xs i 3 = y3 := ⟨_, rfl⟩
  rw [hy3] at hc3
  have HY3 := hide hy3
  clear hy3
  obtain ⟨y4, hy4⟩ : ∃ y4, fld xs i 4 = y4 := ⟨_, rfl⟩
  rw [hy4] at hc4
  have HY4 := hide hy4
  clear hy4
  obtain ⟨y5, hy5⟩ : ∃ y5, fld xs i 5 = y5 := ⟨_, rfl⟩
  rw [hy5] at hc5
  have HY5 := hide hy5
  clear hy5
  obtain ⟨y6, hy6⟩ : ∃ y6, fld xs i 6 = y6 := ⟨_, rfl⟩
  rw [hy6] at hc6
  have HY6 := hide hy6
  clear hy6
  obtain ⟨y7, hy7⟩ : ∃ y7, fld xs i 7 = y7 := ⟨_, rfl⟩
  rw [hy7] at hc7
  have HY7 := hide hy7
  clear hy7
  obtain ⟨y8, hy8⟩ : ∃ y8, fld xs i 8 = y8 := ⟨_, rfl⟩
  rw [hy8] at hc8
  have HY8 := hide hy8
  clear hy8
  clear h1 h2 hRe hRb hT
  obtain ⟨-, -, -, hpad, hgap, -, -, hjust, -⟩ := hnum
  rw [HY4.out] at hpad
  rw [HY5.out] at hgap
  rw [HY8.out] at hjust
  obtain ⟨⟨ix, iy, iw, ih⟩, hI⟩ : ∃ I, insetR (ri x y0 u v) y4 = I := ⟨_, rfl⟩
  have hib := insetR_bd (d := 5) (r := ri x y0 u v) (pad := y4) HRB.out hpad
  rw [hI] at hib
  have HI := hide (show insetR (ri x y0 u v) y4 = ri ix iy iw ih from hI)
  have hix : 0 ≤ ix ∧ ix ≤ 50300 := ⟨hib.x0, by have := hib.x1; simpa using this⟩
  have hiy : 0 ≤ iy ∧ iy ≤ 50300 := ⟨hib.y0, by have := hib.y1; simpa using this⟩
  have hiw : 0 ≤ iw ∧ iw ≤ 10000 := ⟨hib.w0, hib.w1⟩
  have hih : 0 ≤ ih ∧ ih ≤ 10000 := ⟨hib.h0, hib.h1⟩
  have HIn := hide (fun W (h : Below w.heap.size w W) => (show Calls Try.prog 42 #[.pointer (some ⟨bl, 0, none⟩), .int .i64 i] W fun e w' => e = .returned (.agg #[.int .i64 ix, .int .i64 iy, .int .i64 iw, .int .i64 ih]) ∧ Below W.heap.size W w' from by
    have h := inner_any bl b off n c bo oo i x y0 u v y4 W (hLy.below h hblw) hi (by omega) ((h.cell (p := ⟨bo, oo + i * 4, none⟩) hbw).trans hg.1) ((h.cell (p := ⟨bo, oo + i * 4 + 1, none⟩) hbw).trans hg.2.1) ((h.cell (p := ⟨bo, oo + i * 4 + 2, none⟩) hbw).trans hg.2.2.1) ((h.cell (p := ⟨bo, oo + i * 4 + 3, none⟩) hbw).trans hg.2.2.2) ((h.cell (p := ⟨b, off + i * 9 + 4, none⟩) hbw9).trans hc4) (by omega) (by omega) hu hv hpad
    rw [hI] at h
    exact h))
  clear hib hI hfi hg
  have HKN := hide (fun t (ht : t < m) => kidN_is (p := i) HT.out.pre (t := t) (by rw [HML.out]; exact ht))
  have HNb := hide (fun q (hq : q < n) => nat_bd HT.out hq)
  obtain ⟨i0, hi0, hz0, hz1', hz2'⟩ := info_parts Flex_info
  have hmkF := mk_flex0n m (by omega)
  have HRc := hide (fun t (ht : t < m) => (show rc xs n root (kidN xs n i t) = rowR xs n i (ri ix iy iw ih) t from by
    rw [rc_kid HT.out.pre (by rw [HML.out]; exact ht), HRe.out]
    unfold childR
    rw [if_pos hk, HY4.out, HI.out]))
  have hPb := gap_bd hgap (show m - 1 ≤ 7 by omega)
  rw [show ((m - 1 : Nat) : Int) = (m : Int) - 1 by omega] at hPb
  obtain ⟨P, hP⟩ : ∃ P, y5 * ((m : Int) - 1) = P := ⟨_, rfl⟩
  rw [hP] at hPb
  have HPe := hide hP
  obtain ⟨sp, hsp⟩ : ∃ sp, max (iw - P) 0 = sp := ⟨_, rfl⟩
  have bsp : 0 ≤ sp ∧ sp ≤ 10000 := by omega
  have hmx1 : (if iw - P < 0 then 0 else iw - P) = sp := by rw [← hsp]; split <;> omega
  have hmx2 : (if iw < P then 0 else iw - P) = sp := by rw [← hsp]; split <;> omega
  have ew : IntKind.i64.wrap (iw - P) = iw - P := IntWalk.i64_in _ (by omega)
  have HSz := hide (show flexS (bsW xs n i) (grK xs n i) (srK xs n i) m sp = szW xs n i iw by unfold szW; rw [HML.out, HY5.out, HPe.out, hsp])
  have HSzOk := hide (show OutOk (szW xs n i iw) m by have h := szW_ok (p := i) HT.out iw; rw [HML.out] at h; exact h)
  have HBok := hide (show OutOk (bsW xs n i) m by have h := bsW_ok (p := i) HT.out; rw [HML.out] at h; exact h)
  have HGok := hide (show WtOk (grK xs n i) m by have h := grK_ok (p := i) HT.out; rw [HML.out] at h; exact h)
  have HWok := hide (show WtOk (srK xs n i) m by have h := srK_ok (p := i) HT.out; rw [HML.out] at h; exact h)
  have HOf := hide (fun t (ht : t < m) => (show 0 ≤ offS (szW xs n i iw) m iw y5 y8 t ∧ offS (szW xs n i iw) m iw y5 y8 t ≤ 10000 from by
    have h := offW_bd (just := y8) HT.out hi (show 0 ≤ iw ∧ iw ≤ 10000 by omega) (t := t) (by rw [HML.out]; exact ht)
    rw [HML.out, HY5.out] at h
    exact h))
  obtain ⟨bk, ok, curL, rfl, hbk, -⟩ := hLr.2 (by omega)
  clear HI HRe hk hsp
  have HLy := hide hLy
  have HLr := hide hLr
  have HA := hide hA
  have HR := hide hR
  obtain ⟨l0, l1⟩ := hLy
  have HBx := hide (show Below w.heap.size w (w.alloc (.cells #[.int .i64 y, .int .i64 y1, .int .i64 y2, .int .i64 y3, .int .i64 y4, .int .i64 y5, .int .i64 y6, .int .i64 y7, .int .i64 y8] 43)) from (Below.refl _ _).alloc (Nat.le_refl _) _)
  clear hLr hA hR
  go_enter Try.func32, Try.ntmps32
  go_wp2_with fail
  refine (HIn.out _ HBx.out).mono ?_
  rintro e w1 ⟨rfl, hb1⟩
  have hz1 := hb1.size
  have hBx1 := (hb1.block w.heap.size (by simp)).trans (heap_alloc_new w (.cells #[.int .i64 y, .int .i64 y1, .int .i64 y2, .int .i64 y3, .int .i64 y4, .int .i64 y5, .int .i64 y6, .int .i64 y7, .int .i64 y8] 43))
  rw [show (w.alloc (.cells #[.int .i64 y, .int .i64 y1, .int .i64 y2, .int .i64 y3, .int .i64 y4, .int .i64 y5, .int .i64 y6, .int .i64 y7, .int .i64 y8] 43)).heap.size = w.heap.size + 1 by simp] at hz1
  have HB1 := hide (HBx.out.trans (hb1.mono (by simp)))
  clear hb1 HBx HIn l0 l1 hc0 hc1 hc2 hc3 hc4 hc5 hc6 hc7 hc8
  obtain ⟨z, hz⟩ : ∃ z, w1.heap.size = z := ⟨_, rfl⟩
  rw [hz] at hz1
  have HB2 := hide (show Below w.heap.size w (w1.alloc (.cells #[.int .i64 ix, .int .i64 iy, .int .i64 iw, .int .i64 ih] 30)) from HB1.out.alloc (by omega) _)
  have hBx2 := (heap_alloc_old w1 (.cells #[.int .i64 ix, .int .i64 iy, .int .i64 iw, .int .i64 ih] 30) (show w.heap.size < w1.heap.size by omega)).trans hBx1
  have hIn2 : (w1.alloc (.cells #[.int .i64 ix, .int .i64 iy, .int .i64 iw, .int .i64 ih] 30)).heap[z]? = some (.cells #[.int .i64 ix, .int .i64 iy, .int .i64 iw, .int .i64 ih] 30 (0, 0)) := by rw [← hz]; exact heap_alloc_new w1 _
  have hzm2 : (w1.alloc (.cells #[.int .i64 ix, .int .i64 iy, .int .i64 iw, .int .i64 ih] 30)).heap.size = z + 1 := by simp [hz]
  clear HB1 hBx1
  go_wp2
  generalize (w1.alloc (.cells #[.int .i64 ix, .int .i64 iy, .int .i64 iw, .int .i64 ih] 30)) = Wm at HB2 hIn2 hBx2 hzm2 ⊢
  have HBm := HB2
  have hInm := hIn2
  have hBxm := hBx2
  have hzm := hzm2
  clear HB2 hIn2 hBx2 hzm2
  have HRm := hide (HR.out.below HBm.out hbw)
  have HLm := hide (HLy.out.below HBm.out hblw)
  have HKm := hide (HLr.out.belowS HBm.out)
  have HAm := hide (fun W (h : Only bo (bo + 1) Wm W) => (HA.out.below HBm.out (by omega)).only h hBo (by omega))
  have HC := hide (fun W (h : Only bo (bo + 1) Wm W) => (show (W.cell? ⟨bl, 0, none⟩ = some (.slice (some ⟨b, off, none⟩) n c) ∧ W.cell? ⟨bl, 1, none⟩ = some (.slice (some ⟨bo, oo, none⟩) n n)) ∧ (W.cell? ⟨w.heap.size, 5, none⟩ = some (.int .i64 y5) ∧ W.cell? ⟨w.heap.size, 8, none⟩ = some (.int .i64 y8)) ∧ W.cell? ⟨z, 0, none⟩ = some (.int .i64 ix) ∧ W.cell? ⟨z, 1, none⟩ = some (.int .i64 iy) ∧ W.cell? ⟨z, 2, none⟩ = some (.int .i64 iw) ∧ W.cell? ⟨z, 3, none⟩ = some (.int .i64 ih) from by
    have k1 := HLm.out.only h hbl
    have k2 := (h.block w.heap.size (by omega) (by omega)).trans hBxm
    have k3 := (h.block z (by omega) (by omega)).trans hInm
    exact ⟨k1, ⟨(cell_of_row _ _ 5 _ _ (0, 0) k2).trans rfl, (cell_of_row _ _ 8 _ _ (0, 0) k2).trans rfl⟩, (cell_of_row _ _ 0 _ _ (0, 0) k3).trans rfl, (cell_of_row _ _ 1 _ _ (0, 0) k3).trans rfl, (cell_of_row _ _ 2 _ _ (0, 0) k3).trans rfl, (cell_of_row _ _ 3 _ _ (0, 0) k3).trans rfl⟩))
  have HQ := hide (fun W (h : Only bo (bo + 1) Wm W) q (hq : q < n) => (show W.cell? ⟨b, off + q * 9 + 6, none⟩ = some (.int .i64 (fld xs q 6)) ∧ W.cell? ⟨b, off + q * 9 + 7, none⟩ = some (.int .i64 (fld xs q 7)) from by
    obtain ⟨b', off', eb, -, h1, h2⟩ := (HAm.out W h).fldAt (by omega)
    injection eb with eb
    injection eb with eb1 eb2
    subst eb1 eb2
    exact ⟨h2 q 6 hq (by omega), h2 q 7 hq (by omega)⟩))
  have HS := hide (fun W (h : Only bo (bo + 1) Wm W) t (ht : t < m) => (show W.cell? ⟨bk, ok + t, none⟩ = some (.int .i64 ((kidN xs n i t : Nat) : Int)) from by
    have h1 := ((HKm.out.far h (.inr hlo)).cell t ht).1
    rw [← (HKN.out t ht).2.2.1] at h1
    exact h1))
  have HNat := hide (fun (W : World) (h : Only bo (bo + 1) Wm W) (q : Nat) (hq : q < n) => implNat_any B (some ⟨b, off, none⟩) n c xs HT.out n q W (HAm.out W h) (by have := h.size; omega) (by omega) hq (by omega))
  have HOb := hide (fun W (h : Below (z + 1) Wm W) => (show Only bo (bo + 1) Wm W from Only.ofBelow (by rw [hzm]; exact h)))
  have hbm : bo < Wm.heap.size := by omega
  have HO0 := hide (show Own 72 5 (Wm.alloc (.cells (madeCells #[.int .i64 0, .int .i64 0, .int .i64 0, .int .i64 0, .int .i64 0] (m * 5)) 72)) (z + 1) (.slice (some ⟨(z + 1), 0, none⟩) 0 m) 0 (flexZ (bsW xs n i) (grK xs n i) (srK xs n i) 0) from by
    have h := Own.made 72 5 Wm (madeCells #[.int .i64 0, .int .i64 0, .int .i64 0, .int .i64 0, .int .i64 0] (m * 5)) m (z + 1) (by omega) (by omega) (by rw [size_madeCells])
    rw [hzm] at h
    exact h)
  have HB0 := hide (show Below (z + 1) Wm (Wm.alloc (.cells (madeCells #[.int .i64 0, .int .i64 0, .int .i64 0, .int .i64 0, .int .i64 0] (m * 5)) 72)) from (Below.refl _ _).alloc (by omega) _)
  have hz0w : (z + 1) ≤ (Wm.alloc (.cells (madeCells #[.int .i64 0, .int .i64 0, .int .i64 0, .int .i64 0, .int .i64 0] (m * 5)) 72)).heap.size := by simp; omega
  clear hInm hBxm HLm HKm HAm HA HLy HLr HR
  generalize Wm.alloc (.cells (madeCells #[.int .i64 0, .int .i64 0, .int .i64 0, .int .i64 0, .int .i64 0] (m * 5)) 72) = W0 at HO0 HB0 hz0w ⊢
  go_loopw [10, 12, 13, 36] (fun s10 _ _ s36 wr => ∃ (t c' : Nat) (A : Option Addr) (W9 : World), t ≤ m ∧ s10 = .slice A t c' ∧ s36 = .int .i64 t ∧ W9 = wr ∧ (z + 1) ≤ W9.heap.size ∧ Hid (Own 72 5 W9 (z + 1) (.slice A t c') t (flexZ (bsW xs n i) (grK xs n i) (srK xs n i) t)) ∧ Hid (Below (z + 1) Wm W9)) (fun _ _ _ s36 _ => m - (intOf s36).toNat)
  case atStart => exact ⟨0, _, _, _, Nat.zero_le _, rfl, rfl, rfl, hz0w, HO0, HB0⟩
  case round =>
    clear HO0 HB0 hz0w
    obtain ⟨t, c', A, W9, htm, rfl, rfl, rfl, hz9, HO, HB⟩ := hrel
    have HOn := hide (HOb.out W9 HB.out)
    by_cases hlt : t < m
    · have hlt' : (t : Int) < (m : Int) := by omega
      have hs := HS.out W9 HOn.out t hlt
      have hqs := HKN.out t hlt
      obtain ⟨q, hq⟩ : ∃ q, kidN xs n i t = q := ⟨_, rfl⟩
      rw [hq] at hs hqs
      have hqn : q < n := hqs.2.1
      have hnat := HNat.out W9 HOn.out q hqn
      have hnb := HNb.out q hqn
      obtain ⟨kw, hkw⟩ : ∃ kw, (nat xs n q).1 = kw := ⟨_, rfl⟩
      obtain ⟨kh, hkh⟩ : ∃ kh, (nat xs n q).2 = kh := ⟨_, rfl⟩
      obtain ⟨g6, hg6⟩ : ∃ g6, fld xs q 6 = g6 := ⟨_, rfl⟩
      obtain ⟨g7, hg7⟩ : ∃ g7, fld xs q 7 = g7 := ⟨_, rfl⟩
      rw [hkw, hkh] at hnat hnb
      have D := hide (show flexZ (bsW xs n i) (grK xs n i) (srK xs n i) (t + 1) = flexZ (bsW xs n i) (grK xs n i) (srK xs n i) t ++ [kw, 0, 10000, g6, g7] by rw [flexZ]; unfold bsW grK srK; rw [hq, hkw, hg6, hg7])
      have HQq := hide (fun W (h : Only bo (bo + 1) Wm W) => (show W.cell? ⟨b, off + q * 9 + 6, none⟩ = some (.int .i64 g6) ∧ W.cell? ⟨b, off + q * 9 + 7, none⟩ = some (.int .i64 g7) from by
        have h1 := HQ.out W h q hqn
        rw [hg6, hg7] at h1
        exact h1))
      have hqi : (q : Int) < (n : Int) := by omega
      obtain ⟨⟨l0, l1⟩, -⟩ := HC.out W9 HOn.out
      clear hq hkw hkh hg6 hg7 hqs
      go_wp2_with fail
      refine hnat.mono ?_
      rintro e W10 ⟨rfl, hb10⟩
      have hz10 := hb10.size
      clear l0 l1 hs hnat
      obtain ⟨zs, hzs⟩ : ∃ zs, W10.heap.size = zs := ⟨_, rfl⟩
      rw [hzs] at hz10
      have HBb := hide (show Below W9.heap.size W9 (W10.alloc (.cells #[.int .i64 kw, .int .i64 kh] 66)) from hb10.alloc (by omega) _)
      have c0 : (W10.alloc (.cells #[.int .i64 kw, .int .i64 kh] 66)).cell? ⟨zs, 0, none⟩ = some (.int .i64 kw) := by rw [← hzs]; exact new_cell W10 kw kh
      have hzb : (W10.alloc (.cells #[.int .i64 kw, .int .i64 kh] 66)).heap.size = zs + 1 := by simp [hzs]
      clear hb10
      go_wp2_with fail
      generalize (W10.alloc (.cells #[.int .i64 kw, .int .i64 kh] 66)) = Wb at HBb c0 hzb ⊢
      have hzb9 : W9.heap.size ≤ zs ∧ zs < Wb.heap.size := by omega
      have HBB := hide (HB.out.trans (HBb.out.mono hz9))
      have HOw := hide (HO.out.keep HBb.out)
      have HOB := hide (HOb.out Wb HBB.out)
      have hcs : Wb.cell? ⟨zs, 0, none⟩ = some (.int .i64 kw) ∧ Wb.cell? ⟨bl, 0, none⟩ = some (.slice (some ⟨b, off, none⟩) n c) ∧ Wb.cell? ⟨b, off + q * 9 + 6, none⟩ = some (.int .i64 g6) ∧ Wb.cell? ⟨b, off + q * 9 + 7, none⟩ = some (.int .i64 g7) := ⟨c0, (HC.out Wb HOB.out).1.1, HQq.out Wb HOB.out⟩
      obtain ⟨-, c1, c2, c3⟩ := hcs
      have HOa := hide (show ((Wb.drew).alloc (.cells #[.int .i64 kw, .int .i64 0, .int .i64 10000, .int .i64 g6, .int .i64 g7] 72)).ownsRow (z + 1) 72 5 (.slice A t c') t (iv (flexZ (bsW xs n i) (grK xs n i) (srK xs n i) t)) from World.ownsRow.alloc HOw.out _)
      have HRd := hide (reads_new 72 Wb.drew 5 1 [kw, 0, 10000, g6, g7] rfl)
      have HNb9 := hide (fun w9 (hgw : Wb.grownBy w9 (Value.slice A t c').ownBlock) => (show Below (z + 1) Wb w9 ∧ w9.cell? ⟨zs, 0, none⟩ = some (.int .i64 kw) ∧ w9.cell? ⟨bl, 0, none⟩ = some (.slice (some ⟨b, off, none⟩) n c) ∧ w9.cell? ⟨b, off + q * 9 + 6, none⟩ = some (.int .i64 g6) ∧ w9.cell? ⟨b, off + q * 9 + 7, none⟩ = some (.int .i64 g7) from by
        have hbw := Own.below HOw.out (by omega) hgw
        have HO9 := HOb.out w9 (HBB.out.trans hbw)
        exact ⟨hbw, (World.cell?_of_block (a := ⟨zs, 0, none⟩) (hgw.block zs (by omega) (fun e => by have := (HO.out.lt zs e.symm).2; omega))).trans c0, (HC.out w9 HO9).1.1, HQq.out w9 HO9⟩))
      clear hzs hz10 hzb HBb
      first | go_region_held3 (fun w' => w'.cell? ⟨zs, 0, none⟩ = some (.int .i64 kw) ∧ w'.cell? ⟨bl, 0, none⟩ = some (.slice (some ⟨b, off, none⟩) n c) ∧ w'.cell? ⟨b, off + q * 9 + 6, none⟩ = some (.int .i64 g6) ∧ w'.cell? ⟨b, off + q * 9 + 7, none⟩ = some (.int .i64 g7)) (first | go_keep | exact ⟨c0, c1, c2, c3⟩ | exact t9) ((refine step_append_any _ (by rfl) _ _ _ (by rfl) (z + 1) 72 i0 _ 5 40 Try.underlying69 hi0 hz0 hz1' hz2' rfl (by omega) (.slice A t c') t (iv (flexZ (bsW xs n i) (grK xs n i) (srK xs n i) t)) (by rfl) HOa.out (Wb.heap.size + 1) (some ⟨Wb.heap.size, 0, none⟩) 1 1 (iv [kw, 0, 10000, g6, g7]) (by rfl) HRd.out (iv_one _) (by unfold maxLen; omega) (by omega) (by simp; omega) ?_; intro v9 w9 ho9 hg9 hv9; obtain ⟨hbw, t9⟩ := HNb9.out w9 (only_trans (only_drew (World.grownBy_alloc Wb _ _)) hg9))) | fail
      have HO1 := hide (show Own 72 5 w9 (z + 1) v9 (t + 1) (flexZ (bsW xs n i) (grK xs n i) (srK xs n i) (t + 1)) by rw [D.out]; rw [← iv_append] at ho9; exact ho9)
      have HB1 := hide (HBB.out.trans hbw)
      have hz9' := Nat.le_trans (show (z + 1) ≤ Wb.heap.size by omega) hbw.size
      obtain ⟨A1, c1', hvv1, _, _, _⟩ := HO1.out.form
      subst hvv1
      clear ho9 hg9 hv9 hbw HOa HRd HO HB HOn HBB HOw HOB HNb9 HQq c0 c1 c2 c3 t9
      go_wp2
      go_roundw
      case rel => exact ⟨t + 1, _, _, _, by omega, rfl, by go_num, rfl, hz9', HO1, HB1⟩
      case measure => simp [intOf]; omega
    · obtain rfl : m = t := by omega
      obtain ⟨A', c'', e, -, -, hrow⟩ := HO.out.form
      injection e with e1 e2 e3
      subst e1 e3
      have HFx := hide (implFlexed_any W9.heap.size A m c' (bsW xs n i) (grK xs n i) (srK xs n i) sp W9 hrow.ints (Nat.le_refl _) ⟨hm, hm8⟩ HBok.out HGok.out HWok.out (by omega))
      obtain ⟨-, ⟨g5, g8⟩, -, -, z2', -⟩ := HC.out W9 HOn.out
      clear hrow HO
      go_wp2_with fail
      refine HFx.out.mono ?_
      rintro e W5 ⟨A2, m2, c2, rfl, hr5, hb5⟩
      obtain rfl : m = m2 := by have h1 := hr5.1; rw [fl_len] at h1; exact h1
      rw [HSz.out] at hr5
      have HO5 := hide (HOn.out.trans (Only.ofBelow hb5))
      have HR5 := hide ((HRm.out.below HB.out (by omega)).below hb5 (by omega))
      have hz5 := hb5.size
      obtain ⟨bs, os, curS, rfl, hbs, -⟩ := hr5.2 (by omega)
      have HSr := hide (fun W (h : Only bo (bo + 1) W5 W) => hr5.far h (.inr (by omega)))
      have HOff := hide (implOffsets_any W5.heap.size (some ⟨bs, os, none⟩) m c2 (szW xs n i iw) iw y5 y8 W5 hr5.ints (Nat.le_refl _) ⟨hm, hm8⟩ HSzOk.out (by omega) hgap hjust)
      clear g5 g8 z2'
      obtain ⟨-, ⟨g5, g8⟩, -, -, z2', -⟩ := HC.out W5 HO5.out
      clear hr5 hb5 HFx HSz
      go_wp2_with fail
      refine HOff.out.mono ?_
      rintro e W7 ⟨A3, m3, c3, rfl, hr7, hb7⟩
      obtain rfl : m = m3 := by have h1 := hr7.1; rw [fl_len] at h1; exact h1
      have HO7 := hide (HO5.out.trans (Only.ofBelow hb7))
      have HO57 := hide (show Only bo (bo + 1) W5 W7 from Only.ofBelow hb7)
      have hz7 := hb7.size
      obtain ⟨bx, ox, curX, rfl, hbx, -⟩ := hr7.2 (by omega)
      have HXr := hide (fun W (h : Only bo (bo + 1) W7 W) => hr7.far h (.inr (by omega)))
      have HS7 := hide (fun W (h : Only bo (bo + 1) W7 W) t (ht : t < m) => (show (W.cell? ⟨bk, ok + t, none⟩ = some (.int .i64 ((kidN xs n i t : Nat) : Int)) ∧ W.cell? ⟨bs, os + t, none⟩ = some (.int .i64 (szW xs n i iw t)) ∧ W.cell? ⟨bx, ox + t, none⟩ = some (.int .i64 (offS (szW xs n i iw) m iw y5 y8 t))) ∧ (W.cell? ⟨z, 0, none⟩ = some (.int .i64 ix) ∧ W.cell? ⟨z, 1, none⟩ = some (.int .i64 iy) ∧ W.cell? ⟨z, 3, none⟩ = some (.int .i64 ih)) ∧ W.cell? ⟨bl, 1, none⟩ = some (.slice (some ⟨bo, oo, none⟩) n n) from by
        have h1 := HS.out W (HO7.out.trans h) t ht
        have h2 := ((HSr.out W (HO57.out.trans h)).cell t ht).1
        have h3 := ((HXr.out W h).cell t ht).1
        rw [fl_at _ ht] at h2 h3
        obtain ⟨⟨-, k1⟩, -, k2, k3, -, k4⟩ := HC.out W (HO7.out.trans h)
        exact ⟨⟨h1, h2, h3⟩, ⟨k2, k3, k4⟩, k1⟩))
      have HR7 := hide (HR5.out.below hb7 (by omega))
      have hz7w : bo < W7.heap.size ∧ z < W7.heap.size := by omega
      clear hr7 hb7 HOff g5 g8 z2' HR5 HSr HXr
      go_wp2
      go_loopw [15, 16, 17, 93] (fun _ _ _ s93 wr => ∃ (t : Nat) (W8 : World) (f8 : Nat → RectI), t ≤ m ∧ s93 = .int .i64 t ∧ W8 = wr ∧ Hid (RR W8 bo oo n f8) ∧ Hid (LaidK xs n root i t f8) ∧ Hid (Only bo (bo + 1) W7 W8)) (fun _ _ _ s93 _ => m - (intOf s93).toNat)
      case atStart => exact ⟨0, _, _, Nat.zero_le _, rfl, rfl, HR7, HF0, hide (Only.refl _ _ _)⟩
      case round =>
        clear HR7
        obtain ⟨t, W8, f8, htm2, rfl, rfl, HR8, HP8, HO8⟩ := hrel
        have hz8 := HO8.out.size
        by_cases hlt : t < m
        · have hlt' : (t : Int) < (m : Int) := by omega
          have hqs := HKN.out t hlt
          have hrc := HRc.out t hlt
          have hof := HOf.out t hlt
          have hso := HSzOk.out t hlt
          have HPn := hide (fun (f2 : Nat → RectI) (h : ∀ j, f2 j = if j = kidN xs n i t then rc xs n root (kidN xs n i t) else f8 j) => HP8.out.next HT.out.pre (by rw [HML.out]; exact hlt) h)
          have HSt := hide (fun W (h : Only bo (bo + 1) W7 W) => HS7.out W h t hlt)
          obtain ⟨q, hq⟩ : ∃ q, kidN xs n i t = q := ⟨_, rfl⟩
          rw [hq] at hqs hrc HPn HSt
          obtain ⟨o, ho⟩ : ∃ o, offS (szW xs n i iw) m iw y5 y8 t = o := ⟨_, rfl⟩
          rw [ho] at hof HSt
          obtain ⟨s, hss⟩ : ∃ s, szW xs n i iw t = s := ⟨_, rfl⟩
          rw [hss] at hso HSt
          rw [show rowR xs n i (ri ix iy iw ih) t = ri (ix + o) iy s ih by unfold rowR; rw [HML.out, HY5.out, HY8.out]; show RectI.mk _ _ _ _ = RectI.mk _ _ _ _; simp only [ri]; rw [ho, hss]] at hrc
          rw [hrc] at HPn
          have hqn : q < n := hqs.2.1
          have hqi : (q : Int) < (n : Int) := by omega
          have eo : IntKind.i64.wrap (ix + o) = ix + o := IntWalk.i64_in _ (by omega)
          obtain ⟨⟨s1, s2, s3⟩, ⟨s4, s5, s6⟩, s7⟩ := HSt.out W8 HO8.out
          clear hq ho hss hrc hqs hof
          go_wp2_with fail
          first | go_region_held3 (fun w' => w'.cell? ⟨z, 0, none⟩ = some (.int .i64 ix) ∧ w'.cell? ⟨z, 1, none⟩ = some (.int .i64 iy) ∧ w'.cell? ⟨bs, os + t, none⟩ = some (.int .i64 s) ∧ w'.cell? ⟨z, 3, none⟩ = some (.int .i64 ih)) (first | go_keep) (fail) | fail
          have HBr := hide (show Below W8.heap.size W8 (W8.alloc (.cells #[.int .i64 (ix + o), .int .i64 iy, .int .i64 s, .int .i64 ih] 30)).drew from ((Below.refl _ _).alloc (Nat.le_refl _) _).drew)
          have hrr : (W8.alloc (.cells #[.int .i64 (ix + o), .int .i64 iy, .int .i64 s, .int .i64 ih] 30)).drew.heap[W8.heap.size]? = some (.cells #[.int .i64 (ix + o), .int .i64 iy, .int .i64 s, .int .i64 ih] 30 (0, 0)) := heap_alloc_new W8 _
          have hzr : (W8.alloc (.cells #[.int .i64 (ix + o), .int .i64 iy, .int .i64 s, .int .i64 ih] 30)).drew.heap.size = W8.heap.size + 1 := by simp
          generalize (W8.alloc (.cells #[.int .i64 (ix + o), .int .i64 iy, .int .i64 s, .int .i64 ih] 30)).drew = Wr at HBr hrr hzr ⊢
          clear s1 s2 s3 s4 s5 s6 s7
          have c0 : Wr.cell? ⟨W8.heap.size, 0, none⟩ = some (.int .i64 (ix + o)) := (cell_of_row _ _ 0 _ _ (0, 0) hrr).trans rfl
          have c1 : Wr.cell? ⟨W8.heap.size, 1, none⟩ = some (.int .i64 iy) := (cell_of_row _ _ 1 _ _ (0, 0) hrr).trans rfl
          have c2 : Wr.cell? ⟨W8.heap.size, 2, none⟩ = some (.int .i64 s) := (cell_of_row _ _ 2 _ _ (0, 0) hrr).trans rfl
          have c3 : Wr.cell? ⟨W8.heap.size, 3, none⟩ = some (.int .i64 ih) := (cell_of_row _ _ 3 _ _ (0, 0) hrr).trans rfl
          have HRx := hide (HR8.out.below HBr.out (by omega))
          have HOx := hide (HO8.out.trans (Only.ofBelow HBr.out))
          obtain ⟨⟨s1, -, -⟩, -, s7⟩ := HSt.out Wr HOx.out
          obtain ⟨g0, g1, g2, g3⟩ := HRx.out.get hqn
          obtain ⟨e0, e1, e2, e3⟩ := HRx.out.fr hqn
          clear hrr HR8 HO8 HP8 HBr
          go_wp2
          go_region
          have HR7 := hide (show RR ((((Wr.setCell ⟨bo, oo + q * 4, none⟩ (.int .i64 (ix + o))).setCell ⟨bo, oo + q * 4 + 1, none⟩ (.int .i64 iy)).setCell ⟨bo, oo + q * 4 + 2, none⟩ (.int .i64 s)).setCell ⟨bo, oo + q * 4 + 3, none⟩ (.int .i64 ih)).drew bo oo n (fun j => if j = q then ri (ix + o) iy s ih else f8 j) from HRx.out.put hqn (ri (ix + o) iy s ih) (fun j => rfl))
          have HO7' := hide (show Only bo (bo + 1) W7 ((((Wr.setCell ⟨bo, oo + q * 4, none⟩ (.int .i64 (ix + o))).setCell ⟨bo, oo + q * 4 + 1, none⟩ (.int .i64 iy)).setCell ⟨bo, oo + q * 4 + 2, none⟩ (.int .i64 s)).setCell ⟨bo, oo + q * 4 + 3, none⟩ (.int .i64 ih)).drew from ((((HOx.out.set (Nat.le_refl _) (Nat.lt_succ_self _) _).set (Nat.le_refl _) (Nat.lt_succ_self _) _).set (Nat.le_refl _) (Nat.lt_succ_self _) _).set (Nat.le_refl _) (Nat.lt_succ_self _) _).drew)
          have HP7 := hide (HPn.out _ (fun j => rfl))
          generalize ((((Wr.setCell ⟨bo, oo + q * 4, none⟩ (.int .i64 (ix + o))).setCell ⟨bo, oo + q * 4 + 1, none⟩ (.int .i64 iy)).setCell ⟨bo, oo + q * 4 + 2, none⟩ (.int .i64 s)).setCell ⟨bo, oo + q * 4 + 3, none⟩ (.int .i64 ih)).drew = W6 at HR7 HO7' ⊢
          clear s1 s7 g0 g1 g2 g3 e0 e1 e2 e3 c0 c1 c2 c3 HRx HOx HPn HSt
          go_wp2
          go_roundw
          case rel => exact ⟨t + 1, _, _, by omega, by go_num, rfl, HR7, HP7, HO7'⟩
          case measure => simp [intOf]; omega
        · obtain rfl : m = t := by omega
          have D := hide (show LaidW xs n root bo oo i m w (.returned (.tuple #[])) W8 from ⟨rfl, ⟨f8, HP8.out, HR8.out⟩, (Only.ofBelow HBm.out).trans (HO7.out.trans HO8.out)⟩)
          clear HR8 HP8 HO8
          go_wp2
          exact bodyPost_ret (v := .tuple #[]) (by simp [results, Try.results32]) rfl D.out
end Go.Proofs.Ythgliihdaockoaa
