/- Layout: the boxes below each other: the program. Conditions: none. -/
import Derived.Test.YthgliihdaockoaaLayE
import Derived.BigRegion
namespace Go.Proofs.Ythgliihdaockoaa
open Go.RowKit
set_option linter.unusedVariables false
set_option linter.unusedSimpArgs false
theorem cell_heap {w w' : World} {g o : Nat} (h : w'.heap[g]? = w.heap[g]?) : w'.cell? ⟨g, o, none⟩ = w.cell? ⟨g, o, none⟩ := by simp [World.cell?, h]
theorem Only.cellNe {bo : Nat} {w w' : World} (h : Only bo (bo + 1) w w') {g o : Nat} (hg : g < w.heap.size) (hne : g ≠ bo) : w'.cell? ⟨g, o, none⟩ = w.cell? ⟨g, o, none⟩ := cell_heap (h.block g hg (by omega))
theorem LyW.only {w w' : World} {bl : Nat} {a : Option Addr} {n c bo oo : Nat} (h : LyW w bl a n c bo oo) (ho : Only bo (bo + 1) w w') (hne : bl ≠ bo) : LyW w' bl a n c bo oo :=
  ⟨(ho.cellNe h.lt hne).trans h.1, (ho.cellNe h.lt hne).trans h.2⟩
theorem size_h (kw kh : Int) (w : World) : (Instr.field 66 (Value.agg #[.int .i64 kw, .int .i64 kh]) 1).run Try.prog w = .ok (.int .i64 kh) w := by
  unfold Instr.field
  simp [go_sem, asAgg]
/-- what the laying of the boxes in a box does -/
def LaidW (xs : List Int) (n : Nat) (root : RectI) (bo oo i m : Nat) (w : World) (e : Ending) (w' : World) : Prop :=
  e = .returned (.tuple #[]) ∧ (∃ f', LaidK xs n root i m f' ∧ RR w' bo oo n f') ∧ Only bo (bo + 1) w w'
set_option maxRecDepth 100000 in
set_option maxHeartbeats 8000000 in
theorem block_any (B b off n c : Nat) (xs : List Int) (root : RectI) (bo oo bl i : Nat) (A : Option Addr) (m cl lo hi9 : Nat) (f : Nat → RectI) (w : World) (hT : TreeP xs n) (hr : RcB 0 root) (hA : Ints .i64 w B (some ⟨b, off, none⟩) (n * 9) xs) (hBo : B ≤ bo)
    (hLy : LyW w bl (some ⟨b, off, none⟩) n c bo oo) (hbl : bl ≠ bo) (hR : RR w bo oo n f) (hLr : Row 3 w lo hi9 A m (kidsL xs n i)) (hlo : bo + 1 ≤ lo) (hi : i < n) (hm : 1 ≤ m) (hf : LaidK xs n root i 0 f) (hk2 : fld xs i 1 ≠ 2) (hk3 : fld xs i 1 ≠ 3) :
    Calls Try.prog 31 #[.pointer (some ⟨bl, 0, none⟩), .int .i64 i, .slice A m cl] w (LaidW xs n root bo oo i m w) := by
  have hn16 := hT.hi
  have hin : (i : Int) < (n : Int) := by omega
  have hbw : bo < w.heap.size := hR.lt (by omega)
  have hblw := hLy.lt
  have HT := hide hT
  have HML := hide hLr.1
  have hm8 : m ≤ 8 := by have := hT.kidsLen hi; have := hLr.1; omega
  have HRB := hide (rc_ok hT hr hi)
  have hnum := hT.nums hi
  have hfi := hf.1.at hT.pre hi
  have HF0 := hide hf
  have hg := hR.get hi
  obtain ⟨⟨x, y0, u, v⟩, hRe⟩ : ∃ R, rc xs n root i = R := ⟨_, rfl⟩
  rw [hRe] at HRB
  rw [hfi, hRe] at hg
  have HRe := hide (show rc xs n root i = ri x y0 u v from hRe)
  have hRb := HRB.out
  have hx : 0 ≤ x ∧ x ≤ 50250 := ⟨hRb.x0, by have := hRb.x1; simpa using this⟩
  have hy : 0 ≤ y0 ∧ y0 ≤ 50250 := ⟨hRb.y0, by have := hRb.y1; simpa using this⟩
  have hu : 0 ≤ u ∧ u ≤ 10000 := ⟨hRb.w0, hRb.w1⟩
  have hv : 0 ≤ v ∧ v ≤ 10000 := ⟨hRb.h0, hRb.h1⟩
  obtain ⟨b', off', eb, hb9, h1, h2⟩ := hA.fldAt (by omega)
  injection eb with eb
  injection eb with eb1 eb2
  subst eb1 eb2
  have hbw9 : b < w.heap.size := by omega
  have hbne : b ≠ bo := by omega
  have hc0 := h1 i hi
  have hc1 := h2 i 1 hi (by omega)
  have hc2 := h2 i 2 hi (by omega)
  have hc3 := h2 i 3 hi (by omega)
  have hc4 := h2 i 4 hi (by omega)
  have hc5 := h2 i 5 hi (by omega)
  have hc6 := h2 i 6 hi (by omega)
  have hc7 := h2 i 7 hi (by omega)
  have hc8 := h2 i 8 hi (by omega)
  obtain ⟨y, hy⟩ : ∃ y, par xs i = y := ⟨_, rfl⟩
  rw [hy] at hc0
  have HYc0 := hide hy
  clear hy
  obtain ⟨y1, hy1⟩ : ∃ y1, fld xs i 1 = y1 := ⟨_, rfl⟩
  rw [hy1] at hc1
  have HY1 := hide hy1
  clear hy1
  obtain ⟨y2, hy2⟩ : ∃ y2, fld xs i 2 = y2 := ⟨_, rfl⟩
  rw [hy2] at hc2
  have HY2 := hide hy2
  clear hy2
  obtain ⟨y3, hy3⟩ : ∃ y3, fld xs i 3 = y3 := ⟨_, rfl⟩
  rw [hy3] at hc3
  have HY3 := hide hy3
  clear hy3
  obtain ⟨y4, hy4⟩ : ∃ y4, fld xs i 4 = y4 := ⟨_, rfl⟩
  rw [hy4] at hc4
  have HY4 := hide hy4
  clear hy4
  obtain ⟨y5, hy5⟩ : ∃ y5, fld xs i 5 = y5 := ⟨_, rfl⟩
  rw [hy5] at hc5
  have HY5 := hide hy5
  clear hy5
  obtain ⟨y6, hy6⟩ : ∃ y6, fld xs i 6 = y6 := ⟨_, rfl⟩
  rw [hy6] at hc6
  have HY6 := hide hy6
  clear hy6
  obtain ⟨y7, hy7⟩ : ∃ y7, fld xs i 7 = y7 := ⟨_, rfl⟩
  rw [hy7] at hc7
  have HY7 := hide hy7
  clear hy7
  obtain ⟨y8, hy8⟩ : ∃ y8, fld xs i 8 = y8 := ⟨_, rfl⟩
  rw [hy8] at hc8
  have HY8 := hide hy8
  clear hy8
  clear h1 h2 hRe hRb hT
  obtain ⟨-, -, -, hpad, hgap, -, -, hjust, -⟩ := hnum
  rw [HY4.out] at hpad
  rw [HY5.out] at hgap
  rw [HY8.out] at hjust
  obtain ⟨⟨ix, iy, iw, ih⟩, hI⟩ : ∃ I, insetR (ri x y0 u v) y4 = I := ⟨_, rfl⟩
  have hib := insetR_bd (d := 5) (r := ri x y0 u v) (pad := y4) HRB.out hpad
  rw [hI] at hib
  have HI := hide (show insetR (ri x y0 u v) y4 = ri ix iy iw ih from hI)
  have hix : 0 ≤ ix ∧ ix ≤ 50300 := ⟨hib.x0, by have := hib.x1; simpa using this⟩
  have hiy : 0 ≤ iy ∧ iy ≤ 50300 := ⟨hib.y0, by have := hib.y1; simpa using this⟩
  have hiw : 0 ≤ iw ∧ iw ≤ 10000 := ⟨hib.w0, hib.w1⟩
  have hih : 0 ≤ ih ∧ ih ≤ 10000 := ⟨hib.h0, hib.h1⟩
  have HIn := hide (fun W (h : Below w.heap.size w W) => (show Calls Try.prog 42 #[.pointer (some ⟨bl, 0, none⟩), .int .i64 i] W fun e w' => e = .returned (.agg #[.int .i64 ix, .int .i64 iy, .int .i64 iw, .int .i64 ih]) ∧ Below W.heap.size W w' from by
    have h := inner_any bl b off n c bo oo i x y0 u v y4 W (hLy.below h hblw) hi (by omega) ((h.cell (p := ⟨bo, oo + i * 4, none⟩) hbw).trans hg.1) ((h.cell (p := ⟨bo, oo + i * 4 + 1, none⟩) hbw).trans hg.2.1) ((h.cell (p := ⟨bo, oo + i * 4 + 2, none⟩) hbw).trans hg.2.2.1) ((h.cell (p := ⟨bo, oo + i * 4 + 3, none⟩) hbw).trans hg.2.2.2) ((h.cell (p := ⟨b, off + i * 9 + 4, none⟩) hbw9).trans hc4) (by omega) (by omega) hu hv hpad
    rw [hI] at h
    exact h))
  clear hib hI hfi hg
  have HKN := hide (fun t (ht : t < m) => kidN_is (p := i) HT.out.pre (t := t) (by rw [HML.out]; exact ht))
  have HNb := hide (fun q (hq : q < n) => nat_bd HT.out hq)
  have HRc := hide (fun t (ht : t < m) => (show rc xs n root (kidN xs n i t) = blkR xs n i (ri ix iy iw ih) t from by
    rw [rc_kid HT.out.pre (by rw [HML.out]; exact ht), HRe.out]
    unfold childR
    rw [if_neg hk2, if_neg hk3, HY4.out, HI.out]))
  have HYb := hide (fun t (ht : t ≤ m) => (show 0 ≤ blkY xs n i t ∧ blkY xs n i t ≤ 8000 from blkY_bd HT.out hi (by rw [HML.out]; exact ht)))
  obtain ⟨bk, ok, curL, rfl, hbk, -⟩ := hLr.2 (by omega)
  clear HI HRe hk2 hk3
  go_enter Try.func31, Try.ntmps31
  go_wp2_with fail
  refine (HIn.out w (Below.refl _ _)).mono ?_
  rintro e w1 ⟨rfl, hb1⟩
  have hz1 := hb1.size
  have HBm := hide (show Below w.heap.size w (w1.alloc (.cells #[.int .i64 ix, .int .i64 iy, .int .i64 iw, .int .i64 ih] 30)) from hb1.alloc hz1 _)
  have hIn : (w1.alloc (.cells #[.int .i64 ix, .int .i64 iy, .int .i64 iw, .int .i64 ih] 30)).heap[w1.heap.size]? = some (.cells #[.int .i64 ix, .int .i64 iy, .int .i64 iw, .int .i64 ih] 30 (0, 0)) := heap_alloc_new w1 _
  have hzm : (w1.alloc (.cells #[.int .i64 ix, .int .i64 iy, .int .i64 iw, .int .i64 ih] 30)).heap.size = w1.heap.size + 1 := by simp
  obtain ⟨z, hz⟩ : ∃ z, w1.heap.size = z := ⟨_, rfl⟩
  rw [hz] at hIn hzm hz1
  have v1 : (w1.alloc (.cells #[.int .i64 ix, .int .i64 iy, .int .i64 iw, .int .i64 ih] 30)).cell? ⟨z, 1, none⟩ = some (.int .i64 iy) := (cell_of_row _ _ 1 _ _ (0, 0) hIn).trans rfl
  go_wp2
  generalize (w1.alloc (.cells #[.int .i64 ix, .int .i64 iy, .int .i64 iw, .int .i64 ih] 30)) = Wm at HBm hIn hzm v1 ⊢
  have HRm := hide (hR.below HBm.out hbw)
  have HLm := hide (hLy.below HBm.out hblw)
  have HKm := hide (hLr.belowS HBm.out)
  have hc5m := (HBm.out.cell (p := ⟨b, off + i * 9 + 5, none⟩) hbw9).trans hc5
  have HAm := hide (fun W (h : Only bo (bo + 1) Wm W) => (hA.below HBm.out (by omega)).only h hBo (by omega))
  have HC := hide (fun W (h : Only bo (bo + 1) Wm W) => (show (W.cell? ⟨bl, 0, none⟩ = some (.slice (some ⟨b, off, none⟩) n c) ∧ W.cell? ⟨bl, 1, none⟩ = some (.slice (some ⟨bo, oo, none⟩) n n)) ∧ (W.cell? ⟨z, 0, none⟩ = some (.int .i64 ix) ∧ W.cell? ⟨z, 2, none⟩ = some (.int .i64 iw)) ∧ W.cell? ⟨b, off + i * 9 + 5, none⟩ = some (.int .i64 y5) from by
    have k1 := HLm.out.only h hbl
    have k2 := (h.block z (by omega) (by omega)).trans hIn
    exact ⟨k1, ⟨(cell_of_row _ _ 0 _ _ (0, 0) k2).trans rfl, (cell_of_row _ _ 2 _ _ (0, 0) k2).trans rfl⟩, (h.cellNe (by omega) hbne).trans hc5m⟩))
  have HS := hide (fun W (h : Only bo (bo + 1) Wm W) t (ht : t < m) => (show W.cell? ⟨bk, ok + t, none⟩ = some (.int .i64 ((kidN xs n i t : Nat) : Int)) from by
    have h1 := ((HKm.out.far h (.inr hlo)).cell t ht).1
    rw [← (HKN.out t ht).2.2.1] at h1
    exact h1))
  have HNat := hide (fun (W : World) (h : Only bo (bo + 1) Wm W) (q : Nat) (hq : q < n) => implNat_any B (some ⟨b, off, none⟩) n c xs HT.out n q W (HAm.out W h) (by have := h.size; omega) (by omega) hq (by omega))
  have hbm : bo < Wm.heap.size := by omega
  clear hb1 hIn HLm HKm hc5m HAm hA hLy hR hLr v1 hc0 hc1 hc2 hc3 hc4 hc5 hc6 hc7 hc8 HIn
  go_loopw [7, 9, 10, 18] (fun s7 _ _ s18 wr => ∃ (t : Nat) (W9 : World) (f9 : Nat → RectI), t ≤ m ∧ s7 = .int .i64 (iy + blkY xs n i t) ∧ s18 = .int .i64 t ∧ W9 = wr ∧ Hid (RR W9 bo oo n f9) ∧ Hid (LaidK xs n root i t f9) ∧ Hid (Only bo (bo + 1) Wm W9)) (fun _ _ _ s18 _ => m - (intOf s18).toNat)
  case atStart => exact ⟨0, _, _, Nat.zero_le _, by simp [blkY, sumF_nil], rfl, rfl, HRm, HF0, hide (Only.refl _ _ _)⟩
  case round =>
    clear HRm HF0
    obtain ⟨t, W9, f9, htm, rfl, rfl, rfl, HR9, HP9, HO9⟩ := hrel
    have hz9 := HO9.out.size
    have hyb := HYb.out t htm
    by_cases hlt : t < m
    · have hlt' : (t : Int) < (m : Int) := by omega
      have hs := HS.out W9 HO9.out t hlt
      have hqs := HKN.out t hlt
      have hrc := HRc.out t hlt
      have hyb1 := HYb.out (t + 1) (by omega)
      have DY := hide (show blkY xs n i (t + 1) = blkY xs n i t + (bsH xs n i t + fld xs i 5) by unfold blkY; rw [sumF_range_succ])
      have HPn := hide (fun (f2 : Nat → RectI) (h : ∀ j, f2 j = if j = kidN xs n i t then rc xs n root (kidN xs n i t) else f9 j) => HP9.out.next HT.out.pre (by rw [HML.out]; exact hlt) h)
      obtain ⟨q, hq⟩ : ∃ q, kidN xs n i t = q := ⟨_, rfl⟩
      rw [hq] at hs hqs hrc HPn
      have hqn : q < n := hqs.2.1
      have hnat := HNat.out W9 HO9.out q hqn
      have hnb := HNb.out q hqn
      obtain ⟨kw, hkw⟩ : ∃ kw, (nat xs n q).1 = kw := ⟨_, rfl⟩
      obtain ⟨kh, hkh⟩ : ∃ kh, (nat xs n q).2 = kh := ⟨_, rfl⟩
      have hbs : bsH xs n i t = kh := by unfold bsH; rw [hq, hkh]
      rw [hkw, hkh] at hnat hnb
      rw [hbs, HY5.out] at DY
      obtain ⟨o, ho⟩ : ∃ o, blkY xs n i t = o := ⟨_, rfl⟩
      rw [ho] at hyb DY
      rw [ho]
      rw [show blkR xs n i (ri ix iy iw ih) t = ri ix (iy + o) iw kh by unfold blkR; show RectI.mk _ _ _ _ = RectI.mk _ _ _ _; simp only [ri]; rw [ho, hbs]] at hrc
      rw [hrc] at HPn
      have hqi : (q : Int) < (n : Int) := by omega
      obtain ⟨⟨l0, l1⟩, ⟨s0, s2⟩, s5⟩ := HC.out W9 HO9.out
      clear hq ho hbs hkw hkh hrc hqs
      go_wp2_with fail
      refine hnat.mono ?_
      rintro e W8 ⟨rfl, hb8⟩
      have HO8 := hide (HO9.out.trans (Only.ofBelow hb8))
      have hr8 := HR9.out.below hb8 (by omega)
      have HR8 := hide hr8
      clear l0 l1 s0 s2 s5 hs
      obtain ⟨⟨l0, l1⟩, ⟨s0, s2⟩, s5⟩ := HC.out W8 HO8.out
      obtain ⟨g0, g1, g2, g3⟩ := hr8.get hqn
      obtain ⟨e0, e1, e2, e3⟩ := hr8.fr hqn
      clear hb8 hr8 hnat
      have hfd := size_h kw kh W8
      go_wp2
      go_region
      have HR7 := hide (show RR ((((W8.setCell ⟨bo, oo + q * 4, none⟩ (.int .i64 ix)).setCell ⟨bo, oo + q * 4 + 1, none⟩ (.int .i64 (iy + o))).setCell ⟨bo, oo + q * 4 + 2, none⟩ (.int .i64 iw)).setCell ⟨bo, oo + q * 4 + 3, none⟩ (.int .i64 kh)).drew bo oo n (fun j => if j = q then ri ix (iy + o) iw kh else f9 j) from HR8.out.put hqn (ri ix (iy + o) iw kh) (fun j => rfl))
      have HO7 := hide (show Only bo (bo + 1) Wm ((((W8.setCell ⟨bo, oo + q * 4, none⟩ (.int .i64 ix)).setCell ⟨bo, oo + q * 4 + 1, none⟩ (.int .i64 (iy + o))).setCell ⟨bo, oo + q * 4 + 2, none⟩ (.int .i64 iw)).setCell ⟨bo, oo + q * 4 + 3, none⟩ (.int .i64 kh)).drew from ((((HO8.out.set (Nat.le_refl _) (Nat.lt_succ_self _) _).set (Nat.le_refl _) (Nat.lt_succ_self _) _).set (Nat.le_refl _) (Nat.lt_succ_self _) _).set (Nat.le_refl _) (Nat.lt_succ_self _) _).drew)
      have HP7 := hide (HPn.out _ (fun j => rfl))
      generalize ((((W8.setCell ⟨bo, oo + q * 4, none⟩ (.int .i64 ix)).setCell ⟨bo, oo + q * 4 + 1, none⟩ (.int .i64 (iy + o))).setCell ⟨bo, oo + q * 4 + 2, none⟩ (.int .i64 iw)).setCell ⟨bo, oo + q * 4 + 3, none⟩ (.int .i64 kh)).drew = W7 at HR7 HO7 ⊢
      clear l0 l1 s0 s2 s5 g0 g1 g2 g3 e0 e1 e2 e3 hfd HR8 HO8 HR9 HP9 HO9 HPn
      obtain ⟨⟨l0, l1⟩, ⟨s0, s2⟩, s5⟩ := HC.out W7 HO7.out
      go_wp2
      go_roundw
      case rel => exact ⟨t + 1, _, _, by omega, by rw [DY.out]; congr 1; omega, by go_num, rfl, HR7, HP7, HO7⟩
      case measure => simp [intOf]; omega
    · obtain rfl : m = t := by omega
      have D := hide (show LaidW xs n root bo oo i m w (.returned (.tuple #[])) W9 from ⟨rfl, ⟨f9, HP9.out, HR9.out⟩, (Only.ofBelow HBm.out).trans HO9.out⟩)
      clear HR9 HP9 HO9
      go_wp2
      exact bodyPost_ret (v := .tuple #[]) (by simp [results, Try.results31]) rfl D.out
end Go.Proofs.Ythgliihdaockoaa
