/- Layout: the rectangles of all boxes: the program. Conditions: none. -/
import Derived.Test.YthgliihdaockoaaLayJ
namespace Go.Proofs.Ythgliihdaockoaa
open Go.RowKit
set_option linter.unusedVariables false
set_option linter.unusedSimpArgs false
/-- a new record with the rectangles of all boxes -/
def LaidP (xs : List Int) (n : Nat) (root : RectI) (w : World) (e : Ending) (w' : World) : Prop :=
  ∃ bl bo, e = .returned (.pointer (some ⟨bl, 0, none⟩)) ∧ w.heap.size ≤ bo ∧ w'.cell? ⟨bl, 1, none⟩ = some (.slice (some ⟨bo, 0, none⟩) n n) ∧ RR w' bo 0 n (rc xs n root) ∧ Below w.heap.size w w'
set_option maxRecDepth 100000 in
set_option maxHeartbeats 16000000 in
theorem implLayoutOf_any (B : Nat) (a : Option Addr) (n c : Nat) (xs : List Int) (wd ht : Int) (w : World) (hA : Ints .i64 w B a (n * 9) xs) (hB : B ≤ w.heap.size) (hT : TreeP xs n) (h1 : 0 ≤ wd ∧ wd ≤ 10000) (h2 : 0 ≤ ht ∧ ht ≤ 10000) :
    Calls Try.prog 20 #[.slice a n c, .int .i64 wd, .int .i64 ht] w (LaidP xs n (ri 0 0 wd ht) w) := by
  have hn16 := hT.hi
  have hnlo := hT.lo
  have hn0 : (0 : Int) < (n : Int) := by omega
  have HT := hide hT
  obtain ⟨b, off, rfl, hb9, -, -⟩ := hA.fldAt (by omega)
  obtain ⟨Wx, hWx⟩ : ∃ Wx, w.alloc (.cells (madeCells #[.int .i64 0, .int .i64 0, .int .i64 0, .int .i64 0] (n * 4)) 30) = Wx := ⟨_, rfl⟩
  have hmk := mk_Rects n (by omega) w
  have hRx := RR.made w n
  have hbx := (Below.refl w.heap.size w).alloc (Nat.le_refl _) (.cells (madeCells #[.int .i64 0, .int .i64 0, .int .i64 0, .int .i64 0] (n * 4)) 30)
  have hzx : (w.alloc (.cells (madeCells #[.int .i64 0, .int .i64 0, .int .i64 0, .int .i64 0] (n * 4)) 30)).heap.size = w.heap.size + 1 := by simp
  rw [hWx] at hmk hRx hbx hzx
  have HBx := hide hbx
  clear hWx hbx
  have hR0 := hRx.below ((Below.refl _ _).alloc (Nat.le_refl _) (.cells #[.slice (some ⟨b, off, none⟩) n c, .slice (some ⟨w.heap.size, 0, none⟩) n n] 49)) (show w.heap.size < Wx.heap.size by omega)
  have hL1 : (Wx.alloc (.cells #[.slice (some ⟨b, off, none⟩) n c, .slice (some ⟨w.heap.size, 0, none⟩) n n] 49)).heap[w.heap.size + 1]? = some (.cells #[.slice (some ⟨b, off, none⟩) n c, .slice (some ⟨w.heap.size, 0, none⟩) n n] 49 (0, 0)) := by
    have h := heap_alloc_new Wx (.cells #[.slice (some ⟨b, off, none⟩) n c, .slice (some ⟨w.heap.size, 0, none⟩) n n] 49)
    rw [hzx] at h
    exact h
  obtain ⟨x0, x1, x2, x3⟩ := hRx.get (show 0 < n by omega)
  obtain ⟨y0, y1, y2, y3⟩ := hRx.fr (show 0 < n by omega)
  have p0 : Wx.cell? ⟨w.heap.size, 0, none⟩ = some (.int .i64 0) := x0
  have p1 : Wx.cell? ⟨w.heap.size, 1, none⟩ = some (.int .i64 0) := x1
  have p2 : Wx.cell? ⟨w.heap.size, 2, none⟩ = some (.int .i64 0) := x2
  have p3 : Wx.cell? ⟨w.heap.size, 3, none⟩ = some (.int .i64 0) := x3
  have z0 : Wx.frozen? ⟨w.heap.size, 0, none⟩ = false := y0
  have z1 : Wx.frozen? ⟨w.heap.size, 1, none⟩ = false := y1
  have z2 : Wx.frozen? ⟨w.heap.size, 2, none⟩ = false := y2
  have z3 : Wx.frozen? ⟨w.heap.size, 3, none⟩ = false := y3
  clear x0 x1 x2 x3 y0 y1 y2 y3
  obtain ⟨r0, r1, r2, r3⟩ := hR0.get (show 0 < n by omega)
  obtain ⟨f0, f1, f2, f3⟩ := hR0.fr (show 0 < n by omega)
  have g0 : (Wx.alloc (.cells #[.slice (some ⟨b, off, none⟩) n c, .slice (some ⟨w.heap.size, 0, none⟩) n n] 49)).cell? ⟨w.heap.size, 0, none⟩ = some (.int .i64 0) := r0
  have g1 : (Wx.alloc (.cells #[.slice (some ⟨b, off, none⟩) n c, .slice (some ⟨w.heap.size, 0, none⟩) n n] 49)).cell? ⟨w.heap.size, 1, none⟩ = some (.int .i64 0) := r1
  have g2 : (Wx.alloc (.cells #[.slice (some ⟨b, off, none⟩) n c, .slice (some ⟨w.heap.size, 0, none⟩) n n] 49)).cell? ⟨w.heap.size, 2, none⟩ = some (.int .i64 0) := r2
  have g3 : (Wx.alloc (.cells #[.slice (some ⟨b, off, none⟩) n c, .slice (some ⟨w.heap.size, 0, none⟩) n n] 49)).cell? ⟨w.heap.size, 3, none⟩ = some (.int .i64 0) := r3
  have e0 : (Wx.alloc (.cells #[.slice (some ⟨b, off, none⟩) n c, .slice (some ⟨w.heap.size, 0, none⟩) n n] 49)).frozen? ⟨w.heap.size, 0, none⟩ = false := f0
  have e1 : (Wx.alloc (.cells #[.slice (some ⟨b, off, none⟩) n c, .slice (some ⟨w.heap.size, 0, none⟩) n n] 49)).frozen? ⟨w.heap.size, 1, none⟩ = false := f1
  have e2 : (Wx.alloc (.cells #[.slice (some ⟨b, off, none⟩) n c, .slice (some ⟨w.heap.size, 0, none⟩) n n] 49)).frozen? ⟨w.heap.size, 2, none⟩ = false := f2
  have e3 : (Wx.alloc (.cells #[.slice (some ⟨b, off, none⟩) n c, .slice (some ⟨w.heap.size, 0, none⟩) n n] 49)).frozen? ⟨w.heap.size, 3, none⟩ = false := f3
  have l1 : (Wx.alloc (.cells #[.slice (some ⟨b, off, none⟩) n c, .slice (some ⟨w.heap.size, 0, none⟩) n n] 49)).cell? ⟨w.heap.size + 1, 1, none⟩ = some (.slice (some ⟨w.heap.size, 0, none⟩) n n) := (cell_of_row _ _ 1 _ _ (0, 0) hL1).trans rfl
  have hR2 := hRx.put (show 0 < n by omega) (ri 0 0 wd ht) (f' := fun j => if j = 0 then ri 0 0 wd ht else ri 0 0 0 0) (fun j => rfl)
  have hz4 : ((((Wx.setCell ⟨w.heap.size, 0, none⟩ (.int .i64 0)).setCell ⟨w.heap.size, 1, none⟩ (.int .i64 0)).setCell ⟨w.heap.size, 2, none⟩ (.int .i64 wd)).setCell ⟨w.heap.size, 3, none⟩ (.int .i64 ht)).heap.size = w.heap.size + 1 := by simp [hzx]
  have hR2' : RR ((((Wx.setCell ⟨w.heap.size, 0, none⟩ (.int .i64 0)).setCell ⟨w.heap.size, 1, none⟩ (.int .i64 0)).setCell ⟨w.heap.size, 2, none⟩ (.int .i64 wd)).setCell ⟨w.heap.size, 3, none⟩ (.int .i64 ht)) w.heap.size 0 n (fun j => if j = 0 then ri 0 0 wd ht else ri 0 0 0 0) := hR2
  have HRs := hide (show RR (((((Wx.setCell ⟨w.heap.size, 0, none⟩ (.int .i64 0)).setCell ⟨w.heap.size, 1, none⟩ (.int .i64 0)).setCell ⟨w.heap.size, 2, none⟩ (.int .i64 wd)).setCell ⟨w.heap.size, 3, none⟩ (.int .i64 ht)).alloc (.cells #[.slice (some ⟨b, off, none⟩) n c, .slice (some ⟨w.heap.size, 0, none⟩) n n] 49)) w.heap.size 0 n (fun j => if j = 0 then ri 0 0 wd ht else ri 0 0 0 0) from hR2'.below ((Below.refl _ _).alloc (Nat.le_refl _) _) (by omega))
  have HLs := hide (show LyW (((((Wx.setCell ⟨w.heap.size, 0, none⟩ (.int .i64 0)).setCell ⟨w.heap.size, 1, none⟩ (.int .i64 0)).setCell ⟨w.heap.size, 2, none⟩ (.int .i64 wd)).setCell ⟨w.heap.size, 3, none⟩ (.int .i64 ht)).alloc (.cells #[.slice (some ⟨b, off, none⟩) n c, .slice (some ⟨w.heap.size, 0, none⟩) n n] 49)) (w.heap.size + 1) (some ⟨b, off, none⟩) n c w.heap.size 0 from by
    have h := heap_alloc_new ((((Wx.setCell ⟨w.heap.size, 0, none⟩ (.int .i64 0)).setCell ⟨w.heap.size, 1, none⟩ (.int .i64 0)).setCell ⟨w.heap.size, 2, none⟩ (.int .i64 wd)).setCell ⟨w.heap.size, 3, none⟩ (.int .i64 ht)) (.cells #[.slice (some ⟨b, off, none⟩) n c, .slice (some ⟨w.heap.size, 0, none⟩) n n] 49)
    rw [hz4] at h
    exact ⟨(cell_of_row _ _ 0 _ _ (0, 0) h).trans rfl, (cell_of_row _ _ 1 _ _ (0, 0) h).trans rfl⟩)
  have HBs := hide (show Below w.heap.size w (((((Wx.setCell ⟨w.heap.size, 0, none⟩ (.int .i64 0)).setCell ⟨w.heap.size, 1, none⟩ (.int .i64 0)).setCell ⟨w.heap.size, 2, none⟩ (.int .i64 wd)).setCell ⟨w.heap.size, 3, none⟩ (.int .i64 ht)).alloc (.cells #[.slice (some ⟨b, off, none⟩) n c, .slice (some ⟨w.heap.size, 0, none⟩) n n] 49)) from (set4_below0 HBx.out (Nat.le_refl _) _ _ _ _).alloc (by omega) _)
  have HPs := hide (show Laid xs n (ri 0 0 wd ht) 0 (fun j => if j = 0 then ri 0 0 wd ht else ri 0 0 0 0) from ⟨by rw [rc_zero]; rfl, fun j _ _ h => by omega⟩)
  have hzs : (((((Wx.setCell ⟨w.heap.size, 0, none⟩ (.int .i64 0)).setCell ⟨w.heap.size, 1, none⟩ (.int .i64 0)).setCell ⟨w.heap.size, 2, none⟩ (.int .i64 wd)).setCell ⟨w.heap.size, 3, none⟩ (.int .i64 ht)).alloc (.cells #[.slice (some ⟨b, off, none⟩) n c, .slice (some ⟨w.heap.size, 0, none⟩) n n] 49)).heap.size = w.heap.size + 2 := by simp [hzx]
  have HA := hide hA
  clear hA hT hR0 hRx hR2 hR2' hz4 hL1 r0 r1 r2 r3 f0 f1 f2 f3
  go_enter Try.func20, Try.ntmps20
  go_wp2
  generalize (((((Wx.setCell ⟨w.heap.size, 0, none⟩ (.int .i64 0)).setCell ⟨w.heap.size, 1, none⟩ (.int .i64 0)).setCell ⟨w.heap.size, 2, none⟩ (.int .i64 wd)).setCell ⟨w.heap.size, 3, none⟩ (.int .i64 ht)).alloc (.cells #[.slice (some ⟨b, off, none⟩) n c, .slice (some ⟨w.heap.size, 0, none⟩) n n] 49)) = Ws at HRs HLs HBs hzs ⊢
  clear g0 g1 g2 g3 e0 e1 e2 e3 l1 p0 p1 p2 p3 z0 z1 z2 z3 hmk HBx hzx
  have HAs := hide (fun W (h : Only w.heap.size (w.heap.size + 1) Ws W) => (HA.out.below HBs.out hB).only h hB (by omega))
  have HLy := hide (fun W (h : Only w.heap.size (w.heap.size + 1) Ws W) => HLs.out.only h (by omega))
  clear HLs HA
  go_loopw [8, 9, 10, 27] (fun _ _ _ s27 wr => ∃ (t : Nat) (W9 : World) (f9 : Nat → RectI), t ≤ n ∧ s27 = .int .i64 t ∧ W9 = wr ∧ Hid (RR W9 w.heap.size 0 n f9) ∧ Hid (Laid xs n (ri 0 0 wd ht) t f9) ∧ Hid (Only w.heap.size (w.heap.size + 1) Ws W9)) (fun _ _ _ s27 _ => n - (intOf s27).toNat)
  case atStart => exact ⟨0, _, _, Nat.zero_le _, rfl, rfl, HRs, HPs, hide (Only.refl _ _ _)⟩
  case round =>
    clear HRs HPs
    obtain ⟨t, W9, f9, htn, rfl, rfl, HR9, HP9, HO9⟩ := hrel
    have hz9 := HO9.out.size
    by_cases hlt : t < n
    · have hlt' : (t : Int) < (n : Int) := by omega
      obtain ⟨b', off', eb, -, q1, q2⟩ := (HAs.out W9 HO9.out).fldAt (by omega)
      injection eb with eb
      injection eb with eb1 eb2
      subst eb1 eb2
      have hnum := (HT.out.nums hlt).1
      have HNk := hide (fun (h : fld xs t 1 = 0) => HT.out.noKids hlt h)
      have hc0 := q1 t hlt
      have hc1 := q2 t 1 hlt (by omega)
      have hc2 := q2 t 2 hlt (by omega)
      have hc3 := q2 t 3 hlt (by omega)
      have hc4 := q2 t 4 hlt (by omega)
      have hc5 := q2 t 5 hlt (by omega)
      have hc6 := q2 t 6 hlt (by omega)
      have hc7 := q2 t 7 hlt (by omega)
      have hc8 := q2 t 8 hlt (by omega)
      obtain ⟨y, hy⟩ : ∃ y, par xs t = y := ⟨_, rfl⟩
      rw [hy] at hc0
      have HYc0 := hide hy
      clear hy
      obtain ⟨y1, hy1⟩ : ∃ y1, fld xs t 1 = y1 := ⟨_, rfl⟩
      rw [hy1] at hc1
      have HY1 := hide hy1
      clear hy1
      obtain ⟨y2, hy2⟩ : ∃ y2, fld xs t 2 = y2 := ⟨_, rfl⟩
      rw [hy2] at hc2
      have HY2 := hide hy2
      clear hy2
      obtain ⟨y3, hy3⟩ : ∃ y3, fld xs t 3 = y3 := ⟨_, rfl⟩
      rw [hy3] at hc3
      have HY3 := hide hy3
      clear hy3
      obtain ⟨y4, hy4⟩ : ∃ y4, fld xs t 4 = y4 := ⟨_, rfl⟩
      rw [hy4] at hc4
      have HY4 := hide hy4
      clear hy4
      obtain ⟨y5, hy5⟩ : ∃ y5, fld xs t 5 = y5 := ⟨_, rfl⟩
      rw [hy5] at hc5
      have HY5 := hide hy5
      clear hy5
      obtain ⟨y6, hy6⟩ : ∃ y6, fld xs t 6 = y6 := ⟨_, rfl⟩
      rw [hy6] at hc6
      have HY6 := hide hy6
      clear hy6
      obtain ⟨y7, hy7⟩ : ∃ y7, fld xs t 7 = y7 := ⟨_, rfl⟩
      rw [hy7] at hc7
      have HY7 := hide hy7
      clear hy7
      obtain ⟨y8, hy8⟩ : ∃ y8, fld xs t 8 = y8 := ⟨_, rfl⟩
      rw [hy8] at hc8
      have HY8 := hide hy8
      clear hy8
      clear q1 q2
      rw [HY1.out] at hnum HNk
      have HB3 := hide (show Below W9.heap.size W9 (W9.alloc (.cells #[.int .i64 y, .int .i64 y1, .int .i64 y2, .int .i64 y3, .int .i64 y4, .int .i64 y5, .int .i64 y6, .int .i64 y7, .int .i64 y8] 43)) from (Below.refl _ _).alloc (Nat.le_refl _) _)
      have hbx3 : (W9.alloc (.cells #[.int .i64 y, .int .i64 y1, .int .i64 y2, .int .i64 y3, .int .i64 y4, .int .i64 y5, .int .i64 y6, .int .i64 y7, .int .i64 y8] 43)).heap[W9.heap.size]? = some (.cells #[.int .i64 y, .int .i64 y1, .int .i64 y2, .int .i64 y3, .int .i64 y4, .int .i64 y5, .int .i64 y6, .int .i64 y7, .int .i64 y8] 43 (0, 0)) := heap_alloc_new W9 _
      have hz3 : (W9.alloc (.cells #[.int .i64 y, .int .i64 y1, .int .i64 y2, .int .i64 y3, .int .i64 y4, .int .i64 y5, .int .i64 y6, .int .i64 y7, .int .i64 y8] 43)).heap.size = W9.heap.size + 1 := by simp
      have HO3' := hide (HO9.out.trans (Only.ofBelow HB3.out))
      have HK := hide (implKidsL_any B (some ⟨b, off, none⟩) n c xs t (W9.alloc (.cells #[.int .i64 y, .int .i64 y1, .int .i64 y2, .int .i64 y3, .int .i64 y4, .int .i64 y5, .int .i64 y6, .int .i64 y7, .int .i64 y8] 43)) (HAs.out _ HO3'.out) (by omega) (by omega))
      go_wp2_with fail
      refine HK.out.mono ?_
      rintro e W3 ⟨A, m, cl, rfl, hrow, hb3⟩
      have HML := hide hrow.1
      have HRow := hide hrow
      have hbx := (hb3.block W9.heap.size (by omega)).trans hbx3
      have hcm : W3.cell? ⟨W9.heap.size, 1, none⟩ = some (.int .i64 y1) := (cell_of_row _ _ 1 _ _ (0, 0) hbx).trans rfl
      have HB9 := hide (HB3.out.trans (hb3.mono (by omega)))
      have HR3 := hide (HR9.out.below HB9.out (by omega))
      have HO3 := hide (HO9.out.trans (Only.ofBelow HB9.out))
      have HA3 := hide (HAs.out W3 HO3.out)
      have HLy3 := hide (HLy.out W3 HO3.out)
      have hm8 : m ≤ 8 := by have := HT.out.kidsLen hlt; have := HML.out; omega
      obtain ⟨lo, hlo0⟩ : ∃ lo, (W9.alloc (.cells #[.int .i64 y, .int .i64 y1, .int .i64 y2, .int .i64 y3, .int .i64 y4, .int .i64 y5, .int .i64 y6, .int .i64 y7, .int .i64 y8] 43)).heap.size = lo := ⟨_, rfl⟩
      rw [hlo0] at HRow
      have hlo : w.heap.size + 1 ≤ lo := by omega
      clear hrow hb3 hbx hbx3 HB3 HO3' HK HB9 hc0 hc1 hc2 hc3 hc4 hc5 hc6 hc7 hc8 hlo0 hz3
      have hcs : m = 0 ∨ (m ≠ 0 ∧ y1 = 1) ∨ (m ≠ 0 ∧ y1 = 2) ∨ (m ≠ 0 ∧ y1 = 3) := by
        by_cases h0 : m = 0
        · exact .inl h0
        · have : y1 ≠ 0 := fun h => h0 (by have h3 := HML.out; rw [HNk.out h] at h3; exact h3.symm)
          omega
      clear HNk
      rcases hcs with hm0 | ⟨hm0, hk⟩ | ⟨hm0, hk⟩ | ⟨hm0, hk⟩
      ·
        have hm0' : ((m : Int) == 0) = true := by simp [hm0]
        have HLk := hide (show Laid xs n (ri 0 0 wd ht) (t + 1) f9 from LaidK.done HT.out.pre (show LaidK xs n (ri 0 0 wd ht) t (kidsL xs n t).length f9 by rw [HML.out, hm0]; exact ⟨HP9.out, fun s hs => by omega⟩))
        clear hcm HR9 HP9 HO9 HRow
        go_wp2
        go_roundw
        case rel => exact ⟨t + 1, _, _, by omega, by go_num, rfl, HR3, HLk, HO3⟩
        case measure => simp [intOf]; omega
      ·
        have hm0' : ((m : Int) == 0) = false := by simp; omega
        have hk1 : (y1 == 1) = true := by simp; omega
        have hk3 : (y1 == 3) = false := by simp; omega
        have HCall := hide (block_any B b off n c xs (ri 0 0 wd ht) w.heap.size 0 (w.heap.size + 1) t A m cl lo W3.heap.size f9 W3 HT.out (root_ok h1 h2) (HA3.out) hB HLy3.out (by omega) HR3.out HRow.out hlo hlt (by omega) ⟨HP9.out, fun s hs => by omega⟩ (show fld xs t 1 ≠ 2 by rw [HY1.out]; omega) (show fld xs t 1 ≠ 3 by rw [HY1.out]; omega))
        have HDn := hide (fun f' (h : LaidK xs n (ri 0 0 wd ht) t m f') => (show Laid xs n (ri 0 0 wd ht) (t + 1) f' from LaidK.done HT.out.pre (by rw [HML.out]; exact h)))
        clear HR9 HP9 HO9 HRow
        go_wp2_with fail
        refine HCall.out.mono ?_
        rintro e W4 ⟨rfl, ⟨f', hf', hR'⟩, hO'⟩
        have HR4 := hide hR'
        have HP4 := hide (HDn.out f' hf')
        have HO4 := hide (HO3.out.trans hO')
        clear hf' hR' hO' HR3 HO3 HCall HDn hcm HLy3 HA3
        go_wp2
        go_roundw
        case rel => exact ⟨t + 1, _, _, by omega, by go_num, rfl, HR4, HP4, HO4⟩
        case measure => simp [intOf]; omega
      ·
        have hm0' : ((m : Int) == 0) = false := by simp; omega
        have hk1 : (y1 == 1) = false := by simp; omega
        have hk3 : (y1 == 3) = false := by simp; omega
        have HCall := hide (lineRow_any B b off n c xs (ri 0 0 wd ht) w.heap.size 0 (w.heap.size + 1) t A m cl lo W3.heap.size f9 W3 HT.out (root_ok h1 h2) (HA3.out) hB HLy3.out (by omega) HR3.out HRow.out hlo hlt (by omega) ⟨HP9.out, fun s hs => by omega⟩ (show fld xs t 1 = 2 by rw [HY1.out]; exact hk))
        have HDn := hide (fun f' (h : LaidK xs n (ri 0 0 wd ht) t m f') => (show Laid xs n (ri 0 0 wd ht) (t + 1) f' from LaidK.done HT.out.pre (by rw [HML.out]; exact h)))
        clear HR9 HP9 HO9 HRow
        go_wp2_with fail
        refine HCall.out.mono ?_
        rintro e W4 ⟨rfl, ⟨f', hf', hR'⟩, hO'⟩
        have HR4 := hide hR'
        have HP4 := hide (HDn.out f' hf')
        have HO4 := hide (HO3.out.trans hO')
        clear hf' hR' hO' HR3 HO3 HCall HDn hcm HLy3 HA3
        go_wp2
        go_roundw
        case rel => exact ⟨t + 1, _, _, by omega, by go_num, rfl, HR4, HP4, HO4⟩
        case measure => simp [intOf]; omega
      ·
        have hm0' : ((m : Int) == 0) = false := by simp; omega
        have hk1 : (y1 == 1) = false := by simp; omega
        have hk3 : (y1 == 3) = true := by simp; omega
        have HCall := hide (lineCol_any B b off n c xs (ri 0 0 wd ht) w.heap.size 0 (w.heap.size + 1) t A m cl lo W3.heap.size f9 W3 HT.out (root_ok h1 h2) (HA3.out) hB HLy3.out (by omega) HR3.out HRow.out hlo hlt (by omega) ⟨HP9.out, fun s hs => by omega⟩ (show fld xs t 1 = 3 by rw [HY1.out]; exact hk))
        have HDn := hide (fun f' (h : LaidK xs n (ri 0 0 wd ht) t m f') => (show Laid xs n (ri 0 0 wd ht) (t + 1) f' from LaidK.done HT.out.pre (by rw [HML.out]; exact h)))
        clear HR9 HP9 HO9 HRow
        go_wp2_with fail
        refine HCall.out.mono ?_
        rintro e W4 ⟨rfl, ⟨f', hf', hR'⟩, hO'⟩
        have HR4 := hide hR'
        have HP4 := hide (HDn.out f' hf')
        have HO4 := hide (HO3.out.trans hO')
        clear hf' hR' hO' HR3 HO3 HCall HDn hcm HLy3 HA3
        go_wp2
        go_roundw
        case rel => exact ⟨t + 1, _, _, by omega, by go_num, rfl, HR4, HP4, HO4⟩
        case measure => simp [intOf]; omega
    · obtain rfl : n = t := by omega
      have D := hide (show LaidP xs n (ri 0 0 wd ht) w (.returned (.pointer (some ⟨w.heap.size + 1, 0, none⟩))) W9 from
        ⟨w.heap.size + 1, w.heap.size, rfl, Nat.le_refl _, (HLy.out W9 HO9.out).2, HR9.out.congr (fun j hj => HP9.out.all HT.out.pre j hj), HBs.out.trans (HO9.out.below (Nat.le_refl _) (by omega))⟩)
      clear HR9 HP9 HO9
      go_wp2
      go_ret
      exact D.out
end Go.Proofs.Ythgliihdaockoaa
