/- Layout: the placing of a box and of all in it: the reference. Conditions: none. -/
import Derived.Test.YthgliihdaockoaaLayA
import Derived.Test.YthgliihdaockoaaLayU
import Derived.Deep.RegionHeld3
namespace Go.Proofs.Ythgliihdaockoaa
open Go.RowKit
set_option linter.unusedVariables false
set_option linter.unusedSimpArgs false
/-- what the placing of a box does -/
def Placed (xs : List Int) (n : Nat) (root : RectI) (bo oo i : Nat) (f : Nat → RectI) (w : World) (e : Ending) (w' : World) : Prop :=
  e = .returned (.tuple #[]) ∧ (∃ f', Put xs n root i f f' ∧ RR w' bo oo n f') ∧ Only bo (bo + 1) w w'
def PlaceIH (B : Nat) (a : Option Addr) (n c : Nat) (xs : List Int) (root : RectI) (bo oo co d : Nat) : Prop :=
  ∀ (i : Nat) (f : Nat → RectI) (w : World), Ints .i64 w B a (n * 9) xs → RR w bo oo n f → i < n → n - i ≤ d →
    Calls Try.prog 38 #[.slice a n c, .int .i64 i, RV (rc xs n root i), .slice (some ⟨bo, oo, none⟩) n co] w (Placed xs n root bo oo i f w)
set_option maxRecDepth 100000 in
set_option maxHeartbeats 16000000 in
theorem placeNone (B : Nat) (a : Option Addr) (n c : Nat) (xs : List Int) (root : RectI) (bo oo co : Nat) (hT : TreeP xs n) (hr : RcB 0 root) (hBo : B ≤ bo) (d i : Nat) (f : Nat → RectI) (w : World)
    (IH : PlaceIH B a n c xs root bo oo co d) (hA : Ints .i64 w B a (n * 9) xs) (hR : RR w bo oo n f) (hi : i < n) (hd : n - i ≤ d + 1) (hk : (kidsL xs n i).length = 0) :
    Calls Try.prog 38 #[.slice a n c, .int .i64 i, RV (rc xs n root i), .slice (some ⟨bo, oo, none⟩) n co] w (Placed xs n root bo oo i f w) := by
  have IHh := hide IH
  clear IH
  have hn16 := hT.hi
  have hin : (i : Int) < (n : Int) := by omega
  have hbw : bo < w.heap.size := hR.lt (by omega)
  have HT := hide hT
  have HRB := hide (rc_ok hT hr hi)
  have hnum := hT.nums hi
  obtain ⟨⟨x, y0, u, v⟩, hRe⟩ : ∃ R, rc xs n root i = R := ⟨_, rfl⟩
  rw [hRe] at HRB
  have HRe := hide (show rc xs n root i = ri x y0 u v from hRe)
  have hRb := HRB.out
  have hx : 0 ≤ x ∧ x ≤ 50250 := ⟨hRb.x0, by have := hRb.x1; simpa using this⟩
  have hy : 0 ≤ y0 ∧ y0 ≤ 50250 := ⟨hRb.y0, by have := hRb.y1; simpa using this⟩
  have hu : 0 ≤ u ∧ u ≤ 10000 := ⟨hRb.w0, hRb.w1⟩
  have hv : 0 ≤ v ∧ v ≤ 10000 := ⟨hRb.h0, hRb.h1⟩
  have HF1 := hide (PutK.start (xs := xs) (n := n) (root := root) (i := i) (f := f) (f' := fun j => if j = i then ri x y0 u v else f j) (fun j => by rw [HRe.out]))
  rw [hRe]
  obtain ⟨b, off, rfl, hb9, h1, h2⟩ := hA.fldAt (by omega)
  have hc0 := h1 i hi
  have hc1 := h2 i 1 hi (by omega)
  have hc2 := h2 i 2 hi (by omega)
  have hc3 := h2 i 3 hi (by omega)
  have hc4 := h2 i 4 hi (by omega)
  have hc5 := h2 i 5 hi (by omega)
  have hc6 := h2 i 6 hi (by omega)
  have hc7 := h2 i 7 hi (by omega)
  have hc8 := h2 i 8 hi (by omega)
  obtain ⟨y, hy⟩ : ∃ y, par xs i = y := ⟨_, rfl⟩
  rw [hy] at hc0
  have HYc0 := hide hy
  clear hy
  obtain ⟨y1, hy1⟩ : ∃ y1, fld xs i 1 = y1 := ⟨_, rfl⟩
  rw [hy1] at hc1
  have HY1 := hide hy1
  clear hy1
  obtain ⟨y2, hy2⟩ : ∃ y2, fld xs i 2 = y2 := ⟨_, rfl⟩
  rw [hy2] at hc2
  have HY2 := hide hy2
  clear hy2
  obtain ⟨y3, hy3⟩ : ∃ y3, fld xs i 3 = y3 := ⟨_, rfl⟩
  rw [hy3] at hc3
  have HY3 := hide hy3
  clear hy3
  obtain ⟨y4, hy4⟩ : ∃ y4, fld xs i 4 = y4 := ⟨_, rfl⟩
  rw [hy4] at hc4
  have HY4 := hide hy4
  clear hy4
  obtain ⟨y5, hy5⟩ : ∃ y5, fld xs i 5 = y5 := ⟨_, rfl⟩
  rw [hy5] at hc5
  have HY5 := hide hy5
  clear hy5
  obtain ⟨y6, hy6⟩ : ∃ y6, fld xs i 6 = y6 := ⟨_, rfl⟩
  rw [hy6] at hc6
  have HY6 := hide hy6
  clear hy6
  obtain ⟨y7, hy7⟩ : ∃ y7, fld xs i 7 = y7 := ⟨_, rfl⟩
  rw [hy7] at hc7
  have HY7 := hide hy7
  clear hy7
  obtain ⟨y8, hy8⟩ : ∃ y8, fld xs i 8 = y8 := ⟨_, rfl⟩
  rw [hy8] at hc8
  have HY8 := hide hy8
  clear hy8
  clear h1 h2 hRe hRb hT
  obtain ⟨g0, g1, g2, g3⟩ := hR.get hi
  obtain ⟨q0, q1, q2, q3⟩ := hR.fr hi
  obtain ⟨-, -, -, hpad, hgap, -, -, hjust, -⟩ := hnum
  rw [HY4.out] at hpad
  rw [HY5.out] at hgap
  rw [HY8.out] at hjust
  show Calls Try.prog 38 #[.slice (some ⟨b, off, none⟩) n c, .int .i64 i, .agg #[.int .i64 x, .int .i64 y0, .int .i64 u, .int .i64 v], .slice (some ⟨bo, oo, none⟩) n co] w _
  have hB1 := hide (show Below w.heap.size w (w.alloc (.cells #[.int .i64 x, .int .i64 y0, .int .i64 u, .int .i64 v] 30)) from (Below.refl _ _).alloc (Nat.le_refl _) _)
  have hB2 := hide (show Below w.heap.size w ((w.alloc (.cells #[.int .i64 x, .int .i64 y0, .int .i64 u, .int .i64 v] 30)).alloc (.cells #[.int .i64 y, .int .i64 y1, .int .i64 y2, .int .i64 y3, .int .i64 y4, .int .i64 y5, .int .i64 y6, .int .i64 y7, .int .i64 y8] 43)) from ((Below.refl _ _).alloc (Nat.le_refl _) _).alloc (by simp) _)
  have hd0 := (hB1.out.cell (p := ⟨b, off + i * 9, none⟩) (by show b < w.heap.size; omega)).trans hc0
  have hd1 := (hB1.out.cell (p := ⟨b, off + i * 9 + 1, none⟩) (by show b < w.heap.size; omega)).trans hc1
  have hd2 := (hB1.out.cell (p := ⟨b, off + i * 9 + 2, none⟩) (by show b < w.heap.size; omega)).trans hc2
  have hd3 := (hB1.out.cell (p := ⟨b, off + i * 9 + 3, none⟩) (by show b < w.heap.size; omega)).trans hc3
  have hd4 := (hB1.out.cell (p := ⟨b, off + i * 9 + 4, none⟩) (by show b < w.heap.size; omega)).trans hc4
  have hd5 := (hB1.out.cell (p := ⟨b, off + i * 9 + 5, none⟩) (by show b < w.heap.size; omega)).trans hc5
  have hd6 := (hB1.out.cell (p := ⟨b, off + i * 9 + 6, none⟩) (by show b < w.heap.size; omega)).trans hc6
  have hd7 := (hB1.out.cell (p := ⟨b, off + i * 9 + 7, none⟩) (by show b < w.heap.size; omega)).trans hc7
  have hd8 := (hB1.out.cell (p := ⟨b, off + i * 9 + 8, none⟩) (by show b < w.heap.size; omega)).trans hc8
  have e0 := (hB2.out.cell (p := ⟨bo, oo + i * 4, none⟩) (by show bo < w.heap.size; omega)).trans g0
  have k0 := (hB2.out.frozen (p := ⟨bo, oo + i * 4, none⟩) (by show bo < w.heap.size; omega)).trans q0
  have e1 := (hB2.out.cell (p := ⟨bo, oo + i * 4 + 1, none⟩) (by show bo < w.heap.size; omega)).trans g1
  have k1 := (hB2.out.frozen (p := ⟨bo, oo + i * 4 + 1, none⟩) (by show bo < w.heap.size; omega)).trans q1
  have e2 := (hB2.out.cell (p := ⟨bo, oo + i * 4 + 2, none⟩) (by show bo < w.heap.size; omega)).trans g2
  have k2 := (hB2.out.frozen (p := ⟨bo, oo + i * 4 + 2, none⟩) (by show bo < w.heap.size; omega)).trans q2
  have e3 := (hB2.out.cell (p := ⟨bo, oo + i * 4 + 3, none⟩) (by show bo < w.heap.size; omega)).trans g3
  have k3 := (hB2.out.frozen (p := ⟨bo, oo + i * 4 + 3, none⟩) (by show bo < w.heap.size; omega)).trans q3
  obtain ⟨⟨ix, iy, iw, ih⟩, hI⟩ : ∃ I, insetR (ri x y0 u v) y4 = I := ⟨_, rfl⟩
  have hib := insetR_bd (d := 5) (r := ri x y0 u v) (pad := y4) HRB.out hpad
  rw [hI] at hib
  have HI := hide (show insetR (ri x y0 u v) y4 = ri ix iy iw ih from hI)
  have hix : 0 ≤ ix ∧ ix ≤ 50300 := ⟨hib.x0, by have := hib.x1; simpa using this⟩
  have hiy : 0 ≤ iy ∧ iy ≤ 50300 := ⟨hib.y0, by have := hib.y1; simpa using this⟩
  have hiw : 0 ≤ iw ∧ iw ≤ 10000 := ⟨hib.w0, hib.w1⟩
  have hih : 0 ≤ ih ∧ ih ≤ 10000 := ⟨hib.h0, hib.h1⟩
  have HIn := hide (fun W => (show Calls Try.prog 49 #[.agg #[.int .i64 x, .int .i64 y0, .int .i64 u, .int .i64 v], .int .i64 y4] W fun e w' => e = .returned (.agg #[.int .i64 ix, .int .i64 iy, .int .i64 iw, .int .i64 ih]) ∧ Below W.heap.size W w' from by
    have h := specInset_any x y0 u v y4 W (by omega) (by omega) hu hv hpad
    rw [hI] at h
    exact h))
  clear hib hI
  obtain ⟨X, hX⟩ : ∃ X, ((((w.setCell ⟨bo, oo + i * 4, none⟩ (.int .i64 x)).setCell ⟨bo, oo + i * 4 + 1, none⟩ (.int .i64 y0)).setCell ⟨bo, oo + i * 4 + 2, none⟩ (.int .i64 u)).setCell ⟨bo, oo + i * 4 + 3, none⟩ (.int .i64 v)) = X := ⟨_, rfl⟩
  have HRX := hide (show RR X bo oo n (fun j => if j = i then ri x y0 u v else f j) by rw [← hX]; exact hR.put hi (ri x y0 u v) (fun j => rfl))
  have HOX := hide (show Only bo (bo + 1) w X by rw [← hX]; exact (((((Only.refl _ _ _).set (Nat.le_refl _) (by omega) _).set (Nat.le_refl _) (by omega) _).set (Nat.le_refl _) (by omega) _).set (Nat.le_refl _) (by omega) _))
  have hzX : X.heap.size = w.heap.size := by rw [← hX]; simp
  have HX := hide hX
  clear hX
  have HAo := hide (fun W (h : Only bo (bo + 1) w W) => hA.only h hBo (by omega))
  clear hA hR
  go_enter Try.func38, Try.ntmps38
  go_wp2_with fail
  rw [HX.out]
  clear HX hd0 hd1 hd2 hd3 hd4 hd5 hd6 hd7 hd8 hc0 hc1 hc2 hc3 hc4 hc5 hc6 hc7 hc8 e0 e1 e2 e3 k0 k1 k2 k3 g0 g1 g2 g3 q0 q1 q2 q3 hB1 hB2
  have HBa : Below X.heap.size X ((X.alloc (.cells #[.int .i64 x, .int .i64 y0, .int .i64 u, .int .i64 v] 30)).alloc (.cells #[.int .i64 y, .int .i64 y1, .int .i64 y2, .int .i64 y3, .int .i64 y4, .int .i64 y5, .int .i64 y6, .int .i64 y7, .int .i64 y8] 43)) := ((Below.refl _ _).alloc (Nat.le_refl _) _).alloc (by simp) _
  have hBx : ((X.alloc (.cells #[.int .i64 x, .int .i64 y0, .int .i64 u, .int .i64 v] 30)).alloc (.cells #[.int .i64 y, .int .i64 y1, .int .i64 y2, .int .i64 y3, .int .i64 y4, .int .i64 y5, .int .i64 y6, .int .i64 y7, .int .i64 y8] 43)).heap[w.heap.size + 1]? = some (.cells #[.int .i64 y, .int .i64 y1, .int .i64 y2, .int .i64 y3, .int .i64 y4, .int .i64 y5, .int .i64 y6, .int .i64 y7, .int .i64 y8] 43 (0, 0)) := by have h := heap_alloc_new (X.alloc (.cells #[.int .i64 x, .int .i64 y0, .int .i64 u, .int .i64 v] 30)) (.cells #[.int .i64 y, .int .i64 y1, .int .i64 y2, .int .i64 y3, .int .i64 y4, .int .i64 y5, .int .i64 y6, .int .i64 y7, .int .i64 y8] 43); simp only [World.size_alloc, hzX] at h; exact h
  have hza : ((X.alloc (.cells #[.int .i64 x, .int .i64 y0, .int .i64 u, .int .i64 v] 30)).alloc (.cells #[.int .i64 y, .int .i64 y1, .int .i64 y2, .int .i64 y3, .int .i64 y4, .int .i64 y5, .int .i64 y6, .int .i64 y7, .int .i64 y8] 43)).heap.size = w.heap.size + 2 := by simp [hzX]
  generalize ((X.alloc (.cells #[.int .i64 x, .int .i64 y0, .int .i64 u, .int .i64 v] 30)).alloc (.cells #[.int .i64 y, .int .i64 y1, .int .i64 y2, .int .i64 y3, .int .i64 y4, .int .i64 y5, .int .i64 y6, .int .i64 y7, .int .i64 y8] 43)) = Wa at HBa hBx hza ⊢
  have HRa := hide (HRX.out.below HBa (by omega))
  have HOa := hide (HOX.out.trans (Only.ofBelow HBa))
  clear HBa HRX HOX hzX
  refine (HIn.out Wa).mono ?_
  rintro e W3 ⟨rfl, hb3⟩
  have hz3 := hb3.size
  have HB4 : Below Wa.heap.size Wa (W3.alloc (.cells #[.int .i64 ix, .int .i64 iy, .int .i64 iw, .int .i64 ih] 30)) := hb3.alloc hz3 _
  have hIn : (W3.alloc (.cells #[.int .i64 ix, .int .i64 iy, .int .i64 iw, .int .i64 ih] 30)).heap[W3.heap.size]? = some (.cells #[.int .i64 ix, .int .i64 iy, .int .i64 iw, .int .i64 ih] 30 (0, 0)) := heap_alloc_new W3 _
  have hBx4 := (HB4.block (w.heap.size + 1) (by omega)).trans hBx
  have HR4 := hide (HRa.out.below HB4 (by omega))
  have HO4 := hide (HOa.out.trans (Only.ofBelow HB4))
  have hz4 : (W3.alloc (.cells #[.int .i64 ix, .int .i64 iy, .int .i64 iw, .int .i64 ih] 30)).heap.size = W3.heap.size + 1 := by simp
  have hi5 : (W3.alloc (.cells #[.int .i64 ix, .int .i64 iy, .int .i64 iw, .int .i64 ih] 30)).cell? ⟨w.heap.size + 1, 4, none⟩ = some (.int .i64 y4) := by rw [cell_of_row _ _ 4 _ _ (0, 0) hBx4]; rfl
  have hc1 : (W3.alloc (.cells #[.int .i64 ix, .int .i64 iy, .int .i64 iw, .int .i64 ih] 30)).cell? ⟨w.heap.size + 1, 1, none⟩ = some (.int .i64 y1) := by rw [cell_of_row _ _ 1 _ _ (0, 0) hBx4]; rfl
  have HK := hide (specKidsL_any B (some ⟨b, off, none⟩) n c xs i (W3.alloc (.cells #[.int .i64 ix, .int .i64 iy, .int .i64 iw, .int .i64 ih] 30)) (HAo.out _ HO4.out) (by have := HO4.out.size; omega) (by omega) hi HT.out.pre)
  clear HRa HOa HIn hBx hb3 HB4
  obtain ⟨z, hz⟩ : ∃ z, W3.heap.size = z := ⟨_, rfl⟩
  rw [hz] at hIn hz4 hz3
  go_wp2_with fail
  refine HK.out.mono ?_
  rintro e Wm ⟨A, m, c', rfl, hrow, hbm⟩
  have HRm := hide (HR4.out.below hbm (by omega))
  have HOm := hide (HO4.out.trans (Only.ofBelow hbm))
  have HAm := hide (fun W (h : Only bo (bo + 1) Wm W) => HAo.out W (HOm.out.trans h))
  have hzm := hbm.size
  have hBxm := (hbm.block (w.heap.size + 1) (by omega)).trans hBx4
  have hInm := (hbm.block z (by omega)).trans hIn
  have HC := hide (fun W (h : Only bo (bo + 1) Wm W) => (show (W.cell? ⟨w.heap.size + 1, 1, none⟩ = some (.int .i64 y1) ∧ W.cell? ⟨w.heap.size + 1, 5, none⟩ = some (.int .i64 y5) ∧ W.cell? ⟨w.heap.size + 1, 8, none⟩ = some (.int .i64 y8)) ∧ W.cell? ⟨z, 0, none⟩ = some (.int .i64 ix) ∧ W.cell? ⟨z, 1, none⟩ = some (.int .i64 iy) ∧ W.cell? ⟨z, 2, none⟩ = some (.int .i64 iw) ∧ W.cell? ⟨z, 3, none⟩ = some (.int .i64 ih) from by
    have h1 := (h.block (w.heap.size + 1) (by omega) (by omega)).trans hBxm
    have h2 := (h.block z (by omega) (by omega)).trans hInm
    exact ⟨⟨by rw [cell_of_row _ _ 1 _ _ (0, 0) h1]; rfl, by rw [cell_of_row _ _ 5 _ _ (0, 0) h1]; rfl, by rw [cell_of_row _ _ 8 _ _ (0, 0) h1]; rfl⟩, by rw [cell_of_row _ _ 0 _ _ (0, 0) h2]; rfl, by rw [cell_of_row _ _ 1 _ _ (0, 0) h2]; rfl, by rw [cell_of_row _ _ 2 _ _ (0, 0) h2]; rfl, by rw [cell_of_row _ _ 3 _ _ (0, 0) h2]; rfl⟩))
  have hlo : bo + 1 ≤ (W3.alloc (.cells #[.int .i64 ix, .int .i64 iy, .int .i64 iw, .int .i64 ih] 30)).heap.size := by omega
  obtain ⟨lo, hloe⟩ : ∃ lo, (W3.alloc (.cells #[.int .i64 ix, .int .i64 iy, .int .i64 iw, .int .i64 ih] 30)).heap.size = lo := ⟨_, rfl⟩
  rw [hloe] at hrow hlo hzm hz4
  have HL := hide (fun W (h : Only bo (bo + 1) Wm W) => hrow.far h (.inr hlo))
  have HML := hide hrow.1
  have hzw : bo < Wm.heap.size ∧ z < Wm.heap.size ∧ w.heap.size + 1 < Wm.heap.size ∧ w.heap.size + 2 ≤ z := by omega
  clear hrow hbm hIn hBx4 hi5 hc1 HK HR4 HO4 hBxm hInm hloe hz hza hz3 hz4
  have hm0 : m = 0 := by rw [← HML.out, hk]
  subst hm0
  have D := hide (show Placed xs n root bo oo i f w (.returned (.tuple #[])) Wm from ⟨rfl, ⟨_, by have h := HF1.out; exact PutK.done (by rw [hk]; exact h), HRm.out⟩, HOm.out⟩)
  go_wp2
  exact bodyPost_ret (v := .tuple #[]) (by simp [results, Try.results38]) rfl D.out
set_option maxRecDepth 100000 in
set_option maxHeartbeats 16000000 in
theorem placeRow (B : Nat) (a : Option Addr) (n c : Nat) (xs : List Int) (root : RectI) (bo oo co : Nat) (hT : TreeP xs n) (hr : RcB 0 root) (hBo : B ≤ bo) (d i : Nat) (f : Nat → RectI) (w : World)
    (IH : PlaceIH B a n c xs root bo oo co d) (hA : Ints .i64 w B a (n * 9) xs) (hR : RR w bo oo n f) (hi : i < n) (hd : n - i ≤ d + 1) (hm : (kidsL xs n i).length ≠ 0) (hk : fld xs i 1 = 2) :
    Calls Try.prog 38 #[.slice a n c, .int .i64 i, RV (rc xs n root i), .slice (some ⟨bo, oo, none⟩) n co] w (Placed xs n root bo oo i f w) := by
  have IHh := hide IH
  clear IH
  have hn16 := hT.hi
  have hin : (i : Int) < (n : Int) := by omega
  have hbw : bo < w.heap.size := hR.lt (by omega)
  have HT := hide hT
  have HRB := hide (rc_ok hT hr hi)
  have hnum := hT.nums hi
  obtain ⟨⟨x, y0, u, v⟩, hRe⟩ : ∃ R, rc xs n root i = R := ⟨_, rfl⟩
  rw [hRe] at HRB
  have HRe := hide (show rc xs n root i = ri x y0 u v from hRe)
  have hRb := HRB.out
  have hx : 0 ≤ x ∧ x ≤ 50250 := ⟨hRb.x0, by have := hRb.x1; simpa using this⟩
  have hy : 0 ≤ y0 ∧ y0 ≤ 50250 := ⟨hRb.y0, by have := hRb.y1; simpa using this⟩
  have hu : 0 ≤ u ∧ u ≤ 10000 := ⟨hRb.w0, hRb.w1⟩
  have hv : 0 ≤ v ∧ v ≤ 10000 := ⟨hRb.h0, hRb.h1⟩
  have HF1 := hide (PutK.start (xs := xs) (n := n) (root := root) (i := i) (f := f) (f' := fun j => if j = i then ri x y0 u v else f j) (fun j => by rw [HRe.out]))
  rw [hRe]
  obtain ⟨b, off, rfl, hb9, h1, h2⟩ := hA.fldAt (by omega)
  have hc0 := h1 i hi
  have hc1 := h2 i 1 hi (by omega)
  have hc2 := h2 i 2 hi (by omega)
  have hc3 := h2 i 3 hi (by omega)
  have hc4 := h2 i 4 hi (by omega)
  have hc5 := h2 i 5 hi (by omega)
  have hc6 := h2 i 6 hi (by omega)
  have hc7 := h2 i 7 hi (by omega)
  have hc8 := h2 i 8 hi (by omega)
  obtain ⟨y, hy⟩ : ∃ y, par xs i = y := ⟨_, rfl⟩
  rw [hy] at hc0
  have HYc0 := hide hy
  clear hy
  obtain ⟨y1, hy1⟩ : ∃ y1, fld xs i 1 = y1 := ⟨_, rfl⟩
  rw [hy1] at hc1
  have HY1 := hide hy1
  clear hy1
  obtain ⟨y2, hy2⟩ : ∃ y2, fld xs i 2 = y2 := ⟨_, rfl⟩
  rw [hy2] at hc2
  have HY2 := hide hy2
  clear hy2
  obtain ⟨y3, hy3⟩ : ∃ y3, fld xs i 3 = y3 := ⟨_, rfl⟩
  rw [hy3] at hc3
  have HY3 := hide hy3
  clear hy3
  obtain ⟨y4, hy4⟩ : ∃ y4, fld xs i 4 = y4 := ⟨_, rfl⟩
  rw [hy4] at hc4
  have HY4 := hide hy4
  clear hy4
  obtain ⟨y5, hy5⟩ : ∃ y5, fld xs i 5 = y5 := ⟨_, rfl⟩
  rw [hy5] at hc5
  have HY5 := hide hy5
  clear hy5
  obtain ⟨y6, hy6⟩ : ∃ y6, fld xs i 6 = y6 := ⟨_, rfl⟩
  rw [hy6] at hc6
  have HY6 := hide hy6
  clear hy6
  obtain ⟨y7, hy7⟩ : ∃ y7, fld xs i 7 = y7 := ⟨_, rfl⟩
  rw [hy7] at hc7
  have HY7 := hide hy7
  clear hy7
  obtain ⟨y8, hy8⟩ : ∃ y8, fld xs i 8 = y8 := ⟨_, rfl⟩
  rw [hy8] at hc8
  have HY8 := hide hy8
  clear hy8
  clear h1 h2 hRe hRb hT
  obtain ⟨g0, g1, g2, g3⟩ := hR.get hi
  obtain ⟨q0, q1, q2, q3⟩ := hR.fr hi
  obtain ⟨-, -, -, hpad, hgap, -, -, hjust, -⟩ := hnum
  rw [HY4.out] at hpad
  rw [HY5.out] at hgap
  rw [HY8.out] at hjust
  show Calls Try.prog 38 #[.slice (some ⟨b, off, none⟩) n c, .int .i64 i, .agg #[.int .i64 x, .int .i64 y0, .int .i64 u, .int .i64 v], .slice (some ⟨bo, oo, none⟩) n co] w _
  have hB1 := hide (show Below w.heap.size w (w.alloc (.cells #[.int .i64 x, .int .i64 y0, .int .i64 u, .int .i64 v] 30)) from (Below.refl _ _).alloc (Nat.le_refl _) _)
  have hB2 := hide (show Below w.heap.size w ((w.alloc (.cells #[.int .i64 x, .int .i64 y0, .int .i64 u, .int .i64 v] 30)).alloc (.cells #[.int .i64 y, .int .i64 y1, .int .i64 y2, .int .i64 y3, .int .i64 y4, .int .i64 y5, .int .i64 y6, .int .i64 y7, .int .i64 y8] 43)) from ((Below.refl _ _).alloc (Nat.le_refl _) _).alloc (by simp) _)
  have hd0 := (hB1.out.cell (p := ⟨b, off + i * 9, none⟩) (by show b < w.heap.size; omega)).trans hc0
  have hd1 := (hB1.out.cell (p := ⟨b, off + i * 9 + 1, none⟩) (by show b < w.heap.size; omega)).trans hc1
  have hd2 := (hB1.out.cell (p := ⟨b, off + i * 9 + 2, none⟩) (by show b < w.heap.size; omega)).trans hc2
  have hd3 := (hB1.out.cell (p := ⟨b, off + i * 9 + 3, none⟩) (by show b < w.heap.size; omega)).trans hc3
  have hd4 := (hB1.out.cell (p := ⟨b, off + i * 9 + 4, none⟩) (by show b < w.heap.size; omega)).trans hc4
  have hd5 := (hB1.out.cell (p := ⟨b, off + i * 9 + 5, none⟩) (by show b < w.heap.size; omega)).trans hc5
  have hd6 := (hB1.out.cell (p := ⟨b, off + i * 9 + 6, none⟩) (by show b < w.heap.size; omega)).trans hc6
  have hd7 := (hB1.out.cell (p := ⟨b, off + i * 9 + 7, none⟩) (by show b < w.heap.size; omega)).trans hc7
  have hd8 := (hB1.out.cell (p := ⟨b, off + i * 9 + 8, none⟩) (by show b < w.heap.size; omega)).trans hc8
  have e0 := (hB2.out.cell (p := ⟨bo, oo + i * 4, none⟩) (by show bo < w.heap.size; omega)).trans g0
  have k0 := (hB2.out.frozen (p := ⟨bo, oo + i * 4, none⟩) (by show bo < w.heap.size; omega)).trans q0
  have e1 := (hB2.out.cell (p := ⟨bo, oo + i * 4 + 1, none⟩) (by show bo < w.heap.size; omega)).trans g1
  have k1 := (hB2.out.frozen (p := ⟨bo, oo + i * 4 + 1, none⟩) (by show bo < w.heap.size; omega)).trans q1
  have e2 := (hB2.out.cell (p := ⟨bo, oo + i * 4 + 2, none⟩) (by show bo < w.heap.size; omega)).trans g2
  have k2 := (hB2.out.frozen (p := ⟨bo, oo + i * 4 + 2, none⟩) (by show bo < w.heap.size; omega)).trans q2
  have e3 := (hB2.out.cell (p := ⟨bo, oo + i * 4 + 3, none⟩) (by show bo < w.heap.size; omega)).trans g3
  have k3 := (hB2.out.frozen (p := ⟨bo, oo + i * 4 + 3, none⟩) (by show bo < w.heap.size; omega)).trans q3
  obtain ⟨⟨ix, iy, iw, ih⟩, hI⟩ : ∃ I, insetR (ri x y0 u v) y4 = I := ⟨_, rfl⟩
  have hib := insetR_bd (d := 5) (r := ri x y0 u v) (pad := y4) HRB.out hpad
  rw [hI] at hib
  have HI := hide (show insetR (ri x y0 u v) y4 = ri ix iy iw ih from hI)
  have hix : 0 ≤ ix ∧ ix ≤ 50300 := ⟨hib.x0, by have := hib.x1; simpa using this⟩
  have hiy : 0 ≤ iy ∧ iy ≤ 50300 := ⟨hib.y0, by have := hib.y1; simpa using this⟩
  have hiw : 0 ≤ iw ∧ iw ≤ 10000 := ⟨hib.w0, hib.w1⟩
  have hih : 0 ≤ ih ∧ ih ≤ 10000 := ⟨hib.h0, hib.h1⟩
  have HIn := hide (fun W => (show Calls Try.prog 49 #[.agg #[.int .i64 x, .int .i64 y0, .int .i64 u, .int .i64 v], .int .i64 y4] W fun e w' => e = .returned (.agg #[.int .i64 ix, .int .i64 iy, .int .i64 iw, .int .i64 ih]) ∧ Below W.heap.size W w' from by
    have h := specInset_any x y0 u v y4 W (by omega) (by omega) hu hv hpad
    rw [hI] at h
    exact h))
  clear hib hI
  obtain ⟨X, hX⟩ : ∃ X, ((((w.setCell ⟨bo, oo + i * 4, none⟩ (.int .i64 x)).setCell ⟨bo, oo + i * 4 + 1, none⟩ (.int .i64 y0)).setCell ⟨bo, oo + i * 4 + 2, none⟩ (.int .i64 u)).setCell ⟨bo, oo + i * 4 + 3, none⟩ (.int .i64 v)) = X := ⟨_, rfl⟩
  have HRX := hide (show RR X bo oo n (fun j => if j = i then ri x y0 u v else f j) by rw [← hX]; exact hR.put hi (ri x y0 u v) (fun j => rfl))
  have HOX := hide (show Only bo (bo + 1) w X by rw [← hX]; exact (((((Only.refl _ _ _).set (Nat.le_refl _) (by omega) _).set (Nat.le_refl _) (by omega) _).set (Nat.le_refl _) (by omega) _).set (Nat.le_refl _) (by omega) _))
  have hzX : X.heap.size = w.heap.size := by rw [← hX]; simp
  have HX := hide hX
  clear hX
  have HAo := hide (fun W (h : Only bo (bo + 1) w W) => hA.only h hBo (by omega))
  clear hA hR
  go_enter Try.func38, Try.ntmps38
  go_wp2_with fail
  rw [HX.out]
  clear HX hd0 hd1 hd2 hd3 hd4 hd5 hd6 hd7 hd8 hc0 hc1 hc2 hc3 hc4 hc5 hc6 hc7 hc8 e0 e1 e2 e3 k0 k1 k2 k3 g0 g1 g2 g3 q0 q1 q2 q3 hB1 hB2
  have HBa : Below X.heap.size X ((X.alloc (.cells #[.int .i64 x, .int .i64 y0, .int .i64 u, .int .i64 v] 30)).alloc (.cells #[.int .i64 y, .int .i64 y1, .int .i64 y2, .int .i64 y3, .int .i64 y4, .int .i64 y5, .int .i64 y6, .int .i64 y7, .int .i64 y8] 43)) := ((Below.refl _ _).alloc (Nat.le_refl _) _).alloc (by simp) _
  have hBx : ((X.alloc (.cells #[.int .i64 x, .int .i64 y0, .int .i64 u, .int .i64 v] 30)).alloc (.cells #[.int .i64 y, .int .i64 y1, .int .i64 y2, .int .i64 y3, .int .i64 y4, .int .i64 y5, .int .i64 y6, .int .i64 y7, .int .i64 y8] 43)).heap[w.heap.size + 1]? = some (.cells #[.int .i64 y, .int .i64 y1, .int .i64 y2, .int .i64 y3, .int .i64 y4, .int .i64 y5, .int .i64 y6, .int .i64 y7, .int .i64 y8] 43 (0, 0)) := by have h := heap_alloc_new (X.alloc (.cells #[.int .i64 x, .int .i64 y0, .int .i64 u, .int .i64 v] 30)) (.cells #[.int .i64 y, .int .i64 y1, .int .i64 y2, .int .i64 y3, .int .i64 y4, .int .i64 y5, .int .i64 y6, .int .i64 y7, .int .i64 y8] 43); simp only [World.size_alloc, hzX] at h; exact h
  have hza : ((X.alloc (.cells #[.int .i64 x, .int .i64 y0, .int .i64 u, .int .i64 v] 30)).alloc (.cells #[.int .i64 y, .int .i64 y1, .int .i64 y2, .int .i64 y3, .int .i64 y4, .int .i64 y5, .int .i64 y6, .int .i64 y7, .int .i64 y8] 43)).heap.size = w.heap.size + 2 := by simp [hzX]
  generalize ((X.alloc (.cells #[.int .i64 x, .int .i64 y0, .int .i64 u, .int .i64 v] 30)).alloc (.cells #[.int .i64 y, .int .i64 y1, .int .i64 y2, .int .i64 y3, .int .i64 y4, .int .i64 y5, .int .i64 y6, .int .i64 y7, .int .i64 y8] 43)) = Wa at HBa hBx hza ⊢
  have HRa := hide (HRX.out.below HBa (by omega))
  have HOa := hide (HOX.out.trans (Only.ofBelow HBa))
  clear HBa HRX HOX hzX
  refine (HIn.out Wa).mono ?_
  rintro e W3 ⟨rfl, hb3⟩
  have hz3 := hb3.size
  have HB4 : Below Wa.heap.size Wa (W3.alloc (.cells #[.int .i64 ix, .int .i64 iy, .int .i64 iw, .int .i64 ih] 30)) := hb3.alloc hz3 _
  have hIn : (W3.alloc (.cells #[.int .i64 ix, .int .i64 iy, .int .i64 iw, .int .i64 ih] 30)).heap[W3.heap.size]? = some (.cells #[.int .i64 ix, .int .i64 iy, .int .i64 iw, .int .i64 ih] 30 (0, 0)) := heap_alloc_new W3 _
  have hBx4 := (HB4.block (w.heap.size + 1) (by omega)).trans hBx
  have HR4 := hide (HRa.out.below HB4 (by omega))
  have HO4 := hide (HOa.out.trans (Only.ofBelow HB4))
  have hz4 : (W3.alloc (.cells #[.int .i64 ix, .int .i64 iy, .int .i64 iw, .int .i64 ih] 30)).heap.size = W3.heap.size + 1 := by simp
  have hi5 : (W3.alloc (.cells #[.int .i64 ix, .int .i64 iy, .int .i64 iw, .int .i64 ih] 30)).cell? ⟨w.heap.size + 1, 4, none⟩ = some (.int .i64 y4) := by rw [cell_of_row _ _ 4 _ _ (0, 0) hBx4]; rfl
  have hc1 : (W3.alloc (.cells #[.int .i64 ix, .int .i64 iy, .int .i64 iw, .int .i64 ih] 30)).cell? ⟨w.heap.size + 1, 1, none⟩ = some (.int .i64 y1) := by rw [cell_of_row _ _ 1 _ _ (0, 0) hBx4]; rfl
  have HK := hide (specKidsL_any B (some ⟨b, off, none⟩) n c xs i (W3.alloc (.cells #[.int .i64 ix, .int .i64 iy, .int .i64 iw, .int .i64 ih] 30)) (HAo.out _ HO4.out) (by have := HO4.out.size; omega) (by omega) hi HT.out.pre)
  clear HRa HOa HIn hBx hb3 HB4
  obtain ⟨z, hz⟩ : ∃ z, W3.heap.size = z := ⟨_, rfl⟩
  rw [hz] at hIn hz4 hz3
  go_wp2_with fail
  refine HK.out.mono ?_
  rintro e Wm ⟨A, m, c', rfl, hrow, hbm⟩
  have HRm := hide (HR4.out.below hbm (by omega))
  have HOm := hide (HO4.out.trans (Only.ofBelow hbm))
  have HAm := hide (fun W (h : Only bo (bo + 1) Wm W) => HAo.out W (HOm.out.trans h))
  have hzm := hbm.size
  have hBxm := (hbm.block (w.heap.size + 1) (by omega)).trans hBx4
  have hInm := (hbm.block z (by omega)).trans hIn
  have HC := hide (fun W (h : Only bo (bo + 1) Wm W) => (show (W.cell? ⟨w.heap.size + 1, 1, none⟩ = some (.int .i64 y1) ∧ W.cell? ⟨w.heap.size + 1, 5, none⟩ = some (.int .i64 y5) ∧ W.cell? ⟨w.heap.size + 1, 8, none⟩ = some (.int .i64 y8)) ∧ W.cell? ⟨z, 0, none⟩ = some (.int .i64 ix) ∧ W.cell? ⟨z, 1, none⟩ = some (.int .i64 iy) ∧ W.cell? ⟨z, 2, none⟩ = some (.int .i64 iw) ∧ W.cell? ⟨z, 3, none⟩ = some (.int .i64 ih) from by
    have h1 := (h.block (w.heap.size + 1) (by omega) (by omega)).trans hBxm
    have h2 := (h.block z (by omega) (by omega)).trans hInm
    exact ⟨⟨by rw [cell_of_row _ _ 1 _ _ (0, 0) h1]; rfl, by rw [cell_of_row _ _ 5 _ _ (0, 0) h1]; rfl, by rw [cell_of_row _ _ 8 _ _ (0, 0) h1]; rfl⟩, by rw [cell_of_row _ _ 0 _ _ (0, 0) h2]; rfl, by rw [cell_of_row _ _ 1 _ _ (0, 0) h2]; rfl, by rw [cell_of_row _ _ 2 _ _ (0, 0) h2]; rfl, by rw [cell_of_row _ _ 3 _ _ (0, 0) h2]; rfl⟩))
  have hlo : bo + 1 ≤ (W3.alloc (.cells #[.int .i64 ix, .int .i64 iy, .int .i64 iw, .int .i64 ih] 30)).heap.size := by omega
  obtain ⟨lo, hloe⟩ : ∃ lo, (W3.alloc (.cells #[.int .i64 ix, .int .i64 iy, .int .i64 iw, .int .i64 ih] 30)).heap.size = lo := ⟨_, rfl⟩
  rw [hloe] at hrow hlo hzm hz4
  have HL := hide (fun W (h : Only bo (bo + 1) Wm W) => hrow.far h (.inr hlo))
  have HML := hide hrow.1
  have hzw : bo < Wm.heap.size ∧ z < Wm.heap.size ∧ w.heap.size + 1 < Wm.heap.size ∧ w.heap.size + 2 ≤ z := by omega
  clear hrow hbm hIn hBx4 hi5 hc1 HK HR4 HO4 hBxm hInm hloe hz hza hz3 hz4
  rw [HY1.out] at hk
  have hk' : (y1 == 2) = true := by simp [hk]
  have hm1 : 1 ≤ m := by have := HML.out; omega
  have hm8 : m ≤ 8 := by have := HT.out.kidsLen hi; have := HML.out; omega
  have hm0' : ((m : Int) == 0) = false := by simp; omega
  have hPb := gap_bd hgap (show m - 1 ≤ 7 by omega)
  rw [show ((m - 1 : Nat) : Int) = (m : Int) - 1 by omega] at hPb
  obtain ⟨P, hP⟩ : ∃ P, y5 * ((m : Int) - 1) = P := ⟨_, rfl⟩
  rw [hP] at hPb
  obtain ⟨sp, hsp⟩ : ∃ sp, max (iw - P) 0 = sp := ⟨_, rfl⟩
  have hmx1 : (if 0 < iw - P then iw - P else 0) = sp := by rw [← hsp]; split <;> omega
  have hmx2 : (if P < iw then iw - P else 0) = sp := by rw [← hsp]; split <;> omega
  have bsp : 0 ≤ sp ∧ sp ≤ 10000 := by omega
  have ew : IntKind.i64.wrap (iw - P) = iw - P := IntWalk.i64_in _ (by omega)
  have HSz := hide (show flexS (bsW xs n i) (grK xs n i) (srK xs n i) m sp = szW xs n i iw by unfold szW; rw [HML.out, HY5.out, hP, hsp])
  have HSzOk := hide (show OutOk (szW xs n i iw) m by have h := szW_ok (p := i) HT.out iw; rw [HML.out] at h; exact h)
  have HBok := hide (show OutOk (bsW xs n i) m by have h := bsW_ok (p := i) HT.out; rw [HML.out] at h; exact h)
  have HGok := hide (show WtOk (grK xs n i) m by have h := grK_ok (p := i) HT.out; rw [HML.out] at h; exact h)
  have HWok := hide (show WtOk (srK xs n i) m by have h := srK_ok (p := i) HT.out; rw [HML.out] at h; exact h)
  have HFl := hide (fun W (h : Only bo (bo + 1) Wm W) => specFlexes_row B (some ⟨b, off, none⟩) n c xs i A m c' W HT.out hi (HAm.out W h) (by have := HOm.out.size; have := h.size; omega) ((HL.out W h).ints.more h.size) hm1)
  have HRc := hide (fun t (ht : t < m) => (show rc xs n root (kidN xs n i t) = rowR xs n i (ri ix iy iw ih) t from by
    rw [rc_kid HT.out.pre (by rw [HML.out]; exact ht), HRe.out]
    unfold childR
    rw [if_pos (by rw [HY1.out]; exact hk)]
    rw [HY4.out, HI.out]))
  obtain ⟨bl, ol, curL, rfl, -⟩ := (HL.out Wm (Only.refl _ _ _)).2 (by omega)
  clear hsp HI HRe
  have hs2 := (HC.out Wm (Only.refl _ _ _)).2.2.2.1
  obtain ⟨⟨hb1, hb5, hb8⟩, -⟩ := HC.out Wm (Only.refl _ _ _)
  go_wp2_with fail
  first | go_region_held3 (fun w' => w'.cell? ⟨z, 2, none⟩ = some (.int .i64 iw)) (first | go_keep | exact t2 | exact u2) (first | (go_at_call 51; refine (HFl.out Wm.drew (Only.refl _ _ _).drew).mono ?_; rintro e W5 ⟨A1, c1, rfl, hI5, hbe5⟩; have HO5 := hide ((Only.refl bo (bo + 1) Wm).drew.trans (Only.ofBelow hbe5)); have HR5 := hide ((show RR Wm.drew bo oo n _ from HRm.out).below hbe5 (show bo < Wm.heap.size from hzw.1)); have t2 := (HC.out W5 HO5.out).2.2.2.1) | (go_at_call 50; refine (specFlex_any W5.heap.size A1 m c1 (bsW xs n i) (grK xs n i) (srK xs n i) sp W5 hI5 (Nat.le_refl _) ⟨hm1, hm8⟩ HBok.out HGok.out HWok.out (by omega)).mono ?_; rintro e W6 ⟨A2, m2, c2, rfl, hr6, hb6⟩; have HO6 := hide (HO5.out.trans (Only.ofBelow hb6)); have HR6 := hide (HR5.out.below hb6 (by have := HO5.out.size; omega)); have u2 := (HC.out W6 HO6.out).2.2.2.1; obtain ⟨⟨hb1', hb5', hb8'⟩, -⟩ := HC.out W6 HO6.out)) | fail
  all_goals
    obtain rfl : m = m2 := by have h1 := hr6.1; rw [fl_len] at h1; exact h1
    rw [HSz.out] at hr6
    have hz6 := hb6.size
    have hz5 := HO5.out.size
    obtain ⟨bs, os, curS, rfl, hbs, -⟩ := hr6.2 (by omega)
    have HSr := hide (fun W (h : Only bo (bo + 1) W6 W) => hr6.far h (.inr (by omega)))
    have HOff := hide (specOffsets_any W6.heap.size (some ⟨bs, os, none⟩) m c2 (szW xs n i iw) iw y5 y8 W6 hr6.ints (Nat.le_refl _) ⟨hm1, hm8⟩ HSzOk.out (by omega) hgap hjust)
    clear hr6 hb6 hbe5 t2 hs2 hI5 HFl HSz
    go_wp2_with fail
    refine HOff.out.mono ?_
    rintro e W7 ⟨A3, m3, c3, rfl, hr7, hb7⟩
    obtain rfl : m = m3 := by have h1 := hr7.1; rw [fl_len] at h1; exact h1
    have HO7 := hide (HO6.out.trans (Only.ofBelow hb7))
    have HO67 := hide (show Only bo (bo + 1) W6 W7 from Only.ofBelow hb7)
    have hz7 := hb7.size
    obtain ⟨bx, ox, curX, rfl, hbx, -⟩ := hr7.2 (by omega)
    have HXr := hide (fun W (h : Only bo (bo + 1) W7 W) => hr7.far h (.inr (by omega)))
    have HKN := hide (fun t (ht : t < m) => kidN_is (p := i) HT.out.pre (t := t) (by rw [HML.out]; exact ht))
    have HS := hide (fun W (h : Only bo (bo + 1) W7 W) t (ht : t < m) => (show W.cell? ⟨bl, ol + t, none⟩ = some (.int .i64 ((kidN xs n i t : Nat) : Int)) ∧ W.cell? ⟨bs, os + t, none⟩ = some (.int .i64 (szW xs n i iw t)) ∧ W.cell? ⟨bx, ox + t, none⟩ = some (.int .i64 (offS (szW xs n i iw) m iw y5 y8 t)) ∧ W.cell? ⟨z, 0, none⟩ = some (.int .i64 ix) ∧ W.cell? ⟨z, 1, none⟩ = some (.int .i64 iy) ∧ W.cell? ⟨z, 3, none⟩ = some (.int .i64 ih) from by
      have h1 := ((HL.out W (HO7.out.trans h)).cell t ht).1
      have h2 := ((HSr.out W (HO67.out.trans h)).cell t ht).1
      have h3 := ((HXr.out W h).cell t ht).1
      rw [← (HKN.out t ht).2.2.1] at h1
      rw [fl_at _ ht] at h2 h3
      have h4 := HC.out W (HO7.out.trans h)
      exact ⟨h1, h2, h3, h4.2.1, h4.2.2.1, h4.2.2.2.2⟩))
    have HOf := hide (fun t (ht : t < m) => (show 0 ≤ offS (szW xs n i iw) m iw y5 y8 t ∧ offS (szW xs n i iw) m iw y5 y8 t ≤ 10000 from by
      have h := offW_bd (just := y8) HT.out hi (show 0 ≤ iw ∧ iw ≤ 10000 by omega) (t := t) (by rw [HML.out]; exact ht)
      rw [HML.out, HY5.out] at h
      exact h))
    have HAr := hide (fun W (h : Only bo (bo + 1) W7 W) => HAm.out W (HO7.out.trans h))
    have HR7 := hide (HR6.out.below hb7 (by omega))
    have hz7m : Wm.heap.size ≤ W7.heap.size := by omega
    clear hr7 hb7 HOff hb1 hb5 hb8 hb1' hb5' hb8' HR5 HR6 HSr HXr HC HL HAm
    go_wp2
    go_loopw [14] (fun s14 wr => ∃ (t : Nat) (W9 : World) (f9 : Nat → RectI), t ≤ m ∧ s14 = .int .i64 t ∧ W9 = wr ∧ Hid (RR W9 bo oo n f9) ∧ Hid (PutK xs n root i t f f9) ∧ Hid (Only bo (bo + 1) W7 W9)) (fun s14 _ => m - (intOf s14).toNat)
    case atStart => exact ⟨0, _, _, Nat.zero_le _, rfl, rfl, HR7, HF1, hide (Only.refl _ _ _)⟩
    case round =>
      clear HR7 HF1
      obtain ⟨t, W9, f9, htm, rfl, rfl, HR9, HP9, HO9⟩ := hrel
      have hz9 := HO9.out.size
      by_cases hlt : t < m
      · have hlt' : (t : Int) < (m : Int) := by omega
        have hs := HS.out W9 HO9.out t hlt
        have hqs := HKN.out t hlt
        have hrc := HRc.out t hlt
        have hof := HOf.out t hlt
        have hso := HSzOk.out t hlt
        have HPn := hide (fun f2 (h : Put xs n root (kidN xs n i t) f9 f2) => HP9.out.next h)
        obtain ⟨q, hq⟩ : ∃ q, kidN xs n i t = q := ⟨_, rfl⟩
        rw [hq] at hs hqs hrc HPn
        obtain ⟨o, ho⟩ : ∃ o, offS (szW xs n i iw) m iw y5 y8 t = o := ⟨_, rfl⟩
        rw [ho] at hs hof
        obtain ⟨s, hss⟩ : ∃ s, szW xs n i iw t = s := ⟨_, rfl⟩
        rw [hss] at hs hso
        rw [show rowR xs n i (ri ix iy iw ih) t = ri (ix + o) iy s ih by unfold rowR; rw [HML.out, HY5.out, HY8.out]; show RectI.mk _ _ _ _ = RectI.mk _ _ _ _; simp only [ri]; rw [ho, hss]] at hrc
        have hqi : (q : Int) < (n : Int) := by omega
        have hcall := hide (show Calls Try.prog 38 #[.slice (some ⟨b, off, none⟩) n c, .int .i64 q, .agg #[.int .i64 (ix + o), .int .i64 iy, .int .i64 s, .int .i64 ih], .slice (some ⟨bo, oo, none⟩) n co] W9.drew (Placed xs n root bo oo q f9 W9.drew) from by
          have h := IHh.out q f9 W9.drew (HAr.out _ HO9.out.drew) HR9.out (by omega) (by omega)
          rw [hrc] at h
          exact h)
        have eo : IntKind.i64.wrap (ix + o) = ix + o := IntWalk.i64_in _ (by omega)
        have HSq := hide (fun W (h : Only bo (bo + 1) W7 W) => (show W.cell? ⟨bl, ol + t, none⟩ = some (.int .i64 (q : Int)) ∧ W.cell? ⟨bs, os + t, none⟩ = some (.int .i64 s) ∧ W.cell? ⟨bx, ox + t, none⟩ = some (.int .i64 o) ∧ W.cell? ⟨z, 0, none⟩ = some (.int .i64 ix) ∧ W.cell? ⟨z, 1, none⟩ = some (.int .i64 iy) ∧ W.cell? ⟨z, 3, none⟩ = some (.int .i64 ih) from by
          have h4 := HS.out W h t hlt
          rw [hq, ho, hss] at h4
          exact h4))
        obtain ⟨s1, s2, s3, s4, s5, s6⟩ := hs
        clear hq ho hss hrc hqs hof
        go_wp2_with fail
        first | go_region_held3 (fun w' => w'.cell? ⟨bl, ol + t, none⟩ = some (.int .i64 (q : Int)) ∧ w'.cell? ⟨bs, os + t, none⟩ = some (.int .i64 s) ∧ w'.cell? ⟨bx, ox + t, none⟩ = some (.int .i64 o) ∧ w'.cell? ⟨z, 0, none⟩ = some (.int .i64 ix) ∧ w'.cell? ⟨z, 1, none⟩ = some (.int .i64 iy) ∧ w'.cell? ⟨z, 3, none⟩ = some (.int .i64 ih)) (first | go_keep | exact t9) (first | (go_at_call 38; refine hcall.out.mono ?_; rintro e W10 ⟨rfl, ⟨f', hP', hR'⟩, hO'⟩; have HO10 := hide (HO9.out.drew.trans hO'); have HR10 := hide hR'; have HP10 := hide (HPn.out f' hP'); have t9 := HSq.out W10 HO10.out)) | fail
        clear hcall HPn hP' hR' hO' t9 s1 s2 s3 s4 s5 s6
        go_wp2
        go_roundw
        case rel => exact ⟨t + 1, _, _, by omega, by go_num, rfl, HR10, HP10, HO10⟩
        case measure => simp [intOf]; omega
      · obtain rfl : m = t := by omega
        have D := hide (show Placed xs n root bo oo i f w (.returned (.tuple #[])) W9 from ⟨rfl, ⟨f9, PutK.done (by rw [HML.out]; exact HP9.out), HR9.out⟩, HOm.out.trans (HO7.out.trans HO9.out)⟩)
        clear HR9 HP9 HO9
        go_wp2
        exact bodyPost_ret (v := .tuple #[]) (by simp [results, Try.results38]) rfl D.out
set_option maxRecDepth 100000 in
set_option maxHeartbeats 16000000 in
theorem placeCol (B : Nat) (a : Option Addr) (n c : Nat) (xs : List Int) (root : RectI) (bo oo co : Nat) (hT : TreeP xs n) (hr : RcB 0 root) (hBo : B ≤ bo) (d i : Nat) (f : Nat → RectI) (w : World)
    (IH : PlaceIH B a n c xs root bo oo co d) (hA : Ints .i64 w B a (n * 9) xs) (hR : RR w bo oo n f) (hi : i < n) (hd : n - i ≤ d + 1) (hm : (kidsL xs n i).length ≠ 0) (hk : fld xs i 1 = 3) :
    Calls Try.prog 38 #[.slice a n c, .int .i64 i, RV (rc xs n root i), .slice (some ⟨bo, oo, none⟩) n co] w (Placed xs n root bo oo i f w) := by
  have IHh := hide IH
  clear IH
  have hn16 := hT.hi
  have hin : (i : Int) < (n : Int) := by omega
  have hbw : bo < w.heap.size := hR.lt (by omega)
  have HT := hide hT
  have HRB := hide (rc_ok hT hr hi)
  have hnum := hT.nums hi
  obtain ⟨⟨x, y0, u, v⟩, hRe⟩ : ∃ R, rc xs n root i = R := ⟨_, rfl⟩
  rw [hRe] at HRB
  have HRe := hide (show rc xs n root i = ri x y0 u v from hRe)
  have hRb := HRB.out
  have hx : 0 ≤ x ∧ x ≤ 50250 := ⟨hRb.x0, by have := hRb.x1; simpa using this⟩
  have hy : 0 ≤ y0 ∧ y0 ≤ 50250 := ⟨hRb.y0, by have := hRb.y1; simpa using this⟩
  have hu : 0 ≤ u ∧ u ≤ 10000 := ⟨hRb.w0, hRb.w1⟩
  have hv : 0 ≤ v ∧ v ≤ 10000 := ⟨hRb.h0, hRb.h1⟩
  have HF1 := hide (PutK.start (xs := xs) (n := n) (root := root) (i := i) (f := f) (f' := fun j => if j = i then ri x y0 u v else f j) (fun j => by rw [HRe.out]))
  rw [hRe]
  obtain ⟨b, off, rfl, hb9, h1, h2⟩ := hA.fldAt (by omega)
  have hc0 := h1 i hi
  have hc1 := h2 i 1 hi (by omega)
  have hc2 := h2 i 2 hi (by omega)
  have hc3 := h2 i 3 hi (by omega)
  have hc4 := h2 i 4 hi (by omega)
  have hc5 := h2 i 5 hi (by omega)
  have hc6 := h2 i 6 hi (by omega)
  have hc7 := h2 i 7 hi (by omega)
  have hc8 := h2 i 8 hi (by omega)
  obtain ⟨y, hy⟩ : ∃ y, par xs i = y := ⟨_, rfl⟩
  rw [hy] at hc0
  have HYc0 := hide hy
  clear hy
  obtain ⟨y1, hy1⟩ : ∃ y1, fld xs i 1 = y1 := ⟨_, rfl⟩
  rw [hy1] at hc1
  have HY1 := hide hy1
  clear hy1
  obtain ⟨y2, hy2⟩ : ∃ y2, fld xs i 2 = y2 := ⟨_, rfl⟩
  rw [hy2] at hc2
  have HY2 := hide hy2
  clear hy2
  obtain ⟨y3, hy3⟩ : ∃ y3, fld xs i 3 = y3 := ⟨_, rfl⟩
  rw [hy3] at hc3
  have HY3 := hide hy3
  clear hy3
  obtain ⟨y4, hy4⟩ : ∃ y4, fld xs i 4 = y4 := ⟨_, rfl⟩
  rw [hy4] at hc4
  have HY4 := hide hy4
  clear hy4
  obtain ⟨y5, hy5⟩ : ∃ y5, fld xs i 5 = y5 := ⟨_, rfl⟩
  rw [hy5] at hc5
  have HY5 := hide hy5
  clear hy5
  obtain ⟨y6, hy6⟩ : ∃ y6, fld xs i 6 = y6 := ⟨_, rfl⟩
  rw [hy6] at hc6
  have HY6 := hide hy6
  clear hy6
  obtain ⟨y7, hy7⟩ : ∃ y7, fld xs i 7 = y7 := ⟨_, rfl⟩
  rw [hy7] at hc7
  have HY7 := hide hy7
  clear hy7
  obtain ⟨y8, hy8⟩ : ∃ y8, fld xs i 8 = y8 := ⟨_, rfl⟩
  rw [hy8] at hc8
  have HY8 := hide hy8
  clear hy8
  clear h1 h2 hRe hRb hT
  obtain ⟨g0, g1, g2, g3⟩ := hR.get hi
  obtain ⟨q0, q1, q2, q3⟩ := hR.fr hi
  obtain ⟨-, -, -, hpad, hgap, -, -, hjust, -⟩ := hnum
  rw [HY4.out] at hpad
  rw [HY5.out] at hgap
  rw [HY8.out] at hjust
  show Calls Try.prog 38 #[.slice (some ⟨b, off, none⟩) n c, .int .i64 i, .agg #[.int .i64 x, .int .i64 y0, .int .i64 u, .int .i64 v], .slice (some ⟨bo, oo, none⟩) n co] w _
  have hB1 := hide (show Below w.heap.size w (w.alloc (.cells #[.int .i64 x, .int .i64 y0, .int .i64 u, .int .i64 v] 30)) from (Below.refl _ _).alloc (Nat.le_refl _) _)
  have hB2 := hide (show Below w.heap.size w ((w.alloc (.cells #[.int .i64 x, .int .i64 y0, .int .i64 u, .int .i64 v] 30)).alloc (.cells #[.int .i64 y, .int .i64 y1, .int .i64 y2, .int .i64 y3, .int .i64 y4, .int .i64 y5, .int .i64 y6, .int .i64 y7, .int .i64 y8] 43)) from ((Below.refl _ _).alloc (Nat.le_refl _) _).alloc (by simp) _)
  have hd0 := (hB1.out.cell (p := ⟨b, off + i * 9, none⟩) (by show b < w.heap.size; omega)).trans hc0
  have hd1 := (hB1.out.cell (p := ⟨b, off + i * 9 + 1, none⟩) (by show b < w.heap.size; omega)).trans hc1
  have hd2 := (hB1.out.cell (p := ⟨b, off + i * 9 + 2, none⟩) (by show b < w.heap.size; omega)).trans hc2
  have hd3 := (hB1.out.cell (p := ⟨b, off + i * 9 + 3, none⟩) (by show b < w.heap.size; omega)).trans hc3
  have hd4 := (hB1.out.cell (p := ⟨b, off + i * 9 + 4, none⟩) (by show b < w.heap.size; omega)).trans hc4
  have hd5 := (hB1.out.cell (p := ⟨b, off + i * 9 + 5, none⟩) (by show b < w.heap.size; omega)).trans hc5
  have hd6 := (hB1.out.cell (p := ⟨b, off + i * 9 + 6, none⟩) (by show b < w.heap.size; omega)).trans hc6
  have hd7 := (hB1.out.cell (p := ⟨b, off + i * 9 + 7, none⟩) (by show b < w.heap.size; omega)).trans hc7
  have hd8 := (hB1.out.cell (p := ⟨b, off + i * 9 + 8, none⟩) (by show b < w.heap.size; omega)).trans hc8
  have e0 := (hB2.out.cell (p := ⟨bo, oo + i * 4, none⟩) (by show bo < w.heap.size; omega)).trans g0
  have k0 := (hB2.out.frozen (p := ⟨bo, oo + i * 4, none⟩) (by show bo < w.heap.size; omega)).trans q0
  have e1 := (hB2.out.cell (p := ⟨bo, oo + i * 4 + 1, none⟩) (by show bo < w.heap.size; omega)).trans g1
  have k1 := (hB2.out.frozen (p := ⟨bo, oo + i * 4 + 1, none⟩) (by show bo < w.heap.size; omega)).trans q1
  have e2 := (hB2.out.cell (p := ⟨bo, oo + i * 4 + 2, none⟩) (by show bo < w.heap.size; omega)).trans g2
  have k2 := (hB2.out.frozen (p := ⟨bo, oo + i * 4 + 2, none⟩) (by show bo < w.heap.size; omega)).trans q2
  have e3 := (hB2.out.cell (p := ⟨bo, oo + i * 4 + 3, none⟩) (by show bo < w.heap.size; omega)).trans g3
  have k3 := (hB2.out.frozen (p := ⟨bo, oo + i * 4 + 3, none⟩) (by show bo < w.heap.size; omega)).trans q3
  obtain ⟨⟨ix, iy, iw, ih⟩, hI⟩ : ∃ I, insetR (ri x y0 u v) y4 = I := ⟨_, rfl⟩
  have hib := insetR_bd (d := 5) (r := ri x y0 u v) (pad := y4) HRB.out hpad
  rw [hI] at hib
  have HI := hide (show insetR (ri x y0 u v) y4 = ri ix iy iw ih from hI)
  have hix : 0 ≤ ix ∧ ix ≤ 50300 := ⟨hib.x0, by have := hib.x1; simpa using this⟩
  have hiy : 0 ≤ iy ∧ iy ≤ 50300 := ⟨hib.y0, by have := hib.y1; simpa using this⟩
  have hiw : 0 ≤ iw ∧ iw ≤ 10000 := ⟨hib.w0, hib.w1⟩
  have hih : 0 ≤ ih ∧ ih ≤ 10000 := ⟨hib.h0, hib.h1⟩
  have HIn := hide (fun W => (show Calls Try.prog 49 #[.agg #[.int .i64 x, .int .i64 y0, .int .i64 u, .int .i64 v], .int .i64 y4] W fun e w' => e = .returned (.agg #[.int .i64 ix, .int .i64 iy, .int .i64 iw, .int .i64 ih]) ∧ Below W.heap.size W w' from by
    have h := specInset_any x y0 u v y4 W (by omega) (by omega) hu hv hpad
    rw [hI] at h
    exact h))
  clear hib hI
  obtain ⟨X, hX⟩ : ∃ X, ((((w.setCell ⟨bo, oo + i * 4, none⟩ (.int .i64 x)).setCell ⟨bo, oo + i * 4 + 1, none⟩ (.int .i64 y0)).setCell ⟨bo, oo + i * 4 + 2, none⟩ (.int .i64 u)).setCell ⟨bo, oo + i * 4 + 3, none⟩ (.int .i64 v)) = X := ⟨_, rfl⟩
  have HRX := hide (show RR X bo oo n (fun j => if j = i then ri x y0 u v else f j) by rw [← hX]; exact hR.put hi (ri x y0 u v) (fun j => rfl))
  have HOX := hide (show Only bo (bo + 1) w X by rw [← hX]; exact (((((Only.refl _ _ _).set (Nat.le_refl _) (by omega) _).set (Nat.le_refl _) (by omega) _).set (Nat.le_refl _) (by omega) _).set (Nat.le_refl _) (by omega) _))
  have hzX : X.heap.size = w.heap.size := by rw [← hX]; simp
  have HX := hide hX
  clear hX
  have HAo := hide (fun W (h : Only bo (bo + 1) w W) => hA.only h hBo (by omega))
  clear hA hR
  go_enter Try.func38, Try.ntmps38
  go_wp2_with fail
  rw [HX.out]
  clear HX hd0 hd1 hd2 hd3 hd4 hd5 hd6 hd7 hd8 hc0 hc1 hc2 hc3 hc4 hc5 hc6 hc7 hc8 e0 e1 e2 e3 k0 k1 k2 k3 g0 g1 g2 g3 q0 q1 q2 q3 hB1 hB2
  have HBa : Below X.heap.size X ((X.alloc (.cells #[.int .i64 x, .int .i64 y0, .int .i64 u, .int .i64 v] 30)).alloc (.cells #[.int .i64 y, .int .i64 y1, .int .i64 y2, .int .i64 y3, .int .i64 y4, .int .i64 y5, .int .i64 y6, .int .i64 y7, .int .i64 y8] 43)) := ((Below.refl _ _).alloc (Nat.le_refl _) _).alloc (by simp) _
  have hBx : ((X.alloc (.cells #[.int .i64 x, .int .i64 y0, .int .i64 u, .int .i64 v] 30)).alloc (.cells #[.int .i64 y, .int .i64 y1, .int .i64 y2, .int .i64 y3, .int .i64 y4, .int .i64 y5, .int .i64 y6, .int .i64 y7, .int .i64 y8] 43)).heap[w.heap.size + 1]? = some (.cells #[.int .i64 y, .int .i64 y1, .int .i64 y2, .int .i64 y3, .int .i64 y4, .int .i64 y5, .int .i64 y6, .int .i64 y7, .int .i64 y8] 43 (0, 0)) := by have h := heap_alloc_new (X.alloc (.cells #[.int .i64 x, .int .i64 y0, .int .i64 u, .int .i64 v] 30)) (.cells #[.int .i64 y, .int .i64 y1, .int .i64 y2, .int .i64 y3, .int .i64 y4, .int .i64 y5, .int .i64 y6, .int .i64 y7, .int .i64 y8] 43); simp only [World.size_alloc, hzX] at h; exact h
  have hza : ((X.alloc (.cells #[.int .i64 x, .int .i64 y0, .int .i64 u, .int .i64 v] 30)).alloc (.cells #[.int .i64 y, .int .i64 y1, .int .i64 y2, .int .i64 y3, .int .i64 y4, .int .i64 y5, .int .i64 y6, .int .i64 y7, .int .i64 y8] 43)).heap.size = w.heap.size + 2 := by simp [hzX]
  generalize ((X.alloc (.cells #[.int .i64 x, .int .i64 y0, .int .i64 u, .int .i64 v] 30)).alloc (.cells #[.int .i64 y, .int .i64 y1, .int .i64 y2, .int .i64 y3, .int .i64 y4, .int .i64 y5, .int .i64 y6, .int .i64 y7, .int .i64 y8] 43)) = Wa at HBa hBx hza ⊢
  have HRa := hide (HRX.out.below HBa (by omega))
  have HOa := hide (HOX.out.trans (Only.ofBelow HBa))
  clear HBa HRX HOX hzX
  refine (HIn.out Wa).mono ?_
  rintro e W3 ⟨rfl, hb3⟩
  have hz3 := hb3.size
  have HB4 : Below Wa.heap.size Wa (W3.alloc (.cells #[.int .i64 ix, .int .i64 iy, .int .i64 iw, .int .i64 ih] 30)) := hb3.alloc hz3 _
  have hIn : (W3.alloc (.cells #[.int .i64 ix, .int .i64 iy, .int .i64 iw, .int .i64 ih] 30)).heap[W3.heap.size]? = some (.cells #[.int .i64 ix, .int .i64 iy, .int .i64 iw, .int .i64 ih] 30 (0, 0)) := heap_alloc_new W3 _
  have hBx4 := (HB4.block (w.heap.size + 1) (by omega)).trans hBx
  have HR4 := hide (HRa.out.below HB4 (by omega))
  have HO4 := hide (HOa.out.trans (Only.ofBelow HB4))
  have hz4 : (W3.alloc (.cells #[.int .i64 ix, .int .i64 iy, .int .i64 iw, .int .i64 ih] 30)).heap.size = W3.heap.size + 1 := by simp
  have hi5 : (W3.alloc (.cells #[.int .i64 ix, .int .i64 iy, .int .i64 iw, .int .i64 ih] 30)).cell? ⟨w.heap.size + 1, 4, none⟩ = some (.int .i64 y4) := by rw [cell_of_row _ _ 4 _ _ (0, 0) hBx4]; rfl
  have hc1 : (W3.alloc (.cells #[.int .i64 ix, .int .i64 iy, .int .i64 iw, .int .i64 ih] 30)).cell? ⟨w.heap.size + 1, 1, none⟩ = some (.int .i64 y1) := by rw [cell_of_row _ _ 1 _ _ (0, 0) hBx4]; rfl
  have HK := hide (specKidsL_any B (some ⟨b, off, none⟩) n c xs i (W3.alloc (.cells #[.int .i64 ix, .int .i64 iy, .int .i64 iw, .int .i64 ih] 30)) (HAo.out _ HO4.out) (by have := HO4.out.size; omega) (by omega) hi HT.out.pre)
  clear HRa HOa HIn hBx hb3 HB4
  obtain ⟨z, hz⟩ : ∃ z, W3.heap.size = z := ⟨_, rfl⟩
  rw [hz] at hIn hz4 hz3
  go_wp2_with fail
  refine HK.out.mono ?_
  rintro e Wm ⟨A, m, c', rfl, hrow, hbm⟩
  have HRm := hide (HR4.out.below hbm (by omega))
  have HOm := hide (HO4.out.trans (Only.ofBelow hbm))
  have HAm := hide (fun W (h : Only bo (bo + 1) Wm W) => HAo.out W (HOm.out.trans h))
  have hzm := hbm.size
  have hBxm := (hbm.block (w.heap.size + 1) (by omega)).trans hBx4
  have hInm := (hbm.block z (by omega)).trans hIn
  have HC := hide (fun W (h : Only bo (bo + 1) Wm W) => (show (W.cell? ⟨w.heap.size + 1, 1, none⟩ = some (.int .i64 y1) ∧ W.cell? ⟨w.heap.size + 1, 5, none⟩ = some (.int .i64 y5) ∧ W.cell? ⟨w.heap.size + 1, 8, none⟩ = some (.int .i64 y8)) ∧ W.cell? ⟨z, 0, none⟩ = some (.int .i64 ix) ∧ W.cell? ⟨z, 1, none⟩ = some (.int .i64 iy) ∧ W.cell? ⟨z, 2, none⟩ = some (.int .i64 iw) ∧ W.cell? ⟨z, 3, none⟩ = some (.int .i64 ih) from by
    have h1 := (h.block (w.heap.size + 1) (by omega) (by omega)).trans hBxm
    have h2 := (h.block z (by omega) (by omega)).trans hInm
    exact ⟨⟨by rw [cell_of_row _ _ 1 _ _ (0, 0) h1]; rfl, by rw [cell_of_row _ _ 5 _ _ (0, 0) h1]; rfl, by rw [cell_of_row _ _ 8 _ _ (0, 0) h1]; rfl⟩, by rw [cell_of_row _ _ 0 _ _ (0, 0) h2]; rfl, by rw [cell_of_row _ _ 1 _ _ (0, 0) h2]; rfl, by rw [cell_of_row _ _ 2 _ _ (0, 0) h2]; rfl, by rw [cell_of_row _ _ 3 _ _ (0, 0) h2]; rfl⟩))
  have hlo : bo + 1 ≤ (W3.alloc (.cells #[.int .i64 ix, .int .i64 iy, .int .i64 iw, .int .i64 ih] 30)).heap.size := by omega
  obtain ⟨lo, hloe⟩ : ∃ lo, (W3.alloc (.cells #[.int .i64 ix, .int .i64 iy, .int .i64 iw, .int .i64 ih] 30)).heap.size = lo := ⟨_, rfl⟩
  rw [hloe] at hrow hlo hzm hz4
  have HL := hide (fun W (h : Only bo (bo + 1) Wm W) => hrow.far h (.inr hlo))
  have HML := hide hrow.1
  have hzw : bo < Wm.heap.size ∧ z < Wm.heap.size ∧ w.heap.size + 1 < Wm.heap.size ∧ w.heap.size + 2 ≤ z := by omega
  clear hrow hbm hIn hBx4 hi5 hc1 HK HR4 HO4 hBxm hInm hloe hz hza hz3 hz4
  rw [HY1.out] at hk
  have hk' : (y1 == 2) = false := by simp [hk]
  have hk2 : (y1 == 3) = true := by simp [hk]
  have hm1 : 1 ≤ m := by have := HML.out; omega
  have hm8 : m ≤ 8 := by have := HT.out.kidsLen hi; have := HML.out; omega
  have hm0' : ((m : Int) == 0) = false := by simp; omega
  have hPb := gap_bd hgap (show m - 1 ≤ 7 by omega)
  rw [show ((m - 1 : Nat) : Int) = (m : Int) - 1 by omega] at hPb
  obtain ⟨P, hP⟩ : ∃ P, y5 * ((m : Int) - 1) = P := ⟨_, rfl⟩
  rw [hP] at hPb
  obtain ⟨sp, hsp⟩ : ∃ sp, max (ih - P) 0 = sp := ⟨_, rfl⟩
  have hmx1 : (if 0 < ih - P then ih - P else 0) = sp := by rw [← hsp]; split <;> omega
  have hmx2 : (if P < ih then ih - P else 0) = sp := by rw [← hsp]; split <;> omega
  have bsp : 0 ≤ sp ∧ sp ≤ 10000 := by omega
  have ew : IntKind.i64.wrap (ih - P) = ih - P := IntWalk.i64_in _ (by omega)
  have HSz := hide (show flexS (bsH xs n i) (grK xs n i) (srK xs n i) m sp = szH xs n i ih by unfold szH; rw [HML.out, HY5.out, hP, hsp])
  have HSzOk := hide (show OutOk (szH xs n i ih) m by have h := szH_ok (p := i) HT.out ih; rw [HML.out] at h; exact h)
  have HBok := hide (show OutOk (bsH xs n i) m by have h := bsH_ok (p := i) HT.out; rw [HML.out] at h; exact h)
  have HGok := hide (show WtOk (grK xs n i) m by have h := grK_ok (p := i) HT.out; rw [HML.out] at h; exact h)
  have HWok := hide (show WtOk (srK xs n i) m by have h := srK_ok (p := i) HT.out; rw [HML.out] at h; exact h)
  have HFl := hide (fun W (h : Only bo (bo + 1) Wm W) => specFlexes_col B (some ⟨b, off, none⟩) n c xs i A m c' W HT.out hi (HAm.out W h) (by have := HOm.out.size; have := h.size; omega) ((HL.out W h).ints.more h.size) hm1)
  have HRc := hide (fun t (ht : t < m) => (show rc xs n root (kidN xs n i t) = colR xs n i (ri ix iy iw ih) t from by
    rw [rc_kid HT.out.pre (by rw [HML.out]; exact ht), HRe.out]
    unfold childR
    rw [if_neg (by rw [HY1.out, hk]; omega), if_pos (by rw [HY1.out]; exact hk)]
    rw [HY4.out, HI.out]))
  obtain ⟨bl, ol, curL, rfl, -⟩ := (HL.out Wm (Only.refl _ _ _)).2 (by omega)
  clear hsp HI HRe
  have hs2 := (HC.out Wm (Only.refl _ _ _)).2.2.2.2
  obtain ⟨⟨hb1, hb5, hb8⟩, -⟩ := HC.out Wm (Only.refl _ _ _)
  go_wp2_with fail
  first | go_region_held3 (fun w' => w'.cell? ⟨z, 3, none⟩ = some (.int .i64 ih)) (first | go_keep | exact t2 | exact u2) (first | (go_at_call 51; refine (HFl.out Wm.drew (Only.refl _ _ _).drew).mono ?_; rintro e W5 ⟨A1, c1, rfl, hI5, hbe5⟩; have HO5 := hide ((Only.refl bo (bo + 1) Wm).drew.trans (Only.ofBelow hbe5)); have HR5 := hide ((show RR Wm.drew bo oo n _ from HRm.out).below hbe5 (show bo < Wm.heap.size from hzw.1)); have t2 := (HC.out W5 HO5.out).2.2.2.2) | (go_at_call 50; refine (specFlex_any W5.heap.size A1 m c1 (bsH xs n i) (grK xs n i) (srK xs n i) sp W5 hI5 (Nat.le_refl _) ⟨hm1, hm8⟩ HBok.out HGok.out HWok.out (by omega)).mono ?_; rintro e W6 ⟨A2, m2, c2, rfl, hr6, hb6⟩; have HO6 := hide (HO5.out.trans (Only.ofBelow hb6)); have HR6 := hide (HR5.out.below hb6 (by have := HO5.out.size; omega)); have u2 := (HC.out W6 HO6.out).2.2.2.2; obtain ⟨⟨hb1', hb5', hb8'⟩, -⟩ := HC.out W6 HO6.out)) | fail
  all_goals
    obtain rfl : m = m2 := by have h1 := hr6.1; rw [fl_len] at h1; exact h1
    rw [HSz.out] at hr6
    have hz6 := hb6.size
    have hz5 := HO5.out.size
    obtain ⟨bs, os, curS, rfl, hbs, -⟩ := hr6.2 (by omega)
    have HSr := hide (fun W (h : Only bo (bo + 1) W6 W) => hr6.far h (.inr (by omega)))
    have HOff := hide (specOffsets_any W6.heap.size (some ⟨bs, os, none⟩) m c2 (szH xs n i ih) ih y5 y8 W6 hr6.ints (Nat.le_refl _) ⟨hm1, hm8⟩ HSzOk.out (by omega) hgap hjust)
    clear hr6 hb6 hbe5 t2 hs2 hI5 HFl HSz
    go_wp2_with fail
    refine HOff.out.mono ?_
    rintro e W7 ⟨A3, m3, c3, rfl, hr7, hb7⟩
    obtain rfl : m = m3 := by have h1 := hr7.1; rw [fl_len] at h1; exact h1
    have HO7 := hide (HO6.out.trans (Only.ofBelow hb7))
    have HO67 := hide (show Only bo (bo + 1) W6 W7 from Only.ofBelow hb7)
    have hz7 := hb7.size
    obtain ⟨bx, ox, curX, rfl, hbx, -⟩ := hr7.2 (by omega)
    have HXr := hide (fun W (h : Only bo (bo + 1) W7 W) => hr7.far h (.inr (by omega)))
    have HKN := hide (fun t (ht : t < m) => kidN_is (p := i) HT.out.pre (t := t) (by rw [HML.out]; exact ht))
    have HS := hide (fun W (h : Only bo (bo + 1) W7 W) t (ht : t < m) => (show W.cell? ⟨bl, ol + t, none⟩ = some (.int .i64 ((kidN xs n i t : Nat) : Int)) ∧ W.cell? ⟨bs, os + t, none⟩ = some (.int .i64 (szH xs n i ih t)) ∧ W.cell? ⟨bx, ox + t, none⟩ = some (.int .i64 (offS (szH xs n i ih) m ih y5 y8 t)) ∧ W.cell? ⟨z, 0, none⟩ = some (.int .i64 ix) ∧ W.cell? ⟨z, 1, none⟩ = some (.int .i64 iy) ∧ W.cell? ⟨z, 2, none⟩ = some (.int .i64 iw) from by
      have h1 := ((HL.out W (HO7.out.trans h)).cell t ht).1
      have h2 := ((HSr.out W (HO67.out.trans h)).cell t ht).1
      have h3 := ((HXr.out W h).cell t ht).1
      rw [← (HKN.out t ht).2.2.1] at h1
      rw [fl_at _ ht] at h2 h3
      have h4 := HC.out W (HO7.out.trans h)
      exact ⟨h1, h2, h3, h4.2.1, h4.2.2.1, h4.2.2.2.1⟩))
    have HOf := hide (fun t (ht : t < m) => (show 0 ≤ offS (szH xs n i ih) m ih y5 y8 t ∧ offS (szH xs n i ih) m ih y5 y8 t ≤ 10000 from by
      have h := offH_bd (just := y8) HT.out hi (show 0 ≤ ih ∧ ih ≤ 10000 by omega) (t := t) (by rw [HML.out]; exact ht)
      rw [HML.out, HY5.out] at h
      exact h))
    have HAr := hide (fun W (h : Only bo (bo + 1) W7 W) => HAm.out W (HO7.out.trans h))
    have HR7 := hide (HR6.out.below hb7 (by omega))
    have hz7m : Wm.heap.size ≤ W7.heap.size := by omega
    clear hr7 hb7 HOff hb1 hb5 hb8 hb1' hb5' hb8' HR5 HR6 HSr HXr HC HL HAm
    go_wp2
    go_loopw [17] (fun s14 wr => ∃ (t : Nat) (W9 : World) (f9 : Nat → RectI), t ≤ m ∧ s14 = .int .i64 t ∧ W9 = wr ∧ Hid (RR W9 bo oo n f9) ∧ Hid (PutK xs n root i t f f9) ∧ Hid (Only bo (bo + 1) W7 W9)) (fun s14 _ => m - (intOf s14).toNat)
    case atStart => exact ⟨0, _, _, Nat.zero_le _, rfl, rfl, HR7, HF1, hide (Only.refl _ _ _)⟩
    case round =>
      clear HR7 HF1
      obtain ⟨t, W9, f9, htm, rfl, rfl, HR9, HP9, HO9⟩ := hrel
      have hz9 := HO9.out.size
      by_cases hlt : t < m
      · have hlt' : (t : Int) < (m : Int) := by omega
        have hs := HS.out W9 HO9.out t hlt
        have hqs := HKN.out t hlt
        have hrc := HRc.out t hlt
        have hof := HOf.out t hlt
        have hso := HSzOk.out t hlt
        have HPn := hide (fun f2 (h : Put xs n root (kidN xs n i t) f9 f2) => HP9.out.next h)
        obtain ⟨q, hq⟩ : ∃ q, kidN xs n i t = q := ⟨_, rfl⟩
        rw [hq] at hs hqs hrc HPn
        obtain ⟨o, ho⟩ : ∃ o, offS (szH xs n i ih) m ih y5 y8 t = o := ⟨_, rfl⟩
        rw [ho] at hs hof
        obtain ⟨s, hss⟩ : ∃ s, szH xs n i ih t = s := ⟨_, rfl⟩
        rw [hss] at hs hso
        rw [show colR xs n i (ri ix iy iw ih) t = ri ix (iy + o) iw s by unfold colR; rw [HML.out, HY5.out, HY8.out]; show RectI.mk _ _ _ _ = RectI.mk _ _ _ _; simp only [ri]; rw [ho, hss]] at hrc
        have hqi : (q : Int) < (n : Int) := by omega
        have hcall := hide (show Calls Try.prog 38 #[.slice (some ⟨b, off, none⟩) n c, .int .i64 q, .agg #[.int .i64 ix, .int .i64 (iy + o), .int .i64 iw, .int .i64 s], .slice (some ⟨bo, oo, none⟩) n co] W9.drew (Placed xs n root bo oo q f9 W9.drew) from by
          have h := IHh.out q f9 W9.drew (HAr.out _ HO9.out.drew) HR9.out (by omega) (by omega)
          rw [hrc] at h
          exact h)
        have eo : IntKind.i64.wrap (iy + o) = iy + o := IntWalk.i64_in _ (by omega)
        have HSq := hide (fun W (h : Only bo (bo + 1) W7 W) => (show W.cell? ⟨bl, ol + t, none⟩ = some (.int .i64 (q : Int)) ∧ W.cell? ⟨bs, os + t, none⟩ = some (.int .i64 s) ∧ W.cell? ⟨bx, ox + t, none⟩ = some (.int .i64 o) ∧ W.cell? ⟨z, 0, none⟩ = some (.int .i64 ix) ∧ W.cell? ⟨z, 1, none⟩ = some (.int .i64 iy) ∧ W.cell? ⟨z, 2, none⟩ = some (.int .i64 iw) from by
          have h4 := HS.out W h t hlt
          rw [hq, ho, hss] at h4
          exact h4))
        obtain ⟨s1, s2, s3, s4, s5, s6⟩ := hs
        clear hq ho hss hrc hqs hof
        go_wp2_with fail
        first | go_region_held3 (fun w' => w'.cell? ⟨bl, ol + t, none⟩ = some (.int .i64 (q : Int)) ∧ w'.cell? ⟨bs, os + t, none⟩ = some (.int .i64 s) ∧ w'.cell? ⟨bx, ox + t, none⟩ = some (.int .i64 o) ∧ w'.cell? ⟨z, 0, none⟩ = some (.int .i64 ix) ∧ w'.cell? ⟨z, 1, none⟩ = some (.int .i64 iy) ∧ w'.cell? ⟨z, 2, none⟩ = some (.int .i64 iw)) (first | go_keep | exact t9) (first | (go_at_call 38; refine hcall.out.mono ?_; rintro e W10 ⟨rfl, ⟨f', hP', hR'⟩, hO'⟩; have HO10 := hide (HO9.out.drew.trans hO'); have HR10 := hide hR'; have HP10 := hide (HPn.out f' hP'); have t9 := HSq.out W10 HO10.out)) | fail
        clear hcall HPn hP' hR' hO' t9 s1 s2 s3 s4 s5 s6
        go_wp2
        go_roundw
        case rel => exact ⟨t + 1, _, _, by omega, by go_num, rfl, HR10, HP10, HO10⟩
        case measure => simp [intOf]; omega
      · obtain rfl : m = t := by omega
        have D := hide (show Placed xs n root bo oo i f w (.returned (.tuple #[])) W9 from ⟨rfl, ⟨f9, PutK.done (by rw [HML.out]; exact HP9.out), HR9.out⟩, HOm.out.trans (HO7.out.trans HO9.out)⟩)
        clear HR9 HP9 HO9
        go_wp2
        exact bodyPost_ret (v := .tuple #[]) (by simp [results, Try.results38]) rfl D.out
set_option maxRecDepth 100000 in
set_option maxHeartbeats 16000000 in
theorem placeBlk (B : Nat) (a : Option Addr) (n c : Nat) (xs : List Int) (root : RectI) (bo oo co : Nat) (hT : TreeP xs n) (hr : RcB 0 root) (hBo : B ≤ bo) (d i : Nat) (f : Nat → RectI) (w : World)
    (IH : PlaceIH B a n c xs root bo oo co d) (hA : Ints .i64 w B a (n * 9) xs) (hR : RR w bo oo n f) (hi : i < n) (hd : n - i ≤ d + 1) (hm : (kidsL xs n i).length ≠ 0) (hk2 : fld xs i 1 ≠ 2) (hk3 : fld xs i 1 ≠ 3) :
    Calls Try.prog 38 #[.slice a n c, .int .i64 i, RV (rc xs n root i), .slice (some ⟨bo, oo, none⟩) n co] w (Placed xs n root bo oo i f w) := by
  have IHh := hide IH
  clear IH
  have hn16 := hT.hi
  have hin : (i : Int) < (n : Int) := by omega
  have hbw : bo < w.heap.size := hR.lt (by omega)
  have HT := hide hT
  have HRB := hide (rc_ok hT hr hi)
  have hnum := hT.nums hi
  obtain ⟨⟨x, y0, u, v⟩, hRe⟩ : ∃ R, rc xs n root i = R := ⟨_, rfl⟩
  rw [hRe] at HRB
  have HRe := hide (show rc xs n root i = ri x y0 u v from hRe)
  have hRb := HRB.out
  have hx : 0 ≤ x ∧ x ≤ 50250 := ⟨hRb.x0, by have := hRb.x1; simpa using this⟩
  have hy : 0 ≤ y0 ∧ y0 ≤ 50250 := ⟨hRb.y0, by have := hRb.y1; simpa using this⟩
  have hu : 0 ≤ u ∧ u ≤ 10000 := ⟨hRb.w0, hRb.w1⟩
  have hv : 0 ≤ v ∧ v ≤ 10000 := ⟨hRb.h0, hRb.h1⟩
  have HF1 := hide (PutK.start (xs := xs) (n := n) (root := root) (i := i) (f := f) (f' := fun j => if j = i then ri x y0 u v else f j) (fun j => by rw [HRe.out]))
  rw [hRe]
  obtain ⟨b, off, rfl, hb9, h1, h2⟩ := hA.fldAt (by omega)
  have hc0 := h1 i hi
  have hc1 := h2 i 1 hi (by omega)
  have hc2 := h2 i 2 hi (by omega)
  have hc3 := h2 i 3 hi (by omega)
  have hc4 := h2 i 4 hi (by omega)
  have hc5 := h2 i 5 hi (by omega)
  have hc6 := h2 i 6 hi (by omega)
  have hc7 := h2 i 7 hi (by omega)
  have hc8 := h2 i 8 hi (by omega)
  obtain ⟨y, hy⟩ : ∃ y, par xs i = y := ⟨_, rfl⟩
  rw [hy] at hc0
  have HYc0 := hide hy
  clear hy
  obtain ⟨y1, hy1⟩ : ∃ y1, fld xs i 1 = y1 := ⟨_, rfl⟩
  rw [hy1] at hc1
  have HY1 := hide hy1
  clear hy1
  obtain ⟨y2, hy2⟩ : ∃ y2, fld xs i 2 = y2 := ⟨_, rfl⟩
  rw [hy2] at hc2
  have HY2 := hide hy2
  clear hy2
  obtain ⟨y3, hy3⟩ : ∃ y3, fld xs i 3 = y3 := ⟨_, rfl⟩
  rw [hy3] at hc3
  have HY3 := hide hy3
  clear hy3
  obtain ⟨y4, hy4⟩ : ∃ y4, fld xs i 4 = y4 := ⟨_, rfl⟩
  rw [hy4] at hc4
  have HY4 := hide hy4
  clear hy4
  obtain ⟨y5, hy5⟩ : ∃ y5, fld xs i 5 = y5 := ⟨_, rfl⟩
  rw [hy5] at hc5
  have HY5 := hide hy5
  clear hy5
  obtain ⟨y6, hy6⟩ : ∃ y6, fld xs i 6 = y6 := ⟨_, rfl⟩
  rw [hy6] at hc6
  have HY6 := hide hy6
  clear hy6
  obtain ⟨y7, hy7⟩ : ∃ y7, fld xs i 7 = y7 := ⟨_, rfl⟩
  rw [hy7] at hc7
  have HY7 := hide hy7
  clear hy7
  obtain ⟨y8, hy8⟩ : ∃ y8, fld xs i 8 = y8 := ⟨_, rfl⟩
  rw [hy8] at hc8
  have HY8 := hide hy8
  clear hy8
  clear h1 h2 hRe hRb hT
  obtain ⟨g0, g1, g2, g3⟩ := hR.get hi
  obtain ⟨q0, q1, q2, q3⟩ := hR.fr hi
  obtain ⟨-, -, -, hpad, hgap, -, -, hjust, -⟩ := hnum
  rw [HY4.out] at hpad
  rw [HY5.out] at hgap
  rw [HY8.out] at hjust
  show Calls Try.prog 38 #[.slice (some ⟨b, off, none⟩) n c, .int .i64 i, .agg #[.int .i64 x, .int .i64 y0, .int .i64 u, .int .i64 v], .slice (some ⟨bo, oo, none⟩) n co] w _
  have hB1 := hide (show Below w.heap.size w (w.alloc (.cells #[.int .i64 x, .int .i64 y0, .int .i64 u, .int .i64 v] 30)) from (Below.refl _ _).alloc (Nat.le_refl _) _)
  have hB2 := hide (show Below w.heap.size w ((w.alloc (.cells #[.int .i64 x, .int .i64 y0, .int .i64 u, .int .i64 v] 30)).alloc (.cells #[.int .i64 y, .int .i64 y1, .int .i64 y2, .int .i64 y3, .int .i64 y4, .int .i64 y5, .int .i64 y6, .int .i64 y7, .int .i64 y8] 43)) from ((Below.refl _ _).alloc (Nat.le_refl _) _).alloc (by simp) _)
  have hd0 := (hB1.out.cell (p := ⟨b, off + i * 9, none⟩) (by show b < w.heap.size; omega)).trans hc0
  have hd1 := (hB1.out.cell (p := ⟨b, off + i * 9 + 1, none⟩) (by show b < w.heap.size; omega)).trans hc1
  have hd2 := (hB1.out.cell (p := ⟨b, off + i * 9 + 2, none⟩) (by show b < w.heap.size; omega)).trans hc2
  have hd3 := (hB1.out.cell (p := ⟨b, off + i * 9 + 3, none⟩) (by show b < w.heap.size; omega)).trans hc3
  have hd4 := (hB1.out.cell (p := ⟨b, off + i * 9 + 4, none⟩) (by show b < w.heap.size; omega)).trans hc4
  have hd5 := (hB1.out.cell (p := ⟨b, off + i * 9 + 5, none⟩) (by show b < w.heap.size; omega)).trans hc5
  have hd6 := (hB1.out.cell (p := ⟨b, off + i * 9 + 6, none⟩) (by show b < w.heap.size; omega)).trans hc6
  have hd7 := (hB1.out.cell (p := ⟨b, off + i * 9 + 7, none⟩) (by show b < w.heap.size; omega)).trans hc7
  have hd8 := (hB1.out.cell (p := ⟨b, off + i * 9 + 8, none⟩) (by show b < w.heap.size; omega)).trans hc8
  have e0 := (hB2.out.cell (p := ⟨bo, oo + i * 4, none⟩) (by show bo < w.heap.size; omega)).trans g0
  have k0 := (hB2.out.frozen (p := ⟨bo, oo + i * 4, none⟩) (by show bo < w.heap.size; omega)).trans q0
  have e1 := (hB2.out.cell (p := ⟨bo, oo + i * 4 + 1, none⟩) (by show bo < w.heap.size; omega)).trans g1
  have k1 := (hB2.out.frozen (p := ⟨bo, oo + i * 4 + 1, none⟩) (by show bo < w.heap.size; omega)).trans q1
  have e2 := (hB2.out.cell (p := ⟨bo, oo + i * 4 + 2, none⟩) (by show bo < w.heap.size; omega)).trans g2
  have k2 := (hB2.out.frozen (p := ⟨bo, oo + i * 4 + 2, none⟩) (by show bo < w.heap.size; omega)).trans q2
  have e3 := (hB2.out.cell (p := ⟨bo, oo + i * 4 + 3, none⟩) (by show bo < w.heap.size; omega)).trans g3
  have k3 := (hB2.out.frozen (p := ⟨bo, oo + i * 4 + 3, none⟩) (by show bo < w.heap.size; omega)).trans q3
  obtain ⟨⟨ix, iy, iw, ih⟩, hI⟩ : ∃ I, insetR (ri x y0 u v) y4 = I := ⟨_, rfl⟩
  have hib := insetR_bd (d := 5) (r := ri x y0 u v) (pad := y4) HRB.out hpad
  rw [hI] at hib
  have HI := hide (show insetR (ri x y0 u v) y4 = ri ix iy iw ih from hI)
  have hix : 0 ≤ ix ∧ ix ≤ 50300 := ⟨hib.x0, by have := hib.x1; simpa using this⟩
  have hiy : 0 ≤ iy ∧ iy ≤ 50300 := ⟨hib.y0, by have := hib.y1; simpa using this⟩
  have hiw : 0 ≤ iw ∧ iw ≤ 10000 := ⟨hib.w0, hib.w1⟩
  have hih : 0 ≤ ih ∧ ih ≤ 10000 := ⟨hib.h0, hib.h1⟩
  have HIn := hide (fun W => (show Calls Try.prog 49 #[.agg #[.int .i64 x, .int .i64 y0, .int .i64 u, .int .i64 v], .int .i64 y4] W fun e w' => e = .returned (.agg #[.int .i64 ix, .int .i64 iy, .int .i64 iw, .int .i64 ih]) ∧ Below W.heap.size W w' from by
    have h := specInset_any x y0 u v y4 W (by omega) (by omega) hu hv hpad
    rw [hI] at h
    exact h))
  clear hib hI
  obtain ⟨X, hX⟩ : ∃ X, ((((w.setCell ⟨bo, oo + i * 4, none⟩ (.int .i64 x)).setCell ⟨bo, oo + i * 4 + 1, none⟩ (.int .i64 y0)).setCell ⟨bo, oo + i * 4 + 2, none⟩ (.int .i64 u)).setCell ⟨bo, oo + i * 4 + 3, none⟩ (.int .i64 v)) = X := ⟨_, rfl⟩
  have HRX := hide (show RR X bo oo n (fun j => if j = i then ri x y0 u v else f j) by rw [← hX]; exact hR.put hi (ri x y0 u v) (fun j => rfl))
  have HOX := hide (show Only bo (bo + 1) w X by rw [← hX]; exact (((((Only.refl _ _ _).set (Nat.le_refl _) (by omega) _).set (Nat.le_refl _) (by omega) _).set (Nat.le_refl _) (by omega) _).set (Nat.le_refl _) (by omega) _))
  have hzX : X.heap.size = w.heap.size := by rw [← hX]; simp
  have HX := hide hX
  clear hX
  have HAo := hide (fun W (h : Only bo (bo + 1) w W) => hA.only h hBo (by omega))
  clear hA hR
  go_enter Try.func38, Try.ntmps38
  go_wp2_with fail
  rw [HX.out]
  clear HX hd0 hd1 hd2 hd3 hd4 hd5 hd6 hd7 hd8 hc0 hc1 hc2 hc3 hc4 hc5 hc6 hc7 hc8 e0 e1 e2 e3 k0 k1 k2 k3 g0 g1 g2 g3 q0 q1 q2 q3 hB1 hB2
  have HBa : Below X.heap.size X ((X.alloc (.cells #[.int .i64 x, .int .i64 y0, .int .i64 u, .int .i64 v] 30)).alloc (.cells #[.int .i64 y, .int .i64 y1, .int .i64 y2, .int .i64 y3, .int .i64 y4, .int .i64 y5, .int .i64 y6, .int .i64 y7, .int .i64 y8] 43)) := ((Below.refl _ _).alloc (Nat.le_refl _) _).alloc (by simp) _
  have hBx : ((X.alloc (.cells #[.int .i64 x, .int .i64 y0, .int .i64 u, .int .i64 v] 30)).alloc (.cells #[.int .i64 y, .int .i64 y1, .int .i64 y2, .int .i64 y3, .int .i64 y4, .int .i64 y5, .int .i64 y6, .int .i64 y7, .int .i64 y8] 43)).heap[w.heap.size + 1]? = some (.cells #[.int .i64 y, .int .i64 y1, .int .i64 y2, .int .i64 y3, .int .i64 y4, .int .i64 y5, .int .i64 y6, .int .i64 y7, .int .i64 y8] 43 (0, 0)) := by have h := heap_alloc_new (X.alloc (.cells #[.int .i64 x, .int .i64 y0, .int .i64 u, .int .i64 v] 30)) (.cells #[.int .i64 y, .int .i64 y1, .int .i64 y2, .int .i64 y3, .int .i64 y4, .int .i64 y5, .int .i64 y6, .int .i64 y7, .int .i64 y8] 43); simp only [World.size_alloc, hzX] at h; exact h
  have hza : ((X.alloc (.cells #[.int .i64 x, .int .i64 y0, .int .i64 u, .int .i64 v] 30)).alloc (.cells #[.int .i64 y, .int .i64 y1, .int .i64 y2, .int .i64 y3, .int .i64 y4, .int .i64 y5, .int .i64 y6, .int .i64 y7, .int .i64 y8] 43)).heap.size = w.heap.size + 2 := by simp [hzX]
  generalize ((X.alloc (.cells #[.int .i64 x, .int .i64 y0, .int .i64 u, .int .i64 v] 30)).alloc (.cells #[.int .i64 y, .int .i64 y1, .int .i64 y2, .int .i64 y3, .int .i64 y4, .int .i64 y5, .int .i64 y6, .int .i64 y7, .int .i64 y8] 43)) = Wa at HBa hBx hza ⊢
  have HRa := hide (HRX.out.below HBa (by omega))
  have HOa := hide (HOX.out.trans (Only.ofBelow HBa))
  clear HBa HRX HOX hzX
  refine (HIn.out Wa).mono ?_
  rintro e W3 ⟨rfl, hb3⟩
  have hz3 := hb3.size
  have HB4 : Below Wa.heap.size Wa (W3.alloc (.cells #[.int .i64 ix, .int .i64 iy, .int .i64 iw, .int .i64 ih] 30)) := hb3.alloc hz3 _
  have hIn : (W3.alloc (.cells #[.int .i64 ix, .int .i64 iy, .int .i64 iw, .int .i64 ih] 30)).heap[W3.heap.size]? = some (.cells #[.int .i64 ix, .int .i64 iy, .int .i64 iw, .int .i64 ih] 30 (0, 0)) := heap_alloc_new W3 _
  have hBx4 := (HB4.block (w.heap.size + 1) (by omega)).trans hBx
  have HR4 := hide (HRa.out.below HB4 (by omega))
  have HO4 := hide (HOa.out.trans (Only.ofBelow HB4))
  have hz4 : (W3.alloc (.cells #[.int .i64 ix, .int .i64 iy, .int .i64 iw, .int .i64 ih] 30)).heap.size = W3.heap.size + 1 := by simp
  have hi5 : (W3.alloc (.cells #[.int .i64 ix, .int .i64 iy, .int .i64 iw, .int .i64 ih] 30)).cell? ⟨w.heap.size + 1, 4, none⟩ = some (.int .i64 y4) := by rw [cell_of_row _ _ 4 _ _ (0, 0) hBx4]; rfl
  have hc1 : (W3.alloc (.cells #[.int .i64 ix, .int .i64 iy, .int .i64 iw, .int .i64 ih] 30)).cell? ⟨w.heap.size + 1, 1, none⟩ = some (.int .i64 y1) := by rw [cell_of_row _ _ 1 _ _ (0, 0) hBx4]; rfl
  have HK := hide (specKidsL_any B (some ⟨b, off, none⟩) n c xs i (W3.alloc (.cells #[.int .i64 ix, .int .i64 iy, .int .i64 iw, .int .i64 ih] 30)) (HAo.out _ HO4.out) (by have := HO4.out.size; omega) (by omega) hi HT.out.pre)
  clear HRa HOa HIn hBx hb3 HB4
  obtain ⟨z, hz⟩ : ∃ z, W3.heap.size = z := ⟨_, rfl⟩
  rw [hz] at hIn hz4 hz3
  go_wp2_with fail
  refine HK.out.mono ?_
  rintro e Wm ⟨A, m, c', rfl, hrow, hbm⟩
  have HRm := hide (HR4.out.below hbm (by omega))
  have HOm := hide (HO4.out.trans (Only.ofBelow hbm))
  have HAm := hide (fun W (h : Only bo (bo + 1) Wm W) => HAo.out W (HOm.out.trans h))
  have hzm := hbm.size
  have hBxm := (hbm.block (w.heap.size + 1) (by omega)).trans hBx4
  have hInm := (hbm.block z (by omega)).trans hIn
  have HC := hide (fun W (h : Only bo (bo + 1) Wm W) => (show (W.cell? ⟨w.heap.size + 1, 1, none⟩ = some (.int .i64 y1) ∧ W.cell? ⟨w.heap.size + 1, 5, none⟩ = some (.int .i64 y5) ∧ W.cell? ⟨w.heap.size + 1, 8, none⟩ = some (.int .i64 y8)) ∧ W.cell? ⟨z, 0, none⟩ = some (.int .i64 ix) ∧ W.cell? ⟨z, 1, none⟩ = some (.int .i64 iy) ∧ W.cell? ⟨z, 2, none⟩ = some (.int .i64 iw) ∧ W.cell? ⟨z, 3, none⟩ = some (.int .i64 ih) from by
    have h1 := (h.block (w.heap.size + 1) (by omega) (by omega)).trans hBxm
    have h2 := (h.block z (by omega) (by omega)).trans hInm
    exact ⟨⟨by rw [cell_of_row _ _ 1 _ _ (0, 0) h1]; rfl, by rw [cell_of_row _ _ 5 _ _ (0, 0) h1]; rfl, by rw [cell_of_row _ _ 8 _ _ (0, 0) h1]; rfl⟩, by rw [cell_of_row _ _ 0 _ _ (0, 0) h2]; rfl, by rw [cell_of_row _ _ 1 _ _ (0, 0) h2]; rfl, by rw [cell_of_row _ _ 2 _ _ (0, 0) h2]; rfl, by rw [cell_of_row _ _ 3 _ _ (0, 0) h2]; rfl⟩))
  have hlo : bo + 1 ≤ (W3.alloc (.cells #[.int .i64 ix, .int .i64 iy, .int .i64 iw, .int .i64 ih] 30)).heap.size := by omega
  obtain ⟨lo, hloe⟩ : ∃ lo, (W3.alloc (.cells #[.int .i64 ix, .int .i64 iy, .int .i64 iw, .int .i64 ih] 30)).heap.size = lo := ⟨_, rfl⟩
  rw [hloe] at hrow hlo hzm hz4
  have HL := hide (fun W (h : Only bo (bo + 1) Wm W) => hrow.far h (.inr hlo))
  have HML := hide hrow.1
  have hzw : bo < Wm.heap.size ∧ z < Wm.heap.size ∧ w.heap.size + 1 < Wm.heap.size ∧ w.heap.size + 2 ≤ z := by omega
  clear hrow hbm hIn hBx4 hi5 hc1 HK HR4 HO4 hBxm hInm hloe hz hza hz3 hz4
  rw [HY1.out] at hk2 hk3
  have hk2' : (y1 == 2) = false := by simp [hk2]
  have hk3' : (y1 == 3) = false := by simp [hk3]
  have hm1 : 1 ≤ m := by have := HML.out; omega
  have hm8 : m ≤ 8 := by have := HT.out.kidsLen hi; have := HML.out; omega
  have hm0' : ((m : Int) == 0) = false := by simp; omega
  have hPb := gap_bd hgap (show m - 1 ≤ 7 by omega)
  rw [show ((m - 1 : Nat) : Int) = (m : Int) - 1 by omega] at hPb
  obtain ⟨P, hP⟩ : ∃ P, y5 * ((m : Int) - 1) = P := ⟨_, rfl⟩
  rw [hP] at hPb
  have HRc := hide (fun t (ht : t < m) => (show rc xs n root (kidN xs n i t) = blkR xs n i (ri ix iy iw ih) t from by
    rw [rc_kid HT.out.pre (by rw [HML.out]; exact ht), HRe.out]
    unfold childR
    rw [if_neg (by rw [HY1.out]; exact hk2), if_neg (by rw [HY1.out]; exact hk3), HY4.out, HI.out]))
  obtain ⟨bl, ol, curL, rfl, -⟩ := (HL.out Wm (Only.refl _ _ _)).2 (by omega)
  clear HI HRe
  have hs1 := (HC.out Wm (Only.refl _ _ _)).2.2.1
  obtain ⟨⟨hb1, hb5, hb8⟩, -⟩ := HC.out Wm (Only.refl _ _ _)
  have HKN := hide (fun t (ht : t < m) => kidN_is (p := i) HT.out.pre (t := t) (by rw [HML.out]; exact ht))
  have HS := hide (fun W (h : Only bo (bo + 1) Wm W) t (ht : t < m) => (show W.cell? ⟨bl, ol + t, none⟩ = some (.int .i64 ((kidN xs n i t : Nat) : Int)) ∧ W.cell? ⟨z, 0, none⟩ = some (.int .i64 ix) ∧ W.cell? ⟨z, 2, none⟩ = some (.int .i64 iw) ∧ W.cell? ⟨w.heap.size + 1, 5, none⟩ = some (.int .i64 y5) from by
    have h1 := ((HL.out W h).cell t ht).1
    rw [← (HKN.out t ht).2.2.1] at h1
    have h4 := HC.out W h
    exact ⟨h1, h4.2.1, h4.2.2.2.1, h4.1.2.1⟩))
  have HYb := hide (fun t (ht : t ≤ m) => (show 0 ≤ blkY xs n i t ∧ blkY xs n i t ≤ 8000 from blkY_bd HT.out hi (by rw [HML.out]; exact ht)))
  have HNat := hide (fun (W : World) (h : Only bo (bo + 1) Wm W) (q : Nat) (hq : q < n) => specNat_any B (some ⟨b, off, none⟩) n c xs HT.out n q W (HAm.out W h) (by have := HOm.out.size; have := h.size; omega) (by omega) hq (by omega))
  have HNb := hide (fun q (hq : q < n) => nat_bd HT.out hq)
  clear HL
  go_wp2
  go_loopw [18, 19, 20, 21] (fun s18 s19 _ _ wr => ∃ (t : Nat) (W9 : World) (f9 : Nat → RectI), t ≤ m ∧ s18 = .int .i64 (iy + blkY xs n i t) ∧ s19 = .int .i64 t ∧ W9 = wr ∧ Hid (RR W9 bo oo n f9) ∧ Hid (PutK xs n root i t f f9) ∧ Hid (Only bo (bo + 1) Wm W9)) (fun _ s19 _ _ _ => m - (intOf s19).toNat)
  case atStart => exact ⟨0, _, _, Nat.zero_le _, by simp [blkY, sumF_nil], rfl, rfl, HRm, HF1, hide (Only.refl _ _ _)⟩
  case round =>
    clear HRm HF1
    obtain ⟨t, W9, f9, htm, rfl, rfl, rfl, HR9, HP9, HO9⟩ := hrel
    have hz9 := HO9.out.size
    have hyb := HYb.out t htm
    by_cases hlt : t < m
    · have hlt' : (t : Int) < (m : Int) := by omega
      have hs := HS.out W9 HO9.out t hlt
      have hqs := HKN.out t hlt
      have hrc := HRc.out t hlt
      have hyb1 := HYb.out (t + 1) (by omega)
      have DY := hide (show blkY xs n i (t + 1) = blkY xs n i t + (bsH xs n i t + fld xs i 5) by unfold blkY; rw [sumF_range_succ])
      have HPn := hide (fun f2 (h : Put xs n root (kidN xs n i t) f9 f2) => HP9.out.next h)
      obtain ⟨q, hq⟩ : ∃ q, kidN xs n i t = q := ⟨_, rfl⟩
      rw [hq] at hs hqs hrc HPn
      have hqn : q < n := hqs.2.1
      have hnat := HNat.out W9 HO9.out q hqn
      have hnb := HNb.out q hqn
      obtain ⟨kw, hkw⟩ : ∃ kw, (nat xs n q).1 = kw := ⟨_, rfl⟩
      obtain ⟨kh, hkh⟩ : ∃ kh, (nat xs n q).2 = kh := ⟨_, rfl⟩
      have hbs : bsH xs n i t = kh := by unfold bsH; rw [hq, hkh]
      rw [hkw, hkh] at hnat hnb
      rw [hbs, HY5.out] at DY
      obtain ⟨o, ho⟩ : ∃ o, blkY xs n i t = o := ⟨_, rfl⟩
      rw [ho] at hyb DY
      rw [ho]
      rw [show blkR xs n i (ri ix iy iw ih) t = ri ix (iy + o) iw kh by unfold blkR; show RectI.mk _ _ _ _ = RectI.mk _ _ _ _; simp only [ri]; rw [ho, hbs]] at hrc
      have hqi : (q : Int) < (n : Int) := by omega
      have hcall := hide (fun (W : World) (h : Only bo (bo + 1) Wm W) (hr : RR W bo oo n f9) => (show Calls Try.prog 38 #[.slice (some ⟨b, off, none⟩) n c, .int .i64 q, .agg #[.int .i64 ix, .int .i64 (iy + o), .int .i64 iw, .int .i64 kh], .slice (some ⟨bo, oo, none⟩) n co] W (Placed xs n root bo oo q f9 W) from by
        have h := IHh.out q f9 W (HAm.out _ h) hr (by omega) (by omega)
        rw [hrc] at h
        exact h))
      have HSq := hide (fun W (h : Only bo (bo + 1) Wm W) => (show W.cell? ⟨bl, ol + t, none⟩ = some (.int .i64 (q : Int)) ∧ W.cell? ⟨z, 0, none⟩ = some (.int .i64 ix) ∧ W.cell? ⟨z, 2, none⟩ = some (.int .i64 iw) ∧ W.cell? ⟨w.heap.size + 1, 5, none⟩ = some (.int .i64 y5) from by
        have h4 := HS.out W h t hlt
        rw [hq] at h4
        exact h4))
      obtain ⟨s1, s2, s3, s4⟩ := hs
      clear hq ho hbs hkw hkh hrc hqs
      go_wp2_with fail
      refine hnat.mono ?_
      rintro e W8 ⟨rfl, hb8⟩
      have HO8 := hide (HO9.out.trans (Only.ofBelow hb8))
      have HR8 := hide (HR9.out.below hb8 (by omega))
      have hc8 := hcall.out W8.drew HO8.out.drew HR8.out
      obtain ⟨u1, u2, u3, u4⟩ := HSq.out W8 HO8.out
      clear s1 s2 s3 s4 hb8
      go_wp2_with fail
      first | go_region_held3 (fun w' => w'.cell? ⟨bl, ol + t, none⟩ = some (.int .i64 (q : Int)) ∧ w'.cell? ⟨z, 0, none⟩ = some (.int .i64 ix) ∧ w'.cell? ⟨z, 2, none⟩ = some (.int .i64 iw)) (first | go_keep | exact t9) (first | (go_at_call 38; refine hc8.mono ?_; rintro e W10 ⟨rfl, ⟨f', hP', hR'⟩, hO'⟩; have HO10 := hide (HO8.out.drew.trans hO'); have HR10 := hide hR'; have HP10 := hide (HPn.out f' hP'); have t4 := (HSq.out W10 HO10.out).2.2.2; have t9 := (show W10.cell? ⟨bl, ol + t, none⟩ = some (.int .i64 (q : Int)) ∧ W10.cell? ⟨z, 0, none⟩ = some (.int .i64 ix) ∧ W10.cell? ⟨z, 2, none⟩ = some (.int .i64 iw) from ⟨(HSq.out W10 HO10.out).1, (HSq.out W10 HO10.out).2.1, (HSq.out W10 HO10.out).2.2.1⟩))) | fail
      clear hcall HPn hP' hR' hO' t9 u1 u2 u3 u4 hc8
      go_wp2
      go_roundw
      case rel => exact ⟨t + 1, _, _, by omega, by rw [DY.out]; congr 1; omega, by go_num, rfl, HR10, HP10, HO10⟩
      case measure => simp [intOf]; omega
    · obtain rfl : m = t := by omega
      have D := hide (show Placed xs n root bo oo i f w (.returned (.tuple #[])) W9 from ⟨rfl, ⟨f9, PutK.done (by rw [HML.out]; exact HP9.out), HR9.out⟩, HOm.out.trans HO9.out⟩)
      clear HR9 HP9 HO9
      go_wp2
      exact bodyPost_ret (v := .tuple #[]) (by simp [results, Try.results38]) rfl D.out
theorem specPlace_any (B : Nat) (a : Option Addr) (n c : Nat) (xs : List Int) (root : RectI) (bo oo co : Nat) (hT : TreeP xs n) (hr : RcB 0 root) (hBo : B ≤ bo) : ∀ d, PlaceIH B a n c xs root bo oo co d := by
  intro d
  induction d with
  | zero => intro i f w _ _ hi hd; omega
  | succ d ih =>
    intro i f w hA hR hi hd
    by_cases hk : (kidsL xs n i).length = 0
    · exact placeNone B a n c xs root bo oo co hT hr hBo d i f w ih hA hR hi hd hk
    · by_cases h2 : fld xs i 1 = 2
      · exact placeRow B a n c xs root bo oo co hT hr hBo d i f w ih hA hR hi hd hk h2
      · by_cases h3 : fld xs i 1 = 3
        · exact placeCol B a n c xs root bo oo co hT hr hBo d i f w ih hA hR hi hd hk h3
        · exact placeBlk B a n c xs root bo oo co hT hr hBo d i f w ih hA hR hi hd hk h2 h3
end Go.Proofs.Ythgliihdaockoaa
