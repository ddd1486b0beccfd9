/- Layout: natural sizes: the reference and the program. Conditions: none. -/
import Derived.Test.YthgliihdaockoaaLayK
namespace Go.Proofs.Ythgliihdaockoaa
open Go.RowKit
set_option linter.unusedVariables false
set_option linter.unusedSimpArgs false
/-- what the first t boxes of a list need side by side, and across -/
def accA (g : Int) (f : Int → Int) (L : List Int) (base : Int) (t : Nat) : Int := base + g * ((t - 1 : Nat) : Int) + sumI ((L.take t).map f)
def accB (f : Int → Int) (L : List Int) (base : Int) (t : Nat) : Int := maxL base ((L.take t).map f)
theorem take_snoc {L : List Int} {t : Nat} (ht : t < L.length) : L.take (t + 1) = L.take t ++ [L.getD t 0] := by
  rw [List.take_succ_eq_append_getElem ht, List.getD_eq_getElem?_getD, List.getElem?_eq_getElem ht]; rfl
theorem accA_zero (g : Int) (f : Int → Int) (L : List Int) (base : Int) : accA g f L base 0 = base := by simp [accA, sumI_nil]
theorem accB_zero (f : Int → Int) (L : List Int) (base : Int) : accB f L base 0 = base := by simp [accB, maxL]
theorem accA_succ {g : Int} {f : Int → Int} {L : List Int} {base : Int} {t : Nat} (ht : t < L.length) : accA g f L base (t + 1) = accA g f L base t + (if t = 0 then 0 else g) + f (L.getD t 0) := by
  rw [accA, accA, take_snoc ht, List.map_append, sumI_append]
  rcases t with _ | t
  · simp [sumI_cons, sumI_nil]
  · rw [if_neg (by omega)]
    show base + g * ((t + 1 + 1 - 1 : Nat) : Int) + _ = base + g * ((t + 1 - 1 : Nat) : Int) + _ + g + _
    rw [show t + 1 + 1 - 1 = t + 1 by omega, show t + 1 - 1 = t by omega, show ((t + 1 : Nat) : Int) = (t : Int) + 1 by omega, Int.mul_add, Int.mul_one]
    simp [sumI_cons, sumI_nil]
    omega
theorem accB_succ {f : Int → Int} {L : List Int} {base : Int} {t : Nat} (ht : t < L.length) : accB f L base (t + 1) = max (accB f L base t) (f (L.getD t 0)) := by
  rw [accB, accB, take_snoc ht, List.map_append]
  exact maxL_snoc _ _ _
theorem sumI_take_le {L : List Int} {f : Int → Int} (h : ∀ x ∈ L, 0 ≤ f x) (t : Nat) : 0 ≤ sumI ((L.take t).map f) ∧ sumI ((L.take t).map f) ≤ sumI (L.map f) := by
  have h1 : sumI (L.map f) = sumI ((L.take t).map f) + sumI ((L.drop t).map f) := by rw [← sumI_append, ← List.map_append, List.take_append_drop]
  have h2 := sumI_nonneg (L := (L.take t).map f) (fun y hy => by obtain ⟨x, hx, rfl⟩ := List.mem_map.1 hy; exact h x (List.mem_of_mem_take hx))
  have h3 := sumI_nonneg (L := (L.drop t).map f) (fun y hy => by obtain ⟨x, hx, rfl⟩ := List.mem_map.1 hy; exact h x (List.mem_of_mem_drop hx))
  omega
theorem accA_bd {g : Int} {f : Int → Int} {L : List Int} {base : Int} (hg : 0 ≤ g ∧ g ≤ 50) (hb : 0 ≤ base ∧ base ≤ 100) (hL : L.length ≤ 8) (h : ∀ x ∈ L, 0 ≤ f x) (hs : sumI (L.map f) ≤ 7200) {t : Nat} (ht : t ≤ L.length) :
    0 ≤ accA g f L base t ∧ accA g f L base t ≤ 7650 := by
  have h1 := sumI_take_le h t
  have h2 := gap_bd hg (show t - 1 ≤ 7 by omega)
  unfold accA
  omega
theorem accB_bd {f : Int → Int} {L : List Int} {base : Int} (hb : 0 ≤ base ∧ base ≤ 100) (h : ∀ x ∈ L, 0 ≤ f x) (hs : sumI (L.map f) ≤ 7200) (t : Nat) : 0 ≤ accB f L base t ∧ accB f L base t ≤ 7300 := by
  have h1 := sumI_take_le h t
  have h2 := maxL_le (a := base) hb.1 (L := (L.take t).map f) (fun y hy => by obtain ⟨x, hx, rfl⟩ := List.mem_map.1 hy; exact h x (List.mem_of_mem_take hx))
  unfold accB
  omega
theorem nat_row {xs : List Int} {n i : Nat} (hp : Pre xs n) (hi : i < n) (h : fld xs i 1 = 2) : nat xs n i = (accA (fld xs i 5) (natW xs n) (kidsL xs n i) (fld xs i 2) (kidsL xs n i).length + 2 * fld xs i 4, accB (natH xs n) (kidsL xs n i) (fld xs i 3) (kidsL xs n i).length + 2 * fld xs i 4) := by
  rw [nat_eq hp hi, if_pos h, accA, accB, List.take_length]
theorem nat_col {xs : List Int} {n i : Nat} (hp : Pre xs n) (hi : i < n) (h : fld xs i 1 ≠ 2) : nat xs n i = (accB (natW xs n) (kidsL xs n i) (fld xs i 2) (kidsL xs n i).length + 2 * fld xs i 4, accA (fld xs i 5) (natH xs n) (kidsL xs n i) (fld xs i 3) (kidsL xs n i).length + 2 * fld xs i 4) := by
  rw [nat_eq hp hi, if_neg h, accA, accB, List.take_length]
/-- the three blocks of a call of the program's natural -/
structure NatW (w W : World) (bx : Array Value) (iw ih : Int) : Prop where
  below : Below w.heap.size w W
  r0 : W.heap[w.heap.size]? = some (.cells #[.int .i64 0, .int .i64 0] 66 (0, 0))
  r1 : W.heap[w.heap.size + 1]? = some (.cells bx 43 (0, 0))
  r2 : W.heap[w.heap.size + 1 + 1]? = some (.cells #[.int .i64 iw, .int .i64 ih] 66 (0, 0))
theorem NatW.sz {w W : World} {bx : Array Value} {iw ih : Int} (h : NatW w W bx iw ih) : w.heap.size + 3 ≤ W.heap.size := (Array.getElem?_eq_some_iff.1 h.r2).1
theorem NatW.later {w W W' : World} {bx : Array Value} {iw ih : Int} (h : NatW w W bx iw ih) (hb : Below W.heap.size W W') : NatW w W' bx iw ih where
  below := h.below.trans (hb.mono (by have := h.sz; omega))
  r0 := (hb.block _ (by have := h.sz; omega)).trans h.r0
  r1 := (hb.block _ (by have := h.sz; omega)).trans h.r1
  r2 := (hb.block _ (by have := h.sz; omega)).trans h.r2
theorem NatW.put {w W : World} {bx : Array Value} {iw ih : Int} (h : NatW w W bx iw ih) (x y : Int) : NatW w ((W.setCell ⟨w.heap.size + 1 + 1, 0, none⟩ (.int .i64 x)).setCell ⟨w.heap.size + 1 + 1, 1, none⟩ (.int .i64 y)) bx x y where
  below := (h.below.setCell (p := ⟨w.heap.size + 1 + 1, 0, none⟩) (by show w.heap.size ≤ w.heap.size + 1 + 1; omega) _).setCell (p := ⟨w.heap.size + 1 + 1, 1, none⟩) (by show w.heap.size ≤ w.heap.size + 1 + 1; omega) _
  r0 := by rw [Below.heap_setCell _ _ _ _ (by show w.heap.size ≠ w.heap.size + 1 + 1; omega), Below.heap_setCell _ _ _ _ (by show w.heap.size ≠ w.heap.size + 1 + 1; omega)]; exact h.r0
  r1 := by rw [Below.heap_setCell _ _ _ _ (by show w.heap.size + 1 ≠ w.heap.size + 1 + 1; omega), Below.heap_setCell _ _ _ _ (by show w.heap.size + 1 ≠ w.heap.size + 1 + 1; omega)]; exact h.r1
  r2 := by simp [World.setCell, Array.getElem?_modify, h.r2]
theorem NatW.start (w : World) (bx : Array Value) (iw ih : Int) : NatW w (((w.alloc (.cells #[.int .i64 0, .int .i64 0] 66)).alloc (.cells bx 43)).alloc (.cells #[.int .i64 iw, .int .i64 ih] 66)) bx iw ih where
  below := (((Below.refl _ _).alloc (Nat.le_refl _) _).alloc (by simp) _).alloc (by simp; omega) _
  r0 := by rw [heap_alloc_old _ _ (by simp; omega), heap_alloc_old _ _ (by simp)]; exact heap_alloc_new w _
  r1 := by rw [heap_alloc_old _ _ (by simp)]; have h := heap_alloc_new (w.alloc (.cells #[.int .i64 0, .int .i64 0] 66)) (.cells bx 43); simp only [World.size_alloc] at h; exact h
  r2 := by have h := heap_alloc_new ((w.alloc (.cells #[.int .i64 0, .int .i64 0] 66)).alloc (.cells bx 43)) (.cells #[.int .i64 iw, .int .i64 ih] 66); simp only [World.size_alloc] at h; exact h
section
variable {w W : World} {bx : Array Value} {iw ih : Int}
theorem NatW.box (h : NatW w W bx iw ih) (j : Nat) (v : Int) (hv : bx[j]? = some (.int .i64 v)) : W.cell? ⟨w.heap.size + 1, j, none⟩ = some (.int .i64 v) := by rw [cell_of_row _ _ j _ _ (0, 0) h.r1]; exact hv
theorem NatW.in0 (h : NatW w W bx iw ih) : W.cell? ⟨w.heap.size + 1 + 1, 0, none⟩ = some (.int .i64 iw) := by rw [cell_of_row _ _ 0 _ _ (0, 0) h.r2]; rfl
theorem NatW.in1 (h : NatW w W bx iw ih) : W.cell? ⟨w.heap.size + 1 + 1, 1, none⟩ = some (.int .i64 ih) := by rw [cell_of_row _ _ 1 _ _ (0, 0) h.r2]; rfl
theorem NatW.fr (h : NatW w W bx iw ih) (j : Nat) : W.frozen? ⟨w.heap.size + 1 + 1, j, none⟩ = false := by simp [World.frozen?, h.r2]
theorem NatW.res0 (h : NatW w W bx iw ih) : W.cell? ⟨w.heap.size, 0, none⟩ = some (.int .i64 0) := by rw [cell_of_row _ _ 0 _ _ (0, 0) h.r0]; rfl
theorem NatW.res1 (h : NatW w W bx iw ih) : W.cell? ⟨w.heap.size, 1, none⟩ = some (.int .i64 0) := by rw [cell_of_row _ _ 1 _ _ (0, 0) h.r0]; rfl
theorem NatW.rfr (h : NatW w W bx iw ih) (j : Nat) : W.frozen? ⟨w.heap.size, j, none⟩ = false := by simp [World.frozen?, h.r0]
theorem NatW.out (h : NatW w W bx iw ih) (x y : Int) : ((W.setCell ⟨w.heap.size, 0, none⟩ (.int .i64 x)).setCell ⟨w.heap.size, 1, none⟩ (.int .i64 y)).cell? ⟨w.heap.size, 0, none⟩ = some (.int .i64 x) ∧ ((W.setCell ⟨w.heap.size, 0, none⟩ (.int .i64 x)).setCell ⟨w.heap.size, 1, none⟩ (.int .i64 y)).cell? ⟨w.heap.size, 1, none⟩ = some (.int .i64 y) := by
  have h1 : ((W.setCell ⟨w.heap.size, 0, none⟩ (.int .i64 x)).setCell ⟨w.heap.size, 1, none⟩ (.int .i64 y)).heap[w.heap.size]? = some (.cells #[.int .i64 x, .int .i64 y] 66 (0, 0)) := by simp [World.setCell, Array.getElem?_modify, h.r0]
  exact ⟨by rw [cell_of_row _ _ 0 _ _ (0, 0) h1]; rfl, by rw [cell_of_row _ _ 1 _ _ (0, 0) h1]; rfl⟩
end
theorem new_cell (W : World) (x y : Int) : (W.alloc (.cells #[.int .i64 x, .int .i64 y] 66)).cell? ⟨W.heap.size, 0, none⟩ = some (.int .i64 x) := by rw [cell_of_row _ _ 0 _ _ (0, 0) (heap_alloc_new W _)]; rfl
theorem new_cell1 (W : World) (x y : Int) : (W.alloc (.cells #[.int .i64 x, .int .i64 y] 66)).cell? ⟨W.heap.size, 1, none⟩ = some (.int .i64 y) := by rw [cell_of_row _ _ 1 _ _ (0, 0) (heap_alloc_new W _)]; rfl
theorem Row.put2 {E : TypeId} {W : World} {lo hi m z : Nat} {A : Option Addr} {L : List Int} {u v : Value} (h : Row E W lo hi A m L) (hz : z < lo) : Row E ((W.setCell ⟨z, 0, none⟩ u).setCell ⟨z, 1, none⟩ v) lo hi A m L :=
  h.keep fun k h1 _ _ => by rw [Below.heap_setCell _ _ _ _ (by show k ≠ z; omega), Below.heap_setCell _ _ _ _ (by show k ≠ z; omega)]
set_option maxRecDepth 100000 in
set_option maxHeartbeats 8000000 in
theorem implNat_any (B : Nat) (a : Option Addr) (n c : Nat) (xs : List Int) (hT : TreeP xs n) : ∀ (d i : Nat) (w : World), Ints .i64 w B a (n * 9) xs → B ≤ w.heap.size → n ≤ 1048577 → i < n → n - i ≤ d →
    Calls Try.prog 43 #[.slice a n c, .int .i64 i] w fun e w' => e = .returned (.agg #[.int .i64 (nat xs n i).1, .int .i64 (nat xs n i).2]) ∧ Below w.heap.size w w' := by
  intro d
  induction d with
  | zero => intro i w hA hB hn hi hd; omega
  | succ d ihd =>
    intro i w hA hB hn hi hd
    have IH := hide ihd
    have HT := hide hT
    have hin : (i : Int) < (n : Int) := by omega
    have hn16 := hT.hi
    have HA := hide (fun W (h : Below w.heap.size w W) => hA.below h hB)
    have HK := hide (fun W (h : Below w.heap.size w W) => implKidsL_any B a n c xs i W (HA.out W h) (by have := h.size; omega) hn)
    have hnum := hT.nums hi
    have HX := hide (fun x (hx : x ∈ kidsL xs n i) => (show (0 ≤ x ∧ x < n ∧ (i : Int) < x) ∧ 0 ≤ natW xs n x ∧ 0 ≤ natH xs n x from by
      obtain ⟨h1, h2, h3, -⟩ := kid_gt hT.pre hx
      exact ⟨by omega, natW_nonneg hT h2, natH_nonneg hT h2⟩))
    have HKb := hide (fun q (hq : q < n) => nat_bd hT hq)
    have HS := hide (kids_bd hT hi)
    have hL8 := hT.kidsLen hi
    obtain ⟨b, off, rfl, hb9, h1, h2⟩ := hA.fldAt (by omega)
    clear ihd hT hA
    have hc0 := h1 i hi
    have hc1 := h2 i 1 hi (by omega)
    have hc2 := h2 i 2 hi (by omega)
    have hc3 := h2 i 3 hi (by omega)
    have hc4 := h2 i 4 hi (by omega)
    have hc5 := h2 i 5 hi (by omega)
    have hc6 := h2 i 6 hi (by omega)
    have hc7 := h2 i 7 hi (by omega)
    have hc8 := h2 i 8 hi (by omega)
    clear h1 h2
    generalize par xs i = y at hc0
    obtain ⟨y1, hy1⟩ : ∃ y1, fld xs i 1 = y1 := ⟨_, rfl⟩
    have HY1 := hide hy1
    rw [hy1] at hc1 hnum
    clear hy1
    obtain ⟨y2, hy2⟩ : ∃ y2, fld xs i 2 = y2 := ⟨_, rfl⟩
    have HY2 := hide hy2
    rw [hy2] at hc2 hnum
    clear hy2
    obtain ⟨y3, hy3⟩ : ∃ y3, fld xs i 3 = y3 := ⟨_, rfl⟩
    have HY3 := hide hy3
    rw [hy3] at hc3 hnum
    clear hy3
    obtain ⟨y4, hy4⟩ : ∃ y4, fld xs i 4 = y4 := ⟨_, rfl⟩
    have HY4 := hide hy4
    rw [hy4] at hc4 hnum
    clear hy4
    obtain ⟨y5, hy5⟩ : ∃ y5, fld xs i 5 = y5 := ⟨_, rfl⟩
    have HY5 := hide hy5
    rw [hy5] at hc5 hnum
    clear hy5
    obtain ⟨y6, hy6⟩ : ∃ y6, fld xs i 6 = y6 := ⟨_, rfl⟩
    rw [hy6] at hc6
    clear hy6
    obtain ⟨y7, hy7⟩ : ∃ y7, fld xs i 7 = y7 := ⟨_, rfl⟩
    rw [hy7] at hc7
    clear hy7
    obtain ⟨y8, hy8⟩ : ∃ y8, fld xs i 8 = y8 := ⟨_, rfl⟩
    rw [hy8] at hc8
    clear hy8
    have hd0 := (((Below.refl w.heap.size w).alloc (Nat.le_refl _) (.cells #[.int .i64 0, .int .i64 0] 66)).cell (p := ⟨b, off + i * 9, none⟩) (by show b < w.heap.size; omega)).trans hc0
    have hd1 := (((Below.refl w.heap.size w).alloc (Nat.le_refl _) (.cells #[.int .i64 0, .int .i64 0] 66)).cell (p := ⟨b, off + i * 9 + 1, none⟩) (by show b < w.heap.size; omega)).trans hc1
    have hd2 := (((Below.refl w.heap.size w).alloc (Nat.le_refl _) (.cells #[.int .i64 0, .int .i64 0] 66)).cell (p := ⟨b, off + i * 9 + 2, none⟩) (by show b < w.heap.size; omega)).trans hc2
    have hd3 := (((Below.refl w.heap.size w).alloc (Nat.le_refl _) (.cells #[.int .i64 0, .int .i64 0] 66)).cell (p := ⟨b, off + i * 9 + 3, none⟩) (by show b < w.heap.size; omega)).trans hc3
    have hd4 := (((Below.refl w.heap.size w).alloc (Nat.le_refl _) (.cells #[.int .i64 0, .int .i64 0] 66)).cell (p := ⟨b, off + i * 9 + 4, none⟩) (by show b < w.heap.size; omega)).trans hc4
    have hd5 := (((Below.refl w.heap.size w).alloc (Nat.le_refl _) (.cells #[.int .i64 0, .int .i64 0] 66)).cell (p := ⟨b, off + i * 9 + 5, none⟩) (by show b < w.heap.size; omega)).trans hc5
    have hd6 := (((Below.refl w.heap.size w).alloc (Nat.le_refl _) (.cells #[.int .i64 0, .int .i64 0] 66)).cell (p := ⟨b, off + i * 9 + 6, none⟩) (by show b < w.heap.size; omega)).trans hc6
    have hd7 := (((Below.refl w.heap.size w).alloc (Nat.le_refl _) (.cells #[.int .i64 0, .int .i64 0] 66)).cell (p := ⟨b, off + i * 9 + 7, none⟩) (by show b < w.heap.size; omega)).trans hc7
    have hd8 := (((Below.refl w.heap.size w).alloc (Nat.le_refl _) (.cells #[.int .i64 0, .int .i64 0] 66)).cell (p := ⟨b, off + i * 9 + 8, none⟩) (by show b < w.heap.size; omega)).trans hc8
    obtain ⟨-, hbase1, hbase2, hpad, hg, -⟩ := hnum
    have HN := hide (show NatW w (((w.alloc (.cells #[.int .i64 0, .int .i64 0] 66)).alloc (.cells #[.int .i64 y, .int .i64 y1, .int .i64 y2, .int .i64 y3, .int .i64 y4, .int .i64 y5, .int .i64 y6, .int .i64 y7, .int .i64 y8] 43)).alloc (.cells #[.int .i64 y2, .int .i64 y3] 66)) #[.int .i64 y, .int .i64 y1, .int .i64 y2, .int .i64 y3, .int .i64 y4, .int .i64 y5, .int .i64 y6, .int .i64 y7, .int .i64 y8] y2 y3 from NatW.start w #[.int .i64 y, .int .i64 y1, .int .i64 y2, .int .i64 y3, .int .i64 y4, .int .i64 y5, .int .i64 y6, .int .i64 y7, .int .i64 y8] y2 y3)
    obtain ⟨L, hL⟩ : ∃ L, kidsL xs n i = L := ⟨_, rfl⟩
    have HLe := hide hL
    rw [hL] at HX HS hL8 HK
    clear hL
    go_enter Try.func43, Try.ntmps43
    go_wp2_with fail
    generalize ((w.alloc (.cells #[.int .i64 0, .int .i64 0] 66)).alloc (.cells #[.int .i64 y, .int .i64 y1, .int .i64 y2, .int .i64 y3, .int .i64 y4, .int .i64 y5, .int .i64 y6, .int .i64 y7, .int .i64 y8] 43)).alloc (.cells #[.int .i64 y2, .int .i64 y3] 66) = W0 at HN ⊢
    refine (HK.out _ HN.out.below).mono ?_
    rintro e W1 ⟨A, m, c', rfl, hr, hb⟩
    have HN1 := hide (HN.out.later hb)
    have hz0 := HN.out.sz
    have hml : L.length = m := hr.1
    have HML := hide hml
    have hm8 : m ≤ 8 := by omega
    obtain ⟨lo, hlo⟩ : ∃ lo, W0.heap.size = lo := ⟨_, rfl⟩
    obtain ⟨hi9, hhi⟩ : ∃ hi9, W1.heap.size = hi9 := ⟨_, rfl⟩
    rw [hlo, hhi] at hr
    have HR := hide hr
    rw [hlo] at hz0
    clear hd0 hd1 hd2 hd3 hd4 hd5 hd6 hd7 hd8
    clear hr hb HN HK hml hlo hhi hc0 hc1 hc2 hc3 hc4 hc5 hc6 hc7 hc8 hL8
    have hL8 : L.length ≤ 8 := by rw [HML.out]; exact hm8
    by_cases hk : y1 = 2
    · have hk' : (y1 == 2) = true := by simpa using hk
      go_wp2
      go_loopw [8, 9, 10, 11, 26] (fun _ _ _ _ s26 wr => ∃ (t : Nat) (W9 : World), t ≤ m ∧ s26 = .int .i64 t ∧ W9 = wr ∧ Hid (NatW w W9 #[.int .i64 y, .int .i64 y1, .int .i64 y2, .int .i64 y3, .int .i64 y4, .int .i64 y5, .int .i64 y6, .int .i64 y7, .int .i64 y8] (accA y5 (natW xs n) L y2 t) (accB (natH xs n) L y3 t)) ∧ Hid (Row 3 W9 lo hi9 A m L)) (fun _ _ _ _ s26 _ => m - (intOf s26).toNat)
      case atStart => exact ⟨0, _, Nat.zero_le _, rfl, rfl, hide (by rw [accA_zero, accB_zero]; exact HN1.out), HR⟩
      case round =>
        clear HN1 HR
        obtain ⟨t, W9, htm, rfl, rfl, HN, HR⟩ := hrel
        have hz9 := HN.out.sz
        have htl : t ≤ L.length := by rw [HML.out]; exact htm
        have bA := accA_bd (f := natW xs n) (L := L) (base := y2) hg hbase1 hL8 (fun x hx => (HX.out x hx).2.1) HS.out.1 htl
        have bB := accB_bd (f := natH xs n) (L := L) (base := y3) hbase2 (fun x hx => (HX.out x hx).2.2) HS.out.2 t
        obtain ⟨iw, hiw⟩ : ∃ iw, accA y5 (natW xs n) L y2 t = iw := ⟨_, rfl⟩
        obtain ⟨ih, hih⟩ : ∃ ih, accB (natH xs n) L y3 t = ih := ⟨_, rfl⟩
        rw [hiw, hih] at HN
        rw [hiw] at bA
        rw [hih] at bB
        have HIW := hide hiw
        have HIH := hide hih
        clear hiw hih htl
        by_cases hlt : t < m
        · have htm' : (t : Int) < (m : Int) := by omega
          have htL : t < L.length := by rw [HML.out]; exact hlt
          obtain ⟨gb, go, rfl, -, hcell⟩ := HR.out.ints.2.2 (by omega)
          have hct := hcell t hlt
          have hx := HX.out _ (getD_mem htL)
          obtain ⟨q, hq⟩ : ∃ q : Nat, L.getD t 0 = q := ⟨(L.getD t 0).toNat, by omega⟩
          rw [hq] at hct hx
          have hcall := IH.out q W9 (HA.out _ HN.out.below) (by omega) hn (by omega) (by omega)
          have bK := HKb.out q (by omega)
          obtain ⟨kw, hkw⟩ : ∃ kw, (nat xs n q).1 = kw := ⟨_, rfl⟩
          obtain ⟨kh, hkh⟩ : ∃ kh, (nat xs n q).2 = kh := ⟨_, rfl⟩
          rw [hkw, hkh] at hcall bK
          have HQ := hide (show natW xs n (L.getD t 0) = kw ∧ natH xs n (L.getD t 0) = kh by rw [hq, natW_at, natH_at]; exact ⟨hkw, hkh⟩)
          clear hq hkw hkh hcell hx
          by_cases ht0 : t = 0
          · have ht0' : ((t : Int) == 0) = true := by simpa using ht0
            have H0 := hide ht0
            clear ht0
            have DA := hide (show accA y5 (natW xs n) L y2 (t + 1) = iw + 0 + kw by rw [accA_succ htL, HIW.out, HQ.out.1, if_pos H0.out])
            have DB := hide (show accB (natH xs n) L y3 (t + 1) = (if ih < kh then kh else ih) by rw [accB_succ htL, HIH.out, HQ.out.2]; split <;> omega)
            clear HIW HIH HQ
            go_wp2_with (go_at_call 43; refine hcall.mono ?_; rintro e W10 ⟨rfl, hb⟩; have HNa := hide ((HN.out.later hb).later ((Below.refl _ _).alloc (Nat.le_refl _) (.cells #[.int .i64 kw, .int .i64 kh] 66))); have HRa := hide ((HR.out.belowS hb).belowS ((Below.refl _ _).alloc (Nat.le_refl _) (.cells #[.int .i64 kw, .int .i64 kh] 66))); have a1 := HNa.out.box 1 y1 rfl; have a5 := HNa.out.box 5 y5 rfl; have i0 := HNa.out.in0; have i1 := HNa.out.in1; have f0 := HNa.out.fr 0; have f1 := HNa.out.fr 1; have k0 := new_cell W10 kw kh; have k1 := new_cell1 W10 kw kh; clear hb)
            go_roundw
            case rel => exact ⟨t + 1, _, by omega, by go_num, rfl, hide (by rw [DA.out, DB.out]; first | exact HNa.out.put _ _ | (simpa using HNa.out.put (iw + 0 + kw) ((if ih < kh then kh else ih)))), hide (HRa.out.put2 (by omega))⟩
            case measure => simp [intOf]; omega
          · have ht0' : ((t : Int) == 0) = false := by simpa using ht0
            have H0 := hide ht0
            clear ht0
            have DA := hide (show accA y5 (natW xs n) L y2 (t + 1) = iw + y5 + kw by rw [accA_succ htL, HIW.out, HQ.out.1, if_neg H0.out])
            have DB := hide (show accB (natH xs n) L y3 (t + 1) = (if ih < kh then kh else ih) by rw [accB_succ htL, HIH.out, HQ.out.2]; split <;> omega)
            clear HIW HIH HQ
            go_wp2_with (go_at_call 43; refine hcall.mono ?_; rintro e W10 ⟨rfl, hb⟩; have HNa := hide ((HN.out.later hb).later ((Below.refl _ _).alloc (Nat.le_refl _) (.cells #[.int .i64 kw, .int .i64 kh] 66))); have HRa := hide ((HR.out.belowS hb).belowS ((Below.refl _ _).alloc (Nat.le_refl _) (.cells #[.int .i64 kw, .int .i64 kh] 66))); have a1 := HNa.out.box 1 y1 rfl; have a5 := HNa.out.box 5 y5 rfl; have i0 := HNa.out.in0; have i1 := HNa.out.in1; have f0 := HNa.out.fr 0; have f1 := HNa.out.fr 1; have k0 := new_cell W10 kw kh; have k1 := new_cell1 W10 kw kh; clear hb)
            go_roundw
            case rel => exact ⟨t + 1, _, by omega, by go_num, rfl, hide (by rw [DA.out, DB.out]; first | exact HNa.out.put _ _ | (simpa using HNa.out.put (iw + y5 + kw) ((if ih < kh then kh else ih)))), hide (HRa.out.put2 (by omega))⟩
            case measure => simp [intOf]; omega
        · obtain rfl : m = t := by omega
          have a4 := HN.out.box 4 y4 rfl
          have i0 := HN.out.in0
          have i1 := HN.out.in1
          have r0 := HN.out.res0
          have r1 := HN.out.res1
          have e0 := HN.out.rfr 0
          have e1 := HN.out.rfr 1
          have D := hide (show nat xs n i = (iw + 2 * y4, ih + 2 * y4) by rw [nat_row HT.out.pre hi (by rw [HY1.out]; exact hk), HY2.out, HY3.out, HY4.out, HY5.out, HLe.out, HML.out, HIW.out, HIH.out])
          have DB := hide (HN.out.out (iw + 2 * y4) (ih + 2 * y4))
          have DC := hide (HN.out.below)
          clear HIW HIH HR HN
          go_wp2
          exact bodyPost_ret (v := .agg #[.int .i64 (iw + 2 * y4), .int .i64 (ih + 2 * y4)]) (by simp [results, Try.results43, go_sem, DB.out.1, DB.out.2]) rfl ⟨by rw [D.out], (DC.out.setCell (p := ⟨w.heap.size, 0, none⟩) (Nat.le_refl _) _).setCell (p := ⟨w.heap.size, 1, none⟩) (Nat.le_refl _) _⟩
    · have hk' : (y1 == 2) = false := by simpa using hk
      go_wp2
      go_loopw [8, 9, 10, 11, 26] (fun _ _ _ _ s26 wr => ∃ (t : Nat) (W9 : World), t ≤ m ∧ s26 = .int .i64 t ∧ W9 = wr ∧ Hid (NatW w W9 #[.int .i64 y, .int .i64 y1, .int .i64 y2, .int .i64 y3, .int .i64 y4, .int .i64 y5, .int .i64 y6, .int .i64 y7, .int .i64 y8] (accB (natW xs n) L y2 t) (accA y5 (natH xs n) L y3 t)) ∧ Hid (Row 3 W9 lo hi9 A m L)) (fun _ _ _ _ s26 _ => m - (intOf s26).toNat)
      case atStart => exact ⟨0, _, Nat.zero_le _, rfl, rfl, hide (by rw [accA_zero, accB_zero]; exact HN1.out), HR⟩
      case round =>
        clear HN1 HR
        obtain ⟨t, W9, htm, rfl, rfl, HN, HR⟩ := hrel
        have hz9 := HN.out.sz
        have htl : t ≤ L.length := by rw [HML.out]; exact htm
        have bA := accA_bd (f := natH xs n) (L := L) (base := y3) hg hbase2 hL8 (fun x hx => (HX.out x hx).2.2) HS.out.2 htl
        have bB := accB_bd (f := natW xs n) (L := L) (base := y2) hbase1 (fun x hx => (HX.out x hx).2.1) HS.out.1 t
        obtain ⟨iw, hiw⟩ : ∃ iw, accB (natW xs n) L y2 t = iw := ⟨_, rfl⟩
        obtain ⟨ih, hih⟩ : ∃ ih, accA y5 (natH xs n) L y3 t = ih := ⟨_, rfl⟩
        rw [hiw, hih] at HN
        rw [hih] at bA
        rw [hiw] at bB
        have HIW := hide hiw
        have HIH := hide hih
        clear hiw hih htl
        by_cases hlt : t < m
        · have htm' : (t : Int) < (m : Int) := by omega
          have htL : t < L.length := by rw [HML.out]; exact hlt
          obtain ⟨gb, go, rfl, -, hcell⟩ := HR.out.ints.2.2 (by omega)
          have hct := hcell t hlt
          have hx := HX.out _ (getD_mem htL)
          obtain ⟨q, hq⟩ : ∃ q : Nat, L.getD t 0 = q := ⟨(L.getD t 0).toNat, by omega⟩
          rw [hq] at hct hx
          have hcall := IH.out q W9 (HA.out _ HN.out.below) (by omega) hn (by omega) (by omega)
          have bK := HKb.out q (by omega)
          obtain ⟨kw, hkw⟩ : ∃ kw, (nat xs n q).1 = kw := ⟨_, rfl⟩
          obtain ⟨kh, hkh⟩ : ∃ kh, (nat xs n q).2 = kh := ⟨_, rfl⟩
          rw [hkw, hkh] at hcall bK
          have HQ := hide (show natW xs n (L.getD t 0) = kw ∧ natH xs n (L.getD t 0) = kh by rw [hq, natW_at, natH_at]; exact ⟨hkw, hkh⟩)
          clear hq hkw hkh hcell hx
          by_cases ht0 : t = 0
          · have ht0' : ((t : Int) == 0) = true := by simpa using ht0
            have H0 := hide ht0
            clear ht0
            have DA := hide (show accA y5 (natH xs n) L y3 (t + 1) = ih + 0 + kh by rw [accA_succ htL, HIH.out, HQ.out.2, if_pos H0.out])
            have DB := hide (show accB (natW xs n) L y2 (t + 1) = (if iw < kw then kw else iw) by rw [accB_succ htL, HIW.out, HQ.out.1]; split <;> omega)
            clear HIW HIH HQ
            go_wp2_with (go_at_call 43; refine hcall.mono ?_; rintro e W10 ⟨rfl, hb⟩; have HNa := hide ((HN.out.later hb).later ((Below.refl _ _).alloc (Nat.le_refl _) (.cells #[.int .i64 kw, .int .i64 kh] 66))); have HRa := hide ((HR.out.belowS hb).belowS ((Below.refl _ _).alloc (Nat.le_refl _) (.cells #[.int .i64 kw, .int .i64 kh] 66))); have a1 := HNa.out.box 1 y1 rfl; have a5 := HNa.out.box 5 y5 rfl; have i0 := HNa.out.in0; have i1 := HNa.out.in1; have f0 := HNa.out.fr 0; have f1 := HNa.out.fr 1; have k0 := new_cell W10 kw kh; have k1 := new_cell1 W10 kw kh; clear hb)
            go_roundw
            case rel => exact ⟨t + 1, _, by omega, by go_num, rfl, hide (by rw [DB.out, DA.out]; first | exact HNa.out.put _ _ | (simpa using HNa.out.put ((if iw < kw then kw else iw)) (ih + 0 + kh))), hide (HRa.out.put2 (by omega))⟩
            case measure => simp [intOf]; omega
          · have ht0' : ((t : Int) == 0) = false := by simpa using ht0
            have H0 := hide ht0
            clear ht0
            have DA := hide (show accA y5 (natH xs n) L y3 (t + 1) = ih + y5 + kh by rw [accA_succ htL, HIH.out, HQ.out.2, if_neg H0.out])
            have DB := hide (show accB (natW xs n) L y2 (t + 1) = (if iw < kw then kw else iw) by rw [accB_succ htL, HIW.out, HQ.out.1]; split <;> omega)
            clear HIW HIH HQ
            go_wp2_with (go_at_call 43; refine hcall.mono ?_; rintro e W10 ⟨rfl, hb⟩; have HNa := hide ((HN.out.later hb).later ((Below.refl _ _).alloc (Nat.le_refl _) (.cells #[.int .i64 kw, .int .i64 kh] 66))); have HRa := hide ((HR.out.belowS hb).belowS ((Below.refl _ _).alloc (Nat.le_refl _) (.cells #[.int .i64 kw, .int .i64 kh] 66))); have a1 := HNa.out.box 1 y1 rfl; have a5 := HNa.out.box 5 y5 rfl; have i0 := HNa.out.in0; have i1 := HNa.out.in1; have f0 := HNa.out.fr 0; have f1 := HNa.out.fr 1; have k0 := new_cell W10 kw kh; have k1 := new_cell1 W10 kw kh; clear hb)
            go_roundw
            case rel => exact ⟨t + 1, _, by omega, by go_num, rfl, hide (by rw [DB.out, DA.out]; first | exact HNa.out.put _ _ | (simpa using HNa.out.put ((if iw < kw then kw else iw)) (ih + y5 + kh))), hide (HRa.out.put2 (by omega))⟩
            case measure => simp [intOf]; omega
        · obtain rfl : m = t := by omega
          have a4 := HN.out.box 4 y4 rfl
          have i0 := HN.out.in0
          have i1 := HN.out.in1
          have r0 := HN.out.res0
          have r1 := HN.out.res1
          have e0 := HN.out.rfr 0
          have e1 := HN.out.rfr 1
          have D := hide (show nat xs n i = (iw + 2 * y4, ih + 2 * y4) by rw [nat_col HT.out.pre hi (by rw [HY1.out]; exact hk), HY2.out, HY3.out, HY4.out, HY5.out, HLe.out, HML.out, HIW.out, HIH.out])
          have DB := hide (HN.out.out (iw + 2 * y4) (ih + 2 * y4))
          have DC := hide (HN.out.below)
          clear HIW HIH HR HN
          go_wp2
          exact bodyPost_ret (v := .agg #[.int .i64 (iw + 2 * y4), .int .i64 (ih + 2 * y4)]) (by simp [results, Try.results43, go_sem, DB.out.1, DB.out.2]) rfl ⟨by rw [D.out], (DC.out.setCell (p := ⟨w.heap.size, 0, none⟩) (Nat.le_refl _) _).setCell (p := ⟨w.heap.size, 1, none⟩) (Nat.le_refl _) _⟩
end Go.Proofs.Ythgliihdaockoaa
