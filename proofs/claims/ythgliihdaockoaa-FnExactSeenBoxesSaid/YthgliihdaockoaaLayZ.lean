/- Layout: rows of rectangles. Conditions: none. -/
import Derived.Test.YthgliihdaockoaaLayI
import Derived.Test.YthgliihdaockoaaLayS
namespace Go.Proofs.Ythgliihdaockoaa
open Go.RowKit
set_option linter.unusedVariables false
set_option linter.unusedSimpArgs false
def rAt (r : RectI) (k : Nat) : Int := if k = 0 then r.x else if k = 1 then r.y else if k = 2 then r.w else r.h
def rG (f : Nat → RectI) (k : Nat) : Int := rAt (f (k / 4)) (k % 4)
theorem rG0 (f : Nat → RectI) (i : Nat) : rG f (i * 4) = (f i).x := by
  unfold rG; rw [show i * 4 / 4 = i by omega, show i * 4 % 4 = 0 by omega]; rfl
theorem rG1 (f : Nat → RectI) (i : Nat) : rG f (i * 4 + 1) = (f i).y := by
  unfold rG; rw [show (i * 4 + 1) / 4 = i by omega, show (i * 4 + 1) % 4 = 1 by omega]; rfl
theorem rG2 (f : Nat → RectI) (i : Nat) : rG f (i * 4 + 2) = (f i).w := by
  unfold rG; rw [show (i * 4 + 2) / 4 = i by omega, show (i * 4 + 2) % 4 = 2 by omega]; rfl
theorem rG3 (f : Nat → RectI) (i : Nat) : rG f (i * 4 + 3) = (f i).h := by
  unfold rG; rw [show (i * 4 + 3) / 4 = i by omega, show (i * 4 + 3) % 4 = 3 by omega]; rfl
/-- n rectangles in block bo -/
def RR (w : World) (bo oo n : Nat) (f : Nat → RectI) : Prop := Row 30 w bo (bo + 1) (some ⟨bo, oo, none⟩) (n * 4) (fl (n * 4) (rG f))
section
variable {w w' : World} {bo oo n : Nat} {f f' : Nat → RectI}
theorem RR.get (h : RR w bo oo n f) {i : Nat} (hi : i < n) :
    w.cell? ⟨bo, oo + i * 4, none⟩ = some (.int .i64 (f i).x) ∧ w.cell? ⟨bo, oo + i * 4 + 1, none⟩ = some (.int .i64 (f i).y) ∧ w.cell? ⟨bo, oo + i * 4 + 2, none⟩ = some (.int .i64 (f i).w) ∧ w.cell? ⟨bo, oo + i * 4 + 3, none⟩ = some (.int .i64 (f i).h) := by
  have h0 := (h.cell (i * 4) (by omega)).1
  have h1 := (h.cell (i * 4 + 1) (by omega)).1
  have h2 := (h.cell (i * 4 + 2) (by omega)).1
  have h3 := (h.cell (i * 4 + 3) (by omega)).1
  rw [fl_at _ (by omega), rG0] at h0
  rw [fl_at _ (by omega), rG1] at h1
  rw [fl_at _ (by omega), rG2] at h2
  rw [fl_at _ (by omega), rG3] at h3
  exact ⟨h0, h1, h2, h3⟩
theorem RR.fr (h : RR w bo oo n f) {i : Nat} (hi : i < n) :
    w.frozen? ⟨bo, oo + i * 4, none⟩ = false ∧ w.frozen? ⟨bo, oo + i * 4 + 1, none⟩ = false ∧ w.frozen? ⟨bo, oo + i * 4 + 2, none⟩ = false ∧ w.frozen? ⟨bo, oo + i * 4 + 3, none⟩ = false :=
  ⟨(h.cell (i * 4) (by omega)).2, (h.cell (i * 4 + 1) (by omega)).2, (h.cell (i * 4 + 2) (by omega)).2, (h.cell (i * 4 + 3) (by omega)).2⟩
theorem RR.put (h : RR w bo oo n f) {i : Nat} (hi : i < n) (r : RectI) (hf : ∀ j, f' j = if j = i then r else f j) :
    RR ((((w.setCell ⟨bo, oo + i * 4, none⟩ (.int .i64 r.x)).setCell ⟨bo, oo + i * 4 + 1, none⟩ (.int .i64 r.y)).setCell ⟨bo, oo + i * 4 + 2, none⟩ (.int .i64 r.w)).setCell ⟨bo, oo + i * 4 + 3, none⟩ (.int .i64 r.h)) bo oo n f' := by
  have h1 := (((Row.put h (j := i * 4) (by omega) r.x).put (j := i * 4 + 1) (by omega) r.y).put (j := i * 4 + 2) (by omega) r.w).put (j := i * 4 + 3) (by omega) r.h
  rw [fl_set, fl_set, fl_set, fl_set] at h1
  unfold RR
  rw [fl_congr (f := rG f') (g := fun k => if k = i * 4 + 3 then r.h else if k = i * 4 + 2 then r.w else if k = i * 4 + 1 then r.y else if k = i * 4 then r.x else rG f k) (fun k hk => by
    by_cases e : k / 4 = i
    · have hm : k % 4 = 0 ∨ k % 4 = 1 ∨ k % 4 = 2 ∨ k % 4 = 3 := by omega
      rcases hm with e2 | e2 | e2 | e2
      · obtain rfl : k = i * 4 := by omega
        rw [rG0, hf, if_pos rfl, if_neg (by omega), if_neg (by omega), if_neg (by omega), if_pos rfl]
      · obtain rfl : k = i * 4 + 1 := by omega
        rw [rG1, hf, if_pos rfl, if_neg (by omega), if_neg (by omega), if_pos rfl]
      · obtain rfl : k = i * 4 + 2 := by omega
        rw [rG2, hf, if_pos rfl, if_neg (by omega), if_pos rfl]
      · obtain rfl : k = i * 4 + 3 := by omega
        rw [rG3, hf, if_pos rfl, if_pos rfl]
    · rw [if_neg (by omega), if_neg (by omega), if_neg (by omega), if_neg (by omega)]
      unfold rG
      rw [hf, if_neg e])]
  exact h1
theorem RR.keep (h : RR w bo oo n f) (hk : bo < w.heap.size → w'.heap[bo]? = w.heap[bo]?) : RR w' bo oo n f := Row.keep h fun k h1 h2 h3 => by
  obtain rfl : k = bo := by omega
  exact hk h3
theorem RR.below (h : RR w bo oo n f) {B : Nat} (hb : Below B w w') (hB : bo < B) : RR w' bo oo n f := h.keep fun _ => hb.block bo hB
theorem RR.lt (h : RR w bo oo n f) (hn : 0 < n) : bo < w.heap.size := by
  have := (h.get hn).1
  exact cell_lt this
theorem RR.congr (h : RR w bo oo n f) (hf : ∀ i, i < n → f i = f' i) : RR w bo oo n f' := by
  have e : fl (n * 4) (rG f) = fl (n * 4) (rG f') := fl_congr fun k hk => by
    unfold rG; rw [hf _ (by omega)]
  unfold RR at h ⊢
  rw [← e]; exact h
end
theorem Rect_info : (Try.prog.info? 30).map (fun i => (i.zero, i.size, i.bytes)) = some (some (.agg #[.int .i64 0, .int .i64 0, .int .i64 0, .int .i64 0]), 4, 32) := by kernel_rfl
theorem mk_Rects (n : Nat) (hn : n ≤ 1099511627776) (w : World) :
    (Instr.makeSlice 37 (.int .i64 (n : Int)) (.int .i64 (n : Int))).run Try.prog w = .ok (.slice (some ⟨w.heap.size, 0, none⟩) n n) (w.alloc (.cells (madeCells #[.int .i64 0, .int .i64 0, .int .i64 0, .int .i64 0] (n * 4)) 30)) := by
  obtain ⟨i0, hi, hz0, hz1, hz2⟩ := info_parts Rect_info
  have h := run_make w 37 30 i0 (.agg #[.int .i64 0, .int .i64 0, .int .i64 0, .int .i64 0]) Try.underlying37 hi hz0 .i64 .i64 n n (by omega) (by omega) (by rw [hz2]; omega) (by omega)
  simpa [hz1, Value.cells] using h
theorem RR.made (w : World) (n : Nat) : RR (w.alloc (.cells (madeCells #[.int .i64 0, .int .i64 0, .int .i64 0, .int .i64 0] (n * 4)) 30)) w.heap.size 0 n (fun _ => ri 0 0 0 0) := by
  refine ⟨by rw [fl_len], fun hn => ⟨w.heap.size, 0, _, rfl, Nat.le_refl _, Nat.lt_succ_self _, heap_alloc_new w _, by rw [size_madeCells]; omega, fun i hi => ?_⟩⟩
  rw [fl_at _ hi, Nat.zero_add]
  have e : rG (fun _ => ri 0 0 0 0) i = 0 := by
    unfold rG rAt ri; split
    · rfl
    · split
      · rfl
      · split <;> rfl
  rw [e]
  have hm : i % 4 = 0 ∨ i % 4 = 1 ∨ i % 4 = 2 ∨ i % 4 = 3 := by omega
  simp [madeCells, hi]
  rcases hm with e2 | e2 | e2 | e2 <;> simp [e2]
theorem Flex_info : (Try.prog.info? 72).map (fun i => (i.zero, i.size, i.bytes)) = some (some (.agg #[.int .i64 0, .int .i64 0, .int .i64 0, .int .i64 0, .int .i64 0]), 5, 40) := by kernel_rfl
end Go.Proofs.Ythgliihdaockoaa
