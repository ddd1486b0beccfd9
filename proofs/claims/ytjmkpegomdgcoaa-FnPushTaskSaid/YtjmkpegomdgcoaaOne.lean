/- The reader of codes, further: a new reader, and one of a list's elements. Conditions: none. -/
import Derived.Test.YtjmkpegomdgcoaaReader
namespace Go.Proofs.Ytjmkpegomdgcoaa
open Go.RowKit

/-- a new reader is handed back; what was there has not turned -/
def Started (w : World) (e : Ending) (w' : World) : Prop :=
  ∃ R : Nat, w.heap.size ≤ R ∧ R < w'.heap.size ∧ e = .returned (.pointer (some ⟨R, 0, none⟩)) ∧ Rd w' R 0 ∧ Below w.heap.size w w'

theorem Rd.lt {w : World} {R p : Nat} (h : Rd w R p) : R < w.heap.size := by
  obtain ⟨A, n, c, q, zs, _, _, hb, _⟩ := h
  rcases Nat.lt_or_ge R w.heap.size with h | h
  · exact h
  · rw [Array.getElem?_eq_none h] at hb; cases hb
theorem Rd.mono {w : World} {R p p' : Nat} (h : Rd w R p) (hp : p ≤ p') : Rd w R p' := by
  obtain ⟨A, n, c, q, zs, hq, r⟩ := h
  exact ⟨A, n, c, q, zs, by omega, r⟩
theorem Rd.same {w w' : World} {R p : Nat} (h : Rd w R p) (hk : ∀ k, k ≤ R → w'.heap[k]? = w.heap[k]?) : Rd w' R p := by
  obtain ⟨A, n, c, q, zs, hq, hm, hb, hA⟩ := h
  exact ⟨A, n, c, q, zs, hq, hm, (hk R (Nat.le_refl _)).trans hb, hA.keep fun b o hlt => World.cell?_of_block (w := w) (hk b (Nat.le_of_lt hlt))⟩
theorem Rd.alloc {w : World} {R p : Nat} (h : Rd w R p) (o : Obj) : Rd (w.alloc o) R p :=
  h.same fun k hk => Below.heap_alloc w o k (Nat.lt_of_le_of_lt hk h.lt)
theorem Rd.setCell {w : World} {R p : Nat} (h : Rd w R p) {a : Addr} (ha : R < a.block) (u : Value) : Rd (w.setCell a u) R p :=
  h.same fun k hk => Below.heap_setCell w a u k (by omega)
theorem Rd.below {w w' : World} {R p B : Nat} (h : Rd w R p) (hb : Below B w w') (hB : R < B) : Rd w' R p :=
  h.same fun k hk => hb.block k (by omega)
theorem Rd.grown {w w' : World} {R p : Nat} {row : Option Nat} (h : Rd w R p) (hg : w.grownBy w' row) (hr : ∀ k, row = some k → R < k) : Rd w' R p :=
  h.same fun k hk => hg.block k (Nat.lt_of_le_of_lt hk h.lt) (fun e => by have := hr k e.symm; omega)

theorem started {w : World} {A : Option Addr} {n c : Nat} {zs : List Int} (hA : Ints .u8 w w.heap.size A n zs) (hn : n ≤ 2000) :
    Started w (.returned (.pointer (some ⟨w.heap.size, 0, none⟩))) (w.alloc (.cells #[.slice A n c, .int .i64 0] 58)) := by
  refine ⟨w.heap.size, Nat.le_refl _, by simp, rfl, ⟨A, n, c, 0, zs, Nat.le_refl _, hn, heap_alloc_new w _, hA.keep fun b o hlt => World.cell?_of_block (w := w) (Below.heap_alloc w _ b hlt)⟩, (Below.refl _ _).alloc (Nat.le_refl _) _⟩

theorem newReader_any (A : Option Addr) (n c : Nat) (zs : List Int) (w : World) (hA : Ints .u8 w w.heap.size A n zs) (hnc : n ≤ c) :
    Calls Try.prog 28 #[.slice A n c] w (Started w) := by
  by_cases h : n ≤ 2000
  · have S := hide (started (c := c) hA h)
    go_enter Try.func28, Try.ntmps28
    go_wp2
    go_ret
    exact S.out
  · have S := hide (started (c := c) (hA.le (show 2000 ≤ n by omega)) (Nat.le_refl _))
    obtain ⟨b, off, rfl, hb, hc⟩ := hA.2.2 (by omega)
    clear hc hA
    go_enter Try.func28, Try.ntmps28
    go_wp2
    go_ret
    exact S.out
/-- of a list of numbers that lies in a new block (a literal) -/
theorem lit_cells (w : World) (xs : List Int) (i : Nat) (hi : i < xs.length) :
    (w.alloc (.cells (xs.map (Value.int .i64)).toArray 3)).cell? ⟨w.heap.size, i, none⟩ = some (.int .i64 (xs.getD i 0)) := by
  rw [cell_of_row _ _ i _ _ (0, 0) (heap_alloc_new w _)]
  simp [List.getD_eq_getElem?_getD, hi]

theorem one_lit (R p : Nat) (xs : List Int) (n : Nat) (w : World) (h : Rd w R p) (hp : p ≤ 900000) (hn : n = xs.length) (hx : 0 < n) (hx2 : n ≤ 1000) :
    Calls Try.prog 36 #[.pointer (some ⟨R, 0, none⟩), .slice (some ⟨w.heap.size, 0, none⟩) n n] (w.alloc (.cells (xs.map (Value.int .i64)).toArray 3)) (Draws R (p + 1) (· ∈ xs) w) := by
  have hR := h.lt
  have hc := lit_cells w xs
  have hr := h.alloc (.cells (xs.map (Value.int .i64)).toArray 3)
  generalize hW : w.alloc (.cells (xs.map (Value.int .i64)).toArray 3) = W at hc hr
  have hg0 : w.grownBy W (some R) := hW ▸ World.grownBy_alloc w _ _
  clear hW
  go_enter Try.func36, Try.ntmps36
  go_wp2_with fail
  refine (pick_any R p _ _ hr (by omega) (by omega) (by omega)).mono ?_
  rintro e W1 ⟨k, ⟨hk0, hk1, _⟩, rfl, hr1, hg1⟩
  obtain ⟨j, rfl⟩ := Int.eq_ofNat_of_zero_le hk0
  have hj : j < n := by have := hk1 (by omega); omega
  have hcj := hg1.cell (hc j (by omega)) (by simp; omega)
  have hmem : xs.getD j 0 ∈ xs := by
    rw [List.getD_eq_getElem?_getD, List.getElem?_eq_getElem (by omega)]
    exact List.getElem_mem _
  have D := hide (show Draws R (p + 1) (· ∈ xs) w (.returned (.int .i64 (xs.getD j 0))) W1 from ⟨_, hmem, rfl, hr1, only_trans hg0 hg1⟩)
  clear hmem hg0 hg1 hr1 hr hc hk1 hn
  go_wp2
  go_ret
  exact D.out
/-- the same, the list's block named by its number -/
theorem one_at (R p : Nat) (xs : List Int) (n g : Nat) (w : World) (h : Rd w R p) (hp : p ≤ 900000) (hn : n = xs.length) (hx : 0 < n) (hx2 : n ≤ 1000) (hg : g = w.heap.size) :
    Calls Try.prog 36 #[.pointer (some ⟨R, 0, none⟩), .slice (some ⟨g, 0, none⟩) n n] (w.alloc (.cells (xs.map (Value.int .i64)).toArray 3)) (Draws R (p + 1) (· ∈ xs) w) := by
  subst hg
  exact one_lit R p xs n w h hp hn hx hx2
end Go.Proofs.Ytjmkpegomdgcoaa
