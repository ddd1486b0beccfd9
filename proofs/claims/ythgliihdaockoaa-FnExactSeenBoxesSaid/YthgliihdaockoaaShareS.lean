/- The reference's share of a number by weights. Conditions: none. -/
import Derived.Test.YthgliihdaockoaaShareM
import Derived.BigQuiet
namespace Go.Proofs.Ythgliihdaockoaa
open Go.RowKit
set_option linter.unusedVariables false
set_option linter.unusedSimpArgs false
/-- n cells of one block of the call's own, told by a function -/
def fl (n : Nat) (f : Nat → Int) : List Int := (List.range n).map f
theorem fl_len (n : Nat) (f : Nat → Int) : (fl n f).length = n := by simp [fl]
theorem fl_at {n i : Nat} (f : Nat → Int) (h : i < n) : (fl n f).getD i 0 = f i := by simp [fl, List.getD_eq_getElem?_getD, h]
theorem fl_congr {n : Nat} {f g : Nat → Int} (h : ∀ i, i < n → f i = g i) : fl n f = fl n g := List.map_congr_left fun i hi => h i (List.mem_range.1 hi)
theorem fl_set {n : Nat} {f : Nat → Int} (j : Nat) (x : Int) : (fl n f).set j x = fl n (fun i => if i = j then x else f i) := by
  apply List.ext_getElem
  · simp [fl]
  · intro i h1 h2
    rw [List.getElem_set]
    simp only [fl, List.getElem_map, List.getElem_range]
    by_cases e : i = j
    · rw [if_pos e.symm, if_pos e]
    · rw [if_neg (fun h => e h.symm), if_neg e]
def RowF (w : World) (G n : Nat) (f : Nat → Int) : Prop := Row 3 w G (G + 1) (some ⟨G, 0, none⟩) n (fl n f)
section
variable {w w' : World} {G n : Nat} {f g : Nat → Int}
theorem RowF.cell (h : RowF w G n f) {j : Nat} (hj : j < n) : w.cell? ⟨G, j, none⟩ = some (.int .i64 (f j)) ∧ w.frozen? ⟨G, j, none⟩ = false := by
  have := Row.cell h j hj
  rw [Nat.zero_add, fl_at f hj] at this
  exact this
theorem RowF.put (h : RowF w G n f) {j : Nat} (hj : j < n) (x : Int) : RowF (w.setCell ⟨G, j, none⟩ (.int .i64 x)) G n (fun i => if i = j then x else f i) := by
  have := Row.put h hj x
  rw [Nat.zero_add, fl_set] at this
  exact this
theorem RowF.congr (h : RowF w G n f) (hc : ∀ i, i < n → f i = g i) : RowF w G n g := by unfold RowF at *; rw [← fl_congr hc]; exact h
theorem RowF.keep (h : RowF w G n f) (hk : G < w.heap.size → w'.heap[G]? = w.heap[G]?) : RowF w' G n f :=
  Row.keep h fun k h1 h2 h3 => by obtain rfl : k = G := by omega
                                  exact hk h3
theorem RowF.other (h : RowF w G n f) {p : Addr} (hp : p.block ≠ G) (v : Value) : RowF (w.setCell p v) G n f :=
  h.keep fun _ => Below.heap_setCell w p v G (fun e => hp e.symm)
theorem RowF.below {B : Nat} (h : RowF w G n f) (hb : Below B w w') (hB : G < B) : RowF w' G n f := h.keep fun _ => hb.block G hB
theorem RowF.belowS (h : RowF w G n f) (hb : Below w.heap.size w w') : RowF w' G n f := h.keep fun hl => hb.block G hl
theorem RowF.row (h : RowF w G n f) {lo hi : Nat} (h1 : lo ≤ G) (h2 : G < hi) : Row 3 w lo hi (some ⟨G, 0, none⟩) n (fl n f) := Row.mono h h1 (by omega)
theorem RowF.drewN (h : RowF w G n f) (m : Nat) : RowF (w.drewN m) G n f := h.keep fun _ => rfl
end
theorem rowF_alloc (w : World) (n : Nat) : RowF (w.alloc (.cells (madeCells #[.int .i64 0] n) 3)) w.heap.size n (fun _ => 0) := by
  refine ⟨by rw [fl_len], fun hn => ⟨w.heap.size, 0, madeCells #[.int .i64 0] n, rfl, Nat.le_refl _, Nat.lt_succ_self _, heap_alloc_new w _, by rw [size_madeCells]; omega, fun i hi => ?_⟩⟩
  rw [fl_at _ hi, Nat.zero_add]
  simp [madeCells, hi, Nat.mod_one]
theorem sumF_range_succ (f : Nat → Int) (k : Nat) : sumF f (List.range (k + 1)) = sumF f (List.range k) + f k := by
  rw [List.range_succ, sumF_append, sumF_cons, sumF_nil]; omega
/-- weights of tracks -/
def WOk (ws : List Int) : Prop := ∀ x ∈ ws, 0 ≤ x ∧ x ≤ 10
theorem WOk.small {ws : List Int} (h : WOk ws) : Small 1000000000 ws := fun x hx => by have := h x hx; omega
theorem WOk.sum {ws : List Int} (h : WOk ws) (hl : ws.length ≤ 8) : 0 ≤ sumI ws ∧ sumI ws ≤ 80 := by
  have h1 := sumI_small (M := 10) (by omega) (fun x hx => by have := h x hx; omega) (xs := ws)
  refine ⟨?_, by omega⟩
  clear h1
  induction ws with
  | nil => exact Int.le_refl _
  | cons x xs ih =>
    have h2 := h x List.mem_cons_self
    have h3 := ih (fun y hy => h y (List.mem_cons_of_mem _ hy)) (by simp at hl; omega)
    rw [sumI_cons]; omega
theorem WOk.at {ws : List Int} (h : WOk ws) {i : Nat} (hi : i < ws.length) : 0 ≤ ws.getD i 0 ∧ ws.getD i 0 ≤ 10 := h _ (getD_mem hi)
theorem prod_bd {s x : Int} (hs : 0 ≤ s ∧ s ≤ 200000) (hx : 0 ≤ x ∧ x ≤ 10) : 0 ≤ s * x ∧ s * x ≤ 2000000 := by
  have h1 := Int.mul_nonneg hs.1 hx.1
  have h2 := Int.mul_le_mul hs.2 hx.2 hx.1 (by omega : (0 : Int) ≤ 200000)
  omega
theorem base_bd {s : Int} {ws : List Int} (hs : 0 ≤ s ∧ s ≤ 200000) (hw : WOk ws) (h : 0 < sumI ws) {i : Nat} (hi : i < ws.length) : 0 ≤ baseW s ws i ∧ baseW s ws i ≤ 2000000 := by
  have h1 := prod_bd hs (hw.at hi)
  unfold baseW
  refine ⟨Int.ediv_nonneg h1.1 (by omega), ?_⟩
  exact Int.le_trans (Int.ediv_le_self _ h1.1) h1.2
theorem sumF_base_bd {s : Int} {ws : List Int} (hs : 0 ≤ s ∧ s ≤ 200000) (hw : WOk ws) (h : 0 < sumI ws) (hl : ws.length ≤ 8) {k : Nat} (hk : k ≤ ws.length) : 0 ≤ sumF (baseW s ws) (List.range k) ∧ sumF (baseW s ws) (List.range k) ≤ 16000000 := by
  have h1 := sumF_nonneg (f := baseW s ws) (l := List.range k) (fun i hi => (base_bd hs hw h (by have := List.mem_range.1 hi; omega)).1)
  have h2 := sumF_le (f := baseW s ws) (M := 2000000) (l := List.range k) (fun i hi => (base_bd hs hw h (by have := List.mem_range.1 hi; omega)).2)
  rw [List.length_range] at h2
  omega
/-- what one round of handing out leaves in the list of rests -/
def gone (r : Nat → Int) (n k i : Nat) : Int := if topR r n k i = true then -1 else r i
def given (b r : Nat → Int) (n k i : Nat) : Int := b i + if topR r n k i = true then 1 else 0
/-- the first greatest among the first i -/
def MaxTo (g : Nat → Int) (at' i : Nat) : Prop := at' < i ∧ ∀ j, j < i → j ≠ at' → g j < g at' ∨ (g j = g at' ∧ at' < j)
theorem maxTo_one (g : Nat → Int) : MaxTo g 0 1 := ⟨by omega, fun j h1 h2 => by omega⟩
theorem MaxTo.more {g : Nat → Int} {m i : Nat} (h : MaxTo g m i) (hg : g m < g i) : MaxTo g i (i + 1) :=
  ⟨by omega, fun j h1 h2 => by
    by_cases e : j = m
    · subst e; exact .inl hg
    · rcases h.2 j (by omega) e with h3 | h3 <;> left <;> omega⟩
theorem MaxTo.same {g : Nat → Int} {m i : Nat} (h : MaxTo g m i) (hg : ¬ g m < g i) : MaxTo g m (i + 1) :=
  ⟨by have := h.1; omega, fun j h1 h2 => by
    by_cases e : j = i
    · subst e; have := h.1; omega
    · exact h.2 j (by omega) h2⟩
theorem maxTo_top {r : Nat → Int} {n k m : Nat} (hr : ∀ i, i < n → 0 ≤ r i) (hk : k < n) (h : MaxTo (gone r n k) m n) : m = (sortR r n).getD k 0 := by
  by_cases e : m = (sortR r n).getD k 0
  · exact e
  · exfalso
    have ht := topR_at (r := r) hk
    have hlt : (sortR r n).getD k 0 < n := by
      have h1 : k < (sortR r n).length := by rw [sortR_len]; exact hk
      rw [List.getD_eq_getElem?_getD, List.getElem?_eq_getElem h1, Option.getD_some]
      exact sortR_lt.1 (List.getElem_mem _)
    have h2 := h.2 _ hlt (fun h => e h.symm)
    have hg : gone r n k ((sortR r n).getD k 0) = r ((sortR r n).getD k 0) := if_neg (by rw [ht]; simp)
    have hp := hr _ hlt
    by_cases hm : topR r n k m = true
    · have h3 : gone r n k m = -1 := if_pos hm
      omega
    · have h3 : gone r n k m = r m := if_neg hm
      have h4 := topR_first hk h.1 (by simpa using hm) e
      unfold bef at h4
      omega
theorem gone_next {r : Nat → Int} {n k : Nat} (hk : k < n) (i : Nat) : (if i = (sortR r n).getD k 0 then -1 else gone r n k i) = gone r n (k + 1) i := by
  unfold gone
  rw [topR_succ hk]
  by_cases e : i = (sortR r n).getD k 0
  · simp [e]
  · rw [if_neg e, decide_eq_false e, Bool.or_false]
theorem given_next {b r : Nat → Int} {n k : Nat} (hk : k < n) (i : Nat) : (if i = (sortR r n).getD k 0 then given b r n k ((sortR r n).getD k 0) + 1 else given b r n k i) = given b r n (k + 1) i := by
  unfold given
  rw [topR_succ hk]
  by_cases e : i = (sortR r n).getD k 0
  · subst e
    rw [if_pos rfl, topR_at hk]
    simp
  · rw [if_neg e, decide_eq_false e, Bool.or_false]
end Go.Proofs.Ythgliihdaockoaa
