/- The sizes of tracks: plain lists, and rows that grow side by side. Conditions: none. -/
import Derived.Test.YtelokjobhfhhfaaShareX
import Derived.Test.YtelokjobhfhhfaaTrackV
import Derived.Deep.CutBlock
import Derived.Deep.DeepCutAuto
namespace Go.Proofs.Ytelokjobhfhhfaa
open Go.RowKit
set_option linter.unusedVariables false
set_option linter.unusedSimpArgs false
def szF (zs : List Int) (i : Nat) : Int := zs.getD (i * 2) 0
def ptF (zs : List Int) (i : Nat) : Int := zs.getD (i * 2 + 1) 0
def leftT (zs : List Int) (n : Nat) (space gap : Int) : Int := max (space - sumI (fl n (szF zs)) - gap * ((n : Int) - 1)) 0
def trF (zs : List Int) (n : Nat) (space gap : Int) (i : Nat) : Int := szF zs i + (shareL (leftT zs n space gap) (fl n (ptF zs))).getD i 0
def trackL (zs : List Int) (n : Nat) (space gap : Int) : List Int := fl n (trF zs n space gap)
theorem fl_mem {n : Nat} {f : Nat → Int} {x : Int} (h : x ∈ fl n f) : ∃ i, i < n ∧ f i = x := by
  obtain ⟨i, hi, e⟩ := List.mem_map.1 h
  exact ⟨i, List.mem_range.1 hi, e⟩
theorem gap_bd {gap : Int} {n : Nat} (hg : 0 ≤ gap ∧ gap ≤ 50) (hn : 1 ≤ n ∧ n ≤ 8) : 0 ≤ gap * ((n : Int) - 1) ∧ gap * ((n : Int) - 1) ≤ 350 := by
  have h1 := Int.mul_nonneg hg.1 (show 0 ≤ (n : Int) - 1 by omega)
  have h2 := Int.mul_le_mul hg.2 (show (n : Int) - 1 ≤ 7 by omega) (by omega) (by omega : (0 : Int) ≤ 50)
  omega
theorem track_at {zs : List Int} {n : Nat} (h : validTr zs n = true) {i : Nat} (hi : i < n) : (0 ≤ szF zs i ∧ szF zs i ≤ 10000) ∧ (0 ≤ ptF zs i ∧ ptF zs i ≤ 10) ∧ ¬ (0 < szF zs i ∧ 0 < ptF zs i) := trOk_iff.1 ((validTr_iff.1 h).2 i hi)
theorem pt_ok {zs : List Int} {n : Nat} (h : validTr zs n = true) : WOk (fl n (ptF zs)) := fun x hx => by
  obtain ⟨i, hi, rfl⟩ := fl_mem hx
  exact (track_at h hi).2.1
theorem sz_sum {zs : List Int} {n : Nat} (h : validTr zs n = true) {k : Nat} (hk : k ≤ n) : 0 ≤ sumI (fl k (szF zs)) ∧ sumI (fl k (szF zs)) ≤ 80000 := by
  have h1 := (validTr_iff.1 h).1
  have h2 := sumF_nonneg (f := szF zs) (l := List.range k) (fun i hi => (track_at h (by have := List.mem_range.1 hi; omega)).1.1)
  have h3 := sumF_le (f := szF zs) (M := 10000) (l := List.range k) (fun i hi => (track_at h (by have := List.mem_range.1 hi; omega)).1.2)
  rw [List.length_range] at h3
  have h4 : sumI (fl k (szF zs)) = sumF (szF zs) (List.range k) := rfl
  omega
theorem left_ok {zs : List Int} {n : Nat} {space gap : Int} (h : validTr zs n = true) (hs : 0 ≤ space ∧ space ≤ 200000) (hg : 0 ≤ gap ∧ gap ≤ 50) : 0 ≤ leftT zs n space gap ∧ leftT zs n space gap ≤ 200000 := by
  have h1 := gap_bd hg (validTr_iff.1 h).1
  have h2 := sz_sum h (Nat.le_refl n)
  unfold leftT
  omega
theorem share_bd {s : Int} {ws : List Int} (hs : 0 ≤ s ∧ s ≤ 200000) (hw : WOk ws) (hl : ws.length ≤ 8) {i : Nat} (hi : i < ws.length) : 0 ≤ (shareL s ws).getD i 0 ∧ (shareL s ws).getD i 0 ≤ 2000001 := by
  have h0 := hw.sum hl
  by_cases h : sumI ws = 0
  · rw [shareL_zero h]; omega
  · rw [shareL_getD h hi]
    exact given_bd (base_bd hs hw (by omega) hi)
theorem tr_bd {zs : List Int} {n : Nat} {space gap : Int} (h : validTr zs n = true) (hs : 0 ≤ space ∧ space ≤ 200000) (hg : 0 ≤ gap ∧ gap ≤ 50) {i : Nat} (hi : i < n) :
    (0 ≤ (shareL (leftT zs n space gap) (fl n (ptF zs))).getD i 0 ∧ (shareL (leftT zs n space gap) (fl n (ptF zs))).getD i 0 ≤ 2000001) ∧ 0 ≤ trF zs n space gap i ∧ trF zs n space gap i ≤ 2100000 := by
  have h1 := share_bd (left_ok h hs hg) (pt_ok h) (by rw [fl_len]; exact (validTr_iff.1 h).1.2) (i := i) (by rw [fl_len]; exact hi)
  have h2 := (track_at h hi).1
  refine ⟨h1, ?_⟩
  unfold trF
  omega
theorem fl_small {n : Nat} {f : Nat → Int} (h : ∀ i, i < n → -1000000000 ≤ f i ∧ f i ≤ 1000000000) : Small 1000000000 (fl n f) := fun x hx => by
  obtain ⟨i, hi, rfl⟩ := fl_mem hx
  exact h i hi
/-- two rows that grow side by side -/
structure TrRel (w : World) (f g : Nat → Int) (k m : Nat) (s7 s8 : Value) (W : World) : Prop where
  a : Own 3 1 W w.heap.size s7 k (fl k f)
  b : Own 3 1 W w.heap.size s8 m (fl m g)
  ne : ∀ j, s7.ownBlock = some j → s8.ownBlock ≠ some j
  below : Below w.heap.size w W
section
variable {w W W' : World} {f g : Nat → Int} {k m : Nat} {s7 s8 v1 : Value}
theorem TrRel.keep (h : TrRel w f g k m s7 s8 W) (hb : Below W.heap.size W W') : TrRel w f g k m s7 s8 W' :=
  ⟨h.a.keep hb, h.b.keep hb, h.ne, h.below.trans (hb.mono h.below.size)⟩
theorem TrRel.pushA (h : TrRel w f g k m s7 s8 W) (ho : Own 3 1 W' w.heap.size v1 (k + 1) (fl k f ++ [f k])) (hg : W.grownBy W' s7.ownBlock) (hv : v1.ownBlock = s7.ownBlock ∨ v1.ownBlock = some (W.heap.size + 1)) : TrRel w f g (k + 1) m v1 s8 W' where
  a := by rw [fl_succ]; exact ho
  b := h.b.far hg (by
    cases e : s8.ownBlock with
    | none => exact .inl rfl
    | some j => exact .inr (fun e2 => h.ne j e2.symm e))
  ne := fun j hj e => by
    rcases hv with hv | hv
    · exact h.ne j (hv ▸ hj) e
    · rw [hv] at hj; injection hj with hj; have := h.b.lt j e; omega
  below := h.below.trans (Own.below h.a h.below.size hg)
theorem TrRel.pushB (h : TrRel w f g k m s7 s8 W) (ho : Own 3 1 W' w.heap.size v1 (m + 1) (fl m g ++ [g m])) (hg : W.grownBy W' s8.ownBlock) (hv : v1.ownBlock = s8.ownBlock ∨ v1.ownBlock = some (W.heap.size + 1)) : TrRel w f g k (m + 1) s7 v1 W' where
  a := h.a.far hg (by
    cases e : s7.ownBlock with
    | none => exact .inl rfl
    | some j => exact .inr (fun e2 => h.ne j e e2.symm))
  b := by rw [fl_succ]; exact ho
  ne := fun j hj e => by
    rcases hv with hv | hv
    · exact h.ne j hj (hv ▸ e)
    · rw [hv] at e; injection e with e; have := h.a.lt j hj; omega
  below := h.below.trans (Own.below h.b h.below.size hg)
end
theorem trRel_two (w : World) (f g : Nat → Int) (c : Nat) (hc : c ≤ 9223372036854775807) : TrRel w f g 0 0 (.slice (some ⟨w.heap.size, 0, none⟩) 0 c) (.slice (some ⟨w.heap.size + 1, 0, none⟩) 0 c) ((w.alloc (.cells (madeCells #[.int .i64 0] c) 3)).alloc (.cells (madeCells #[.int .i64 0] c) 3)) where
  a := (Own.made 3 1 w (madeCells #[.int .i64 0] c) c w.heap.size (Nat.le_refl _) hc (by rw [size_madeCells]; omega)).keep ((Below.refl _ _).alloc (Nat.le_refl _) _)
  b := by
    have h := Own.made 3 1 (w.alloc (.cells (madeCells #[.int .i64 0] c) 3)) (madeCells #[.int .i64 0] c) c w.heap.size (by simp) hc (by rw [size_madeCells]; omega)
    rw [show (w.alloc (.cells (madeCells #[.int .i64 0] c) 3)).heap.size = w.heap.size + 1 by simp] at h
    exact h
  ne := fun j hj e => by
    simp only [Value.ownBlock] at hj e
    injection hj with hj; injection e with e; omega
  below := ((Below.refl _ _).alloc (Nat.le_refl _) _).alloc (by simp) _
theorem TrRel.swap {w W : World} {f g : Nat → Int} {k m : Nat} {s7 s8 : Value} (h : TrRel w f g k m s7 s8 W) : TrRel w g f m k s8 s7 W := ⟨h.b, h.a, fun j hj e => h.ne j e hj, h.below⟩
end Go.Proofs.Ytelokjobhfhhfaa
