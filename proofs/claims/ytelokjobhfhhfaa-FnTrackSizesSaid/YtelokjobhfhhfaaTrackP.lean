/- The sizes of tracks: plain laws. Conditions: none. -/
import Derived.Test.YtelokjobhfhhfaaTrackX
namespace Go.Proofs.Ytelokjobhfhhfaa
open Go.RowKit
set_option linter.unusedVariables false
set_option linter.unusedSimpArgs false
theorem sumI_fl (n : Nat) (f : Nat → Int) : sumI (fl n f) = sumF f (List.range n) := rfl
theorem fl_getD (xs : List Int) : fl xs.length (fun i => xs.getD i 0) = xs := by
  apply List.ext_getElem
  · simp [fl]
  · intro i h1 h2
    simp [fl, List.getD_eq_getElem?_getD, h2]
theorem sumF_getD (xs : List Int) {n : Nat} (h : xs.length = n) : sumF (fun i => xs.getD i 0) (List.range n) = sumI xs := by
  subst h
  rw [← sumI_fl, fl_getD]
theorem tr_sum {zs : List Int} {n : Nat} (h : validTr zs n = true) (space gap : Int) : sumI (trackL zs n space gap) = sumI (fl n (szF zs)) + (if 0 < sumI (fl n (ptF zs)) then leftT zs n space gap else 0) := by
  have hl : (shareL (leftT zs n space gap) (fl n (ptF zs))).length = n := by rw [shareL_len, fl_len]
  have hw := (pt_ok h).sum (by rw [fl_len]; exact (validTr_iff.1 h).1.2)
  rw [trackL, sumI_fl, show trF zs n space gap = fun i => szF zs i + (shareL (leftT zs n space gap) (fl n (ptF zs))).getD i 0 from rfl, sumF_add, sumF_getD _ hl, ← sumI_fl]
  by_cases h0 : 0 < sumI (fl n (ptF zs))
  · rw [if_pos h0, shareL_sum h0]
  · rw [if_neg h0, shareL_sum0 (by omega)]
theorem pt_sum {zs : List Int} {n : Nat} (h : validTr zs n = true) {k : Nat} (hk : k ≤ n) : 0 ≤ sumI (fl k (ptF zs)) ∧ sumI (fl k (ptF zs)) ≤ 80 := by
  have h1 := (validTr_iff.1 h).1
  have h2 := sumF_nonneg (f := ptF zs) (l := List.range k) (fun i hi => (track_at h (by have := List.mem_range.1 hi; omega)).2.1.1)
  have h3 := sumF_le (f := ptF zs) (M := 10) (l := List.range k) (fun i hi => (track_at h (by have := List.mem_range.1 hi; omega)).2.1.2)
  rw [List.length_range] at h3
  rw [sumI_fl]
  omega
theorem pt_le_sum {zs : List Int} {n : Nat} (h : validTr zs n = true) {i : Nat} (hi : i < n) : ptF zs i ≤ sumI (fl n (ptF zs)) := by
  have : ∀ k, k ≤ n → i < k → ptF zs i ≤ sumI (fl k (ptF zs)) := by
    intro k hk hik
    induction k with
    | zero => omega
    | succ k ih =>
      rw [fl_succ, sumI_append, sumI_cons, sumI_nil]
      have h1 := pt_sum h (k := k) (by omega)
      have h2 := (track_at h (i := k) (by omega)).2.1
      by_cases e : i = k
      · subst e; omega
      · have := ih (by omega) (by omega); omega
  exact this n (Nat.le_refl _) hi
theorem sumI_fl_succ (k : Nat) (f : Nat → Int) : sumI (fl (k + 1) f) = sumI (fl k f) + f k := by rw [fl_succ, sumI_append, sumI_cons, sumI_nil]; omega
theorem tr_same {zs : List Int} {n : Nat} {space gap : Int} (h : validTr zs n = true) {i : Nat} (hi : i < n) (hp : ptF zs i = 0) : trF zs n space gap i = szF zs i := by
  unfold trF
  have hw := (pt_ok h).sum (by rw [fl_len]; exact (validTr_iff.1 h).1.2)
  by_cases h0 : sumI (fl n (ptF zs)) = 0
  · rw [shareL_zero h0]; omega
  · rw [shareL_getD h0 (by rw [fl_len]; exact hi), share_none (by omega) (by rw [fl_len]; exact hi) (by rw [fl_at _ hi]; exact hp)]
    omega
theorem tr_part {zs : List Int} {n : Nat} {space gap : Int} (h : validTr zs n = true) (hs : 0 ≤ space ∧ space ≤ 200000) (hg : 0 ≤ gap ∧ gap ≤ 50) {i k : Nat} (hi : i < n) (hk : k < n) (hp : ptF zs k < ptF zs i) (h0 : 0 < ptF zs k) : trF zs n space gap k ≤ trF zs n space gap i := by
  have hti := track_at h hi
  have htk := track_at h hk
  have hsm := pt_le_sum h hk
  have hl := left_ok h hs hg
  unfold trF
  rw [shareL_getD (i := k) (by omega) (by rw [fl_len]; exact hk), shareL_getD (i := i) (by omega) (by rw [fl_len]; exact hi)]
  have := share_more (s := leftT zs n space gap) (ws := fl n (ptF zs)) hl.1 (by omega) (i := i) (j := k) (by rw [fl_len]; exact hi) (by rw [fl_at _ hi, fl_at _ hk]; exact hp)
  omega
theorem tr_more {zs : List Int} {n : Nat} {space gap : Int} (h : validTr zs n = true) : sumI (trackL zs n (space + 1) gap) = sumI (trackL zs n space gap) ∨ sumI (trackL zs n (space + 1) gap) = sumI (trackL zs n space gap) + 1 := by
  rw [tr_sum h, tr_sum h]
  split
  · unfold leftT; omega
  · exact .inl rfl
theorem tr_small {zs : List Int} {n : Nat} {space gap : Int} (h : validTr zs n = true) (hs : 0 ≤ space ∧ space ≤ 200000) (hg : 0 ≤ gap ∧ gap ≤ 50) : Small 1000000000 (trackL zs n space gap) :=
  fl_small fun i hi => by have := (tr_bd h hs hg hi).2; omega
theorem sizes_len {zs : List Int} {n : Nat} {space gap : Int} : (sizesT zs n space gap).length = if trOkB zs n space gap = true then n else 0 := by
  unfold sizesT
  split
  · exact fl_len _ _
  · rfl
theorem trOk_more {zs : List Int} {n : Nat} {space gap : Int} (h : trOkB zs n space gap = true) (hs : space ≠ 200000) : trOkB zs n (space + 1) gap = true := by
  rw [trOkB_iff] at h ⊢
  exact ⟨h.1, by omega, h.2.2⟩
end Go.Proofs.Ytelokjobhfhhfaa
