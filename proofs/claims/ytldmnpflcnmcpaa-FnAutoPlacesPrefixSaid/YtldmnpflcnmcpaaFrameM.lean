/- Jobs and frames: plain lists. Conditions: none. -/
import Derived.Test.YtldmnpflcnmcpaaSums
namespace Go.Proofs.Ytldmnpflcnmcpaa
set_option linter.unusedVariables false

/-- the sum of the first k -/
def pre (xs : List Int) (k : Nat) : Int := sumI (xs.take k)
theorem pre_zero (xs : List Int) : pre xs 0 = 0 := rfl
theorem pre_succ {xs : List Int} {k : Nat} (hk : k < xs.length) : pre xs (k + 1) = pre xs k + xs.getD k 0 := sumI_take_succ hk
theorem pre_all (xs : List Int) : pre xs xs.length = sumI xs := by unfold pre; rw [List.take_length]
theorem pre_ge {xs : List Int} {k : Nat} (hk : xs.length ≤ k) : pre xs k = sumI xs := by unfold pre; rw [List.take_of_length_le hk]
/-- no number is below 0, or above 1000 -/
def Costs (xs : List Int) : Prop := ∀ x ∈ xs, 0 ≤ x ∧ x ≤ 1000
theorem Costs.at {xs : List Int} (h : Costs xs) {k : Nat} (hk : k < xs.length) : 0 ≤ xs.getD k 0 ∧ xs.getD k 0 ≤ 1000 := h _ (getD_mem hk)
theorem Costs.take {xs : List Int} (h : Costs xs) (k : Nat) : Costs (xs.take k) := fun x hx => h x (List.mem_of_mem_take hx)
theorem sumI_costs {xs : List Int} (h : Costs xs) : 0 ≤ sumI xs ∧ sumI xs ≤ 1000 * xs.length := by
  induction xs with
  | nil => simp [sumI_nil]
  | cons x xs ih =>
    have h1 := h x List.mem_cons_self
    have h2 := ih fun y hy => h y (List.mem_cons_of_mem _ hy)
    rw [sumI_cons, List.length_cons]
    omega
theorem pre_bd {xs : List Int} (h : Costs xs) (k : Nat) : 0 ≤ pre xs k ∧ pre xs k ≤ 1000 * xs.length := by
  have h1 := sumI_costs (h.take k)
  rw [List.length_take] at h1
  unfold pre
  omega
theorem pre_step {xs : List Int} (h : Costs xs) (k : Nat) : pre xs k ≤ pre xs (k + 1) := by
  rcases Nat.lt_or_ge k xs.length with hk | hk
  · rw [pre_succ hk]; have := h.at hk; omega
  · rw [pre_ge hk, pre_ge (by omega)]; exact Int.le_refl _
theorem pre_mono {xs : List Int} (h : Costs xs) {i k : Nat} (hik : i ≤ k) : pre xs i ≤ pre xs k := by
  induction k with
  | zero =>
    obtain rfl : i = 0 := by omega
    exact Int.le_refl _
  | succ k ih =>
    rcases Nat.lt_or_ge k i with h1 | h1
    · obtain rfl : i = k + 1 := by omega
      exact Int.le_refl _
    · exact Int.le_trans (ih h1) (pre_step h k)
theorem Costs.small {xs : List Int} (h : Costs xs) : Small 1000000000 xs := fun x hx => by have := h x hx; omega

/-- the first of the first m frames whose budgets reach a need, or -1 -/
def firstAt (bs : List Int) (need : Int) : Nat → Int
  | 0 => -1
  | m + 1 => if firstAt bs need m ≠ -1 then firstAt bs need m else if need ≤ pre bs (m + 1) then (m : Int) else -1
theorem firstAt_cases (bs : List Int) (need : Int) (m : Nat) :
    (firstAt bs need m = -1 ∧ ∀ k, k < m → pre bs (k + 1) < need) ∨ (∃ f : Nat, f < m ∧ firstAt bs need m = (f : Int) ∧ need ≤ pre bs (f + 1) ∧ ∀ k, k < f → pre bs (k + 1) < need) := by
  induction m with
  | zero => exact .inl ⟨rfl, fun k hk => by omega⟩
  | succ m ih =>
    rcases ih with ⟨h1, h2⟩ | ⟨f, h1, h2, h3, h4⟩
    · by_cases h : need ≤ pre bs (m + 1)
      · exact .inr ⟨m, by omega, by rw [firstAt, if_neg (by simp [h1]), if_pos h], h, h2⟩
      · refine .inl ⟨by rw [firstAt, if_neg (by simp [h1]), if_neg h], fun k hk => ?_⟩
        rcases Nat.lt_or_ge k m with h3 | h3
        · exact h2 k h3
        · obtain rfl : k = m := by omega
          omega
    · exact .inr ⟨f, by omega, by rw [firstAt, if_pos (by rw [h2]; omega), h2], h3, h4⟩
theorem firstAt_bd (bs : List Int) (need : Int) (m : Nat) : -1 ≤ firstAt bs need m ∧ firstAt bs need m < m := by
  rcases firstAt_cases bs need m with ⟨h, _⟩ | ⟨f, h1, h2, _⟩ <;> omega
theorem firstAt_hit {bs : List Int} {need : Int} {j m : Nat} (h : firstAt bs need j = -1) (hp : need ≤ pre bs (j + 1)) (hj : j < m) : firstAt bs need m = (j : Int) := by
  have h0 : ∀ k, k < j → pre bs (k + 1) < need := by
    rcases firstAt_cases bs need j with ⟨_, h2⟩ | ⟨f, h1, h2, _⟩
    · exact h2
    · omega
  rcases firstAt_cases bs need m with ⟨_, h2⟩ | ⟨f, h1, h2, h3, h4⟩
  · have := h2 j hj; omega
  · have e1 : ¬ f < j := fun h => by have := h0 f h; omega
    have e2 : ¬ j < f := fun h => by have := h4 j h; omega
    omega
theorem firstAt_miss {bs : List Int} {need : Int} {j : Nat} (h : firstAt bs need j = -1) (hp : pre bs (j + 1) < need) : firstAt bs need (j + 1) = -1 := by
  rw [firstAt, if_neg (by simp [h]), if_neg (by omega)]
theorem firstAt_stay {bs : List Int} {need : Int} {j m : Nat} (h : firstAt bs need j ≠ -1) (hj : j ≤ m) : firstAt bs need m = firstAt bs need j := by
  induction m with
  | zero =>
    obtain rfl : j = 0 := by omega
    rfl
  | succ m ih =>
    rcases Nat.lt_or_ge m j with h1 | h1
    · obtain rfl : j = m + 1 := by omega
      rfl
    · rw [firstAt, if_pos (by rw [ih h1]; exact h), ih h1]
/-- the frame of a job -/
def finAt (cs bs : List Int) (i : Nat) : Int := firstAt bs (pre cs (i + 1)) bs.length
def finL (cs bs : List Int) : List Int := (List.range cs.length).map (finAt cs bs)
theorem finL_len (cs bs : List Int) : (finL cs bs).length = cs.length := by simp [finL]
theorem finL_take_succ {cs bs : List Int} {k : Nat} (hk : k < cs.length) : (finL cs bs).take (k + 1) = (finL cs bs).take k ++ [finAt cs bs k] := by
  rw [List.take_succ_eq_append_getElem (by rw [finL_len]; exact hk)]
  simp [finL]
theorem finL_at {cs bs : List Int} {k : Nat} (hk : k < cs.length) : (finL cs bs).getD k 0 = finAt cs bs k := by
  simp [finL, List.getD_eq_getElem?_getD, hk]
/-- what a job lacks -/
def haveAt (cs : List Int) (B : Int) (i : Nat) : Int := max 0 (B - pre cs i)
def lackAt (cs : List Int) (B : Int) (i : Nat) : Int := cs.getD i 0 - min (cs.getD i 0) (haveAt cs B i)
def lackL (cs : List Int) (B : Int) : List Int := (List.range cs.length).map (lackAt cs B)
theorem lackL_len (cs : List Int) (B : Int) : (lackL cs B).length = cs.length := by simp [lackL]
theorem lackL_take_succ {cs : List Int} {B : Int} {k : Nat} (hk : k < cs.length) : (lackL cs B).take (k + 1) = (lackL cs B).take k ++ [lackAt cs B k] := by
  rw [List.take_succ_eq_append_getElem (by rw [lackL_len]; exact hk)]
  simp [lackL]
theorem lackL_at {cs : List Int} {B : Int} {k : Nat} (hk : k < cs.length) : (lackL cs B).getD k 0 = lackAt cs B k := by
  simp [lackL, List.getD_eq_getElem?_getD, hk]
theorem have_zero (cs : List Int) {B : Int} (hB : 0 ≤ B) : haveAt cs B 0 = B := by unfold haveAt; rw [pre_zero]; omega
theorem have_bd (cs : List Int) {B : Int} (h : Costs cs) (hB : 0 ≤ B) (i : Nat) : 0 ≤ haveAt cs B i ∧ haveAt cs B i ≤ B := by
  have := pre_bd h i
  unfold haveAt; omega
theorem have_succ {cs : List Int} {B : Int} (h : Costs cs) {k : Nat} (hk : k < cs.length) : haveAt cs B (k + 1) = haveAt cs B k - min (cs.getD k 0) (haveAt cs B k) := by
  have h1 := h.at hk
  unfold haveAt
  rw [pre_succ hk]
  omega
theorem lack_bd {cs : List Int} {B : Int} (h : Costs cs) {k : Nat} (hk : k < cs.length) : 0 ≤ lackAt cs B k ∧ lackAt cs B k ≤ cs.getD k 0 := by
  have h1 := h.at hk
  unfold lackAt haveAt
  omega
theorem pre_lack {cs : List Int} {B : Int} (h : Costs cs) (hB : 0 ≤ B) {k : Nat} (hk : k ≤ cs.length) : pre (lackL cs B) k = max 0 (pre cs k - B) := by
  induction k with
  | zero => rw [pre_zero, pre_zero]; omega
  | succ k ih =>
    have h1 := h.at (k := k) (by omega)
    rw [pre_succ (by rw [lackL_len]; omega), ih (by omega), lackL_at (by omega), pre_succ (by omega)]
    unfold lackAt haveAt
    omega
theorem sum_lack {cs : List Int} {B : Int} (h : Costs cs) (hB : 0 ≤ B) : sumI (lackL cs B) = max 0 (sumI cs - B) := by
  have := pre_lack h hB (Nat.le_refl _)
  rw [← lackL_len cs B, pre_all, lackL_len, pre_all] at this
  exact this
/-- a job is done exactly if nothing of it is left, if there are frames -/
theorem done_lack {cs bs : List Int} (h : Costs cs) (hb : Costs bs) {i : Nat} (hi : i < cs.length) (h0 : 0 ≤ finAt cs bs i) : lackAt cs (sumI bs) i = 0 := by
  rcases firstAt_cases bs (pre cs (i + 1)) bs.length with ⟨h1, _⟩ | ⟨f, h1, h2, h3, h4⟩
  · unfold finAt at h0; omega
  · have h5 := pre_mono hb (i := f + 1) (k := bs.length) (by omega)
    rw [pre_all] at h5
    rw [pre_succ hi] at h3
    have h6 := h.at hi
    unfold lackAt haveAt
    omega
theorem not_done_lack {cs bs : List Int} (h : Costs cs) (hb : Costs bs) (hb0 : 0 < bs.length) {i : Nat} (hi : i < cs.length) (h0 : finAt cs bs i < 0) (hl : lackAt cs (sumI bs) i = 0) : cs.getD i 0 ≤ 0 := by
  rcases firstAt_cases bs (pre cs (i + 1)) bs.length with ⟨h1, h2⟩ | ⟨f, h1, h2, h3, h4⟩
  · have h3 := h2 (bs.length - 1) (by omega)
    rw [show bs.length - 1 + 1 = bs.length by omega, pre_all, pre_succ hi] at h3
    have h6 := h.at hi
    unfold lackAt haveAt at hl
    omega
  · unfold finAt at h0; omega
/-- each budget in two -/
def halves : List Int → List Int
  | [] => []
  | b :: bs => b / 2 :: (b - b / 2) :: halves bs
theorem halves_len (bs : List Int) : (halves bs).length = 2 * bs.length := by
  induction bs with
  | nil => rfl
  | cons b bs ih => rw [halves, List.length_cons, List.length_cons, ih, List.length_cons]; omega
theorem halves_costs {bs : List Int} (h : Costs bs) : Costs (halves bs) := by
  induction bs with
  | nil => intro x hx; simp [halves] at hx
  | cons b bs ih =>
    have h1 := h b List.mem_cons_self
    have h2 := ih fun y hy => h y (List.mem_cons_of_mem _ hy)
    intro x hx
    rw [halves, List.mem_cons, List.mem_cons] at hx
    rcases hx with rfl | rfl | hx
    · omega
    · omega
    · exact h2 x hx
theorem halves_append (xs ys : List Int) : halves (xs ++ ys) = halves xs ++ halves ys := by
  induction xs with
  | nil => rfl
  | cons x xs ih => simp only [List.cons_append, halves, ih]
theorem halves_take_succ {bs : List Int} {k : Nat} (hk : k < bs.length) : halves (bs.take (k + 1)) = halves (bs.take k) ++ [bs.getD k 0 / 2, bs.getD k 0 - bs.getD k 0 / 2] := by
  rw [List.take_succ_eq_append_getElem hk, halves_append, List.getD_eq_getElem?_getD, List.getElem?_eq_getElem hk]
  rfl
theorem sum_halves (bs : List Int) : sumI (halves bs) = sumI bs := by
  induction bs with
  | nil => rfl
  | cons b bs ih => rw [halves, sumI_cons, sumI_cons, sumI_cons, ih]; omega
theorem halves_take (bs : List Int) (k : Nat) : (halves bs).take (2 * k) = halves (bs.take k) := by
  induction bs generalizing k with
  | nil => simp [halves]
  | cons b bs ih =>
    cases k with
    | zero => simp [halves]
    | succ k => rw [show 2 * (k + 1) = 2 * k + 1 + 1 by omega, halves, List.take_succ_cons, List.take_succ_cons, ih, List.take_succ_cons, halves]
theorem pre_halves (bs : List Int) (k : Nat) : pre (halves bs) (2 * k) = pre bs k := by
  unfold pre; rw [halves_take, sum_halves]
/-- frames halved -/
theorem half_frame {bs : List Int} (hb : Costs bs) (need : Int) :
    (firstAt (halves bs) need (halves bs).length < 0 → firstAt bs need bs.length < 0) ∧ (∀ f : Nat, firstAt (halves bs) need (halves bs).length = (f : Int) → ((f / 2 : Nat) : Int) = firstAt bs need bs.length) := by
  have hh := halves_costs hb
  constructor
  · intro h0
    rcases firstAt_cases (halves bs) need (halves bs).length with ⟨h1, h2⟩ | ⟨f, h1, h2, h3, h4⟩
    · rcases firstAt_cases bs need bs.length with ⟨g1, g2⟩ | ⟨g, g1, g2, g3, g4⟩
      · omega
      · have h3 := h2 (2 * g + 1) (by rw [halves_len]; omega)
        rw [show 2 * g + 1 + 1 = 2 * (g + 1) by omega, pre_halves] at h3
        omega
    · omega
  · intro f hf
    rcases firstAt_cases (halves bs) need (halves bs).length with ⟨h1, h2⟩ | ⟨f', h1, h2, h3, h4⟩
    · omega
    · obtain rfl : f' = f := by omega
      rw [halves_len] at h1
      have h5 : need ≤ pre bs (f' / 2 + 1) := by
        rw [← pre_halves]
        exact Int.le_trans h3 (pre_mono hh (by omega))
      rcases firstAt_cases bs need bs.length with ⟨g1, g2⟩ | ⟨g, g1, g2, g3, g4⟩
      · have := g2 (f' / 2) (by omega); omega
      · rw [g2]
        have e1 : ¬ f' / 2 < g := fun h => by have := g4 _ h; omega
        have e2 : ¬ g < f' / 2 := fun h => by
          have := h4 (2 * g + 1) (by omega)
          rw [show 2 * g + 1 + 1 = 2 * (g + 1) by omega, pre_halves] at this
          omega
        omega
end Go.Proofs.Ytldmnpflcnmcpaa
