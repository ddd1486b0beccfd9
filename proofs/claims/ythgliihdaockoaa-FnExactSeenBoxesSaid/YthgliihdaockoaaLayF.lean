/- Layout: plain laws of flexible sizes and offsets. Conditions: none. -/
import Derived.Test.YthgliihdaockoaaLayM
namespace Go.Proofs.Ythgliihdaockoaa
set_option linter.unusedVariables false
/-- how far a size can go: upwards, or downwards -/
def farD (dn : Bool) (o : Int) : Int := if dn = true then o else 10000 - o
def wD (dn : Bool) (wt out : Nat → Int) (m : Nat) : List Int := fl m (fun t => if 0 < farD dn (out t) then wt t else 0)
/-- what number t takes of what is left -/
def takeD (dn : Bool) (wt out : Nat → Int) (m : Nat) (left : Int) (t : Nat) : Int := min ((shareL left (wD dn wt out m)).getD t 0) (farD dn (out t))
def stepD (dn : Bool) (wt out : Nat → Int) (m : Nat) (left : Int) (t : Nat) : Int := if dn = true then out t - takeD dn wt out m left t else out t + takeD dn wt out m left t
def restD (dn : Bool) (wt out : Nat → Int) (m : Nat) (left : Int) : Int := left - sumF (takeD dn wt out m left) (List.range m)
def flexF (dn : Bool) (wt : Nat → Int) (m : Nat) : Nat → Int → (Nat → Int) → (Nat → Int)
  | 0, _, out => out
  | f + 1, left, out => if sumI (shareL left (wD dn wt out m)) = 0 then out else flexF dn wt m f (restD dn wt out m left) (stepD dn wt out m left)
/-- weights and sizes in their bounds -/
def WtOk (wt : Nat → Int) (m : Nat) : Prop := ∀ t, t < m → 0 ≤ wt t ∧ wt t ≤ 10
def OutOk (out : Nat → Int) (m : Nat) : Prop := ∀ t, t < m → 0 ≤ out t ∧ out t ≤ 10000
theorem fl_mem {n : Nat} {f : Nat → Int} {x : Int} (h : x ∈ fl n f) : ∃ i, i < n ∧ f i = x := by
  obtain ⟨i, hi, e⟩ := List.mem_map.1 h
  exact ⟨i, List.mem_range.1 hi, e⟩
theorem wD_len (dn : Bool) (wt out : Nat → Int) (m : Nat) : (wD dn wt out m).length = m := fl_len _ _
theorem wD_ok {dn : Bool} {wt out : Nat → Int} {m : Nat} (h : WtOk wt m) : WOk (wD dn wt out m) := fun x hx => by
  obtain ⟨i, hi, rfl⟩ := fl_mem hx
  have := h i hi
  split <;> omega
theorem wD_at {dn : Bool} {wt out : Nat → Int} {m t : Nat} (ht : t < m) : (wD dn wt out m).getD t 0 = if 0 < farD dn (out t) then wt t else 0 := fl_at _ ht
theorem wD_sum {dn : Bool} {wt out : Nat → Int} {m : Nat} (h : WtOk wt m) : 0 ≤ sumI (wD dn wt out m) := sumI_nonneg fun x hx => (wD_ok h x hx).1
theorem farD_bd {dn : Bool} {o : Int} (h : 0 ≤ o ∧ o ≤ 10000) : 0 ≤ farD dn o ∧ farD dn o ≤ 10000 := by unfold farD; split <;> omega
theorem share_bd {dn : Bool} {wt out : Nat → Int} {m t : Nat} {left : Int} (h : WtOk wt m) (hl : 0 ≤ left) (ht : t < m) : 0 ≤ (shareL left (wD dn wt out m)).getD t 0 := by
  by_cases h0 : sumI (wD dn wt out m) = 0
  · rw [shareL_zero h0]; exact Int.le_refl _
  · have hs := wD_sum (dn := dn) (out := out) h
    rw [shareL_getD h0 (by rw [wD_len]; exact ht)]
    exact share_nonneg hl (by omega) (by rw [wD_at ht]; have := h t ht; split <;> omega)
theorem takeD_bd {dn : Bool} {wt out : Nat → Int} {m t : Nat} {left : Int} (h : WtOk wt m) (ho : OutOk out m) (hl : 0 ≤ left) (ht : t < m) : 0 ≤ takeD dn wt out m left t ∧ takeD dn wt out m left t ≤ farD dn (out t) ∧ takeD dn wt out m left t ≤ (shareL left (wD dn wt out m)).getD t 0 := by
  have h1 := share_bd (dn := dn) (out := out) h hl ht
  have h2 := farD_bd (dn := dn) (ho t ht)
  unfold takeD
  omega
theorem stepD_ok {dn : Bool} {wt out : Nat → Int} {m : Nat} {left : Int} (h : WtOk wt m) (ho : OutOk out m) (hl : 0 ≤ left) : OutOk (stepD dn wt out m left) m := fun t ht => by
  have h1 := takeD_bd (dn := dn) h ho hl ht
  have h2 := ho t ht
  unfold stepD farD at *
  cases dn <;> simp at * <;> omega
theorem sumF_share {dn : Bool} {wt out : Nat → Int} {m : Nat} {left : Int} : sumF (fun t => (shareL left (wD dn wt out m)).getD t 0) (List.range m) = sumI (shareL left (wD dn wt out m)) := by
  rw [sumI_range, shareL_len, wD_len]
theorem sumF_le_of {f g : Nat → Int} {l : List Nat} (h : ∀ i ∈ l, f i ≤ g i) : sumF f l ≤ sumF g l := by
  induction l with
  | nil => exact Int.le_refl _
  | cons x l ih =>
    rw [sumF_cons, sumF_cons]
    have := h x List.mem_cons_self
    have := ih fun i hi => h i (List.mem_cons_of_mem _ hi)
    omega
theorem sumF_pos {f : Nat → Int} {l : List Nat} (h : ∀ i ∈ l, 0 ≤ f i) {i : Nat} (hi : i ∈ l) (hp : 0 < f i) : 0 < sumF f l := by
  induction l with
  | nil => cases hi
  | cons x l ih =>
    rw [sumF_cons]
    have h1 := h x List.mem_cons_self
    have h2 := sumF_nonneg (f := f) (l := l) fun j hj => h j (List.mem_cons_of_mem _ hj)
    rcases List.mem_cons.1 hi with e | e
    · subst e; omega
    · have := ih (fun j hj => h j (List.mem_cons_of_mem _ hj)) e; omega
theorem sumF_pos_at {f : Nat → Int} {l : List Nat} (h : 0 < sumF f l) : ∃ i ∈ l, 0 < f i := by
  induction l with
  | nil => simp [sumF_nil] at h
  | cons x l ih =>
    rw [sumF_cons] at h
    by_cases hx : 0 < f x
    · exact ⟨x, List.mem_cons_self, hx⟩
    · obtain ⟨i, hi, hp⟩ := ih (by omega)
      exact ⟨i, List.mem_cons_of_mem _ hi, hp⟩
/-- a round takes something, and not more than is left -/
theorem restD_bd {dn : Bool} {wt out : Nat → Int} {m : Nat} {left : Int} (h : WtOk wt m) (ho : OutOk out m) (hl : 0 ≤ left) (hs : sumI (shareL left (wD dn wt out m)) ≠ 0) : 0 ≤ restD dn wt out m left ∧ restD dn wt out m left < left := by
  have hw := wD_sum (dn := dn) (out := out) h
  have hw0 : sumI (wD dn wt out m) ≠ 0 := fun e => hs (shareL_sum0 e)
  have hsum : sumI (shareL left (wD dn wt out m)) = left := shareL_sum (by omega)
  have h1 : sumF (takeD dn wt out m left) (List.range m) ≤ sumF (fun t => (shareL left (wD dn wt out m)).getD t 0) (List.range m) :=
    sumF_le_of fun t ht => (takeD_bd h ho hl (List.mem_range.1 ht)).2.2
  rw [sumF_share, hsum] at h1
  have h2 : 0 < sumF (fun t => (shareL left (wD dn wt out m)).getD t 0) (List.range m) := by rw [sumF_share, hsum]; omega
  obtain ⟨t, ht, hp⟩ := sumF_pos_at h2
  have htm := List.mem_range.1 ht
  have hfar : 0 < farD dn (out t) := by
    by_cases hf : 0 < farD dn (out t)
    · exact hf
    · exfalso
      rw [shareL_getD hw0 (by rw [wD_len]; exact htm), share_none (by omega) (by rw [wD_len]; exact htm) (by rw [wD_at htm, if_neg hf])] at hp
      omega
  have h3 := sumF_pos (f := takeD dn wt out m left) (l := List.range m) (fun j hj => (takeD_bd h ho hl (List.mem_range.1 hj)).1) ht (by unfold takeD; omega)
  unfold restD
  omega
theorem flexF_ok {dn : Bool} {wt : Nat → Int} {m : Nat} (h : WtOk wt m) : ∀ (f : Nat) (left : Int) (out : Nat → Int), OutOk out m → 0 ≤ left → OutOk (flexF dn wt m f left out) m := by
  intro f
  induction f with
  | zero => intro left out ho hl; exact ho
  | succ f ih =>
    intro left out ho hl
    rw [flexF]
    split
    · exact ho
    · rename_i hs
      exact ih _ _ (stepD_ok h ho hl) (restD_bd h ho hl hs).1
theorem sumF_sub (f g : Nat → Int) (l : List Nat) : sumF (fun i => f i - g i) l = sumF f l - sumF g l := by
  induction l with
  | nil => rfl
  | cons x l ih => rw [sumF_cons, sumF_cons, sumF_cons, ih]; omega
/-- growing sizes do not outgrow the space -/
theorem flexF_up {wt : Nat → Int} {m : Nat} (h : WtOk wt m) : ∀ (f : Nat) (left : Int) (out : Nat → Int), OutOk out m → 0 ≤ left → sumF (flexF false wt m f left out) (List.range m) ≤ sumF out (List.range m) + left := by
  intro f
  induction f with
  | zero => intro left out ho hl; show sumF out _ ≤ _; omega
  | succ f ih =>
    intro left out ho hl
    rw [flexF]
    split
    · omega
    · rename_i hs
      have h1 := ih _ _ (stepD_ok (dn := false) h ho hl) (restD_bd h ho hl hs).1
      have h2 : sumF (stepD false wt out m left) (List.range m) = sumF out (List.range m) + sumF (takeD false wt out m left) (List.range m) := by
        rw [← sumF_add]; exact sumF_congr fun i _ => by simp [stepD]
      unfold restD at h1
      rw [h2] at h1
      unfold restD
      omega
theorem flexF_down {wt : Nat → Int} {m : Nat} (h : WtOk wt m) : ∀ (f : Nat) (left : Int) (out : Nat → Int), OutOk out m → 0 ≤ left → sumF (flexF true wt m f left out) (List.range m) ≤ sumF out (List.range m) := by
  intro f
  induction f with
  | zero => intro left out ho hl; exact Int.le_refl _
  | succ f ih =>
    intro left out ho hl
    rw [flexF]
    split
    · exact Int.le_refl _
    · rename_i hs
      have h1 := ih _ _ (stepD_ok (dn := true) h ho hl) (restD_bd h ho hl hs).1
      have h2 : sumF (stepD true wt out m left) (List.range m) ≤ sumF out (List.range m) := sumF_le_of fun i hi => by
        have := takeD_bd (dn := true) h ho hl (List.mem_range.1 hi)
        show (if true = true then out i - _ else _) ≤ _
        rw [if_pos rfl]; omega
      omega
/-- flexible sizes for a space -/
def flexS (base gr sr : Nat → Int) (m : Nat) (space : Int) : Nat → Int :=
  if sumF base (List.range m) ≤ space then flexF false gr m (space - sumF base (List.range m) + 1).toNat (space - sumF base (List.range m)) base
  else flexF true sr m (sumF base (List.range m) - space + 1).toNat (sumF base (List.range m) - space) base
theorem flexS_ok {base gr sr : Nat → Int} {m : Nat} {space : Int} (hb : OutOk base m) (hg : WtOk gr m) (hs : WtOk sr m) : OutOk (flexS base gr sr m space) m := by
  unfold flexS
  split
  · exact flexF_ok hg _ _ _ hb (by omega)
  · exact flexF_ok hs _ _ _ hb (by omega)
theorem flexS_sum {base gr sr : Nat → Int} {m : Nat} {space : Int} (hb : OutOk base m) (hg : WtOk gr m) (hs : WtOk sr m) : sumF (flexS base gr sr m space) (List.range m) ≤ max space (sumF base (List.range m)) := by
  unfold flexS
  split
  · have := flexF_up hg (space - sumF base (List.range m) + 1).toNat (space - sumF base (List.range m)) base hb (by omega); omega
  · have := flexF_down hs (sumF base (List.range m) - space + 1).toNat (sumF base (List.range m) - space) base hb (by omega); omega
/-- where sizes begin -/
def leftO (sz : Nat → Int) (m : Nat) (space gap : Int) : Int := max (space - sumF sz (List.range m) - gap * ((m : Int) - 1)) 0
def atO (left just : Int) : Int := if just = 1 then left else if just = 2 then left / 2 else 0
def moreO (m : Nat) (left just : Int) (t : Nat) : Int := if just = 3 ∧ 1 < m then (shareL left (List.replicate (m - 1) 1)).getD t 0 else 0
def offS (sz : Nat → Int) (m : Nat) (space gap just : Int) (t : Nat) : Int :=
  atO (leftO sz m space gap) just + sumF (fun j => sz j + gap + moreO m (leftO sz m space gap) just j) (List.range t)
theorem ones_sum (k : Nat) : sumI (List.replicate k 1) = k := by
  induction k with
  | zero => rfl
  | succ k ih => rw [List.replicate_succ, sumI_cons, ih]; omega
theorem moreO_bd {m : Nat} {left just : Int} (hl : 0 ≤ left) {t : Nat} (ht : t + 1 < m) : 0 ≤ moreO m left just t := by
  unfold moreO
  split
  · have hs : sumI (List.replicate (m - 1) (1 : Int)) ≠ 0 := by rw [ones_sum]; omega
    rw [shareL_getD hs (by rw [List.length_replicate]; omega)]
    refine share_nonneg hl (by rw [ones_sum]; omega) ?_
    rw [List.getD_eq_getElem?_getD, List.getElem?_replicate]
    split <;> simp
  · exact Int.le_refl _
theorem sumF_take_le {f : Nat → Int} {n : Nat} (h : ∀ i, i < n → 0 ≤ f i) {k : Nat} (hk : k ≤ n) : sumF f (List.range k) ≤ sumF f (List.range n) := by
  induction n with
  | zero => obtain rfl : k = 0 := by omega
            exact Int.le_refl _
  | succ n ih =>
    rw [sumF_range_succ]
    have h0 := h n (by omega)
    by_cases e : k = n + 1
    · subst e; rw [sumF_range_succ]; omega
    · have := ih (fun i hi => h i (by omega)) (by omega); omega
theorem moreO_sum {m : Nat} {left just : Int} (hl : 0 ≤ left) {t : Nat} (ht : t < m) : sumF (moreO m left just) (List.range t) + atO left just ≤ left := by
  by_cases hj : just = 3 ∧ 1 < m
  · have hs : sumI (List.replicate (m - 1) (1 : Int)) = ((m - 1 : Nat) : Int) := ones_sum _
    have h1 : sumF (moreO m left just) (List.range (m - 1)) = left := by
      have h2 : sumF (moreO m left just) (List.range (m - 1)) = sumI (shareL left (List.replicate (m - 1) 1)) := by
        rw [sumI_range, shareL_len, List.length_replicate]
        exact sumF_congr fun i _ => by unfold moreO; rw [if_pos hj]
      rw [h2, shareL_sum (by rw [hs]; omega)]
    have h3 := sumF_take_le (f := moreO m left just) (n := m - 1) (fun i hi => moreO_bd hl (by omega)) (k := t) (by omega)
    have h4 : atO left just = 0 := by unfold atO; rw [if_neg (by omega), if_neg (by omega)]
    omega
  · have h1 : sumF (moreO m left just) (List.range t) = 0 := by
      have : ∀ l : List Nat, sumF (moreO m left just) l = 0 := fun l => by
        induction l with
        | nil => rfl
        | cons x l ih => rw [sumF_cons, ih]; unfold moreO; rw [if_neg hj]; rfl
      exact this _
    have h2 : atO left just ≤ left := by
      unfold atO
      split
      · omega
      · split <;> omega
    omega
theorem sumF_const (c : Int) (t : Nat) : sumF (fun _ => c) (List.range t) = c * t := by
  induction t with
  | zero => simp [sumF_nil]
  | succ t ih => rw [sumF_range_succ, ih, show ((t + 1 : Nat) : Int) = (t : Int) + 1 by omega, Int.mul_add, Int.mul_one]
/-- offsets stay in the space, or in what the sizes and the gaps take -/
theorem offS_bd {sz : Nat → Int} {m : Nat} {space gap just : Int} (hz : ∀ t, t < m → 0 ≤ sz t) (hg : 0 ≤ gap) {t : Nat} (ht : t < m) :
    0 ≤ offS sz m space gap just t ∧ offS sz m space gap just t ≤ max space (sumF sz (List.range m) + gap * ((m : Int) - 1)) := by
  have hl : 0 ≤ leftO sz m space gap := by unfold leftO; omega
  have h1 : sumF (fun j => sz j + gap + moreO m (leftO sz m space gap) just j) (List.range t) = sumF sz (List.range t) + gap * t + sumF (moreO m (leftO sz m space gap) just) (List.range t) := by
    rw [sumF_add, sumF_add, sumF_const]
  have h2 := moreO_sum (just := just) hl ht
  have h3 := sumF_take_le hz (k := t) (by omega)
  have h4 := sumF_nonneg (f := sz) (l := List.range t) fun i hi => hz i (by have := List.mem_range.1 hi; omega)
  have h5 := sumF_nonneg (f := moreO m (leftO sz m space gap) just) (l := List.range t) fun i hi => moreO_bd hl (by have := List.mem_range.1 hi; omega)
  have h6 : 0 ≤ atO (leftO sz m space gap) just := by
    unfold atO
    split
    · exact hl
    · split <;> omega
  have h7 : 0 ≤ gap * (t : Int) := Int.mul_nonneg hg (by omega)
  have h8 : gap * (t : Int) ≤ gap * ((m : Int) - 1) := Int.mul_le_mul_of_nonneg_left (by omega) hg
  have h9 : leftO sz m space gap = max (space - sumF sz (List.range m) - gap * ((m : Int) - 1)) 0 := rfl
  unfold offS
  rw [h1]
  omega
end Go.Proofs.Ythgliihdaockoaa
