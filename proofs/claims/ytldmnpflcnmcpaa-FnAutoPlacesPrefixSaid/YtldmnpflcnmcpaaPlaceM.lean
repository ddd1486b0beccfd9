/- Places in a grid: plain lists. Conditions: none. -/
import Derived.Test.YtldmnpflcnmcpaaFrameM
namespace Go.Proofs.Ytldmnpflcnmcpaa
set_option linter.unusedVariables false

/-- the row and the column at which an item lies, out of where the one before it ends -/
def rowOf (c r a n : Int) : Int := if a + n > c then r + 1 else r
def colOf (c a n : Int) : Int := if a + n > c then 0 else a
/-- the end, in its row, of the first k items -/
def endC (ws : List Int) (c : Int) : Nat → Int
  | 0 => 0
  | k + 1 => colOf c (endC ws c k) (ws.getD k 0) + ws.getD k 0
/-- the row of the first k items -/
def endR (ws : List Int) (c : Int) : Nat → Int
  | 0 => 0
  | k + 1 => rowOf c (endR ws c k) (endC ws c k) (ws.getD k 0)
/-- where the k-th item lies -/
def plR (ws : List Int) (c : Int) (k : Nat) : Int := rowOf c (endR ws c k) (endC ws c k) (ws.getD k 0)
def plC (ws : List Int) (c : Int) (k : Nat) : Int := colOf c (endC ws c k) (ws.getD k 0)
theorem endR_succ (ws : List Int) (c : Int) (k : Nat) : endR ws c (k + 1) = plR ws c k := by rw [endR, plR]
theorem endC_succ (ws : List Int) (c : Int) (k : Nat) : endC ws c (k + 1) = plC ws c k + ws.getD k 0 := by rw [endC, plC]
/-- widths of items -/
def Wid (c : Int) (ws : List Int) : Prop := ∀ x ∈ ws, 1 ≤ x ∧ x ≤ c
theorem Wid.at {c : Int} {ws : List Int} (h : Wid c ws) {k : Nat} (hk : k < ws.length) : 1 ≤ ws.getD k 0 ∧ ws.getD k 0 ≤ c := h _ (getD_mem hk)
theorem end_bd {ws : List Int} {c : Int} (hc : 0 ≤ c) (h : Wid c ws) {k : Nat} (hk : k ≤ ws.length) : 0 ≤ endR ws c k ∧ endR ws c k ≤ k ∧ 0 ≤ endC ws c k ∧ endC ws c k ≤ c := by
  induction k with
  | zero => rw [endR, endC]; omega
  | succ k ih =>
    have h1 := ih (by omega)
    have h2 := h.at (k := k) (by omega)
    rw [endR, endC]
    unfold rowOf colOf
    split <;> omega
theorem pl_bd {ws : List Int} {c : Int} (hc : 0 ≤ c) (h : Wid c ws) {k : Nat} (hk : k < ws.length) : 0 ≤ plR ws c k ∧ plR ws c k ≤ k ∧ 0 ≤ plC ws c k ∧ plC ws c k + ws.getD k 0 ≤ c := by
  have h1 := end_bd hc h (k := k) (by omega)
  have h2 := h.at hk
  unfold plR plC rowOf colOf
  cases k with
  | zero =>
    rw [endR, endC] at *
    split <;> omega
  | succ k =>
    have h3 := end_bd hc h (k := k) (by omega)
    have h4 : endR ws c (k + 1) ≤ k + 1 := by omega
    split
    · have : endR ws c (k + 1) ≤ k := by
        rw [endR_succ]
        clear h4 h1
        have : ∀ j, j < ws.length → plR ws c j ≤ j := by
          intro j hj
          induction j with
          | zero =>
            have := h.at hj
            unfold plR rowOf; rw [endR, endC]; split <;> omega
          | succ j ihj =>
            have h5 := ihj (by omega)
            unfold plR rowOf; rw [endR_succ]; split <;> omega
        exact this k (by omega)
      omega
    · omega
theorem pl_next {ws : List Int} {c : Int} {k : Nat} : (plR ws c (k + 1) = plR ws c k ∧ plC ws c (k + 1) = plC ws c k + ws.getD k 0) ∨ (plR ws c (k + 1) = plR ws c k + 1 ∧ plC ws c (k + 1) = 0) := by
  show (rowOf c (endR ws c (k + 1)) (endC ws c (k + 1)) (ws.getD (k + 1) 0) = _ ∧ colOf c (endC ws c (k + 1)) (ws.getD (k + 1) 0) = _) ∨ (rowOf c (endR ws c (k + 1)) (endC ws c (k + 1)) (ws.getD (k + 1) 0) = _ ∧ colOf c (endC ws c (k + 1)) (ws.getD (k + 1) 0) = _)
  rw [endR_succ, endC_succ]
  unfold rowOf colOf
  split
  · exact .inr ⟨rfl, rfl⟩
  · exact .inl ⟨rfl, rfl⟩
theorem pl_full {ws : List Int} {c : Int} {k : Nat} (h : plR ws c (k + 1) ≠ plR ws c k) : c < plC ws c k + ws.getD k 0 + ws.getD (k + 1) 0 := by
  have e : plR ws c (k + 1) = rowOf c (endR ws c (k + 1)) (endC ws c (k + 1)) (ws.getD (k + 1) 0) := rfl
  rw [endR_succ, endC_succ] at e
  unfold rowOf at e
  split at e
  · omega
  · exact absurd e h
theorem pl_zero {ws : List Int} {c : Int} (h : Wid c ws) (h0 : 0 < ws.length) : plR ws c 0 = 0 ∧ plC ws c 0 = 0 := by
  have := h.at h0
  unfold plR plC rowOf colOf
  rw [endR, endC]
  split <;> omega
/-- the rows that items need -/
def rowsL (ws : List Int) (c : Int) : Int := if ws.length = 0 then 0 else endR ws c ws.length + 1
theorem end_more {ws : List Int} {c : Int} (hc : 0 ≤ c) (h : Wid c ws) {k : Nat} (hk : k ≤ ws.length) :
    endR ws (c + 1) k < endR ws c k ∨ (endR ws (c + 1) k = endR ws c k ∧ endC ws (c + 1) k ≤ endC ws c k) := by
  induction k with
  | zero => exact .inr ⟨by simp only [endR], by simp only [endC]; exact Int.le_refl _⟩
  | succ k ih =>
    have h1 := ih (by omega)
    have h2 := h.at (k := k) (by omega)
    have h3 := end_bd hc h (k := k) (by omega)
    have h4 := end_bd (c := c + 1) (by omega) (fun x hx => by have := h x hx; omega) (k := k) (by omega)
    simp only [endR, endC]
    unfold rowOf colOf
    split <;> split <;> omega
theorem rows_more {ws : List Int} {c : Int} (hc : 0 ≤ c) (h : Wid c ws) : rowsL ws (c + 1) ≤ rowsL ws c := by
  unfold rowsL
  have := end_more hc h (Nat.le_refl _)
  split <;> omega
theorem pre_end {ws : List Int} {c : Int} (hc : 0 ≤ c) (h : Wid c ws) {k : Nat} (hk : k ≤ ws.length) : pre ws k ≤ endR ws c k * c + endC ws c k := by
  induction k with
  | zero => rw [pre_zero, endR, endC]; omega
  | succ k ih =>
    have h1 := ih (by omega)
    have h2 := h.at (k := k) (by omega)
    have h3 := end_bd hc h (k := k) (by omega)
    rw [pre_succ (by omega), endR, endC]
    unfold rowOf colOf
    split
    · rw [Int.add_mul]; omega
    · omega
theorem rows_room {ws : List Int} {c : Int} (hc : 0 ≤ c) (h : Wid c ws) : sumI ws ≤ rowsL ws c * c := by
  unfold rowsL
  split
  · rename_i h0
    rw [List.eq_nil_of_length_eq_zero h0]; simp [sumI_nil]
  · have h1 := pre_end hc h (Nat.le_refl _)
    have h2 := end_bd hc h (Nat.le_refl _)
    rw [pre_all] at h1
    rw [Int.add_mul]; omega
theorem rows_bd {ws : List Int} {c : Int} (hc : 0 ≤ c) (h : Wid c ws) : 0 ≤ rowsL ws c ∧ rowsL ws c ≤ ws.length := by
  unfold rowsL
  split
  · omega
  · rename_i h0
    have h1 := pl_bd hc h (k := ws.length - 1) (by omega)
    have h2 := endR_succ ws c (ws.length - 1)
    rw [show ws.length - 1 + 1 = ws.length by omega] at h2
    omega
theorem ones_wid (n : Nat) : Wid 1 (List.replicate n 1) := fun x hx => by rw [List.eq_of_mem_replicate hx]; omega
theorem ones_at {n k : Nat} (hk : k < n) : (List.replicate n (1 : Int)).getD k 0 = 1 := by simp [List.getD_eq_getElem?_getD, hk]
theorem ones_end (n : Nat) {k : Nat} (hk : k < n) : endR (List.replicate n 1) 1 (k + 1) = k ∧ endC (List.replicate n 1) 1 (k + 1) = 1 := by
  induction k with
  | zero =>
    simp only [endR, endC, ones_at hk]
    unfold rowOf colOf
    split <;> omega
  | succ k ih =>
    have h1 := ih (by omega)
    rw [endR_succ, endC_succ]
    unfold plR plC
    rw [ones_at hk, h1.1, h1.2]
    unfold rowOf colOf
    split <;> omega
theorem rows_ones (n : Nat) : rowsL (List.replicate n 1) 1 = n := by
  unfold rowsL
  rw [List.length_replicate]
  split
  · omega
  · have := ones_end n (k := n - 1) (by omega)
    rw [show n - 1 + 1 = n by omega] at this
    omega
theorem take_at {ws : List Int} {n k : Nat} (hk : k < n) : (ws.take n).getD k 0 = ws.getD k 0 := by simp [List.getD_eq_getElem?_getD, hk]
theorem end_take {ws : List Int} {c : Int} {n k : Nat} (hk : k ≤ n) : endR (ws.take n) c k = endR ws c k ∧ endC (ws.take n) c k = endC ws c k := by
  induction k with
  | zero => simp only [endR, endC]; exact ⟨trivial, trivial⟩
  | succ k ih =>
    obtain ⟨h1, h2⟩ := ih (by omega)
    simp only [endR, endC, h1, h2, take_at (show k < n by omega)]
    exact ⟨trivial, trivial⟩
theorem pl_take {ws : List Int} {c : Int} {n k : Nat} (hk : k < n) : plR (ws.take n) c k = plR ws c k ∧ plC (ws.take n) c k = plC ws c k := by
  obtain ⟨h1, h2⟩ := end_take (ws := ws) (c := c) (show k ≤ n by omega)
  unfold plR plC
  rw [h1, h2, take_at hk]
  exact ⟨rfl, rfl⟩
end Go.Proofs.Ytldmnpflcnmcpaa
