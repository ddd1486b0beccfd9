/- Splitting a number by weights: plain lists. Conditions: none. -/
import Derived.Test.YthgliihdaockoaaSums
namespace Go.Proofs.Ythgliihdaockoaa
set_option linter.unusedVariables false

/-- i comes before j: its rest is greater, or equal and i is less -/
def bef (r : Nat → Int) (i j : Nat) : Prop := r j < r i ∨ (r i = r j ∧ i < j)
theorem bef_irrefl (r : Nat → Int) (i : Nat) : ¬ bef r i i := by unfold bef; omega
theorem bef_asymm {r : Nat → Int} {i j : Nat} (h : bef r i j) : ¬ bef r j i := by unfold bef at *; omega
theorem bef_trans {r : Nat → Int} {i j k : Nat} (h : bef r i j) (h' : bef r j k) : bef r i k := by unfold bef at *; omega
theorem bef_total {r : Nat → Int} {i j : Nat} (h : i ≠ j) : bef r i j ∨ bef r j i := by unfold bef; omega
instance (r : Nat → Int) (i j : Nat) : Decidable (bef r i j) := by unfold bef; exact inferInstance

def insR (r : Nat → Int) (x : Nat) : List Nat → List Nat
  | [] => [x]
  | y :: t => if bef r x y then x :: y :: t else y :: insR r x t
def sortR (r : Nat → Int) : Nat → List Nat
  | 0 => []
  | n + 1 => insR r n (sortR r n)
theorem insR_perm (r : Nat → Int) (x : Nat) (l : List Nat) : (insR r x l).Perm (x :: l) := by
  induction l with
  | nil => exact List.Perm.refl _
  | cons y t ih =>
    unfold insR
    split
    · exact List.Perm.refl _
    · exact (List.Perm.cons y ih).trans (List.Perm.swap x y t)
theorem insR_sorted {r : Nat → Int} {x : Nat} {l : List Nat} (hl : l.Pairwise (bef r)) (hx : x ∉ l) : (insR r x l).Pairwise (bef r) := by
  induction l with
  | nil => simp [insR]
  | cons y t ih =>
    rw [List.pairwise_cons] at hl
    unfold insR
    split
    · rename_i h
      refine List.pairwise_cons.2 ⟨fun z hz => ?_, List.pairwise_cons.2 hl⟩
      rcases List.mem_cons.1 hz with rfl | hz
      · exact h
      · exact bef_trans h (hl.1 z hz)
    · rename_i h
      refine List.pairwise_cons.2 ⟨fun z hz => ?_, ih hl.2 (fun h => hx (List.mem_cons_of_mem _ h))⟩
      rcases List.mem_cons.1 ((insR_perm r x t).mem_iff.1 hz) with rfl | hz
      · exact (bef_total (r := r) (fun e => hx (by rw [e]; exact List.mem_cons_self))).resolve_left h
      · exact hl.1 z hz
theorem sortR_perm (r : Nat → Int) (n : Nat) : (sortR r n).Perm (List.range n) := by
  induction n with
  | zero => exact List.Perm.refl _
  | succ n ih =>
    rw [List.range_succ]
    exact ((insR_perm r n _).trans (List.Perm.cons n ih)).trans (List.perm_append_comm (l₁ := [n]) (l₂ := List.range n))
theorem sortR_lt {r : Nat → Int} {n i : Nat} : i ∈ sortR r n ↔ i < n := by rw [(sortR_perm r n).mem_iff, List.mem_range]
theorem sortR_len (r : Nat → Int) (n : Nat) : (sortR r n).length = n := by rw [(sortR_perm r n).length_eq, List.length_range]
theorem sortR_sorted (r : Nat → Int) (n : Nat) : (sortR r n).Pairwise (bef r) := by
  induction n with
  | zero => exact List.Pairwise.nil
  | succ n ih => exact insR_sorted ih (fun h => by have := sortR_lt.1 h; omega)
theorem sorted_eq {r : Nat → Int} {n : Nat} {l : List Nat} (hp : l.Perm (List.range n)) (hs : l.Pairwise (bef r)) : l = sortR r n :=
  List.Perm.eq_of_pairwise (le := bef r) (fun a b _ _ h1 h2 => absurd h2 (bef_asymm h1)) hs (sortR_sorted r n) (hp.trans (sortR_perm r n).symm)
theorem sortR_nodup (r : Nat → Int) (n : Nat) : (sortR r n).Nodup := (sortR_perm r n).nodup_iff.2 List.nodup_range

/-- the first k of the sorted ones -/
def topR (r : Nat → Int) (n k i : Nat) : Bool := decide (i ∈ (sortR r n).take k)
theorem topR_zero (r : Nat → Int) (n i : Nat) : topR r n 0 i = false := by simp [topR]
theorem topR_succ {r : Nat → Int} {n k : Nat} (hk : k < n) (i : Nat) : topR r n (k + 1) i = (topR r n k i || decide (i = (sortR r n).getD k 0)) := by
  have hk' : k < (sortR r n).length := by rw [sortR_len]; exact hk
  rw [Bool.eq_iff_iff]
  simp only [topR, Bool.or_eq_true, decide_eq_true_eq]
  rw [List.take_succ_eq_append_getElem hk', List.mem_append, List.mem_singleton, List.getD_eq_getElem?_getD, List.getElem?_eq_getElem hk', Option.getD_some]
theorem topR_at {r : Nat → Int} {n k : Nat} (hk : k < n) : topR r n k ((sortR r n).getD k 0) = false := by
  have hk' : k < (sortR r n).length := by rw [sortR_len]; exact hk
  have hn := sortR_nodup r n
  rw [← List.take_append_drop k (sortR r n), List.nodup_append] at hn
  have hd : (sortR r n).drop k = (sortR r n)[k] :: (sortR r n).drop (k + 1) := List.drop_eq_getElem_cons hk'
  rw [hd] at hn
  simp only [topR, decide_eq_false_iff_not]
  rw [List.getD_eq_getElem?_getD, List.getElem?_eq_getElem hk', Option.getD_some]
  intro h
  exact hn.2.2 _ h _ List.mem_cons_self rfl
/-- the k-th of the sorted ones comes before all that are not among the first k -/
theorem topR_first {r : Nat → Int} {n k j : Nat} (hk : k < n) (hj : j < n) (ht : topR r n k j = false) (hne : j ≠ (sortR r n).getD k 0) : bef r ((sortR r n).getD k 0) j := by
  have hk' : k < (sortR r n).length := by rw [sortR_len]; exact hk
  have hs := sortR_sorted r n
  have hd : (sortR r n).drop k = (sortR r n)[k] :: (sortR r n).drop (k + 1) := List.drop_eq_getElem_cons hk'
  have hm : j ∈ sortR r n := sortR_lt.2 hj
  rw [← List.take_append_drop k (sortR r n), hd] at hs hm
  rw [List.getD_eq_getElem?_getD, List.getElem?_eq_getElem hk', Option.getD_some] at hne ⊢
  simp only [topR, decide_eq_false_iff_not] at ht
  rcases List.mem_append.1 hm with h | h
  · exact absurd h ht
  · rcases List.mem_cons.1 h with h | h
    · exact absurd h hne
    · exact (List.pairwise_cons.1 (List.pairwise_append.1 hs).2.1).1 j h
theorem topR_down {r : Nat → Int} {n k i j : Nat} (hi : i < n) (h : topR r n k j = true) (hb : bef r i j) : topR r n k i = true := by
  simp only [topR, decide_eq_true_eq] at h ⊢
  have hs := sortR_sorted r n
  have hm : i ∈ sortR r n := sortR_lt.2 hi
  rw [← List.take_append_drop k (sortR r n)] at hs hm
  rcases List.mem_append.1 hm with h1 | h1
  · exact h1
  · exact absurd ((List.pairwise_append.1 hs).2.2 j h i h1) (bef_asymm hb)

/-- the sum of f over a list -/
def sumF (f : Nat → Int) (l : List Nat) : Int := sumI (l.map f)
theorem sumF_perm {f : Nat → Int} {l l' : List Nat} (h : l.Perm l') : sumF f l = sumF f l' := by
  unfold sumF
  induction h with
  | nil => rfl
  | cons x _ ih => simp only [List.map_cons, sumI_cons, ih]
  | swap x y l => simp only [List.map_cons, sumI_cons]; omega
  | trans _ _ h1 h2 => rw [h1, h2]
theorem sumF_cons (f : Nat → Int) (x : Nat) (l : List Nat) : sumF f (x :: l) = f x + sumF f l := by unfold sumF; rw [List.map_cons, sumI_cons]
theorem sumF_nil (f : Nat → Int) : sumF f [] = 0 := rfl
theorem sumF_append (f : Nat → Int) (l l' : List Nat) : sumF f (l ++ l') = sumF f l + sumF f l' := by unfold sumF; rw [List.map_append, sumI_append]
theorem sumF_add (f g : Nat → Int) (l : List Nat) : sumF (fun i => f i + g i) l = sumF f l + sumF g l := by
  induction l with
  | nil => rfl
  | cons x l ih => simp only [sumF_cons, ih]; omega
theorem sumF_mul (c : Int) (f : Nat → Int) (l : List Nat) : sumF (fun i => c * f i) l = c * sumF f l := by
  induction l with
  | nil => simp [sumF_nil]
  | cons x l ih => simp only [sumF_cons, ih, Int.mul_add]
theorem sumF_congr {f g : Nat → Int} {l : List Nat} (h : ∀ i ∈ l, f i = g i) : sumF f l = sumF g l := by
  induction l with
  | nil => rfl
  | cons x l ih => rw [sumF_cons, sumF_cons, h x List.mem_cons_self, ih fun i hi => h i (List.mem_cons_of_mem _ hi)]
theorem sumF_le {f : Nat → Int} {M : Int} {l : List Nat} (h : ∀ i ∈ l, f i ≤ M) : sumF f l ≤ M * l.length := by
  induction l with
  | nil => simp [sumF_nil]
  | cons x l ih =>
    have h1 := h x List.mem_cons_self
    have h2 := ih fun i hi => h i (List.mem_cons_of_mem _ hi)
    rw [sumF_cons, List.length_cons, Int.natCast_add, Int.mul_add]
    omega
theorem sumF_nonneg {f : Nat → Int} {l : List Nat} (h : ∀ i ∈ l, 0 ≤ f i) : 0 ≤ sumF f l := by
  induction l with
  | nil => exact Int.le_refl _
  | cons x l ih =>
    have h1 := h x List.mem_cons_self
    have h2 := ih fun i hi => h i (List.mem_cons_of_mem _ hi)
    rw [sumF_cons]; omega
theorem sumI_range (xs : List Int) : sumI xs = sumF (fun i => xs.getD i 0) (List.range xs.length) := by
  induction xs with
  | nil => rfl
  | cons x xs ih =>
    rw [sumI_cons, ih, List.length_cons, List.range_succ_eq_map, sumF_cons]
    unfold sumF
    rw [List.map_map]
    rfl
/-- how many of the numbers below n are among the first k -/
theorem sumF_top {r : Nat → Int} {n k : Nat} (hk : k ≤ n) : sumF (fun i => if topR r n k i = true then 1 else 0) (List.range n) = k := by
  rw [← sumF_perm (sortR_perm r n)]
  have h1 : (sortR r n).take k ++ (sortR r n).drop k = sortR r n := List.take_append_drop _ _
  have hn := sortR_nodup r n
  rw [← h1, List.nodup_append] at hn
  have e : sumF (fun i => if topR r n k i = true then 1 else 0) (sortR r n) = sumF (fun i => if topR r n k i = true then 1 else 0) ((sortR r n).take k) + sumF (fun i => if topR r n k i = true then 1 else 0) ((sortR r n).drop k) := by
    rw [← sumF_append, h1]
  rw [e]
  have e1 : sumF (fun i => if topR r n k i = true then 1 else 0) ((sortR r n).take k) = sumF (fun _ => 1) ((sortR r n).take k) :=
    sumF_congr fun i hi => by rw [if_pos]; simpa [topR] using hi
  have e2 : sumF (fun i => if topR r n k i = true then 1 else 0) ((sortR r n).drop k) = sumF (fun _ => 0) ((sortR r n).drop k) :=
    sumF_congr fun i hi => by
      rw [if_neg]
      simp only [topR, decide_eq_true_eq]
      intro h
      exact hn.2.2 _ h _ hi rfl
  have c1 : ∀ l : List Nat, sumF (fun _ => 1) l = l.length := fun l => by
    induction l with
    | nil => rfl
    | cons x l ih => rw [sumF_cons, ih, List.length_cons]; omega
  have c0 : ∀ l : List Nat, sumF (fun _ => 0) l = 0 := fun l => by
    induction l with
    | nil => rfl
    | cons x l ih => rw [sumF_cons, ih]; rfl
  rw [e1, e2, c1, c0, List.length_take, sortR_len]
  omega

/-- one weight's share, rounded down; the rest of that division -/
def baseW (s : Int) (ws : List Int) (i : Nat) : Int := s * ws.getD i 0 / sumI ws
def restW (s : Int) (ws : List Int) (i : Nat) : Int := s * ws.getD i 0 % sumI ws
/-- what the shares, rounded down, leave -/
def leftW (s : Int) (ws : List Int) : Int := s - sumF (baseW s ws) (List.range ws.length)
/-- the shares -/
def shareAt (s : Int) (ws : List Int) (i : Nat) : Int := baseW s ws i + if topR (restW s ws) ws.length (leftW s ws).toNat i = true then 1 else 0
def shareL (s : Int) (ws : List Int) : List Int := if sumI ws = 0 then List.replicate ws.length 0 else (List.range ws.length).map (shareAt s ws)
theorem shareL_len (s : Int) (ws : List Int) : (shareL s ws).length = ws.length := by unfold shareL; split <;> simp
theorem shareL_getD {s : Int} {ws : List Int} (h : sumI ws ≠ 0) {i : Nat} (hi : i < ws.length) : (shareL s ws).getD i 0 = shareAt s ws i := by
  unfold shareL
  rw [if_neg h]
  simp [List.getD_eq_getElem?_getD, hi]
theorem shareL_zero {s : Int} {ws : List Int} (h : sumI ws = 0) (i : Nat) : (shareL s ws).getD i 0 = 0 := by
  unfold shareL
  rw [if_pos h]
  simp only [List.getD_eq_getElem?_getD, List.getElem?_replicate]
  split <;> rfl
theorem base_rest (s : Int) (ws : List Int) (i : Nat) : sumI ws * baseW s ws i + restW s ws i = s * ws.getD i 0 := by
  unfold baseW restW
  exact Int.mul_ediv_add_emod _ _
theorem rest_bd {s : Int} {ws : List Int} (h : 0 < sumI ws) (i : Nat) : 0 ≤ restW s ws i ∧ restW s ws i ≤ sumI ws - 1 := by
  unfold restW
  have h1 := Int.emod_nonneg (s * ws.getD i 0) (show sumI ws ≠ 0 by omega)
  have h2 := Int.emod_lt_of_pos (s * ws.getD i 0) h
  omega
/-- what is left, times the sum, is the sum of the rests -/
theorem left_rests (s : Int) (ws : List Int) : sumI ws * leftW s ws = sumF (restW s ws) (List.range ws.length) := by
  have h1 : sumF (fun i => sumI ws * baseW s ws i + restW s ws i) (List.range ws.length) = sumF (fun i => s * ws.getD i 0) (List.range ws.length) :=
    sumF_congr fun i _ => base_rest s ws i
  rw [sumF_add, sumF_mul, sumF_mul, ← sumI_range] at h1
  unfold leftW
  rw [Int.mul_sub, Int.mul_comm (sumI ws) s]
  omega
theorem left_bd {s : Int} {ws : List Int} (h : 0 < sumI ws) : 0 ≤ leftW s ws ∧ leftW s ws < ws.length := by
  have h1 := left_rests s ws
  have h2 := sumF_nonneg (f := restW s ws) (l := List.range ws.length) fun i _ => (rest_bd h i).1
  have h3 := sumF_le (f := restW s ws) (l := List.range ws.length) (M := sumI ws - 1) fun i _ => (rest_bd h i).2
  rw [List.length_range] at h3
  have hn : 0 < ws.length := by
    rcases ws with _ | ⟨x, t⟩
    · simp [sumI_nil] at h
    · simp
  rw [← h1] at h2 h3
  constructor
  · rcases Int.lt_or_le (leftW s ws) 0 with hl | hl
    · have := Int.mul_neg_of_pos_of_neg h hl; omega
    · exact hl
  · rcases Int.lt_or_le (leftW s ws) ws.length with hl | hl
    · exact hl
    · have h4 := Int.mul_le_mul_of_nonneg_left hl (show 0 ≤ sumI ws by omega)
      rw [Int.sub_mul] at h3
      omega
/-- the shares are the whole -/
theorem shareL_sum {s : Int} {ws : List Int} (h : 0 < sumI ws) : sumI (shareL s ws) = s := by
  have hl := left_bd (s := s) h
  have e : sumI (shareL s ws) = sumF (shareAt s ws) (List.range ws.length) := by
    unfold shareL
    rw [if_neg (by omega)]
    rfl
  rw [e]
  unfold shareAt
  rw [sumF_add, sumF_top (by omega)]
  have : leftW s ws = s - sumF (baseW s ws) (List.range ws.length) := rfl
  omega
theorem shareL_sum0 {s : Int} {ws : List Int} (h : sumI ws = 0) : sumI (shareL s ws) = 0 := by
  unfold shareL
  rw [if_pos h]
  generalize ws.length = n
  induction n with
  | zero => rfl
  | succ n ih => rw [List.replicate_succ, sumI_cons, ih]; rfl
/-- who has no weight has no share -/
theorem share_none {s : Int} {ws : List Int} (h : 0 < sumI ws) {i : Nat} (hi : i < ws.length) (hw : ws.getD i 0 = 0) : shareAt s ws i = 0 := by
  have hb : baseW s ws i = 0 := by unfold baseW; rw [hw]; simp
  have hr : restW s ws i = 0 := by unfold restW; rw [hw]; simp
  have hl := left_bd (s := s) h
  unfold shareAt
  rw [hb, if_neg]
  · rfl
  · intro ht
    obtain ⟨k, hk⟩ := Int.eq_ofNat_of_zero_le hl.1
    rw [hk, Int.toNat_natCast] at ht
    have hkn : k ≤ ws.length := by omega
    have h1 := left_rests s ws
    rw [← sumF_perm (sortR_perm (restW s ws) ws.length)] at h1
    have hdec : (sortR (restW s ws) ws.length).take k ++ (sortR (restW s ws) ws.length).drop k = sortR (restW s ws) ws.length := List.take_append_drop _ _
    have hs := sortR_sorted (restW s ws) ws.length
    rw [← hdec] at h1 hs
    rw [sumF_append] at h1
    simp only [topR, decide_eq_true_eq] at ht
    -- all behind the first k have no rest
    have h2 : sumF (restW s ws) ((sortR (restW s ws) ws.length).drop k) ≤ 0 * ((sortR (restW s ws) ws.length).drop k).length := sumF_le fun j hj => by
      have := (List.pairwise_append.1 hs).2.2 i ht j hj
      have h0 := (rest_bd (s := s) h j).1
      unfold bef at this
      omega
    -- of the first k one has none
    obtain ⟨a, b, hab⟩ := List.append_of_mem ht
    have h3 : sumF (restW s ws) ((sortR (restW s ws) ws.length).take k) = sumF (restW s ws) a + (restW s ws i + sumF (restW s ws) b) := by rw [hab, sumF_append, sumF_cons]
    have h4 := sumF_le (f := restW s ws) (l := a) (M := sumI ws - 1) fun i _ => (rest_bd h i).2
    have h5 := sumF_le (f := restW s ws) (l := b) (M := sumI ws - 1) fun i _ => (rest_bd h i).2
    have h6 : a.length + (b.length + 1) = k := by
      have := congrArg List.length hab
      rw [List.length_take, sortR_len, List.length_append, List.length_cons] at this
      omega
    rw [hk, h3, hr] at h1
    have h7 : (sumI ws - 1) * (a.length : Int) + (sumI ws - 1) * (b.length : Int) = (sumI ws - 1) * ((k : Int) - 1) := by
      rw [← Int.mul_add]; congr 1; omega
    have h8 : (sumI ws - 1) * ((k : Int) - 1) = sumI ws * k - sumI ws - k + 1 := by
      rw [Int.sub_mul, Int.mul_sub, Int.mul_one, Int.one_mul]; omega
    omega
/-- who has the larger weight has no less -/
theorem share_more {s : Int} {ws : List Int} (hs : 0 ≤ s) (h : 0 < sumI ws) {i j : Nat} (hi : i < ws.length) (hw : ws.getD j 0 < ws.getD i 0) : shareAt s ws j ≤ shareAt s ws i := by
  have hb : baseW s ws j ≤ baseW s ws i := Int.ediv_le_ediv h (Int.mul_le_mul_of_nonneg_left (by omega) hs)
  unfold shareAt
  by_cases he : baseW s ws j = baseW s ws i
  · rw [he]
    by_cases ht : topR (restW s ws) ws.length (leftW s ws).toNat j = true
    · have hti : topR (restW s ws) ws.length (leftW s ws).toNat i = true := by
        refine topR_down hi ht (.inl ?_)
        have h1 := base_rest s ws i
        have h2 := base_rest s ws j
        rw [he] at h2
        have h0 : s ≠ 0 := by
          rintro rfl
          have h3 : leftW 0 ws = 0 := by
            have h4 := left_rests 0 ws
            have h5 : sumF (restW 0 ws) (List.range ws.length) = sumF (fun _ => 0) (List.range ws.length) := sumF_congr fun i _ => by simp [restW]
            have c0 : ∀ l : List Nat, sumF (fun _ => 0) l = 0 := fun l => by
              induction l with
              | nil => rfl
              | cons x l ih => rw [sumF_cons, ih]; rfl
            rw [h5, c0] at h4
            rcases Int.mul_eq_zero.1 h4 with h6 | h6
            · omega
            · exact h6
          rw [h3] at ht
          simp [topR] at ht
        have h3 := Int.mul_lt_mul_of_pos_left hw (show 0 < s by omega)
        omega
      rw [if_pos ht, if_pos hti]
      exact Int.le_refl _
    · rw [if_neg ht]
      split <;> omega
  · split <;> split <;> omega
theorem share_nonneg {s : Int} {ws : List Int} (hs : 0 ≤ s) (h : 0 < sumI ws) {i : Nat} (hw : 0 ≤ ws.getD i 0) : 0 ≤ shareAt s ws i := by
  have hb : 0 ≤ baseW s ws i := Int.ediv_nonneg (Int.mul_nonneg hs hw) (by omega)
  unfold shareAt
  split <;> omega
end Go.Proofs.Ythgliihdaockoaa
