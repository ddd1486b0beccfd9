/- Queues of tasks: plain lists. Conditions: none. -/
import Derived.Test.YtjmkpegomdgcoaaSums
namespace Go.Proofs.Ytjmkpegomdgcoaa
set_option linter.unusedVariables false
set_option linter.unusedSimpArgs false

structure Tk where
  id : Int
  rank : Int
  age : Int
def Tk.cells (t : Tk) : List Int := [t.id, t.rank, t.age]
def flat (ts : List Tk) : List Int := ts.flatMap Tk.cells
def tk (ts : List Tk) (i : Nat) : Tk := ts.getD i ⟨0, 0, 0⟩
theorem flat_nil : flat [] = [] := rfl
theorem flat_cons (t : Tk) (ts : List Tk) : flat (t :: ts) = t.id :: t.rank :: t.age :: flat ts := rfl
theorem flat_append (a b : List Tk) : flat (a ++ b) = flat a ++ flat b := List.flatMap_append
theorem flat_len (ts : List Tk) : (flat ts).length = ts.length * 3 := by
  induction ts with
  | nil => rfl
  | cons t ts ih => simp only [flat_cons, List.length_cons, ih]; omega
theorem tk_zero (t : Tk) (ts : List Tk) : tk (t :: ts) 0 = t := rfl
theorem tk_succ (t : Tk) (ts : List Tk) (i : Nat) : tk (t :: ts) (i + 1) = tk ts i := rfl
theorem flat_at (ts : List Tk) (i : Nat) : (flat ts).getD (i * 3) 0 = (tk ts i).id ∧ (flat ts).getD (i * 3 + 1) 0 = (tk ts i).rank ∧ (flat ts).getD (i * 3 + 2) 0 = (tk ts i).age := by
  induction ts generalizing i with
  | nil => simp [flat_nil, tk]
  | cons t ts ih =>
    cases i with
    | zero => simp [flat_cons, tk_zero]
    | succ i =>
      have h := ih i
      rw [show (i + 1) * 3 = i * 3 + 1 + 1 + 1 by omega, flat_cons, tk_succ]
      simpa using h
theorem flat_take (ts : List Tk) (k : Nat) : (flat ts).take (k * 3) = flat (ts.take k) := by
  induction ts generalizing k with
  | nil => simp [flat_nil]
  | cons t ts ih =>
    cases k with
    | zero => simp [flat_nil]
    | succ k =>
      rw [show (k + 1) * 3 = k * 3 + 1 + 1 + 1 by omega, flat_cons, List.take_succ_cons, List.take_succ_cons, List.take_succ_cons, ih, List.take_succ_cons, flat_cons]
theorem flat_drop (ts : List Tk) (k : Nat) : (flat ts).drop (k * 3) = flat (ts.drop k) := by
  induction ts generalizing k with
  | nil => simp [flat_nil]
  | cons t ts ih =>
    cases k with
    | zero => simp
    | succ k =>
      rw [show (k + 1) * 3 = k * 3 + 1 + 1 + 1 by omega, flat_cons, List.drop_succ_cons, List.drop_succ_cons, List.drop_succ_cons, ih, List.drop_succ_cons]
theorem flat_inj {a b : List Tk} (h : flat a = flat b) : a = b := by
  induction a generalizing b with
  | nil =>
    cases b with
    | nil => rfl
    | cons t b => simp [flat_nil, flat_cons] at h
  | cons s a ih =>
    cases b with
    | nil => simp [flat_nil, flat_cons] at h
    | cons t b =>
      rw [flat_cons, flat_cons] at h
      injection h with h1 h
      injection h with h2 h
      injection h with h3 h
      rw [ih h]
      cases s; cases t
      simp only at h1 h2 h3
      rw [h1, h2, h3]
theorem take_succ_tk {ts : List Tk} {k : Nat} (hk : k < ts.length) : ts.take (k + 1) = ts.take k ++ [tk ts k] := by
  rw [List.take_succ_eq_append_getElem hk, tk, List.getD_eq_getElem?_getD, List.getElem?_eq_getElem hk]
  rfl
/-- lists of cells, three for each task -/
theorem unflat (xs : List Int) (n : Nat) (h : xs.length = n * 3) : ∃ ts : List Tk, ts.length = n ∧ flat ts = xs := by
  induction n generalizing xs with
  | zero => exact ⟨[], rfl, by rw [List.eq_nil_of_length_eq_zero (show xs.length = 0 by omega)]; rfl⟩
  | succ n ih =>
    match xs, h with
    | a :: b :: c :: r, h =>
      obtain ⟨ts, h1, h2⟩ := ih r (by simp only [List.length_cons] at h; omega)
      exact ⟨⟨a, b, c⟩ :: ts, by rw [List.length_cons, h1], by rw [flat_cons, h2]⟩
    | [], h => simp at h
    | [_], h => simp only [List.length_cons, List.length_nil] at h; omega
    | [_, _], h => simp only [List.length_cons, List.length_nil] at h; omega

def tkOk (t : Tk) : Bool := inR t.id 0 99 && (inR t.rank 0 50 && inR t.age 0 20)
/-- the first k tasks are in order -/
def okTo (ts : List Tk) : Nat → Bool
  | 0 => true
  | k + 1 => okTo ts k && (tkOk (tk ts k) && (decide (k = 0) || decide ((tk ts (k - 1)).id < (tk ts k).id)))
def validT (ts : List Tk) : Bool := okTo ts ts.length && decide (ts.length ≤ 10)
theorem tkOk_iff {t : Tk} : tkOk t = true ↔ (0 ≤ t.id ∧ t.id ≤ 99) ∧ (0 ≤ t.rank ∧ t.rank ≤ 50) ∧ 0 ≤ t.age ∧ t.age ≤ 20 := by
  simp only [tkOk, Bool.and_eq_true, inR_iff]
theorem okTo_iff {ts : List Tk} {k : Nat} : okTo ts k = true ↔ (∀ i, i < k → tkOk (tk ts i) = true) ∧ ∀ i, i + 1 < k → (tk ts i).id < (tk ts (i + 1)).id := by
  induction k with
  | zero => simp [okTo]
  | succ k ih =>
    simp only [okTo, Bool.and_eq_true, ih, Bool.or_eq_true, decide_eq_true_eq]
    constructor
    · rintro ⟨⟨h1, h2⟩, h3, h4⟩
      refine ⟨fun i hi => ?_, fun i hi => ?_⟩
      · by_cases e : i = k
        · subst e; exact h3
        · exact h1 i (by omega)
      · by_cases e : i + 1 = k
        · subst e
          rcases h4 with h4 | h4
          · omega
          · exact h4
        · exact h2 i (by omega)
    · rintro ⟨h1, h2⟩
      refine ⟨⟨fun i hi => h1 i (by omega), fun i hi => h2 i (by omega)⟩, h1 k (by omega), ?_⟩
      by_cases e : k = 0
      · exact .inl e
      · refine .inr ?_
        have := h2 (k - 1) (by omega)
        rwa [show k - 1 + 1 = k by omega] at this
theorem okTo_false {ts : List Tk} {k n : Nat} (hk : k ≤ n) (h : okTo ts k = false) : okTo ts n = false := by
  rw [← Bool.not_eq_true] at h ⊢
  intro h'
  rw [okTo_iff] at h h'
  exact h ⟨fun i hi => h'.1 i (by omega), fun i hi => h'.2 i (by omega)⟩
/-- ascending, by the order of the list -/
def Asc (ts : List Tk) : Prop := ts.Pairwise fun a b => a.id < b.id
theorem asc_of {ts : List Tk} (h : ∀ i, i + 1 < ts.length → (tk ts i).id < (tk ts (i + 1)).id) : Asc ts := by
  induction ts with
  | nil => exact List.Pairwise.nil
  | cons t ts ih =>
    have h1 : Asc ts := ih fun i hi => h (i + 1) (by simp only [List.length_cons]; omega)
    refine List.pairwise_cons.2 ⟨?_, h1⟩
    cases ts with
    | nil => simp
    | cons u ts =>
      have h2 : t.id < u.id := h 0 (by simp only [List.length_cons]; omega)
      intro b hb
      rcases List.mem_cons.1 hb with rfl | hb
      · exact h2
      · exact Int.lt_trans h2 ((List.pairwise_cons.1 h1).1 b hb)
theorem tk_mem {ts : List Tk} {i : Nat} (hi : i < ts.length) : tk ts i ∈ ts := by
  rw [tk, List.getD_eq_getElem?_getD, List.getElem?_eq_getElem hi]
  exact List.getElem_mem _
theorem mem_tk {ts : List Tk} {t : Tk} (h : t ∈ ts) : ∃ i, i < ts.length ∧ tk ts i = t := by
  obtain ⟨i, hi, e⟩ := List.getElem_of_mem h
  exact ⟨i, hi, by rw [tk, List.getD_eq_getElem?_getD, List.getElem?_eq_getElem hi]; exact e⟩
theorem asc_at {ts : List Tk} (h : Asc ts) {i j : Nat} (hij : i < j) (hj : j < ts.length) : (tk ts i).id < (tk ts j).id := by
  have := List.pairwise_iff_getElem.1 h i j (by omega) hj hij
  rw [tk, tk, List.getD_eq_getElem?_getD, List.getD_eq_getElem?_getD, List.getElem?_eq_getElem (show i < ts.length by omega), List.getElem?_eq_getElem hj]
  exact this
theorem validT_iff {ts : List Tk} : validT ts = true ↔ (∀ t ∈ ts, tkOk t = true) ∧ Asc ts ∧ ts.length ≤ 10 := by
  simp only [validT, Bool.and_eq_true, decide_eq_true_eq, okTo_iff]
  constructor
  · rintro ⟨⟨h1, h2⟩, h3⟩
    refine ⟨fun t ht => ?_, asc_of h2, h3⟩
    obtain ⟨i, hi, rfl⟩ := mem_tk ht
    exact h1 i hi
  · rintro ⟨h1, h2, h3⟩
    exact ⟨⟨fun i hi => h1 _ (tk_mem hi), fun i hi => asc_at h2 (by omega) hi⟩, h3⟩

/-- a queue with a task -/
def pushL (id rank : Int) : List Tk → List Tk
  | [] => [⟨id, rank, 0⟩]
  | t :: r => if t.id < id then t :: pushL id rank r else if t.id = id then ⟨id, min t.rank rank, t.age⟩ :: r else ⟨id, rank, 0⟩ :: t :: r
theorem pushL_len (id rank : Int) (ts : List Tk) : ts.length ≤ (pushL id rank ts).length ∧ (pushL id rank ts).length ≤ ts.length + 1 := by
  induction ts with
  | nil => simp [pushL]
  | cons t r ih =>
    unfold pushL
    split
    · simp only [List.length_cons]; omega
    · split <;> simp only [List.length_cons] <;> omega
theorem pushL_mem {id rank : Int} {ts : List Tk} {u : Tk} (h : u ∈ pushL id rank ts) : u ∈ ts ∨ (u.id = id ∧ ((u.rank = rank ∧ u.age = 0) ∨ ∃ t ∈ ts, u.rank = min t.rank rank ∧ u.age = t.age)) := by
  induction ts with
  | nil =>
    simp only [pushL, List.mem_singleton] at h
    subst h
    exact .inr ⟨rfl, .inl ⟨rfl, rfl⟩⟩
  | cons t r ih =>
    unfold pushL at h
    split at h
    · rcases List.mem_cons.1 h with rfl | h
      · exact .inl List.mem_cons_self
      · rcases ih h with h1 | ⟨h1, h2 | ⟨s, h2, h3⟩⟩
        · exact .inl (List.mem_cons_of_mem _ h1)
        · exact .inr ⟨h1, .inl h2⟩
        · exact .inr ⟨h1, .inr ⟨s, List.mem_cons_of_mem _ h2, h3⟩⟩
    · split at h
      · rcases List.mem_cons.1 h with rfl | h
        · exact .inr ⟨rfl, .inr ⟨t, List.mem_cons_self, rfl, rfl⟩⟩
        · exact .inl (List.mem_cons_of_mem _ h)
      · rcases List.mem_cons.1 h with rfl | h
        · exact .inr ⟨rfl, .inl ⟨rfl, rfl⟩⟩
        · exact .inl h
theorem pushL_has {id rank : Int} {ts : List Tk} {u : Tk} (h : u ∈ ts) (hne : u.id ≠ id) : u ∈ pushL id rank ts := by
  induction ts with
  | nil => cases h
  | cons t r ih =>
    unfold pushL
    split
    · rcases List.mem_cons.1 h with rfl | h
      · exact List.mem_cons_self
      · exact List.mem_cons_of_mem _ (ih h)
    · split
      · rcases List.mem_cons.1 h with rfl | h
        · rename_i h2; exact absurd h2 hne
        · exact List.mem_cons_of_mem _ h
      · exact List.mem_cons_of_mem _ h
theorem pushL_asc {id rank : Int} {ts : List Tk} (h : Asc ts) : Asc (pushL id rank ts) := by
  induction ts with
  | nil => simp [pushL, Asc]
  | cons t r ih =>
    obtain ⟨h1, h2⟩ := List.pairwise_cons.1 h
    unfold pushL
    split
    · rename_i hlt
      refine List.pairwise_cons.2 ⟨fun u hu => ?_, ih h2⟩
      rcases pushL_mem hu with h3 | ⟨h3, _⟩
      · exact h1 u h3
      · omega
    · split
      · rename_i he
        exact List.pairwise_cons.2 ⟨fun u hu => by have := h1 u hu; show id < u.id; omega, h2⟩
      · rename_i hn he
        refine List.pairwise_cons.2 ⟨fun u hu => ?_, h⟩
        show id < u.id
        rcases List.mem_cons.1 hu with rfl | hu
        · omega
        · have := h1 u hu; omega
theorem pushL_valid {id rank : Int} {ts : List Tk} (h : validT ts = true) (hi : 0 ≤ id ∧ id ≤ 99) (hr : 0 ≤ rank ∧ rank ≤ 50) : validT (pushL id rank ts) = decide ((pushL id rank ts).length ≤ 10) := by
  rw [validT_iff] at h
  rw [Bool.eq_iff_iff, validT_iff, decide_eq_true_eq]
  constructor
  · exact fun h => h.2.2
  · intro hl
    refine ⟨fun u hu => ?_, pushL_asc h.2.1, hl⟩
    rcases pushL_mem hu with h1 | ⟨h1, ⟨h2, h3⟩ | ⟨t, h2, h3, h4⟩⟩
    · exact h.1 u h1
    · rw [tkOk_iff]; omega
    · have := tkOk_iff.1 (h.1 t h2)
      rw [tkOk_iff]; omega
theorem pushL_twice (id r1 r2 : Int) (ts : List Tk) : pushL id r2 (pushL id r1 ts) = pushL id (min r1 r2) ts := by
  induction ts with
  | nil =>
    simp only [pushL]
    rw [if_neg (by omega), if_pos trivial]
  | cons t r ih =>
    simp only [pushL]
    split
    · rename_i h
      rw [pushL, if_pos h, ih]
    · split
      · rw [pushL, if_neg (by simp), if_pos rfl]
        simp only [Int.min_assoc]
      · rw [pushL, if_neg (by simp), if_pos rfl]
theorem pushL_comm {a b : Int} (hab : a ≠ b) (r s : Int) (ts : List Tk) : pushL a r (pushL b s ts) = pushL b s (pushL a r ts) := by
  induction ts with
  | nil =>
    simp only [pushL]
    by_cases h : a < b
    · rw [if_neg (by omega), if_neg (by omega), if_pos h]
    · rw [if_pos (by omega), if_neg (by omega), if_neg (by omega)]
  | cons t l ih =>
    by_cases h1 : t.id < a <;> by_cases h2 : t.id < b
    · simp only [pushL, h1, h2, if_true, ih]
    · by_cases h3 : t.id = b
      · have h4 : b < a := by omega
        have h5 : ¬ b < b := by omega
        simp only [pushL, h1, h2, h3, h4, h5, if_true, if_false]
      · have h4 : b < a := by omega
        simp only [pushL, h1, h2, h3, h4, if_true, if_false]
    · by_cases h3 : t.id = a
      · have h4 : a < b := by omega
        have h5 : ¬ a < a := by omega
        simp only [pushL, h1, h2, h3, h4, h5, if_true, if_false]
      · have h4 : a < b := by omega
        simp only [pushL, h1, h2, h3, h4, if_true, if_false]
    · by_cases h3 : t.id = a
      · have h4 : ¬ t.id = b := by omega
        have h5 : b < a := by omega
        have h6 : ¬ a < b := by omega
        have h7 : ¬ a = b := by omega
        have h8 : ¬ a < a := by omega
        simp only [pushL, h1, h2, h3, h4, h5, h6, h7, h8, if_true, if_false]
      · by_cases h4 : t.id = b
        · have h5 : a < b := by omega
          have h6 : ¬ b < a := by omega
          have h7 : ¬ b = a := by omega
          have h8 : ¬ b < b := by omega
          simp only [pushL, h1, h2, h3, h4, h5, h6, h7, h8, if_true, if_false]
        · by_cases h5 : a < b
          · have h6 : ¬ b < a := by omega
            have h7 : ¬ b = a := by omega
            simp only [pushL, h1, h2, h3, h4, h5, h6, h7, if_true, if_false]
          · have h6 : b < a := by omega
            have h7 : ¬ a = b := by omega
            simp only [pushL, h1, h2, h3, h4, h5, h6, h7, if_true, if_false]
/-- out of a place behind all lesser tasks -/
theorem pushL_at {id rank : Int} {ts : List Tk} {k : Nat} (hk : k ≤ ts.length) (hlo : ∀ i, i < k → (tk ts i).id < id) (hhi : k < ts.length → id ≤ (tk ts k).id) :
    pushL id rank ts = if k < ts.length ∧ (tk ts k).id = id then ts.take k ++ ⟨id, min (tk ts k).rank rank, (tk ts k).age⟩ :: ts.drop (k + 1) else ts.take k ++ ⟨id, rank, 0⟩ :: ts.drop k := by
  induction ts generalizing k with
  | nil =>
    obtain rfl : k = 0 := by simpa using hk
    simp [pushL]
  | cons t r ih =>
    cases k with
    | zero =>
      have h1 := hhi (by simp)
      rw [tk_zero] at h1
      rw [pushL, if_neg (by omega)]
      by_cases he : t.id = id
      · rw [if_pos he, if_pos ⟨by simp, he⟩]
        rfl
      · rw [if_neg he, if_neg (fun h => he h.2)]
        rfl
    | succ k =>
      have h1 : t.id < id := hlo 0 (by omega)
      rw [pushL, if_pos h1, ih (k := k) (by simpa using hk) (fun i hi => hlo (i + 1) (by omega)) (fun hl => hhi (by simpa using hl))]
      rw [tk_succ]
      by_cases he : k < r.length ∧ (tk r k).id = id
      · rw [if_pos he, if_pos ⟨by simpa using he.1, he.2⟩]
        rfl
      · rw [if_neg he, if_neg (fun h => he ⟨by simpa using h.1, h.2⟩)]
        rfl
/-- how the reference builds it: the lesser ones, the new one, the greater ones -/
def lowT (id : Int) (ts : List Tk) : List Tk := ts.filter fun t => decide (t.id < id)
def highT (id : Int) (ts : List Tk) : List Tk := ts.filter fun t => decide (id < t.id)
def nextT (id rank : Int) (ts : List Tk) : Nat → Tk
  | 0 => ⟨id, rank, 0⟩
  | k + 1 => if (tk ts k).id = id then ⟨id, min rank (tk ts k).rank, (tk ts k).age⟩ else nextT id rank ts k
theorem lowT_take_succ {id : Int} {ts : List Tk} {k : Nat} (hk : k < ts.length) : lowT id (ts.take (k + 1)) = lowT id (ts.take k) ++ (if (tk ts k).id < id then [tk ts k] else []) := by
  rw [take_succ_tk hk, lowT, lowT, List.filter_append]
  congr 1
  by_cases h : (tk ts k).id < id <;> simp [List.filter_cons, h]
theorem highT_take_succ {id : Int} {ts : List Tk} {k : Nat} (hk : k < ts.length) : highT id (ts.take (k + 1)) = highT id (ts.take k) ++ (if id < (tk ts k).id then [tk ts k] else []) := by
  rw [take_succ_tk hk, highT, highT, List.filter_append]
  congr 1
  by_cases h : id < (tk ts k).id <;> simp [List.filter_cons, h]
theorem nextT_none {id rank : Int} {ts : List Tk} {n : Nat} (h : ∀ i, i < n → (tk ts i).id ≠ id) : nextT id rank ts n = ⟨id, rank, 0⟩ := by
  induction n with
  | zero => rfl
  | succ n ih => rw [nextT, if_neg (h n (by omega)), ih fun i hi => h i (by omega)]
theorem nextT_cons {id rank : Int} {t : Tk} {ts : List Tk} (ht : t.id ≠ id) (n : Nat) : nextT id rank (t :: ts) (n + 1) = nextT id rank ts n := by
  induction n with
  | zero =>
    simp only [nextT, tk_zero]
    exact if_neg ht
  | succ n ih =>
    rw [nextT, tk_succ, ih]
    rfl
theorem nextT_head {id rank : Int} {t : Tk} {ts : List Tk} (ht : t.id = id) (h : ∀ i, i < ts.length → (tk ts i).id ≠ id) {n : Nat} (hn : n ≤ ts.length) : nextT id rank (t :: ts) (n + 1) = ⟨id, min rank t.rank, t.age⟩ := by
  induction n with
  | zero => rw [nextT, tk_zero, if_pos ht]
  | succ n ih => rw [nextT, tk_succ, if_neg (h n (by omega)), ih (by omega)]
theorem pushL_split {id rank : Int} {ts : List Tk} (h : Asc ts) : pushL id rank ts = lowT id ts ++ nextT id rank ts ts.length :: highT id ts := by
  induction ts with
  | nil => rfl
  | cons t r ih =>
    obtain ⟨h1, h2⟩ := List.pairwise_cons.1 h
    rw [pushL, List.length_cons]
    by_cases hlt : t.id < id
    · rw [if_pos hlt, ih h2, nextT_cons (by omega)]
      simp only [lowT, highT, List.filter_cons, hlt, show ¬ id < t.id by omega, decide_true, decide_false, if_true, Bool.false_eq_true, if_false, List.cons_append]
    · rw [if_neg hlt]
      have hr : ∀ u ∈ r, id ≤ t.id ∧ t.id < u.id := fun u hu => ⟨by omega, h1 u hu⟩
      have e1 : lowT id r = [] := List.filter_eq_nil_iff.2 fun u hu => by have := hr u hu; simp; omega
      have e2 : highT id r = r := List.filter_eq_self.2 fun u hu => by have := hr u hu; simp; omega
      have e3 : ∀ i, i < r.length → (tk r i).id ≠ id := fun i hi => by have := hr _ (tk_mem hi); omega
      by_cases he : t.id = id
      · rw [if_pos he, nextT_head he e3 (Nat.le_refl _)]
        simp only [lowT, highT, List.filter_cons, hlt, show ¬ id < t.id by omega, decide_false, Bool.false_eq_true, if_false]
        rw [show List.filter (fun t => decide (t.id < id)) r = [] from e1, show List.filter (fun t => decide (id < t.id)) r = r from e2, Int.min_comm]
        rfl
      · rw [if_neg he, nextT_cons he, nextT_none e3]
        simp only [lowT, highT, List.filter_cons, hlt, show id < t.id by omega, decide_true, decide_false, Bool.false_eq_true, if_true, if_false]
        rw [show List.filter (fun t => decide (t.id < id)) r = [] from e1, show List.filter (fun t => decide (id < t.id)) r = r from e2]
        rfl
/-- the answer of PushTask -/
def pushOk (ts : List Tk) (id rank : Int) : Bool := validT ts && (inR id 0 99 && (inR rank 0 50 && decide ((pushL id rank ts).length ≤ 10)))
def pushS (ts : List Tk) (id rank : Int) : List Tk := if pushOk ts id rank = true then pushL id rank ts else []
theorem pushOk_iff {ts : List Tk} {id rank : Int} : pushOk ts id rank = true ↔ validT ts = true ∧ (0 ≤ id ∧ id ≤ 99) ∧ (0 ≤ rank ∧ rank ≤ 50) ∧ (pushL id rank ts).length ≤ 10 := by
  simp only [pushOk, Bool.and_eq_true, inR_iff, decide_eq_true_eq]
theorem pushS_valid {ts : List Tk} {id rank : Int} (h : pushOk ts id rank = true) : validT (pushS ts id rank) = true := by
  obtain ⟨h1, h2, h3, h4⟩ := pushOk_iff.1 h
  rw [pushS, if_pos h, pushL_valid h1 h2 h3, decide_eq_true_eq]
  exact h4
theorem pushS_len {ts : List Tk} {id rank : Int} : (pushS ts id rank).length ≤ 10 := by
  unfold pushS
  split
  · rename_i h; exact (pushOk_iff.1 h).2.2.2
  · simp
end Go.Proofs.Ytjmkpegomdgcoaa
