/- Layout: plain laws of the rectangles of the boxes. Conditions: none. -/
import Derived.Test.YthgliihdaockoaaLayF
namespace Go.Proofs.Ythgliihdaockoaa
set_option linter.unusedVariables false
structure RectI where
  x : Int
  y : Int
  w : Int
  h : Int
theorem RectI.ext' {a b : RectI} (h1 : a.x = b.x) (h2 : a.y = b.y) (h3 : a.w = b.w) (h4 : a.h = b.h) : a = b := by
  cases a; cases b; simp at h1 h2 h3 h4; simp [h1, h2, h3, h4]
def insetR (r : RectI) (pad : Int) : RectI := ⟨r.x + min pad (r.w / 2), r.y + min pad (r.h / 2), max (r.w - 2 * pad) 0, max (r.h - 2 * pad) 0⟩
/-- the t-th of the boxes in box p -/
def kidN (xs : List Int) (n p t : Nat) : Nat := ((kidsL xs n p).getD t 0).toNat
def bsW (xs : List Int) (n p : Nat) (t : Nat) : Int := (nat xs n (kidN xs n p t)).1
def bsH (xs : List Int) (n p : Nat) (t : Nat) : Int := (nat xs n (kidN xs n p t)).2
def grK (xs : List Int) (n p : Nat) (t : Nat) : Int := fld xs (kidN xs n p t) 6
def srK (xs : List Int) (n p : Nat) (t : Nat) : Int := fld xs (kidN xs n p t) 7
/-- the sizes of the boxes in a row or a column -/
def szW (xs : List Int) (n p : Nat) (space : Int) : Nat → Int := flexS (bsW xs n p) (grK xs n p) (srK xs n p) (kidsL xs n p).length (max (space - fld xs p 5 * (((kidsL xs n p).length : Int) - 1)) 0)
def szH (xs : List Int) (n p : Nat) (space : Int) : Nat → Int := flexS (bsH xs n p) (grK xs n p) (srK xs n p) (kidsL xs n p).length (max (space - fld xs p 5 * (((kidsL xs n p).length : Int) - 1)) 0)
def blkY (xs : List Int) (n p : Nat) (t : Nat) : Int := sumF (fun j => bsH xs n p j + fld xs p 5) (List.range t)
def rowR (xs : List Int) (n p : Nat) (I : RectI) (t : Nat) : RectI := ⟨I.x + offS (szW xs n p I.w) (kidsL xs n p).length I.w (fld xs p 5) (fld xs p 8) t, I.y, szW xs n p I.w t, I.h⟩
def colR (xs : List Int) (n p : Nat) (I : RectI) (t : Nat) : RectI := ⟨I.x, I.y + offS (szH xs n p I.h) (kidsL xs n p).length I.h (fld xs p 5) (fld xs p 8) t, I.w, szH xs n p I.h t⟩
def blkR (xs : List Int) (n p : Nat) (I : RectI) (t : Nat) : RectI := ⟨I.x, I.y + blkY xs n p t, I.w, bsH xs n p t⟩
def childR (xs : List Int) (n p : Nat) (R : RectI) (t : Nat) : RectI :=
  if fld xs p 1 = 2 then rowR xs n p (insetR R (fld xs p 4)) t else if fld xs p 1 = 3 then colR xs n p (insetR R (fld xs p 4)) t else blkR xs n p (insetR R (fld xs p 4)) t
/-- the place of a box among those in the same box -/
def idxK (xs : List Int) (i : Nat) : Nat := (pickN (fun j => decide (par xs j = par xs i)) i).length
def rcF (xs : List Int) (n : Nat) (root : RectI) : Nat → Nat → RectI
  | 0, _ => root
  | f + 1, i => if i = 0 then root else childR xs n (par xs i).toNat (rcF xs n root f (par xs i).toNat) (idxK xs i)
/-- the rectangle of a box -/
def rc (xs : List Int) (n : Nat) (root : RectI) (i : Nat) : RectI := rcF xs n root (i + 1) i
theorem rc_zero (xs : List Int) (n : Nat) (root : RectI) : rc xs n root 0 = root := by rw [rc, rcF, if_pos rfl]
theorem rcF_fuel {xs : List Int} {n : Nat} {root : RectI} (hp : Pre xs n) : ∀ (i f : Nat), i < n → i < f → rcF xs n root f i = rcF xs n root (i + 1) i := by
  intro i
  induction i using Nat.strongRecOn with
  | _ i ih =>
    intro f hi hf
    obtain ⟨g, rfl⟩ : ∃ g, f = g + 1 := ⟨f - 1, by omega⟩
    rw [rcF, rcF]
    by_cases h0 : i = 0
    · rw [if_pos h0, if_pos h0]
    · rw [if_neg h0, if_neg h0]
      have h1 := hp i hi
      rw [ih (par xs i).toNat (by omega) g (by omega) (by omega), ih (par xs i).toNat (by omega) i (by omega) (by omega)]
theorem pickN_idx {p : Nat → Bool} {n t q : Nat} (ht : t < (pickN p n).length) (h : (pickN p n).getD t 0 = (q : Int)) : (pickN p q).length = t := by
  induction n with
  | zero => simp [pickN] at ht
  | succ n ih =>
    rw [pickN] at ht h
    by_cases hl : t < (pickN p n).length
    · refine ih hl ?_
      rw [List.getD_eq_getElem?_getD, List.getElem?_append_left hl] at h
      rw [List.getD_eq_getElem?_getD]
      exact h
    · split at ht
      · rename_i hp
        rw [if_pos hp] at h
        simp at ht
        obtain rfl : t = (pickN p n).length := by omega
        rw [List.getD_eq_getElem?_getD, List.getElem?_append_right (Nat.le_refl _)] at h
        simp at h
        have : n = q := by omega
        subst this; rfl
      · simp at ht; omega
theorem kidN_is {xs : List Int} {n p t : Nat} (hp : Pre xs n) (ht : t < (kidsL xs n p).length) : p < kidN xs n p t ∧ kidN xs n p t < n ∧ ((kidN xs n p t : Nat) : Int) = (kidsL xs n p).getD t 0 ∧ par xs (kidN xs n p t) = p :=
  kid_gt hp (getD_mem ht)
theorem idxK_is {xs : List Int} {n p t : Nat} (hp : Pre xs n) (ht : t < (kidsL xs n p).length) : idxK xs (kidN xs n p t) = t := by
  obtain ⟨h1, h2, h3, h4⟩ := kidN_is hp ht
  rw [idxK, h4]
  exact pickN_idx (n := n) ht h3.symm
theorem rc_kid {xs : List Int} {n p t : Nat} {root : RectI} (hp : Pre xs n) (ht : t < (kidsL xs n p).length) : rc xs n root (kidN xs n p t) = childR xs n p (rc xs n root p) t := by
  obtain ⟨h1, h2, h3, h4⟩ := kidN_is hp ht
  rw [rc, rcF, if_neg (by omega), idxK_is hp ht, h4, Int.toNat_natCast, rcF_fuel hp p _ (by omega) (by omega)]
  rfl
theorem kidN_of {xs : List Int} {n p i : Nat} (hi : i < n) (h : par xs i = p) : ∃ t, t < (kidsL xs n p).length ∧ kidN xs n p t = i := by
  have hm : (i : Int) ∈ kidsL xs n p := kidsL_mem.2 ⟨i, rfl, hi, h⟩
  obtain ⟨t, ht, e⟩ := List.getElem_of_mem hm
  refine ⟨t, ht, ?_⟩
  rw [kidN, List.getD_eq_getElem?_getD, List.getElem?_eq_getElem ht, e]; simp
/-- a box lies in another one, or is it -/
def DescF (xs : List Int) (n : Nat) : Nat → Nat → Nat → Prop
  | 0, p, j => p = j
  | f + 1, p, j => p = j ∨ ∃ t, t < (kidsL xs n p).length ∧ DescF xs n f (kidN xs n p t) j
def Desc (xs : List Int) (n p j : Nat) : Prop := ∃ f, DescF xs n f p j
theorem Desc.self {xs : List Int} {n : Nat} (p : Nat) : Desc xs n p p := ⟨0, rfl⟩
theorem Desc.step {xs : List Int} {n p t j : Nat} (ht : t < (kidsL xs n p).length) (h : Desc xs n (kidN xs n p t) j) : Desc xs n p j := by
  obtain ⟨f, hf⟩ := h
  exact ⟨f + 1, .inr ⟨t, ht, hf⟩⟩
theorem Desc.parts {xs : List Int} {n p j : Nat} (h : Desc xs n p j) : p = j ∨ ∃ t, t < (kidsL xs n p).length ∧ Desc xs n (kidN xs n p t) j := by
  obtain ⟨f, hf⟩ := h
  cases f with
  | zero => exact .inl hf
  | succ f =>
    rcases hf with e | ⟨t, ht, h⟩
    · exact .inl e
    · exact .inr ⟨t, ht, f, h⟩
theorem Desc.snoc {xs : List Int} {n p q t : Nat} (h : Desc xs n p q) (ht : t < (kidsL xs n q).length) : Desc xs n p (kidN xs n q t) := by
  obtain ⟨f, hf⟩ := h
  induction f generalizing p with
  | zero =>
    obtain rfl : p = q := hf
    exact .step ht (.self _)
  | succ f ih =>
    rcases hf with e | ⟨s, hs, h⟩
    · subst e
      exact .step ht (.self _)
    · exact .step hs (ih h)
theorem Desc.all {xs : List Int} {n : Nat} (hp : Pre xs n) : ∀ i, i < n → Desc xs n 0 i := by
  intro i
  induction i using Nat.strongRecOn with
  | _ i ih =>
    intro hi
    by_cases h0 : i = 0
    · subst h0; exact .self 0
    · have h1 := hp i hi
      have h9 := h1.2.2 (by omega)
      obtain ⟨t, ht, e⟩ := kidN_of (xs := xs) (n := n) (p := (par xs i).toNat) hi (by omega)
      rw [← e]
      exact (ih (par xs i).toNat (by omega) (by omega)).snoc ht
/-- what a box's placing does to the rectangles -/
structure Put (xs : List Int) (n : Nat) (root : RectI) (i : Nat) (f f' : Nat → RectI) : Prop where
  any : ∀ j, f' j = f j ∨ f' j = rc xs n root j
  desc : ∀ j, Desc xs n i j → f' j = rc xs n root j
/-- the same, when the box and t of those in it are placed -/
structure PutK (xs : List Int) (n : Nat) (root : RectI) (i t : Nat) (f f' : Nat → RectI) : Prop where
  any : ∀ j, f' j = f j ∨ f' j = rc xs n root j
  self : f' i = rc xs n root i
  kids : ∀ s, s < t → ∀ j, Desc xs n (kidN xs n i s) j → f' j = rc xs n root j
theorem PutK.start {xs : List Int} {n : Nat} {root : RectI} {i : Nat} {f f' : Nat → RectI} (h : ∀ j, f' j = if j = i then rc xs n root i else f j) : PutK xs n root i 0 f f' :=
  ⟨fun j => by rw [h]; split
               · rename_i e; subst e; exact .inr rfl
               · exact .inl rfl, by rw [h, if_pos rfl], fun s hs => by omega⟩
theorem PutK.next {xs : List Int} {n : Nat} {root : RectI} {i t : Nat} {f f1 f2 : Nat → RectI} (h : PutK xs n root i t f f1) (h2 : Put xs n root (kidN xs n i t) f1 f2) : PutK xs n root i (t + 1) f f2 where
  any j := by
    rcases h2.any j with e | e
    · rw [e]; exact h.any j
    · exact .inr e
  self := by
    rcases h2.any i with e | e
    · rw [e]; exact h.self
    · exact e
  kids s hs j hj := by
    by_cases e : s = t
    · subst e; exact h2.desc j hj
    · rcases h2.any j with e2 | e2
      · rw [e2]; exact h.kids s (by omega) j hj
      · exact e2
theorem PutK.done {xs : List Int} {n : Nat} {root : RectI} {i : Nat} {f f1 : Nat → RectI} (h : PutK xs n root i (kidsL xs n i).length f f1) : Put xs n root i f f1 :=
  ⟨h.any, fun j hj => by
    rcases hj.parts with e | ⟨t, ht, hd⟩
    · subst e; exact h.self
    · exact h.kids _ ht j hd⟩
/-- the program's way: the boxes in those ahead of k are placed, and so is the first -/
def Laid (xs : List Int) (n : Nat) (root : RectI) (k : Nat) (f : Nat → RectI) : Prop := f 0 = rc xs n root 0 ∧ ∀ j, 0 < j → j < n → (par xs j).toNat < k → f j = rc xs n root j
theorem Laid.at {xs : List Int} {n k : Nat} {root : RectI} {f : Nat → RectI} (hp : Pre xs n) (h : Laid xs n root k f) (hk : k < n) : f k = rc xs n root k := by
  rcases Nat.eq_zero_or_pos k with e | e
  · subst e; exact h.1
  · have := hp k hk
    exact h.2 k e hk (by omega)
/-- while the boxes in k are placed: t of them are -/
def LaidK (xs : List Int) (n : Nat) (root : RectI) (k t : Nat) (f : Nat → RectI) : Prop := Laid xs n root k f ∧ ∀ s, s < t → f (kidN xs n k s) = rc xs n root (kidN xs n k s)
theorem LaidK.next {xs : List Int} {n k t : Nat} {root : RectI} {f f' : Nat → RectI} (hp : Pre xs n) (h : LaidK xs n root k t f) (ht : t < (kidsL xs n k).length) (hf : ∀ j, f' j = if j = kidN xs n k t then rc xs n root (kidN xs n k t) else f j) : LaidK xs n root k (t + 1) f' := by
  obtain ⟨h1, h2, h3, h4⟩ := kidN_is hp ht
  refine ⟨⟨by rw [hf, if_neg (by omega)]; exact h.1.1, fun j h5 h6 h7 => ?_⟩, fun s hs => ?_⟩
  · rw [hf]
    split
    · rename_i e; rw [e]
    · exact h.1.2 j h5 h6 h7
  · rw [hf]
    split
    · rename_i e; rw [e]
    · rename_i e
      refine h.2 s ?_
      by_cases e2 : s = t
      · subst e2; exact absurd rfl e
      · omega
theorem LaidK.done {xs : List Int} {n k : Nat} {root : RectI} {f : Nat → RectI} (hp : Pre xs n) (h : LaidK xs n root k (kidsL xs n k).length f) : Laid xs n root (k + 1) f := by
  refine ⟨h.1.1, fun j h0 hj hk => ?_⟩
  by_cases e : (par xs j).toNat < k
  · exact h.1.2 j h0 hj e
  · have h1 := hp j hj
    have h9 := h1.2.2 h0
    obtain ⟨t, ht, e2⟩ := kidN_of (xs := xs) (n := n) (p := k) hj (by omega)
    rw [← e2]
    exact h.2 t ht
theorem Laid.all {xs : List Int} {n : Nat} {root : RectI} {f : Nat → RectI} (hp : Pre xs n) (h : Laid xs n root n f) : ∀ j, j < n → f j = rc xs n root j := fun j hj => by
  rcases Nat.eq_zero_or_pos j with e | e
  · subst e; exact h.1
  · have := hp j hj
    exact h.2 j e hj (by omega)
/-- the bounds of a rectangle in d boxes -/
structure RcB (d : Nat) (r : RectI) : Prop where
  x0 : 0 ≤ r.x
  x1 : r.x ≤ 10050 * (d : Int)
  y0 : 0 ≤ r.y
  y1 : r.y ≤ 10050 * (d : Int)
  w0 : 0 ≤ r.w
  w1 : r.w ≤ 10000
  h0 : 0 ≤ r.h
  h1 : r.h ≤ 10000
structure InB (d : Nat) (r : RectI) : Prop where
  x0 : 0 ≤ r.x
  x1 : r.x ≤ 10050 * (d : Int) + 50
  y0 : 0 ≤ r.y
  y1 : r.y ≤ 10050 * (d : Int) + 50
  w0 : 0 ≤ r.w
  w1 : r.w ≤ 10000
  h0 : 0 ≤ r.h
  h1 : r.h ≤ 10000
theorem insetR_bd {d : Nat} {r : RectI} {pad : Int} (h : RcB d r) (hp : 0 ≤ pad ∧ pad ≤ 50) : InB d (insetR r pad) := by
  obtain ⟨h1, h2, h3, h4, h5, h6, h7, h8⟩ := h
  unfold insetR
  exact ⟨by show 0 ≤ _ + _; omega, by show _ + _ ≤ _; omega, by show 0 ≤ _ + _; omega, by show _ + _ ≤ _; omega, by show 0 ≤ max _ _; omega, by show max _ _ ≤ _; omega, by show 0 ≤ max _ _; omega, by show max _ _ ≤ _; omega⟩
theorem bsW_ok {xs : List Int} {n p : Nat} (hT : TreeP xs n) : OutOk (bsW xs n p) (kidsL xs n p).length := fun t ht => by
  obtain ⟨h1, h2, -⟩ := kidN_is hT.pre ht
  have := nat_bd hT h2
  unfold bsW; omega
theorem bsH_ok {xs : List Int} {n p : Nat} (hT : TreeP xs n) : OutOk (bsH xs n p) (kidsL xs n p).length := fun t ht => by
  obtain ⟨h1, h2, -⟩ := kidN_is hT.pre ht
  have := nat_bd hT h2
  unfold bsH; omega
theorem grK_ok {xs : List Int} {n p : Nat} (hT : TreeP xs n) : WtOk (grK xs n p) (kidsL xs n p).length := fun t ht => by
  obtain ⟨h1, h2, -⟩ := kidN_is hT.pre ht
  have := hT.nums h2
  unfold grK; omega
theorem srK_ok {xs : List Int} {n p : Nat} (hT : TreeP xs n) : WtOk (srK xs n p) (kidsL xs n p).length := fun t ht => by
  obtain ⟨h1, h2, -⟩ := kidN_is hT.pre ht
  have := hT.nums h2
  unfold srK; omega
theorem kids_sums {xs : List Int} {n p : Nat} (hT : TreeP xs n) (hp : p < n) : sumF (bsW xs n p) (List.range (kidsL xs n p).length) ≤ 7200 ∧ sumF (bsH xs n p) (List.range (kidsL xs n p).length) ≤ 7200 := by
  have h := kids_bd hT hp
  have e : ∀ (c : Int → Int) (d : Nat → Int), (∀ t, t < (kidsL xs n p).length → d t = c ((kidsL xs n p).getD t 0)) → sumF d (List.range (kidsL xs n p).length) = sumI ((kidsL xs n p).map c) := fun c d hd => by
    rw [sumI_range, List.length_map]
    refine sumF_congr fun t ht => ?_
    have ht' := List.mem_range.1 ht
    rw [hd t ht', List.getD_eq_getElem?_getD, List.getD_eq_getElem?_getD, List.getElem?_map, List.getElem?_eq_getElem ht']
    rfl
  rw [e (natW xs n) (bsW xs n p) (fun t ht => rfl), e (natH xs n) (bsH xs n p) (fun t ht => rfl)]
  exact h
theorem gapK {xs : List Int} {n p : Nat} (hT : TreeP xs n) (hp : p < n) : 0 ≤ fld xs p 5 * (((kidsL xs n p).length : Int) - 1) ∧ fld xs p 5 * (((kidsL xs n p).length : Int) - 1) ≤ 350 ∨ (kidsL xs n p).length = 0 := by
  by_cases h0 : (kidsL xs n p).length = 0
  · exact .inr h0
  · left
    have h := gap_bd (hT.nums hp).2.2.2.2.1 (show (kidsL xs n p).length - 1 ≤ 7 by have := hT.kidsLen hp; omega)
    rw [show (((kidsL xs n p).length - 1 : Nat) : Int) = ((kidsL xs n p).length : Int) - 1 by omega] at h
    exact h
theorem szW_ok {xs : List Int} {n p : Nat} (hT : TreeP xs n) (space : Int) : OutOk (szW xs n p space) (kidsL xs n p).length := flexS_ok (bsW_ok (p := p) hT) (grK_ok hT) (srK_ok hT)
theorem szH_ok {xs : List Int} {n p : Nat} (hT : TreeP xs n) (space : Int) : OutOk (szH xs n p space) (kidsL xs n p).length := flexS_ok (bsH_ok (p := p) hT) (grK_ok hT) (srK_ok hT)
theorem offW_bd {xs : List Int} {n p : Nat} (hT : TreeP xs n) (hp : p < n) {space just : Int} {t : Nat} (hs : 0 ≤ space ∧ space ≤ 10000) (ht : t < (kidsL xs n p).length) : 0 ≤ offS (szW xs n p space) (kidsL xs n p).length space (fld xs p 5) just t ∧ offS (szW xs n p space) (kidsL xs n p).length space (fld xs p 5) just t ≤ 10000 := by
  have h1 := offS_bd (sz := szW xs n p space) (m := (kidsL xs n p).length) (space := space) (gap := fld xs p 5) (just := just) (fun t ht => (szW_ok hT space t ht).1) (hT.nums hp).2.2.2.2.1.1 ht
  have h2 := flexS_sum (space := max (space - fld xs p 5 * (((kidsL xs n p).length : Int) - 1)) 0) (bsW_ok (p := p) hT) (grK_ok hT) (srK_ok hT)
  have h3 := (kids_sums hT hp).1
  have h4 := gapK hT hp
  have h5 : sumF (szW xs n p space) (List.range (kidsL xs n p).length) ≤ max (max (space - fld xs p 5 * (((kidsL xs n p).length : Int) - 1)) 0) (sumF (bsW xs n p) (List.range (kidsL xs n p).length)) := h2
  omega
theorem offH_bd {xs : List Int} {n p : Nat} (hT : TreeP xs n) (hp : p < n) {space just : Int} {t : Nat} (hs : 0 ≤ space ∧ space ≤ 10000) (ht : t < (kidsL xs n p).length) : 0 ≤ offS (szH xs n p space) (kidsL xs n p).length space (fld xs p 5) just t ∧ offS (szH xs n p space) (kidsL xs n p).length space (fld xs p 5) just t ≤ 10000 := by
  have h1 := offS_bd (sz := szH xs n p space) (m := (kidsL xs n p).length) (space := space) (gap := fld xs p 5) (just := just) (fun t ht => (szH_ok hT space t ht).1) (hT.nums hp).2.2.2.2.1.1 ht
  have h2 := flexS_sum (space := max (space - fld xs p 5 * (((kidsL xs n p).length : Int) - 1)) 0) (bsH_ok (p := p) hT) (grK_ok hT) (srK_ok hT)
  have h3 := (kids_sums hT hp).2
  have h4 := gapK hT hp
  have h5 : sumF (szH xs n p space) (List.range (kidsL xs n p).length) ≤ max (max (space - fld xs p 5 * (((kidsL xs n p).length : Int) - 1)) 0) (sumF (bsH xs n p) (List.range (kidsL xs n p).length)) := h2
  omega
theorem blkY_bd {xs : List Int} {n p : Nat} (hT : TreeP xs n) (hp : p < n) {t : Nat} (ht : t ≤ (kidsL xs n p).length) : 0 ≤ blkY xs n p t ∧ blkY xs n p t ≤ 8000 := by
  have hg := (hT.nums hp).2.2.2.2.1
  have e : blkY xs n p t = sumF (bsH xs n p) (List.range t) + fld xs p 5 * t := by rw [blkY, sumF_add, sumF_const]
  have h1 := sumF_take_le (f := bsH xs n p) (n := (kidsL xs n p).length) (fun i hi => (bsH_ok hT i hi).1) ht
  have h2 := sumF_nonneg (f := bsH xs n p) (l := List.range t) fun i hi => (bsH_ok hT i (by have := List.mem_range.1 hi; omega)).1
  have h3 := (kids_sums hT hp).2
  have h4 : 0 ≤ fld xs p 5 * (t : Int) := Int.mul_nonneg hg.1 (by omega)
  have h5 : fld xs p 5 * (t : Int) ≤ 50 * 8 := Int.mul_le_mul hg.2 (by have := hT.kidsLen hp; omega) (by omega) (by omega)
  omega
theorem childR_bd {xs : List Int} {n p : Nat} (hT : TreeP xs n) (hp : p < n) {d : Nat} {R : RectI} {t : Nat} (h : RcB d R) (ht : t < (kidsL xs n p).length) : RcB (d + 1) (childR xs n p R t) := by
  obtain ⟨i1, i2, i3, i4, i5, i6, i7, i8⟩ := insetR_bd h (hT.nums hp).2.2.2.1
  have e : ((d + 1 : Nat) : Int) = (d : Int) + 1 := by omega
  unfold childR
  split
  · have h1 := offW_bd (just := fld xs p 8) hT hp ⟨i5, i6⟩ ht
    have h2 := szW_ok hT (insetR R (fld xs p 4)).w t ht
    unfold rowR
    constructor <;> (try rw [e]) <;> show _ ≤ _ <;> simp only <;> omega
  · split
    · have h1 := offH_bd (just := fld xs p 8) hT hp ⟨i7, i8⟩ ht
      have h2 := szH_ok hT (insetR R (fld xs p 4)).h t ht
      unfold colR
      constructor <;> (try rw [e]) <;> show _ ≤ _ <;> simp only <;> omega
    · have h1 := blkY_bd hT hp (Nat.le_of_lt ht)
      have h2 := bsH_ok hT t ht
      unfold blkR
      constructor <;> (try rw [e]) <;> show _ ≤ _ <;> simp only <;> omega
/-- the rectangle of a box is bounded by how deep it lies -/
theorem rc_bd {xs : List Int} {n : Nat} {root : RectI} (hT : TreeP xs n) (hr : RcB 0 root) : ∀ i, i < n → RcB ((upN xs i).length - 1) (rc xs n root i) := by
  intro i
  induction i using Nat.strongRecOn with
  | _ i ih =>
    intro hi
    have hp := hT.pre i hi
    have hp9 := hp.2.2
    rcases Nat.eq_zero_or_pos i with e | e
    · subst e
      rw [rc_zero, upN_zero hT.pre hi]
      exact hr
    · have hp8 := hp9 e
      obtain ⟨t, ht, e2⟩ := kidN_of (xs := xs) (n := n) (p := (par xs i).toNat) hi (by omega)
      have h1 := ih (par xs i).toNat (by omega) (by omega)
      have h2 := childR_bd hT (by omega) h1 ht
      rw [← rc_kid hT.pre ht, e2] at h2
      have h3 := upN_step (p := (par xs i).toNat) hT.pre hi (by omega)
      have h4 := (upN_len hT.pre (show (par xs i).toNat < n by omega)).1
      rw [h3, List.length_cons]
      rw [show (upN xs (par xs i).toNat).length + 1 - 1 = (upN xs (par xs i).toNat).length - 1 + 1 by omega]
      exact h2
theorem rc_ok {xs : List Int} {n : Nat} {root : RectI} (hT : TreeP xs n) (hr : RcB 0 root) {i : Nat} (hi : i < n) : RcB 5 (rc xs n root i) := by
  obtain ⟨h1, h2, h3, h4, h5, h6, h7, h8⟩ := rc_bd hT hr i hi
  have := hT.deep i hi
  exact ⟨h1, by omega, h3, by omega, h5, h6, h7, h8⟩
end Go.Proofs.Ythgliihdaockoaa
