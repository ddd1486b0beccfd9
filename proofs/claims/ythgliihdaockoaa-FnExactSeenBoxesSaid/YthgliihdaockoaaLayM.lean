/- Layout: plain laws of natural sizes, flexible sizes and offsets. Conditions: none. -/
import Derived.Test.YthgliihdaockoaaTreeH
import Derived.Test.YthgliihdaockoaaShareS
namespace Go.Proofs.Ythgliihdaockoaa
set_option linter.unusedVariables false
/-- the boxes directly in box p -/
def kidsL (xs : List Int) (n p : Nat) : List Int := pickN (fun j => decide (par xs j = (p : Int))) n
theorem pickN_iff {p : Nat → Bool} {k : Nat} {x : Int} : x ∈ pickN p k ↔ ∃ j : Nat, x = j ∧ j < k ∧ p j = true := by
  induction k with
  | zero => simp [pickN]
  | succ k ih =>
    rw [pickN, List.mem_append, ih]
    constructor
    · rintro (⟨j, e, hj, hp⟩ | h)
      · exact ⟨j, e, by omega, hp⟩
      · split at h
        · rename_i hp
          simp at h
          exact ⟨k, h, by omega, hp⟩
        · simp at h
    · rintro ⟨j, e, hj, hp⟩
      by_cases hk : j = k
      · subst hk; exact .inr (by rw [if_pos hp, e]; simp)
      · exact .inl ⟨j, e, by omega, hp⟩
theorem kidsL_mem {xs : List Int} {n p : Nat} {x : Int} : x ∈ kidsL xs n p ↔ ∃ j : Nat, x = j ∧ j < n ∧ par xs j = p := by
  rw [kidsL, pickN_iff]; simp
theorem kidsL_cnt (xs : List Int) (n p : Nat) : (kidsL xs n p).length = kcnt xs p 0 n := by
  unfold kidsL
  induction n with
  | zero => rfl
  | succ n ih =>
    rw [pickN, kcnt, List.length_append, ih]
    by_cases h : par xs n = (p : Int)
    · rw [if_pos (by simpa using h), if_pos ⟨Nat.zero_le _, h⟩]; rfl
    · rw [if_neg (by simpa using h), if_neg (fun hh => h hh.2)]; rfl
theorem sumI_pick (p : Nat → Bool) (f : Int → Int) (n : Nat) : sumI ((pickN p n).map f) = sumF (fun j => if p j = true then f (j : Int) else 0) (List.range n) := by
  induction n with
  | zero => rfl
  | succ n ih =>
    rw [pickN, List.map_append, sumI_append, ih, sumF_range_succ]
    split
    · simp [sumI_cons, sumI_nil]
    · simp [sumI_nil]
def maxL (a : Int) (L : List Int) : Int := L.foldl max a
theorem maxL_snoc (a : Int) (L : List Int) (x : Int) : maxL a (L ++ [x]) = max (maxL a L) x := by simp [maxL]
/-- what a box needs: its width and its height -/
def natF (xs : List Int) (n : Nat) : Nat → Nat → Int × Int
  | 0, _ => (0, 0)
  | f + 1, i =>
    if fld xs i 1 = 2 then
      (fld xs i 2 + fld xs i 5 * (((kidsL xs n i).length - 1 : Nat) : Int) + sumI ((kidsL xs n i).map fun j => (natF xs n f j.toNat).1) + 2 * fld xs i 4,
       maxL (fld xs i 3) ((kidsL xs n i).map fun j => (natF xs n f j.toNat).2) + 2 * fld xs i 4)
    else
      (maxL (fld xs i 2) ((kidsL xs n i).map fun j => (natF xs n f j.toNat).1) + 2 * fld xs i 4,
       fld xs i 3 + fld xs i 5 * (((kidsL xs n i).length - 1 : Nat) : Int) + sumI ((kidsL xs n i).map fun j => (natF xs n f j.toNat).2) + 2 * fld xs i 4)
def nat (xs : List Int) (n i : Nat) : Int × Int := natF xs n (n - i) i
theorem kid_gt {xs : List Int} {n p : Nat} (hp : Pre xs n) {x : Int} (hx : x ∈ kidsL xs n p) : p < x.toNat ∧ x.toNat < n ∧ ((x.toNat : Nat) : Int) = x ∧ par xs x.toNat = p := by
  obtain ⟨j, rfl, hj, e⟩ := kidsL_mem.1 hx
  have := (hp j hj).2.1
  rw [Int.toNat_natCast]
  exact ⟨by omega, hj, rfl, e⟩
theorem natF_fuel {xs : List Int} {n : Nat} (hp : Pre xs n) : ∀ (d i f : Nat), i < n → n - i ≤ d → d ≤ f → natF xs n f i = natF xs n d i := by
  intro d
  induction d with
  | zero => intro i f hi h; omega
  | succ d ih =>
    intro i f hi hd hf
    obtain ⟨g, rfl⟩ : ∃ g, f = g + 1 := ⟨f - 1, by omega⟩
    have e : ∀ x ∈ kidsL xs n i, natF xs n g x.toNat = natF xs n d x.toNat := fun x hx => by
      obtain ⟨h1, h2, -⟩ := kid_gt hp hx
      exact ih x.toNat g h2 (by omega) (by omega)
    have e1 : ((kidsL xs n i).map fun j => (natF xs n g j.toNat).1) = ((kidsL xs n i).map fun j => (natF xs n d j.toNat).1) := List.map_congr_left fun x hx => by rw [e x hx]
    have e2 : ((kidsL xs n i).map fun j => (natF xs n g j.toNat).2) = ((kidsL xs n i).map fun j => (natF xs n d j.toNat).2) := List.map_congr_left fun x hx => by rw [e x hx]
    rw [natF, natF, e1, e2]
def natW (xs : List Int) (n : Nat) (j : Int) : Int := (nat xs n j.toNat).1
def natH (xs : List Int) (n : Nat) (j : Int) : Int := (nat xs n j.toNat).2
theorem nat_eq {xs : List Int} {n i : Nat} (hp : Pre xs n) (hi : i < n) : nat xs n i =
    if fld xs i 1 = 2 then
      (fld xs i 2 + fld xs i 5 * (((kidsL xs n i).length - 1 : Nat) : Int) + sumI ((kidsL xs n i).map (natW xs n)) + 2 * fld xs i 4, maxL (fld xs i 3) ((kidsL xs n i).map (natH xs n)) + 2 * fld xs i 4)
    else
      (maxL (fld xs i 2) ((kidsL xs n i).map (natW xs n)) + 2 * fld xs i 4, fld xs i 3 + fld xs i 5 * (((kidsL xs n i).length - 1 : Nat) : Int) + sumI ((kidsL xs n i).map (natH xs n)) + 2 * fld xs i 4) := by
  obtain ⟨d, hd⟩ : ∃ d, n - i = d + 1 := ⟨n - i - 1, by omega⟩
  have e : ∀ x ∈ kidsL xs n i, natF xs n d x.toNat = nat xs n x.toNat := fun x hx => by
    obtain ⟨h1, h2, -⟩ := kid_gt hp hx
    exact natF_fuel hp (n - x.toNat) x.toNat d h2 (Nat.le_refl _) (by omega)
  have e1 : ((kidsL xs n i).map fun j => (natF xs n d j.toNat).1) = ((kidsL xs n i).map (natW xs n)) := List.map_congr_left fun x hx => by rw [e x hx]; rfl
  have e2 : ((kidsL xs n i).map fun j => (natF xs n d j.toNat).2) = ((kidsL xs n i).map (natH xs n)) := List.map_congr_left fun x hx => by rw [e x hx]; rfl
  rw [nat, hd, natF, e1, e2]
theorem maxL_le {a : Int} {L : List Int} (ha : 0 ≤ a) (h : ∀ x ∈ L, 0 ≤ x) : 0 ≤ maxL a L ∧ maxL a L ≤ a + sumI L := by
  induction L generalizing a with
  | nil => simp [maxL, sumI_nil]; exact ha
  | cons x L ih =>
    have hx := h x List.mem_cons_self
    have h1 := ih (a := max a x) (by omega) (fun y hy => h y (List.mem_cons_of_mem _ hy))
    rw [sumI_cons]
    show 0 ≤ maxL (max a x) L ∧ maxL (max a x) L ≤ _
    omega
theorem sumI_nonneg {L : List Int} (h : ∀ x ∈ L, 0 ≤ x) : 0 ≤ sumI L := by
  induction L with
  | nil => exact Int.le_refl _
  | cons x L ih =>
    rw [sumI_cons]
    have := ih (fun y hy => h y (List.mem_cons_of_mem _ hy))
    have := h x List.mem_cons_self
    omega
/-- the bounds of a box's numbers -/
theorem TreeP.nums {xs : List Int} {n i : Nat} (h : TreeP xs n) (hi : i < n) : (0 ≤ fld xs i 1 ∧ fld xs i 1 ≤ 3) ∧ (0 ≤ fld xs i 2 ∧ fld xs i 2 ≤ 100) ∧ (0 ≤ fld xs i 3 ∧ fld xs i 3 ≤ 100) ∧ (0 ≤ fld xs i 4 ∧ fld xs i 4 ≤ 50) ∧ (0 ≤ fld xs i 5 ∧ fld xs i 5 ≤ 50) ∧ (0 ≤ fld xs i 6 ∧ fld xs i 6 ≤ 10) ∧ (0 ≤ fld xs i 7 ∧ fld xs i 7 ≤ 10) ∧ (0 ≤ fld xs i 8 ∧ fld xs i 8 ≤ 3) ∧ (fld xs i 1 = 0 ∨ fld xs i 2 = 0 ∧ fld xs i 3 = 0) := by
  have hb := h.box i hi
  simp only [boxB, box9, Bool.and_eq_true, inR_iff, Bool.or_eq_true, beq_iff_eq] at hb
  obtain ⟨a, b, c, d, e, f, g, j, k⟩ := hb
  exact ⟨a, b, c, d, e, f, g, j, k⟩
theorem TreeP.kidsLen {xs : List Int} {n i : Nat} (h : TreeP xs n) (hi : i < n) : (kidsL xs n i).length ≤ 8 := by rw [kidsL_cnt]; exact (h.kids hi).1
theorem TreeP.noKids {xs : List Int} {n i : Nat} (h : TreeP xs n) (hi : i < n) (h0 : fld xs i 1 = 0) : kidsL xs n i = [] := by
  have := (h.kids hi).2 h0
  rw [← kidsL_cnt] at this
  exact List.eq_nil_of_length_eq_zero this
theorem gap_bd {g : Int} {L : Nat} (hg : 0 ≤ g ∧ g ≤ 50) (hL : L ≤ 7) : 0 ≤ g * (L : Int) ∧ g * (L : Int) ≤ 350 := by
  have h1 := Int.mul_nonneg hg.1 (show (0 : Int) ≤ (L : Int) by omega)
  have h2 := Int.mul_le_mul hg.2 (show (L : Int) ≤ 7 by omega) (by omega) (by omega)
  omega
theorem nat_nonneg {xs : List Int} {n : Nat} (h : TreeP xs n) : ∀ (d i : Nat), i < n → n - i ≤ d → 0 ≤ (nat xs n i).1 ∧ 0 ≤ (nat xs n i).2 := by
  intro d
  induction d with
  | zero => intro i hi h; omega
  | succ d ih =>
    intro i hi hd
    have hk : ∀ x ∈ kidsL xs n i, 0 ≤ natW xs n x ∧ 0 ≤ natH xs n x := fun x hx => by
      obtain ⟨h1, h2, -⟩ := kid_gt h.pre hx
      exact ih x.toNat h2 (by omega)
    have hs1 := sumI_nonneg (L := (kidsL xs n i).map (natW xs n)) (fun y hy => by obtain ⟨x, hx, rfl⟩ := List.mem_map.1 hy; exact (hk x hx).1)
    have hs2 := sumI_nonneg (L := (kidsL xs n i).map (natH xs n)) (fun y hy => by obtain ⟨x, hx, rfl⟩ := List.mem_map.1 hy; exact (hk x hx).2)
    obtain ⟨_, hw, hh, hp, hg, _⟩ := h.nums hi
    have hm1 := maxL_le (a := fld xs i 2) hw.1 (L := (kidsL xs n i).map (natW xs n)) (fun y hy => by obtain ⟨x, hx, rfl⟩ := List.mem_map.1 hy; exact (hk x hx).1)
    have hm2 := maxL_le (a := fld xs i 3) hh.1 (L := (kidsL xs n i).map (natH xs n)) (fun y hy => by obtain ⟨x, hx, rfl⟩ := List.mem_map.1 hy; exact (hk x hx).2)
    have hgp := gap_bd hg (show (kidsL xs n i).length - 1 ≤ 7 by have := h.kidsLen hi; omega)
    rw [nat_eq h.pre hi]
    split
    · exact ⟨by show 0 ≤ _ + _ + _ + _; omega, by show 0 ≤ _ + _; omega⟩
    · exact ⟨by show 0 ≤ _ + _; omega, by show 0 ≤ _ + _ + _ + _; omega⟩
theorem natW_nonneg {xs : List Int} {n : Nat} (h : TreeP xs n) {x : Int} (hx : x.toNat < n) : 0 ≤ natW xs n x := (nat_nonneg h n x.toNat hx (by omega)).1
theorem natH_nonneg {xs : List Int} {n : Nat} (h : TreeP xs n) {x : Int} (hx : x.toNat < n) : 0 ≤ natH xs n x := (nat_nonneg h n x.toNat hx (by omega)).2
/-- a box needs at most what the boxes in it need, and 450 more -/
theorem nat_kids {xs : List Int} {n i : Nat} (h : TreeP xs n) (hi : i < n) : (nat xs n i).1 ≤ 450 + sumI ((kidsL xs n i).map (natW xs n)) ∧ (nat xs n i).2 ≤ 450 + sumI ((kidsL xs n i).map (natH xs n)) := by
  have hk : ∀ x ∈ kidsL xs n i, 0 ≤ natW xs n x ∧ 0 ≤ natH xs n x := fun x hx => by
    obtain ⟨h1, h2, -⟩ := kid_gt h.pre hx
    exact ⟨natW_nonneg h h2, natH_nonneg h h2⟩
  obtain ⟨_, hw, hh, hp, hg, _, _, _, hz⟩ := h.nums hi
  have hm1 := maxL_le (a := fld xs i 2) hw.1 (L := (kidsL xs n i).map (natW xs n)) (fun y hy => by obtain ⟨x, hx, rfl⟩ := List.mem_map.1 hy; exact (hk x hx).1)
  have hm2 := maxL_le (a := fld xs i 3) hh.1 (L := (kidsL xs n i).map (natH xs n)) (fun y hy => by obtain ⟨x, hx, rfl⟩ := List.mem_map.1 hy; exact (hk x hx).2)
  have hgp := gap_bd hg (show (kidsL xs n i).length - 1 ≤ 7 by have := h.kidsLen hi; omega)
  have hgz : fld xs i 1 = 0 → fld xs i 5 * (((kidsL xs n i).length - 1 : Nat) : Int) = 0 := fun h0 => by rw [h.noKids hi h0]; simp
  rw [nat_eq h.pre hi]
  split
  · exact ⟨by show _ + _ + _ + _ ≤ _; omega, by show _ + _ ≤ _; omega⟩
  · exact ⟨by show _ + _ ≤ _; omega, by show _ + _ + _ + _ ≤ _; rcases hz with h0 | ⟨_, h0⟩
                                        · have := hgz h0; omega
                                        · omega⟩
/-- what the boxes from k on need that lie in boxes ahead of k -/
def front (xs : List Int) (n : Nat) (c : Int → Int) (k : Nat) : Int := sumF (fun j => if k ≤ j ∧ par xs j < (k : Int) then c (j : Int) else 0) (List.range n)
theorem front_step {xs : List Int} {n : Nat} (h : TreeP xs n) (c : Int → Int) {k : Nat} (hk : k < n) (hc : c (k : Int) ≤ 450 + sumI ((kidsL xs n k).map c)) : front xs n c k ≤ front xs n c (k + 1) + 450 := by
  have e1 : front xs n c k = sumF (fun j => if j = k then c (j : Int) else 0) (List.range n) + sumF (fun j => if k + 1 ≤ j ∧ par xs j < (k : Int) then c (j : Int) else 0) (List.range n) := by
    rw [← sumF_add]
    refine sumF_congr fun j hj => ?_
    have hjn := List.mem_range.1 hj
    by_cases e : j = k
    · subst e
      rw [if_pos ⟨Nat.le_refl _, (h.pre j hjn).2.1⟩, if_pos rfl, if_neg (by omega)]; omega
    · rw [if_neg e]
      by_cases e2 : k + 1 ≤ j ∧ par xs j < (k : Int)
      · rw [if_pos ⟨by omega, e2.2⟩, if_pos e2]; omega
      · rw [if_neg (fun hh => e2 ⟨by omega, hh.2⟩), if_neg e2]; rfl
  have e2 : front xs n c (k + 1) = sumF (fun j => if k + 1 ≤ j ∧ par xs j < (k : Int) then c (j : Int) else 0) (List.range n) + sumI ((kidsL xs n k).map c) := by
    rw [kidsL, sumI_pick, ← sumF_add]
    refine sumF_congr fun j hj => ?_
    have hjn := List.mem_range.1 hj
    have hpj := (h.pre j hjn).2.1
    by_cases e : par xs j = (k : Int)
    · rw [if_pos ⟨by omega, by omega⟩, if_neg (by omega), if_pos (by simpa using e)]; omega
    · rw [if_neg (show ¬ decide (par xs j = (k : Int)) = true by simpa using e)]
      by_cases e2 : k + 1 ≤ j ∧ par xs j < (k : Int)
      · rw [if_pos ⟨e2.1, by omega⟩, if_pos e2]; omega
      · rw [if_neg (fun hh => e2 ⟨hh.1, by omega⟩), if_neg e2]; rfl
  have e3 : sumF (fun j => if j = k then c (j : Int) else 0) (List.range n) = c (k : Int) := by
    clear e1 e2 hc
    have : ∀ m, sumF (fun j => if j = k then c (j : Int) else 0) (List.range m) = if k < m then c (k : Int) else 0 := fun m => by
      induction m with
      | zero => rfl
      | succ m ih =>
        rw [sumF_range_succ, ih]
        by_cases e : m = k
        · subst e; rw [if_neg (by omega), if_pos rfl, if_pos (by omega)]; omega
        · rw [if_neg e]
          by_cases e2 : k < m
          · rw [if_pos e2, if_pos (by omega)]; omega
          · rw [if_neg e2, if_neg (by omega)]; rfl
    rw [this, if_pos hk]
  omega
theorem front_bd {xs : List Int} {n : Nat} (h : TreeP xs n) (c : Int → Int) (hc : ∀ k : Nat, k < n → c (k : Int) ≤ 450 + sumI ((kidsL xs n k).map c)) : ∀ (d k : Nat), k ≤ n → n - k ≤ d → front xs n c k ≤ 450 * (d : Int) := by
  intro d
  induction d with
  | zero =>
    intro k hk hd
    have : front xs n c k = sumF (fun _ => 0) (List.range n) := sumF_congr fun j hj => by
      have := List.mem_range.1 hj
      rw [if_neg (by omega)]
    rw [this]
    have : ∀ l : List Nat, sumF (fun _ => (0 : Int)) l = 0 := fun l => by
      induction l with
      | nil => rfl
      | cons x l ih => rw [sumF_cons, ih]; rfl
    rw [this]; omega
  | succ d ih =>
    intro k hk hd
    by_cases e : k < n
    · have h1 := front_step h c e (hc k e)
      have h2 := ih (k + 1) (by omega) (by omega)
      omega
    · have := ih k hk (by omega); omega
theorem kids_front {xs : List Int} {n : Nat} (h : TreeP xs n) (c : Int → Int) (h0 : ∀ j : Nat, j < n → 0 ≤ c (j : Int)) {k : Nat} (hk : k < n) : sumI ((kidsL xs n k).map c) ≤ front xs n c (k + 1) := by
  rw [kidsL, sumI_pick]
  have : front xs n c (k + 1) = sumF (fun j => if decide (par xs j = (k : Int)) = true then c (j : Int) else 0) (List.range n) + sumF (fun j => if k + 1 ≤ j ∧ par xs j < (k : Int) then c (j : Int) else 0) (List.range n) := by
    rw [← sumF_add]
    refine sumF_congr fun j hj => ?_
    have hjn := List.mem_range.1 hj
    have hpj := (h.pre j hjn).2.1
    by_cases e : par xs j = (k : Int)
    · rw [if_pos ⟨by omega, by omega⟩, if_pos (by simpa using e), if_neg (by omega)]; omega
    · rw [if_neg (show ¬ decide (par xs j = (k : Int)) = true by simpa using e)]
      by_cases e2 : k + 1 ≤ j ∧ par xs j < (k : Int)
      · rw [if_pos ⟨e2.1, by omega⟩, if_pos e2]; omega
      · rw [if_neg (fun hh => e2 ⟨hh.1, by omega⟩), if_neg e2]; rfl
  have h2 := sumF_nonneg (f := fun j => if k + 1 ≤ j ∧ par xs j < (k : Int) then c (j : Int) else 0) (l := List.range n) (fun j hj => by
    show 0 ≤ if k + 1 ≤ j ∧ par xs j < (k : Int) then c (j : Int) else 0
    split
    · exact h0 j (List.mem_range.1 hj)
    · exact Int.le_refl _)
  omega
theorem natW_at {xs : List Int} {n : Nat} (k : Nat) : natW xs n (k : Int) = (nat xs n k).1 := by rw [natW, Int.toNat_natCast]
theorem natH_at {xs : List Int} {n : Nat} (k : Nat) : natH xs n (k : Int) = (nat xs n k).2 := by rw [natH, Int.toNat_natCast]
/-- the sums of what the boxes in a box need are bounded -/
theorem kids_bd {xs : List Int} {n k : Nat} (h : TreeP xs n) (hk : k < n) : sumI ((kidsL xs n k).map (natW xs n)) ≤ 7200 ∧ sumI ((kidsL xs n k).map (natH xs n)) ≤ 7200 := by
  have hn := h.hi
  have h1 := kids_front h (natW xs n) (fun j hj => natW_nonneg h (by rw [Int.toNat_natCast]; exact hj)) hk
  have h2 := kids_front h (natH xs n) (fun j hj => natH_nonneg h (by rw [Int.toNat_natCast]; exact hj)) hk
  have h3 := front_bd h (natW xs n) (fun j hj => by rw [natW_at]; exact (nat_kids h hj).1) 16 (k + 1) (by omega) (by omega)
  have h4 := front_bd h (natH xs n) (fun j hj => by rw [natH_at]; exact (nat_kids h hj).2) 16 (k + 1) (by omega) (by omega)
  omega
theorem nat_bd {xs : List Int} {n k : Nat} (h : TreeP xs n) (hk : k < n) : 0 ≤ (nat xs n k).1 ∧ (nat xs n k).1 ≤ 7650 ∧ 0 ≤ (nat xs n k).2 ∧ (nat xs n k).2 ≤ 7650 := by
  have h1 := kids_bd h hk
  have h2 := nat_kids h hk
  have h3 := nat_nonneg h n k hk (by omega)
  omega
end Go.Proofs.Ythgliihdaockoaa
