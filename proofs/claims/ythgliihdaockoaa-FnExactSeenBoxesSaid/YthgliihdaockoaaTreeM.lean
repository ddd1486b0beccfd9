/- Plain laws of trees of boxes: each box is nine numbers. Conditions: none. -/
import Derived.Test.YthgliihdaockoaaSums
namespace Go.Proofs.Ythgliihdaockoaa
set_option linter.unusedVariables false
def par (xs : List Int) (i : Nat) : Int := xs.getD (i * 9) 0
def fld (xs : List Int) (i j : Nat) : Int := xs.getD (i * 9 + j) 0
def box9 (x1 x2 x3 x4 x5 x6 x7 x8 : Int) : Bool :=
  inR x1 0 3 && (inR x2 0 100 && (inR x3 0 100 && (inR x4 0 50 && (inR x5 0 50 && (inR x6 0 10 && (inR x7 0 10 && (inR x8 0 3 && (x1 == 0 || (x2 == 0 && x3 == 0)))))))))
def boxB (xs : List Int) (i : Nat) : Bool := box9 (fld xs i 1) (fld xs i 2) (fld xs i 3) (fld xs i 4) (fld xs i 5) (fld xs i 6) (fld xs i 7) (fld xs i 8)
/-- a box's place and those around it, from the inside -/
def chain (xs : List Int) : Nat → Int → List Int
  | 0, _ => []
  | f + 1, a => if a < 0 then [] else a :: chain xs f (par xs a.toNat)
def upN (xs : List Int) (i : Nat) : List Int := chain xs (i + 1) i
/-- the first k boxes lie in boxes ahead of them -/
def Pre (xs : List Int) (k : Nat) : Prop := ∀ j, j < k → -1 ≤ par xs j ∧ par xs j < j ∧ (0 < j → 0 ≤ par xs j)
theorem Pre.le {xs : List Int} {k m : Nat} (h : Pre xs k) (hm : m ≤ k) : Pre xs m := fun j hj => h j (by omega)
theorem Pre.succ {xs : List Int} {k : Nat} (h : Pre xs k) (h1 : -1 ≤ par xs k) (h2 : par xs k < k) (h3 : 0 < k → 0 ≤ par xs k) : Pre xs (k + 1) := fun j hj => by
  by_cases e : j = k
  · subst e; exact ⟨h1, h2, h3⟩
  · exact h j (by omega)
theorem chain_neg {xs : List Int} {f : Nat} {a : Int} (h : a < 0) : chain xs f a = [] := by
  cases f with
  | zero => rfl
  | succ f => rw [chain, if_pos h]
theorem chain_fuel {xs : List Int} {k : Nat} (hp : Pre xs k) : ∀ (i f : Nat), i < k → i < f → chain xs f i = chain xs (i + 1) i := by
  intro i
  induction i using Nat.strongRecOn with
  | _ i ih =>
    intro f hi hf
    obtain ⟨g, rfl⟩ : ∃ g, f = g + 1 := ⟨f - 1, by omega⟩
    rw [chain, chain, if_neg (by omega), if_neg (by omega), Int.toNat_natCast]
    congr 1
    obtain ⟨h1, h2, h3⟩ := hp i hi
    by_cases hn : par xs i < 0
    · rw [chain_neg hn, chain_neg hn]
    · obtain ⟨p, hpp⟩ := Int.eq_ofNat_of_zero_le (show 0 ≤ par xs i by omega)
      rw [hpp]
      rw [hpp] at h2
      rw [ih p (by omega) g (by omega) (by omega), ih p (by omega) i (by omega) (by omega)]
theorem upN_step {xs : List Int} {k i p : Nat} (hp : Pre xs k) (hi : i < k) (h : par xs i = p) : upN xs i = (i : Int) :: upN xs p := by
  have h2 := (hp i hi).2.1
  rw [h] at h2
  rw [upN, chain, if_neg (by omega), Int.toNat_natCast, h, chain_fuel hp p i (by omega) (by omega)]
  rfl
theorem upN_root {xs : List Int} {i : Nat} (h : par xs i < 0) : upN xs i = [(i : Int)] := by
  rw [upN, chain, if_neg (by omega), Int.toNat_natCast, chain_neg h]
theorem upN_zero {xs : List Int} {k : Nat} (hp : Pre xs k) (hk : 0 < k) : upN xs 0 = [0] := by
  have := hp 0 hk
  exact upN_root (by omega)
/-- how many boxes among those from s on, ahead of n, lie directly in p -/
def kcnt (xs : List Int) (p : Int) (s : Nat) : Nat → Nat
  | 0 => 0
  | n + 1 => kcnt xs p s n + (if s ≤ n ∧ par xs n = p then 1 else 0)
theorem kcnt_none {xs : List Int} {p : Int} {s n : Nat} (h : n ≤ s) : kcnt xs p s n = 0 := by
  induction n with
  | zero => rfl
  | succ n ih => rw [kcnt, ih (by omega), if_neg (by omega)]
theorem kcnt_le {xs : List Int} {p : Int} {s n : Nat} : kcnt xs p s n ≤ kcnt xs p 0 n := by
  induction n with
  | zero => exact Nat.le_refl _
  | succ n ih =>
    rw [kcnt, kcnt]
    split
    · rename_i h; rw [if_pos ⟨Nat.zero_le _, h.2⟩]; omega
    · omega
theorem kcnt_eq {xs : List Int} {p s n : Nat} (hp : Pre xs n) (hs : s ≤ p + 1) : kcnt xs p s n = kcnt xs p 0 n := by
  induction n with
  | zero => rfl
  | succ n ih =>
    rw [kcnt, kcnt, ih (hp.le (by omega))]
    congr 1
    by_cases h : par xs n = p
    · have := (hp n (by omega)).2.1
      rw [if_pos ⟨by omega, h⟩, if_pos ⟨by omega, h⟩]
    · rw [if_neg (fun hh => h hh.2), if_neg (fun hh => h hh.2)]
theorem kcnt_mem {xs : List Int} {p : Int} {n i : Nat} (hi : i < n) (h : par xs i = p) : 0 < kcnt xs p 0 n := by
  induction n with
  | zero => omega
  | succ n ih =>
    rw [kcnt]
    by_cases e : i = n
    · subst e; rw [if_pos ⟨Nat.zero_le _, h⟩]; omega
    · have := ih (by omega); omega
theorem kcnt_pos {xs : List Int} {p : Int} {n : Nat} (h : 0 < kcnt xs p 0 n) : ∃ i, i < n ∧ par xs i = p := by
  induction n with
  | zero => simp [kcnt] at h
  | succ n ih =>
    rw [kcnt] at h
    by_cases e : par xs n = p
    · exact ⟨n, by omega, e⟩
    · rw [if_neg (fun hh => e hh.2)] at h
      obtain ⟨i, h1, h2⟩ := ih (by omega)
      exact ⟨i, by omega, h2⟩
/-- a valid tree -/
structure TreeP (xs : List Int) (n : Nat) : Prop where
  lo : 1 ≤ n
  hi : n ≤ 16
  pre : Pre xs n
  box : ∀ i, i < n → boxB xs i = true
  leaf : ∀ i, 0 < i → i < n → fld xs (par xs i).toNat 1 ≠ 0
  many : ∀ i, 0 < i → i < n → kcnt xs (par xs i) 0 n ≤ 8
  deep : ∀ i, i < n → (upN xs i).length ≤ 6
  order : ∀ i, 0 < i → i < n → par xs i ∈ upN xs (i - 1)
open Classical in
noncomputable def treeV (xs : List Int) (n : Nat) : Bool := decide (TreeP xs n)
theorem treeV_no {xs : List Int} {n : Nat} (h : ¬ TreeP xs n) : treeV xs n = false := by simp [treeV, h]
theorem treeV_yes {xs : List Int} {n : Nat} (h : TreeP xs n) : treeV xs n = true := by simp [treeV, h]
theorem treeV_iff {xs : List Int} {n : Nat} : treeV xs n = true ↔ TreeP xs n := by simp [treeV]
/-- as the program asks it: per box, and per box how many are in it -/
theorem TreeP.ofImpl {xs : List Int} {n : Nat} (lo : 1 ≤ n) (hi : n ≤ 16) (pre : Pre xs n) (box : ∀ i, i < n → boxB xs i = true) (deep : ∀ i, i < n → (upN xs i).length ≤ 6) (order : ∀ i, 0 < i → i < n → par xs i ∈ upN xs (i - 1))
    (kids : ∀ i, i < n → kcnt xs i 0 n ≤ 8 ∧ (fld xs i 1 = 0 → kcnt xs i 0 n = 0)) : TreeP xs n := by
  have key : ∀ i, 0 < i → i < n → (((par xs i).toNat : Nat) : Int) = par xs i ∧ (par xs i).toNat < n := fun i h0 h => by
    have := pre i h; omega
  refine ⟨lo, hi, pre, box, fun i h0 h e => ?_, fun i h0 h => ?_, deep, order⟩
  · obtain ⟨e1, e2⟩ := key i h0 h
    have := (kids _ e2).2 e
    have h3 := kcnt_mem (p := ((par xs i).toNat : Int)) h e1.symm
    omega
  · obtain ⟨e1, e2⟩ := key i h0 h
    rw [← e1]
    exact (kids _ e2).1
theorem TreeP.kids {xs : List Int} {n i : Nat} (h : TreeP xs n) (hi : i < n) : kcnt xs i 0 n ≤ 8 ∧ (fld xs i 1 = 0 → kcnt xs i 0 n = 0) := by
  by_cases hk : 0 < kcnt xs i 0 n
  · obtain ⟨j, hj, e⟩ := kcnt_pos hk
    have hj0 : 0 < j := by
      rcases Nat.eq_zero_or_pos j with h0 | h0
      · subst h0; have := h.pre 0 hj; omega
      · exact h0
    have h1 := h.many j hj0 hj
    have h2 := h.leaf j hj0 hj
    rw [e] at h1 h2
    rw [Int.toNat_natCast] at h2
    exact ⟨h1, fun e => absurd e h2⟩
  · exact ⟨by omega, fun _ => by omega⟩
/-- as the reference asks it -/
theorem TreeP.ofSpec {xs : List Int} {n : Nat} (lo : 1 ≤ n) (hi : n ≤ 16) (pre : Pre xs n) (box : ∀ i, i < n → boxB xs i = true) (leaf : ∀ i, 0 < i → i < n → fld xs (par xs i).toNat 1 ≠ 0)
    (many : ∀ i, 0 < i → i < n → kcnt xs (par xs i) ((par xs i).toNat + 1) n ≤ 8) (deep : ∀ i, i < n → (upN xs i).length ≤ 6) (order : ∀ i, 0 < i → i < n → par xs i ∈ upN xs (i - 1)) : TreeP xs n :=
  ⟨lo, hi, pre, box, leaf, fun i h0 h => by
    have h1 := many i h0 h
    have h2 := pre i h
    have e : par xs i = (((par xs i).toNat : Nat) : Int) := by omega
    rw [e] at h1 ⊢
    rw [Int.toNat_natCast] at h1
    rw [kcnt_eq pre (Nat.le_refl _)] at h1
    exact h1, deep, order⟩
end Go.Proofs.Ythgliihdaockoaa
