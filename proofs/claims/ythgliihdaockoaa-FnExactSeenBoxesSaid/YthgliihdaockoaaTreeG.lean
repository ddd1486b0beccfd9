/- Trees: paths, and what lies around what: the reference and the program. Conditions: none. -/
import Derived.Test.YthgliihdaockoaaTreeF
namespace Go.Proofs.Ythgliihdaockoaa
open Go.RowKit
set_option linter.unusedVariables false
set_option linter.unusedSimpArgs false
theorem Own.new (E : TypeId) (w : World) (ys : List Int) (base : Nat) (hb : base ≤ w.heap.size) (hm : ys.length ≤ maxLen) : Own E 1 (w.alloc (.cells (iv ys).toArray E)) base (.slice (some ⟨w.heap.size, 0, none⟩) ys.length ys.length) ys.length ys :=
  ⟨by rw [iv_length, Nat.mul_one], .inr ⟨w.heap.size, ys.length, (iv ys).toArray, rfl, hb, heap_alloc_new w _, Nat.le_refl _, hm, by simp [iv], by rw [Nat.mul_one]; exact List.take_of_length_le (by simp [iv])⟩⟩
/-- a slice that holds the list L, in blocks of the call's own -/
def ListR (L : List Int) (w : World) (e : Ending) (w' : World) : Prop :=
  ∃ (A : Option Addr) (m c : Nat), e = .returned (.slice A m c) ∧ Row 3 w' w.heap.size w'.heap.size A m L ∧ Below w.heap.size w w'
theorem ListR.nil {L : List Int} {w w' : World} (h : L = []) (hb : Below w.heap.size w w') : ListR L w (.returned (.slice none 0 0)) w' := ⟨none, 0, 0, rfl, by rw [h]; exact Row.nil _ _ _ _ _, hb⟩
theorem ListR.own {L : List Int} {w w' : World} {A : Option Addr} {m c : Nat} (h : Own 3 1 w' w.heap.size (.slice A m c) m L) (hb : Below w.heap.size w w') : ListR L w (.returned (.slice A m c)) w' := by
  obtain ⟨A', c', e, _, _, hr⟩ := h.form
  injection e with e1 e2 e3
  subst e1 e3
  rw [Nat.mul_one] at hr
  exact ⟨A, m, c, rfl, hr, hb⟩
theorem upN_rest {xs : List Int} {k i : Nat} (hp : Pre xs k) (hi : i < k) : upN xs i = (i : Int) :: rest xs (par xs i) := by
  rw [rest]
  by_cases h : par xs i < 0
  · rw [if_pos h, upN_root h]
  · obtain ⟨r, hr⟩ : ∃ r : Nat, par xs i = r := ⟨(par xs i).toNat, by omega⟩
    rw [if_neg h, hr, Int.toNat_natCast, upN_step hp hi hr]
noncomputable def pathL (xs : List Int) (n : Nat) (i : Int) : List Int := if (treeV xs n && inR i 0 ((n : Int) - 1)) = true then (upN xs i.toNat).reverse else []
theorem pathL_no {xs : List Int} {n : Nat} {i : Int} (h : (treeV xs n && inR i 0 ((n : Int) - 1)) = false) : pathL xs n i = [] := by rw [pathL, h]; rfl
theorem pathL_yes {xs : List Int} {n : Nat} {i : Int} (h : (treeV xs n && inR i 0 ((n : Int) - 1)) = true) : pathL xs n i = (upN xs i.toNat).reverse := by rw [pathL, if_pos h]
theorem upN_le {xs : List Int} {k i : Nat} (hp : Pre xs k) (hi : i < k) {a : Int} (ha : a ∈ upN xs i) : a ≤ i := by
  induction i using Nat.strongRecOn with
  | _ i ih =>
    by_cases hneg : par xs i < 0
    · rw [upN_root hneg] at ha
      simp at ha; omega
    · obtain ⟨q, hqq⟩ : ∃ q : Nat, par xs i = q := ⟨(par xs i).toNat, by omega⟩
      have h2 := (hp i hi).2.1
      rw [upN_step hp hi hqq] at ha
      rcases List.mem_cons.1 ha with h | h
      · omega
      · have := ih q (by omega) (by omega) h; omega
theorem upN_head {xs : List Int} {k i : Nat} (hp : Pre xs k) (hi : i < k) : (i : Int) ∈ upN xs i := by rw [upN_rest hp hi]; exact List.mem_cons_self
/-- is box a around box i -/
def arnd (xs : List Int) (a : Int) (i : Nat) : Bool := decide (a ∈ upN xs i)
theorem arnd_rev {xs : List Int} {a : Int} {i : Nat} : decide (a ∈ (upN xs i).reverse) = arnd xs a i := by simp [arnd]
theorem arnd_eq {xs : List Int} {k i : Nat} {a : Int} (hp : Pre xs k) (hi : i < k) (h : (i : Int) ≤ a) : ((i : Int) == a) = arnd xs a i := by
  rw [arnd]
  by_cases e : (i : Int) = a
  · subst e; simp [upN_head hp hi]
  · have : a ∉ upN xs i := fun hm => by have := upN_le hp hi hm; omega
    simp [this, e]
theorem arnd_step {xs : List Int} {k i r : Nat} {a : Int} (hp : Pre xs k) (hi : i < k) (h : a < (i : Int)) (hr : par xs i = r) : arnd xs a r = arnd xs a i := by
  have h1 : a ≠ (i : Int) := by omega
  have h2 : a ∈ upN xs i ↔ a ∈ upN xs r := by rw [upN_step hp hi hr, List.mem_cons]; simp [h1]
  simp [arnd, h2]
end Go.Proofs.Ythgliihdaockoaa
