/- Buffers: a cell written, read; the cells that differ. Conditions: none. -/
import Derived.Test.YtndnhnekhlifjaaBufOps
namespace Go.Proofs.Ytndnhnekhlifjaa
open Go.RowKit
set_option linter.unusedVariables false

theorem cell_set3 {w : World} {g b o : Nat} {u0 u1 u2 v : Value} (h : w.cell? ⟨b, o, none⟩ = some v) (hne : b ≠ g) : (((w.setCell ⟨g, 0, none⟩ u0).setCell ⟨g, 1, none⟩ u1).setCell ⟨g, 2, none⟩ u2).cell? ⟨b, o, none⟩ = some v := by
  rw [World.cell?_setCell_other _ _ _ _ (by intro e; injection e with e; exact hne e.symm), World.cell?_setCell_other _ _ _ _ (by intro e; injection e with e; exact hne e.symm), World.cell?_setCell_other _ _ _ _ (by intro e; injection e with e; exact hne e.symm), h]
theorem block_set3 {w : World} {g : Nat} {T : TypeId} {z0 z1 z2 u0 u1 u2 : Value} (h : w.heap[g]? = some (.cells #[z0, z1, z2] T (0, 0))) : (((w.setCell ⟨g, 0, none⟩ u0).setCell ⟨g, 1, none⟩ u1).setCell ⟨g, 2, none⟩ u2).heap[g]? = some (.cells #[u0, u1, u2] T (0, 0)) := by
  simp [World.setCell, Array.getElem?_modify, h]
theorem only_set3 (w : World) (g : Nat) (u0 u1 u2 : Value) : Only g (g + 1) w (((w.setCell ⟨g, 0, none⟩ u0).setCell ⟨g, 1, none⟩ u1).setCell ⟨g, 2, none⟩ u2) :=
  (((Only.refl _ _ _).set (Nat.le_refl _) (Nat.lt_succ_self _) _).set (Nat.le_refl _) (Nat.lt_succ_self _) _).set (Nat.le_refl _) (Nat.lt_succ_self _) _
/-- behind the statement that makes the new buffers -/
def WroteRel (w1 : World) (xs ys : List Int) (v : Int) (s8 : Value) (wx : World) : Prop :=
  ∃ g A1 n1 c1 B1 m1 d1 a0 a1 b0 b1, s8 = .pointer (some ⟨g, 0, none⟩) ∧ w1.heap.size ≤ g ∧ g < wx.heap.size ∧ wx.heap[g]? = some (.cells #[.slice A1 n1 c1, .slice B1 m1 d1, .int .i64 v] 25 (0, 0)) ∧
    n1 ≤ c1 ∧ c1 ≤ 9223372036854775807 ∧ m1 ≤ d1 ∧ d1 ≤ 9223372036854775807 ∧ w1.heap.size ≤ a0 ∧ a0 ≤ a1 ∧ a1 ≤ b0 ∧ b0 ≤ b1 ∧ b1 ≤ wx.heap.size ∧ (g < a0 ∨ a1 ≤ g) ∧ (g < b0 ∨ b1 ≤ g) ∧
    Row 3 wx a0 a1 A1 n1 xs ∧ Row 3 wx b0 b1 B1 m1 ys ∧ Below w1.heap.size w1 wx
theorem wrote_set {w1 wY w2 w3 : World} {g a0 : Nat} {xs ys : List Int} {v : Int} {A1 B1 : Option Addr} {n1 c1 m1 d1 : Nat} {z0 z1 z2 : Value} {b0 : Nat} (hg : w1.heap.size ≤ g) (hb : w3.heap[g]? = some (.cells #[z0, z1, z2] 25 (0, 0)))
    (k1 : n1 ≤ c1) (k2 : c1 ≤ 9223372036854775807) (k3 : m1 ≤ d1) (k4 : d1 ≤ 9223372036854775807) (ha0 : w1.heap.size ≤ a0) (ha1 : a0 ≤ w2.heap.size) (hb0 : w2.heap.size ≤ b0) (hb1 : b0 ≤ w3.heap.size)
    (hga : g < a0 ∨ w2.heap.size ≤ g) (hgb : g < b0) (hr1 : Row 3 w2 a0 w2.heap.size A1 n1 xs) (hY : Below w2.heap.size w2 wY) (hY3 : Below wY.heap.size wY w3) (hr2 : Row 3 w3 b0 w3.heap.size B1 m1 ys) (hbl : Below w1.heap.size w1 w3) :
    WroteRel w1 xs ys v (.pointer (some ⟨g, 0, none⟩)) (((w3.setCell ⟨g, 0, none⟩ (.slice A1 n1 c1)).setCell ⟨g, 1, none⟩ (.slice B1 m1 d1)).setCell ⟨g, 2, none⟩ (.int .i64 v)) := by
  have ho := only_set3 w3 g (.slice A1 n1 c1) (.slice B1 m1 d1) (.int .i64 v)
  have hs : (((w3.setCell ⟨g, 0, none⟩ (.slice A1 n1 c1)).setCell ⟨g, 1, none⟩ (.slice B1 m1 d1)).setCell ⟨g, 2, none⟩ (.int .i64 v)).heap.size = w3.heap.size := by simp [World.setCell]
  have hsY := hY.size
  have hr1' := (hr1.belowS hY).belowS hY3
  refine ⟨g, A1, n1, c1, B1, m1, d1, a0, w2.heap.size, b0, w3.heap.size, rfl, hg, by omega, block_set3 hb, k1, k2, k3, k4, ha0, ha1, hb0, hb1, by omega, hga, .inl hgb, hr1'.far ho (by omega), hr2.far ho (by omega), hbl.trans (ho.below hg (by have := hbl.size; omega))⟩
theorem wrote_new {w1 w2 w3 : World} {a0 : Nat} {xs ys : List Int} {v : Int} {A1 B1 : Option Addr} {n1 c1 m1 d1 : Nat}
    (k1 : n1 ≤ c1) (k2 : c1 ≤ 9223372036854775807) (k3 : m1 ≤ d1) (k4 : d1 ≤ 9223372036854775807) (ha0 : w1.heap.size ≤ a0) (ha1 : a0 ≤ w2.heap.size)
    (hr1 : Row 3 w2 a0 w2.heap.size A1 n1 xs) (hY3 : Below w2.heap.size w2 w3) (hr2 : Row 3 w3 w2.heap.size w3.heap.size B1 m1 ys) (hbl : Below w1.heap.size w1 w3) :
    WroteRel w1 xs ys v (.pointer (some ⟨w3.heap.size, 0, none⟩)) (w3.alloc (.cells #[.slice A1 n1 c1, .slice B1 m1 d1, .int .i64 v] 25)) := by
  have hb : Below w3.heap.size w3 (w3.alloc (.cells #[.slice A1 n1 c1, .slice B1 m1 d1, .int .i64 v] 25)) := (Below.refl _ _).alloc (Nat.le_refl _) _
  have h23 := hY3.size
  have h13 := hbl.size
  exact ⟨w3.heap.size, A1, n1, c1, B1, m1, d1, a0, w2.heap.size, w2.heap.size, w3.heap.size, rfl, h13, by simp, heap_alloc_new w3 _, k1, k2, k3, k4, ha0, ha1, Nat.le_refl _, h23, by simp, .inr h23, .inr (Nat.le_refl _), (hr1.belowS hY3).belowS hb, hr2.belowS hb, hbl.alloc h13 _⟩

def writeS (xs ys : List Int) (v i x : Int) : Ans := if (validB xs ys v && inR i 0 ((xs.length : Int) - 1)) = true ∧ inR x (-10000) 10000 = true then ⟨xs, ys.set i.toNat x, v, true⟩ else noAns
end Go.Proofs.Ytndnhnekhlifjaa
