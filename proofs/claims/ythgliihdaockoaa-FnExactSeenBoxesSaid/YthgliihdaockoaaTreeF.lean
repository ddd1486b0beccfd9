/- Trees: the box from which on to lay out anew, and the next leaf: the reference and the program. Conditions: none. -/
import Derived.Test.YthgliihdaockoaaTreeE
namespace Go.Proofs.Ythgliihdaockoaa
open Go.RowKit
set_option linter.unusedVariables false
set_option linter.unusedSimpArgs false
/-- the first box from p on upwards that is no block -/
def lroot (xs : List Int) : Nat → Int → Int
  | 0, _ => 0
  | f + 1, p => if p ≤ 0 then 0 else if fld xs p.toNat 1 = 1 then lroot xs f (par xs p.toNat) else p
def sroot (xs : List Int) (f : Nat) (i : Int) : Int := if i ≤ 0 then 0 else lroot xs f (par xs i.toNat)
noncomputable def layR (xs : List Int) (n : Nat) (i : Int) : Int := if (treeV xs n && inR i 0 ((n : Int) - 1)) = true then sroot xs n i else -1
theorem layR_no {xs : List Int} {n : Nat} {i : Int} (h : (treeV xs n && inR i 0 ((n : Int) - 1)) = false) : layR xs n i = -1 := by rw [layR, h]; rfl
theorem layR_yes {xs : List Int} {n : Nat} {i : Int} (h : (treeV xs n && inR i 0 ((n : Int) - 1)) = true) : layR xs n i = sroot xs n i := by rw [layR, if_pos h]
theorem sroot_zero (xs : List Int) (f : Nat) : sroot xs f 0 = 0 := by simp [sroot]
theorem sroot_pos {xs : List Int} {f p r : Nat} (hp : 0 < p) (h : par xs p = r) : sroot xs f p = lroot xs f r := by
  rw [sroot, if_neg (by omega), Int.toNat_natCast, h]
theorem lroot_on {xs : List Int} {f r : Nat} (h : fld xs r 1 = 1) : lroot xs (f + 1) r = sroot xs f r := by
  rw [lroot, sroot]
  split
  · rfl
  · rw [Int.toNat_natCast, if_pos h]
theorem lroot_off {xs : List Int} {f r : Nat} (h : fld xs r 1 ≠ 1) : lroot xs (f + 1) r = r := by
  rw [lroot]
  split
  · omega
  · rw [Int.toNat_natCast, if_neg h]
theorem lroot_neg {xs : List Int} {f : Nat} {p : Int} (h : p ≤ 0) : lroot xs f p = 0 := by
  cases f with
  | zero => rfl
  | succ f => rw [lroot, if_pos h]
/-- the first leaf among the m boxes from number k on behind box q -/
def nleaf (xs : List Int) (n q : Nat) : Nat → Nat → Int
  | 0, _ => -1
  | m + 1, k => if fld xs ((q + 1 + k) % n) 1 = 0 then ((q + 1 + k) % n : Nat) else nleaf xs n q m (k + 1)
noncomputable def leafR (xs : List Int) (n : Nat) (i : Int) : Int := if (treeV xs n && inR i 0 ((n : Int) - 1)) = true then nleaf xs n i.toNat n 0 else -1
theorem leafR_no {xs : List Int} {n : Nat} {i : Int} (h : (treeV xs n && inR i 0 ((n : Int) - 1)) = false) : leafR xs n i = -1 := by rw [leafR, h]; rfl
theorem leafR_yes {xs : List Int} {n : Nat} {i : Int} (h : (treeV xs n && inR i 0 ((n : Int) - 1)) = true) : leafR xs n i = nleaf xs n i.toNat n 0 := by rw [leafR, if_pos h]
end Go.Proofs.Ythgliihdaockoaa
