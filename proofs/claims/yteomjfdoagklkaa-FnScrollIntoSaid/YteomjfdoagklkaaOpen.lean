/- How an argument that is a slice of integers comes in. Conditions: none. -/
import Derived.Test.YteomjfdoagklkaaReader
namespace Go.Proofs.Yteomjfdoagklkaa
open Go.RowKit
theorem ints_nil (k : IntKind) (w : World) (B : Nat) : Ints k w B none 0 [] := ⟨rfl, by simp, fun h => by omega⟩
theorem cell_lt {w : World} {a : Addr} {v : Value} (h : w.cell? a = some v) : a.block < w.heap.size := by
  rcases Nat.lt_or_ge a.block w.heap.size with h1 | h1
  · exact h1
  · simp [World.cell?, Array.getElem?_eq_none h1] at h
theorem ints_opened {k : IntKind} {w : World} {x : Addr} {len cap : Nat} {zs : List Int} (hl : len ≤ cap) (hz : zs.length = cap)
    (hcell : ∀ i, i < zs.length → w.cell? (x.add i) = some (.int k (zs.getD i 0))) (hw : ∀ n ∈ zs, (Lit.int k n).wf = true) : Ints k w w.heap.size (some x) len (zs.take len) := by
  refine ⟨by rw [List.length_take]; omega, fun n hn => hw n (List.mem_of_mem_take hn), fun h0 => ?_⟩
  obtain ⟨b, off, spot⟩ := x
  have hc := hcell 0 (by omega)
  have hspot : spot = none := by simpa [Addr.add] using World.cell?_spot hc
  subst hspot
  refine ⟨b, off, rfl, by simpa [Addr.add] using cell_lt hc, fun i hi => ?_⟩
  have h1 := hcell i (by omega)
  have h2 : (zs.take len).getD i 0 = zs.getD i 0 := by simp [List.getD_eq_getElem?_getD, hi]
  rw [h2, ← h1]
  by_cases h3 : i = 0
  · subst h3; simp [Addr.add]
  · simp [Addr.add, h3]
end Go.Proofs.Yteomjfdoagklkaa
