/- Memory: slices that read as lists of integers; what a call may have turned. Conditions: none. -/
import Derived.Test.YthgliihdaockoaaCore
import Derived.Below
import Derived.Deep.Draws
namespace Go.Proofs.Ythgliihdaockoaa
open Go.RowKit

/-- a slice value that reads as a list of integers; its block lies below B -/
def Ints (k : IntKind) (w : World) (B : Nat) (a : Option Addr) (n : Nat) (xs : List Int) : Prop :=
  xs.length = n ∧ (k = .u8 → ∀ x ∈ xs, (Lit.int k x).wf = true) ∧ (0 < n → ∃ b off, a = some ⟨b, off, none⟩ ∧ b < B ∧ ∀ i, i < n → w.cell? ⟨b, off + i, none⟩ = some (.int k (xs.getD i 0)))

theorem Ints.keep {k : IntKind} {w w' : World} {B : Nat} {a : Option Addr} {n : Nat} {xs : List Int} (h : Ints k w B a n xs) (hk : ∀ b o, b < B → w'.cell? ⟨b, o, none⟩ = w.cell? ⟨b, o, none⟩) : Ints k w' B a n xs :=
  ⟨h.1, h.2.1, fun hn => by
    obtain ⟨b, off, e, hb, hc⟩ := h.2.2 hn
    exact ⟨b, off, e, hb, fun i hi => (hk b _ hb).trans (hc i hi)⟩⟩
theorem Ints.more {k : IntKind} {w : World} {B B' : Nat} {a : Option Addr} {n : Nat} {xs : List Int} (h : Ints k w B a n xs) (hB : B ≤ B') : Ints k w B' a n xs :=
  ⟨h.1, h.2.1, fun hn => by
    obtain ⟨b, off, e, hb, hc⟩ := h.2.2 hn
    exact ⟨b, off, e, by omega, hc⟩⟩
theorem only_set (w : World) (R i : Nat) (v : Value) : w.grownBy (w.setCell ⟨R, i, none⟩ v) (some R) :=
  ⟨rfl, rfl, rfl, by simp [World.setCell], fun k _ hk => Below.heap_setCell w _ v k (fun e => hk (by rw [e]))⟩
theorem only_drew {a w : World} {row : Option Nat} (h : a.grownBy w row) : a.grownBy w.drew row := ⟨h.os, h.tape, h.output, h.size, h.block⟩
theorem only_drewN {a w : World} {row : Option Nat} (h : a.grownBy w row) (n : Nat) : a.grownBy (w.drewN n) row := ⟨h.os, h.tape, h.output, h.size, h.block⟩
theorem byte_at {n : Nat} {zs : List Int} (hz : zs.length = n) (hw : ∀ x ∈ zs, (Lit.int .u8 x).wf = true) (i : Nat) (hi : i < n) : 0 ≤ zs.getD i 0 ∧ zs.getD i 0 ≤ 255 := by
  have hm : zs.getD i 0 ∈ zs := by
    rw [List.getD_eq_getElem?_getD, List.getElem?_eq_getElem (by omega)]
    exact List.getElem_mem _
  have := hw _ hm
  simpa [Lit.wf, IntKind.min, IntKind.max, IntKind.signed, IntKind.bits] using this

theorem only_refl (w : World) (row : Option Nat) : w.grownBy w row := ⟨rfl, rfl, rfl, Nat.le_refl _, fun _ _ _ => rfl⟩
theorem only_trans {a b c : World} {row : Option Nat} (h : a.grownBy b row) (k : b.grownBy c row) : a.grownBy c row :=
  ⟨k.os.trans h.os, k.tape.trans h.tape, k.output.trans h.output, Nat.le_trans h.size k.size, fun i hi hne => (k.block i (Nat.lt_of_lt_of_le hi h.size) hne).trans (h.block i hi hne)⟩
theorem only_alloc {a w : World} {row : Option Nat} (h : a.grownBy w row) (o : Obj) : a.grownBy (w.alloc o) row :=
  only_trans h (World.grownBy_alloc w o row)
theorem only_below {a w w' : World} {row : Option Nat} (h : a.grownBy w row) {B : Nat} (hb : Below B w w') (hB : a.heap.size ≤ B) : a.grownBy w' row :=
  ⟨hb.os.trans h.os, hb.tape.trans h.tape, hb.output.trans h.output, Nat.le_trans h.size hb.size, fun i hi hne => (hb.block i (by omega)).trans (h.block i hi hne)⟩
theorem only_setCell {a w : World} {g : Nat} (h : a.grownBy w (some g)) {p : Addr} (hp : p.block = g ∨ a.heap.size ≤ p.block) (u : Value) : a.grownBy (w.setCell p u) (some g) :=
  ⟨h.os, h.tape, h.output, by simpa [World.setCell] using h.size, fun i hi hne => (Below.heap_setCell w p u i (by
    rintro rfl
    rcases hp with hp | hp
    · exact hne (by rw [hp])
    · omega)).trans (h.block i hi hne)⟩
/-- a row that lies from the first world's end on may be written, too -/
theorem only_fresh {a w w' : World} {row row' : Option Nat} (h : a.grownBy w row) (hg : w.grownBy w' row') (hr : ∀ k, row' = some k → a.heap.size ≤ k) : a.grownBy w' row :=
  ⟨hg.os.trans h.os, hg.tape.trans h.tape, hg.output.trans h.output, Nat.le_trans h.size hg.size, fun i hi hne => (hg.block i (Nat.lt_of_lt_of_le hi h.size) (fun e => by have := hr i e.symm; omega)).trans (h.block i hi hne)⟩
theorem Ints.le {k : IntKind} {w : World} {B : Nat} {a : Option Addr} {n m : Nat} {xs : List Int} (h : Ints k w B a n xs) (hm : m ≤ n) : Ints k w B a m (xs.take m) :=
  ⟨by rw [List.length_take, h.1]; omega, fun hk x hx => h.2.1 hk x (List.mem_of_mem_take hx), fun h0 => by
    obtain ⟨b, off, e, hb, hc⟩ := h.2.2 (by omega)
    refine ⟨b, off, e, hb, fun i hi => ?_⟩
    rw [hc i (by omega)]
    simp [List.getD_eq_getElem?_getD, hi]⟩
theorem ints_nil (k : IntKind) (w : World) (B : Nat) : Ints k w B none 0 [] := ⟨rfl, by simp, fun h => by omega⟩
theorem cell_lt {w : World} {a : Addr} {v : Value} (h : w.cell? a = some v) : a.block < w.heap.size := by
  rcases Nat.lt_or_ge a.block w.heap.size with h1 | h1
  · exact h1
  · simp [World.cell?, Array.getElem?_eq_none h1] at h
theorem ints_opened {k : IntKind} {w : World} {x : Addr} {len cap : Nat} {zs : List Int} (hl : len ≤ cap) (hz : zs.length = cap)
    (hcell : ∀ i, i < zs.length → w.cell? (x.add i) = some (.int k (zs.getD i 0))) (hw : ∀ n ∈ zs, (Lit.int k n).wf = true) : Ints k w w.heap.size (some x) len (zs.take len) := by
  refine ⟨by rw [List.length_take]; omega, fun _ n hn => hw n (List.mem_of_mem_take hn), fun h0 => ?_⟩
  obtain ⟨b, off, spot⟩ := x
  have hc := hcell 0 (by omega)
  have hspot : spot = none := by simpa [Addr.add] using World.cell?_spot hc
  subst hspot
  refine ⟨b, off, rfl, by simpa [Addr.add] using cell_lt hc, fun i hi => ?_⟩
  have h1 := hcell i (by omega)
  have h2 : (zs.take len).getD i 0 = zs.getD i 0 := by simp [List.getD_eq_getElem?_getD, hi]
  rw [h2, ← h1]
  by_cases h3 : i = 0
  · subst h3; simp [Addr.add]
  · simp [Addr.add, h3]
end Go.Proofs.Ythgliihdaockoaa
