/- An argument that is a slice of structs of integers, opened to its cells. Conditions: none. -/
import Derived.Test.YthgliihdaockoaaMem
import Derived.Deep.Slices
import Derived.Deep.Fields
import Derived.ChangeSame
namespace Go.Proofs.Ythgliihdaockoaa
open Go.RowKit Go.ChangeShapes Go.WideShapes Go.Deep
set_option linter.unusedVariables false
theorem ints_chosen {w : World} {a : Addr} (N : Nat) (h : ∀ k, k < N → ∃ z : Int, w.cell? (a.add k) = some (.int .i64 z) ∧ (Lit.int .i64 z).wf = true) :
    ∃ zs : List Int, zs.length = N ∧ (∀ i, i < zs.length → w.cell? (a.add i) = some (.int .i64 (zs.getD i 0))) ∧ ∀ n ∈ zs, (Lit.int .i64 n).wf = true := by
  induction N with
  | zero => exact ⟨[], rfl, fun i hi => by simp at hi, fun n hn => by cases hn⟩
  | succ N ih =>
    obtain ⟨zs, h1, h2, h3⟩ := ih fun k hk => h k (by omega)
    obtain ⟨z, hz, hw⟩ := h N (by omega)
    refine ⟨zs ++ [z], by simp [h1], fun i hi => ?_, fun n hn => ?_⟩
    · by_cases e : i < zs.length
      · rw [h2 i e]; simp [List.getD_eq_getElem?_getD, List.getElem?_append_left e]
      · obtain rfl : i = N := by simp at hi; omega
        rw [hz]; simp [List.getD_eq_getElem?_getD, h1]
    · rcases List.mem_append.1 hn with hn | hn
      · exact h3 n hn
      · rw [List.mem_singleton.1 hn]; exact hw
section
variable {H : Type} {enc : TypeId × Value → H} {P : Program} {w : World} {base : Nat} {spare : Nat → Bool} {held : Bool}
theorem struct_ints {t I : TypeId} {fs : Array Field} {fuel : Nat} {cs : List Value} {x : DataW H × List MemPlace} (ht : P.underlying t = some (.struct fs)) (hone : oneCellFields P fs = true) (hI : P.underlying I = some (.int .i64))
    (hint : fs.toList.all (fun f => f.type == I) = true) (h : DataW.trod enc P w base spare held fuel t cs = some x) (hl : cs.length = fs.size) (j : Nat) (hj : j < fs.size) : ∃ z : Int, cs[j]? = some (.int .i64 z) ∧ (Lit.int .i64 z).wf = true := by
  obtain ⟨ys, n, _, _, _, hyl, hf⟩ := DataW.trod_struct ht h
  have hfj : fs[j]? = some fs[j] := Array.getElem?_eq_getElem hj
  obtain ⟨ho, hk⟩ := hone_of hone j _ hfj
  have ht' : fs[j].type = I := by
    have := List.all_eq_true.1 hint fs[j] (by simp)
    simpa using this
  have h1 := hf j _ hfj
  have hy : ys[j]? = some (ys[j]'(by omega)) := List.getElem?_eq_getElem (by omega)
  have h2 : (cs.drop j).take 1 = [cs[j]'(by omega)] := by
    rw [List.drop_eq_getElem_cons (by omega)]
    rfl
  rw [ho, hk, ht', hy, h2] at h1
  obtain ⟨z, hz, _, hw⟩ := DataW.trod_int hI h1
  refine ⟨z, ?_, hw⟩
  rw [List.getElem?_eq_getElem (show j < cs.length by omega)]
  simpa using hz
theorem open_rows {t e I : TypeId} {fs : Array Field} {fuel : Nat} {cs : List Value} {x : DataW H × List MemPlace} (ht : P.underlying t = some (.slice e)) (he : P.underlying e = some (.struct fs)) (hone : oneCellFields P fs = true)
    (hC : P.cellsOf e = fs.size) (hI : P.underlying I = some (.int .i64)) (hint : fs.toList.all (fun f => f.type == I) = true) (h : DataW.trod enc P w base spare held fuel t cs = some x) :
    ∃ (a : Option Addr) (len cap : Nat) (zs : List Int), cs = [.slice a len cap] ∧ Ints .i64 w w.heap.size a (len * fs.size) zs ∧ len ≤ cap ∧ cap ≤ maxLen := by
  rcases open_slice ht h with ⟨h0, _⟩ | ⟨a, len, cap, m, n, D, Pl, hcs, hb, hl, hm, hmm, hx, hi⟩
  · exact ⟨none, 0, 0, [], h0, by rw [Nat.zero_mul]; exact ints_nil _ _ _, Nat.le_refl _, Nat.zero_le _⟩
  · have hml : len ≤ m := by rw [hmm]; split <;> omega
    obtain ⟨zs, h1, h2, h3⟩ := ints_chosen (w := w) (a := a) (len * fs.size) (fun k hk => by
      have hpos : 0 < fs.size := by
        rcases Nat.eq_zero_or_pos fs.size with h0 | h0
        · rw [h0] at hk; omega
        · exact h0
      have hk1 : k / fs.size < len := Nat.div_lt_of_lt_mul (by rw [Nat.mul_comm]; exact hk)
      obtain ⟨cs', hc, ht'⟩ := hi (k / fs.size) (by omega)
      rw [hC] at hc
      obtain ⟨_, hcl, hat⟩ := World.cells?_some hc
      obtain ⟨z, hz, hw⟩ := struct_ints he hone hI hint ht' hcl (k % fs.size) (Nat.mod_lt _ hpos)
      refine ⟨z, ?_, hw⟩
      have h4 := hat (k % fs.size) (Nat.mod_lt _ hpos)
      rw [Go.Deep.add_add, Nat.div_add_mod'] at h4
      rw [h4, hz])
    refine ⟨some a, len, cap, zs, hcs, ?_, hl, hm⟩
    have := ints_opened (k := .i64) (w := w) (x := a) (len := len * fs.size) (cap := len * fs.size) (zs := zs) (Nat.le_refl _) h1 h2 h3
    rwa [List.take_of_length_le (by omega)] at this
end
end Go.Proofs.Ythgliihdaockoaa
