/- Regions that draw their order: how to take one operation first, or to pass one by. Conditions: none. -/
import Derived.Test.YthgliihdaockoaaTreeD
import Derived.Deep.RegionHeld3
namespace Go.Proofs.Ythgliihdaockoaa
open Go.RowKit
set_option linter.unusedVariables false
section
variable {P : Program} {ops : Array Oper} {Q : Exit → Act → World → Prop} {md : Region.Mode} {S : World → Prop}
theorem startH {n id : Nat} {a : Act} {w : World} (hn : ops.size = n) (hm : P.follows .mixedOrders = true) (hS : S w.drew)
    (h : S w.drew → wpAnyH P .any ops Q S n (Array.replicate n false) a w.drew) : (Code.region id ops true).wp P Q a w := by
  subst hn
  exact wp_region_held_drew hm hS h
theorem takeH (i d : Nat) (v : Value) {fuel : Nat} {listed : Array Bool} {a : Act} {w : World} (hd : (ops[i]?).bind (·.dst) = some d)
    (hs : Region.noSelect ops = true) (hf : Region.free md ops listed i = true) (hr : (Region.ready md ops listed).contains i = true)
    (hQ : ∀ c a w, Q (.panic c) (a.put (some d) v) w → Q (.panic c) a w) (hS : S w)
    (hw : (ops[i]?).map (fun o => Region.wanted o (yielded ops a.tmps)) = some true)
    (hy : ∀ w, S w → (ops[i]?).map (fun o => (execOp a.eval o).run P w) = some (.ok (.value v) w))
    (h : wpAnyH P md ops Q S fuel (listed.setIfInBounds i true) ⟨a.tmps.setIfInBounds d v, a.defers⟩ w) : wpAnyH P md ops Q S (fuel + 1) listed a w := by
  cases ho : ops[i]? with
  | none => rw [ho] at hd; cases hd
  | some o =>
    rw [ho] at hd hw hy
    have hd' : o.dst = some d := hd
    simp only [Option.map_some, Option.some.injEq] at hw hy
    refine wpAnyH_take (i := i) (oi := o) (v := v) ho hs hf hr (by rw [hd']; exact hQ) (Or.inl ⟨hw, hy⟩) hS ?_
    rw [hd']
    exact h
theorem skipH (i d : Nat) {fuel : Nat} {listed : Array Bool} {a : Act} {w : World} (hd : (ops[i]?).bind (·.dst) = some d)
    (hs : Region.noSelect ops = true) (hf : Region.free md ops listed i = true) (hr : (Region.ready md ops listed).contains i = true)
    (hQ : ∀ c a w, Q (.panic c) (a.put (some d) undef) w → Q (.panic c) a w) (hS : S w)
    (hw : (ops[i]?).map (fun o => Region.wanted o (yielded ops a.tmps)) = some false)
    (h : wpAnyH P md ops Q S fuel (listed.setIfInBounds i true) ⟨a.tmps.setIfInBounds d undef, a.defers⟩ w) : wpAnyH P md ops Q S (fuel + 1) listed a w := by
  cases ho : ops[i]? with
  | none => rw [ho] at hd; cases hd
  | some o =>
    rw [ho] at hd hw
    have hd' : o.dst = some d := hd
    simp only [Option.map_some, Option.some.injEq] at hw
    refine wpAnyH_take (i := i) (oi := o) (v := undef) ho hs hf hr (by rw [hd']; exact hQ) (Or.inr ⟨hw, rfl⟩) hS ?_
    rw [hd']
    exact h
end
end Go.Proofs.Ythgliihdaockoaa
