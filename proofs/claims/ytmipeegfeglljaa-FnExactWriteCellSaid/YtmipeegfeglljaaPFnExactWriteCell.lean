/- The law FnExactWriteCell holds at all inputs: the row's proof out of the walk. Conditions: none. -/
import Derived.Test.YtmipeegfeglljaaLawBufQ
import Derived.WalkKit
import Derived.ProofKit
import Derived.OpenShut
import Derived.ShutString
import Derived.ChangeOld
import Derived.Below
import Derived.Deep.Slices
import Derived.Deep.Fields
import Derived.ChangeSame
import Derived.Lib.SmallJoins
namespace Go.Proofs.Ytmipeegfeglljaa.fnExactWriteCell
open Go.ChangeShapes Go.WideShapes Go.ChangeAt Go.RowKit
set_option linter.unusedVariables false
theorem own : ownKnob Try.prog.godebug = none := by kernel_rfl
theorem laidOut : laidOutB Try.prog = true := by kernel_rfl
set_option maxRecDepth 100000 in
theorem lifted (os : Os) (started : os.Started) (H : Type) (enc : TypeId × Value → H) :
    ReturnsInHanded {} Try.checked os 4 .any (Rows.fnExactWriteCellSpec.pre6 enc Try.prog Try.f4 Rows.fnExactWriteCellRow.domain false) (Rows.fnExactWriteCellSpec.post enc Try.prog Try.f4 false true false false) := by
  refine returnsInHanded_of_change (C := Try.checked) own started (by kernel_rfl) Try.func4
    (ChangeSpec.witness6 (enc := enc) (C := Try.checked) false ⟨#[], #[.agg #[.slice none 0 0, .slice none 0 0, .int .i64 0], .int .i64 0, .int .i64 0], []⟩ 8 (by kernel_rfl) (by kernel_rfl) (by kernel_rfl) (by kernel_rfl)) ?_
  intro W base args ds gs before hval0 hW hcnd _
  have hval : ∀ (j : Nat) t v, Try.f4.params[j]? = some t → args[j]? = some v → Value.okWide Try.prog W .any base t v := hval0
  have hW' := hW
  obtain ⟨p, q, hA0, hV, rfl, hfz, hnd⟩ := hW
  have hA : DataW.TrodAll enc Try.prog W 0 (fun _ => true) true Try.f4.params.toList args.toList ds p := hA0
  rw [Try.params4] at hA hval
  obtain ⟨v0, vs0, d0, ds0, p0, q0, hargs, rfl, rfl, h0, r0⟩ := trodAll_cons hA
  obtain ⟨v1, vs1, d1, ds1, p1, q1, rfl, rfl, rfl, h1, r1⟩ := trodAll_cons r0
  obtain ⟨v2, vs2, d2, ds2, p2, q2, rfl, rfl, rfl, h2, r2⟩ := trodAll_cons r1
  obtain ⟨rfl, rfl, rfl⟩ := trodAll_nil r2
  obtain rfl : args = #[v0, v1, v2] := by cases args; simp_all
  obtain ⟨rfl, rfl⟩ := trodVars_none hV
  have k0 := h0
  have lt0 : ∀ x ∈ p0, x.block < W.heap.size := by obtain ⟨m, hm⟩ := k0; exact DataW.trod_lt m _ _ _ hm
  obtain ⟨e0a, e0b, e0v, ya0, yb0, yv0, fu0, rfl, hd0, hp0, hya0, hyb0, hyv0⟩ := Go.Joins.open_agg3 Try.underlying32 (by kernel_rfl) (show Try.prog.cellsOf 32 = 3 by kernel_rfl) (hval 0 32 v0 rfl rfl) h0
  obtain ⟨A0a, n0a, c0a, z0a, rfl, w0a, hc0a, hm0a⟩ : ∃ a l c zs, e0a = .slice a l c ∧ Ints .i64 W W.heap.size a l zs ∧ l ≤ c ∧ c ≤ maxLen := by
    rcases open_ints Try.underlying23 Try.underlying3 (by kernel_rfl) hya0 with ⟨hcs, _⟩ | ⟨x, l, c, zs, hcs, _, hl, hm, hz, _, hcell, hwz⟩
    · simp at hcs
      exact ⟨_, _, _, [], hcs, ints_nil _ _ _, Nat.le_refl _, Nat.zero_le _⟩
    · simp at hcs
      exact ⟨_, _, _, zs.take l, hcs, ints_opened hl (by simpa using hz) hcell hwz, hl, hm⟩
  obtain ⟨A0b, n0b, c0b, z0b, rfl, w0b, hc0b, hm0b⟩ : ∃ a l c zs, e0b = .slice a l c ∧ Ints .i64 W W.heap.size a l zs ∧ l ≤ c ∧ c ≤ maxLen := by
    rcases open_ints Try.underlying23 Try.underlying3 (by kernel_rfl) hyb0 with ⟨hcs, _⟩ | ⟨x, l, c, zs, hcs, _, hl, hm, hz, _, hcell, hwz⟩
    · simp at hcs
      exact ⟨_, _, _, [], hcs, ints_nil _ _ _, Nat.le_refl _, Nat.zero_le _⟩
    · simp at hcs
      exact ⟨_, _, _, zs.take l, hcs, ints_opened hl (by simpa using hz) hcell hwz, hl, hm⟩
  obtain ⟨V0, hcs0, _, wv0⟩ := DataW.trod_int Try.underlying3 hyv0
  simp at hcs0
  subst hcs0
  obtain ⟨a1, rfl, rfl, rfl, w1⟩ := open_int Try.underlying3 (hval 1 3 v1 rfl rfl) h1
  obtain ⟨a2, rfl, rfl, rfl, w2⟩ := open_int Try.underlying3 (hval 2 3 v2 rfl rfl) h2
  clear hA0 hval0
  refine (walk_FnExactWriteCell A0a n0a c0a A0b n0b c0b z0a z0b V0 a1 a2 W w0a hc0a hm0a w0b hc0b hm0b w1 w2).mono fun e W' ⟨he, bel⟩ => ?_
  subst he
  exact ⟨_, rfl, _, _, _, [], _, [], hW', trodAll_mk1 (shut_bool Try.underlying4 _), (trodAll_cons_mk (Below.trod laidOut (by kernel_rfl) (of_decide_eq_true (by kernel_rfl)) k0 bel lt0) (trodAll_cons_mk (shut_int Try.underlying3 w1) (trodAll_cons_mk (shut_int Try.underlying3 w2) trodAll_mk0))), rfl, bel.frame _, fun h => by cases h⟩
theorem over : Rows.fnExactWriteCellRow.holds Try.pinned (OpenSpec.ofChange Rows.fnExactWriteCellSpec) :=
  OpenClaim.holds_of_wide 4 Try.f4 rfl rfl rfl rfl rfl rfl rfl ⟨rfl, rfl, rfl, rfl, rfl⟩ rfl rfl rfl rfl rfl (by as_aux_lemma => kernel_rfl) Try.func4 (by as_aux_lemma => kernel_rfl)
    (of_decide_eq_true (by as_aux_lemma => kernel_rfl)) (by unfold Func.isWrapper; first | (rw [if_pos (by decide +kernel)]; kernel_rfl) | (rw [if_neg (by decide +kernel)]; exact ⟨rfl, rfl⟩))
    (fun os started H enc _ => lifted os started H enc)
theorem proved : Rows.FnExactWriteCellSaid := over
#print axioms proved
end Go.Proofs.Ytmipeegfeglljaa.fnExactWriteCell
