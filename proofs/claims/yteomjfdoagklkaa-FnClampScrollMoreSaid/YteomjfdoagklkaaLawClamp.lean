/- The four laws of ClampScroll: the walks. Conditions: none. -/
import Derived.Test.YteomjfdoagklkaaDrawScroll
import Derived.Test.YteomjfdoagklkaaOpen
namespace Go.Proofs.Yteomjfdoagklkaa
open Go.RowKit
set_option linter.unusedVariables false

theorem walk_FnExactClampScroll (a0 a1 a2 : Int) (w : World) (w0 : (Lit.int .i64 a0).wf = true) (w1 : (Lit.int .i64 a1).wf = true) (w2 : (Lit.int .i64 a2).wf = true) :
    Calls Try.prog 3 #[.int .i64 a0, .int .i64 a1, .int .i64 a2] w fun e w' => e = .returned (.bool true) ∧ Below w.heap.size w w' := by
  go_enter Try.func3, Try.ntmps3
  go_wp2_with (first
    | (go_at_call 16; refine (specClamp_any _ _ _ _).mono ?_; rintro e w' ⟨rfl, rfl⟩)
    | (go_at_call 17; refine (implClamp_any _ _ _ _).mono ?_; rintro e w' ⟨rfl, rfl⟩))
  go_ret
  exact ⟨rfl, Below.refl _ _⟩

theorem clampS_pos {c v a : Int} (h : ¬ clampS c v a < 0) : scrollB c v a = true ∧ clampS c v a = clampV c v a := by
  unfold clampS at h ⊢
  split at h <;> simp_all

theorem clamp_cases {c v a : Int} (hc : 0 ≤ c ∧ c ≤ 200000) (hv : 0 ≤ v ∧ v ≤ 200000) (ha : -200000 ≤ a ∧ a ≤ 200000) :
    (clampS c v a = 0 ∧ clampS c v 0 = 0 ∧ (a < 0 ∨ c - v ≤ 0)) ∨ (clampS c v a = a ∧ 0 ≤ a ∧ a ≤ c - v) ∨ (clampS c v a = c - v ∧ clampS c v (c - v) = c - v ∧ 0 ≤ c - v ∧ c - v < a) := by
  have h1 : ∀ x, -200000 ≤ x ∧ x ≤ 200000 → clampS c v x = clampV c v x := fun x hx => by unfold clampS; rw [if_pos (scrollB_iff.2 ⟨hc, hv, hx⟩)]
  rw [h1 a ha, h1 0 (by omega)]
  by_cases h2 : c - v < a ∧ 0 ≤ c - v
  · rw [h1 (c - v) (by omega)]
    exact .inr (.inr ⟨by unfold clampV; repeat' split; all_goals omega, by unfold clampV; repeat' split; all_goals omega, by omega, by omega⟩)
  · by_cases h3 : 0 ≤ a ∧ a ≤ c - v
    · exact .inr (.inl ⟨by unfold clampV; repeat' split; all_goals omega, by omega, by omega⟩)
    · exact .inl ⟨by unfold clampV; repeat' split; all_goals omega, by unfold clampV; repeat' split; all_goals omega, by omega⟩

set_option maxHeartbeats 1000000 in
theorem walk_FnClampScroll (a0 : Option Addr) (len cap : Nat) (zs : List Int) (w : World) (h : Ints .u8 w w.heap.size a0 len zs) (hc : len ≤ cap) :
    Calls Try.prog 5 #[.slice a0 len cap] w fun e w' => e = .returned (.bool true) ∧ Below w.heap.size w w' := by
  by_cases hl : len ≤ 1048576
  · go_enter Try.func5, Try.ntmps5
    go_wp2_with fail
    refine (drawClamp_any a0 len cap zs _ h hc).mono ?_
    rintro e W ⟨c, v, a, hx, hy, hz, rfl, hb⟩
    have H := hide h
    have HB := hide hb
    clear h hb
    by_cases hn : clampS c v a < 0
    · go_wp2_with (first
        | (go_at_call 16; refine (specClamp_any _ _ _ _).mono ?_; rintro e w' ⟨rfl, rfl⟩)
        | (go_at_call 17; refine (implClamp_any _ _ _ _).mono ?_; rintro e w' ⟨rfl, rfl⟩))
      all_goals (go_ret; exact ⟨by first | rfl | exact ret_bool (by simp; try omega), HB.out⟩)
    · obtain ⟨hs, hv⟩ := clampS_pos hn
      obtain ⟨⟨c0, c1⟩, ⟨v0, v1⟩, a0', a1'⟩ := scrollB_iff.1 hs
      clear hs hv hn
      rcases clamp_cases ⟨c0, c1⟩ ⟨v0, v1⟩ ⟨a0', a1'⟩ with ⟨e1, e2, h3⟩ | ⟨e1, h3, h4⟩ | ⟨e1, e2, h3, h4⟩
      · go_wp2_with (first
          | (go_at_call 16; refine (specClamp_any _ _ _ _).mono ?_; rintro e w' ⟨rfl, rfl⟩)
          | (go_at_call 17; refine (implClamp_any _ _ _ _).mono ?_; rintro e w' ⟨rfl, rfl⟩))
        all_goals (go_ret; exact ⟨by first | rfl | exact ret_bool (by simp; try omega), HB.out⟩)
      · go_wp2_with (first
          | (go_at_call 16; refine (specClamp_any _ _ _ _).mono ?_; rintro e w' ⟨rfl, rfl⟩)
          | (go_at_call 17; refine (implClamp_any _ _ _ _).mono ?_; rintro e w' ⟨rfl, rfl⟩))
        all_goals (go_ret; exact ⟨by first | rfl | exact ret_bool (by simp; try omega), HB.out⟩)
      · go_wp2_with (first
          | (go_at_call 16; refine (specClamp_any _ _ _ _).mono ?_; rintro e w' ⟨rfl, rfl⟩)
          | (go_at_call 17; refine (implClamp_any _ _ _ _).mono ?_; rintro e w' ⟨rfl, rfl⟩))
        all_goals (go_ret; exact ⟨by first | rfl | exact ret_bool (by simp; try omega), HB.out⟩)
  · go_enter Try.func5, Try.ntmps5
    go_wp2
    go_ret
    exact ⟨rfl, Below.refl _ _⟩

theorem walk_FnClampScrollEnds (a0 : Option Addr) (len cap : Nat) (zs : List Int) (w : World) (h : Ints .u8 w w.heap.size a0 len zs) (hc : len ≤ cap) :
    Calls Try.prog 6 #[.slice a0 len cap] w fun e w' => e = .returned (.bool true) ∧ Below w.heap.size w w' := by
  by_cases hl : len ≤ 1048576
  · go_enter Try.func6, Try.ntmps6
    go_wp2_with fail
    refine (drawClamp_any a0 len cap zs _ h hc).mono ?_
    rintro e W ⟨c, v, a, hx, hy, hz, rfl, hb⟩
    have H := hide h
    have HB := hide hb
    clear h hb
    by_cases hn : clampS c v a < 0
    · go_wp2_with (first
        | (go_at_call 16; refine (specClamp_any _ _ _ _).mono ?_; rintro e w' ⟨rfl, rfl⟩)
        | (go_at_call 17; refine (implClamp_any _ _ _ _).mono ?_; rintro e w' ⟨rfl, rfl⟩))
      all_goals (go_ret; exact ⟨by first | rfl | exact ret_bool (by simp; try omega), HB.out⟩)
    · obtain ⟨hs, hv⟩ := clampS_pos hn
      obtain ⟨⟨c0, c1⟩, ⟨v0, v1⟩, a0', a1'⟩ := scrollB_iff.1 hs
      clear hs hv hn
      have e3 : clampS c v (-200000) = 0 := by
        have := clamp_cases (a := -200000) ⟨c0, c1⟩ ⟨v0, v1⟩ (by omega)
        omega
      by_cases h5 : c - v ≤ 0
      · have e4 : clampS c v 200000 = 0 := by
          have := clamp_cases (a := 200000) ⟨c0, c1⟩ ⟨v0, v1⟩ (by omega)
          omega
        have hn' : 0 ≤ clampS c v a := by
          have := clamp_cases (a := a) ⟨c0, c1⟩ ⟨v0, v1⟩ (by omega)
          omega
        go_wp2_with (first
          | (go_at_call 16; refine (specClamp_any _ _ _ _).mono ?_; rintro e w' ⟨rfl, rfl⟩)
          | (go_at_call 17; refine (implClamp_any _ _ _ _).mono ?_; rintro e w' ⟨rfl, rfl⟩))
        all_goals (go_ret; exact ⟨by first | rfl | exact ret_bool (by simp; try omega), HB.out⟩)
      · have e4 : clampS c v 200000 = c - v := by
          have := clamp_cases (a := 200000) ⟨c0, c1⟩ ⟨v0, v1⟩ (by omega)
          omega
        have hn' : 0 ≤ clampS c v a := by
          have := clamp_cases (a := a) ⟨c0, c1⟩ ⟨v0, v1⟩ (by omega)
          omega
        go_wp2_with (first
          | (go_at_call 16; refine (specClamp_any _ _ _ _).mono ?_; rintro e w' ⟨rfl, rfl⟩)
          | (go_at_call 17; refine (implClamp_any _ _ _ _).mono ?_; rintro e w' ⟨rfl, rfl⟩))
        all_goals (go_ret; exact ⟨by first | rfl | exact ret_bool (by simp; try omega), HB.out⟩)
  · go_enter Try.func6, Try.ntmps6
    go_wp2
    go_ret
    exact ⟨rfl, Below.refl _ _⟩

set_option maxRecDepth 100000 in
set_option maxHeartbeats 1000000 in
theorem walk_FnClampScrollMore (a0 : Option Addr) (len cap : Nat) (zs : List Int) (w : World) (h : Ints .u8 w w.heap.size a0 len zs) (hc : len ≤ cap) :
    Calls Try.prog 7 #[.slice a0 len cap] w fun e w' => e = .returned (.bool true) ∧ Below w.heap.size w w' := by
  by_cases hl : len ≤ 1048576
  · go_enter Try.func7, Try.ntmps7
    go_wp2_with fail
    refine (drawClamp_any a0 len cap zs _ h hc).mono ?_
    rintro e W ⟨c, v, a, hx, hy, hz, rfl, hb⟩
    have H := hide h
    have HB := hide hb
    clear h hb
    by_cases hn : clampS c v a < 0
    · go_wp2_with (first
        | (go_at_call 16; refine (specClamp_any _ _ _ _).mono ?_; rintro e w' ⟨rfl, rfl⟩)
        | (go_at_call 17; refine (implClamp_any _ _ _ _).mono ?_; rintro e w' ⟨rfl, rfl⟩))
      all_goals (go_ret; exact ⟨by first | rfl | exact ret_bool (by simp; try omega), HB.out⟩)
    · obtain ⟨hs, hv⟩ := clampS_pos hn
      obtain ⟨⟨c0, c1⟩, ⟨v0, v1⟩, a0', a1'⟩ := scrollB_iff.1 hs
      clear hs hv hn
      have hn' : 0 ≤ clampS c v a ∧ clampS c v a ≤ 200000 := by
        have := clamp_cases (a := a) ⟨c0, c1⟩ ⟨v0, v1⟩ (by omega)
        omega
      have e3 : clampS c 0 0 = 0 := by
        have := clamp_cases (c := c) (v := 0) (a := 0) ⟨c0, c1⟩ (by omega) (by omega)
        omega
      by_cases h6 : a = 200000
      · subst h6
        go_wp2_with (first
          | (go_at_call 16; refine (specClamp_any _ _ _ _).mono ?_; rintro e w' ⟨rfl, rfl⟩)
          | (go_at_call 17; refine (implClamp_any _ _ _ _).mono ?_; rintro e w' ⟨rfl, rfl⟩))
        all_goals (go_ret; exact ⟨by first | rfl | exact ret_bool (by simp; try omega), HB.out⟩)
      · have e4 : clampS c v (a + 1) = clampS c v a ∨ clampS c v (a + 1) = clampS c v a + 1 := by
          have := clamp_cases (a := a) ⟨c0, c1⟩ ⟨v0, v1⟩ (by omega)
          have := clamp_cases (a := a + 1) ⟨c0, c1⟩ ⟨v0, v1⟩ (by omega)
          omega
        obtain ⟨m, hm⟩ : ∃ m, clampS c v a = m := ⟨_, rfl⟩
        rw [hm] at hn' e4
        obtain ⟨hn1, hn2⟩ := hn'
        have hb6 : (a == 200000) = false := by simp; omega
        have hb7 : (m + 1 == m) = false := by simp; omega
        rcases e4 with e4 | e4
        all_goals
          go_wp2_with (first
            | (go_at_call 16; refine (specClamp_any _ _ _ _).mono ?_; rintro e w' ⟨rfl, rfl⟩)
            | (go_at_call 17; refine (implClamp_any _ _ _ _).mono ?_; rintro e w' ⟨rfl, rfl⟩))
          all_goals (go_ret; exact ⟨by first | rfl | exact ret_bool (by simp; try omega), HB.out⟩)
  · go_enter Try.func7, Try.ntmps7
    go_wp2
    go_ret
    exact ⟨rfl, Below.refl _ _⟩
end Go.Proofs.Yteomjfdoagklkaa
