/- The laws of ScrollInto: the walks. Conditions: none. -/
import Derived.Test.YteomjfdoagklkaaDrawInto
import Derived.Test.YteomjfdoagklkaaOpen
namespace Go.Proofs.Yteomjfdoagklkaa
open Go.RowKit
set_option linter.unusedVariables false

theorem clampV_eq {c v a : Int} (hc : 0 ≤ c) (hv : 0 ≤ v) (h : clampV c v a = a) : 0 ≤ a ∧ (a ≤ c - v ∨ a = 0) := by
  unfold clampV at h
  split at h <;> split at h <;> omega
theorem clampV_of {c v a : Int} (h0 : 0 ≤ a) (h1 : a ≤ c - v ∨ a = 0 ∧ c - v < 0) : clampV c v a = a := by
  unfold clampV; repeat' split
  all_goals omega
theorem clampV_pos {c v a : Int} (h : 0 ≤ a) : (clampV c v a = a ∧ a ≤ c - v) ∨ (clampV c v a = c - v ∧ 0 ≤ c - v ∧ c - v < a) ∨ (clampV c v a = 0 ∧ c - v < 0) ∨ (clampV c v a = c - v ∧ c - v = a) := by
  unfold clampV; repeat' split
  all_goals omega
/-- what ScrollInto gives, where it gives a place -/
theorem into_facts {c v a l h : Int} (hn : ¬ intoS c v a l h < 0) :
    intoOk c v a l h ∧ 0 ≤ intoS c v a l h ∧ intoS c v a l h ≤ c ∧
    ((intoS c v a l h = a ∧ a ≤ l ∧ h ≤ a + v) ∨ (intoS c v a l h = h - v ∧ h - v ≤ l ∧ a < h - v) ∨
     ((intoS c v a l h = l ∧ l ≤ c - v ∨ intoS c v a l h = c - v ∧ 0 ≤ c - v ∧ c - v < l ∨ intoS c v a l h = 0 ∧ c - v < 0) ∧ (l < a ∨ a + v < h) ∧ (l < h - v ∨ h - v ≤ a))) := by
  by_cases ok : intoOk c v a l h
  · have hok := ok
    obtain ⟨⟨c0, c1⟩, ⟨v0, v1⟩, ha, l0, l1, l2⟩ := hok
    have hac := clampV_eq c0 v0 ha
    have key : (intoV c v a l h = a ∧ a ≤ l ∧ h ≤ a + v) ∨ (intoV c v a l h = h - v ∧ h - v ≤ l ∧ a < h - v) ∨
     ((intoV c v a l h = l ∧ l ≤ c - v ∨ intoV c v a l h = c - v ∧ 0 ≤ c - v ∧ c - v < l ∨ intoV c v a l h = 0 ∧ c - v < 0) ∧ (l < a ∨ a + v < h) ∧ (l < h - v ∨ h - v ≤ a)) := by
      by_cases g1 : a ≤ l ∧ h ≤ a + v
      · exact .inl ⟨intoV_1 g1.1 g1.2, g1⟩
      · by_cases g2 : h - v ≤ l ∧ a < h - v
        · refine .inr (.inl ⟨?_, g2⟩)
          rw [intoV_2 g1 g2.1 g2.2]
          exact clampV_of (by omega) (by omega)
        · refine .inr (.inr ⟨?_, by omega, by omega⟩)
          rw [intoV_3 g1 g2]
          have := clampV_pos (c := c) (v := v) l0
          omega
    rw [intoS_yes ok]
    exact ⟨ok, by omega, by omega, key⟩
  · rw [intoS_no ok] at hn; omega
theorem intoS_again {c v a l h n : Int} (ok : intoOk c v a l h) (h0 : 0 ≤ n) (h1 : n ≤ c - v ∨ n = 0 ∧ c - v < 0) (h2 : n ≤ l) (h3 : h ≤ n + v) : intoS c v n l h = n := by
  rw [intoS_yes ⟨ok.1, ok.2.1, clampV_of h0 h1, ok.2.2.2⟩, intoV_1 h2 h3]

set_option maxHeartbeats 1000000 in
theorem walk_FnScrollIntoLeast (a0 : Option Addr) (len cap : Nat) (zs : List Int) (w : World) (h0 : Ints .u8 w w.heap.size a0 len zs) (hc : len ≤ cap) :
    Calls Try.prog 8 #[.slice a0 len cap] w fun e w' => e = .returned (.bool true) ∧ Below w.heap.size w w' := by
  by_cases hl : len ≤ 1048576
  · go_enter Try.func8, Try.ntmps8
    go_wp2_with fail
    refine (drawInto_any a0 len cap zs _ h0 hc).mono ?_
    rintro e W ⟨c, v, a, l, h, hx, hy, hz, hu, ho, rfl, hb⟩
    have HB := hide hb
    clear h0 hb
    by_cases hn : intoS c v a l h < 0
    · go_wp2_with (first
        | (go_at_call 18; refine (specInto_any _ _ _ _ _ _).mono ?_; rintro e w' ⟨rfl, rfl⟩)
        | (go_at_call 19; refine (implInto_any _ _ _ _ _ _).mono ?_; rintro e w' ⟨rfl, rfl⟩)
        | (go_at_call 17; refine (implClamp_any _ _ _ _).mono ?_; rintro e w' ⟨rfl, rfl⟩))
      all_goals first | done | (go_ret; exact ⟨by first | rfl | exact ret_bool (by simp; try omega), HB.out⟩)
    · obtain ⟨hok, hn1, hn2, hd⟩ := into_facts hn
      obtain ⟨n, he⟩ : ∃ n, intoS c v a l h = n := ⟨_, rfl⟩
      rw [he] at hn hn1 hn2 hd
      obtain ⟨⟨c0, c1⟩, ⟨v0, v1⟩, ha, l0, l1, l2⟩ := hok
      have hac := clampV_eq c0 v0 ha
      have HA := hide ha
      clear ha
      by_cases g1 : n = a
      · subst g1
        go_wp2_with (first
          | (go_at_call 18; refine (specInto_any _ _ _ _ _ _).mono ?_; rintro e w' ⟨rfl, rfl⟩)
          | (go_at_call 19; refine (implInto_any _ _ _ _ _ _).mono ?_; rintro e w' ⟨rfl, rfl⟩)
          | (go_at_call 17; refine (implClamp_any _ _ _ _).mono ?_; rintro e w' ⟨rfl, rfl⟩))
        all_goals first | done | (go_ret; exact ⟨by first | rfl | exact ret_bool (by simp; try omega), HB.out⟩)
      · have b1 : (n == a) = false := by simpa using g1
        by_cases g2 : v < h - l
        · go_wp2_with (first
            | (go_at_call 18; refine (specInto_any _ _ _ _ _ _).mono ?_; rintro e w' ⟨rfl, rfl⟩)
            | (go_at_call 19; refine (implInto_any _ _ _ _ _ _).mono ?_; rintro e w' ⟨rfl, rfl⟩)
            | (go_at_call 17; refine (implClamp_any _ _ _ _).mono ?_; rintro e w' ⟨rfl, rfl⟩))
          all_goals first | done | (go_ret; exact ⟨by first | rfl | exact ret_bool (by simp; try omega), HB.out⟩)
        · by_cases g3 : n < a
          all_goals
            go_wp2_with (first
              | (go_at_call 18; refine (specInto_any _ _ _ _ _ _).mono ?_; rintro e w' ⟨rfl, rfl⟩)
              | (go_at_call 19; refine (implInto_any _ _ _ _ _ _).mono ?_; rintro e w' ⟨rfl, rfl⟩)
              | (go_at_call 17; refine (implClamp_any _ _ _ _).mono ?_; rintro e w' ⟨rfl, rfl⟩))
            all_goals first | done | (go_ret; exact ⟨by first | rfl | exact ret_bool (by simp; try omega), HB.out⟩)
  · go_enter Try.func8, Try.ntmps8
    go_wp2
    go_ret
    exact ⟨rfl, Below.refl _ _⟩

set_option maxHeartbeats 1000000 in
theorem walk_FnScrollIntoPoint (a0 : Option Addr) (len cap : Nat) (zs : List Int) (w : World) (h0 : Ints .u8 w w.heap.size a0 len zs) (hc : len ≤ cap) :
    Calls Try.prog 9 #[.slice a0 len cap] w fun e w' => e = .returned (.bool true) ∧ Below w.heap.size w w' := by
  by_cases hl : len ≤ 1048576
  · go_enter Try.func9, Try.ntmps9
    go_wp2_with fail
    refine (drawInto_any a0 len cap zs _ h0 hc).mono ?_
    rintro e W ⟨c, v, a, l, h, hx, hy, hz, hu, ho, rfl, hb⟩
    have HB := hide hb
    clear h0 hb
    by_cases hn : intoS c v a l h < 0
    · go_wp2_with (first
        | (go_at_call 18; refine (specInto_any _ _ _ _ _ _).mono ?_; rintro e w' ⟨rfl, rfl⟩)
        | (go_at_call 19; refine (implInto_any _ _ _ _ _ _).mono ?_; rintro e w' ⟨rfl, rfl⟩)
        | (go_at_call 17; refine (implClamp_any _ _ _ _).mono ?_; rintro e w' ⟨rfl, rfl⟩))
      all_goals first | done | (go_ret; exact ⟨by first | rfl | exact ret_bool (by simp; try omega), HB.out⟩)
    · obtain ⟨hok, hn1, hn2, hd⟩ := into_facts hn
      obtain ⟨n, he⟩ : ∃ n, intoS c v a l h = n := ⟨_, rfl⟩
      rw [he] at hn hn1 hn2 hd
      obtain ⟨⟨c0, c1⟩, ⟨v0, v1⟩, ha, l0, l1, l2⟩ := hok
      have hac := clampV_eq c0 v0 ha
      have HA := hide ha
      clear ha
      have h1 : ¬ intoS c v a l l < 0 := by
        rw [intoS_yes ⟨⟨c0, c1⟩, ⟨v0, v1⟩, HA.out, l0, Int.le_refl _, by omega⟩]
        by_cases g1 : a ≤ l ∧ l ≤ a + v
        · rw [intoV_1 g1.1 g1.2]; omega
        · by_cases g2 : l - v ≤ l ∧ a < l - v
          · rw [intoV_2 g1 g2.1 g2.2]; have := clampV_bd c v (l - v) c0 v0; omega
          · rw [intoV_3 g1 g2]; have := clampV_bd c v l c0 v0; omega
      obtain ⟨_, k1, k2, kd⟩ := into_facts h1
      obtain ⟨k, hk⟩ : ∃ k, intoS c v a l l = k := ⟨_, rfl⟩
      rw [hk] at h1 k1 k2 kd
      have g1 : k ≤ l := by omega
      have g2 : l ≤ k + v := by omega
      go_wp2_with (first
        | (go_at_call 18; refine (specInto_any _ _ _ _ _ _).mono ?_; rintro e w' ⟨rfl, rfl⟩)
        | (go_at_call 19; refine (implInto_any _ _ _ _ _ _).mono ?_; rintro e w' ⟨rfl, rfl⟩)
        | (go_at_call 17; refine (implClamp_any _ _ _ _).mono ?_; rintro e w' ⟨rfl, rfl⟩))
      all_goals first | done | (go_ret; exact ⟨by first | rfl | exact ret_bool (by simp; try omega), HB.out⟩)
  · go_enter Try.func9, Try.ntmps9
    go_wp2
    go_ret
    exact ⟨rfl, Below.refl _ _⟩

set_option maxHeartbeats 1000000 in
theorem walk_FnScrollIntoStay (a0 : Option Addr) (len cap : Nat) (zs : List Int) (w : World) (h0 : Ints .u8 w w.heap.size a0 len zs) (hc : len ≤ cap) :
    Calls Try.prog 10 #[.slice a0 len cap] w fun e w' => e = .returned (.bool true) ∧ Below w.heap.size w w' := by
  by_cases hl : len ≤ 1048576
  · go_enter Try.func10, Try.ntmps10
    go_wp2_with fail
    refine (drawInto_any a0 len cap zs _ h0 hc).mono ?_
    rintro e W ⟨c, v, a, l, h, hx, hy, hz, hu, ho, rfl, hb⟩
    have HB := hide hb
    clear h0 hb
    by_cases hn : intoS c v a l h < 0
    · go_wp2_with (first
        | (go_at_call 18; refine (specInto_any _ _ _ _ _ _).mono ?_; rintro e w' ⟨rfl, rfl⟩)
        | (go_at_call 19; refine (implInto_any _ _ _ _ _ _).mono ?_; rintro e w' ⟨rfl, rfl⟩)
        | (go_at_call 17; refine (implClamp_any _ _ _ _).mono ?_; rintro e w' ⟨rfl, rfl⟩))
      all_goals first | done | (go_ret; exact ⟨by first | rfl | exact ret_bool (by simp; try omega), HB.out⟩)
    · obtain ⟨hok, hn1, hn2, hd⟩ := into_facts hn
      obtain ⟨n, he⟩ : ∃ n, intoS c v a l h = n := ⟨_, rfl⟩
      rw [he] at hn hn1 hn2 hd
      obtain ⟨⟨c0, c1⟩, ⟨v0, v1⟩, ha, l0, l1, l2⟩ := hok
      have hac := clampV_eq c0 v0 ha
      have HA := hide ha
      clear ha
      by_cases g2 : v < h - l
      · go_wp2_with (first
          | (go_at_call 18; refine (specInto_any _ _ _ _ _ _).mono ?_; rintro e w' ⟨rfl, rfl⟩)
          | (go_at_call 19; refine (implInto_any _ _ _ _ _ _).mono ?_; rintro e w' ⟨rfl, rfl⟩)
          | (go_at_call 17; refine (implClamp_any _ _ _ _).mono ?_; rintro e w' ⟨rfl, rfl⟩))
        all_goals first | done | (go_ret; exact ⟨by first | rfl | exact ret_bool (by simp; try omega), HB.out⟩)
      · have h3 : intoS c v n l h = n := intoS_again ⟨⟨c0, c1⟩, ⟨v0, v1⟩, HA.out, l0, l1, l2⟩ hn1 (by omega) (by omega) (by omega)
        go_wp2_with (first
          | (go_at_call 18; refine (specInto_any _ _ _ _ _ _).mono ?_; rintro e w' ⟨rfl, rfl⟩)
          | (go_at_call 19; refine (implInto_any _ _ _ _ _ _).mono ?_; rintro e w' ⟨rfl, rfl⟩)
          | (go_at_call 17; refine (implClamp_any _ _ _ _).mono ?_; rintro e w' ⟨rfl, rfl⟩))
        all_goals first | done | (go_ret; exact ⟨by first | rfl | exact ret_bool (by simp; try omega), HB.out⟩)
  · go_enter Try.func10, Try.ntmps10
    go_wp2
    go_ret
    exact ⟨rfl, Below.refl _ _⟩

set_option maxHeartbeats 1000000 in
theorem walk_FnScrollInto (a0 : Option Addr) (len cap : Nat) (zs : List Int) (w : World) (h0 : Ints .u8 w w.heap.size a0 len zs) (hc : len ≤ cap) :
    Calls Try.prog 11 #[.slice a0 len cap] w fun e w' => e = .returned (.bool true) ∧ Below w.heap.size w w' := by
  by_cases hl : len ≤ 1048576
  · go_enter Try.func11, Try.ntmps11
    go_wp2_with fail
    refine (drawInto_any a0 len cap zs _ h0 hc).mono ?_
    rintro e W ⟨c, v, a, l, h, hx, hy, hz, hu, ho, rfl, hb⟩
    have HB := hide hb
    clear h0 hb
    by_cases hn : intoS c v a l h < 0
    · go_wp2_with (first
        | (go_at_call 18; refine (specInto_any _ _ _ _ _ _).mono ?_; rintro e w' ⟨rfl, rfl⟩)
        | (go_at_call 19; refine (implInto_any _ _ _ _ _ _).mono ?_; rintro e w' ⟨rfl, rfl⟩)
        | (go_at_call 17; refine (implClamp_any _ _ _ _).mono ?_; rintro e w' ⟨rfl, rfl⟩))
      all_goals first | done | (go_ret; exact ⟨by first | rfl | exact ret_bool (by simp; try omega), HB.out⟩)
    · obtain ⟨hok, hn1, hn2, hd⟩ := into_facts hn
      obtain ⟨n, he⟩ : ∃ n, intoS c v a l h = n := ⟨_, rfl⟩
      rw [he] at hn hn1 hn2 hd
      obtain ⟨⟨c0, c1⟩, ⟨v0, v1⟩, ha, l0, l1, l2⟩ := hok
      have hac := clampV_eq c0 v0 ha
      have HA := hide ha
      clear ha
      have h3 : clampS c v n = n := by
        unfold clampS
        rw [if_pos (scrollB_iff.2 ⟨⟨c0, c1⟩, ⟨v0, v1⟩, by omega, by omega⟩)]
        exact clampV_of hn1 (by omega)
      have h4 : n ≤ l := by omega
      by_cases g2 : v < h - l
      · go_wp2_with (first
          | (go_at_call 18; refine (specInto_any _ _ _ _ _ _).mono ?_; rintro e w' ⟨rfl, rfl⟩)
          | (go_at_call 19; refine (implInto_any _ _ _ _ _ _).mono ?_; rintro e w' ⟨rfl, rfl⟩)
          | (go_at_call 17; refine (implClamp_any _ _ _ _).mono ?_; rintro e w' ⟨rfl, rfl⟩))
        all_goals first | done | (go_ret; exact ⟨by first | rfl | exact ret_bool (by simp; try omega), HB.out⟩)
      · have h5 : h ≤ n + v := by omega
        go_wp2_with (first
          | (go_at_call 18; refine (specInto_any _ _ _ _ _ _).mono ?_; rintro e w' ⟨rfl, rfl⟩)
          | (go_at_call 19; refine (implInto_any _ _ _ _ _ _).mono ?_; rintro e w' ⟨rfl, rfl⟩)
          | (go_at_call 17; refine (implClamp_any _ _ _ _).mono ?_; rintro e w' ⟨rfl, rfl⟩))
        all_goals first | done | (go_ret; exact ⟨by first | rfl | exact ret_bool (by simp; try omega), HB.out⟩)
  · go_enter Try.func11, Try.ntmps11
    go_wp2
    go_ret
    exact ⟨rfl, Below.refl _ _⟩
end Go.Proofs.Yteomjfdoagklkaa
