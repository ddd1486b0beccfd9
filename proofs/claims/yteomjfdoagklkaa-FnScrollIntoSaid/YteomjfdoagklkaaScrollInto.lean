/- ScrollInto, the program's and the reference's: what they compute, at all arguments. Conditions: none. -/
import Derived.Test.YteomjfdoagklkaaScroll
namespace Go.Proofs.Yteomjfdoagklkaa
open Go.RowKit
set_option linter.unusedVariables false

def intoOk (c v a l h : Int) : Prop := (0 ≤ c ∧ c ≤ 200000) ∧ (0 ≤ v ∧ v ≤ 200000) ∧ clampV c v a = a ∧ 0 ≤ l ∧ l ≤ h ∧ h ≤ c
instance (c v a l h : Int) : Decidable (intoOk c v a l h) := by unfold intoOk; infer_instance
def intoV (c v a l h : Int) : Int := if a ≤ l ∧ h ≤ a + v then a else if h - v ≤ l ∧ a < h - v then clampV c v (h - v) else clampV c v l
def intoS (c v a l h : Int) : Int := if intoOk c v a l h then intoV c v a l h else -1
theorem intoS_no {c v a l h : Int} (hh : ¬ intoOk c v a l h) : intoS c v a l h = -1 := if_neg hh
theorem intoS_yes {c v a l h : Int} (hh : intoOk c v a l h) : intoS c v a l h = intoV c v a l h := if_pos hh
theorem intoV_1 {c v a l h : Int} (h1 : a ≤ l) (h2 : h ≤ a + v) : intoV c v a l h = a := if_pos ⟨h1, h2⟩
theorem intoV_2 {c v a l h : Int} (h1 : ¬ (a ≤ l ∧ h ≤ a + v)) (h2 : h - v ≤ l) (h3 : a < h - v) : intoV c v a l h = clampV c v (h - v) := by
  unfold intoV; rw [if_neg h1, if_pos ⟨h2, h3⟩]
theorem intoV_3 {c v a l h : Int} (h1 : ¬ (a ≤ l ∧ h ≤ a + v)) (h2 : ¬ (h - v ≤ l ∧ a < h - v)) : intoV c v a l h = clampV c v l := by
  unfold intoV; rw [if_neg h1, if_neg h2]
theorem clampV_bd (c v a : Int) (hc : 0 ≤ c) (hv : 0 ≤ v) : 0 ≤ clampV c v a ∧ clampV c v a ≤ c := by
  unfold clampV; repeat' split
  all_goals omega
theorem not_scrollB {c v a : Int} (h : scrollB c v a = false) : ¬ ((0 ≤ c ∧ c ≤ 200000) ∧ (0 ≤ v ∧ v ≤ 200000) ∧ -200000 ≤ a ∧ a ≤ 200000) := by
  intro hh; rw [scrollB_iff.2 hh] at h; cases h
theorem not_viewB {c v : Int} (h : viewB c v = false) : ¬ ((0 ≤ c ∧ c ≤ 200000) ∧ (0 ≤ v ∧ v ≤ 200000)) := by
  intro hh; rw [viewB_iff.2 hh] at h; cases h

theorem implInto_any (c v a l h : Int) (w : World) :
    Calls Try.prog 19 #[.int .i64 c, .int .i64 v, .int .i64 a, .int .i64 l, .int .i64 h] w fun e w' => e = .returned (.int .i64 (intoS c v a l h)) ∧ w = w' := by
  cases hs : scrollB c v a
  · have H := hide (intoS_no (l := l) (h := h) (fun hh : intoOk c v a l h => not_scrollB hs (by have := clampV_bd c v a hh.1.1 hh.2.1.1; have := hh.2.2.1; exact ⟨hh.1, hh.2.1, by have := hh.1.2; omega⟩)))
    go_enter Try.func19, Try.ntmps19
    go_wp2_with (go_at_call 35; refine (scrollOk_any _ _ _ _).mono ?_; rintro e w' ⟨rfl, rfl⟩)
    go_ret
    exact ⟨ret_int H.out.symm, rfl⟩
  · obtain ⟨⟨c0, c1⟩, ⟨v0, v1⟩, ⟨a0, a1⟩⟩ := scrollB_iff.1 hs
    by_cases hca : clampV c v a = a
    · cases hl : inR l 0 h
      · have H := hide (intoS_no (fun hh : intoOk c v a l h => inR_not.1 hl ⟨hh.2.2.2.1, hh.2.2.2.2.1⟩))
        go_enter Try.func19, Try.ntmps19
        go_wp2_with (first
          | (go_at_call 35; refine (scrollOk_any _ _ _ _).mono ?_; rintro e w' ⟨rfl, rfl⟩)
          | (go_at_call 36; refine (clamped_any _ _ _ _ (by omega) (by omega) (by omega)).mono ?_; rintro e w' ⟨rfl, rfl⟩)
          | (go_at_call 37; refine (within_any _ _ _ _).mono ?_; rintro e w' ⟨rfl, rfl⟩))
        go_ret
        exact ⟨ret_int H.out.symm, rfl⟩
      · obtain ⟨l0, l1⟩ := inR_iff.1 hl
        by_cases hhc : h ≤ c
        · have hOk := hide (show intoOk c v a l h from ⟨⟨c0, c1⟩, ⟨v0, v1⟩, hca, l0, l1, hhc⟩)
          by_cases g1 : a ≤ l ∧ h ≤ a + v
          · obtain ⟨g1, g2⟩ := g1
            have H := hide ((intoS_yes hOk.out).trans (intoV_1 g1 g2))
            go_enter Try.func19, Try.ntmps19
            go_wp2_with (first
              | (go_at_call 35; refine (scrollOk_any _ _ _ _).mono ?_; rintro e w' ⟨rfl, rfl⟩)
              | (go_at_call 36; refine (clamped_any _ _ _ _ (by omega) (by omega) (by omega)).mono ?_; rintro e w' ⟨rfl, rfl⟩)
              | (go_at_call 37; refine (within_any _ _ _ _).mono ?_; rintro e w' ⟨rfl, rfl⟩))
            go_ret
            exact ⟨ret_int H.out.symm, rfl⟩
          · by_cases g2 : h - v ≤ l ∧ a < h - v
            · obtain ⟨g2, g3⟩ := g2
              have H := hide ((intoS_yes hOk.out).trans (intoV_2 g1 g2 g3))
              clear g1
              by_cases g1 : a ≤ l
              all_goals
                go_enter Try.func19, Try.ntmps19
                go_wp2_with (first
                  | (go_at_call 35; refine (scrollOk_any _ _ _ _).mono ?_; rintro e w' ⟨rfl, rfl⟩)
                  | (go_at_call 36; refine (clamped_any _ _ _ _ (by omega) (by omega) (by omega)).mono ?_; rintro e w' ⟨rfl, rfl⟩)
                  | (go_at_call 37; refine (within_any _ _ _ _).mono ?_; rintro e w' ⟨rfl, rfl⟩))
                first | done | (go_ret; exact ⟨ret_int H.out.symm, rfl⟩)
            · have H := hide ((intoS_yes hOk.out).trans (intoV_3 g1 g2))
              by_cases g3 : a ≤ l <;> by_cases g4 : h - v ≤ l
              all_goals
                have g5 : ¬ (a ≤ l ∧ h ≤ a + v) := g1
                go_enter Try.func19, Try.ntmps19
                go_wp2_with (first
                  | (go_at_call 35; refine (scrollOk_any _ _ _ _).mono ?_; rintro e w' ⟨rfl, rfl⟩)
                  | (go_at_call 36; refine (clamped_any _ _ _ _ (by omega) (by omega) (by omega)).mono ?_; rintro e w' ⟨rfl, rfl⟩)
                  | (go_at_call 37; refine (within_any _ _ _ _).mono ?_; rintro e w' ⟨rfl, rfl⟩))
                first | done | (go_ret; exact ⟨ret_int H.out.symm, rfl⟩)
        · have H := hide (intoS_no (fun hh : intoOk c v a l h => hhc hh.2.2.2.2.2))
          go_enter Try.func19, Try.ntmps19
          go_wp2_with (first
            | (go_at_call 35; refine (scrollOk_any _ _ _ _).mono ?_; rintro e w' ⟨rfl, rfl⟩)
            | (go_at_call 36; refine (clamped_any _ _ _ _ (by omega) (by omega) (by omega)).mono ?_; rintro e w' ⟨rfl, rfl⟩)
            | (go_at_call 37; refine (within_any _ _ _ _).mono ?_; rintro e w' ⟨rfl, rfl⟩))
          go_ret
          exact ⟨ret_int H.out.symm, rfl⟩
    · have H := hide (intoS_no (fun hh : intoOk c v a l h => hca hh.2.2.1))
      have b1 : (clampV c v a == a) = false := by simpa using hca
      have b2 : (clampV c v a != a) = true := by simpa using hca
      go_enter Try.func19, Try.ntmps19
      go_wp2_with (first
        | (go_at_call 35; refine (scrollOk_any _ _ _ _).mono ?_; rintro e w' ⟨rfl, rfl⟩)
        | (go_at_call 36; refine (clamped_any _ _ _ _ (by omega) (by omega) (by omega)).mono ?_; rintro e w' ⟨rfl, rfl⟩))
      go_ret
      exact ⟨ret_int H.out.symm, rfl⟩

theorem specInto_any (c v a l h : Int) (w : World) :
    Calls Try.prog 18 #[.int .i64 c, .int .i64 v, .int .i64 a, .int .i64 l, .int .i64 h] w fun e w' => e = .returned (.int .i64 (intoS c v a l h)) ∧ w = w' := by
  cases hs : viewB c v
  · have H := hide (intoS_no (l := l) (h := h) (fun hh : intoOk c v a l h => not_viewB hs ⟨hh.1, hh.2.1⟩))
    go_enter Try.func18, Try.ntmps18
    go_wp2_with (first
      | (go_at_call 32; refine (validView_any _ _ _).mono ?_; rintro e w' ⟨rfl, rfl⟩)
      | (go_at_call 34; refine (specClampIn_any _ _ _ _ (by omega) (by omega)).mono ?_; rintro e w' ⟨rfl, rfl⟩)
      | (go_at_call 33; refine (inRange_any _ _ _ _).mono ?_; rintro e w' ⟨rfl, rfl⟩))
    first | done | (go_ret; exact ⟨ret_int H.out.symm, rfl⟩)
  · obtain ⟨⟨c0, c1⟩, ⟨v0, v1⟩⟩ := viewB_iff.1 hs
    by_cases hca : clampV c v a = a
    · obtain ⟨a0, a1⟩ : 0 ≤ a ∧ a ≤ c := by have := clampV_bd c v a c0 v0; omega
      cases hl : inR l 0 c
      · have H := hide (intoS_no (fun hh : intoOk c v a l h => inR_not.1 hl ⟨hh.2.2.2.1, Int.le_trans hh.2.2.2.2.1 hh.2.2.2.2.2⟩))
        go_enter Try.func18, Try.ntmps18
        go_wp2_with (first
          | (go_at_call 32; refine (validView_any _ _ _).mono ?_; rintro e w' ⟨rfl, rfl⟩)
          | (go_at_call 34; refine (specClampIn_any _ _ _ _ (by omega) (by omega)).mono ?_; rintro e w' ⟨rfl, rfl⟩)
          | (go_at_call 33; refine (inRange_any _ _ _ _).mono ?_; rintro e w' ⟨rfl, rfl⟩))
        first | done | (go_ret; exact ⟨ret_int H.out.symm, rfl⟩)
      · obtain ⟨l0, l1⟩ := inR_iff.1 hl
        cases hhc : inR h l c
        · have H := hide (intoS_no (fun hh : intoOk c v a l h => inR_not.1 hhc ⟨hh.2.2.2.2.1, hh.2.2.2.2.2⟩))
          go_enter Try.func18, Try.ntmps18
          go_wp2_with (first
            | (go_at_call 32; refine (validView_any _ _ _).mono ?_; rintro e w' ⟨rfl, rfl⟩)
            | (go_at_call 34; refine (specClampIn_any _ _ _ _ (by omega) (by omega)).mono ?_; rintro e w' ⟨rfl, rfl⟩)
            | (go_at_call 33; refine (inRange_any _ _ _ _).mono ?_; rintro e w' ⟨rfl, rfl⟩))
          first | done | (go_ret; exact ⟨ret_int H.out.symm, rfl⟩)
        · obtain ⟨h0, h1⟩ := inR_iff.1 hhc
          have hOk := hide (show intoOk c v a l h from ⟨⟨c0, c1⟩, ⟨v0, v1⟩, hca, l0, h0, h1⟩)
          by_cases g1 : a ≤ l ∧ h ≤ a + v
          · obtain ⟨g1, g2⟩ := g1
            have H := hide ((intoS_yes hOk.out).trans (intoV_1 g1 g2))
            go_enter Try.func18, Try.ntmps18
            go_wp2_with (first
              | (go_at_call 32; refine (validView_any _ _ _).mono ?_; rintro e w' ⟨rfl, rfl⟩)
              | (go_at_call 34; refine (specClampIn_any _ _ _ _ (by omega) (by omega)).mono ?_; rintro e w' ⟨rfl, rfl⟩)
              | (go_at_call 33; refine (inRange_any _ _ _ _).mono ?_; rintro e w' ⟨rfl, rfl⟩))
            first | done | (go_ret; exact ⟨ret_int H.out.symm, rfl⟩)
          · by_cases g2 : h - v ≤ l ∧ a < h - v
            · obtain ⟨g2, g3⟩ := g2
              have H := hide ((intoS_yes hOk.out).trans (intoV_2 g1 g2 g3))
              clear g1
              by_cases g1 : a ≤ l
              all_goals
                go_enter Try.func18, Try.ntmps18
                go_wp2_with (first
                  | (go_at_call 32; refine (validView_any _ _ _).mono ?_; rintro e w' ⟨rfl, rfl⟩)
                  | (go_at_call 34; refine (specClampIn_any _ _ _ _ (by omega) (by omega)).mono ?_; rintro e w' ⟨rfl, rfl⟩)
                  | (go_at_call 33; refine (inRange_any _ _ _ _).mono ?_; rintro e w' ⟨rfl, rfl⟩))
                first | done | (go_ret; exact ⟨ret_int H.out.symm, rfl⟩)
            · have H := hide ((intoS_yes hOk.out).trans (intoV_3 g1 g2))
              by_cases g3 : a ≤ l <;> by_cases g4 : a < h - v
              all_goals
                have g5 : ¬ (a ≤ l ∧ h ≤ a + v) := g1
                go_enter Try.func18, Try.ntmps18
                go_wp2_with (first
                  | (go_at_call 32; refine (validView_any _ _ _).mono ?_; rintro e w' ⟨rfl, rfl⟩)
                  | (go_at_call 34; refine (specClampIn_any _ _ _ _ (by omega) (by omega)).mono ?_; rintro e w' ⟨rfl, rfl⟩)
                  | (go_at_call 33; refine (inRange_any _ _ _ _).mono ?_; rintro e w' ⟨rfl, rfl⟩))
                first | done | (go_ret; exact ⟨ret_int H.out.symm, rfl⟩)
    · have H := hide (intoS_no (fun hh : intoOk c v a l h => hca hh.2.2.1))
      have b1 : (clampV c v a == a) = false := by simpa using hca
      have b2 : (clampV c v a != a) = true := by simpa using hca
      go_enter Try.func18, Try.ntmps18
      go_wp2_with (first
        | (go_at_call 32; refine (validView_any _ _ _).mono ?_; rintro e w' ⟨rfl, rfl⟩)
        | (go_at_call 34; refine (specClampIn_any _ _ _ _ (by omega) (by omega)).mono ?_; rintro e w' ⟨rfl, rfl⟩)
        | (go_at_call 33; refine (inRange_any _ _ _ _).mono ?_; rintro e w' ⟨rfl, rfl⟩))
      first | done | (go_ret; exact ⟨ret_int H.out.symm, rfl⟩)

theorem walk_FnExactScrollInto (a0 a1 a2 a3 a4 : Int) (w : World) (w0 : (Lit.int .i64 a0).wf = true) (w1 : (Lit.int .i64 a1).wf = true) (w2 : (Lit.int .i64 a2).wf = true) (w3 : (Lit.int .i64 a3).wf = true) (w4 : (Lit.int .i64 a4).wf = true) :
    Calls Try.prog 4 #[.int .i64 a0, .int .i64 a1, .int .i64 a2, .int .i64 a3, .int .i64 a4] w fun e w' => e = .returned (.bool true) ∧ Below w.heap.size w w' := by
  go_enter Try.func4, Try.ntmps4
  go_wp2_with (first
    | (go_at_call 18; refine (specInto_any _ _ _ _ _ _).mono ?_; rintro e w' ⟨rfl, rfl⟩)
    | (go_at_call 19; refine (implInto_any _ _ _ _ _ _).mono ?_; rintro e w' ⟨rfl, rfl⟩))
  go_ret
  exact ⟨rfl, Below.refl _ _⟩
end Go.Proofs.Yteomjfdoagklkaa
