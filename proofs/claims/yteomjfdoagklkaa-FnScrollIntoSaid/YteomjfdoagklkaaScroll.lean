/- ClampScroll and ScrollInto, the program's and the reference's: what they compute, at all arguments. Conditions: none. -/
import Derived.Test.YteomjfdoagklkaaCore
namespace Go.Proofs.Yteomjfdoagklkaa
open Go.RowKit

/-- the nearest place of a view -/
def clampV (c v a : Int) : Int := if a < c - v then (if a < 0 then 0 else a) else (if c - v < 0 then 0 else c - v)
def scrollB (c v a : Int) : Bool := inR c 0 200000 && (inR v 0 200000 && inR a (-200000) 200000)
theorem scrollB_iff {c v a : Int} : scrollB c v a = true ↔ (0 ≤ c ∧ c ≤ 200000) ∧ (0 ≤ v ∧ v ≤ 200000) ∧ -200000 ≤ a ∧ a ≤ 200000 := by simp [scrollB, inR]
def clampS (c v a : Int) : Int := if scrollB c v a = true then clampV c v a else -1

theorem scrollOk_any (c v a : Int) (w : World) :
    Calls Try.prog 35 #[.int .i64 c, .int .i64 v, .int .i64 a] w fun e w' => e = .returned (.bool (scrollB c v a)) ∧ w = w' := by
  cases h1 : inR c 0 200000 <;> cases h2 : inR v 0 200000 <;>
  (go_enter Try.func35, Try.ntmps35
   go_wp2_with (first
     | (go_at_call 44; refine (sizeOk_any _ _).mono ?_; rintro e w' ⟨rfl, rfl⟩)
     | (go_at_call 45; refine (placeOk_any _ _).mono ?_; rintro e w' ⟨rfl, rfl⟩))
   go_ret
   exact ⟨ret_bool (by simp [scrollB, h1, h2]), rfl⟩)

theorem clamped_any (c v a : Int) (w : World) (hc : 0 ≤ c ∧ c ≤ 200000) (hv : 0 ≤ v ∧ v ≤ 200000) (ha : -400000 ≤ a ∧ a ≤ 400000) :
    Calls Try.prog 36 #[.int .i64 c, .int .i64 v, .int .i64 a] w fun e w' => e = .returned (.int .i64 (clampV c v a)) ∧ w = w' := by
  obtain ⟨_, _⟩ := hc; obtain ⟨_, _⟩ := hv; obtain ⟨_, _⟩ := ha
  go_enter Try.func36, Try.ntmps36
  go_wp2
  all_goals (go_ret; exact ⟨ret_int (by unfold clampV; repeat' split; all_goals omega), rfl⟩)

theorem implClamp_any (c v a : Int) (w : World) :
    Calls Try.prog 17 #[.int .i64 c, .int .i64 v, .int .i64 a] w fun e w' => e = .returned (.int .i64 (clampS c v a)) ∧ w = w' := by
  cases h : scrollB c v a
  · go_enter Try.func17, Try.ntmps17
    go_wp2_with (go_at_call 35; refine (scrollOk_any _ _ _ _).mono ?_; rintro e w' ⟨rfl, rfl⟩)
    go_ret
    exact ⟨ret_int (by simp [clampS, h]), rfl⟩
  · obtain ⟨h1, h2, h3⟩ := scrollB_iff.1 h
    go_enter Try.func17, Try.ntmps17
    go_wp2_with (first
      | (go_at_call 35; refine (scrollOk_any _ _ _ _).mono ?_; rintro e w' ⟨rfl, rfl⟩)
      | (go_at_call 36; refine (clamped_any _ _ _ _ h1 h2 (by omega)).mono ?_; rintro e w' ⟨rfl, rfl⟩))
    go_ret
    exact ⟨ret_int (by simp [clampS, h]), rfl⟩

def viewB (c v : Int) : Bool := inR c 0 200000 && inR v 0 200000
theorem viewB_iff {c v : Int} : viewB c v = true ↔ (0 ≤ c ∧ c ≤ 200000) ∧ (0 ≤ v ∧ v ≤ 200000) := by simp [viewB, inR]
theorem validView_any (c v : Int) (w : World) :
    Calls Try.prog 32 #[.int .i64 c, .int .i64 v] w fun e w' => e = .returned (.bool (viewB c v)) ∧ w = w' := by
  cases h1 : inR c 0 200000 <;>
  (go_enter Try.func32, Try.ntmps32
   go_wp2_with (go_at_call 33; refine (inRange_any _ _ _ _).mono ?_; rintro e w' ⟨rfl, rfl⟩)
   go_ret
   exact ⟨ret_bool (by simp [viewB, h1]), rfl⟩)

theorem specClampIn_any (c v a : Int) (w : World) (hc : 0 ≤ c ∧ c ≤ 200000) (hv : 0 ≤ v ∧ v ≤ 200000) :
    Calls Try.prog 34 #[.int .i64 c, .int .i64 v, .int .i64 a] w fun e w' => e = .returned (.int .i64 (clampV c v a)) ∧ w = w' := by
  obtain ⟨_, _⟩ := hc; obtain ⟨_, _⟩ := hv
  go_enter Try.func34, Try.ntmps34
  go_wp2
  all_goals (go_ret; exact ⟨ret_int (by unfold clampV; repeat' split; all_goals omega), rfl⟩)

theorem specClamp_any (c v a : Int) (w : World) :
    Calls Try.prog 16 #[.int .i64 c, .int .i64 v, .int .i64 a] w fun e w' => e = .returned (.int .i64 (clampS c v a)) ∧ w = w' := by
  cases hv : viewB c v
  · go_enter Try.func16, Try.ntmps16
    go_wp2_with (go_at_call 32; refine (validView_any _ _ _).mono ?_; rintro e w' ⟨rfl, rfl⟩)
    go_ret
    exact ⟨ret_int (by have : scrollB c v a = false := by revert hv; simp [scrollB, viewB]; intro h1 h2 h3; simp [h1 h2] at h3
                       simp [clampS, this]), rfl⟩
  · obtain ⟨h1, h2⟩ := viewB_iff.1 hv
    cases h3 : inR a (-200000) 200000
    · go_enter Try.func16, Try.ntmps16
      go_wp2_with (first
        | (go_at_call 32; refine (validView_any _ _ _).mono ?_; rintro e w' ⟨rfl, rfl⟩)
        | (go_at_call 33; refine (inRange_any _ _ _ _).mono ?_; rintro e w' ⟨rfl, rfl⟩))
      go_ret
      exact ⟨ret_int (by have : scrollB c v a = false := by simp [scrollB, h3]
                         simp [clampS, this]), rfl⟩
    · have h4 := inR_iff.1 h3
      go_enter Try.func16, Try.ntmps16
      go_wp2_with (first
        | (go_at_call 32; refine (validView_any _ _ _).mono ?_; rintro e w' ⟨rfl, rfl⟩)
        | (go_at_call 33; refine (inRange_any _ _ _ _).mono ?_; rintro e w' ⟨rfl, rfl⟩)
        | (go_at_call 34; refine (specClampIn_any _ _ _ _ h1 h2).mono ?_; rintro e w' ⟨rfl, rfl⟩))
      go_ret
      exact ⟨ret_int (by have : scrollB c v a = true := scrollB_iff.2 ⟨h1, h2, h4⟩
                         simp [clampS, this]), rfl⟩
end Go.Proofs.Yteomjfdoagklkaa
