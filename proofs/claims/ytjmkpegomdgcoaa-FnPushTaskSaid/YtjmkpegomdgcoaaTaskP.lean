/- Tasks that the reference takes and pushes. Conditions: none. -/
import Derived.Test.YtjmkpegomdgcoaaTaskW
import Derived.Deep.RegionHeld3
import Derived.Deep.CutBlock
import Derived.Deep.DeepCutAuto
namespace Go.Proofs.Ytjmkpegomdgcoaa
open Go.RowKit
set_option linter.unusedVariables false
set_option linter.unusedSimpArgs false
def SomeBool (w : World) (e : Ending) (w' : World) : Prop := (∃ b, e = .returned (.bool b)) ∧ Below w.heap.size w w'
set_option maxHeartbeats 1000000 in
theorem sooner_any (x0 x1 x2 y0 y1 y2 : Int) (w : World) :
    Calls Try.prog 46 #[.agg #[.int .i64 x0, .int .i64 x1, .int .i64 x2], .agg #[.int .i64 y0, .int .i64 y1, .int .i64 y2]] w (SomeBool w) := by
  have D := hide (show ∀ b, SomeBool w (.returned (.bool b)) ((w.alloc (.cells #[.int .i64 x0, .int .i64 x1, .int .i64 x2] 39)).alloc (.cells #[.int .i64 y0, .int .i64 y1, .int .i64 y2] 39)) from fun b => ⟨⟨b, rfl⟩, ((Below.refl _ _).alloc (Nat.le_refl _) _).alloc (by simp) _⟩)
  go_enter Try.func46, Try.ntmps46
  go_wp2
  all_goals go_ret
  all_goals exact D.out _
set_option maxHeartbeats 2000000 in
theorem nextAt_any (B : Nat) (a : Option Addr) (n c : Nat) (xs : List Int) (w : World) (hA : Ints .i64 w B a (n * 3) xs) (hB : B ≤ w.heap.size) (hn : n ≤ 1048577) :
    Calls Try.prog 44 #[.slice a n c] w fun e w' => (∃ k : Nat, e = .returned (.int .i64 k)) ∧ Below w.heap.size w w' := by
  have HA := hide hA
  clear hA
  go_enter Try.func44, Try.ntmps44
  go_wp2
  go_loopw [3, 4] (fun s3 s4 wr => ∃ (m i : Nat) (W9 : World), 1 ≤ i ∧ i ≤ n + 1 ∧ m < i ∧ s3 = .int .i64 m ∧ s4 = .int .i64 i ∧ W9 = wr ∧ Hid (Below w.heap.size w W9)) (fun _ s4 _ => n + 1 - (intOf s4).toNat)
  case atStart => exact ⟨0, 1, w, Nat.le_refl _, by omega, by omega, rfl, rfl, rfl, hide (Below.refl _ _)⟩
  case round =>
    obtain ⟨m, i, W9, hi1, hin, hmi, rfl, rfl, rfl, HB⟩ := hrel
    by_cases hlt : i < n
    · obtain ⟨b, off, rfl, hbB, hcell⟩ := (HA.out.below HB.out hB).2.2 (by omega)
      have hz9 := HB.out.size
      have c0 := hcell (i * 3) (by omega)
      have c1 := hcell (i * 3 + 1) (by omega)
      have c2 := hcell (i * 3 + 2) (by omega)
      have d0 := hcell (m * 3) (by omega)
      have d1 := hcell (m * 3 + 1) (by omega)
      have d2 := hcell (m * 3 + 2) (by omega)
      rw [← Nat.add_assoc] at c1 c2 d1 d2
      have f1 : (i : Int) < (n : Int) := by omega
      have f2 : (m : Int) < (n : Int) := by omega
      have f3 : m < n := by omega
      clear hcell
      generalize xs.getD (i * 3) 0 = x0 at c0
      generalize xs.getD (i * 3 + 1) 0 = x1 at c1
      generalize xs.getD (i * 3 + 2) 0 = x2 at c2
      generalize xs.getD (m * 3) 0 = y0 at d0
      generalize xs.getD (m * 3 + 1) 0 = y1 at d1
      generalize xs.getD (m * 3 + 2) 0 = y2 at d2
      go_wp2_with fail
      go_region_held3 (fun w' => w'.cell? ⟨b, off + i * 3, none⟩ = some (.int .i64 x0) ∧ w'.cell? ⟨b, off + i * 3 + 1, none⟩ = some (.int .i64 x1) ∧ w'.cell? ⟨b, off + i * 3 + 2, none⟩ = some (.int .i64 x2) ∧ w'.cell? ⟨b, off + m * 3, none⟩ = some (.int .i64 y0) ∧ w'.cell? ⟨b, off + m * 3 + 1, none⟩ = some (.int .i64 y1) ∧ w'.cell? ⟨b, off + m * 3 + 2, none⟩ = some (.int .i64 y2)) (first | go_keep | exact ⟨s0, s1, s2, t0, t1, t2⟩)
        ((go_at_call 46; refine (sooner_any x0 x1 x2 y0 y1 y2 W9.drew).mono ?_; intro e W10 hsb; obtain ⟨⟨bb, he⟩, hb⟩ := hsb; subst he; have s0 := (hb.cell (p := ⟨b, off + i * 3, none⟩) (by show b < W9.heap.size; omega)).trans c0; have s1 := (hb.cell (p := ⟨b, off + i * 3 + 1, none⟩) (by show b < W9.heap.size; omega)).trans c1; have s2 := (hb.cell (p := ⟨b, off + i * 3 + 2, none⟩) (by show b < W9.heap.size; omega)).trans c2; have t0 := (hb.cell (p := ⟨b, off + m * 3, none⟩) (by show b < W9.heap.size; omega)).trans d0; have t1 := (hb.cell (p := ⟨b, off + m * 3 + 1, none⟩) (by show b < W9.heap.size; omega)).trans d1; have t2 := (hb.cell (p := ⟨b, off + m * 3 + 2, none⟩) (by show b < W9.heap.size; omega)).trans d2))
      have D := hide (HB.out.drew.trans (hb.mono hz9))
      clear hb c0 c1 c2 d0 d1 d2 s0 s1 s2 t0 t1 t2
      cases bb
      · go_wp2
        go_roundw
        case rel => exact ⟨m, i + 1, _, by omega, by omega, by omega, rfl, by go_num, rfl, D⟩
        case measure => simp [intOf]; omega
      · go_wp2
        go_roundw
        case rel => exact ⟨i, i + 1, _, by omega, by omega, by omega, rfl, by go_num, rfl, D⟩
        case measure => simp [intOf]; omega
    · have f1 : ¬ (i : Int) < (n : Int) := by omega
      go_wp2
      go_ret
      exact ⟨⟨m, rfl⟩, HB.out⟩
/-- some new list of tasks, at most m -/
def SomeTk (m : Nat) (w : World) (e : Ending) (w' : World) : Prop :=
  ∃ (A : Option Addr) (n c : Nat) (ys : List Int), n ≤ m ∧ e = .returned (.slice A n c) ∧ Own 39 3 w' w.heap.size (.slice A n c) n ys ∧ Below w.heap.size w w'
set_option maxHeartbeats 2000000 in
theorem take_any (B : Nat) (a : Option Addr) (n c : Nat) (xs : List Int) (w : World) (hA : Ints .i64 w B a (n * 3) xs) (hB : B ≤ w.heap.size) (hn : n ≤ 1048577) :
    Calls Try.prog 42 #[.slice a n c] w (SomeTk n w) := by
  obtain ⟨i0, hi, hz0, hz1, hz2⟩ := info_parts Task_info
  have hb0 := (Below.refl w.heap.size w).alloc (Nat.le_refl _) (.cells #[] 39)
  have HN := hide (nextAt_any B a n c xs _ (hA.below hb0 hB) (by simp; omega) hn)
  have HA := hide (fun W (h : Below w.heap.size w W) => hA.below h hB)
  have HO := hide (Own.made 39 3 w #[] 0 w.heap.size (Nat.le_refl _) (by omega) rfl)
  have HB0 := hide hb0
  clear hA hb0
  go_enter Try.func42, Try.ntmps42
  go_wp2_with fail
  refine HN.out.mono ?_
  rintro e W1 ⟨⟨at', rfl⟩, hb1⟩
  have HS := hide (show ∃ ys, Own 39 3 W1 w.heap.size (.slice (some ⟨w.heap.size, 0, none⟩) 0 0) 0 ys ∧ Below w.heap.size w W1 from ⟨[], HO.out.keep hb1, HB0.out.trans (hb1.mono (by simp))⟩)
  clear HN HO HB0 hb1
  go_wp2
  go_loopw [3, 5] (fun s3 s5 wr => ∃ (k m : Nat) (W9 : World), k ≤ n ∧ m ≤ k ∧ s5 = .int .i64 k ∧ W9 = wr ∧ Hid (∃ ys, Own 39 3 W9 w.heap.size s3 m ys ∧ Below w.heap.size w W9)) (fun _ s5 _ => n - (intOf s5).toNat)
  case atStart => exact ⟨0, 0, W1, Nat.zero_le _, Nat.le_refl _, rfl, rfl, HS⟩
  case round =>
    clear HS
    obtain ⟨k, m, W9, hk, hm, rfl, rfl, A⟩ := hrel
    obtain ⟨ys, ho, hbw⟩ := A.out
    obtain ⟨A3, c3, e3, h31, h32, hrow⟩ := ho.form
    subst e3
    have HO := hide ho
    have HB := hide hbw
    have hz9 := hbw.size
    clear ho hbw A
    by_cases hlt : k < n
    · by_cases hat : k = at'
      · have g1 : ((k : Int) != (at' : Int)) = false := by simp; omega
        clear hat
        have D := hide (show ∃ ys, Own 39 3 W9 w.heap.size (.slice A3 m c3) m ys ∧ Below w.heap.size w W9 from ⟨ys, HO.out, HB.out⟩)
        clear hrow HO HB
        go_wp2
        go_roundw
        case rel => exact ⟨k + 1, m, _, by omega, by omega, by go_num, rfl, D⟩
        case measure => simp [intOf]; omega
      · have g1 : ((k : Int) != (at' : Int)) = true := by simp; omega
        clear hat
        obtain ⟨b, off, rfl, hbB, hcell⟩ := (HA.out _ HB.out).2.2 (by omega)
        have c0 := hcell (k * 3) (by omega)
        have c1 := hcell (k * 3 + 1) (by omega)
        have c2 := hcell (k * 3 + 2) (by omega)
        rw [← Nat.add_assoc] at c1 c2
        clear hcell hrow
        generalize xs.getD (k * 3) 0 = x0 at c0
        generalize xs.getD (k * 3 + 1) 0 = x1 at c1
        generalize xs.getD (k * 3 + 2) 0 = x2 at c2
        have HP := hide (show ∀ z : Int, Own 39 3 (W9.alloc (.cells #[.int .i64 x0, .int .i64 x1, .int .i64 z] 39)) w.heap.size (.slice A3 m c3) m ys from fun z => HO.out.keep ((Below.refl _ _).alloc (Nat.le_refl _) _))
        have HQ := hide (show ∀ z : Int, Below w.heap.size w (W9.alloc (.cells #[.int .i64 x0, .int .i64 x1, .int .i64 z] 39)) from fun z => HB.out.alloc hz9 _)
        clear HO HB
        go_wp2_with (at_builtin; refine wpList_push rfl (.tmp 28) (.tmp 30) 25 39 3 24 i0 _ rfl Try.underlying25 hi hz0 hz1 hz2 rfl (by omega) (by omega) (W9.alloc (.cells #[.int .i64 x0, .int .i64 x1, .int .i64 _] 39)) w.heap.size (.slice A3 m c3) m _ rfl (HP.out _) [x0, x1, _] 1 1 (by show Value.slice (some ⟨W9.heap.size + 1, 0, none⟩) 1 1 = _; simp) rfl (by omega) (by simp; omega) ?_; intro v1 w1' ho1 hb1' hg1 hv1; have D := hide (show ∃ ys, Own 39 3 w1' w.heap.size v1 (m + 1) ys ∧ Below w.heap.size w w1' from ⟨_, ho1, (HQ.out _).trans hb1'⟩); clear ho1 hb1' hg1 hv1)
        all_goals go_roundw
        all_goals first | exact ⟨k + 1, m + 1, _, by omega, by omega, by go_num, rfl, D⟩ | (simp [intOf]; omega)
    · obtain rfl : k = n := by omega
      have D := hide (show SomeTk k w (.returned (.slice A3 m c3)) W9 from ⟨A3, m, c3, ys, hm, rfl, HO.out, HB.out⟩)
      clear HO HB hrow
      go_wp2
      go_ret
      exact D.out
end Go.Proofs.Ytjmkpegomdgcoaa
