/- Layout: slices.Repeat of a single one. Conditions: none. -/
import Derived.Test.YthgliihdaockoaaLayP
namespace Go.Proofs.Ythgliihdaockoaa
open Go.RowKit
set_option linter.unusedVariables false
set_option linter.unusedSimpArgs false
set_option maxRecDepth 100000 in
set_option maxHeartbeats 2000000 in
theorem mul64_one (k : Nat) (hk : 1 ≤ k ∧ k ≤ 7) (w : World) : Calls Try.prog 77 #[.int .u64 1, .int .u64 k] w fun e w' => e = .returned (.tuple #[.int .u64 0, .int .u64 k]) ∧ w = w' := by
  have h : k = 1 ∨ k = 2 ∨ k = 3 ∨ k = 4 ∨ k = 5 ∨ k = 6 ∨ k = 7 := by omega
  rcases h with rfl | rfl | rfl | rfl | rfl | rfl | rfl
  all_goals
    go_enter Try.func77, Try.ntmps77
    go_wp2
    exact bodyPost_ret (v := .tuple #[.int .u64 0, _]) (by simp [results, Try.results77, go_sem]; rfl) rfl ⟨rfl, rfl⟩
theorem mul_one_any (k : Nat) (hk : 1 ≤ k ∧ k ≤ 7) (w : World) : Calls Try.prog 72 #[.int .u64 1, .int .u64 k] w fun e w' => e = .returned (.tuple #[.int .u64 0, .int .u64 k]) ∧ w = w' := by
  have e1 : IntKind.u64.wrap (k : Int) = (k : Int) := by have h : k = 1 ∨ k = 2 ∨ k = 3 ∨ k = 4 ∨ k = 5 ∨ k = 6 ∨ k = 7 := by omega
                                                         rcases h with rfl | rfl | rfl | rfl | rfl | rfl | rfl <;> rfl
  go_enter Try.func72, Try.ntmps72
  go_wp2_with (go_at_call 77; refine (mul64_one k hk _).mono ?_; rintro e w' ⟨rfl, rfl⟩)
  exact bodyPost_ret (v := .tuple #[.int .u64 0, .int .u64 k]) (by simp [results, Try.results72, go_sem]) rfl ⟨rfl, rfl⟩
theorem below_setCells {B g : Nat} {v : Value} : ∀ {q j : Nat} {a W : World}, Below B a W → B ≤ g → Below B a (W.setCells g j (List.replicate q v))
  | 0, _, _, _, h, _ => h
  | q + 1, j, a, W, h, hg => below_setCells (q := q) (j := j + 1) (h.setCell (p := ⟨g, j, none⟩) hg v) hg
/-- the first cells of a row, filled -/
theorem Row.fill {E : TypeId} {lo hi n g off : Nat} (v : Int) : ∀ (q i : Nat) (w : World) (zs : List Int), Row E w lo hi (some ⟨g, off, none⟩) n zs → i + q ≤ n →
    ∃ ys, (∀ t, ys.getD t 0 = if i ≤ t ∧ t < i + q then v else zs.getD t 0) ∧ Row E (w.setCells g (off + i) (List.replicate q (.int .i64 v))) lo hi (some ⟨g, off, none⟩) n ys
  | 0, i, w, zs, h, _ => ⟨zs, fun t => by rw [if_neg (by omega)], h⟩
  | q + 1, i, w, zs, h, hq => by
    obtain ⟨ys, h1, h2⟩ := Row.fill v q (i + 1) _ _ (h.put (j := i) (by omega) v) (by omega)
    refine ⟨ys, fun t => ?_, h2⟩
    rw [h1, getD_set (by rw [h.1]; omega)]
    by_cases e : t = i
    · subst e; rw [if_neg (by omega), if_pos rfl, if_pos (by omega)]
    · rw [if_neg e]
      by_cases e2 : i + 1 ≤ t ∧ t < i + 1 + q
      · rw [if_pos e2, if_pos (by omega)]
      · rw [if_neg e2, if_neg (by omega)]
set_option maxRecDepth 100000 in
set_option maxHeartbeats 4000000 in
theorem repeat_any (B k c : Nat) (a : Option Addr) (w : World) (hA : Ints .i64 w B a 1 [1]) (hB : B ≤ w.heap.size) (hk : 1 ≤ k ∧ k ≤ 7) :
    Calls Try.prog 63 #[.slice a 1 c, .int .i64 k] w (ListR (List.replicate k 1) w) := by
  have hk0 : ¬ (k : Int) < 0 := by omega
  have e1 : IntKind.u64.wrap (k : Int) = (k : Int) := by have h : k = 1 ∨ k = 2 ∨ k = 3 ∨ k = 4 ∨ k = 5 ∨ k = 6 ∨ k = 7 := by omega
                                                         rcases h with rfl | rfl | rfl | rfl | rfl | rfl | rfl <;> rfl
  have e2 : IntKind.i64.wrap (k : Int) = (k : Int) := IntWalk.i64_in _ (by omega)
  have hmk := mk_ints k (by omega)
  obtain ⟨i0, hi0, hz0, hz1, hz2⟩ := info_parts int_info
  have hsz : (Try.prog.info? 3).map (·.size) = some 1 := by rw [hi0]; simp [hz1]
  obtain ⟨b, off, rfl, hb9, hc⟩ := hA.2.2 (by omega)
  have hc0 := hc 0 (by omega)
  rw [Nat.add_zero] at hc0
  change w.cell? ⟨b, off, none⟩ = some (.int .i64 1) at hc0
  have HG := hide (rowF_alloc w k)
  have hba : Below w.heap.size w (w.alloc (.cells (madeCells #[.int .i64 0] k) 3)) := (Below.refl _ _).alloc (Nat.le_refl _) _
  have HBa := hide hba
  have hc1 := (hba.cell (p := ⟨b, off, none⟩) (by show b < w.heap.size; omega)).trans hc0
  have hcp : ∀ ty, (Builtin.copy_ #[26, 26] ty #[.slice (some ⟨w.heap.size, 0, none⟩) k k, .slice (some ⟨b, off, none⟩) 1 c]).run Try.prog (w.alloc (.cells (madeCells #[.int .i64 0] k) 3)) = .ok (.int .i64 1) ((w.alloc (.cells (madeCells #[.int .i64 0] k) 3)).setCells w.heap.size 0 [.int .i64 1]) := fun ty =>
    run_copy_cells _ 26 26 ty 3 w.heap.size 0 k k ⟨b, off, none⟩ 1 c [.int .i64 1] Try.underlying26 hsz (by simp [Nat.min_def]; omega)
      (fun j v hj => by
        obtain rfl : j = 0 := by rcases j with _ | j; rfl; simp at hj
        simp at hj; subst hj
        simpa [Addr.add] using hc1)
      (fun j hj => by
        obtain rfl : j = 0 := by simp at hj; omega
        rw [(HG.out.cell (show 0 < k by omega)).1]; rfl)
      (fun j hj => by
        obtain rfl : j = 0 := by simp at hj; omega
        exact (HG.out.cell (show 0 < k by omega)).2)
      (by simp [Value.oneCell'])
  clear hc hA hba
  go_enter Try.func63, Try.ntmps63
  go_wp2_with (go_at_call 72; refine (mul_one_any k hk _).mono ?_; rintro e w' ⟨rfl, rfl⟩)
  obtain ⟨ys0, hys0, hr0⟩ := Row.fill (E := 3) (g := w.heap.size) (off := 0) (lo := w.heap.size) (hi := w.heap.size + 1) (n := k) 1 1 0 _ _ HG.out (by omega)
  have HR := hide (show Row 3 ((w.alloc (.cells (madeCells #[.int .i64 0] k) 3)).setCells w.heap.size 0 [.int .i64 1]) w.heap.size (w.heap.size + 1) (some ⟨w.heap.size, 0, none⟩) k ys0 from hr0)
  have HY := hide (show ∀ t, t < 1 → ys0.getD t 0 = 1 from fun t ht => by rw [hys0, if_pos (by omega)])
  have HB := hide (show Below w.heap.size w ((w.alloc (.cells (madeCells #[.int .i64 0] k) 3)).setCells w.heap.size 0 [.int .i64 1]) from HBa.out.setCell (p := ⟨w.heap.size, 0, none⟩) (Nat.le_refl _) _)
  clear hcp hc0 hc1 hr0 hys0 HG HBa
  generalize (w.alloc (.cells (madeCells #[.int .i64 0] k) 3)).setCells w.heap.size 0 [.int .i64 1] = W0 at HR HB ⊢
  go_loopw [8] (fun s8 wr => ∃ (j : Nat) (zs : List Int) (W9 : World), 1 ≤ j ∧ j ≤ k ∧ s8 = .int .i64 j ∧ W9 = wr ∧ Hid (Row 3 W9 w.heap.size (w.heap.size + 1) (some ⟨w.heap.size, 0, none⟩) k zs) ∧ Hid (∀ t, t < j → zs.getD t 0 = 1) ∧ Hid (Below w.heap.size w W9)) (fun s8 _ => k - (intOf s8).toNat)
  case atStart => exact ⟨1, ys0, _, by omega, by omega, rfl, rfl, HR, HY, HB⟩
  case round =>
    clear HR HY HB
    obtain ⟨j, zs, W9, hj1, hjk, rfl, rfl, HR, HY, HB⟩ := hrel
    by_cases hlt : j < k
    · have hlt' : (j : Int) < (k : Int) := by omega
      obtain ⟨q, hq⟩ : ∃ q, Nat.min j (k - j) = q := ⟨_, rfl⟩
      have hq1 : 1 ≤ q ∧ q ≤ j ∧ j + q ≤ k := by rw [← hq]; simp only [Nat.min_def]; split <;> omega
      have hcell := fun t (ht : t < k) => HR.out.cell t ht
      have hcp : ∀ ty, (Builtin.copy_ #[26, 26] ty #[.slice (some ⟨w.heap.size, j, none⟩) (k - j) (k - j), .slice (some ⟨w.heap.size, 0, none⟩) j k]).run Try.prog W9.drew = .ok (.int .i64 q) (W9.drew.setCells w.heap.size j (List.replicate q (.int .i64 1))) := fun ty => by
        have h := run_copy_cells (P := Try.prog) W9.drew 26 26 ty 3 w.heap.size j (k - j) (k - j) ⟨w.heap.size, 0, none⟩ j k (List.replicate q (.int .i64 1)) Try.underlying26 hsz (by rw [List.length_replicate, hq])
          (fun t v ht => by
            rw [List.getElem?_replicate] at ht
            split at ht
            · rename_i htq
              injection ht with ht
              subst ht
              have h1 := (hcell t (by omega)).1
              rw [HY.out t (by omega), Nat.zero_add] at h1
              have e : (⟨w.heap.size, 0, none⟩ : Addr).add t = ⟨w.heap.size, t, none⟩ := by by_cases h0 : t = 0 <;> simp [Addr.add, h0]
              rw [e]; exact h1
            · cases ht)
          (fun t ht => by
            rw [List.length_replicate] at ht
            have h1 := (hcell (j + t) (by omega)).1
            rw [Nat.zero_add] at h1
            show (W9.cell? _).isSome = true
            rw [h1]; rfl)
          (fun t ht => by
            rw [List.length_replicate] at ht
            have h1 := (hcell (j + t) (by omega)).2
            rw [Nat.zero_add] at h1
            exact h1)
          (fun v hv => by rw [List.eq_of_mem_replicate hv]; rfl)
        rw [List.length_replicate] at h
        exact h
      obtain ⟨ys, hys, hr⟩ := Row.fill (E := 3) 1 q j _ _ HR.out hq1.2.2
      have HR2 := hide (show Row 3 (W9.drew.setCells w.heap.size j (List.replicate q (.int .i64 1))) w.heap.size (w.heap.size + 1) (some ⟨w.heap.size, 0, none⟩) k ys by
        have h := (Row.fill (E := 3) 1 q j W9.drew zs (HR.out.keep fun _ _ _ _ => rfl) hq1.2.2)
        obtain ⟨ys', hys', hr'⟩ := h
        rw [Nat.zero_add] at hr'
        have e : ys = ys' := by
          apply List.ext_getElem
          · rw [hr.1, hr'.1]
          · intro i h1 h2
            have h3 := hys i
            rw [← hys' i] at h3
            rw [List.getD_eq_getElem?_getD, List.getD_eq_getElem?_getD, List.getElem?_eq_getElem h1, List.getElem?_eq_getElem h2] at h3
            exact h3
        rw [e]; exact hr')
      have HY2 := hide (show ∀ t, t < j + q → ys.getD t 0 = 1 from fun t ht => by
        rw [hys]
        by_cases e : j ≤ t
        · rw [if_pos ⟨e, ht⟩]
        · rw [if_neg (by omega)]; exact HY.out t (by omega))
      have HB2 := hide (below_setCells (q := q) (j := j) (v := .int .i64 1) HB.out.drew (Nat.le_refl w.heap.size))
      clear hys hr HR HY HB hcell hq
      go_wp2
      go_region
      go_wp2
      go_roundw
      case rel => exact ⟨j + q, ys, _, by omega, hq1.2.2, by go_num, rfl, HR2, HY2, HB2⟩
      case measure => simp [intOf]; omega
    · obtain rfl : k = j := by omega
      have D := hide (show ListR (List.replicate k 1) w (.returned (.slice (some ⟨w.heap.size, 0, none⟩) k k)) W9 by
        have e : zs = List.replicate k 1 := by
          apply List.ext_getElem
          · rw [HR.out.1, List.length_replicate]
          · intro i h1 h2
            have h3 := HY.out i (by rw [List.length_replicate] at h2; exact h2)
            rw [List.getD_eq_getElem?_getD, List.getElem?_eq_getElem h1] at h3
            rw [List.getElem_replicate]
            exact h3
        subst e
        refine ⟨some ⟨w.heap.size, 0, none⟩, k, k, rfl, HR.out.mono (Nat.le_refl _) ?_, HB.out⟩
        have := cell_lt (HR.out.cell 0 (by omega)).1
        exact this)
      clear HR HY HB
      go_wp2
      go_ret
      exact D.out
end Go.Proofs.Ythgliihdaockoaa
