/- Trees: which are valid, the program's answer. Conditions: none. -/
import Derived.Test.YthgliihdaockoaaRegM
namespace Go.Proofs.Ythgliihdaockoaa
open Go.RowKit
set_option linter.unusedVariables false
set_option linter.unusedSimpArgs false
/-- what the program has seen of the first k boxes -/
def IP (xs : List Int) (k : Nat) : Prop :=
  Pre xs k ∧ (∀ i, i < k → boxB xs i = true) ∧ (∀ i, 0 < i → i < k → par xs i ∈ upN xs (i - 1)) ∧ ∀ i, i < k → (upN xs i).length ≤ 6
theorem IP.zero (xs : List Int) : IP xs 0 := ⟨fun j hj => by omega, fun i hi => by omega, fun i _ hi => by omega, fun i hi => by omega⟩
theorem IP.succ {xs : List Int} {k : Nat} (h : IP xs k) (hp : Pre xs (k + 1)) (hb : boxB xs k = true) (hk : 0 < k → par xs k ∈ upN xs (k - 1)) (hd : (upN xs k).length ≤ 6) : IP xs (k + 1) := by
  refine ⟨hp, fun i hi => ?_, fun i h0 hi => ?_, fun i hi => ?_⟩
  · by_cases e : i = k
    · subst e; exact hb
    · exact h.2.1 i (by omega)
  · by_cases e : i = k
    · subst e; exact hk h0
    · exact h.2.2.1 i h0 (by omega)
  · by_cases e : i = k
    · subst e; exact hd
    · exact h.2.2.2 i (by omega)
set_option maxHeartbeats 8000000 in
theorem implValid_any (B : Nat) (a : Option Addr) (n c : Nat) (xs : List Int) (w : World) (hA : Ints .i64 w B a (n * 9) xs) (hB : B ≤ w.heap.size) (hn : n ≤ 1048577) :
    Calls Try.prog 27 #[.slice a n c] w fun e w' => e = .returned (.bool (treeV xs n)) ∧ Below w.heap.size w w' := by
  have HA := hide (fun W (h : Below w.heap.size w W) => hA.below h hB)
  have HW := hide (Below.refl w.heap.size w)
  cases hr : inR (n : Int) 1 16
  case false =>
    have D := hide (treeV_no (xs := xs) (n := n) (fun h => by have h1 := h.lo; have h2 := h.hi; have := inR_not.1 hr; omega))
    go_enter Try.func27, Try.ntmps27
    go_wp2_with (go_at_call 28; with_reducible refine (within_is hr _).mono ?_; rintro e w' ⟨rfl, rfl⟩)
    go_ret
    exact ⟨ret_bool D.out.symm, HW.out⟩
  case true =>
    have hr2 := inR_iff.1 hr
    have hn1 : 1 ≤ n := by omega
    have hn16 : n ≤ 16 := by omega
    have hn1' : (0 : Int) < (n : Int) := by omega
    obtain ⟨b, off, rfl, _, h1, -⟩ := hA.fldAt (by omega)
    have hc0 := h1 0 (by omega)
    rw [Nat.zero_mul, Nat.add_zero] at hc0
    obtain ⟨y0, hy0⟩ : ∃ y0, par xs 0 = y0 := ⟨_, rfl⟩
    have HY0 := hide hy0
    rw [hy0] at hc0
    clear h1 hy0 hr2 hA
    by_cases hm : y0 = -1
    case neg =>
      have hm' : (y0 != -1) = true := by simpa using hm
      have D := hide (treeV_no (xs := xs) (n := n) (fun h => by have := h.pre 0 (by omega); rw [HY0.out] at this; omega))
      clear hm
      go_enter Try.func27, Try.ntmps27
      go_wp2_with (go_at_call 28; with_reducible refine (within_is hr _).mono ?_; rintro e w' ⟨rfl, rfl⟩)
      go_ret
      exact ⟨ret_bool D.out.symm, HW.out⟩
    case pos =>
      have hm' : (y0 != -1) = false := by simpa using hm
      have HP0 := hide (show par xs 0 = -1 from HY0.out.trans hm)
      clear hm
      go_enter Try.func27, Try.ntmps27
      go_wp2_with (go_at_call 28; with_reducible refine (within_is hr _).mono ?_; rintro e w' ⟨rfl, rfl⟩)
      clear hr
      go_loopw [3, 4, 21] (fun _ _ s21 wr => ∃ (k : Nat) (W9 : World), k ≤ n ∧ s21 = .int .i64 k ∧ W9 = wr ∧ Hid (IP xs k) ∧ Hid (Below w.heap.size w W9)) (fun _ _ s21 _ => n - (intOf s21).toNat)
      case atStart => exact ⟨0, w, Nat.zero_le _, rfl, rfl, hide (IP.zero _), HW⟩
      case round =>
        clear hc0
        obtain ⟨k, W9, hk, rfl, rfl, HS, HB⟩ := hrel
        have hz9 := HB.out.size
        by_cases hlt : k < n
        · have hkn : (k : Int) < (n : Int) := by omega
          obtain ⟨b', off', eb, hb9, h1, h2⟩ := (HA.out _ HB.out).fldAt (by omega)
          injection eb with eb
          injection eb with eb1 eb2
          subst eb1 eb2
          have hc0 := h1 k hlt
          have hc1 := h2 k 1 hlt (by omega)
          have hc2 := h2 k 2 hlt (by omega)
          have hc3 := h2 k 3 hlt (by omega)
          have hc4 := h2 k 4 hlt (by omega)
          have hc5 := h2 k 5 hlt (by omega)
          have hc6 := h2 k 6 hlt (by omega)
          have hc7 := h2 k 7 hlt (by omega)
          have hc8 := h2 k 8 hlt (by omega)
          clear h1 h2
          obtain ⟨y, hy⟩ : ∃ y, par xs k = y := ⟨_, rfl⟩
          have HY := hide hy
          rw [hy] at hc0
          clear hy
          have hbox := fun W => styled_any y (fld xs k 1) (fld xs k 2) (fld xs k 3) (fld xs k 4) (fld xs k 5) (fld xs k 6) (fld xs k 7) (fld xs k 8) W
          have HV := hide (show boxB xs k = box9 (fld xs k 1) (fld xs k 2) (fld xs k 3) (fld xs k 4) (fld xs k 5) (fld xs k 6) (fld xs k 7) (fld xs k 8) from rfl)
          rw [← HV.out] at hbox
          clear HV
          generalize fld xs k 1 = y1 at hc1 hbox
          generalize fld xs k 2 = y2 at hc2 hbox
          generalize fld xs k 3 = y3 at hc3 hbox
          generalize fld xs k 4 = y4 at hc4 hbox
          generalize fld xs k 5 = y5 at hc5 hbox
          generalize fld xs k 6 = y6 at hc6 hbox
          generalize fld xs k 7 = y7 at hc7 hbox
          generalize fld xs k 8 = y8 at hc8 hbox
          have q0 : (W9.alloc (.cells #[.int .i64 y, .int .i64 y1, .int .i64 y2, .int .i64 y3, .int .i64 y4, .int .i64 y5, .int .i64 y6, .int .i64 y7, .int .i64 y8] 43)).cell? ⟨W9.heap.size, 0, none⟩ = some (.int .i64 y) := by rw [cell_of_row _ _ 0 _ _ (0, 0) (heap_alloc_new W9 _)]; rfl
          have q1 : (W9.alloc (.cells #[.int .i64 y, .int .i64 y1, .int .i64 y2, .int .i64 y3, .int .i64 y4, .int .i64 y5, .int .i64 y6, .int .i64 y7, .int .i64 y8] 43)).cell? ⟨W9.heap.size, 1, none⟩ = some (.int .i64 y1) := by rw [cell_of_row _ _ 1 _ _ (0, 0) (heap_alloc_new W9 _)]; rfl
          have q2 : (W9.alloc (.cells #[.int .i64 y, .int .i64 y1, .int .i64 y2, .int .i64 y3, .int .i64 y4, .int .i64 y5, .int .i64 y6, .int .i64 y7, .int .i64 y8] 43)).cell? ⟨W9.heap.size, 2, none⟩ = some (.int .i64 y2) := by rw [cell_of_row _ _ 2 _ _ (0, 0) (heap_alloc_new W9 _)]; rfl
          have q3 : (W9.alloc (.cells #[.int .i64 y, .int .i64 y1, .int .i64 y2, .int .i64 y3, .int .i64 y4, .int .i64 y5, .int .i64 y6, .int .i64 y7, .int .i64 y8] 43)).cell? ⟨W9.heap.size, 3, none⟩ = some (.int .i64 y3) := by rw [cell_of_row _ _ 3 _ _ (0, 0) (heap_alloc_new W9 _)]; rfl
          have q4 : (W9.alloc (.cells #[.int .i64 y, .int .i64 y1, .int .i64 y2, .int .i64 y3, .int .i64 y4, .int .i64 y5, .int .i64 y6, .int .i64 y7, .int .i64 y8] 43)).cell? ⟨W9.heap.size, 4, none⟩ = some (.int .i64 y4) := by rw [cell_of_row _ _ 4 _ _ (0, 0) (heap_alloc_new W9 _)]; rfl
          have q5 : (W9.alloc (.cells #[.int .i64 y, .int .i64 y1, .int .i64 y2, .int .i64 y3, .int .i64 y4, .int .i64 y5, .int .i64 y6, .int .i64 y7, .int .i64 y8] 43)).cell? ⟨W9.heap.size, 5, none⟩ = some (.int .i64 y5) := by rw [cell_of_row _ _ 5 _ _ (0, 0) (heap_alloc_new W9 _)]; rfl
          have q6 : (W9.alloc (.cells #[.int .i64 y, .int .i64 y1, .int .i64 y2, .int .i64 y3, .int .i64 y4, .int .i64 y5, .int .i64 y6, .int .i64 y7, .int .i64 y8] 43)).cell? ⟨W9.heap.size, 6, none⟩ = some (.int .i64 y6) := by rw [cell_of_row _ _ 6 _ _ (0, 0) (heap_alloc_new W9 _)]; rfl
          have q7 : (W9.alloc (.cells #[.int .i64 y, .int .i64 y1, .int .i64 y2, .int .i64 y3, .int .i64 y4, .int .i64 y5, .int .i64 y6, .int .i64 y7, .int .i64 y8] 43)).cell? ⟨W9.heap.size, 7, none⟩ = some (.int .i64 y7) := by rw [cell_of_row _ _ 7 _ _ (0, 0) (heap_alloc_new W9 _)]; rfl
          have q8 : (W9.alloc (.cells #[.int .i64 y, .int .i64 y1, .int .i64 y2, .int .i64 y3, .int .i64 y4, .int .i64 y5, .int .i64 y6, .int .i64 y7, .int .i64 y8] 43)).cell? ⟨W9.heap.size, 8, none⟩ = some (.int .i64 y8) := by rw [cell_of_row _ _ 8 _ _ (0, 0) (heap_alloc_new W9 _)]; rfl
          have HB0 := hide (show Below w.heap.size w (W9.alloc (.cells #[.int .i64 y, .int .i64 y1, .int .i64 y2, .int .i64 y3, .int .i64 y4, .int .i64 y5, .int .i64 y6, .int .i64 y7, .int .i64 y8] 43)) from HB.out.alloc hz9 _)
          have hzg : W9.heap.size < (W9.alloc (.cells #[.int .i64 y, .int .i64 y1, .int .i64 y2, .int .i64 y3, .int .i64 y4, .int .i64 y5, .int .i64 y6, .int .i64 y7, .int .i64 y8] 43)).heap.size := by simp
          cases hv : boxB xs k
          case false =>
            rw [hv] at hbox
            have D := hide (treeV_no (xs := xs) (n := n) (fun h => by have := h.box k hlt; rw [hv] at this; cases this))
            clear hv HB
            go_wp2_with fail
            generalize (W9.alloc (.cells #[.int .i64 y, .int .i64 y1, .int .i64 y2, .int .i64 y3, .int .i64 y4, .int .i64 y5, .int .i64 y6, .int .i64 y7, .int .i64 y8] 43)) = W10 at q0 q1 q2 q3 q4 q5 q6 q7 q8 HB0 hzg ⊢
            have hz10 := HB0.out.size
            refine startH (n := 24) (S := fun w' => w'.cell? ⟨W9.heap.size, 0, none⟩ = some (.int .i64 y) ∧ w'.cell? ⟨W9.heap.size, 1, none⟩ = some (.int .i64 y1) ∧ w'.cell? ⟨W9.heap.size, 2, none⟩ = some (.int .i64 y2) ∧ w'.cell? ⟨W9.heap.size, 3, none⟩ = some (.int .i64 y3) ∧ w'.cell? ⟨W9.heap.size, 4, none⟩ = some (.int .i64 y4) ∧ w'.cell? ⟨W9.heap.size, 5, none⟩ = some (.int .i64 y5) ∧ w'.cell? ⟨W9.heap.size, 6, none⟩ = some (.int .i64 y6) ∧ w'.cell? ⟨W9.heap.size, 7, none⟩ = some (.int .i64 y7) ∧ w'.cell? ⟨W9.heap.size, 8, none⟩ = some (.int .i64 y8)) rfl (by kernel_rfl) ⟨q0, q1, q2, q3, q4, q5, q6, q7, q8⟩ (fun hHeld => ?_)
            refine takeH 0 26 (.agg #[.int .i64 y, .int .i64 y1, .int .i64 y2, .int .i64 y3, .int .i64 y4, .int .i64 y5, .int .i64 y6, .int .i64 y7, .int .i64 y8]) rfl (by kernel_rfl) (by kernel_rfl) (by kernel_rfl) (fun _ _ _ h => h) (by assumption) rfl (by intro w' hS'; (try dsimp only at hS'); go_simp) ?_
            try simp only [Act.put, List.setIfInBounds_toArray, List.set_cons_zero, List.set_cons_succ]
            refine wpAnyH_ready (rs := [1]) (by kernel_rfl) (by simp) ?_
            refine AllReadyH.cons (o := ?_) ?_ (fun K hK => ?_) AllReadyH.nil
            rotate_left
            · simp only [List.getElem?_toArray, List.getElem?_cons_succ, List.getElem?_cons_zero]; rfl
            go_simp
            go_at_call 39
            refine Calls.mono (hbox _) ?_
            rintro e W11 ⟨rfl, hb⟩
            have HB1 := hide (HB0.out.drew.trans (hb.mono hz10))
            have hz11 := HB1.out.size
            have s0 := (hb.cell (p := ⟨W9.heap.size, 0, none⟩) (by show W9.heap.size < W10.drew.heap.size; exact hzg)).trans q0
            have s1 := (hb.cell (p := ⟨W9.heap.size, 1, none⟩) (by show W9.heap.size < W10.drew.heap.size; exact hzg)).trans q1
            have s2 := (hb.cell (p := ⟨W9.heap.size, 2, none⟩) (by show W9.heap.size < W10.drew.heap.size; exact hzg)).trans q2
            have s3 := (hb.cell (p := ⟨W9.heap.size, 3, none⟩) (by show W9.heap.size < W10.drew.heap.size; exact hzg)).trans q3
            have s4 := (hb.cell (p := ⟨W9.heap.size, 4, none⟩) (by show W9.heap.size < W10.drew.heap.size; exact hzg)).trans q4
            have s5 := (hb.cell (p := ⟨W9.heap.size, 5, none⟩) (by show W9.heap.size < W10.drew.heap.size; exact hzg)).trans q5
            have s6 := (hb.cell (p := ⟨W9.heap.size, 6, none⟩) (by show W9.heap.size < W10.drew.heap.size; exact hzg)).trans q6
            have s7 := (hb.cell (p := ⟨W9.heap.size, 7, none⟩) (by show W9.heap.size < W10.drew.heap.size; exact hzg)).trans q7
            have s8 := (hb.cell (p := ⟨W9.heap.size, 8, none⟩) (by show W9.heap.size < W10.drew.heap.size; exact hzg)).trans q8
            have hzg1 := hb.size
            clear hb hbox
            refine hK.out _ _ ⟨s0, s1, s2, s3, s4, s5, s6, s7, s8⟩ (fun hHeld => ?_)
            clear hK K
            try simp only [Act.put, List.setIfInBounds_toArray, List.set_cons_zero, List.set_cons_succ]
            refine takeH 2 28 (.bool true) rfl (by kernel_rfl) (by kernel_rfl) (by kernel_rfl) (fun _ _ _ h => h) (by assumption) rfl (fun _ _ => rfl) ?_
            try simp only [Act.put, List.setIfInBounds_toArray, List.set_cons_zero, List.set_cons_succ]
            refine takeH 3 29 (.bool true) rfl (by kernel_rfl) (by kernel_rfl) (by kernel_rfl) (fun _ _ _ h => h) (by assumption) rfl (fun _ _ => rfl) ?_
            try simp only [Act.put, List.setIfInBounds_toArray, List.set_cons_zero, List.set_cons_succ]
            refine skipH 4 30 rfl (by kernel_rfl) (by kernel_rfl) (by kernel_rfl) (fun _ _ _ h => h) (by assumption) rfl ?_
            try simp only [Act.put, List.setIfInBounds_toArray, List.set_cons_zero, List.set_cons_succ]
            refine skipH 5 31 rfl (by kernel_rfl) (by kernel_rfl) (by kernel_rfl) (fun _ _ _ h => h) (by assumption) rfl ?_
            try simp only [Act.put, List.setIfInBounds_toArray, List.set_cons_zero, List.set_cons_succ]
            refine skipH 6 32 rfl (by kernel_rfl) (by kernel_rfl) (by kernel_rfl) (fun _ _ _ h => h) (by assumption) rfl ?_
            try simp only [Act.put, List.setIfInBounds_toArray, List.set_cons_zero, List.set_cons_succ]
            refine skipH 7 33 rfl (by kernel_rfl) (by kernel_rfl) (by kernel_rfl) (fun _ _ _ h => h) (by assumption) rfl ?_
            try simp only [Act.put, List.setIfInBounds_toArray, List.set_cons_zero, List.set_cons_succ]
            refine skipH 8 34 rfl (by kernel_rfl) (by kernel_rfl) (by kernel_rfl) (fun _ _ _ h => h) (by assumption) rfl ?_
            try simp only [Act.put, List.setIfInBounds_toArray, List.set_cons_zero, List.set_cons_succ]
            refine skipH 9 35 rfl (by kernel_rfl) (by kernel_rfl) (by kernel_rfl) (fun _ _ _ h => h) (by assumption) rfl ?_
            try simp only [Act.put, List.setIfInBounds_toArray, List.set_cons_zero, List.set_cons_succ]
            refine skipH 10 36 rfl (by kernel_rfl) (by kernel_rfl) (by kernel_rfl) (fun _ _ _ h => h) (by assumption) rfl ?_
            try simp only [Act.put, List.setIfInBounds_toArray, List.set_cons_zero, List.set_cons_succ]
            refine skipH 11 37 rfl (by kernel_rfl) (by kernel_rfl) (by kernel_rfl) (fun _ _ _ h => h) (by assumption) rfl ?_
            try simp only [Act.put, List.setIfInBounds_toArray, List.set_cons_zero, List.set_cons_succ]
            refine skipH 12 38 rfl (by kernel_rfl) (by kernel_rfl) (by kernel_rfl) (fun _ _ _ h => h) (by assumption) rfl ?_
            try simp only [Act.put, List.setIfInBounds_toArray, List.set_cons_zero, List.set_cons_succ]
            refine skipH 13 39 rfl (by kernel_rfl) (by kernel_rfl) (by kernel_rfl) (fun _ _ _ h => h) (by assumption) rfl ?_
            try simp only [Act.put, List.setIfInBounds_toArray, List.set_cons_zero, List.set_cons_succ]
            refine skipH 14 40 rfl (by kernel_rfl) (by kernel_rfl) (by kernel_rfl) (fun _ _ _ h => h) (by assumption) rfl ?_
            try simp only [Act.put, List.setIfInBounds_toArray, List.set_cons_zero, List.set_cons_succ]
            refine skipH 15 41 rfl (by kernel_rfl) (by kernel_rfl) (by kernel_rfl) (fun _ _ _ h => h) (by assumption) rfl ?_
            try simp only [Act.put, List.setIfInBounds_toArray, List.set_cons_zero, List.set_cons_succ]
            refine skipH 16 42 rfl (by kernel_rfl) (by kernel_rfl) (by kernel_rfl) (fun _ _ _ h => h) (by assumption) rfl ?_
            try simp only [Act.put, List.setIfInBounds_toArray, List.set_cons_zero, List.set_cons_succ]
            refine skipH 17 43 rfl (by kernel_rfl) (by kernel_rfl) (by kernel_rfl) (fun _ _ _ h => h) (by assumption) rfl ?_
            try simp only [Act.put, List.setIfInBounds_toArray, List.set_cons_zero, List.set_cons_succ]
            refine skipH 18 44 rfl (by kernel_rfl) (by kernel_rfl) (by kernel_rfl) (fun _ _ _ h => h) (by assumption) rfl ?_
            try simp only [Act.put, List.setIfInBounds_toArray, List.set_cons_zero, List.set_cons_succ]
            refine skipH 19 45 rfl (by kernel_rfl) (by kernel_rfl) (by kernel_rfl) (fun _ _ _ h => h) (by assumption) rfl ?_
            try simp only [Act.put, List.setIfInBounds_toArray, List.set_cons_zero, List.set_cons_succ]
            refine skipH 20 46 rfl (by kernel_rfl) (by kernel_rfl) (by kernel_rfl) (fun _ _ _ h => h) (by assumption) rfl ?_
            try simp only [Act.put, List.setIfInBounds_toArray, List.set_cons_zero, List.set_cons_succ]
            refine skipH 21 47 rfl (by kernel_rfl) (by kernel_rfl) (by kernel_rfl) (fun _ _ _ h => h) (by assumption) rfl ?_
            try simp only [Act.put, List.setIfInBounds_toArray, List.set_cons_zero, List.set_cons_succ]
            refine skipH 22 48 rfl (by kernel_rfl) (by kernel_rfl) (by kernel_rfl) (fun _ _ _ h => h) (by assumption) rfl ?_
            try simp only [Act.put, List.setIfInBounds_toArray, List.set_cons_zero, List.set_cons_succ]
            refine takeH 23 49 (.bool true) rfl (by kernel_rfl) (by kernel_rfl) (by kernel_rfl) (fun _ _ _ h => h) (by assumption) rfl (fun _ _ => rfl) ?_
            try simp only [Act.put, List.setIfInBounds_toArray, List.set_cons_zero, List.set_cons_succ]
            refine wpAnyH_done (by kernel_rfl) ?_ _
            clear hHeld q0 q1 q2 q3 q4 q5 q6 q7 q8 s0 s1 s2 s3 s4 s5 s6 s7 s8 hc0 hc1 hc2 hc3 hc4 hc5 hc6 hc7 hc8
            go_wp2
            go_ret
            exact ⟨ret_bool D.out.symm, HB1.out⟩
          case true =>
            rw [hv] at hbox
            have HV := hide hv
            clear hv HB
            by_cases hk0 : k = 0
            · have HK0 := hide hk0
              have hk0' : ¬ (0 : Int) < (k : Int) := by omega
              clear hk0
              have HPre := hide (show Pre xs (k + 1) from HS.out.1.succ (by rw [HK0.out, HP0.out]; omega) (by rw [HK0.out, HP0.out]; simp) (fun h => by have := HK0.out; omega))
              have HPK := hide (fun W (h : Below w.heap.size w W) => path_any B (some ⟨b, off, none⟩) n c xs k W (HA.out W h) (by have := h.size; omega) (by omega) hlt HPre.out)
              go_wp2_with fail
              generalize (W9.alloc (.cells #[.int .i64 y, .int .i64 y1, .int .i64 y2, .int .i64 y3, .int .i64 y4, .int .i64 y5, .int .i64 y6, .int .i64 y7, .int .i64 y8] 43)) = W10 at q0 q1 q2 q3 q4 q5 q6 q7 q8 HB0 hzg ⊢
              have hz10 := HB0.out.size
              refine startH (n := 24) (S := fun w' => w'.cell? ⟨W9.heap.size, 0, none⟩ = some (.int .i64 y) ∧ w'.cell? ⟨W9.heap.size, 1, none⟩ = some (.int .i64 y1) ∧ w'.cell? ⟨W9.heap.size, 2, none⟩ = some (.int .i64 y2) ∧ w'.cell? ⟨W9.heap.size, 3, none⟩ = some (.int .i64 y3) ∧ w'.cell? ⟨W9.heap.size, 4, none⟩ = some (.int .i64 y4) ∧ w'.cell? ⟨W9.heap.size, 5, none⟩ = some (.int .i64 y5) ∧ w'.cell? ⟨W9.heap.size, 6, none⟩ = some (.int .i64 y6) ∧ w'.cell? ⟨W9.heap.size, 7, none⟩ = some (.int .i64 y7) ∧ w'.cell? ⟨W9.heap.size, 8, none⟩ = some (.int .i64 y8)) rfl (by kernel_rfl) ⟨q0, q1, q2, q3, q4, q5, q6, q7, q8⟩ (fun hHeld => ?_)
              refine takeH 0 26 (.agg #[.int .i64 y, .int .i64 y1, .int .i64 y2, .int .i64 y3, .int .i64 y4, .int .i64 y5, .int .i64 y6, .int .i64 y7, .int .i64 y8]) rfl (by kernel_rfl) (by kernel_rfl) (by kernel_rfl) (fun _ _ _ h => h) (by assumption) rfl (by intro w' hS'; (try dsimp only at hS'); go_simp) ?_
              try simp only [Act.put, List.setIfInBounds_toArray, List.set_cons_zero, List.set_cons_succ]
              refine wpAnyH_ready (rs := [1]) (by kernel_rfl) (by simp) ?_
              refine AllReadyH.cons (o := ?_) ?_ (fun K hK => ?_) AllReadyH.nil
              rotate_left
              · simp only [List.getElem?_toArray, List.getElem?_cons_succ, List.getElem?_cons_zero]; rfl
              go_simp
              go_at_call 39
              refine Calls.mono (hbox _) ?_
              rintro e W11 ⟨rfl, hb⟩
              have HB1 := hide (HB0.out.drew.trans (hb.mono hz10))
              have hz11 := HB1.out.size
              have s0 := (hb.cell (p := ⟨W9.heap.size, 0, none⟩) (by show W9.heap.size < W10.drew.heap.size; exact hzg)).trans q0
              have s1 := (hb.cell (p := ⟨W9.heap.size, 1, none⟩) (by show W9.heap.size < W10.drew.heap.size; exact hzg)).trans q1
              have s2 := (hb.cell (p := ⟨W9.heap.size, 2, none⟩) (by show W9.heap.size < W10.drew.heap.size; exact hzg)).trans q2
              have s3 := (hb.cell (p := ⟨W9.heap.size, 3, none⟩) (by show W9.heap.size < W10.drew.heap.size; exact hzg)).trans q3
              have s4 := (hb.cell (p := ⟨W9.heap.size, 4, none⟩) (by show W9.heap.size < W10.drew.heap.size; exact hzg)).trans q4
              have s5 := (hb.cell (p := ⟨W9.heap.size, 5, none⟩) (by show W9.heap.size < W10.drew.heap.size; exact hzg)).trans q5
              have s6 := (hb.cell (p := ⟨W9.heap.size, 6, none⟩) (by show W9.heap.size < W10.drew.heap.size; exact hzg)).trans q6
              have s7 := (hb.cell (p := ⟨W9.heap.size, 7, none⟩) (by show W9.heap.size < W10.drew.heap.size; exact hzg)).trans q7
              have s8 := (hb.cell (p := ⟨W9.heap.size, 8, none⟩) (by show W9.heap.size < W10.drew.heap.size; exact hzg)).trans q8
              have hzg1 := hb.size
              clear hb hbox
              refine hK.out _ _ ⟨s0, s1, s2, s3, s4, s5, s6, s7, s8⟩ (fun hHeld => ?_)
              clear hK K
              try simp only [Act.put, List.setIfInBounds_toArray, List.set_cons_zero, List.set_cons_succ]
              refine takeH 2 28 (.bool false) rfl (by kernel_rfl) (by kernel_rfl) (by kernel_rfl) (fun _ _ _ h => h) (by assumption) rfl (fun _ _ => rfl) ?_
              try simp only [Act.put, List.setIfInBounds_toArray, List.set_cons_zero, List.set_cons_succ]
              refine takeH 3 29 (.bool false) rfl (by kernel_rfl) (by kernel_rfl) (by kernel_rfl) (fun _ _ _ h => h) (by assumption) rfl (fun _ _ => rfl) ?_
              try simp only [Act.put, List.setIfInBounds_toArray, List.set_cons_zero, List.set_cons_succ]
              refine takeH 4 30 (.int .i64 k) rfl (by kernel_rfl) (by kernel_rfl) (by kernel_rfl) (fun _ _ _ h => h) (by assumption) rfl (fun _ _ => rfl) ?_
              try simp only [Act.put, List.setIfInBounds_toArray, List.set_cons_zero, List.set_cons_succ]
              refine takeH 5 31 (.bool false) rfl (by kernel_rfl) (by kernel_rfl) (by kernel_rfl) (fun _ _ _ h => h) (by assumption) rfl (by intro w' hS'; (try dsimp only at hS'); go_simp; exact HK0.out) ?_
              try simp only [Act.put, List.setIfInBounds_toArray, List.set_cons_zero, List.set_cons_succ]
              refine takeH 6 32 (.bool false) rfl (by kernel_rfl) (by kernel_rfl) (by kernel_rfl) (fun _ _ _ h => h) (by assumption) rfl (fun _ _ => rfl) ?_
              try simp only [Act.put, List.setIfInBounds_toArray, List.set_cons_zero, List.set_cons_succ]
              refine skipH 7 33 rfl (by kernel_rfl) (by kernel_rfl) (by kernel_rfl) (fun _ _ _ h => h) (by assumption) rfl ?_
              try simp only [Act.put, List.setIfInBounds_toArray, List.set_cons_zero, List.set_cons_succ]
              refine skipH 8 34 rfl (by kernel_rfl) (by kernel_rfl) (by kernel_rfl) (fun _ _ _ h => h) (by assumption) rfl ?_
              try simp only [Act.put, List.setIfInBounds_toArray, List.set_cons_zero, List.set_cons_succ]
              refine skipH 9 35 rfl (by kernel_rfl) (by kernel_rfl) (by kernel_rfl) (fun _ _ _ h => h) (by assumption) rfl ?_
              try simp only [Act.put, List.setIfInBounds_toArray, List.set_cons_zero, List.set_cons_succ]
              refine skipH 10 36 rfl (by kernel_rfl) (by kernel_rfl) (by kernel_rfl) (fun _ _ _ h => h) (by assumption) rfl ?_
              try simp only [Act.put, List.setIfInBounds_toArray, List.set_cons_zero, List.set_cons_succ]
              refine skipH 11 37 rfl (by kernel_rfl) (by kernel_rfl) (by kernel_rfl) (fun _ _ _ h => h) (by assumption) rfl ?_
              try simp only [Act.put, List.setIfInBounds_toArray, List.set_cons_zero, List.set_cons_succ]
              refine skipH 12 38 rfl (by kernel_rfl) (by kernel_rfl) (by kernel_rfl) (fun _ _ _ h => h) (by assumption) rfl ?_
              try simp only [Act.put, List.setIfInBounds_toArray, List.set_cons_zero, List.set_cons_succ]
              refine skipH 13 39 rfl (by kernel_rfl) (by kernel_rfl) (by kernel_rfl) (fun _ _ _ h => h) (by assumption) rfl ?_
              try simp only [Act.put, List.setIfInBounds_toArray, List.set_cons_zero, List.set_cons_succ]
              refine skipH 14 40 rfl (by kernel_rfl) (by kernel_rfl) (by kernel_rfl) (fun _ _ _ h => h) (by assumption) rfl ?_
              try simp only [Act.put, List.setIfInBounds_toArray, List.set_cons_zero, List.set_cons_succ]
              refine skipH 15 41 rfl (by kernel_rfl) (by kernel_rfl) (by kernel_rfl) (fun _ _ _ h => h) (by assumption) rfl ?_
              try simp only [Act.put, List.setIfInBounds_toArray, List.set_cons_zero, List.set_cons_succ]
              refine skipH 16 42 rfl (by kernel_rfl) (by kernel_rfl) (by kernel_rfl) (fun _ _ _ h => h) (by assumption) rfl ?_
              try simp only [Act.put, List.setIfInBounds_toArray, List.set_cons_zero, List.set_cons_succ]
              refine skipH 17 43 rfl (by kernel_rfl) (by kernel_rfl) (by kernel_rfl) (fun _ _ _ h => h) (by assumption) rfl ?_
              try simp only [Act.put, List.setIfInBounds_toArray, List.set_cons_zero, List.set_cons_succ]
              refine skipH 18 44 rfl (by kernel_rfl) (by kernel_rfl) (by kernel_rfl) (fun _ _ _ h => h) (by assumption) rfl ?_
              try simp only [Act.put, List.setIfInBounds_toArray, List.set_cons_zero, List.set_cons_succ]
              refine skipH 19 45 rfl (by kernel_rfl) (by kernel_rfl) (by kernel_rfl) (fun _ _ _ h => h) (by assumption) rfl ?_
              try simp only [Act.put, List.setIfInBounds_toArray, List.set_cons_zero, List.set_cons_succ]
              refine skipH 20 46 rfl (by kernel_rfl) (by kernel_rfl) (by kernel_rfl) (fun _ _ _ h => h) (by assumption) rfl ?_
              try simp only [Act.put, List.setIfInBounds_toArray, List.set_cons_zero, List.set_cons_succ]
              refine skipH 21 47 rfl (by kernel_rfl) (by kernel_rfl) (by kernel_rfl) (fun _ _ _ h => h) (by assumption) rfl ?_
              try simp only [Act.put, List.setIfInBounds_toArray, List.set_cons_zero, List.set_cons_succ]
              refine takeH 22 48 (.bool false) rfl (by kernel_rfl) (by kernel_rfl) (by kernel_rfl) (fun _ _ _ h => h) (by assumption) rfl (fun _ _ => rfl) ?_
              try simp only [Act.put, List.setIfInBounds_toArray, List.set_cons_zero, List.set_cons_succ]
              refine takeH 23 49 (.bool false) rfl (by kernel_rfl) (by kernel_rfl) (by kernel_rfl) (fun _ _ _ h => h) (by assumption) rfl (fun _ _ => rfl) ?_
              try simp only [Act.put, List.setIfInBounds_toArray, List.set_cons_zero, List.set_cons_succ]
              refine wpAnyH_done (by kernel_rfl) ?_ _
              clear hHeld q0 q1 q2 q3 q4 q5 q6 q7 q8 s0 s1 s2 s3 s4 s5 s6 s7 s8 hc0 hc1 hc2 hc3 hc4 hc5 hc6 hc7 hc8
              go_wp2_with fail
              refine (HPK.out _ HB1.out).mono ?_
              rintro e W13 ⟨A3, m3, hm3, rfl, _, hb3⟩
              have HB3 := hide (HB1.out.trans (hb3.mono hz11))
              have h6 : ¬ (6 : Int) < (m3 : Int) := by rw [hm3, upN_root (by rw [HK0.out, HP0.out]; omega)]; simp
              have D := hide (HS.out.succ HPre.out HV.out (fun h => by have := HK0.out; omega) (by rw [← hm3]; omega))
              clear hb3 hm3
              go_wp2
              go_roundw
              case rel => exact ⟨k + 1, _, by omega, by go_num, rfl, D, HB3⟩
              case measure => simp [intOf]; omega
            · have hk0' : (0 : Int) < (k : Int) := by omega
              have e1 : IntKind.i64.wrap ((k : Int) - 1) = ((k - 1 : Nat) : Int) := by rw [IntWalk.i64_in _ (by omega)]; omega
              obtain ⟨k1, hk1⟩ : ∃ k1, k - 1 = k1 := ⟨_, rfl⟩
              rw [hk1] at e1
              have hk1n : k1 < n := by omega
              have hk1k : k1 + 1 = k := by omega
              have HK1 := hide hk1
              clear hk1
              cases hr : inR y 0 (k1 : Int)
              case false =>
                have D := hide (treeV_no (xs := xs) (n := n) (fun h => by have := h.pre k hlt; rw [HY.out] at this; have h2 := inR_not.1 hr; omega))
                have HKK := hide hk1k
                clear hk1k
                go_wp2_with fail
                generalize (W9.alloc (.cells #[.int .i64 y, .int .i64 y1, .int .i64 y2, .int .i64 y3, .int .i64 y4, .int .i64 y5, .int .i64 y6, .int .i64 y7, .int .i64 y8] 43)) = W10 at q0 q1 q2 q3 q4 q5 q6 q7 q8 HB0 hzg ⊢
                have hz10 := HB0.out.size
                refine startH (n := 24) (S := fun w' => w'.cell? ⟨W9.heap.size, 0, none⟩ = some (.int .i64 y) ∧ w'.cell? ⟨W9.heap.size, 1, none⟩ = some (.int .i64 y1) ∧ w'.cell? ⟨W9.heap.size, 2, none⟩ = some (.int .i64 y2) ∧ w'.cell? ⟨W9.heap.size, 3, none⟩ = some (.int .i64 y3) ∧ w'.cell? ⟨W9.heap.size, 4, none⟩ = some (.int .i64 y4) ∧ w'.cell? ⟨W9.heap.size, 5, none⟩ = some (.int .i64 y5) ∧ w'.cell? ⟨W9.heap.size, 6, none⟩ = some (.int .i64 y6) ∧ w'.cell? ⟨W9.heap.size, 7, none⟩ = some (.int .i64 y7) ∧ w'.cell? ⟨W9.heap.size, 8, none⟩ = some (.int .i64 y8)) rfl (by kernel_rfl) ⟨q0, q1, q2, q3, q4, q5, q6, q7, q8⟩ (fun hHeld => ?_)
                refine takeH 0 26 (.agg #[.int .i64 y, .int .i64 y1, .int .i64 y2, .int .i64 y3, .int .i64 y4, .int .i64 y5, .int .i64 y6, .int .i64 y7, .int .i64 y8]) rfl (by kernel_rfl) (by kernel_rfl) (by kernel_rfl) (fun _ _ _ h => h) (by assumption) rfl (by intro w' hS'; (try dsimp only at hS'); go_simp) ?_
                try simp only [Act.put, List.setIfInBounds_toArray, List.set_cons_zero, List.set_cons_succ]
                refine wpAnyH_ready (rs := [1]) (by kernel_rfl) (by simp) ?_
                refine AllReadyH.cons (o := ?_) ?_ (fun K hK => ?_) AllReadyH.nil
                rotate_left
                · simp only [List.getElem?_toArray, List.getElem?_cons_succ, List.getElem?_cons_zero]; rfl
                go_simp
                go_at_call 39
                refine Calls.mono (hbox _) ?_
                rintro e W11 ⟨rfl, hb⟩
                have HB1 := hide (HB0.out.drew.trans (hb.mono hz10))
                have hz11 := HB1.out.size
                have s0 := (hb.cell (p := ⟨W9.heap.size, 0, none⟩) (by show W9.heap.size < W10.drew.heap.size; exact hzg)).trans q0
                have s1 := (hb.cell (p := ⟨W9.heap.size, 1, none⟩) (by show W9.heap.size < W10.drew.heap.size; exact hzg)).trans q1
                have s2 := (hb.cell (p := ⟨W9.heap.size, 2, none⟩) (by show W9.heap.size < W10.drew.heap.size; exact hzg)).trans q2
                have s3 := (hb.cell (p := ⟨W9.heap.size, 3, none⟩) (by show W9.heap.size < W10.drew.heap.size; exact hzg)).trans q3
                have s4 := (hb.cell (p := ⟨W9.heap.size, 4, none⟩) (by show W9.heap.size < W10.drew.heap.size; exact hzg)).trans q4
                have s5 := (hb.cell (p := ⟨W9.heap.size, 5, none⟩) (by show W9.heap.size < W10.drew.heap.size; exact hzg)).trans q5
                have s6 := (hb.cell (p := ⟨W9.heap.size, 6, none⟩) (by show W9.heap.size < W10.drew.heap.size; exact hzg)).trans q6
                have s7 := (hb.cell (p := ⟨W9.heap.size, 7, none⟩) (by show W9.heap.size < W10.drew.heap.size; exact hzg)).trans q7
                have s8 := (hb.cell (p := ⟨W9.heap.size, 8, none⟩) (by show W9.heap.size < W10.drew.heap.size; exact hzg)).trans q8
                have hzg1 := hb.size
                clear hb hbox
                refine hK.out _ _ ⟨s0, s1, s2, s3, s4, s5, s6, s7, s8⟩ (fun hHeld => ?_)
                clear hK K
                try simp only [Act.put, List.setIfInBounds_toArray, List.set_cons_zero, List.set_cons_succ]
                refine takeH 2 28 (.bool false) rfl (by kernel_rfl) (by kernel_rfl) (by kernel_rfl) (fun _ _ _ h => h) (by assumption) rfl (fun _ _ => rfl) ?_
                try simp only [Act.put, List.setIfInBounds_toArray, List.set_cons_zero, List.set_cons_succ]
                refine takeH 3 29 (.bool false) rfl (by kernel_rfl) (by kernel_rfl) (by kernel_rfl) (fun _ _ _ h => h) (by assumption) rfl (fun _ _ => rfl) ?_
                try simp only [Act.put, List.setIfInBounds_toArray, List.set_cons_zero, List.set_cons_succ]
                refine takeH 4 30 (.int .i64 k) rfl (by kernel_rfl) (by kernel_rfl) (by kernel_rfl) (fun _ _ _ h => h) (by assumption) rfl (fun _ _ => rfl) ?_
                try simp only [Act.put, List.setIfInBounds_toArray, List.set_cons_zero, List.set_cons_succ]
                refine takeH 5 31 (.bool true) rfl (by kernel_rfl) (by kernel_rfl) (by kernel_rfl) (fun _ _ _ h => h) (by assumption) rfl (by intro w' hS'; (try dsimp only at hS'); go_simp; omega) ?_
                try simp only [Act.put, List.setIfInBounds_toArray, List.set_cons_zero, List.set_cons_succ]
                refine takeH 6 32 (.bool true) rfl (by kernel_rfl) (by kernel_rfl) (by kernel_rfl) (fun _ _ _ h => h) (by assumption) rfl (fun _ _ => rfl) ?_
                try simp only [Act.put, List.setIfInBounds_toArray, List.set_cons_zero, List.set_cons_succ]
                refine takeH 7 33 (.pointer (some ⟨W9.heap.size, 0, none⟩)) rfl (by kernel_rfl) (by kernel_rfl) (by kernel_rfl) (fun _ _ _ h => h) (by assumption) rfl (by intro w' hS'; (try dsimp only at hS'); go_simp) ?_
                try simp only [Act.put, List.setIfInBounds_toArray, List.set_cons_zero, List.set_cons_succ]
                refine takeH 8 34 (.int .i64 y) rfl (by kernel_rfl) (by kernel_rfl) (by kernel_rfl) (fun _ _ _ h => h) (by assumption) rfl (by intro w' hS'; (try dsimp only at hS'); go_simp) ?_
                try simp only [Act.put, List.setIfInBounds_toArray, List.set_cons_zero, List.set_cons_succ]
                refine takeH 9 35 (.int .i64 k) rfl (by kernel_rfl) (by kernel_rfl) (by kernel_rfl) (fun _ _ _ h => h) (by assumption) rfl (fun _ _ => rfl) ?_
                try simp only [Act.put, List.setIfInBounds_toArray, List.set_cons_zero, List.set_cons_succ]
                refine takeH 10 36 (.int .i64 k1) rfl (by kernel_rfl) (by kernel_rfl) (by kernel_rfl) (fun _ _ _ h => h) (by assumption) rfl (by intro w' hS'; (try dsimp only at hS'); go_simp) ?_
                try simp only [Act.put, List.setIfInBounds_toArray, List.set_cons_zero, List.set_cons_succ]
                refine wpAnyH_ready (rs := [11]) (by kernel_rfl) (by simp) ?_
                refine AllReadyH.cons (o := ?_) ?_ (fun K hK => ?_) AllReadyH.nil
                rotate_left
                · simp only [List.getElem?_toArray, List.getElem?_cons_succ, List.getElem?_cons_zero]; rfl
                go_simp
                go_at_call 28
                with_reducible refine (within_is hr _).mono ?_
                rintro e w' ⟨rfl, rfl⟩
                refine hK.out _ _ ⟨s0, s1, s2, s3, s4, s5, s6, s7, s8⟩ (fun hHeld => ?_)
                clear hK K
                try simp only [Act.put, List.setIfInBounds_toArray, List.set_cons_zero, List.set_cons_succ]
                refine takeH 12 38 (.bool false) rfl (by kernel_rfl) (by kernel_rfl) (by kernel_rfl) (fun _ _ _ h => h) (by assumption) rfl (fun _ _ => rfl) ?_
                try simp only [Act.put, List.setIfInBounds_toArray, List.set_cons_zero, List.set_cons_succ]
                refine skipH 13 39 rfl (by kernel_rfl) (by kernel_rfl) (by kernel_rfl) (fun _ _ _ h => h) (by assumption) rfl ?_
                try simp only [Act.put, List.setIfInBounds_toArray, List.set_cons_zero, List.set_cons_succ]
                refine skipH 14 40 rfl (by kernel_rfl) (by kernel_rfl) (by kernel_rfl) (fun _ _ _ h => h) (by assumption) rfl ?_
                try simp only [Act.put, List.setIfInBounds_toArray, List.set_cons_zero, List.set_cons_succ]
                refine skipH 15 41 rfl (by kernel_rfl) (by kernel_rfl) (by kernel_rfl) (fun _ _ _ h => h) (by assumption) rfl ?_
                try simp only [Act.put, List.setIfInBounds_toArray, List.set_cons_zero, List.set_cons_succ]
                refine skipH 16 42 rfl (by kernel_rfl) (by kernel_rfl) (by kernel_rfl) (fun _ _ _ h => h) (by assumption) rfl ?_
                try simp only [Act.put, List.setIfInBounds_toArray, List.set_cons_zero, List.set_cons_succ]
                refine skipH 17 43 rfl (by kernel_rfl) (by kernel_rfl) (by kernel_rfl) (fun _ _ _ h => h) (by assumption) rfl ?_
                try simp only [Act.put, List.setIfInBounds_toArray, List.set_cons_zero, List.set_cons_succ]
                refine skipH 18 44 rfl (by kernel_rfl) (by kernel_rfl) (by kernel_rfl) (fun _ _ _ h => h) (by assumption) rfl ?_
                try simp only [Act.put, List.setIfInBounds_toArray, List.set_cons_zero, List.set_cons_succ]
                refine skipH 19 45 rfl (by kernel_rfl) (by kernel_rfl) (by kernel_rfl) (fun _ _ _ h => h) (by assumption) rfl ?_
                try simp only [Act.put, List.setIfInBounds_toArray, List.set_cons_zero, List.set_cons_succ]
                refine takeH 20 46 (.bool false) rfl (by kernel_rfl) (by kernel_rfl) (by kernel_rfl) (fun _ _ _ h => h) (by assumption) rfl (fun _ _ => rfl) ?_
                try simp only [Act.put, List.setIfInBounds_toArray, List.set_cons_zero, List.set_cons_succ]
                refine takeH 21 47 (.bool true) rfl (by kernel_rfl) (by kernel_rfl) (by kernel_rfl) (fun _ _ _ h => h) (by assumption) rfl (fun _ _ => rfl) ?_
                try simp only [Act.put, List.setIfInBounds_toArray, List.set_cons_zero, List.set_cons_succ]
                refine takeH 22 48 (.bool true) rfl (by kernel_rfl) (by kernel_rfl) (by kernel_rfl) (fun _ _ _ h => h) (by assumption) rfl (fun _ _ => rfl) ?_
                try simp only [Act.put, List.setIfInBounds_toArray, List.set_cons_zero, List.set_cons_succ]
                refine takeH 23 49 (.bool true) rfl (by kernel_rfl) (by kernel_rfl) (by kernel_rfl) (fun _ _ _ h => h) (by assumption) rfl (fun _ _ => rfl) ?_
                try simp only [Act.put, List.setIfInBounds_toArray, List.set_cons_zero, List.set_cons_succ]
                refine wpAnyH_done (by kernel_rfl) ?_ _
                clear hHeld q0 q1 q2 q3 q4 q5 q6 q7 q8 s0 s1 s2 s3 s4 s5 s6 s7 s8 hc0 hc1 hc2 hc3 hc4 hc5 hc6 hc7 hc8
                go_wp2
                go_ret
                exact ⟨ret_bool D.out.symm, HB1.out⟩
              case true =>
                have hr2 := inR_iff.1 hr
                have HPre := hide (show Pre xs (k + 1) from HS.out.1.succ (by rw [HY.out]; omega) (by rw [HY.out]; omega) (fun h => by rw [HY.out]; omega))
                have HPA := hide (fun W (h : Below w.heap.size w W) => path_any B (some ⟨b, off, none⟩) n c xs k1 W (HA.out W h) (by have := h.size; omega) (by omega) hk1n (HS.out.1.le (by omega)))
                have HPK := hide (fun W (h : Below w.heap.size w W) => path_any B (some ⟨b, off, none⟩) n c xs k W (HA.out W h) (by have := h.size; omega) (by omega) hlt HPre.out)
                have HL := hide (show (upN xs k1).length ≤ 17 by have := (upN_len HS.out.1 (show k1 < k by omega)).2; omega)
                have HKK := hide hk1k
                clear hr2 hk1k
                cases hin : decide (y ∈ (upN xs k1).reverse)
                case false =>
                  have HIN := hide hin
                  have D := hide (treeV_no (xs := xs) (n := n) (fun h => by have h1 := h.order k (by omega) hlt; rw [HK1.out, HY.out] at h1; have h2 := of_decide_eq_false HIN.out; exact h2 (List.mem_reverse.2 h1)))
                  clear hin
                  go_wp2_with fail
                  generalize (W9.alloc (.cells #[.int .i64 y, .int .i64 y1, .int .i64 y2, .int .i64 y3, .int .i64 y4, .int .i64 y5, .int .i64 y6, .int .i64 y7, .int .i64 y8] 43)) = W10 at q0 q1 q2 q3 q4 q5 q6 q7 q8 HB0 hzg ⊢
                  have hz10 := HB0.out.size
                  refine startH (n := 24) (S := fun w' => w'.cell? ⟨W9.heap.size, 0, none⟩ = some (.int .i64 y) ∧ w'.cell? ⟨W9.heap.size, 1, none⟩ = some (.int .i64 y1) ∧ w'.cell? ⟨W9.heap.size, 2, none⟩ = some (.int .i64 y2) ∧ w'.cell? ⟨W9.heap.size, 3, none⟩ = some (.int .i64 y3) ∧ w'.cell? ⟨W9.heap.size, 4, none⟩ = some (.int .i64 y4) ∧ w'.cell? ⟨W9.heap.size, 5, none⟩ = some (.int .i64 y5) ∧ w'.cell? ⟨W9.heap.size, 6, none⟩ = some (.int .i64 y6) ∧ w'.cell? ⟨W9.heap.size, 7, none⟩ = some (.int .i64 y7) ∧ w'.cell? ⟨W9.heap.size, 8, none⟩ = some (.int .i64 y8)) rfl (by kernel_rfl) ⟨q0, q1, q2, q3, q4, q5, q6, q7, q8⟩ (fun hHeld => ?_)
                  refine takeH 0 26 (.agg #[.int .i64 y, .int .i64 y1, .int .i64 y2, .int .i64 y3, .int .i64 y4, .int .i64 y5, .int .i64 y6, .int .i64 y7, .int .i64 y8]) rfl (by kernel_rfl) (by kernel_rfl) (by kernel_rfl) (fun _ _ _ h => h) (by assumption) rfl (by intro w' hS'; (try dsimp only at hS'); go_simp) ?_
                  try simp only [Act.put, List.setIfInBounds_toArray, List.set_cons_zero, List.set_cons_succ]
                  refine wpAnyH_ready (rs := [1]) (by kernel_rfl) (by simp) ?_
                  refine AllReadyH.cons (o := ?_) ?_ (fun K hK => ?_) AllReadyH.nil
                  rotate_left
                  · simp only [List.getElem?_toArray, List.getElem?_cons_succ, List.getElem?_cons_zero]; rfl
                  go_simp
                  go_at_call 39
                  refine Calls.mono (hbox _) ?_
                  rintro e W11 ⟨rfl, hb⟩
                  have HB1 := hide (HB0.out.drew.trans (hb.mono hz10))
                  have hz11 := HB1.out.size
                  have s0 := (hb.cell (p := ⟨W9.heap.size, 0, none⟩) (by show W9.heap.size < W10.drew.heap.size; exact hzg)).trans q0
                  have s1 := (hb.cell (p := ⟨W9.heap.size, 1, none⟩) (by show W9.heap.size < W10.drew.heap.size; exact hzg)).trans q1
                  have s2 := (hb.cell (p := ⟨W9.heap.size, 2, none⟩) (by show W9.heap.size < W10.drew.heap.size; exact hzg)).trans q2
                  have s3 := (hb.cell (p := ⟨W9.heap.size, 3, none⟩) (by show W9.heap.size < W10.drew.heap.size; exact hzg)).trans q3
                  have s4 := (hb.cell (p := ⟨W9.heap.size, 4, none⟩) (by show W9.heap.size < W10.drew.heap.size; exact hzg)).trans q4
                  have s5 := (hb.cell (p := ⟨W9.heap.size, 5, none⟩) (by show W9.heap.size < W10.drew.heap.size; exact hzg)).trans q5
                  have s6 := (hb.cell (p := ⟨W9.heap.size, 6, none⟩) (by show W9.heap.size < W10.drew.heap.size; exact hzg)).trans q6
                  have s7 := (hb.cell (p := ⟨W9.heap.size, 7, none⟩) (by show W9.heap.size < W10.drew.heap.size; exact hzg)).trans q7
                  have s8 := (hb.cell (p := ⟨W9.heap.size, 8, none⟩) (by show W9.heap.size < W10.drew.heap.size; exact hzg)).trans q8
                  have hzg1 := hb.size
                  clear hb hbox
                  refine hK.out _ _ ⟨s0, s1, s2, s3, s4, s5, s6, s7, s8⟩ (fun hHeld => ?_)
                  clear hK K
                  try simp only [Act.put, List.setIfInBounds_toArray, List.set_cons_zero, List.set_cons_succ]
                  refine takeH 2 28 (.bool false) rfl (by kernel_rfl) (by kernel_rfl) (by kernel_rfl) (fun _ _ _ h => h) (by assumption) rfl (fun _ _ => rfl) ?_
                  try simp only [Act.put, List.setIfInBounds_toArray, List.set_cons_zero, List.set_cons_succ]
                  refine takeH 3 29 (.bool false) rfl (by kernel_rfl) (by kernel_rfl) (by kernel_rfl) (fun _ _ _ h => h) (by assumption) rfl (fun _ _ => rfl) ?_
                  try simp only [Act.put, List.setIfInBounds_toArray, List.set_cons_zero, List.set_cons_succ]
                  refine takeH 4 30 (.int .i64 k) rfl (by kernel_rfl) (by kernel_rfl) (by kernel_rfl) (fun _ _ _ h => h) (by assumption) rfl (fun _ _ => rfl) ?_
                  try simp only [Act.put, List.setIfInBounds_toArray, List.set_cons_zero, List.set_cons_succ]
                  refine takeH 5 31 (.bool true) rfl (by kernel_rfl) (by kernel_rfl) (by kernel_rfl) (fun _ _ _ h => h) (by assumption) rfl (by intro w' hS'; (try dsimp only at hS'); go_simp; omega) ?_
                  try simp only [Act.put, List.setIfInBounds_toArray, List.set_cons_zero, List.set_cons_succ]
                  refine takeH 6 32 (.bool true) rfl (by kernel_rfl) (by kernel_rfl) (by kernel_rfl) (fun _ _ _ h => h) (by assumption) rfl (fun _ _ => rfl) ?_
                  try simp only [Act.put, List.setIfInBounds_toArray, List.set_cons_zero, List.set_cons_succ]
                  refine takeH 7 33 (.pointer (some ⟨W9.heap.size, 0, none⟩)) rfl (by kernel_rfl) (by kernel_rfl) (by kernel_rfl) (fun _ _ _ h => h) (by assumption) rfl (by intro w' hS'; (try dsimp only at hS'); go_simp) ?_
                  try simp only [Act.put, List.setIfInBounds_toArray, List.set_cons_zero, List.set_cons_succ]
                  refine takeH 8 34 (.int .i64 y) rfl (by kernel_rfl) (by kernel_rfl) (by kernel_rfl) (fun _ _ _ h => h) (by assumption) rfl (by intro w' hS'; (try dsimp only at hS'); go_simp) ?_
                  try simp only [Act.put, List.setIfInBounds_toArray, List.set_cons_zero, List.set_cons_succ]
                  refine takeH 9 35 (.int .i64 k) rfl (by kernel_rfl) (by kernel_rfl) (by kernel_rfl) (fun _ _ _ h => h) (by assumption) rfl (fun _ _ => rfl) ?_
                  try simp only [Act.put, List.setIfInBounds_toArray, List.set_cons_zero, List.set_cons_succ]
                  refine takeH 10 36 (.int .i64 k1) rfl (by kernel_rfl) (by kernel_rfl) (by kernel_rfl) (fun _ _ _ h => h) (by assumption) rfl (by intro w' hS'; (try dsimp only at hS'); go_simp) ?_
                  try simp only [Act.put, List.setIfInBounds_toArray, List.set_cons_zero, List.set_cons_succ]
                  refine wpAnyH_ready (rs := [11]) (by kernel_rfl) (by simp) ?_
                  refine AllReadyH.cons (o := ?_) ?_ (fun K hK => ?_) AllReadyH.nil
                  rotate_left
                  · simp only [List.getElem?_toArray, List.getElem?_cons_succ, List.getElem?_cons_zero]; rfl
                  go_simp
                  go_at_call 28
                  with_reducible refine (within_is hr _).mono ?_
                  rintro e w' ⟨rfl, rfl⟩
                  refine hK.out _ _ ⟨s0, s1, s2, s3, s4, s5, s6, s7, s8⟩ (fun hHeld => ?_)
                  clear hK K
                  try simp only [Act.put, List.setIfInBounds_toArray, List.set_cons_zero, List.set_cons_succ]
                  refine takeH 12 38 (.bool true) rfl (by kernel_rfl) (by kernel_rfl) (by kernel_rfl) (fun _ _ _ h => h) (by assumption) rfl (fun _ _ => rfl) ?_
                  try simp only [Act.put, List.setIfInBounds_toArray, List.set_cons_zero, List.set_cons_succ]
                  refine takeH 13 39 (.slice (some ⟨b, off, none⟩) n c) rfl (by kernel_rfl) (by kernel_rfl) (by kernel_rfl) (fun _ _ _ h => h) (by assumption) rfl (fun _ _ => rfl) ?_
                  try simp only [Act.put, List.setIfInBounds_toArray, List.set_cons_zero, List.set_cons_succ]
                  refine takeH 14 40 (.int .i64 k) rfl (by kernel_rfl) (by kernel_rfl) (by kernel_rfl) (fun _ _ _ h => h) (by assumption) rfl (fun _ _ => rfl) ?_
                  try simp only [Act.put, List.setIfInBounds_toArray, List.set_cons_zero, List.set_cons_succ]
                  refine takeH 15 41 (.int .i64 k1) rfl (by kernel_rfl) (by kernel_rfl) (by kernel_rfl) (fun _ _ _ h => h) (by assumption) rfl (by intro w' hS'; (try dsimp only at hS'); go_simp) ?_
                  try simp only [Act.put, List.setIfInBounds_toArray, List.set_cons_zero, List.set_cons_succ]
                  refine takeH 17 43 (.pointer (some ⟨W9.heap.size, 0, none⟩)) rfl (by kernel_rfl) (by kernel_rfl) (by kernel_rfl) (fun _ _ _ h => h) (by assumption) rfl (by intro w' hS'; (try dsimp only at hS'); go_simp) ?_
                  try simp only [Act.put, List.setIfInBounds_toArray, List.set_cons_zero, List.set_cons_succ]
                  refine takeH 18 44 (.int .i64 y) rfl (by kernel_rfl) (by kernel_rfl) (by kernel_rfl) (fun _ _ _ h => h) (by assumption) rfl (by intro w' hS'; (try dsimp only at hS'); go_simp) ?_
                  try simp only [Act.put, List.setIfInBounds_toArray, List.set_cons_zero, List.set_cons_succ]
                  refine wpAnyH_ready (rs := [16]) (by kernel_rfl) (by simp) ?_
                  refine AllReadyH.cons (o := ?_) ?_ (fun K hK => ?_) AllReadyH.nil
                  rotate_left
                  · simp only [List.getElem?_toArray, List.getElem?_cons_succ, List.getElem?_cons_zero]; rfl
                  go_simp
                  go_at_call 41
                  refine Calls.mono (HPA.out W11 HB1.out) ?_
                  rintro e W12 ⟨A12, m12, hm12, rfl, hr12, hb⟩
                  have HB2 := hide (HB1.out.trans (hb.mono hz11))
                  have hz12 := HB2.out.size
                  have u0 := (hb.cell (p := ⟨W9.heap.size, 0, none⟩) (by show W9.heap.size < W11.heap.size; exact Nat.lt_of_lt_of_le hzg hzg1)).trans s0
                  have u1 := (hb.cell (p := ⟨W9.heap.size, 1, none⟩) (by show W9.heap.size < W11.heap.size; exact Nat.lt_of_lt_of_le hzg hzg1)).trans s1
                  have u2 := (hb.cell (p := ⟨W9.heap.size, 2, none⟩) (by show W9.heap.size < W11.heap.size; exact Nat.lt_of_lt_of_le hzg hzg1)).trans s2
                  have u3 := (hb.cell (p := ⟨W9.heap.size, 3, none⟩) (by show W9.heap.size < W11.heap.size; exact Nat.lt_of_lt_of_le hzg hzg1)).trans s3
                  have u4 := (hb.cell (p := ⟨W9.heap.size, 4, none⟩) (by show W9.heap.size < W11.heap.size; exact Nat.lt_of_lt_of_le hzg hzg1)).trans s4
                  have u5 := (hb.cell (p := ⟨W9.heap.size, 5, none⟩) (by show W9.heap.size < W11.heap.size; exact Nat.lt_of_lt_of_le hzg hzg1)).trans s5
                  have u6 := (hb.cell (p := ⟨W9.heap.size, 6, none⟩) (by show W9.heap.size < W11.heap.size; exact Nat.lt_of_lt_of_le hzg hzg1)).trans s6
                  have u7 := (hb.cell (p := ⟨W9.heap.size, 7, none⟩) (by show W9.heap.size < W11.heap.size; exact Nat.lt_of_lt_of_le hzg hzg1)).trans s7
                  have u8 := (hb.cell (p := ⟨W9.heap.size, 8, none⟩) (by show W9.heap.size < W11.heap.size; exact Nat.lt_of_lt_of_le hzg hzg1)).trans s8
                  have HI12 := hide hr12.ints
                  have HM12 := hide hm12
                  have hm12' : m12 ≤ 1099511627776 := by have := HL.out; omega
                  clear hb hr12 hm12
                  refine hK.out _ _ ⟨u0, u1, u2, u3, u4, u5, u6, u7, u8⟩ (fun hHeld => ?_)
                  clear hK K
                  try simp only [Act.put, List.setIfInBounds_toArray, List.set_cons_zero, List.set_cons_succ]
                  refine wpAnyH_ready (rs := [19]) (by kernel_rfl) (by simp) ?_
                  refine AllReadyH.cons (o := ?_) ?_ (fun K hK => ?_) AllReadyH.nil
                  rotate_left
                  · simp only [List.getElem?_toArray, List.getElem?_cons_succ, List.getElem?_cons_zero]; rfl
                  go_simp
                  go_at_call 40
                  refine Calls.mono (containsInt_is HIN.out HI12.out hm12') ?_
                  rintro e w' ⟨rfl, rfl⟩
                  refine hK.out _ _ ⟨u0, u1, u2, u3, u4, u5, u6, u7, u8⟩ (fun hHeld => ?_)
                  clear hK K
                  try simp only [Act.put, List.setIfInBounds_toArray, List.set_cons_zero, List.set_cons_succ]
                  refine takeH 20 46 (.bool false) rfl (by kernel_rfl) (by kernel_rfl) (by kernel_rfl) (fun _ _ _ h => h) (by assumption) rfl (fun _ _ => rfl) ?_
                  try simp only [Act.put, List.setIfInBounds_toArray, List.set_cons_zero, List.set_cons_succ]
                  refine takeH 21 47 (.bool true) rfl (by kernel_rfl) (by kernel_rfl) (by kernel_rfl) (fun _ _ _ h => h) (by assumption) rfl (fun _ _ => rfl) ?_
                  try simp only [Act.put, List.setIfInBounds_toArray, List.set_cons_zero, List.set_cons_succ]
                  refine takeH 22 48 (.bool true) rfl (by kernel_rfl) (by kernel_rfl) (by kernel_rfl) (fun _ _ _ h => h) (by assumption) rfl (fun _ _ => rfl) ?_
                  try simp only [Act.put, List.setIfInBounds_toArray, List.set_cons_zero, List.set_cons_succ]
                  refine takeH 23 49 (.bool true) rfl (by kernel_rfl) (by kernel_rfl) (by kernel_rfl) (fun _ _ _ h => h) (by assumption) rfl (fun _ _ => rfl) ?_
                  try simp only [Act.put, List.setIfInBounds_toArray, List.set_cons_zero, List.set_cons_succ]
                  refine wpAnyH_done (by kernel_rfl) ?_ _
                  clear hHeld q0 q1 q2 q3 q4 q5 q6 q7 q8 s0 s1 s2 s3 s4 s5 s6 s7 s8 hc0 hc1 hc2 hc3 hc4 hc5 hc6 hc7 hc8 u0 u1 u2 u3 u4 u5 u6 u7 u8
                  go_wp2
                  go_ret
                  exact ⟨ret_bool D.out.symm, HB2.out⟩
                case true =>
                  have HIN := hide hin
                  have HIO := hide (show par xs k ∈ upN xs (k - 1) by rw [HK1.out, HY.out]; exact List.mem_reverse.1 (of_decide_eq_true hin))
                  clear hin
                  go_wp2_with fail
                  generalize (W9.alloc (.cells #[.int .i64 y, .int .i64 y1, .int .i64 y2, .int .i64 y3, .int .i64 y4, .int .i64 y5, .int .i64 y6, .int .i64 y7, .int .i64 y8] 43)) = W10 at q0 q1 q2 q3 q4 q5 q6 q7 q8 HB0 hzg ⊢
                  have hz10 := HB0.out.size
                  refine startH (n := 24) (S := fun w' => w'.cell? ⟨W9.heap.size, 0, none⟩ = some (.int .i64 y) ∧ w'.cell? ⟨W9.heap.size, 1, none⟩ = some (.int .i64 y1) ∧ w'.cell? ⟨W9.heap.size, 2, none⟩ = some (.int .i64 y2) ∧ w'.cell? ⟨W9.heap.size, 3, none⟩ = some (.int .i64 y3) ∧ w'.cell? ⟨W9.heap.size, 4, none⟩ = some (.int .i64 y4) ∧ w'.cell? ⟨W9.heap.size, 5, none⟩ = some (.int .i64 y5) ∧ w'.cell? ⟨W9.heap.size, 6, none⟩ = some (.int .i64 y6) ∧ w'.cell? ⟨W9.heap.size, 7, none⟩ = some (.int .i64 y7) ∧ w'.cell? ⟨W9.heap.size, 8, none⟩ = some (.int .i64 y8)) rfl (by kernel_rfl) ⟨q0, q1, q2, q3, q4, q5, q6, q7, q8⟩ (fun hHeld => ?_)
                  refine takeH 0 26 (.agg #[.int .i64 y, .int .i64 y1, .int .i64 y2, .int .i64 y3, .int .i64 y4, .int .i64 y5, .int .i64 y6, .int .i64 y7, .int .i64 y8]) rfl (by kernel_rfl) (by kernel_rfl) (by kernel_rfl) (fun _ _ _ h => h) (by assumption) rfl (by intro w' hS'; (try dsimp only at hS'); go_simp) ?_
                  try simp only [Act.put, List.setIfInBounds_toArray, List.set_cons_zero, List.set_cons_succ]
                  refine wpAnyH_ready (rs := [1]) (by kernel_rfl) (by simp) ?_
                  refine AllReadyH.cons (o := ?_) ?_ (fun K hK => ?_) AllReadyH.nil
                  rotate_left
                  · simp only [List.getElem?_toArray, List.getElem?_cons_succ, List.getElem?_cons_zero]; rfl
                  go_simp
                  go_at_call 39
                  refine Calls.mono (hbox _) ?_
                  rintro e W11 ⟨rfl, hb⟩
                  have HB1 := hide (HB0.out.drew.trans (hb.mono hz10))
                  have hz11 := HB1.out.size
                  have s0 := (hb.cell (p := ⟨W9.heap.size, 0, none⟩) (by show W9.heap.size < W10.drew.heap.size; exact hzg)).trans q0
                  have s1 := (hb.cell (p := ⟨W9.heap.size, 1, none⟩) (by show W9.heap.size < W10.drew.heap.size; exact hzg)).trans q1
                  have s2 := (hb.cell (p := ⟨W9.heap.size, 2, none⟩) (by show W9.heap.size < W10.drew.heap.size; exact hzg)).trans q2
                  have s3 := (hb.cell (p := ⟨W9.heap.size, 3, none⟩) (by show W9.heap.size < W10.drew.heap.size; exact hzg)).trans q3
                  have s4 := (hb.cell (p := ⟨W9.heap.size, 4, none⟩) (by show W9.heap.size < W10.drew.heap.size; exact hzg)).trans q4
                  have s5 := (hb.cell (p := ⟨W9.heap.size, 5, none⟩) (by show W9.heap.size < W10.drew.heap.size; exact hzg)).trans q5
                  have s6 := (hb.cell (p := ⟨W9.heap.size, 6, none⟩) (by show W9.heap.size < W10.drew.heap.size; exact hzg)).trans q6
                  have s7 := (hb.cell (p := ⟨W9.heap.size, 7, none⟩) (by show W9.heap.size < W10.drew.heap.size; exact hzg)).trans q7
                  have s8 := (hb.cell (p := ⟨W9.heap.size, 8, none⟩) (by show W9.heap.size < W10.drew.heap.size; exact hzg)).trans q8
                  have hzg1 := hb.size
                  clear hb hbox
                  refine hK.out _ _ ⟨s0, s1, s2, s3, s4, s5, s6, s7, s8⟩ (fun hHeld => ?_)
                  clear hK K
                  try simp only [Act.put, List.setIfInBounds_toArray, List.set_cons_zero, List.set_cons_succ]
                  refine takeH 2 28 (.bool false) rfl (by kernel_rfl) (by kernel_rfl) (by kernel_rfl) (fun _ _ _ h => h) (by assumption) rfl (fun _ _ => rfl) ?_
                  try simp only [Act.put, List.setIfInBounds_toArray, List.set_cons_zero, List.set_cons_succ]
                  refine takeH 3 29 (.bool false) rfl (by kernel_rfl) (by kernel_rfl) (by kernel_rfl) (fun _ _ _ h => h) (by assumption) rfl (fun _ _ => rfl) ?_
                  try simp only [Act.put, List.setIfInBounds_toArray, List.set_cons_zero, List.set_cons_succ]
                  refine takeH 4 30 (.int .i64 k) rfl (by kernel_rfl) (by kernel_rfl) (by kernel_rfl) (fun _ _ _ h => h) (by assumption) rfl (fun _ _ => rfl) ?_
                  try simp only [Act.put, List.setIfInBounds_toArray, List.set_cons_zero, List.set_cons_succ]
                  refine takeH 5 31 (.bool true) rfl (by kernel_rfl) (by kernel_rfl) (by kernel_rfl) (fun _ _ _ h => h) (by assumption) rfl (by intro w' hS'; (try dsimp only at hS'); go_simp; omega) ?_
                  try simp only [Act.put, List.setIfInBounds_toArray, List.set_cons_zero, List.set_cons_succ]
                  refine takeH 6 32 (.bool true) rfl (by kernel_rfl) (by kernel_rfl) (by kernel_rfl) (fun _ _ _ h => h) (by assumption) rfl (fun _ _ => rfl) ?_
                  try simp only [Act.put, List.setIfInBounds_toArray, List.set_cons_zero, List.set_cons_succ]
                  refine takeH 7 33 (.pointer (some ⟨W9.heap.size, 0, none⟩)) rfl (by kernel_rfl) (by kernel_rfl) (by kernel_rfl) (fun _ _ _ h => h) (by assumption) rfl (by intro w' hS'; (try dsimp only at hS'); go_simp) ?_
                  try simp only [Act.put, List.setIfInBounds_toArray, List.set_cons_zero, List.set_cons_succ]
                  refine takeH 8 34 (.int .i64 y) rfl (by kernel_rfl) (by kernel_rfl) (by kernel_rfl) (fun _ _ _ h => h) (by assumption) rfl (by intro w' hS'; (try dsimp only at hS'); go_simp) ?_
                  try simp only [Act.put, List.setIfInBounds_toArray, List.set_cons_zero, List.set_cons_succ]
                  refine takeH 9 35 (.int .i64 k) rfl (by kernel_rfl) (by kernel_rfl) (by kernel_rfl) (fun _ _ _ h => h) (by assumption) rfl (fun _ _ => rfl) ?_
                  try simp only [Act.put, List.setIfInBounds_toArray, List.set_cons_zero, List.set_cons_succ]
                  refine takeH 10 36 (.int .i64 k1) rfl (by kernel_rfl) (by kernel_rfl) (by kernel_rfl) (fun _ _ _ h => h) (by assumption) rfl (by intro w' hS'; (try dsimp only at hS'); go_simp) ?_
                  try simp only [Act.put, List.setIfInBounds_toArray, List.set_cons_zero, List.set_cons_succ]
                  refine wpAnyH_ready (rs := [11]) (by kernel_rfl) (by simp) ?_
                  refine AllReadyH.cons (o := ?_) ?_ (fun K hK => ?_) AllReadyH.nil
                  rotate_left
                  · simp only [List.getElem?_toArray, List.getElem?_cons_succ, List.getElem?_cons_zero]; rfl
                  go_simp
                  go_at_call 28
                  with_reducible refine (within_is hr _).mono ?_
                  rintro e w' ⟨rfl, rfl⟩
                  refine hK.out _ _ ⟨s0, s1, s2, s3, s4, s5, s6, s7, s8⟩ (fun hHeld => ?_)
                  clear hK K
                  try simp only [Act.put, List.setIfInBounds_toArray, List.set_cons_zero, List.set_cons_succ]
                  refine takeH 12 38 (.bool true) rfl (by kernel_rfl) (by kernel_rfl) (by kernel_rfl) (fun _ _ _ h => h) (by assumption) rfl (fun _ _ => rfl) ?_
                  try simp only [Act.put, List.setIfInBounds_toArray, List.set_cons_zero, List.set_cons_succ]
                  refine takeH 13 39 (.slice (some ⟨b, off, none⟩) n c) rfl (by kernel_rfl) (by kernel_rfl) (by kernel_rfl) (fun _ _ _ h => h) (by assumption) rfl (fun _ _ => rfl) ?_
                  try simp only [Act.put, List.setIfInBounds_toArray, List.set_cons_zero, List.set_cons_succ]
                  refine takeH 14 40 (.int .i64 k) rfl (by kernel_rfl) (by kernel_rfl) (by kernel_rfl) (fun _ _ _ h => h) (by assumption) rfl (fun _ _ => rfl) ?_
                  try simp only [Act.put, List.setIfInBounds_toArray, List.set_cons_zero, List.set_cons_succ]
                  refine takeH 15 41 (.int .i64 k1) rfl (by kernel_rfl) (by kernel_rfl) (by kernel_rfl) (fun _ _ _ h => h) (by assumption) rfl (by intro w' hS'; (try dsimp only at hS'); go_simp) ?_
                  try simp only [Act.put, List.setIfInBounds_toArray, List.set_cons_zero, List.set_cons_succ]
                  refine takeH 17 43 (.pointer (some ⟨W9.heap.size, 0, none⟩)) rfl (by kernel_rfl) (by kernel_rfl) (by kernel_rfl) (fun _ _ _ h => h) (by assumption) rfl (by intro w' hS'; (try dsimp only at hS'); go_simp) ?_
                  try simp only [Act.put, List.setIfInBounds_toArray, List.set_cons_zero, List.set_cons_succ]
                  refine takeH 18 44 (.int .i64 y) rfl (by kernel_rfl) (by kernel_rfl) (by kernel_rfl) (fun _ _ _ h => h) (by assumption) rfl (by intro w' hS'; (try dsimp only at hS'); go_simp) ?_
                  try simp only [Act.put, List.setIfInBounds_toArray, List.set_cons_zero, List.set_cons_succ]
                  refine wpAnyH_ready (rs := [16]) (by kernel_rfl) (by simp) ?_
                  refine AllReadyH.cons (o := ?_) ?_ (fun K hK => ?_) AllReadyH.nil
                  rotate_left
                  · simp only [List.getElem?_toArray, List.getElem?_cons_succ, List.getElem?_cons_zero]; rfl
                  go_simp
                  go_at_call 41
                  refine Calls.mono (HPA.out W11 HB1.out) ?_
                  rintro e W12 ⟨A12, m12, hm12, rfl, hr12, hb⟩
                  have HB2 := hide (HB1.out.trans (hb.mono hz11))
                  have hz12 := HB2.out.size
                  have u0 := (hb.cell (p := ⟨W9.heap.size, 0, none⟩) (by show W9.heap.size < W11.heap.size; exact Nat.lt_of_lt_of_le hzg hzg1)).trans s0
                  have u1 := (hb.cell (p := ⟨W9.heap.size, 1, none⟩) (by show W9.heap.size < W11.heap.size; exact Nat.lt_of_lt_of_le hzg hzg1)).trans s1
                  have u2 := (hb.cell (p := ⟨W9.heap.size, 2, none⟩) (by show W9.heap.size < W11.heap.size; exact Nat.lt_of_lt_of_le hzg hzg1)).trans s2
                  have u3 := (hb.cell (p := ⟨W9.heap.size, 3, none⟩) (by show W9.heap.size < W11.heap.size; exact Nat.lt_of_lt_of_le hzg hzg1)).trans s3
                  have u4 := (hb.cell (p := ⟨W9.heap.size, 4, none⟩) (by show W9.heap.size < W11.heap.size; exact Nat.lt_of_lt_of_le hzg hzg1)).trans s4
                  have u5 := (hb.cell (p := ⟨W9.heap.size, 5, none⟩) (by show W9.heap.size < W11.heap.size; exact Nat.lt_of_lt_of_le hzg hzg1)).trans s5
                  have u6 := (hb.cell (p := ⟨W9.heap.size, 6, none⟩) (by show W9.heap.size < W11.heap.size; exact Nat.lt_of_lt_of_le hzg hzg1)).trans s6
                  have u7 := (hb.cell (p := ⟨W9.heap.size, 7, none⟩) (by show W9.heap.size < W11.heap.size; exact Nat.lt_of_lt_of_le hzg hzg1)).trans s7
                  have u8 := (hb.cell (p := ⟨W9.heap.size, 8, none⟩) (by show W9.heap.size < W11.heap.size; exact Nat.lt_of_lt_of_le hzg hzg1)).trans s8
                  have HI12 := hide hr12.ints
                  have HM12 := hide hm12
                  have hm12' : m12 ≤ 1099511627776 := by have := HL.out; omega
                  clear hb hr12 hm12
                  refine hK.out _ _ ⟨u0, u1, u2, u3, u4, u5, u6, u7, u8⟩ (fun hHeld => ?_)
                  clear hK K
                  try simp only [Act.put, List.setIfInBounds_toArray, List.set_cons_zero, List.set_cons_succ]
                  refine wpAnyH_ready (rs := [19]) (by kernel_rfl) (by simp) ?_
                  refine AllReadyH.cons (o := ?_) ?_ (fun K hK => ?_) AllReadyH.nil
                  rotate_left
                  · simp only [List.getElem?_toArray, List.getElem?_cons_succ, List.getElem?_cons_zero]; rfl
                  go_simp
                  go_at_call 40
                  refine Calls.mono (containsInt_is HIN.out HI12.out hm12') ?_
                  rintro e w' ⟨rfl, rfl⟩
                  refine hK.out _ _ ⟨u0, u1, u2, u3, u4, u5, u6, u7, u8⟩ (fun hHeld => ?_)
                  clear hK K
                  try simp only [Act.put, List.setIfInBounds_toArray, List.set_cons_zero, List.set_cons_succ]
                  refine takeH 20 46 (.bool true) rfl (by kernel_rfl) (by kernel_rfl) (by kernel_rfl) (fun _ _ _ h => h) (by assumption) rfl (fun _ _ => rfl) ?_
                  try simp only [Act.put, List.setIfInBounds_toArray, List.set_cons_zero, List.set_cons_succ]
                  refine takeH 21 47 (.bool false) rfl (by kernel_rfl) (by kernel_rfl) (by kernel_rfl) (fun _ _ _ h => h) (by assumption) rfl (fun _ _ => rfl) ?_
                  try simp only [Act.put, List.setIfInBounds_toArray, List.set_cons_zero, List.set_cons_succ]
                  refine takeH 22 48 (.bool false) rfl (by kernel_rfl) (by kernel_rfl) (by kernel_rfl) (fun _ _ _ h => h) (by assumption) rfl (fun _ _ => rfl) ?_
                  try simp only [Act.put, List.setIfInBounds_toArray, List.set_cons_zero, List.set_cons_succ]
                  refine takeH 23 49 (.bool false) rfl (by kernel_rfl) (by kernel_rfl) (by kernel_rfl) (fun _ _ _ h => h) (by assumption) rfl (fun _ _ => rfl) ?_
                  try simp only [Act.put, List.setIfInBounds_toArray, List.set_cons_zero, List.set_cons_succ]
                  refine wpAnyH_done (by kernel_rfl) ?_ _
                  clear hHeld q0 q1 q2 q3 q4 q5 q6 q7 q8 s0 s1 s2 s3 s4 s5 s6 s7 s8 hc0 hc1 hc2 hc3 hc4 hc5 hc6 hc7 hc8 u0 u1 u2 u3 u4 u5 u6 u7 u8
                  go_wp2_with fail
                  refine (HPK.out _ HB2.out).mono ?_
                  rintro e W13 ⟨A3, m3, hm3, rfl, _, hb3⟩
                  have HB3 := hide (HB2.out.trans (hb3.mono hz12))
                  have HM3 := hide hm3
                  clear hb3 hm3
                  by_cases h6 : 6 < m3
                  · have h6' : (6 : Int) < (m3 : Int) := by omega
                    have D := hide (treeV_no (xs := xs) (n := n) (fun h => by have h1 := h.deep k hlt; have := HM3.out; omega))
                    go_wp2
                    go_ret
                    exact ⟨ret_bool D.out.symm, HB3.out⟩
                  · have h6' : ¬ (6 : Int) < (m3 : Int) := by omega
                    have D := hide (HS.out.succ HPre.out HV.out (fun _ => HIO.out) (by have := HM3.out; omega))
                    clear HM3
                    go_wp2
                    go_roundw
                    case rel => exact ⟨k + 1, _, by omega, by go_num, rfl, D, HB3⟩
                    case measure => simp [intOf]; omega
        · obtain rfl : n = k := by omega
          have HT := hide (fun hq => TreeP.ofImpl hn1 hn16 HS.out.1 HS.out.2.1 HS.out.2.2.2 HS.out.2.2.1 hq)
          clear HS
          go_wp2
          go_loopw [5, 6, 7, 58] (fun _ _ _ s58 wr => ∃ (k : Nat) (W9 : World), k ≤ n ∧ s58 = .int .i64 k ∧ W9 = wr ∧ Hid (∀ i, i < k → kcnt xs i 0 n ≤ 8 ∧ (fld xs i 1 = 0 → kcnt xs i 0 n = 0)) ∧ Hid (Below w.heap.size w W9)) (fun _ _ _ s58 _ => n - (intOf s58).toNat)
          case atStart => exact ⟨0, _, Nat.zero_le _, rfl, rfl, hide (fun i hi => by omega), HB⟩
          case round =>
            clear HB
            obtain ⟨k, W9, hk, rfl, rfl, HQ, HB⟩ := hrel
            have hz9 := HB.out.size
            by_cases hlt : k < n
            · have hkn : (k : Int) < (n : Int) := by omega
              obtain ⟨b', off', eb, hb9, h1, h2⟩ := (HA.out _ HB.out).fldAt (by omega)
              injection eb with eb
              injection eb with eb1 eb2
              subst eb1 eb2
              have hc0 := h1 k hlt
              have hc1 := h2 k 1 hlt (by omega)
              have hc2 := h2 k 2 hlt (by omega)
              have hc3 := h2 k 3 hlt (by omega)
              have hc4 := h2 k 4 hlt (by omega)
              have hc5 := h2 k 5 hlt (by omega)
              have hc6 := h2 k 6 hlt (by omega)
              have hc7 := h2 k 7 hlt (by omega)
              have hc8 := h2 k 8 hlt (by omega)
              clear h1 h2
              obtain ⟨y, hy⟩ : ∃ y, par xs k = y := ⟨_, rfl⟩
              have HY := hide hy
              rw [hy] at hc0
              clear hy
              obtain ⟨y1, hy1⟩ : ∃ y1, fld xs k 1 = y1 := ⟨_, rfl⟩
              have HY1 := hide hy1
              rw [hy1] at hc1
              clear hy1
              generalize fld xs k 2 = y2 at hc2
              generalize fld xs k 3 = y3 at hc3
              generalize fld xs k 4 = y4 at hc4
              generalize fld xs k 5 = y5 at hc5
              generalize fld xs k 6 = y6 at hc6
              generalize fld xs k 7 = y7 at hc7
              generalize fld xs k 8 = y8 at hc8
              have q0 : (W9.alloc (.cells #[.int .i64 y, .int .i64 y1, .int .i64 y2, .int .i64 y3, .int .i64 y4, .int .i64 y5, .int .i64 y6, .int .i64 y7, .int .i64 y8] 43)).cell? ⟨W9.heap.size, 0, none⟩ = some (.int .i64 y) := by rw [cell_of_row _ _ 0 _ _ (0, 0) (heap_alloc_new W9 _)]; rfl
              have q1 : (W9.alloc (.cells #[.int .i64 y, .int .i64 y1, .int .i64 y2, .int .i64 y3, .int .i64 y4, .int .i64 y5, .int .i64 y6, .int .i64 y7, .int .i64 y8] 43)).cell? ⟨W9.heap.size, 1, none⟩ = some (.int .i64 y1) := by rw [cell_of_row _ _ 1 _ _ (0, 0) (heap_alloc_new W9 _)]; rfl
              have q2 : (W9.alloc (.cells #[.int .i64 y, .int .i64 y1, .int .i64 y2, .int .i64 y3, .int .i64 y4, .int .i64 y5, .int .i64 y6, .int .i64 y7, .int .i64 y8] 43)).cell? ⟨W9.heap.size, 2, none⟩ = some (.int .i64 y2) := by rw [cell_of_row _ _ 2 _ _ (0, 0) (heap_alloc_new W9 _)]; rfl
              have q3 : (W9.alloc (.cells #[.int .i64 y, .int .i64 y1, .int .i64 y2, .int .i64 y3, .int .i64 y4, .int .i64 y5, .int .i64 y6, .int .i64 y7, .int .i64 y8] 43)).cell? ⟨W9.heap.size, 3, none⟩ = some (.int .i64 y3) := by rw [cell_of_row _ _ 3 _ _ (0, 0) (heap_alloc_new W9 _)]; rfl
              have q4 : (W9.alloc (.cells #[.int .i64 y, .int .i64 y1, .int .i64 y2, .int .i64 y3, .int .i64 y4, .int .i64 y5, .int .i64 y6, .int .i64 y7, .int .i64 y8] 43)).cell? ⟨W9.heap.size, 4, none⟩ = some (.int .i64 y4) := by rw [cell_of_row _ _ 4 _ _ (0, 0) (heap_alloc_new W9 _)]; rfl
              have q5 : (W9.alloc (.cells #[.int .i64 y, .int .i64 y1, .int .i64 y2, .int .i64 y3, .int .i64 y4, .int .i64 y5, .int .i64 y6, .int .i64 y7, .int .i64 y8] 43)).cell? ⟨W9.heap.size, 5, none⟩ = some (.int .i64 y5) := by rw [cell_of_row _ _ 5 _ _ (0, 0) (heap_alloc_new W9 _)]; rfl
              have q6 : (W9.alloc (.cells #[.int .i64 y, .int .i64 y1, .int .i64 y2, .int .i64 y3, .int .i64 y4, .int .i64 y5, .int .i64 y6, .int .i64 y7, .int .i64 y8] 43)).cell? ⟨W9.heap.size, 6, none⟩ = some (.int .i64 y6) := by rw [cell_of_row _ _ 6 _ _ (0, 0) (heap_alloc_new W9 _)]; rfl
              have q7 : (W9.alloc (.cells #[.int .i64 y, .int .i64 y1, .int .i64 y2, .int .i64 y3, .int .i64 y4, .int .i64 y5, .int .i64 y6, .int .i64 y7, .int .i64 y8] 43)).cell? ⟨W9.heap.size, 7, none⟩ = some (.int .i64 y7) := by rw [cell_of_row _ _ 7 _ _ (0, 0) (heap_alloc_new W9 _)]; rfl
              have q8 : (W9.alloc (.cells #[.int .i64 y, .int .i64 y1, .int .i64 y2, .int .i64 y3, .int .i64 y4, .int .i64 y5, .int .i64 y6, .int .i64 y7, .int .i64 y8] 43)).cell? ⟨W9.heap.size, 8, none⟩ = some (.int .i64 y8) := by rw [cell_of_row _ _ 8 _ _ (0, 0) (heap_alloc_new W9 _)]; rfl
              have HB0 := hide (show Below w.heap.size w (W9.alloc (.cells #[.int .i64 y, .int .i64 y1, .int .i64 y2, .int .i64 y3, .int .i64 y4, .int .i64 y5, .int .i64 y6, .int .i64 y7, .int .i64 y8] 43)) from HB.out.alloc hz9 _)
              have hzg : W9.heap.size < (W9.alloc (.cells #[.int .i64 y, .int .i64 y1, .int .i64 y2, .int .i64 y3, .int .i64 y4, .int .i64 y5, .int .i64 y6, .int .i64 y7, .int .i64 y8] 43)).heap.size := by simp
              obtain ⟨m, hm⟩ : ∃ m, kcnt xs k 0 n = m := ⟨_, rfl⟩
              have hkids := kids_any B (some ⟨b, off, none⟩) n c xs k (W9.alloc (.cells #[.int .i64 y, .int .i64 y1, .int .i64 y2, .int .i64 y3, .int .i64 y4, .int .i64 y5, .int .i64 y6, .int .i64 y7, .int .i64 y8] 43)) (HA.out _ HB0.out) (by have := HB0.out.size; omega) hn
              rw [hm] at hkids
              have HM := hide hm
              clear hm
              go_wp2_with fail
              refine hkids.mono ?_
              rintro e W11 ⟨⟨A, rfl⟩, hb⟩
              have HB1 := hide (HB0.out.trans (hb.mono HB0.out.size))
              have s1 := (hb.cell (p := ⟨W9.heap.size, 1, none⟩) hzg).trans q1
              clear hb hkids q0 q1 q2 q3 q4 q5 q6 q7 q8 hc0 hc1 hc2 hc3 hc4 hc5 hc6 hc7 hc8 HB0 hzg
              by_cases h8 : 8 < m
              · have h8' : (8 : Int) < (m : Int) := by omega
                have D := hide (treeV_no (xs := xs) (n := n) (fun h => by have h1 := (h.kids hlt).1; have := HM.out; omega))
                go_wp2
                go_ret
                exact ⟨ret_bool D.out.symm, HB1.out⟩
              · have h8' : ¬ (8 : Int) < (m : Int) := by omega
                by_cases hy0 : y1 = 0
                · have hy0' : (y1 == 0) = true := by simpa using hy0
                  by_cases hm0 : 0 < m
                  · have hm0' : (0 : Int) < (m : Int) := by omega
                    have D := hide (treeV_no (xs := xs) (n := n) (fun h => by have h1 := (h.kids hlt).2 (by rw [HY1.out]; exact hy0); have := HM.out; omega))
                    clear hy0
                    go_wp2
                    go_ret
                    exact ⟨ret_bool D.out.symm, HB1.out⟩
                  · have hm0' : ¬ (0 : Int) < (m : Int) := by omega
                    have D := hide (show ∀ i, i < k + 1 → kcnt xs i 0 n ≤ 8 ∧ (fld xs i 1 = 0 → kcnt xs i 0 n = 0) from fun i hi => by
                      by_cases e : i = k
                      · subst e; rw [HM.out]; exact ⟨by omega, fun _ => by omega⟩
                      · exact HQ.out i (by omega))
                    clear hy0
                    go_wp2
                    go_roundw
                    case rel => exact ⟨k + 1, _, by omega, by go_num, rfl, D, HB1⟩
                    case measure => simp [intOf]; omega
                · have hy0' : (y1 == 0) = false := by simpa using hy0
                  have D := hide (show ∀ i, i < k + 1 → kcnt xs i 0 n ≤ 8 ∧ (fld xs i 1 = 0 → kcnt xs i 0 n = 0) from fun i hi => by
                    by_cases e : i = k
                    · subst e; rw [HM.out]; exact ⟨by omega, fun h => absurd (HY1.out.symm.trans h) hy0⟩
                    · exact HQ.out i (by omega))
                  clear hy0
                  go_wp2
                  go_roundw
                  case rel => exact ⟨k + 1, _, by omega, by go_num, rfl, D, HB1⟩
                  case measure => simp [intOf]; omega
            · obtain rfl : n = k := by omega
              have D := hide (treeV_yes (HT.out HQ.out))
              go_wp2
              go_ret
              exact ⟨ret_bool D.out.symm, HB.out⟩
end Go.Proofs.Ythgliihdaockoaa
