/- Slices of structs (Task): copied, compared, marked, asked. Conditions: none. -/
import Derived.Test.YtjmkpegomdgcoaaTask
namespace Go.Proofs.Ytjmkpegomdgcoaa
open Go.RowKit
set_option linter.unusedVariables false

/-- a new slice of structs that holds the cells xs -/
def MadeTask (xs : List Int) (w : World) (e : Ending) (w' : World) : Prop :=
  ∃ (A : Option Addr) (n c : Nat), e = .returned (.slice A n c) ∧ n ≤ c ∧ c ≤ 9223372036854775807 ∧ Row 39 w' w.heap.size w'.heap.size A (n * 3) xs ∧ Below w.heap.size w w'
theorem Task_info : (Try.prog.info? 39).map (fun i => (i.zero, i.size, i.bytes)) = some (some (.agg #[.int .i64 0, .int .i64 0, .int .i64 0]), 3, 24) := by kernel_rfl
theorem mk_Task (n : Nat) (hn : n ≤ 1099511627776) (w : World) :
    (Instr.makeSlice 25 (.int .i64 (n : Int)) (.int .i64 (n : Int))).run Try.prog w = .ok (.slice (some ⟨w.heap.size, 0, none⟩) n n) (w.alloc (.cells (madeCells #[.int .i64 0, .int .i64 0, .int .i64 0] (n * 3)) 39)) := by
  obtain ⟨i0, hi, hz0, hz1, hz2⟩ := info_parts Task_info
  have h := run_make w 25 39 i0 (.agg #[.int .i64 0, .int .i64 0, .int .i64 0]) Try.underlying25 hi hz0 .i64 .i64 n n (by omega) (by omega) (by rw [hz2]; omega) (by omega)
  simpa [hz1, Value.cells] using h

set_option maxHeartbeats 2000000 in
theorem toTaskS_any (a : Option Addr) (n c : Nat) (xs : List Int) (w : World) (hA : Ints .i64 w w.heap.size a (n * 3) xs) (hn : n ≤ 1048576) :
    Calls Try.prog 11 #[.slice a n c] w (MadeTask xs w) := by
  have hmk := mk_Task n (by omega)
  have HM := hide (show ∀ wr, Filling 39 w w.heap.size (n * 3) (n * 3) xs wr → MadeTask xs w (.returned (.slice (some ⟨w.heap.size, 0, none⟩) n n)) wr from fun wr h =>
    ⟨some ⟨w.heap.size, 0, none⟩, n, n, rfl, Nat.le_refl _, by omega, (h.row hA.1).mono (Nat.le_refl _) (by have := h.lt; omega), h.1⟩)
  have HS := hide (Filling.start 39 w (madeCells #[.int .i64 0, .int .i64 0, .int .i64 0] (n * 3)) xs)
  rw [size_madeCells] at HS
  have HA := hide hA
  clear hA
  go_enter Try.func11, Try.ntmps11
  go_wp2
  generalize w.alloc (.cells (madeCells #[.int .i64 0, .int .i64 0, .int .i64 0] (n * 3)) 39) = W0 at HS ⊢
  clear hmk
  go_loopw [4] (fun s4 wr => ∃ (k : Nat) (W9 : World), k ≤ n ∧ s4 = .int .i64 k ∧ W9 = wr ∧ Hid (Filling 39 w w.heap.size (n * 3) (k * 3) xs W9)) (fun s4 _ => n - (intOf s4).toNat)
  case atStart => exact ⟨0, _, Nat.zero_le _, rfl, rfl, by rw [Nat.zero_mul]; exact HS⟩
  case round =>
    obtain ⟨k, W9, hk, rfl, rfl, A⟩ := hrel
    clear HS
    by_cases hlt : k < n
    · obtain ⟨b, off, rfl, hbB, hcell⟩ := HA.out.2.2 (by omega)
      have hcell9 : ∀ i, i < n * 3 → W9.cell? ⟨b, off + i, none⟩ = some (.int .i64 (xs.getD i 0)) := fun i hi => (A.out.1.cell (p := ⟨b, off + i, none⟩) hbB).trans (hcell i hi)
      have hgs : w.heap.size < W9.heap.size := A.out.lt
      have hc0 := hcell9 (k * 3 + 0) (by omega)
      rw [← Nat.add_assoc] at hc0
      rw [Nat.add_zero, Nat.add_zero] at hc0
      have hc1 := hcell9 (k * 3 + 1) (by omega)
      rw [← Nat.add_assoc] at hc1
      have hc2 := hcell9 (k * 3 + 2) (by omega)
      rw [← Nat.add_assoc] at hc2
      have HN := hide (fun (W : World) (hb : Below W9.heap.size W9 W) => (((A.out.keep hb).step (by omega) (show xs.getD (k * 3 + 0) 0 = xs.getD (k * 3 + 0) 0 from rfl)).step (by omega) (show xs.getD (k * 3 + 1) 0 = xs.getD (k * 3 + 1) 0 from rfl)).step (by omega) (show xs.getD (k * 3 + 2) 0 = xs.getD (k * 3 + 2) 0 from rfl))
      have HF := hide (fun (W : World) (hb : Below W9.heap.size W9 W) (j : Nat) (hj : j < n * 3) => (A.out.keep hb).cell j hj)
      have hlk : k * 3 + 3 ≤ n * 3 := by omega
      clear hcell hcell9
      generalize xs.getD (k * 3 + 0) 0 = y0 at hc0 HN
      generalize xs.getD (k * 3 + 1) 0 = y1 at hc1 HN
      generalize xs.getD (k * 3 + 2) 0 = y2 at hc2 HN
      go_wp2_with fail
      refine (toTask_any y0 y1 y2 _).mono ?_
      rintro e W10 ⟨rfl, hb⟩
      have N9 := hide (HN.out W10 hb)
      obtain ⟨v0, hv0, hf0⟩ := HF.out W10 hb (k * 3 + 0) (by omega)
      obtain ⟨v1, hv1, hf1⟩ := HF.out W10 hb (k * 3 + 1) (by omega)
      obtain ⟨v2, hv2, hf2⟩ := HF.out W10 hb (k * 3 + 2) (by omega)
      rw [Nat.add_zero] at hv0 hf0
      clear HN HF hb hc0 hc1 hc2
      go_wp2
      go_roundw
      case rel => exact ⟨k + 1, _, by omega, by go_num, rfl, by rw [Nat.add_mul, Nat.one_mul]; exact N9⟩
      case measure => simp [intOf]; omega
    · obtain rfl : k = n := by omega
      have D := hide (HM.out _ A.out)
      go_wp2
      go_ret
      exact D.out
set_option maxHeartbeats 2000000 in
theorem eqTaskS_self (B1 B2 : Nat) (a b : Option Addr) (n c d : Nat) (xs : List Int) (w : World) (hA : Ints .i64 w B1 a (n * 3) xs) (hB : Ints .i64 w B2 b (n * 3) xs) (hB1 : B1 ≤ w.heap.size) (hB2 : B2 ≤ w.heap.size) (hn : n ≤ 1099511627776) :
    Calls Try.prog 13 #[.slice a n c, .slice b n d] w fun e w' => e = .returned (.bool true) ∧ Below w.heap.size w w' := by
  have HA := hide hA
  have HB := hide hB
  clear hA hB
  have hq : ((n : Int) != (n : Int)) = false := by simp
  go_enter Try.func13, Try.ntmps13
  go_wp2
  go_loopw [5] (fun s5 wr => ∃ (k : Nat) (W9 : World), k ≤ n ∧ s5 = .int .i64 k ∧ W9 = wr ∧ Hid (Below w.heap.size w W9)) (fun s5 _ => n - (intOf s5).toNat)
  case atStart => exact ⟨0, w, Nat.zero_le _, rfl, rfl, hide (Below.refl _ _)⟩
  case round =>
    obtain ⟨k, W9, hk, rfl, rfl, A⟩ := hrel
    by_cases hlt : k < n
    · obtain ⟨b1, o1, rfl, hb1, hcell⟩ := (HA.out.below A.out hB1).2.2 (by omega)
      obtain ⟨b2, o2, rfl, hb2, hcell'⟩ := (HB.out.below A.out hB2).2.2 (by omega)
      have h3 : (k : Int) < (n : Int) := by omega
      have hz9 := A.out.size
      have hc0 := hcell (k * 3 + 0) (by omega)
      rw [← Nat.add_assoc] at hc0
      rw [Nat.add_zero, Nat.add_zero] at hc0
      have hc1 := hcell (k * 3 + 1) (by omega)
      rw [← Nat.add_assoc] at hc1
      have hc2 := hcell (k * 3 + 2) (by omega)
      rw [← Nat.add_assoc] at hc2
      have gc0 := hcell' (k * 3 + 0) (by omega)
      rw [← Nat.add_assoc] at gc0
      rw [Nat.add_zero, Nat.add_zero] at gc0
      have gc1 := hcell' (k * 3 + 1) (by omega)
      rw [← Nat.add_assoc] at gc1
      have gc2 := hcell' (k * 3 + 2) (by omega)
      rw [← Nat.add_assoc] at gc2
      clear hcell hcell'
      generalize xs.getD (k * 3 + 0) 0 = y0 at hc0 gc0
      generalize xs.getD (k * 3 + 1) 0 = y1 at hc1 gc1
      generalize xs.getD (k * 3 + 2) 0 = y2 at hc2 gc2
      go_wp2_with fail
      go_region_held3 (fun w' => w'.cell? ⟨b1, o1 + k * 3, none⟩ = some (.int .i64 y0) ∧ w'.cell? ⟨b1, o1 + k * 3 + 1, none⟩ = some (.int .i64 y1) ∧ w'.cell? ⟨b1, o1 + k * 3 + 2, none⟩ = some (.int .i64 y2) ∧ w'.cell? ⟨b2, o2 + k * 3, none⟩ = some (.int .i64 y0) ∧ w'.cell? ⟨b2, o2 + k * 3 + 1, none⟩ = some (.int .i64 y1) ∧ w'.cell? ⟨b2, o2 + k * 3 + 2, none⟩ = some (.int .i64 y2)) (first | go_keep | exact ⟨s0, s1, s2, t0, t1, t2⟩)
        ((go_at_call 26; refine (eqTask_any y0 y1 y2 y0 y1 y2 W9.drew).mono ?_; rintro e W10 ⟨rfl, hb⟩; have s0 := (hb.cell (p := ⟨b1, o1 + k * 3, none⟩) (by show b1 < W9.heap.size; omega)).trans hc0; have t0 := (hb.cell (p := ⟨b2, o2 + k * 3, none⟩) (by show b2 < W9.heap.size; omega)).trans gc0; have s1 := (hb.cell (p := ⟨b1, o1 + k * 3 + 1, none⟩) (by show b1 < W9.heap.size; omega)).trans hc1; have t1 := (hb.cell (p := ⟨b2, o2 + k * 3 + 1, none⟩) (by show b2 < W9.heap.size; omega)).trans gc1; have s2 := (hb.cell (p := ⟨b1, o1 + k * 3 + 2, none⟩) (by show b1 < W9.heap.size; omega)).trans hc2; have t2 := (hb.cell (p := ⟨b2, o2 + k * 3 + 2, none⟩) (by show b2 < W9.heap.size; omega)).trans gc2))
      have D := hide (A.out.drew.trans (hb.mono hz9))
      clear hb hc0 gc0 s0 t0 hc1 gc1 s1 t1 hc2 gc2 s2 t2
      go_wp2
      go_roundw
      case rel => exact ⟨k + 1, _, by omega, by go_num, rfl, D⟩
      case measure => simp [intOf]; omega
    · obtain rfl : k = n := by omega
      go_wp2
      go_ret
      exact ⟨rfl, A.out⟩
set_option maxHeartbeats 2000000 in
theorem equalTasks_self (B1 B2 : Nat) (a b : Option Addr) (n c d : Nat) (xs : List Int) (w : World) (hA : Ints .i64 w B1 a (n * 3) xs) (hB : Ints .i64 w B2 b (n * 3) xs) (hB1 : B1 ≤ w.heap.size) (hB2 : B2 ≤ w.heap.size) (hn : n ≤ 1099511627776) :
    Calls Try.prog 20 #[.slice a n c, .slice b n d] w fun e w' => e = .returned (.bool true) ∧ Below w.heap.size w w' := by
  have HA := hide hA
  have HB := hide hB
  clear hA hB
  have hq : ((n : Int) != (n : Int)) = false := by simp
  go_enter Try.func20, Try.ntmps20
  go_wp2
  go_loopw [5] (fun s5 wr => ∃ (k : Nat) (W9 : World), k ≤ n ∧ s5 = .int .i64 k ∧ W9 = wr ∧ Hid (Below w.heap.size w W9)) (fun s5 _ => n - (intOf s5).toNat)
  case atStart => exact ⟨0, w, Nat.zero_le _, rfl, rfl, hide (Below.refl _ _)⟩
  case round =>
    obtain ⟨k, W9, hk, rfl, rfl, A⟩ := hrel
    by_cases hlt : k < n
    · obtain ⟨b1, o1, rfl, hb1, hcell⟩ := (HA.out.below A.out hB1).2.2 (by omega)
      obtain ⟨b2, o2, rfl, hb2, hcell'⟩ := (HB.out.below A.out hB2).2.2 (by omega)
      have h3 : (k : Int) < (n : Int) := by omega
      have hz9 := A.out.size
      have hc0 := hcell (k * 3 + 0) (by omega)
      rw [← Nat.add_assoc] at hc0
      rw [Nat.add_zero, Nat.add_zero] at hc0
      have hc1 := hcell (k * 3 + 1) (by omega)
      rw [← Nat.add_assoc] at hc1
      have hc2 := hcell (k * 3 + 2) (by omega)
      rw [← Nat.add_assoc] at hc2
      have gc0 := hcell' (k * 3 + 0) (by omega)
      rw [← Nat.add_assoc] at gc0
      rw [Nat.add_zero, Nat.add_zero] at gc0
      have gc1 := hcell' (k * 3 + 1) (by omega)
      rw [← Nat.add_assoc] at gc1
      have gc2 := hcell' (k * 3 + 2) (by omega)
      rw [← Nat.add_assoc] at gc2
      clear hcell hcell'
      generalize xs.getD (k * 3 + 0) 0 = y0 at hc0 gc0
      generalize xs.getD (k * 3 + 1) 0 = y1 at hc1 gc1
      generalize xs.getD (k * 3 + 2) 0 = y2 at hc2 gc2
      go_wp2
      go_quiet (fail)
      go_wp2
      go_roundw
      case rel => exact ⟨k + 1, _, by omega, by go_num, rfl, hide (below_drewN A.out _)⟩
      case measure => simp [intOf]; omega
    · obtain rfl : k = n := by omega
      go_wp2
      go_ret
      exact ⟨rfl, A.out⟩
set_option maxHeartbeats 2000000 in
theorem markTaskS_any (E : TypeId) (lo hi : Nat) (a : Option Addr) (n c : Nat) (xs : List Int) (k0 : Int) (w : World) (hA : Row E w lo hi a (n * 3) xs) (hn : n ≤ 1048577) (hk : 0 ≤ k0 ∧ k0 ≤ 1099511627776) :
    Calls Try.prog 17 #[.slice a n c, .int .i64 k0] w (Marked E lo hi a (n * 3) k0 w) := by
  have HM := hide (show ∀ wr, Marking E w lo hi a (n * 3) (n * 3) (marks k0 (n * 3)) wr → Marked E lo hi a (n * 3) k0 w (.returned (.int .i64 (k0 + (n * 3 : Nat)))) wr from fun wr h => ⟨rfl, h.row hA (marks_length _ _), h.1⟩)
  have HS := hide (Marking.start (ys := marks k0 (n * 3)) hA)
  have HA := hide hA
  clear hA
  go_enter Try.func17, Try.ntmps17
  go_wp2
  go_loopw [1, 5] (fun s1 s5 wr => ∃ (k : Nat) (W9 : World), k ≤ n ∧ s1 = .int .i64 (k0 + 3 * k) ∧ s5 = .int .i64 k ∧ W9 = wr ∧ Hid (Marking E w lo hi a (n * 3) (k * 3) (marks k0 (n * 3)) W9)) (fun _ s5 _ => n - (intOf s5).toNat)
  case atStart => exact ⟨0, w, Nat.zero_le _, by simp, rfl, rfl, by rw [Nat.zero_mul]; exact HS⟩
  case round =>
    obtain ⟨k, W9, hk, rfl, rfl, rfl, A⟩ := hrel
    clear HS
    by_cases hlt : k < n
    · obtain ⟨b, off, _, rfl, _⟩ := HA.out.2 (by omega)
      have hlk : k * 3 + 3 ≤ n * 3 := by omega
      obtain ⟨v0, hv0, hf0⟩ := A.out.cell (k * 3 + 0) (by omega)
      obtain ⟨v1, hv1, hf1⟩ := A.out.cell (k * 3 + 1) (by omega)
      obtain ⟨v2, hv2, hf2⟩ := A.out.cell (k * 3 + 2) (by omega)
      rw [← Nat.add_assoc] at hv0 hf0
      rw [← Nat.add_assoc] at hv1 hf1
      rw [← Nat.add_assoc] at hv2 hf2
      rw [Nat.add_zero] at hv0 hf0
      have m0 : (marks k0 (n * 3)).getD (k * 3 + 0) 0 = k0 + 3 * (k : Int) := by rw [marks_at k0 (n * 3) (k * 3 + 0) (by omega)]; omega
      have m1 : (marks k0 (n * 3)).getD (k * 3 + 1) 0 = k0 + 3 * (k : Int) + 1 := by rw [marks_at k0 (n * 3) (k * 3 + 1) (by omega)]; omega
      have m2 : (marks k0 (n * 3)).getD (k * 3 + 2) 0 = k0 + 3 * (k : Int) + 1 + 1 := by rw [marks_at k0 (n * 3) (k * 3 + 2) (by omega)]; omega
      have HN := (((A.out.step (show k * 3 + 0 < n * 3 by omega) m0).step (show k * 3 + 1 < n * 3 by omega) m1).step (show k * 3 + 2 < n * 3 by omega) m2)
      simp only [← Nat.add_assoc] at HN
      have HN' := hide HN
      clear HN m0 m1 m2
      go_wp2
      go_roundw
      case rel => exact ⟨k + 1, _, by omega, by go_num, by go_num, rfl, by rw [Nat.add_mul, Nat.one_mul]; exact HN'⟩
      case measure => simp [intOf]; omega
    · obtain rfl : k = n := by omega
      have D := hide (HM.out _ A.out)
      rw [show k0 + ((k * 3 : Nat) : Int) = k0 + 3 * (k : Int) by omega] at D
      go_wp2
      go_ret
      exact D.out
set_option maxHeartbeats 2000000 in
theorem heldTaskS_any (B : Nat) (a : Option Addr) (n c : Nat) (k0 : Int) (w : World) (hA : Ints .i64 w B a (n * 3) (marks k0 (n * 3))) (hn : n ≤ 1048577) (hk : 0 ≤ k0 ∧ k0 ≤ 1099511627776) :
    Calls Try.prog 18 #[.slice a n c, .int .i64 k0] w fun e w' => e = .returned (.int .i64 (k0 + (n * 3 : Nat))) ∧ w = w' := by
  obtain ⟨hl, _, hc⟩ := hA
  go_enter Try.func18, Try.ntmps18
  go_wp2
  go_loop [1, 5] (fun s1 s5 => ∃ k : Nat, k ≤ n ∧ s1 = .int .i64 (k0 + 3 * k) ∧ s5 = .int .i64 k) (fun _ s5 => n - (intOf s5).toNat)
  case atStart => exact ⟨0, Nat.zero_le _, by simp, rfl⟩
  case round =>
    obtain ⟨k, hk, rfl, rfl⟩ := hrel
    by_cases hlt : k < n
    · obtain ⟨b, off, rfl, _, hcell⟩ := hc (by omega)
      have hlk : k * 3 + 3 ≤ n * 3 := by omega
      have hc0 := hcell (k * 3 + 0) (by omega)
      rw [← Nat.add_assoc] at hc0
      rw [Nat.add_zero, Nat.add_zero] at hc0
      have hc1 := hcell (k * 3 + 1) (by omega)
      rw [← Nat.add_assoc] at hc1
      have hc2 := hcell (k * 3 + 2) (by omega)
      rw [← Nat.add_assoc] at hc2
      rw [marks_at k0 (n * 3) (k * 3) (by omega), show k0 + ((k * 3 : Nat) : Int) = k0 + 3 * (k : Int) by omega] at hc0
      rw [marks_at k0 (n * 3) (k * 3 + 1) (by omega), show k0 + ((k * 3 + 1 : Nat) : Int) = k0 + 3 * (k : Int) + 1 by omega] at hc1
      rw [marks_at k0 (n * 3) (k * 3 + 2) (by omega), show k0 + ((k * 3 + 2 : Nat) : Int) = k0 + 3 * (k : Int) + 1 + 1 by omega] at hc2
      clear hcell hc
      go_wp2
      go_round
      case rel => exact ⟨k + 1, by omega, by go_num, by go_num⟩
      case measure => simp [intOf]; omega
    · obtain rfl : k = n := by omega
      clear hc
      go_wp2
      go_ret
      exact ⟨ret_int (by omega), rfl⟩
end Go.Proofs.Ytjmkpegomdgcoaa
