/- Slices of structs (Box): copied, compared, marked, asked. Conditions: none. -/
import Derived.Test.YthgliihdaockoaaSums
import Derived.Deep.RegionHeld3
namespace Go.Proofs.Ythgliihdaockoaa
open Go.RowKit
set_option linter.unusedVariables false

theorem szBoxS_any (a : Option Addr) (n c : Nat) (l : Int) (w : World) (hn : n ≤ 9223372036854775807) (hl : 0 ≤ l ∧ l ≤ 1048576) :
    Calls Try.prog 4 #[.slice a n c, .int .i64 l] w fun e w' => e = .returned (.int .i64 (if l < n then -1 else l - n)) ∧ w = w' := by
  have e1 : IntKind.i64.wrap (l - n) = l - n := IntWalk.i64_in _ (by omega)
  by_cases h : l < n
  · have e2 : l - n < 0 := by omega
    rw [if_pos h]
    go_enter Try.func4, Try.ntmps4
    go_wp2
    go_ret
    exact ⟨rfl, rfl⟩
  · have e2 : ¬ l - n < 0 := by omega
    rw [if_neg h]
    go_enter Try.func4, Try.ntmps4
    go_wp2
    go_ret
    exact ⟨rfl, rfl⟩
set_option maxHeartbeats 1000000 in
theorem toBox_any (x0 x1 x2 x3 x4 x5 x6 x7 x8 : Int) (w : World) :
    Calls Try.prog 17 #[.agg #[.int .i64 x0, .int .i64 x1, .int .i64 x2, .int .i64 x3, .int .i64 x4, .int .i64 x5, .int .i64 x6, .int .i64 x7, .int .i64 x8]] w fun e w' => e = .returned (.agg #[.int .i64 x0, .int .i64 x1, .int .i64 x2, .int .i64 x3, .int .i64 x4, .int .i64 x5, .int .i64 x6, .int .i64 x7, .int .i64 x8]) ∧ Below w.heap.size w w' := by
  have D := hide (show Below w.heap.size w (((w.alloc (.cells #[.int .i64 x0, .int .i64 x1, .int .i64 x2, .int .i64 x3, .int .i64 x4, .int .i64 x5, .int .i64 x6, .int .i64 x7, .int .i64 x8] 45)).alloc (.cells #[.int .i64 x0, .int .i64 x1, .int .i64 x2, .int .i64 x3, .int .i64 x4, .int .i64 x5, .int .i64 x6, .int .i64 x7, .int .i64 x8] 43)).alloc (.cells #[.int .i64 x0, .int .i64 x1, .int .i64 x2, .int .i64 x3, .int .i64 x4, .int .i64 x5, .int .i64 x6, .int .i64 x7, .int .i64 x8] 43)) from
    (((Below.refl _ _).alloc (Nat.le_refl _) _).alloc (by simp) _).alloc (by simp; omega) _)
  go_enter Try.func17, Try.ntmps17
  go_wp2
  exact bodyPost_ret (v := .agg #[.int .i64 x0, .int .i64 x1, .int .i64 x2, .int .i64 x3, .int .i64 x4, .int .i64 x5, .int .i64 x6, .int .i64 x7, .int .i64 x8]) (by simp [results, Try.results17, go_sem]) rfl ⟨rfl, D.out⟩
set_option maxHeartbeats 1000000 in
theorem eqBox_self (x0 x1 x2 x3 x4 x5 x6 x7 x8 : Int) (w : World) :
    Calls Try.prog 23 #[.agg #[.int .i64 x0, .int .i64 x1, .int .i64 x2, .int .i64 x3, .int .i64 x4, .int .i64 x5, .int .i64 x6, .int .i64 x7, .int .i64 x8], .agg #[.int .i64 x0, .int .i64 x1, .int .i64 x2, .int .i64 x3, .int .i64 x4, .int .i64 x5, .int .i64 x6, .int .i64 x7, .int .i64 x8]] w fun e w' => e = .returned (.bool true) ∧ Below w.heap.size w w' := by
  have D := hide (show Below w.heap.size w ((w.alloc (.cells #[.int .i64 x0, .int .i64 x1, .int .i64 x2, .int .i64 x3, .int .i64 x4, .int .i64 x5, .int .i64 x6, .int .i64 x7, .int .i64 x8] 43)).alloc (.cells #[.int .i64 x0, .int .i64 x1, .int .i64 x2, .int .i64 x3, .int .i64 x4, .int .i64 x5, .int .i64 x6, .int .i64 x7, .int .i64 x8] 43)) from ((Below.refl _ _).alloc (Nat.le_refl _) _).alloc (by simp) _)
  go_enter Try.func23, Try.ntmps23
  go_wp2
  go_ret
  exact ⟨rfl, D.out⟩
/-- a new slice of structs that holds the cells xs -/
def MadeBox (xs : List Int) (w : World) (e : Ending) (w' : World) : Prop :=
  ∃ (A : Option Addr) (n c : Nat), e = .returned (.slice A n c) ∧ n ≤ c ∧ c ≤ 9223372036854775807 ∧ Row 43 w' w.heap.size w'.heap.size A (n * 9) xs ∧ Below w.heap.size w w'
theorem Box_info : (Try.prog.info? 43).map (fun i => (i.zero, i.size, i.bytes)) = some (some (.agg #[.int .i64 0, .int .i64 0, .int .i64 0, .int .i64 0, .int .i64 0, .int .i64 0, .int .i64 0, .int .i64 0, .int .i64 0]), 9, 72) := by kernel_rfl
theorem mk_Box (n : Nat) (hn : n ≤ 1099511627776) (w : World) :
    (Instr.makeSlice 28 (.int .i64 (n : Int)) (.int .i64 (n : Int))).run Try.prog w = .ok (.slice (some ⟨w.heap.size, 0, none⟩) n n) (w.alloc (.cells (madeCells #[.int .i64 0, .int .i64 0, .int .i64 0, .int .i64 0, .int .i64 0, .int .i64 0, .int .i64 0, .int .i64 0, .int .i64 0] (n * 9)) 43)) := by
  obtain ⟨i0, hi, hz0, hz1, hz2⟩ := info_parts Box_info
  have h := run_make w 28 43 i0 (.agg #[.int .i64 0, .int .i64 0, .int .i64 0, .int .i64 0, .int .i64 0, .int .i64 0, .int .i64 0, .int .i64 0, .int .i64 0]) Try.underlying28 hi hz0 .i64 .i64 n n (by omega) (by omega) (by rw [hz2]; omega) (by omega)
  simpa [hz1, Value.cells] using h

set_option maxHeartbeats 2000000 in
theorem toBoxS_any (a : Option Addr) (n c : Nat) (xs : List Int) (w : World) (hA : Ints .i64 w w.heap.size a (n * 9) xs) (hn : n ≤ 1048576) :
    Calls Try.prog 6 #[.slice a n c] w (MadeBox xs w) := by
  have hmk := mk_Box n (by omega)
  have HM := hide (show ∀ wr, Filling 43 w w.heap.size (n * 9) (n * 9) xs wr → MadeBox xs w (.returned (.slice (some ⟨w.heap.size, 0, none⟩) n n)) wr from fun wr h =>
    ⟨some ⟨w.heap.size, 0, none⟩, n, n, rfl, Nat.le_refl _, by omega, (h.row hA.1).mono (Nat.le_refl _) (by have := h.lt; omega), h.1⟩)
  have HS := hide (Filling.start 43 w (madeCells #[.int .i64 0, .int .i64 0, .int .i64 0, .int .i64 0, .int .i64 0, .int .i64 0, .int .i64 0, .int .i64 0, .int .i64 0] (n * 9)) xs)
  rw [size_madeCells] at HS
  have HA := hide hA
  clear hA
  go_enter Try.func6, Try.ntmps6
  go_wp2
  generalize w.alloc (.cells (madeCells #[.int .i64 0, .int .i64 0, .int .i64 0, .int .i64 0, .int .i64 0, .int .i64 0, .int .i64 0, .int .i64 0, .int .i64 0] (n * 9)) 43) = W0 at HS ⊢
  clear hmk
  go_loopw [4] (fun s4 wr => ∃ (k : Nat) (W9 : World), k ≤ n ∧ s4 = .int .i64 k ∧ W9 = wr ∧ Hid (Filling 43 w w.heap.size (n * 9) (k * 9) xs W9)) (fun s4 _ => n - (intOf s4).toNat)
  case atStart => exact ⟨0, _, Nat.zero_le _, rfl, rfl, by rw [Nat.zero_mul]; exact HS⟩
  case round =>
    obtain ⟨k, W9, hk, rfl, rfl, A⟩ := hrel
    clear HS
    by_cases hlt : k < n
    · obtain ⟨b, off, rfl, hbB, hcell⟩ := HA.out.2.2 (by omega)
      have hcell9 : ∀ i, i < n * 9 → W9.cell? ⟨b, off + i, none⟩ = some (.int .i64 (xs.getD i 0)) := fun i hi => (A.out.1.cell (p := ⟨b, off + i, none⟩) hbB).trans (hcell i hi)
      have hgs : w.heap.size < W9.heap.size := A.out.lt
      have hc0 := hcell9 (k * 9 + 0) (by omega)
      rw [← Nat.add_assoc] at hc0
      rw [Nat.add_zero, Nat.add_zero] at hc0
      have hc1 := hcell9 (k * 9 + 1) (by omega)
      rw [← Nat.add_assoc] at hc1
      have hc2 := hcell9 (k * 9 + 2) (by omega)
      rw [← Nat.add_assoc] at hc2
      have hc3 := hcell9 (k * 9 + 3) (by omega)
      rw [← Nat.add_assoc] at hc3
      have hc4 := hcell9 (k * 9 + 4) (by omega)
      rw [← Nat.add_assoc] at hc4
      have hc5 := hcell9 (k * 9 + 5) (by omega)
      rw [← Nat.add_assoc] at hc5
      have hc6 := hcell9 (k * 9 + 6) (by omega)
      rw [← Nat.add_assoc] at hc6
      have hc7 := hcell9 (k * 9 + 7) (by omega)
      rw [← Nat.add_assoc] at hc7
      have hc8 := hcell9 (k * 9 + 8) (by omega)
      rw [← Nat.add_assoc] at hc8
      have HN := hide (fun (W : World) (hb : Below W9.heap.size W9 W) => (((((((((A.out.keep hb).step (by omega) (show xs.getD (k * 9 + 0) 0 = xs.getD (k * 9 + 0) 0 from rfl)).step (by omega) (show xs.getD (k * 9 + 1) 0 = xs.getD (k * 9 + 1) 0 from rfl)).step (by omega) (show xs.getD (k * 9 + 2) 0 = xs.getD (k * 9 + 2) 0 from rfl)).step (by omega) (show xs.getD (k * 9 + 3) 0 = xs.getD (k * 9 + 3) 0 from rfl)).step (by omega) (show xs.getD (k * 9 + 4) 0 = xs.getD (k * 9 + 4) 0 from rfl)).step (by omega) (show xs.getD (k * 9 + 5) 0 = xs.getD (k * 9 + 5) 0 from rfl)).step (by omega) (show xs.getD (k * 9 + 6) 0 = xs.getD (k * 9 + 6) 0 from rfl)).step (by omega) (show xs.getD (k * 9 + 7) 0 = xs.getD (k * 9 + 7) 0 from rfl)).step (by omega) (show xs.getD (k * 9 + 8) 0 = xs.getD (k * 9 + 8) 0 from rfl))
      have HF := hide (fun (W : World) (hb : Below W9.heap.size W9 W) (j : Nat) (hj : j < n * 9) => (A.out.keep hb).cell j hj)
      have hlk : k * 9 + 9 ≤ n * 9 := by omega
      clear hcell hcell9
      generalize xs.getD (k * 9 + 0) 0 = y0 at hc0 HN
      generalize xs.getD (k * 9 + 1) 0 = y1 at hc1 HN
      generalize xs.getD (k * 9 + 2) 0 = y2 at hc2 HN
      generalize xs.getD (k * 9 + 3) 0 = y3 at hc3 HN
      generalize xs.getD (k * 9 + 4) 0 = y4 at hc4 HN
      generalize xs.getD (k * 9 + 5) 0 = y5 at hc5 HN
      generalize xs.getD (k * 9 + 6) 0 = y6 at hc6 HN
      generalize xs.getD (k * 9 + 7) 0 = y7 at hc7 HN
      generalize xs.getD (k * 9 + 8) 0 = y8 at hc8 HN
      go_wp2_with fail
      refine (toBox_any y0 y1 y2 y3 y4 y5 y6 y7 y8 _).mono ?_
      rintro e W10 ⟨rfl, hb⟩
      have N9 := hide (HN.out W10 hb)
      obtain ⟨v0, hv0, hf0⟩ := HF.out W10 hb (k * 9 + 0) (by omega)
      obtain ⟨v1, hv1, hf1⟩ := HF.out W10 hb (k * 9 + 1) (by omega)
      obtain ⟨v2, hv2, hf2⟩ := HF.out W10 hb (k * 9 + 2) (by omega)
      obtain ⟨v3, hv3, hf3⟩ := HF.out W10 hb (k * 9 + 3) (by omega)
      obtain ⟨v4, hv4, hf4⟩ := HF.out W10 hb (k * 9 + 4) (by omega)
      obtain ⟨v5, hv5, hf5⟩ := HF.out W10 hb (k * 9 + 5) (by omega)
      obtain ⟨v6, hv6, hf6⟩ := HF.out W10 hb (k * 9 + 6) (by omega)
      obtain ⟨v7, hv7, hf7⟩ := HF.out W10 hb (k * 9 + 7) (by omega)
      obtain ⟨v8, hv8, hf8⟩ := HF.out W10 hb (k * 9 + 8) (by omega)
      rw [Nat.add_zero] at hv0 hf0
      clear HN HF hb hc0 hc1 hc2 hc3 hc4 hc5 hc6 hc7 hc8
      go_wp2
      go_roundw
      case rel => exact ⟨k + 1, _, by omega, by go_num, rfl, by rw [Nat.add_mul, Nat.one_mul]; exact N9⟩
      case measure => simp [intOf]; omega
    · obtain rfl : k = n := by omega
      have D := hide (HM.out _ A.out)
      go_wp2
      go_ret
      exact D.out
set_option maxHeartbeats 2000000 in
theorem eqBoxS_self (B1 B2 : Nat) (a b : Option Addr) (n c d : Nat) (xs : List Int) (w : World) (hA : Ints .i64 w B1 a (n * 9) xs) (hB : Ints .i64 w B2 b (n * 9) xs) (hB1 : B1 ≤ w.heap.size) (hB2 : B2 ≤ w.heap.size) (hn : n ≤ 1099511627776) :
    Calls Try.prog 10 #[.slice a n c, .slice b n d] w fun e w' => e = .returned (.bool true) ∧ Below w.heap.size w w' := by
  have HA := hide hA
  have HB := hide hB
  clear hA hB
  have hq : ((n : Int) != (n : Int)) = false := by simp
  go_enter Try.func10, Try.ntmps10
  go_wp2
  go_loopw [5] (fun s5 wr => ∃ (k : Nat) (W9 : World), k ≤ n ∧ s5 = .int .i64 k ∧ W9 = wr ∧ Hid (Below w.heap.size w W9)) (fun s5 _ => n - (intOf s5).toNat)
  case atStart => exact ⟨0, w, Nat.zero_le _, rfl, rfl, hide (Below.refl _ _)⟩
  case round =>
    obtain ⟨k, W9, hk, rfl, rfl, A⟩ := hrel
    by_cases hlt : k < n
    · obtain ⟨b1, o1, rfl, hb1, hcell⟩ := (HA.out.below A.out hB1).2.2 (by omega)
      obtain ⟨b2, o2, rfl, hb2, hcell'⟩ := (HB.out.below A.out hB2).2.2 (by omega)
      have h3 : (k : Int) < (n : Int) := by omega
      have hz9 := A.out.size
      have hc0 := hcell (k * 9 + 0) (by omega)
      rw [← Nat.add_assoc] at hc0
      rw [Nat.add_zero, Nat.add_zero] at hc0
      have hc1 := hcell (k * 9 + 1) (by omega)
      rw [← Nat.add_assoc] at hc1
      have hc2 := hcell (k * 9 + 2) (by omega)
      rw [← Nat.add_assoc] at hc2
      have hc3 := hcell (k * 9 + 3) (by omega)
      rw [← Nat.add_assoc] at hc3
      have hc4 := hcell (k * 9 + 4) (by omega)
      rw [← Nat.add_assoc] at hc4
      have hc5 := hcell (k * 9 + 5) (by omega)
      rw [← Nat.add_assoc] at hc5
      have hc6 := hcell (k * 9 + 6) (by omega)
      rw [← Nat.add_assoc] at hc6
      have hc7 := hcell (k * 9 + 7) (by omega)
      rw [← Nat.add_assoc] at hc7
      have hc8 := hcell (k * 9 + 8) (by omega)
      rw [← Nat.add_assoc] at hc8
      have gc0 := hcell' (k * 9 + 0) (by omega)
      rw [← Nat.add_assoc] at gc0
      rw [Nat.add_zero, Nat.add_zero] at gc0
      have gc1 := hcell' (k * 9 + 1) (by omega)
      rw [← Nat.add_assoc] at gc1
      have gc2 := hcell' (k * 9 + 2) (by omega)
      rw [← Nat.add_assoc] at gc2
      have gc3 := hcell' (k * 9 + 3) (by omega)
      rw [← Nat.add_assoc] at gc3
      have gc4 := hcell' (k * 9 + 4) (by omega)
      rw [← Nat.add_assoc] at gc4
      have gc5 := hcell' (k * 9 + 5) (by omega)
      rw [← Nat.add_assoc] at gc5
      have gc6 := hcell' (k * 9 + 6) (by omega)
      rw [← Nat.add_assoc] at gc6
      have gc7 := hcell' (k * 9 + 7) (by omega)
      rw [← Nat.add_assoc] at gc7
      have gc8 := hcell' (k * 9 + 8) (by omega)
      rw [← Nat.add_assoc] at gc8
      clear hcell hcell'
      generalize xs.getD (k * 9 + 0) 0 = y0 at hc0 gc0
      generalize xs.getD (k * 9 + 1) 0 = y1 at hc1 gc1
      generalize xs.getD (k * 9 + 2) 0 = y2 at hc2 gc2
      generalize xs.getD (k * 9 + 3) 0 = y3 at hc3 gc3
      generalize xs.getD (k * 9 + 4) 0 = y4 at hc4 gc4
      generalize xs.getD (k * 9 + 5) 0 = y5 at hc5 gc5
      generalize xs.getD (k * 9 + 6) 0 = y6 at hc6 gc6
      generalize xs.getD (k * 9 + 7) 0 = y7 at hc7 gc7
      generalize xs.getD (k * 9 + 8) 0 = y8 at hc8 gc8
      go_wp2_with fail
      go_region_held3 (fun w' => w'.cell? ⟨b1, o1 + k * 9, none⟩ = some (.int .i64 y0) ∧ w'.cell? ⟨b1, o1 + k * 9 + 1, none⟩ = some (.int .i64 y1) ∧ w'.cell? ⟨b1, o1 + k * 9 + 2, none⟩ = some (.int .i64 y2) ∧ w'.cell? ⟨b1, o1 + k * 9 + 3, none⟩ = some (.int .i64 y3) ∧ w'.cell? ⟨b1, o1 + k * 9 + 4, none⟩ = some (.int .i64 y4) ∧ w'.cell? ⟨b1, o1 + k * 9 + 5, none⟩ = some (.int .i64 y5) ∧ w'.cell? ⟨b1, o1 + k * 9 + 6, none⟩ = some (.int .i64 y6) ∧ w'.cell? ⟨b1, o1 + k * 9 + 7, none⟩ = some (.int .i64 y7) ∧ w'.cell? ⟨b1, o1 + k * 9 + 8, none⟩ = some (.int .i64 y8) ∧ w'.cell? ⟨b2, o2 + k * 9, none⟩ = some (.int .i64 y0) ∧ w'.cell? ⟨b2, o2 + k * 9 + 1, none⟩ = some (.int .i64 y1) ∧ w'.cell? ⟨b2, o2 + k * 9 + 2, none⟩ = some (.int .i64 y2) ∧ w'.cell? ⟨b2, o2 + k * 9 + 3, none⟩ = some (.int .i64 y3) ∧ w'.cell? ⟨b2, o2 + k * 9 + 4, none⟩ = some (.int .i64 y4) ∧ w'.cell? ⟨b2, o2 + k * 9 + 5, none⟩ = some (.int .i64 y5) ∧ w'.cell? ⟨b2, o2 + k * 9 + 6, none⟩ = some (.int .i64 y6) ∧ w'.cell? ⟨b2, o2 + k * 9 + 7, none⟩ = some (.int .i64 y7) ∧ w'.cell? ⟨b2, o2 + k * 9 + 8, none⟩ = some (.int .i64 y8)) (first | go_keep | exact ⟨s0, s1, s2, s3, s4, s5, s6, s7, s8, t0, t1, t2, t3, t4, t5, t6, t7, t8⟩)
        ((go_at_call 23; refine (eqBox_self y0 y1 y2 y3 y4 y5 y6 y7 y8 W9.drew).mono ?_; rintro e W10 ⟨rfl, hb⟩; have s0 := (hb.cell (p := ⟨b1, o1 + k * 9, none⟩) (by show b1 < W9.heap.size; omega)).trans hc0; have t0 := (hb.cell (p := ⟨b2, o2 + k * 9, none⟩) (by show b2 < W9.heap.size; omega)).trans gc0; have s1 := (hb.cell (p := ⟨b1, o1 + k * 9 + 1, none⟩) (by show b1 < W9.heap.size; omega)).trans hc1; have t1 := (hb.cell (p := ⟨b2, o2 + k * 9 + 1, none⟩) (by show b2 < W9.heap.size; omega)).trans gc1; have s2 := (hb.cell (p := ⟨b1, o1 + k * 9 + 2, none⟩) (by show b1 < W9.heap.size; omega)).trans hc2; have t2 := (hb.cell (p := ⟨b2, o2 + k * 9 + 2, none⟩) (by show b2 < W9.heap.size; omega)).trans gc2; have s3 := (hb.cell (p := ⟨b1, o1 + k * 9 + 3, none⟩) (by show b1 < W9.heap.size; omega)).trans hc3; have t3 := (hb.cell (p := ⟨b2, o2 + k * 9 + 3, none⟩) (by show b2 < W9.heap.size; omega)).trans gc3; have s4 := (hb.cell (p := ⟨b1, o1 + k * 9 + 4, none⟩) (by show b1 < W9.heap.size; omega)).trans hc4; have t4 := (hb.cell (p := ⟨b2, o2 + k * 9 + 4, none⟩) (by show b2 < W9.heap.size; omega)).trans gc4; have s5 := (hb.cell (p := ⟨b1, o1 + k * 9 + 5, none⟩) (by show b1 < W9.heap.size; omega)).trans hc5; have t5 := (hb.cell (p := ⟨b2, o2 + k * 9 + 5, none⟩) (by show b2 < W9.heap.size; omega)).trans gc5; have s6 := (hb.cell (p := ⟨b1, o1 + k * 9 + 6, none⟩) (by show b1 < W9.heap.size; omega)).trans hc6; have t6 := (hb.cell (p := ⟨b2, o2 + k * 9 + 6, none⟩) (by show b2 < W9.heap.size; omega)).trans gc6; have s7 := (hb.cell (p := ⟨b1, o1 + k * 9 + 7, none⟩) (by show b1 < W9.heap.size; omega)).trans hc7; have t7 := (hb.cell (p := ⟨b2, o2 + k * 9 + 7, none⟩) (by show b2 < W9.heap.size; omega)).trans gc7; have s8 := (hb.cell (p := ⟨b1, o1 + k * 9 + 8, none⟩) (by show b1 < W9.heap.size; omega)).trans hc8; have t8 := (hb.cell (p := ⟨b2, o2 + k * 9 + 8, none⟩) (by show b2 < W9.heap.size; omega)).trans gc8))
      have D := hide (A.out.drew.trans (hb.mono hz9))
      clear hb hc0 gc0 s0 t0 hc1 gc1 s1 t1 hc2 gc2 s2 t2 hc3 gc3 s3 t3 hc4 gc4 s4 t4 hc5 gc5 s5 t5 hc6 gc6 s6 t6 hc7 gc7 s7 t7 hc8 gc8 s8 t8
      go_wp2
      go_roundw
      case rel => exact ⟨k + 1, _, by omega, by go_num, rfl, D⟩
      case measure => simp [intOf]; omega
    · obtain rfl : k = n := by omega
      go_wp2
      go_ret
      exact ⟨rfl, A.out⟩
set_option maxHeartbeats 2000000 in
theorem markBoxS_any (E : TypeId) (lo hi : Nat) (a : Option Addr) (n c : Nat) (xs : List Int) (k0 : Int) (w : World) (hA : Row E w lo hi a (n * 9) xs) (hn : n ≤ 1048577) (hk : 0 ≤ k0 ∧ k0 ≤ 1099511627776) :
    Calls Try.prog 11 #[.slice a n c, .int .i64 k0] w (Marked E lo hi a (n * 9) k0 w) := by
  have HM := hide (show ∀ wr, Marking E w lo hi a (n * 9) (n * 9) (marks k0 (n * 9)) wr → Marked E lo hi a (n * 9) k0 w (.returned (.int .i64 (k0 + (n * 9 : Nat)))) wr from fun wr h => ⟨rfl, h.row hA (marks_length _ _), h.1⟩)
  have HS := hide (Marking.start (ys := marks k0 (n * 9)) hA)
  have HA := hide hA
  clear hA
  go_enter Try.func11, Try.ntmps11
  go_wp2
  go_loopw [1, 5] (fun s1 s5 wr => ∃ (k : Nat) (W9 : World), k ≤ n ∧ s1 = .int .i64 (k0 + 9 * k) ∧ s5 = .int .i64 k ∧ W9 = wr ∧ Hid (Marking E w lo hi a (n * 9) (k * 9) (marks k0 (n * 9)) W9)) (fun _ s5 _ => n - (intOf s5).toNat)
  case atStart => exact ⟨0, w, Nat.zero_le _, by simp, rfl, rfl, by rw [Nat.zero_mul]; exact HS⟩
  case round =>
    obtain ⟨k, W9, hk, rfl, rfl, rfl, A⟩ := hrel
    clear HS
    by_cases hlt : k < n
    · obtain ⟨b, off, _, rfl, _⟩ := HA.out.2 (by omega)
      have hlk : k * 9 + 9 ≤ n * 9 := by omega
      obtain ⟨v0, hv0, hf0⟩ := A.out.cell (k * 9 + 0) (by omega)
      obtain ⟨v1, hv1, hf1⟩ := A.out.cell (k * 9 + 1) (by omega)
      obtain ⟨v2, hv2, hf2⟩ := A.out.cell (k * 9 + 2) (by omega)
      obtain ⟨v3, hv3, hf3⟩ := A.out.cell (k * 9 + 3) (by omega)
      obtain ⟨v4, hv4, hf4⟩ := A.out.cell (k * 9 + 4) (by omega)
      obtain ⟨v5, hv5, hf5⟩ := A.out.cell (k * 9 + 5) (by omega)
      obtain ⟨v6, hv6, hf6⟩ := A.out.cell (k * 9 + 6) (by omega)
      obtain ⟨v7, hv7, hf7⟩ := A.out.cell (k * 9 + 7) (by omega)
      obtain ⟨v8, hv8, hf8⟩ := A.out.cell (k * 9 + 8) (by omega)
      rw [← Nat.add_assoc] at hv0 hf0
      rw [← Nat.add_assoc] at hv1 hf1
      rw [← Nat.add_assoc] at hv2 hf2
      rw [← Nat.add_assoc] at hv3 hf3
      rw [← Nat.add_assoc] at hv4 hf4
      rw [← Nat.add_assoc] at hv5 hf5
      rw [← Nat.add_assoc] at hv6 hf6
      rw [← Nat.add_assoc] at hv7 hf7
      rw [← Nat.add_assoc] at hv8 hf8
      rw [Nat.add_zero] at hv0 hf0
      have m0 : (marks k0 (n * 9)).getD (k * 9 + 0) 0 = k0 + 9 * (k : Int) := by rw [marks_at k0 (n * 9) (k * 9 + 0) (by omega)]; omega
      have m1 : (marks k0 (n * 9)).getD (k * 9 + 1) 0 = k0 + 9 * (k : Int) + 1 := by rw [marks_at k0 (n * 9) (k * 9 + 1) (by omega)]; omega
      have m2 : (marks k0 (n * 9)).getD (k * 9 + 2) 0 = k0 + 9 * (k : Int) + 1 + 1 := by rw [marks_at k0 (n * 9) (k * 9 + 2) (by omega)]; omega
      have m3 : (marks k0 (n * 9)).getD (k * 9 + 3) 0 = k0 + 9 * (k : Int) + 1 + 1 + 1 := by rw [marks_at k0 (n * 9) (k * 9 + 3) (by omega)]; omega
      have m4 : (marks k0 (n * 9)).getD (k * 9 + 4) 0 = k0 + 9 * (k : Int) + 1 + 1 + 1 + 1 := by rw [marks_at k0 (n * 9) (k * 9 + 4) (by omega)]; omega
      have m5 : (marks k0 (n * 9)).getD (k * 9 + 5) 0 = k0 + 9 * (k : Int) + 1 + 1 + 1 + 1 + 1 := by rw [marks_at k0 (n * 9) (k * 9 + 5) (by omega)]; omega
      have m6 : (marks k0 (n * 9)).getD (k * 9 + 6) 0 = k0 + 9 * (k : Int) + 1 + 1 + 1 + 1 + 1 + 1 := by rw [marks_at k0 (n * 9) (k * 9 + 6) (by omega)]; omega
      have m7 : (marks k0 (n * 9)).getD (k * 9 + 7) 0 = k0 + 9 * (k : Int) + 1 + 1 + 1 + 1 + 1 + 1 + 1 := by rw [marks_at k0 (n * 9) (k * 9 + 7) (by omega)]; omega
      have m8 : (marks k0 (n * 9)).getD (k * 9 + 8) 0 = k0 + 9 * (k : Int) + 1 + 1 + 1 + 1 + 1 + 1 + 1 + 1 := by rw [marks_at k0 (n * 9) (k * 9 + 8) (by omega)]; omega
      have HN := (((((((((A.out.step (show k * 9 + 0 < n * 9 by omega) m0).step (show k * 9 + 1 < n * 9 by omega) m1).step (show k * 9 + 2 < n * 9 by omega) m2).step (show k * 9 + 3 < n * 9 by omega) m3).step (show k * 9 + 4 < n * 9 by omega) m4).step (show k * 9 + 5 < n * 9 by omega) m5).step (show k * 9 + 6 < n * 9 by omega) m6).step (show k * 9 + 7 < n * 9 by omega) m7).step (show k * 9 + 8 < n * 9 by omega) m8)
      simp only [← Nat.add_assoc] at HN
      have HN' := hide HN
      clear HN m0 m1 m2 m3 m4 m5 m6 m7 m8
      go_wp2
      go_roundw
      case rel => exact ⟨k + 1, _, by omega, by go_num, by go_num, rfl, by rw [Nat.add_mul, Nat.one_mul]; exact HN'⟩
      case measure => simp [intOf]; omega
    · obtain rfl : k = n := by omega
      have D := hide (HM.out _ A.out)
      rw [show k0 + ((k * 9 : Nat) : Int) = k0 + 9 * (k : Int) by omega] at D
      go_wp2
      go_ret
      exact D.out
end Go.Proofs.Ythgliihdaockoaa
