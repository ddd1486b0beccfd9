/- Slices of structs (Track): copied, compared, marked, asked. Conditions: none. -/
import Derived.Test.YtelokjobhfhhfaaSums
import Derived.Deep.RegionHeld3
namespace Go.Proofs.Ytelokjobhfhhfaa
open Go.RowKit
set_option linter.unusedVariables false

theorem szTrackS_any (a : Option Addr) (n c : Nat) (l : Int) (w : World) (hn : n ≤ 9223372036854775807) (hl : 0 ≤ l ∧ l ≤ 1048576) :
    Calls Try.prog 19 #[.slice a n c, .int .i64 l] w fun e w' => e = .returned (.int .i64 (if l < n then -1 else l - n)) ∧ w = w' := by
  have e1 : IntKind.i64.wrap (l - n) = l - n := IntWalk.i64_in _ (by omega)
  by_cases h : l < n
  · have e2 : l - n < 0 := by omega
    rw [if_pos h]
    go_enter Try.func19, Try.ntmps19
    go_wp2
    go_ret
    exact ⟨rfl, rfl⟩
  · have e2 : ¬ l - n < 0 := by omega
    rw [if_neg h]
    go_enter Try.func19, Try.ntmps19
    go_wp2
    go_ret
    exact ⟨rfl, rfl⟩
set_option maxHeartbeats 1000000 in
theorem toTrack_any (x0 x1 : Int) (w : World) :
    Calls Try.prog 37 #[.agg #[.int .i64 x0, .int .i64 x1]] w fun e w' => e = .returned (.agg #[.int .i64 x0, .int .i64 x1]) ∧ Below w.heap.size w w' := by
  have D := hide (show Below w.heap.size w (((w.alloc (.cells #[.int .i64 x0, .int .i64 x1] 54)).alloc (.cells #[.int .i64 x0, .int .i64 x1] 33)).alloc (.cells #[.int .i64 x0, .int .i64 x1] 33)) from
    (((Below.refl _ _).alloc (Nat.le_refl _) _).alloc (by simp) _).alloc (by simp; omega) _)
  go_enter Try.func37, Try.ntmps37
  go_wp2
  exact bodyPost_ret (v := .agg #[.int .i64 x0, .int .i64 x1]) (by simp [results, Try.results37, go_sem]) rfl ⟨rfl, D.out⟩
set_option maxHeartbeats 1000000 in
theorem eqTrack_self (x0 x1 : Int) (w : World) :
    Calls Try.prog 38 #[.agg #[.int .i64 x0, .int .i64 x1], .agg #[.int .i64 x0, .int .i64 x1]] w fun e w' => e = .returned (.bool true) ∧ Below w.heap.size w w' := by
  have D := hide (show Below w.heap.size w ((w.alloc (.cells #[.int .i64 x0, .int .i64 x1] 33)).alloc (.cells #[.int .i64 x0, .int .i64 x1] 33)) from ((Below.refl _ _).alloc (Nat.le_refl _) _).alloc (by simp) _)
  go_enter Try.func38, Try.ntmps38
  go_wp2
  go_ret
  exact ⟨rfl, D.out⟩
/-- a new slice of structs that holds the cells xs -/
def MadeTrack (xs : List Int) (w : World) (e : Ending) (w' : World) : Prop :=
  ∃ (A : Option Addr) (n c : Nat), e = .returned (.slice A n c) ∧ n ≤ c ∧ c ≤ 9223372036854775807 ∧ Row 33 w' w.heap.size w'.heap.size A (n * 2) xs ∧ Below w.heap.size w w'
theorem Track_info : (Try.prog.info? 33).map (fun i => (i.zero, i.size, i.bytes)) = some (some (.agg #[.int .i64 0, .int .i64 0]), 2, 16) := by kernel_rfl
theorem mk_Track (n : Nat) (hn : n ≤ 1099511627776) (w : World) :
    (Instr.makeSlice 23 (.int .i64 (n : Int)) (.int .i64 (n : Int))).run Try.prog w = .ok (.slice (some ⟨w.heap.size, 0, none⟩) n n) (w.alloc (.cells (madeCells #[.int .i64 0, .int .i64 0] (n * 2)) 33)) := by
  obtain ⟨i0, hi, hz0, hz1, hz2⟩ := info_parts Track_info
  have h := run_make w 23 33 i0 (.agg #[.int .i64 0, .int .i64 0]) Try.underlying23 hi hz0 .i64 .i64 n n (by omega) (by omega) (by rw [hz2]; omega) (by omega)
  simpa [hz1, Value.cells] using h

set_option maxHeartbeats 2000000 in
theorem toTrackS_any (a : Option Addr) (n c : Nat) (xs : List Int) (w : World) (hA : Ints .i64 w w.heap.size a (n * 2) xs) (hn : n ≤ 1048576) :
    Calls Try.prog 20 #[.slice a n c] w (MadeTrack xs w) := by
  have hmk := mk_Track n (by omega)
  have HM := hide (show ∀ wr, Filling 33 w w.heap.size (n * 2) (n * 2) xs wr → MadeTrack xs w (.returned (.slice (some ⟨w.heap.size, 0, none⟩) n n)) wr from fun wr h =>
    ⟨some ⟨w.heap.size, 0, none⟩, n, n, rfl, Nat.le_refl _, by omega, (h.row hA.1).mono (Nat.le_refl _) (by have := h.lt; omega), h.1⟩)
  have HS := hide (Filling.start 33 w (madeCells #[.int .i64 0, .int .i64 0] (n * 2)) xs)
  rw [size_madeCells] at HS
  have HA := hide hA
  clear hA
  go_enter Try.func20, Try.ntmps20
  go_wp2
  generalize w.alloc (.cells (madeCells #[.int .i64 0, .int .i64 0] (n * 2)) 33) = W0 at HS ⊢
  clear hmk
  go_loopw [4] (fun s4 wr => ∃ (k : Nat) (W9 : World), k ≤ n ∧ s4 = .int .i64 k ∧ W9 = wr ∧ Hid (Filling 33 w w.heap.size (n * 2) (k * 2) xs W9)) (fun s4 _ => n - (intOf s4).toNat)
  case atStart => exact ⟨0, _, Nat.zero_le _, rfl, rfl, by rw [Nat.zero_mul]; exact HS⟩
  case round =>
    obtain ⟨k, W9, hk, rfl, rfl, A⟩ := hrel
    clear HS
    by_cases hlt : k < n
    · obtain ⟨b, off, rfl, hbB, hcell⟩ := HA.out.2.2 (by omega)
      have hcell9 : ∀ i, i < n * 2 → W9.cell? ⟨b, off + i, none⟩ = some (.int .i64 (xs.getD i 0)) := fun i hi => (A.out.1.cell (p := ⟨b, off + i, none⟩) hbB).trans (hcell i hi)
      have hgs : w.heap.size < W9.heap.size := A.out.lt
      have hc0 := hcell9 (k * 2 + 0) (by omega)
      rw [← Nat.add_assoc] at hc0
      rw [Nat.add_zero, Nat.add_zero] at hc0
      have hc1 := hcell9 (k * 2 + 1) (by omega)
      rw [← Nat.add_assoc] at hc1
      have HN := hide (fun (W : World) (hb : Below W9.heap.size W9 W) => ((A.out.keep hb).step (by omega) (show xs.getD (k * 2 + 0) 0 = xs.getD (k * 2 + 0) 0 from rfl)).step (by omega) (show xs.getD (k * 2 + 1) 0 = xs.getD (k * 2 + 1) 0 from rfl))
      have HF := hide (fun (W : World) (hb : Below W9.heap.size W9 W) (j : Nat) (hj : j < n * 2) => (A.out.keep hb).cell j hj)
      have hlk : k * 2 + 2 ≤ n * 2 := by omega
      clear hcell hcell9
      generalize xs.getD (k * 2 + 0) 0 = y0 at hc0 HN
      generalize xs.getD (k * 2 + 1) 0 = y1 at hc1 HN
      go_wp2_with fail
      refine (toTrack_any y0 y1 _).mono ?_
      rintro e W10 ⟨rfl, hb⟩
      have N9 := hide (HN.out W10 hb)
      obtain ⟨v0, hv0, hf0⟩ := HF.out W10 hb (k * 2 + 0) (by omega)
      obtain ⟨v1, hv1, hf1⟩ := HF.out W10 hb (k * 2 + 1) (by omega)
      rw [Nat.add_zero] at hv0 hf0
      clear HN HF hb hc0 hc1
      go_wp2
      go_roundw
      case rel => exact ⟨k + 1, _, by omega, by go_num, rfl, by rw [Nat.add_mul, Nat.one_mul]; exact N9⟩
      case measure => simp [intOf]; omega
    · obtain rfl : k = n := by omega
      have D := hide (HM.out _ A.out)
      go_wp2
      go_ret
      exact D.out
set_option maxHeartbeats 2000000 in
theorem eqTrackS_self (B1 B2 : Nat) (a b : Option Addr) (n c d : Nat) (xs : List Int) (w : World) (hA : Ints .i64 w B1 a (n * 2) xs) (hB : Ints .i64 w B2 b (n * 2) xs) (hB1 : B1 ≤ w.heap.size) (hB2 : B2 ≤ w.heap.size) (hn : n ≤ 1099511627776) :
    Calls Try.prog 21 #[.slice a n c, .slice b n d] w fun e w' => e = .returned (.bool true) ∧ Below w.heap.size w w' := by
  have HA := hide hA
  have HB := hide hB
  clear hA hB
  have hq : ((n : Int) != (n : Int)) = false := by simp
  go_enter Try.func21, Try.ntmps21
  go_wp2
  go_loopw [5] (fun s5 wr => ∃ (k : Nat) (W9 : World), k ≤ n ∧ s5 = .int .i64 k ∧ W9 = wr ∧ Hid (Below w.heap.size w W9)) (fun s5 _ => n - (intOf s5).toNat)
  case atStart => exact ⟨0, w, Nat.zero_le _, rfl, rfl, hide (Below.refl _ _)⟩
  case round =>
    obtain ⟨k, W9, hk, rfl, rfl, A⟩ := hrel
    by_cases hlt : k < n
    · obtain ⟨b1, o1, rfl, hb1, hcell⟩ := (HA.out.below A.out hB1).2.2 (by omega)
      obtain ⟨b2, o2, rfl, hb2, hcell'⟩ := (HB.out.below A.out hB2).2.2 (by omega)
      have h3 : (k : Int) < (n : Int) := by omega
      have hz9 := A.out.size
      have hc0 := hcell (k * 2 + 0) (by omega)
      rw [← Nat.add_assoc] at hc0
      rw [Nat.add_zero, Nat.add_zero] at hc0
      have hc1 := hcell (k * 2 + 1) (by omega)
      rw [← Nat.add_assoc] at hc1
      have gc0 := hcell' (k * 2 + 0) (by omega)
      rw [← Nat.add_assoc] at gc0
      rw [Nat.add_zero, Nat.add_zero] at gc0
      have gc1 := hcell' (k * 2 + 1) (by omega)
      rw [← Nat.add_assoc] at gc1
      clear hcell hcell'
      generalize xs.getD (k * 2 + 0) 0 = y0 at hc0 gc0
      generalize xs.getD (k * 2 + 1) 0 = y1 at hc1 gc1
      go_wp2_with fail
      go_region_held3 (fun w' => w'.cell? ⟨b1, o1 + k * 2, none⟩ = some (.int .i64 y0) ∧ w'.cell? ⟨b1, o1 + k * 2 + 1, none⟩ = some (.int .i64 y1) ∧ w'.cell? ⟨b2, o2 + k * 2, none⟩ = some (.int .i64 y0) ∧ w'.cell? ⟨b2, o2 + k * 2 + 1, none⟩ = some (.int .i64 y1)) (first | go_keep | exact ⟨s0, s1, t0, t1⟩)
        ((go_at_call 38; refine (eqTrack_self y0 y1 W9.drew).mono ?_; rintro e W10 ⟨rfl, hb⟩; have s0 := (hb.cell (p := ⟨b1, o1 + k * 2, none⟩) (by show b1 < W9.heap.size; omega)).trans hc0; have t0 := (hb.cell (p := ⟨b2, o2 + k * 2, none⟩) (by show b2 < W9.heap.size; omega)).trans gc0; have s1 := (hb.cell (p := ⟨b1, o1 + k * 2 + 1, none⟩) (by show b1 < W9.heap.size; omega)).trans hc1; have t1 := (hb.cell (p := ⟨b2, o2 + k * 2 + 1, none⟩) (by show b2 < W9.heap.size; omega)).trans gc1))
      have D := hide (A.out.drew.trans (hb.mono hz9))
      clear hb hc0 gc0 s0 t0 hc1 gc1 s1 t1
      go_wp2
      go_roundw
      case rel => exact ⟨k + 1, _, by omega, by go_num, rfl, D⟩
      case measure => simp [intOf]; omega
    · obtain rfl : k = n := by omega
      go_wp2
      go_ret
      exact ⟨rfl, A.out⟩
end Go.Proofs.Ytelokjobhfhhfaa
