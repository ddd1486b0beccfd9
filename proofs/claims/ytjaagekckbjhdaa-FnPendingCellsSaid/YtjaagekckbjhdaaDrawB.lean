/- Drawn buffers: the drawn arguments of each law. Conditions: none. -/
import Derived.Test.YtjaagekckbjhdaaDrawBuf
import Derived.Deep.DeepMust
namespace Go.Proofs.Ytjaagekckbjhdaa
open Go.RowKit
set_option linter.unusedVariables false

/-- new buffers, at most 20 cells each -/
def NewB (w w' : World) (A : Option Addr) (n c : Nat) (B : Option Addr) (m d : Nat) (xs ys : List Int) (ver : Int) : Prop :=
  n ≤ 20 ∧ m ≤ 20 ∧ n ≤ c ∧ c ≤ 9223372036854775807 ∧ m ≤ d ∧ d ≤ 9223372036854775807 ∧ -1 ≤ ver ∧ ver ≤ 1001 ∧
    Row 3 w' w.heap.size w'.heap.size A n xs ∧ Row 3 w' w.heap.size w'.heap.size B m ys ∧ Below w.heap.size w w'
theorem cell3_other {w : World} {g b o : Nat} {u0 u1 u2 v : Value} (h : w.cell? ⟨b, o, none⟩ = some v) (hne : b ≠ g) : (((w.setCell ⟨g, 0, none⟩ u0).setCell ⟨g, 1, none⟩ u1).setCell ⟨g, 2, none⟩ u2).cell? ⟨b, o, none⟩ = some v := by
  rw [World.cell?_setCell_other _ _ _ _ (by intro e; injection e with e; exact hne e.symm), World.cell?_setCell_other _ _ _ _ (by intro e; injection e with e; exact hne e.symm), World.cell?_setCell_other _ _ _ _ (by intro e; injection e with e; exact hne e.symm), h]
def DrawsB (w : World) (e : Ending) (w' : World) : Prop :=
  ∃ A n c B m d xs ys ver, e = .returned (.agg #[.slice A n c, .slice B m d, .int .i64 ver]) ∧ NewB w w' A n c B m d xs ys ver
def DrawsB1 (w : World) (e : Ending) (w' : World) : Prop :=
  ∃ A n c B m d xs ys ver i, e = .returned (.tuple #[.agg #[.slice A n c, .slice B m d, .int .i64 ver], .int .i64 i]) ∧ -1 ≤ i ∧ i ≤ 21 ∧ NewB w w' A n c B m d xs ys ver
def DrawsB2 (w : World) (e : Ending) (w' : World) : Prop :=
  ∃ A n c B m d xs ys ver i x, e = .returned (.tuple #[.agg #[.slice A n c, .slice B m d, .int .i64 ver], .int .i64 i, .int .i64 x]) ∧ -1 ≤ i ∧ i ≤ 21 ∧ -10001 ≤ x ∧ x ≤ 10001 ∧ NewB w w' A n c B m d xs ys ver
theorem newB_of {w W0 W1 W2 : World} {R n c m d Q : Nat} {A B : Option Addr} {xs ys : List Int} {ver : Int} (hb0 : Below w.heap.size w W0) (hR : w.heap.size ≤ R) (hRo : w.heap.size + Q ≤ W0.heap.size)
    (k1 : n ≤ 20) (k2 : m ≤ 20) (k3 : n ≤ c) (k4 : c ≤ 9223372036854775807) (k5 : m ≤ d) (k6 : d ≤ 9223372036854775807) (k7 : -1 ≤ ver) (k8 : ver ≤ 1001)
    (hA : Row 3 W1 W0.heap.size W1.heap.size A n xs) (hB : Row 3 W1 W0.heap.size W1.heap.size B m ys) (hg : W0.grownBy W1 (some R)) (hz : W1.heap.size ≤ W2.heap.size)
    (ho : Only w.heap.size W0.heap.size W1 W2) : NewB w W2 A n c B m d xs ys ver :=
  ⟨k1, k2, k3, k4, k5, k6, k7, k8, (hA.far ho (.inr (Nat.le_refl _))).mono (by omega) hz, (hB.far ho (.inr (Nat.le_refl _))).mono (by omega) hz,
   (hb0.grown hg hb0.size (fun k hk => by injection hk with hk; omega)).trans (ho.below (Nat.le_refl _) (by have := hg.size; omega))⟩

set_option maxHeartbeats 2000000 in
theorem drawValidBuffers_any (A : Option Addr) (n c : Nat) (zs : List Int) (w : World) (hA : Ints .u8 w w.heap.size A n zs) (hnc : n ≤ c) :
    Calls Try.prog 14 #[.slice A n c] w (DrawsB w) := by
  have HA := hide (show Ints .u8 (w.alloc (.cells #[.slice none 0 0, .slice none 0 0, .int .i64 0] 27)) (w.alloc (.cells #[.slice none 0 0, .slice none 0 0, .int .i64 0] 27)).heap.size A n zs from (hA.below ((Below.refl _ _).alloc (Nat.le_refl _) _) (Nat.le_refl _)).more (by simp))
  go_enter Try.func14, Try.ntmps14
  go_wp2_with fail
  refine (newReader_any A n c zs _ HA.out hnc).mono ?_
  rintro e W0 ⟨R, hR, hR', rfl, hr, hb⟩
  go_wp2_with fail
  refine (anyBuffers_any R 0 W0 (hr.mono (by omega)) (by omega)).mono ?_
  rintro e W1 ⟨A1, n1, c1, B1, m1, d1, xs, ys, ver, rfl, k1, k2, k3, k4, k5, k6, k7, k8, rA, rB, hr1, hg1⟩
  have hz0 := hb.size
  have hz1 := hg1.size
  simp at hz0 hR
  have hb0 := (((Below.refl w.heap.size w).alloc (Nat.le_refl _) (.cells #[.slice none 0 0, .slice none 0 0, .int .i64 0] 27))).trans (hb.mono (by simp))
  have D := hide (fun (W2 : World) (hz : W1.heap.size ≤ W2.heap.size) (ho : Only w.heap.size W0.heap.size W1 W2) => newB_of (Q := 1) hb0 (by omega) (by omega) k1 k2 k3 k4 k5 k6 k7 k8 rA rB hg1 hz ho)
  obtain ⟨d0, d1', d2, q0, q1, q2⟩ := AnyOp.cellsOf ((hg1.block w.heap.size (by omega) (fun e => by injection e with e; omega)).trans ((hb.block w.heap.size (by simp)).trans (heap_alloc_new w _)))
  clear hb hb0 rA rB hr hr1 hg1 HA hA
  go_wp2_with fail
  refine bodyPost_ret (v := .agg #[.slice A1 n1 c1, .slice B1 m1 d1, .int .i64 ver]) (by simp [results, Try.results14, go_sem, d0, d1', d2]) rfl ⟨_, _, _, _, _, _, _, _, _, rfl, D.out _ ?_ ?_⟩
  · simp [World.setCell]
  · exact (((Only.refl _ _ _).set (Nat.le_refl _) (by omega) _).set (Nat.le_refl _) (by omega) _).set (Nat.le_refl _) (by omega) _
set_option maxHeartbeats 2000000 in
theorem drawPendingCells_any (A : Option Addr) (n c : Nat) (zs : List Int) (w : World) (hA : Ints .u8 w w.heap.size A n zs) (hnc : n ≤ c) :
    Calls Try.prog 25 #[.slice A n c] w (DrawsB w) := by
  have HA := hide (show Ints .u8 (w.alloc (.cells #[.slice none 0 0, .slice none 0 0, .int .i64 0] 27)) (w.alloc (.cells #[.slice none 0 0, .slice none 0 0, .int .i64 0] 27)).heap.size A n zs from (hA.below ((Below.refl _ _).alloc (Nat.le_refl _) _) (Nat.le_refl _)).more (by simp))
  go_enter Try.func25, Try.ntmps25
  go_wp2_with fail
  refine (newReader_any A n c zs _ HA.out hnc).mono ?_
  rintro e W0 ⟨R, hR, hR', rfl, hr, hb⟩
  go_wp2_with fail
  refine (anyBuffers_any R 0 W0 (hr.mono (by omega)) (by omega)).mono ?_
  rintro e W1 ⟨A1, n1, c1, B1, m1, d1, xs, ys, ver, rfl, k1, k2, k3, k4, k5, k6, k7, k8, rA, rB, hr1, hg1⟩
  have hz0 := hb.size
  have hz1 := hg1.size
  simp at hz0 hR
  have hb0 := (((Below.refl w.heap.size w).alloc (Nat.le_refl _) (.cells #[.slice none 0 0, .slice none 0 0, .int .i64 0] 27))).trans (hb.mono (by simp))
  have D := hide (fun (W2 : World) (hz : W1.heap.size ≤ W2.heap.size) (ho : Only w.heap.size W0.heap.size W1 W2) => newB_of (Q := 1) hb0 (by omega) (by omega) k1 k2 k3 k4 k5 k6 k7 k8 rA rB hg1 hz ho)
  obtain ⟨d0, d1', d2, q0, q1, q2⟩ := AnyOp.cellsOf ((hg1.block w.heap.size (by omega) (fun e => by injection e with e; omega)).trans ((hb.block w.heap.size (by simp)).trans (heap_alloc_new w _)))
  clear hb hb0 rA rB hr hr1 hg1 HA hA
  go_wp2_with fail
  refine bodyPost_ret (v := .agg #[.slice A1 n1 c1, .slice B1 m1 d1, .int .i64 ver]) (by simp [results, Try.results25, go_sem, d0, d1', d2]) rfl ⟨_, _, _, _, _, _, _, _, _, rfl, D.out _ ?_ ?_⟩
  · simp [World.setCell]
  · exact (((Only.refl _ _ _).set (Nat.le_refl _) (by omega) _).set (Nat.le_refl _) (by omega) _).set (Nat.le_refl _) (by omega) _
set_option maxHeartbeats 2000000 in
theorem drawReadCell_any (A : Option Addr) (n c : Nat) (zs : List Int) (w : World) (hA : Ints .u8 w w.heap.size A n zs) (hnc : n ≤ c) :
    Calls Try.prog 17 #[.slice A n c] w (DrawsB1 w) := by
  have HA := hide (show Ints .u8 (w.alloc (.cells #[.slice none 0 0, .slice none 0 0, .int .i64 0] 27)) (w.alloc (.cells #[.slice none 0 0, .slice none 0 0, .int .i64 0] 27)).heap.size A n zs from (hA.below ((Below.refl _ _).alloc (Nat.le_refl _) _) (Nat.le_refl _)).more (by simp))
  go_enter Try.func17, Try.ntmps17
  go_wp2_with fail
  refine (newReader_any A n c zs _ HA.out hnc).mono ?_
  rintro e W0 ⟨R, hR, hR', rfl, hr, hb⟩
  go_wp2_with fail
  refine (anyBuffers_any R 0 W0 (hr.mono (by omega)) (by omega)).mono ?_
  rintro e W1 ⟨A1, n1, c1, B1, m1, d1, xs, ys, ver, rfl, k1, k2, k3, k4, k5, k6, k7, k8, rA, rB, hr1, hg1⟩
  have hz0 := hb.size
  have hz1 := hg1.size
  simp at hz0 hR
  have hb0 := (((Below.refl w.heap.size w).alloc (Nat.le_refl _) (.cells #[.slice none 0 0, .slice none 0 0, .int .i64 0] 27))).trans (hb.mono (by simp))
  have hbr : W1.heap[w.heap.size]? = some (.cells #[.slice none 0 0, .slice none 0 0, .int .i64 0] 27 (0, 0)) := ((hg1.block w.heap.size (by omega) (fun e => by injection e with e; omega)).trans ((hb.block w.heap.size (by simp)).trans (heap_alloc_new w _)))
  have HR1 := hide (hr1.alloc (.cells #[.slice A1 n1 c1, .slice B1 m1 d1, .int .i64 ver] 27))
  have D := hide (fun (W2 W3 : World) (hg2 : W0.grownBy W2 (some R)) (rA : Row 3 W2 W0.heap.size W2.heap.size A1 n1 xs) (rB : Row 3 W2 W0.heap.size W2.heap.size B1 m1 ys) (hz : W2.heap.size ≤ W3.heap.size) (ho : Only w.heap.size W0.heap.size W2 W3) => newB_of (Q := 1) hb0 (by omega) (by omega) k1 k2 k3 k4 k5 k6 k7 k8 rA rB hg2 hz ho)
  have HG := hide hg1
  have HrA := hide rA
  have HrB := hide rB
  have hw2 : IntKind.i64.wrap ((n1 : Int) + 2) = (n1 : Int) + 2 := IntWalk.i64_in _ (by omega)
  have HRR := hide (show R < W1.heap.size by omega)
  clear hb hb0 rA rB hr hr1 hg1 HA hA
  go_wp2_with fail
  go_region_held3 (fun w' => w'.cell? ⟨W1.heap.size, 0, none⟩ = some (.slice A1 n1 c1) ∧ w'.cell? ⟨W1.heap.size, 1, none⟩ = some (.slice B1 m1 d1) ∧ w'.cell? ⟨W1.heap.size, 2, none⟩ = some (.int .i64 ver)) (first | go_keep | exact ⟨sb0, sb1, sb2⟩ | exact ⟨cell3_other sb0 (by omega), cell3_other sb1 (by omega), cell3_other sb2 (by omega)⟩)
    (first | (go_at_call 38; (refine (pick_any R 100 ((n1 : Int) + 2) _ (by exact HR1.out) (by omega) (by omega) (by omega)).mono ?_; rintro e W2 ⟨i, hi, rfl, hr2, hg2⟩; obtain ⟨sb0, sb1, sb2, _, _, _⟩ := AnyOp.cellsOf ((hg2.block W1.heap.size (by show W1.heap.size < (W1.alloc _).heap.size; simp) (fun e => by injection e with e; omega)).trans (heap_alloc_new W1 _)); obtain ⟨d0, d1', d2, q0, q1, q2⟩ := AnyOp.cellsOf ((hg2.block w.heap.size (by show w.heap.size < (W1.alloc _).heap.size; simp; omega) (fun e => by injection e with e; omega)).trans ((Below.heap_alloc _ _ _ (by omega)).trans hbr)))))
  have hi1 : 0 ≤ i ∧ i ≤ 21 := (by have h1 := hi.1; have h2 := hi.2.1 (by omega); omega)
  have hwr : IntKind.i64.wrap (i - 1) = i - 1 := IntWalk.i64_in _ (by omega)
  have hz2 : W1.heap.size + 1 ≤ W2.heap.size := (by have := hg2.size; simpa using this)
  have DD := hide (fun (W3 : World) (hz : W2.heap.size ≤ W3.heap.size) (ho : Only w.heap.size W0.heap.size W2 W3) => D.out W2 W3 (only_trans (only_drew (only_alloc HG.out _)) hg2) ((HrA.out.keep fun k h1 h2 h3 => (hg2.block k (by show k < (W1.alloc _).heap.size; simp; omega) (fun e => by injection e with e; omega)).trans (Below.heap_alloc _ _ _ h3)).mono (Nat.le_refl _) (by omega)) ((HrB.out.keep fun k h1 h2 h3 => (hg2.block k (by show k < (W1.alloc _).heap.size; simp; omega) (fun e => by injection e with e; omega)).trans (Below.heap_alloc _ _ _ h3)).mono (Nat.le_refl _) (by omega)) hz ho)
  clear hr2 hg2 hi hbr D HG HrA HrB HR1
  go_wp2
  refine bodyPost_ret (v := .tuple #[.agg #[.slice A1 n1 c1, .slice B1 m1 d1, .int .i64 ver], .int .i64 (i - 1)]) (by simp [results, Try.results17, go_sem, d0, d1', d2, hwr]) rfl ⟨_, _, _, _, _, _, _, _, _, _, rfl, by omega, by omega, DD.out _ ?_ ?_⟩
  · simp [World.setCell]
  · exact (((Only.refl _ _ _).set (Nat.le_refl _) (by omega) _).set (Nat.le_refl _) (by omega) _).set (Nat.le_refl _) (by omega) _
end Go.Proofs.Ytjaagekckbjhdaa
