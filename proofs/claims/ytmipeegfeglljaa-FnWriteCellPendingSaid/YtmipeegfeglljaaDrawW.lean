/- The drawn arguments of WriteCell. Conditions: none. -/
import Derived.Test.YtmipeegfeglljaaDrawB
namespace Go.Proofs.Ytmipeegfeglljaa
open Go.RowKit
set_option linter.unusedVariables false

/-- one of a list that lies anywhere but in the reader -/
theorem one_gen (R p : Nat) (xs : List Int) (n g : Nat) (w : World) (h : Rd w R p) (hp : p ≤ 900000) (hn : n = xs.length) (hx : 0 < n) (hx2 : n ≤ 1000) (hg : g ≠ R) (hgl : g < w.heap.size)
    (hc : ∀ i, i < xs.length → w.cell? ⟨g, i, none⟩ = some (.int .i64 (xs.getD i 0))) :
    Calls Try.prog 26 #[.pointer (some ⟨R, 0, none⟩), .slice (some ⟨g, 0, none⟩) n n] w (Draws R (p + 1) (· ∈ xs) w) := by
  have hR := h.lt
  go_enter Try.func26, Try.ntmps26
  go_wp2_with fail
  refine (pick_any R p _ _ h (by omega) (by omega) (by omega)).mono ?_
  rintro e W1 ⟨k, ⟨hk0, hk1, _⟩, rfl, hr1, hg1⟩
  obtain ⟨j, rfl⟩ := Int.eq_ofNat_of_zero_le hk0
  have hj : j < n := by have := hk1 (by omega); omega
  have hcj := hg1.cell (hc j (by omega)) (by simp; omega)
  have hmem : xs.getD j 0 ∈ xs := by
    rw [List.getD_eq_getElem?_getD, List.getElem?_eq_getElem (by omega)]
    exact List.getElem_mem _
  have D := hide (show Draws R (p + 1) (· ∈ xs) w (.returned (.int .i64 (xs.getD j 0))) W1 from ⟨_, hmem, rfl, hr1, hg1⟩)
  clear hmem hg1 hr1 h hc hk1 hn
  go_wp2
  go_ret
  exact D.out
theorem Row.grownR {E : TypeId} {w w' : World} {lo m R : Nat} {A : Option Addr} {xs : List Int} (h : Row E w lo w.heap.size A m xs) (hg : w.grownBy w' (some R)) (hR : R < lo) : Row E w' lo w'.heap.size A m xs :=
  (h.keep fun k h1 _ h3 => hg.block k h3 (fun e => by injection e with e; omega)).mono (Nat.le_refl _) hg.size

set_option maxHeartbeats 2000000 in
theorem drawWriteCell_any (A : Option Addr) (n c : Nat) (zs : List Int) (w : World) (hA : Ints .u8 w w.heap.size A n zs) (hnc : n ≤ c) :
    Calls Try.prog 8 #[.slice A n c] w (DrawsB2 w) := by
  have HA := hide (show Ints .u8 (w.alloc (.cells #[.slice none 0 0, .slice none 0 0, .int .i64 0] 25)) (w.alloc (.cells #[.slice none 0 0, .slice none 0 0, .int .i64 0] 25)).heap.size A n zs from (hA.below ((Below.refl _ _).alloc (Nat.le_refl _) _) (Nat.le_refl _)).more (by simp))
  go_enter Try.func8, Try.ntmps8
  go_wp2_with fail
  refine (newReader_any A n c zs _ HA.out hnc).mono ?_
  rintro e W0 ⟨R, hR, hR', rfl, hr, hb⟩
  go_wp2_with fail
  refine (anyBuffers_any R 0 W0 (hr.mono (by omega)) (by omega)).mono ?_
  rintro e W1 ⟨A1, n1, c1, B1, m1, d1, xs, ys, ver, rfl, k1, k2, k3, k4, k5, k6, k7, k8, rA, rB, hr1, hg1⟩
  have hz0 := hb.size
  have hz1 := hg1.size
  simp at hz0 hR
  have hb0 := (((Below.refl w.heap.size w).alloc (Nat.le_refl _) (.cells #[.slice none 0 0, .slice none 0 0, .int .i64 0] 25))).trans (hb.mono (by simp))
  have hbr : W1.heap[w.heap.size]? = some (.cells #[.slice none 0 0, .slice none 0 0, .int .i64 0] 25 (0, 0)) := ((hg1.block w.heap.size (by omega) (fun e => by injection e with e; omega)).trans ((hb.block w.heap.size (by simp)).trans (heap_alloc_new w _)))
  have D := hide (fun (W2 W3 : World) (hg2 : W1.grownBy W2 (some R)) (hz : W2.heap.size ≤ W3.heap.size) (ho : Only w.heap.size W0.heap.size W2 W3) => newB_of (Q := 1) hb0 (by omega) (by omega) k1 k2 k3 k4 k5 k6 k7 k8 (rA.grownR hg2 hR') (rB.grownR hg2 hR') (only_trans hg1 hg2) hz ho)
  have HBR := hide hbr
  have hw2 : IntKind.i64.wrap ((n1 : Int) + 2) = (n1 : Int) + 2 := IntWalk.i64_in _ (by omega)
  have HRR := hide (show R < W1.heap.size by omega)
  have HR1 := hide (show Rd (W1.alloc (.cells #[.slice A1 n1 c1, .slice B1 m1 d1, .int .i64 ver] 25)).drew R 100 from hr1.alloc _)
  have HR2 := hide (show Rd ((W1.alloc (.cells #[.slice A1 n1 c1, .slice B1 m1 d1, .int .i64 ver] 25)).alloc (.cells #[.int .i64 0, .int .i64 9, .int .i64 (-9), .int .i64 10000, .int .i64 10001, .int .i64 (-10001)] 3)).drew R 100 from (hr1.alloc _).alloc _)
  have HG1 := hide (show W1.grownBy (W1.alloc (.cells #[.slice A1 n1 c1, .slice B1 m1 d1, .int .i64 ver] 25)).drew (some R) from only_drew (World.grownBy_alloc W1 _ _))
  have HG2 := hide (show W1.grownBy ((W1.alloc (.cells #[.slice A1 n1 c1, .slice B1 m1 d1, .int .i64 ver] 25)).alloc (.cells #[.int .i64 0, .int .i64 9, .int .i64 (-9), .int .i64 10000, .int .i64 10001, .int .i64 (-10001)] 3)).drew (some R) from only_drew (only_trans (World.grownBy_alloc W1 _ _) (World.grownBy_alloc _ _ _)))
  have HP1 := hide (heap_alloc_new W1 (.cells #[.slice A1 n1 c1, .slice B1 m1 d1, .int .i64 ver] 25))
  have HP2 := hide ((Below.heap_alloc (W1.alloc (.cells #[.slice A1 n1 c1, .slice B1 m1 d1, .int .i64 ver] 25)) (.cells #[.int .i64 0, .int .i64 9, .int .i64 (-9), .int .i64 10000, .int .i64 10001, .int .i64 (-10001)] 3) W1.heap.size (by simp)).trans HP1.out)
  have HL := hide (show ∀ i, i < ([0, 9, -9, 10000, 10001, -10001] : List Int).length → ((W1.alloc (.cells #[.slice A1 n1 c1, .slice B1 m1 d1, .int .i64 ver] 25)).alloc (.cells #[.int .i64 0, .int .i64 9, .int .i64 (-9), .int .i64 10000, .int .i64 10001, .int .i64 (-10001)] 3)).drew.cell? ⟨W1.heap.size + 1, i, none⟩ = some (.int .i64 (([0, 9, -9, 10000, 10001, -10001] : List Int).getD i 0)) from fun i hi => by
    have h := lit_cells (W1.alloc (.cells #[.slice A1 n1 c1, .slice B1 m1 d1, .int .i64 ver] 25)) [0, 9, -9, 10000, 10001, -10001] i hi
    rw [show (W1.alloc (.cells #[.slice A1 n1 c1, .slice B1 m1 d1, .int .i64 ver] 25)).heap.size = W1.heap.size + 1 by simp] at h
    exact h)
  clear hb hb0 rA rB hr hr1 hg1 HA hA hbr
  go_wp2_with fail
  go_region_held3 (fun w' => w'.cell? ⟨W1.heap.size, 0, none⟩ = some (.slice A1 n1 c1) ∧ w'.cell? ⟨W1.heap.size, 1, none⟩ = some (.slice B1 m1 d1) ∧ w'.cell? ⟨W1.heap.size, 2, none⟩ = some (.int .i64 ver)) (first | go_keep | exact ⟨sb0, sb1, sb2⟩ | exact ⟨tb0, tb1, tb2⟩ | exact ⟨cell3_other tb0 (by omega), cell3_other tb1 (by omega), cell3_other tb2 (by omega)⟩)
    (first
      | (go_at_call 25; ((with_reducible refine (pick_any R 100 ((n1 : Int) + 2) _ HR1.out (by omega) (by omega) (by omega)).mono ?_)); rintro e W2 ⟨i, hi, rfl, hr2, hg2⟩; have hG2 := only_trans HG1.out hg2; have HB2 := hide ((hg2.block W1.heap.size (by show W1.heap.size < (W1.alloc _).heap.size; simp) (fun e => by injection e with e; have := HRR.out; omega)).trans HP1.out); obtain ⟨sb0, sb1, sb2, _, _, _⟩ := AnyOp.cellsOf HB2.out; have hzz : W1.heap.size < W2.heap.size := (by have := hg2.size; simp at this; omega); have ordC : True := trivial)
      | (go_at_call 25; ((with_reducible refine (pick_any R 100 ((n1 : Int) + 2) _ HR2.out (by omega) (by omega) (by omega)).mono ?_)); rintro e W2 ⟨i, hi, rfl, hr2, hg2⟩; have hG2 := only_trans HG2.out hg2; have HB2 := hide ((hg2.block W1.heap.size (by show W1.heap.size < ((W1.alloc _).alloc _).heap.size; simp; omega) (fun e => by injection e with e; have := HRR.out; omega)).trans HP2.out); obtain ⟨sb0, sb1, sb2, _, _, _⟩ := AnyOp.cellsOf HB2.out; have hzz : W1.heap.size < W2.heap.size := (by have := hg2.size; simp at this; omega); have ordA : True := trivial)
      | (have _o := ordC; go_at_call 26; refine (one_lit R 101 [0, 9, -9, 10000, 10001, -10001] 6 W2 hr2 (by omega) (by rfl) (by omega) (by omega)).mono ?_; rintro e W3 ⟨x, hx, rfl, hr3, hg3⟩; have hG3 := only_trans hG2 hg3; obtain ⟨tb0, tb1, tb2, _, _, _⟩ := AnyOp.cellsOf ((hg3.block W1.heap.size hzz (fun e => by injection e with e; have := HRR.out; omega)).trans HB2.out); obtain ⟨d0, d1', d2, q0, q1, q2⟩ := AnyOp.cellsOf ((hG3.block w.heap.size (by omega) (fun e => by injection e with e; omega)).trans HBR.out))
      | (have _o := ordA; go_at_call 26; ((refine (one_gen R 101 [0, 9, -9, 10000, 10001, -10001] 6 (W1.heap.size + 1) W2 hr2 (by omega) (by rfl) (by omega) (by omega) (by have := HRR.out; omega) (by have := hg2.size; simp at this; omega) (fun i hi => hg2.cell (HL.out i hi) (by have := HRR.out; simp; omega))).mono ?_)); rintro e W3 ⟨x, hx, rfl, hr3, hg3⟩; have hG3 := only_trans hG2 hg3; obtain ⟨tb0, tb1, tb2, _, _, _⟩ := AnyOp.cellsOf ((hg3.block W1.heap.size hzz (fun e => by injection e with e; have := HRR.out; omega)).trans HB2.out); obtain ⟨d0, d1', d2, q0, q1, q2⟩ := AnyOp.cellsOf ((hG3.block w.heap.size (by omega) (fun e => by injection e with e; omega)).trans HBR.out)))
  all_goals
    have hi1 : 0 ≤ i ∧ i ≤ 21 := (by have h1 := hi.1; have h2 := hi.2.1 (by omega); omega)
    have hwr : IntKind.i64.wrap (i - 1) = i - 1 := IntWalk.i64_in _ (by omega)
    have hx1 : -10001 ≤ x ∧ x ≤ 10001 := by simp at hx; omega
    have hzw : W1.heap.size ≤ W3.heap.size := hG3.size
    have DD := hide (fun (W4 : World) (hz : W3.heap.size ≤ W4.heap.size) (ho : Only w.heap.size W0.heap.size W3 W4) => D.out W3 W4 hG3 hz ho)
    clear hr2 hg2 hi D HR1 HR2 HG1 HG2 HP1 HP2 HL HB2 hr3 hg3 hG2 hG3 HBR
    go_wp2
    refine bodyPost_ret (v := .tuple #[.agg #[.slice A1 n1 c1, .slice B1 m1 d1, .int .i64 ver], .int .i64 (i - 1), .int .i64 x]) (by simp [results, Try.results8, go_sem, d0, d1', d2, hwr]) rfl ⟨_, _, _, _, _, _, _, _, _, _, _, rfl, by omega, by omega, hx1.1, hx1.2, DD.out _ ?_ ?_⟩
    · simp [World.setCell]
    · exact (((Only.refl _ _ _).set (Nat.le_refl _) (by omega) _).set (Nat.le_refl _) (by omega) _).set (Nat.le_refl _) (by omega) _
end Go.Proofs.Ytmipeegfeglljaa
