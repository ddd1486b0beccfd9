/- Buffers: a cell written, the reference's. Conditions: none. -/
import Derived.Test.YtmipeegfeglljaaBufMore
namespace Go.Proofs.Ytmipeegfeglljaa
open Go.RowKit
set_option linter.unusedVariables false
theorem wrote_copy {w1 w2 : World} {xs ys : List Int} {v : Int} {A1 B1 : Option Addr} {n1 c1 m1 d1 : Nat} (h : TwoNew xs ys w1 w2 A1 n1 c1 B1 m1 d1) : ∃ a0 a1 b0 b1 : Nat,
    w1.heap.size ≤ w2.heap.size ∧ w2.heap.size < (w2.alloc (.cells #[.slice A1 n1 c1, .slice B1 m1 d1, .int .i64 v] 25)).heap.size ∧ (w2.alloc (.cells #[.slice A1 n1 c1, .slice B1 m1 d1, .int .i64 v] 25)).heap[w2.heap.size]? = some (.cells #[.slice A1 n1 c1, .slice B1 m1 d1, .int .i64 v] 25 (0, 0)) ∧
    n1 ≤ c1 ∧ c1 ≤ 9223372036854775807 ∧ m1 ≤ d1 ∧ d1 ≤ 9223372036854775807 ∧ w1.heap.size ≤ a0 ∧ a0 ≤ a1 ∧ a1 ≤ b0 ∧ b0 ≤ b1 ∧ b1 ≤ (w2.alloc (.cells #[.slice A1 n1 c1, .slice B1 m1 d1, .int .i64 v] 25)).heap.size ∧ (w2.heap.size < a0 ∨ a1 ≤ w2.heap.size) ∧ (w2.heap.size < b0 ∨ b1 ≤ w2.heap.size) ∧
    Row 3 (w2.alloc (.cells #[.slice A1 n1 c1, .slice B1 m1 d1, .int .i64 v] 25)) a0 a1 A1 n1 xs ∧ Row 3 (w2.alloc (.cells #[.slice A1 n1 c1, .slice B1 m1 d1, .int .i64 v] 25)) b0 b1 B1 m1 ys ∧ Below w1.heap.size w1 (w2.alloc (.cells #[.slice A1 n1 c1, .slice B1 m1 d1, .int .i64 v] 25)) := by
  obtain ⟨k1, k2, k3, k4, hb, mid, q1, q2, rA, rB⟩ := h
  have ha : Below w2.heap.size w2 (w2.alloc (.cells #[.slice A1 n1 c1, .slice B1 m1 d1, .int .i64 v] 25)) := (Below.refl _ _).alloc (Nat.le_refl _) _
  have hz := hb.size
  exact ⟨w1.heap.size, mid, mid, w2.heap.size, hz, by simp, heap_alloc_new w2 _, k1, k2, k3, k4, Nat.le_refl _, q1, Nat.le_refl _, q2, by simp, .inr q2, .inr (Nat.le_refl _), (rA.mono (Nat.le_refl _) (Nat.le_refl _)).keep fun k h1 h2 h3 => ha.block k h3, rB.belowS ha, hb.trans (ha.mono hz)⟩

set_option maxHeartbeats 600000 in
theorem specWrite_any (K : Nat) (A : Option Addr) (n c : Nat) (B : Option Addr) (m d : Nat) (xs ys : List Int) (v i x : Int) (w : World) (h : Buf w K A n c B m d xs ys) (hK : K ≤ w.heap.size) :
    Calls Try.prog 10 #[.agg #[.slice A n c, .slice B m d, .int .i64 v], .int .i64 i, .int .i64 x] w (OpB (writeS xs ys v i x) w) := by
  have hb0 := hide ((((Below.refl w.heap.size w).alloc (Nat.le_refl _) (.cells #[.slice A n c, .slice B m d, .int .i64 v] 25))).alloc (by simp) (.cells #[.slice none 0 0, .slice none 0 0, .int .i64 0] 25))
  have H := hide (h.below hb0.out hK)
  have hxl := hide h.1.1
  have hyl := hide h.2.1.1
  clear h
  cases hv : validB xs ys v
  case false =>
    have hs := hide (show writeS xs ys v i x = noAns by unfold writeS; rw [hv]; simp)
    go_enter Try.func10, Try.ntmps10
    go_wp2_with fail
    refine (specValidIn_any K A n c B m d xs ys v _ H.out (by simp; omega)).mono ?_
    rintro e w1 ⟨rfl, hb⟩
    have sa0 := hb.cell (p := ⟨w.heap.size, 0, none⟩) (by simp; omega)
    have sa1 := hb.cell (p := ⟨w.heap.size, 1, none⟩) (by simp; omega)
    have sa2 := hb.cell (p := ⟨w.heap.size, 2, none⟩) (by simp; omega)
    have sb0 := hb.cell (p := ⟨w.heap.size + 1, 0, none⟩) (by simp)
    have sf0 := hb.frozen (p := ⟨w.heap.size + 1, 0, none⟩) (by simp)
    have sb1 := hb.cell (p := ⟨w.heap.size + 1, 1, none⟩) (by simp)
    have sf1 := hb.frozen (p := ⟨w.heap.size + 1, 1, none⟩) (by simp)
    have sb2 := hb.cell (p := ⟨w.heap.size + 1, 2, none⟩) (by simp)
    have sf2 := hb.frozen (p := ⟨w.heap.size + 1, 2, none⟩) (by simp)
    have hz1 : w.heap.size + 2 ≤ w1.heap.size := by have := hb.size; simpa using this
    have HZ := hide (hb0.out.trans (hb.mono (by simp; omega)))
    clear hb
    go_wp2_with (go_at_call 31; refine (inRange_any _ _ _ _).mono ?_; rintro e w' ⟨rfl, rfl⟩)
    refine bodyPost_ret (v := .tuple #[.agg #[.slice none 0 0, .slice none 0 0, .int .i64 0], .bool false]) (by simp [results, Try.results10, go_sem, sb0, sb1, sb2]) rfl (zero_of (Q := 2) hs.out HZ.out ?_ ?_)
    · exact (((Only.refl _ _ _).set (by omega) (by omega) _).set (by omega) (by omega) _).set (by omega) (by omega) _
    · simp [World.setCell]
  case true =>
    obtain ⟨⟨n0, n16⟩, hyx, _, _, v0, v1⟩ := validB_iff.1 hv
    have hmn : m = n := by have := hxl.out; have := hyl.out; omega
    subst hmn
    cases hir : inR i 0 ((m : Int) - 1)
    case false =>
      have hs := hide (show writeS xs ys v i x = noAns by unfold writeS; rw [hxl.out, hv, hir]; simp)
      have hw1 : IntKind.i64.wrap ((m : Int) - 1) = (m : Int) - 1 := IntWalk.i64_in _ (by have := hxl.out; omega)
      go_enter Try.func10, Try.ntmps10
      go_wp2_with fail
      refine (specValidIn_any K A m c B m d xs ys v _ H.out (by simp; omega)).mono ?_
      rintro e w1 ⟨rfl, hb⟩
      have sa0 := hb.cell (p := ⟨w.heap.size, 0, none⟩) (by simp; omega)
      have sa1 := hb.cell (p := ⟨w.heap.size, 1, none⟩) (by simp; omega)
      have sa2 := hb.cell (p := ⟨w.heap.size, 2, none⟩) (by simp; omega)
      have sb0 := hb.cell (p := ⟨w.heap.size + 1, 0, none⟩) (by simp)
      have sf0 := hb.frozen (p := ⟨w.heap.size + 1, 0, none⟩) (by simp)
      have sb1 := hb.cell (p := ⟨w.heap.size + 1, 1, none⟩) (by simp)
      have sf1 := hb.frozen (p := ⟨w.heap.size + 1, 1, none⟩) (by simp)
      have sb2 := hb.cell (p := ⟨w.heap.size + 1, 2, none⟩) (by simp)
      have sf2 := hb.frozen (p := ⟨w.heap.size + 1, 2, none⟩) (by simp)
      have hz1 : w.heap.size + 2 ≤ w1.heap.size := by have := hb.size; simpa using this
      have HZ := hide (hb0.out.trans (hb.mono (by simp; omega)))
      clear hb
      go_wp2_with (go_at_call 31; refine (inRange_any _ _ _ _).mono ?_; rintro e w' ⟨rfl, rfl⟩)
      refine bodyPost_ret (v := .tuple #[.agg #[.slice none 0 0, .slice none 0 0, .int .i64 0], .bool false]) (by simp [results, Try.results10, go_sem, sb0, sb1, sb2]) rfl (zero_of (Q := 2) hs.out HZ.out ?_ ?_)
      · exact (((Only.refl _ _ _).set (by omega) (by omega) _).set (by omega) (by omega) _).set (by omega) (by omega) _
      · simp [World.setCell]
    case true =>
      have hw1 : IntKind.i64.wrap ((m : Int) - 1) = (m : Int) - 1 := IntWalk.i64_in _ (by have := hxl.out; omega)
      cases hxr : inR x (-10000) 10000
      case false =>
        have hs := hide (show writeS xs ys v i x = noAns by unfold writeS; simp [hxr])
        go_enter Try.func10, Try.ntmps10
        go_wp2_with fail
        refine (specValidIn_any K A m c B m d xs ys v _ H.out (by simp; omega)).mono ?_
        rintro e w1 ⟨rfl, hb⟩
        have sa0 := hb.cell (p := ⟨w.heap.size, 0, none⟩) (by simp; omega)
        have sa1 := hb.cell (p := ⟨w.heap.size, 1, none⟩) (by simp; omega)
        have sa2 := hb.cell (p := ⟨w.heap.size, 2, none⟩) (by simp; omega)
        have sb0 := hb.cell (p := ⟨w.heap.size + 1, 0, none⟩) (by simp)
        have sf0 := hb.frozen (p := ⟨w.heap.size + 1, 0, none⟩) (by simp)
        have sb1 := hb.cell (p := ⟨w.heap.size + 1, 1, none⟩) (by simp)
        have sf1 := hb.frozen (p := ⟨w.heap.size + 1, 1, none⟩) (by simp)
        have sb2 := hb.cell (p := ⟨w.heap.size + 1, 2, none⟩) (by simp)
        have sf2 := hb.frozen (p := ⟨w.heap.size + 1, 2, none⟩) (by simp)
        have hz1 : w.heap.size + 2 ≤ w1.heap.size := by have := hb.size; simpa using this
        have HZ := hide (hb0.out.trans (hb.mono (by simp; omega)))
        clear hb
        go_wp2_with (go_at_call 31; refine (inRange_any _ _ _ _).mono ?_; rintro e w' ⟨rfl, rfl⟩)
        refine bodyPost_ret (v := .tuple #[.agg #[.slice none 0 0, .slice none 0 0, .int .i64 0], .bool false]) (by simp [results, Try.results10, go_sem, sb0, sb1, sb2]) rfl (zero_of (Q := 2) hs.out HZ.out ?_ ?_)
        · exact (((Only.refl _ _ _).set (by omega) (by omega) _).set (by omega) (by omega) _).set (by omega) (by omega) _
        · simp [World.setCell]
      case true =>
        have hs := hide (show writeS xs ys v i x = ⟨xs, ys.set i.toNat x, v, true⟩ by unfold writeS; rw [hxl.out, hv, hir]; simp [hxr])
        go_enter Try.func10, Try.ntmps10
        go_wp2_with fail
        refine (specValidIn_any K A m c B m d xs ys v _ H.out (by simp; omega)).mono ?_
        rintro e w1 ⟨rfl, hb⟩
        have sa0 := hb.cell (p := ⟨w.heap.size, 0, none⟩) (by simp; omega)
        have sa1 := hb.cell (p := ⟨w.heap.size, 1, none⟩) (by simp; omega)
        have sa2 := hb.cell (p := ⟨w.heap.size, 2, none⟩) (by simp; omega)
        have sb0 := hb.cell (p := ⟨w.heap.size + 1, 0, none⟩) (by simp)
        have sf0 := hb.frozen (p := ⟨w.heap.size + 1, 0, none⟩) (by simp)
        have sb1 := hb.cell (p := ⟨w.heap.size + 1, 1, none⟩) (by simp)
        have sf1 := hb.frozen (p := ⟨w.heap.size + 1, 1, none⟩) (by simp)
        have sb2 := hb.cell (p := ⟨w.heap.size + 1, 2, none⟩) (by simp)
        have sf2 := hb.frozen (p := ⟨w.heap.size + 1, 2, none⟩) (by simp)
        have hz1 : w.heap.size + 2 ≤ w1.heap.size := by have := hb.size; simpa using this
        have HZ := hide (hb0.out.trans (hb.mono (by simp; omega)))
        have H1 := hide (H.out.below hb (by simp; omega))
        have hym := hide (show ys.length = m by have := hyl.out; omega)
        obtain ⟨i0, i1⟩ := inR_iff.1 hir
        obtain ⟨j, rfl⟩ := Int.eq_ofNat_of_zero_le i0
        have Z0 : w1.cell? ⟨w.heap.size + 1, 0, none⟩ = some (.slice none 0 0) := by rw [sb0]; simp
        have Y0 : w1.frozen? ⟨w.heap.size + 1, 0, none⟩ = false := by rw [sf0]; simp
        have P0 : w1.cell? ⟨w.heap.size, 0, none⟩ = some (.slice A m c) := by rw [sa0]; simp
        have Z1 : w1.cell? ⟨w.heap.size + 1, 1, none⟩ = some (.slice none 0 0) := by rw [sb1]; simp
        have Y1 : w1.frozen? ⟨w.heap.size + 1, 1, none⟩ = false := by rw [sf1]; simp
        have P1 : w1.cell? ⟨w.heap.size, 1, none⟩ = some (.slice B m d) := by rw [sa1]; simp
        have Z2 : w1.cell? ⟨w.heap.size + 1, 2, none⟩ = some (.int .i64 0) := by rw [sb2]; simp
        have Y2 : w1.frozen? ⟨w.heap.size + 1, 2, none⟩ = false := by rw [sf2]; simp
        have P2 : w1.cell? ⟨w.heap.size, 2, none⟩ = some (.int .i64 v) := by rw [sa2]; simp
        clear hb H hb0 sa0 sa1 sa2 sb0 sb1 sb2 sf0 sf1 sf2
        go_wp2_with (go_at_call 31; refine (inRange_any _ _ _ _).mono ?_; rintro e w' ⟨rfl, rfl⟩)
        refine (copyBuffers_any K A m c B m d xs ys v _ H1.out (by omega)).mono ?_
        rintro e w2 ⟨A1, n1, c1, B1, m1, d1, rfl, ht⟩
        have hcut := wrote_copy (v := v) ht
        clear ht
        obtain ⟨a0, a1, b0, b1, hg, hgx, hgb, k1, k2, k3, k4, ha0, ha01, hab, hb01, hbx, hga, hgbb, hr1, hr2, hbl⟩ := hcut
        have hm1 : j < m1 := by have := hr2.1; have := hym.out; omega
        obtain ⟨gb, ob, curb, rfl, gb0, gb1, _⟩ := hr2.2 (by omega)
        obtain ⟨e1, e2⟩ := hr2.cell j hm1
        generalize ys.getD j 0 = yj at e1
        have hne : w2.heap.size ≠ gb := by omega
        have hbz := hbl.size
        have g0 : (w2.alloc (.cells #[.slice A1 n1 c1, .slice (some ⟨gb, ob, none⟩) m1 d1, .int .i64 v] 25)).cell? ⟨w2.heap.size, 0, none⟩ = some (.slice A1 n1 c1) := by rw [cell_of_row (w2.alloc (.cells #[.slice A1 n1 c1, .slice (some ⟨gb, ob, none⟩) m1 d1, .int .i64 v] 25)) w2.heap.size 0 _ _ (0, 0) hgb]; rfl
        have g1 : (w2.alloc (.cells #[.slice A1 n1 c1, .slice (some ⟨gb, ob, none⟩) m1 d1, .int .i64 v] 25)).cell? ⟨w2.heap.size, 1, none⟩ = some (.slice (some ⟨gb, ob, none⟩) m1 d1) := by rw [cell_of_row (w2.alloc (.cells #[.slice A1 n1 c1, .slice (some ⟨gb, ob, none⟩) m1 d1, .int .i64 v] 25)) w2.heap.size 1 _ _ (0, 0) hgb]; rfl
        have g2 : (w2.alloc (.cells #[.slice A1 n1 c1, .slice (some ⟨gb, ob, none⟩) m1 d1, .int .i64 v] 25)).cell? ⟨w2.heap.size, 2, none⟩ = some (.int .i64 v) := by rw [cell_of_row (w2.alloc (.cells #[.slice A1 n1 c1, .slice (some ⟨gb, ob, none⟩) m1 d1, .int .i64 v] 25)) w2.heap.size 2 _ _ (0, 0) hgb]; rfl
        have r0 := (hbl.cell (p := ⟨w.heap.size + 1, 0, none⟩) (by show w.heap.size + 1 < w1.heap.size; omega)).trans Z0
        have f0 := (hbl.frozen (p := ⟨w.heap.size + 1, 0, none⟩) (by show w.heap.size + 1 < w1.heap.size; omega)).trans Y0
        have r1 := (hbl.cell (p := ⟨w.heap.size + 1, 1, none⟩) (by show w.heap.size + 1 < w1.heap.size; omega)).trans Z1
        have f1 := (hbl.frozen (p := ⟨w.heap.size + 1, 1, none⟩) (by show w.heap.size + 1 < w1.heap.size; omega)).trans Y1
        have r2 := (hbl.cell (p := ⟨w.heap.size + 1, 2, none⟩) (by show w.heap.size + 1 < w1.heap.size; omega)).trans Z2
        have f2 := (hbl.frozen (p := ⟨w.heap.size + 1, 2, none⟩) (by show w.heap.size + 1 < w1.heap.size; omega)).trans Y2
        have g0' : ((w2.alloc (.cells #[.slice A1 n1 c1, .slice (some ⟨gb, ob, none⟩) m1 d1, .int .i64 v] 25)).setCell ⟨gb, ob + j, none⟩ (.int .i64 x)).cell? ⟨w2.heap.size, 0, none⟩ = some (.slice A1 n1 c1) := (World.cell?_setCell_other _ _ _ _ (by intro e; injection e with e; exact hne e.symm)).trans g0
        have r0' : ((w2.alloc (.cells #[.slice A1 n1 c1, .slice (some ⟨gb, ob, none⟩) m1 d1, .int .i64 v] 25)).setCell ⟨gb, ob + j, none⟩ (.int .i64 x)).cell? ⟨w.heap.size + 1, 0, none⟩ = some (.slice none 0 0) := (World.cell?_setCell_other _ _ _ _ (by intro e; injection e with e; omega)).trans r0
        have g1' : ((w2.alloc (.cells #[.slice A1 n1 c1, .slice (some ⟨gb, ob, none⟩) m1 d1, .int .i64 v] 25)).setCell ⟨gb, ob + j, none⟩ (.int .i64 x)).cell? ⟨w2.heap.size, 1, none⟩ = some (.slice (some ⟨gb, ob, none⟩) m1 d1) := (World.cell?_setCell_other _ _ _ _ (by intro e; injection e with e; exact hne e.symm)).trans g1
        have r1' : ((w2.alloc (.cells #[.slice A1 n1 c1, .slice (some ⟨gb, ob, none⟩) m1 d1, .int .i64 v] 25)).setCell ⟨gb, ob + j, none⟩ (.int .i64 x)).cell? ⟨w.heap.size + 1, 1, none⟩ = some (.slice none 0 0) := (World.cell?_setCell_other _ _ _ _ (by intro e; injection e with e; omega)).trans r1
        have g2' : ((w2.alloc (.cells #[.slice A1 n1 c1, .slice (some ⟨gb, ob, none⟩) m1 d1, .int .i64 v] 25)).setCell ⟨gb, ob + j, none⟩ (.int .i64 x)).cell? ⟨w2.heap.size, 2, none⟩ = some (.int .i64 v) := (World.cell?_setCell_other _ _ _ _ (by intro e; injection e with e; exact hne e.symm)).trans g2
        have r2' : ((w2.alloc (.cells #[.slice A1 n1 c1, .slice (some ⟨gb, ob, none⟩) m1 d1, .int .i64 v] 25)).setCell ⟨gb, ob + j, none⟩ (.int .i64 x)).cell? ⟨w.heap.size + 1, 2, none⟩ = some (.int .i64 0) := (World.cell?_setCell_other _ _ _ _ (by intro e; injection e with e; omega)).trans r2
        have hij : (j : Int) < (m1 : Int) := by omega
        have D := hide (show ∀ w4, Only w.heap.size (w.heap.size + 2) ((w2.alloc (.cells #[.slice A1 n1 c1, .slice (some ⟨gb, ob, none⟩) m1 d1, .int .i64 v] 25)).setCell ⟨gb, ob + j, none⟩ (.int .i64 x)) w4 → w4.heap.size = (w2.alloc (.cells #[.slice A1 n1 c1, .slice (some ⟨gb, ob, none⟩) m1 d1, .int .i64 v] 25)).heap.size → OpB (writeS xs ys v (j : Int) x) w (.returned (.tuple #[.agg #[.slice A1 n1 c1, .slice (some ⟨gb, ob, none⟩) m1 d1, .int .i64 v], .bool true])) w4 from fun w4 ho hs4 => by
          rw [hs.out]
          have hset : Only b0 b1 (w2.alloc (.cells #[.slice A1 n1 c1, .slice (some ⟨gb, ob, none⟩) m1 d1, .int .i64 v] 25)) ((w2.alloc (.cells #[.slice A1 n1 c1, .slice (some ⟨gb, ob, none⟩) m1 d1, .int .i64 v] 25)).setCell ⟨gb, ob + j, none⟩ (.int .i64 x)) := (Only.refl _ _ _).set gb0 gb1 _
          have hr1b := (hr1.far hset (by omega)).far ho (.inr (by omega))
          have hr2b := (hr2.put hm1 x).far ho (.inr (by omega))
          refine ⟨_, _, _, _, _, _, rfl, k1, k2, k3, k4, (HZ.out.trans (hbl.mono (by omega))).trans ((hset.below (by omega) (by omega)).trans (ho.below (Nat.le_refl _) (by simp [World.setCell]; omega))), b0, by omega, by omega, hr1b.mono (by omega) hab, ?_⟩
          simpa using hr2b.mono (Nat.le_refl _) (by omega))
        clear hr1 hr2 hbl hgb Z0 Z1 Z2 Y0 Y1 Y2 P0 P1 P2
        go_wp2
        refine bodyPost_ret (v := .tuple #[.agg #[.slice A1 n1 c1, .slice (some ⟨gb, ob, none⟩) m1 d1, .int .i64 v], .bool true]) (by simp [results, Try.results10, go_sem, r0', r1', r2']) rfl (D.out _ ?_ ?_)
        · exact (((Only.refl _ _ _).set (by omega) (by omega) _).set (by omega) (by omega) _).set (by omega) (by omega) _
        · simp [World.setCell]
end Go.Proofs.Ytmipeegfeglljaa
