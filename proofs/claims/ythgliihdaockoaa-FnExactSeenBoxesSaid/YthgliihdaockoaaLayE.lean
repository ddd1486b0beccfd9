/- Layout: the program: a valid screen, rectangles met, the inner rectangle. Conditions: none. -/
import Derived.Test.YthgliihdaockoaaLayD
namespace Go.Proofs.Ythgliihdaockoaa
open Go.RowKit
set_option linter.unusedVariables false
set_option linter.unusedSimpArgs false
theorem set4_cells0 {w1 : World} {z : Nat} {v0 v1 v2 v3 : Value} {E : TypeId} (r1 : w1.heap[z]? = some (.cells #[v0, v1, v2, v3] E (0, 0))) (a b c d : Value) :
    let X := ((((w1.setCell ⟨z, 0, none⟩ a).setCell ⟨z, 1, none⟩ b).setCell ⟨z, 2, none⟩ c).setCell ⟨z, 3, none⟩ d)
    X.cell? ⟨z, 0, none⟩ = some a ∧ X.cell? ⟨z, 1, none⟩ = some b ∧ X.cell? ⟨z, 2, none⟩ = some c ∧ X.cell? ⟨z, 3, none⟩ = some d := by
  have h2 := set4_heap r1 a b c d
  exact ⟨by rw [cell_of_row _ _ 0 _ _ (0, 0) h2]; rfl, by rw [cell_of_row _ _ 1 _ _ (0, 0) h2]; rfl, by rw [cell_of_row _ _ 2 _ _ (0, 0) h2]; rfl, by rw [cell_of_row _ _ 3 _ _ (0, 0) h2]; rfl⟩
set_option maxHeartbeats 4000000 in
theorem screenOk_any (B : Nat) (a : Option Addr) (n c : Nat) (xs : List Int) (wd ht : Int) (w : World) (hA : Ints .i64 w B a (n * 9) xs) (hB : B ≤ w.heap.size) (hn : n ≤ 1048577) :
    Calls Try.prog 18 #[.slice a n c, .int .i64 wd, .int .i64 ht] w fun e w' => e = .returned (.bool (scrB xs n wd ht)) ∧ Below w.heap.size w w' := by
  have HV := hide (implValid_any B a n c xs w hA hB hn)
  clear hA
  cases h0 : treeV xs n
  case false =>
    rw [h0] at HV
    have D := hide (show scrB xs n wd ht = false by simp [scrB, h0])
    go_enter Try.func18, Try.ntmps18
    go_wp2_with (first | (go_at_call 27; refine HV.out.mono ?_; rintro e w1 ⟨rfl, hb⟩; have HB1 := hide hb; clear hb))
    go_ret
    exact ⟨ret_bool D.out.symm, HB1.out⟩
  case true =>
    rw [h0] at HV
    cases h1 : inR wd 0 10000
    case false =>
      have D := hide (show scrB xs n wd ht = false by simp [scrB, h0, h1])
      go_enter Try.func18, Try.ntmps18
      go_wp2_with (first | (go_at_call 27; refine HV.out.mono ?_; rintro e w1 ⟨rfl, hb⟩; have HB1 := hide hb; clear hb) | (go_at_call 28; with_reducible refine (within_is h1 _).mono ?_; rintro e w' ⟨rfl, rfl⟩))
      go_ret
      exact ⟨ret_bool D.out.symm, HB1.out⟩
    case true =>
      cases h2 : inR ht 0 10000
      case false =>
        have D := hide (show scrB xs n wd ht = false by simp [scrB, h0, h1, h2])
        go_enter Try.func18, Try.ntmps18
        go_wp2_with (first | (go_at_call 27; refine HV.out.mono ?_; rintro e w1 ⟨rfl, hb⟩; have HB1 := hide hb; clear hb) | (go_at_call 28; with_reducible refine (within_is h1 _).mono ?_; rintro e w' ⟨rfl, rfl⟩) | (go_at_call 28; with_reducible refine (within_is h2 _).mono ?_; rintro e w' ⟨rfl, rfl⟩))
        go_ret
        exact ⟨ret_bool D.out.symm, HB1.out⟩
      case true =>
        have D := hide (show scrB xs n wd ht = true by simp [scrB, h0, h1, h2])
        go_enter Try.func18, Try.ntmps18
        go_wp2_with (first | (go_at_call 27; refine HV.out.mono ?_; rintro e w1 ⟨rfl, hb⟩; have HB1 := hide hb; clear hb) | (go_at_call 28; with_reducible refine (within_is h1 _).mono ?_; rintro e w' ⟨rfl, rfl⟩) | (go_at_call 28; with_reducible refine (within_is h2 _).mono ?_; rintro e w' ⟨rfl, rfl⟩))
        go_ret
        exact ⟨ret_bool D.out.symm, HB1.out⟩
set_option maxHeartbeats 4000000 in
theorem meetRects_any (ax ay aw ah bx byy bw bh : Int) (w : World) (ha : rectB ax ay aw ah = true) (hb : rectB bx byy bw bh = true) :
    Calls Try.prog 21 #[.agg #[.int .i64 ax, .int .i64 ay, .int .i64 aw, .int .i64 ah], .agg #[.int .i64 bx, .int .i64 byy, .int .i64 bw, .int .i64 bh]] w fun e w' => MetR (meetB (ri ax ay aw ah) (ri bx byy bw bh)) e ∧ Below w.heap.size w w' := by
  have hab := rectB_bd ha
  have hbb := rectB_bd hb
  have HVa := hide (fun W => (show Calls Try.prog 19 #[.agg #[.int .i64 ax, .int .i64 ay, .int .i64 aw, .int .i64 ah]] W fun e w' => e = .returned (.bool true) ∧ Below W.heap.size W w' from by have h := implRectOk_any ax ay aw ah W; rw [ha] at h; exact h))
  have HVb := hide (fun W => (show Calls Try.prog 19 #[.agg #[.int .i64 bx, .int .i64 byy, .int .i64 bw, .int .i64 bh]] W fun e w' => e = .returned (.bool true) ∧ Below W.heap.size W w' from by have h := implRectOk_any bx byy bw bh W; rw [hb] at h; exact h))
  have HM := hide (fun W => implMeet_any ax ay aw ah bx byy bw bh W (by omega) (by omega) (by omega) (by omega) (by omega) (by omega) (by omega) (by omega))
  have hzw : (((w.alloc (.cells #[.int .i64 ax, .int .i64 ay, .int .i64 aw, .int .i64 ah] 30)).alloc (.cells #[.int .i64 bx, .int .i64 byy, .int .i64 bw, .int .i64 bh] 30)).alloc (.cells #[.int .i64 0, .int .i64 0, .int .i64 0, .int .i64 0] 30)).heap.size = w.heap.size + 3 := by simp
  have HB0 := hide (show Below w.heap.size w (((w.alloc (.cells #[.int .i64 ax, .int .i64 ay, .int .i64 aw, .int .i64 ah] 30)).alloc (.cells #[.int .i64 bx, .int .i64 byy, .int .i64 bw, .int .i64 bh] 30)).alloc (.cells #[.int .i64 0, .int .i64 0, .int .i64 0, .int .i64 0] 30)) from (((Below.refl _ _).alloc (Nat.le_refl _) _).alloc (by simp) _).alloc (by simp; omega) _)
  have r0 : (((w.alloc (.cells #[.int .i64 ax, .int .i64 ay, .int .i64 aw, .int .i64 ah] 30)).alloc (.cells #[.int .i64 bx, .int .i64 byy, .int .i64 bw, .int .i64 bh] 30)).alloc (.cells #[.int .i64 0, .int .i64 0, .int .i64 0, .int .i64 0] 30)).heap[w.heap.size]? = some (.cells #[.int .i64 ax, .int .i64 ay, .int .i64 aw, .int .i64 ah] 30 (0, 0)) := by rw [heap_alloc_old _ _ (by simp; omega), heap_alloc_old _ _ (by simp)]; exact heap_alloc_new w _
  have r1 : (((w.alloc (.cells #[.int .i64 ax, .int .i64 ay, .int .i64 aw, .int .i64 ah] 30)).alloc (.cells #[.int .i64 bx, .int .i64 byy, .int .i64 bw, .int .i64 bh] 30)).alloc (.cells #[.int .i64 0, .int .i64 0, .int .i64 0, .int .i64 0] 30)).heap[w.heap.size + 1]? = some (.cells #[.int .i64 bx, .int .i64 byy, .int .i64 bw, .int .i64 bh] 30 (0, 0)) := by rw [heap_alloc_old _ _ (by simp)]; have h := heap_alloc_new (w.alloc (.cells #[.int .i64 ax, .int .i64 ay, .int .i64 aw, .int .i64 ah] 30)) (.cells #[.int .i64 bx, .int .i64 byy, .int .i64 bw, .int .i64 bh] 30); simp only [World.size_alloc] at h; exact h
  have r2 : (((w.alloc (.cells #[.int .i64 ax, .int .i64 ay, .int .i64 aw, .int .i64 ah] 30)).alloc (.cells #[.int .i64 bx, .int .i64 byy, .int .i64 bw, .int .i64 bh] 30)).alloc (.cells #[.int .i64 0, .int .i64 0, .int .i64 0, .int .i64 0] 30)).heap[w.heap.size + 1 + 1]? = some (.cells #[.int .i64 0, .int .i64 0, .int .i64 0, .int .i64 0] 30 (0, 0)) := by have h := heap_alloc_new ((w.alloc (.cells #[.int .i64 ax, .int .i64 ay, .int .i64 aw, .int .i64 ah] 30)).alloc (.cells #[.int .i64 bx, .int .i64 byy, .int .i64 bw, .int .i64 bh] 30)) (.cells #[.int .i64 0, .int .i64 0, .int .i64 0, .int .i64 0] 30); simp only [World.size_alloc] at h; exact h
  have HCe := hide (fun W (h : Below (w.heap.size + 3) (((w.alloc (.cells #[.int .i64 ax, .int .i64 ay, .int .i64 aw, .int .i64 ah] 30)).alloc (.cells #[.int .i64 bx, .int .i64 byy, .int .i64 bw, .int .i64 bh] 30)).alloc (.cells #[.int .i64 0, .int .i64 0, .int .i64 0, .int .i64 0] 30)) W) => (show W.cell? ⟨w.heap.size, 0, none⟩ = some (.int .i64 ax) ∧ W.cell? ⟨w.heap.size, 1, none⟩ = some (.int .i64 ay) ∧ W.cell? ⟨w.heap.size, 2, none⟩ = some (.int .i64 aw) ∧ W.cell? ⟨w.heap.size, 3, none⟩ = some (.int .i64 ah) ∧ W.cell? ⟨w.heap.size + 1, 0, none⟩ = some (.int .i64 bx) ∧ W.cell? ⟨w.heap.size + 1, 1, none⟩ = some (.int .i64 byy) ∧ W.cell? ⟨w.heap.size + 1, 2, none⟩ = some (.int .i64 bw) ∧ W.cell? ⟨w.heap.size + 1, 3, none⟩ = some (.int .i64 bh) ∧ W.cell? ⟨w.heap.size + 1 + 1, 0, none⟩ = some (.int .i64 0) ∧ W.frozen? ⟨w.heap.size + 1 + 1, 0, none⟩ = false ∧ W.cell? ⟨w.heap.size + 1 + 1, 1, none⟩ = some (.int .i64 0) ∧ W.frozen? ⟨w.heap.size + 1 + 1, 1, none⟩ = false ∧ W.cell? ⟨w.heap.size + 1 + 1, 2, none⟩ = some (.int .i64 0) ∧ W.frozen? ⟨w.heap.size + 1 + 1, 2, none⟩ = false ∧ W.cell? ⟨w.heap.size + 1 + 1, 3, none⟩ = some (.int .i64 0) ∧ W.frozen? ⟨w.heap.size + 1 + 1, 3, none⟩ = false from by
    have k0 := (h.block w.heap.size (by omega)).trans r0
    have k1 := (h.block (w.heap.size + 1) (by omega)).trans r1
    have k2 := (h.block (w.heap.size + 1 + 1) (by omega)).trans r2
    exact ⟨by rw [cell_of_row _ _ 0 _ _ (0, 0) k0]; rfl, by rw [cell_of_row _ _ 1 _ _ (0, 0) k0]; rfl, by rw [cell_of_row _ _ 2 _ _ (0, 0) k0]; rfl, by rw [cell_of_row _ _ 3 _ _ (0, 0) k0]; rfl, by rw [cell_of_row _ _ 0 _ _ (0, 0) k1]; rfl, by rw [cell_of_row _ _ 1 _ _ (0, 0) k1]; rfl, by rw [cell_of_row _ _ 2 _ _ (0, 0) k1]; rfl, by rw [cell_of_row _ _ 3 _ _ (0, 0) k1]; rfl, by rw [cell_of_row _ _ 0 _ _ (0, 0) k2]; rfl, frozen_row k2 0, by rw [cell_of_row _ _ 1 _ _ (0, 0) k2]; rfl, frozen_row k2 1, by rw [cell_of_row _ _ 2 _ _ (0, 0) k2]; rfl, frozen_row k2 2, by rw [cell_of_row _ _ 3 _ _ (0, 0) k2]; rfl, frozen_row k2 3⟩))
  have HR2 := hide (fun W (h : Below (w.heap.size + 3) (((w.alloc (.cells #[.int .i64 ax, .int .i64 ay, .int .i64 aw, .int .i64 ah] 30)).alloc (.cells #[.int .i64 bx, .int .i64 byy, .int .i64 bw, .int .i64 bh] 30)).alloc (.cells #[.int .i64 0, .int .i64 0, .int .i64 0, .int .i64 0] 30)) W) => (h.block (w.heap.size + 1 + 1) (by omega)).trans r2)
  clear r0 r1 r2 ha hb
  go_enter Try.func21, Try.ntmps21
  go_wp2_with fail
  refine (HVa.out _).mono ?_
  rintro e w1 ⟨rfl, h1⟩
  rw [hzw] at h1
  have HB1 := hide h1
  obtain ⟨a0, a1, a2, a3, b0, b1, b2, b3, z0, f0, z1, f1, z2, f2, z3, f3⟩ := HCe.out w1 h1
  have hz1 := h1.size
  rw [hzw] at hz1
  clear h1
  go_wp2_with fail
  refine (HVb.out _).mono ?_
  rintro e w2 ⟨rfl, h2⟩
  have HB2 := hide (HB1.out.trans (h2.mono hz1))
  clear a0 a1 a2 a3 b0 b1 b2 b3 z0 f0 z1 f1 z2 f2 z3 f3
  obtain ⟨a0, a1, a2, a3, b0, b1, b2, b3, z0, f0, z1, f1, z2, f2, z3, f3⟩ := HCe.out w2 HB2.out
  have hz2 := Nat.le_trans hz1 h2.size
  clear h2
  go_wp2_with fail
  refine (HM.out _).mono ?_
  rintro e w3 ⟨⟨q0, q1, q2, q3, rfl⟩, h3⟩
  have HB3 := hide (HB2.out.trans (h3.mono hz2))
  have hz3 := Nat.le_trans hz2 h3.size
  have hz4 : w.heap.size + 1 + 1 < w3.heap.size := by omega
  clear a0 a1 a2 a3 b0 b1 b2 b3 z0 f0 z1 f1 z2 f2 z3 f3
  obtain ⟨a0, a1, a2, a3, b0, b1, b2, b3, z0, f0, z1, f1, z2, f2, z3, f3⟩ := HCe.out w3 HB3.out
  have D := hide (fun (x0 x1 x2 x3 : Int) => set4_cells (HR2.out w3 HB3.out) (.int .i64 x0) (.int .i64 x1) (.int .i64 x2) (.int .i64 x3) (.cells #[.int .i64 q0, .int .i64 q1, .int .i64 q2, .int .i64 q3] 30))
  have DB := hide (fun (x0 x1 x2 x3 : Int) => set4_below (z := w.heap.size + 1 + 1) (HB0.out.trans (HB3.out.mono (by omega))) (by omega) (by omega) (.int .i64 x0) (.int .i64 x1) (.int .i64 x2) (.int .i64 x3) (.cells #[.int .i64 q0, .int .i64 q1, .int .i64 q2, .int .i64 q3] 30))
  clear h3 HVa HVb HM HCe HR2 HB0 HB1 HB2 HB3
  cases hm : meetB (ri ax ay aw ah) (ri bx byy bw bh)
  case false =>
    have D2 := hide (D.out 0 0 0 0)
    go_wp2
    exact bodyPost_ret (v := .tuple #[.agg #[.int .i64 0, .int .i64 0, .int .i64 0, .int .i64 0], .bool false]) (by simp [results, Try.results21, go_sem, D2.out.1, D2.out.2.1, D2.out.2.2.1, D2.out.2.2.2]) rfl ⟨by rw [hm]; exact ⟨_, _, _, _, rfl⟩, DB.out _ _ _ _⟩
  case true =>
    have D2 := hide (D.out q0 q1 q2 q3)
    go_wp2
    exact bodyPost_ret (v := .tuple #[.agg #[.int .i64 q0, .int .i64 q1, .int .i64 q2, .int .i64 q3], .bool true]) (by simp [results, Try.results21, go_sem, D2.out.1, D2.out.2.1, D2.out.2.2.1, D2.out.2.2.2]) rfl ⟨by rw [hm]; exact ⟨_, _, _, _, rfl⟩, DB.out _ _ _ _⟩
/-- the program's record of a layout -/
def LyW (w : World) (bl : Nat) (a : Option Addr) (n c bo oo : Nat) : Prop := w.cell? ⟨bl, 0, none⟩ = some (.slice a n c) ∧ w.cell? ⟨bl, 1, none⟩ = some (.slice (some ⟨bo, oo, none⟩) n n)
theorem LyW.lt {w : World} {bl : Nat} {a : Option Addr} {n c bo oo : Nat} (h : LyW w bl a n c bo oo) : bl < w.heap.size := cell_lt h.1
theorem LyW.below {w w' : World} {bl : Nat} {a : Option Addr} {n c bo oo B : Nat} (h : LyW w bl a n c bo oo) (hb : Below B w w') (hB : bl < B) : LyW w' bl a n c bo oo :=
  ⟨(hb.cell (p := ⟨bl, 0, none⟩) hB).trans h.1, (hb.cell (p := ⟨bl, 1, none⟩) hB).trans h.2⟩
set_option maxHeartbeats 4000000 in
theorem inner_any (bl b off n c bo oo i : Nat) (x y u v p : Int) (w : World) (hL : LyW w bl (some ⟨b, off, none⟩) n c bo oo) (hi : i < n) (hn : n ≤ 1048577)
    (g0 : w.cell? ⟨bo, oo + i * 4, none⟩ = some (.int .i64 x)) (g1 : w.cell? ⟨bo, oo + i * 4 + 1, none⟩ = some (.int .i64 y)) (g2 : w.cell? ⟨bo, oo + i * 4 + 2, none⟩ = some (.int .i64 u)) (g3 : w.cell? ⟨bo, oo + i * 4 + 3, none⟩ = some (.int .i64 v)) (gp : w.cell? ⟨b, off + i * 9 + 4, none⟩ = some (.int .i64 p))
    (hx : -200000 ≤ x ∧ x ≤ 200000) (hy : -200000 ≤ y ∧ y ≤ 200000) (hu : 0 ≤ u ∧ u ≤ 10000) (hv : 0 ≤ v ∧ v ≤ 10000) (hp : 0 ≤ p ∧ p ≤ 50) :
    Calls Try.prog 42 #[.pointer (some ⟨bl, 0, none⟩), .int .i64 i] w fun e w' => e = .returned (RV (insetR (ri x y u v) p)) ∧ Below w.heap.size w w' := by
  have hin : (i : Int) < (n : Int) := by omega
  have hba : Below w.heap.size w (w.alloc (.cells #[.int .i64 0, .int .i64 0, .int .i64 0, .int .i64 0] 30)) := (Below.refl _ _).alloc (Nat.le_refl _) _
  have HBa := hide hba
  have hb1 := cell_lt g0
  have hb2 := cell_lt gp
  have hb3 := hL.lt
  have hb1' : bo < w.heap.size := hb1
  have hb2' : b < w.heap.size := hb2
  have HCe := hide (fun W (h : Below w.heap.size w W) => (show W.cell? ⟨bl, 0, none⟩ = some (.slice (some ⟨b, off, none⟩) n c) ∧ W.cell? ⟨bl, 1, none⟩ = some (.slice (some ⟨bo, oo, none⟩) n n) ∧ W.cell? ⟨bo, oo + i * 4, none⟩ = some (.int .i64 x) ∧ W.cell? ⟨bo, oo + i * 4 + 1, none⟩ = some (.int .i64 y) ∧ W.cell? ⟨bo, oo + i * 4 + 2, none⟩ = some (.int .i64 u) ∧ W.cell? ⟨bo, oo + i * 4 + 3, none⟩ = some (.int .i64 v) ∧ W.cell? ⟨b, off + i * 9 + 4, none⟩ = some (.int .i64 p) from
    ⟨(h.cell (p := ⟨bl, 0, none⟩) hb3).trans hL.1, (h.cell (p := ⟨bl, 1, none⟩) hb3).trans hL.2, (h.cell (p := ⟨bo, oo + i * 4, none⟩) hb1').trans g0, (h.cell (p := ⟨bo, oo + i * 4 + 1, none⟩) hb1').trans g1, (h.cell (p := ⟨bo, oo + i * 4 + 2, none⟩) hb1').trans g2, (h.cell (p := ⟨bo, oo + i * 4 + 3, none⟩) hb1').trans g3, (h.cell (p := ⟨b, off + i * 9 + 4, none⟩) hb2').trans gp⟩))
  obtain ⟨⟨ix, iy, iw, ih⟩, hI⟩ : ∃ I, insetR (ri x y u v) p = I := ⟨_, rfl⟩
  have HIn := hide (fun W => (show Calls Try.prog 58 #[.agg #[.int .i64 x, .int .i64 y, .int .i64 u, .int .i64 v], .int .i64 p] W fun e w' => e = .returned (.agg #[.int .i64 ix, .int .i64 iy, .int .i64 iw, .int .i64 ih]) ∧ Below W.heap.size W w' from by
    have h := implInset_any x y u v p W hx hy hu hv hp
    rw [hI] at h
    exact h))
  have HIe := hide hI
  rw [hI]
  have t0 := HCe.out _ hba
  obtain ⟨c0, c1, c2, c3, c4, c5, c6⟩ := t0
  clear hI g0 g1 g2 g3 gp hL
  have hrz : (w.alloc (.cells #[.int .i64 0, .int .i64 0, .int .i64 0, .int .i64 0] 30)).heap[w.heap.size]? = some (.cells #[.int .i64 0, .int .i64 0, .int .i64 0, .int .i64 0] 30 (0, 0)) := heap_alloc_new w _
  have hzw : (w.alloc (.cells #[.int .i64 0, .int .i64 0, .int .i64 0, .int .i64 0] 30)).heap.size = w.heap.size + 1 := by simp
  go_enter Try.func42, Try.ntmps42
  go_wp2_with fail
  generalize (w.alloc (.cells #[.int .i64 0, .int .i64 0, .int .i64 0, .int .i64 0] 30)) = W0 at HBa hrz hzw c0 c1 c2 c3 c4 c5 c6 hba ⊢
  go_region_held3 (fun w' => w'.cell? ⟨bl, 0, none⟩ = some (.slice (some ⟨b, off, none⟩) n c) ∧ w'.cell? ⟨bl, 1, none⟩ = some (.slice (some ⟨bo, oo, none⟩) n n) ∧ w'.cell? ⟨bo, oo + i * 4, none⟩ = some (.int .i64 x) ∧ w'.cell? ⟨bo, oo + i * 4 + 1, none⟩ = some (.int .i64 y) ∧ w'.cell? ⟨bo, oo + i * 4 + 2, none⟩ = some (.int .i64 u) ∧ w'.cell? ⟨bo, oo + i * 4 + 3, none⟩ = some (.int .i64 v) ∧ w'.cell? ⟨b, off + i * 9 + 4, none⟩ = some (.int .i64 p)) (first | go_keep | exact t9 | exact t10) (first | (go_at_call 58; refine (HIn.out W0.drew).mono ?_; rintro e W10 ⟨rfl, hb⟩; have HB10 := hide (show Below w.heap.size w W10 from HBa.out.trans ((Below.refl _ _).drew.trans (hb.mono (show w.heap.size ≤ W0.heap.size from by omega)))); have hr9 := (hb.block w.heap.size (show w.heap.size < W0.heap.size from by omega)).trans (show W0.drew.heap[w.heap.size]? = _ from hrz); have t9 := HCe.out W10 HB10.out; have HB11 := hide (set4_below0 (z := w.heap.size) HB10.out (Nat.le_refl _) (.int .i64 ix) (.int .i64 iy) (.int .i64 iw) (.int .i64 ih)); have t10 := HCe.out _ HB11.out; have n0 : W10.cell? ⟨w.heap.size, 0, none⟩ = some (.int .i64 0) := (cell_of_row _ _ 0 _ _ (0, 0) hr9).trans rfl; have n1 : W10.cell? ⟨w.heap.size, 1, none⟩ = some (.int .i64 0) := (cell_of_row _ _ 1 _ _ (0, 0) hr9).trans rfl; have n2 : W10.cell? ⟨w.heap.size, 2, none⟩ = some (.int .i64 0) := (cell_of_row _ _ 2 _ _ (0, 0) hr9).trans rfl; have n3 : W10.cell? ⟨w.heap.size, 3, none⟩ = some (.int .i64 0) := (cell_of_row _ _ 3 _ _ (0, 0) hr9).trans rfl; have m0 := frozen_row hr9 0; have m1 := frozen_row hr9 1; have m2 := frozen_row hr9 2; have m3 := frozen_row hr9 3))
  have D2 := hide (set4_cells0 hr9 (.int .i64 ix) (.int .i64 iy) (.int .i64 iw) (.int .i64 ih))
  clear hb HCe t9 t10 n0 n1 n2 n3 m0 m1 m2 m3 c0 c1 c2 c3 c4 c5 c6
  go_wp2
  exact bodyPost_ret (v := .agg #[.int .i64 ix, .int .i64 iy, .int .i64 iw, .int .i64 ih]) (by simp [results, Try.results42, go_sem, D2.out.1, D2.out.2.1, D2.out.2.2.1, D2.out.2.2.2]) rfl ⟨rfl, HB11.out⟩
end Go.Proofs.Ythgliihdaockoaa
