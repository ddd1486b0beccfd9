/- Layout: rectangles made smaller. Conditions: none. -/
import Derived.Test.YthgliihdaockoaaLayX
import Derived.Test.YthgliihdaockoaaTreeE
import Derived.BigRegion
namespace Go.Proofs.Ythgliihdaockoaa
open Go.RowKit
set_option linter.unusedVariables false
set_option linter.unusedSimpArgs false
def RV (r : RectI) : Value := .agg #[.int .i64 r.x, .int .i64 r.y, .int .i64 r.w, .int .i64 r.h]
def ri (x y u v : Int) : RectI := ⟨x, y, u, v⟩
theorem RV_ri (x y u v : Int) : RV (ri x y u v) = .agg #[.int .i64 x, .int .i64 y, .int .i64 u, .int .i64 v] := rfl
set_option maxHeartbeats 4000000 in
theorem specInset_any (x y u v p : Int) (w : World) (hx : -200000 ≤ x ∧ x ≤ 200000) (hy : -200000 ≤ y ∧ y ≤ 200000) (hu : 0 ≤ u ∧ u ≤ 10000) (hv : 0 ≤ v ∧ v ≤ 10000) (hp : 0 ≤ p ∧ p ≤ 50) :
    Calls Try.prog 49 #[.agg #[.int .i64 x, .int .i64 y, .int .i64 u, .int .i64 v], .int .i64 p] w fun e w' => e = .returned (RV (insetR (ri x y u v) p)) ∧ Below w.heap.size w w' := by
  obtain ⟨q, hq⟩ : ∃ q, u / 2 = q := ⟨_, rfl⟩
  obtain ⟨s, hs⟩ : ∃ s, v / 2 = s := ⟨_, rfl⟩
  have hq1 : u.tdiv 2 = q := by rw [Int.tdiv_eq_ediv_of_nonneg hu.1]; exact hq
  have hs1 : v.tdiv 2 = s := by rw [Int.tdiv_eq_ediv_of_nonneg hv.1]; exact hs
  have bq : 0 ≤ q ∧ q ≤ 5000 := by omega
  have bs : 0 ≤ s ∧ s ≤ 5000 := by omega
  have E := hide (fun a b c d (h1 : a = x + min p q) (h2 : b = y + min p s) (h3 : c = max (u - 2 * p) 0) (h4 : d = max (v - 2 * p) 0) => (show insetR (ri x y u v) p = ri a b c d from RectI.ext' (by show x + min p (u / 2) = a; rw [hq, h1]) (by show y + min p (v / 2) = b; rw [hs, h2]) h3.symm h4.symm))
  clear hq hs
  by_cases k1 : q < p
  · skip
    skip
    by_cases k2 : s < p
    · skip
      skip
      by_cases k3 : 2 * p < u
      · skip
        have k3' : 0 < u - 2 * p := by omega
        by_cases k4 : 2 * p < v
        · skip
          have k4' : 0 < v - 2 * p := by omega
          have D := hide (show Below w.heap.size w ((w.alloc (.cells #[.int .i64 x, .int .i64 y, .int .i64 u, .int .i64 v] 30)).alloc (.cells #[.int .i64 (x + q), .int .i64 (y + s), .int .i64 (u - 2 * p), .int .i64 (v - 2 * p)] 30)) from ((Below.refl _ _).alloc (Nat.le_refl _) _).alloc (by simp) _)
          have E := hide (E.out (x + q) (y + s) (u - 2 * p) (v - 2 * p) (by omega) (by omega) (by omega) (by omega))
          go_enter Try.func49, Try.ntmps49
          go_wp2
          exact bodyPost_ret (v := .agg #[.int .i64 (x + q), .int .i64 (y + s), .int .i64 (u - 2 * p), .int .i64 (v - 2 * p)]) (by simp [results, Try.results49, go_sem]) rfl ⟨by rw [E.out]; rfl, D.out⟩
        · have k4n : v ≤ 2 * p := by omega
          have k4' : ¬ 0 < v - 2 * p := by omega
          have D := hide (show Below w.heap.size w ((w.alloc (.cells #[.int .i64 x, .int .i64 y, .int .i64 u, .int .i64 v] 30)).alloc (.cells #[.int .i64 (x + q), .int .i64 (y + s), .int .i64 (u - 2 * p), .int .i64 0] 30)) from ((Below.refl _ _).alloc (Nat.le_refl _) _).alloc (by simp) _)
          have E := hide (E.out (x + q) (y + s) (u - 2 * p) (0) (by omega) (by omega) (by omega) (by omega))
          go_enter Try.func49, Try.ntmps49
          go_wp2
          exact bodyPost_ret (v := .agg #[.int .i64 (x + q), .int .i64 (y + s), .int .i64 (u - 2 * p), .int .i64 0]) (by simp [results, Try.results49, go_sem]) rfl ⟨by rw [E.out]; rfl, D.out⟩
      · have k3n : u ≤ 2 * p := by omega
        have k3' : ¬ 0 < u - 2 * p := by omega
        by_cases k4 : 2 * p < v
        · skip
          have k4' : 0 < v - 2 * p := by omega
          have D := hide (show Below w.heap.size w ((w.alloc (.cells #[.int .i64 x, .int .i64 y, .int .i64 u, .int .i64 v] 30)).alloc (.cells #[.int .i64 (x + q), .int .i64 (y + s), .int .i64 0, .int .i64 (v - 2 * p)] 30)) from ((Below.refl _ _).alloc (Nat.le_refl _) _).alloc (by simp) _)
          have E := hide (E.out (x + q) (y + s) (0) (v - 2 * p) (by omega) (by omega) (by omega) (by omega))
          go_enter Try.func49, Try.ntmps49
          go_wp2
          exact bodyPost_ret (v := .agg #[.int .i64 (x + q), .int .i64 (y + s), .int .i64 0, .int .i64 (v - 2 * p)]) (by simp [results, Try.results49, go_sem]) rfl ⟨by rw [E.out]; rfl, D.out⟩
        · have k4n : v ≤ 2 * p := by omega
          have k4' : ¬ 0 < v - 2 * p := by omega
          have D := hide (show Below w.heap.size w ((w.alloc (.cells #[.int .i64 x, .int .i64 y, .int .i64 u, .int .i64 v] 30)).alloc (.cells #[.int .i64 (x + q), .int .i64 (y + s), .int .i64 0, .int .i64 0] 30)) from ((Below.refl _ _).alloc (Nat.le_refl _) _).alloc (by simp) _)
          have E := hide (E.out (x + q) (y + s) (0) (0) (by omega) (by omega) (by omega) (by omega))
          go_enter Try.func49, Try.ntmps49
          go_wp2
          exact bodyPost_ret (v := .agg #[.int .i64 (x + q), .int .i64 (y + s), .int .i64 0, .int .i64 0]) (by simp [results, Try.results49, go_sem]) rfl ⟨by rw [E.out]; rfl, D.out⟩
    · have k2n : p ≤ s := by omega
      skip
      by_cases k3 : 2 * p < u
      · skip
        have k3' : 0 < u - 2 * p := by omega
        by_cases k4 : 2 * p < v
        · skip
          have k4' : 0 < v - 2 * p := by omega
          have D := hide (show Below w.heap.size w ((w.alloc (.cells #[.int .i64 x, .int .i64 y, .int .i64 u, .int .i64 v] 30)).alloc (.cells #[.int .i64 (x + q), .int .i64 (y + p), .int .i64 (u - 2 * p), .int .i64 (v - 2 * p)] 30)) from ((Below.refl _ _).alloc (Nat.le_refl _) _).alloc (by simp) _)
          have E := hide (E.out (x + q) (y + p) (u - 2 * p) (v - 2 * p) (by omega) (by omega) (by omega) (by omega))
          go_enter Try.func49, Try.ntmps49
          go_wp2
          exact bodyPost_ret (v := .agg #[.int .i64 (x + q), .int .i64 (y + p), .int .i64 (u - 2 * p), .int .i64 (v - 2 * p)]) (by simp [results, Try.results49, go_sem]) rfl ⟨by rw [E.out]; rfl, D.out⟩
        · have k4n : v ≤ 2 * p := by omega
          have k4' : ¬ 0 < v - 2 * p := by omega
          have D := hide (show Below w.heap.size w ((w.alloc (.cells #[.int .i64 x, .int .i64 y, .int .i64 u, .int .i64 v] 30)).alloc (.cells #[.int .i64 (x + q), .int .i64 (y + p), .int .i64 (u - 2 * p), .int .i64 0] 30)) from ((Below.refl _ _).alloc (Nat.le_refl _) _).alloc (by simp) _)
          have E := hide (E.out (x + q) (y + p) (u - 2 * p) (0) (by omega) (by omega) (by omega) (by omega))
          go_enter Try.func49, Try.ntmps49
          go_wp2
          exact bodyPost_ret (v := .agg #[.int .i64 (x + q), .int .i64 (y + p), .int .i64 (u - 2 * p), .int .i64 0]) (by simp [results, Try.results49, go_sem]) rfl ⟨by rw [E.out]; rfl, D.out⟩
      · have k3n : u ≤ 2 * p := by omega
        have k3' : ¬ 0 < u - 2 * p := by omega
        by_cases k4 : 2 * p < v
        · skip
          have k4' : 0 < v - 2 * p := by omega
          have D := hide (show Below w.heap.size w ((w.alloc (.cells #[.int .i64 x, .int .i64 y, .int .i64 u, .int .i64 v] 30)).alloc (.cells #[.int .i64 (x + q), .int .i64 (y + p), .int .i64 0, .int .i64 (v - 2 * p)] 30)) from ((Below.refl _ _).alloc (Nat.le_refl _) _).alloc (by simp) _)
          have E := hide (E.out (x + q) (y + p) (0) (v - 2 * p) (by omega) (by omega) (by omega) (by omega))
          go_enter Try.func49, Try.ntmps49
          go_wp2
          exact bodyPost_ret (v := .agg #[.int .i64 (x + q), .int .i64 (y + p), .int .i64 0, .int .i64 (v - 2 * p)]) (by simp [results, Try.results49, go_sem]) rfl ⟨by rw [E.out]; rfl, D.out⟩
        · have k4n : v ≤ 2 * p := by omega
          have k4' : ¬ 0 < v - 2 * p := by omega
          have D := hide (show Below w.heap.size w ((w.alloc (.cells #[.int .i64 x, .int .i64 y, .int .i64 u, .int .i64 v] 30)).alloc (.cells #[.int .i64 (x + q), .int .i64 (y + p), .int .i64 0, .int .i64 0] 30)) from ((Below.refl _ _).alloc (Nat.le_refl _) _).alloc (by simp) _)
          have E := hide (E.out (x + q) (y + p) (0) (0) (by omega) (by omega) (by omega) (by omega))
          go_enter Try.func49, Try.ntmps49
          go_wp2
          exact bodyPost_ret (v := .agg #[.int .i64 (x + q), .int .i64 (y + p), .int .i64 0, .int .i64 0]) (by simp [results, Try.results49, go_sem]) rfl ⟨by rw [E.out]; rfl, D.out⟩
  · have k1n : p ≤ q := by omega
    skip
    by_cases k2 : s < p
    · skip
      skip
      by_cases k3 : 2 * p < u
      · skip
        have k3' : 0 < u - 2 * p := by omega
        by_cases k4 : 2 * p < v
        · skip
          have k4' : 0 < v - 2 * p := by omega
          have D := hide (show Below w.heap.size w ((w.alloc (.cells #[.int .i64 x, .int .i64 y, .int .i64 u, .int .i64 v] 30)).alloc (.cells #[.int .i64 (x + p), .int .i64 (y + s), .int .i64 (u - 2 * p), .int .i64 (v - 2 * p)] 30)) from ((Below.refl _ _).alloc (Nat.le_refl _) _).alloc (by simp) _)
          have E := hide (E.out (x + p) (y + s) (u - 2 * p) (v - 2 * p) (by omega) (by omega) (by omega) (by omega))
          go_enter Try.func49, Try.ntmps49
          go_wp2
          exact bodyPost_ret (v := .agg #[.int .i64 (x + p), .int .i64 (y + s), .int .i64 (u - 2 * p), .int .i64 (v - 2 * p)]) (by simp [results, Try.results49, go_sem]) rfl ⟨by rw [E.out]; rfl, D.out⟩
        · have k4n : v ≤ 2 * p := by omega
          have k4' : ¬ 0 < v - 2 * p := by omega
          have D := hide (show Below w.heap.size w ((w.alloc (.cells #[.int .i64 x, .int .i64 y, .int .i64 u, .int .i64 v] 30)).alloc (.cells #[.int .i64 (x + p), .int .i64 (y + s), .int .i64 (u - 2 * p), .int .i64 0] 30)) from ((Below.refl _ _).alloc (Nat.le_refl _) _).alloc (by simp) _)
          have E := hide (E.out (x + p) (y + s) (u - 2 * p) (0) (by omega) (by omega) (by omega) (by omega))
          go_enter Try.func49, Try.ntmps49
          go_wp2
          exact bodyPost_ret (v := .agg #[.int .i64 (x + p), .int .i64 (y + s), .int .i64 (u - 2 * p), .int .i64 0]) (by simp [results, Try.results49, go_sem]) rfl ⟨by rw [E.out]; rfl, D.out⟩
      · have k3n : u ≤ 2 * p := by omega
        have k3' : ¬ 0 < u - 2 * p := by omega
        by_cases k4 : 2 * p < v
        · skip
          have k4' : 0 < v - 2 * p := by omega
          have D := hide (show Below w.heap.size w ((w.alloc (.cells #[.int .i64 x, .int .i64 y, .int .i64 u, .int .i64 v] 30)).alloc (.cells #[.int .i64 (x + p), .int .i64 (y + s), .int .i64 0, .int .i64 (v - 2 * p)] 30)) from ((Below.refl _ _).alloc (Nat.le_refl _) _).alloc (by simp) _)
          have E := hide (E.out (x + p) (y + s) (0) (v - 2 * p) (by omega) (by omega) (by omega) (by omega))
          go_enter Try.func49, Try.ntmps49
          go_wp2
          exact bodyPost_ret (v := .agg #[.int .i64 (x + p), .int .i64 (y + s), .int .i64 0, .int .i64 (v - 2 * p)]) (by simp [results, Try.results49, go_sem]) rfl ⟨by rw [E.out]; rfl, D.out⟩
        · have k4n : v ≤ 2 * p := by omega
          have k4' : ¬ 0 < v - 2 * p := by omega
          have D := hide (show Below w.heap.size w ((w.alloc (.cells #[.int .i64 x, .int .i64 y, .int .i64 u, .int .i64 v] 30)).alloc (.cells #[.int .i64 (x + p), .int .i64 (y + s), .int .i64 0, .int .i64 0] 30)) from ((Below.refl _ _).alloc (Nat.le_refl _) _).alloc (by simp) _)
          have E := hide (E.out (x + p) (y + s) (0) (0) (by omega) (by omega) (by omega) (by omega))
          go_enter Try.func49, Try.ntmps49
          go_wp2
          exact bodyPost_ret (v := .agg #[.int .i64 (x + p), .int .i64 (y + s), .int .i64 0, .int .i64 0]) (by simp [results, Try.results49, go_sem]) rfl ⟨by rw [E.out]; rfl, D.out⟩
    · have k2n : p ≤ s := by omega
      skip
      by_cases k3 : 2 * p < u
      · skip
        have k3' : 0 < u - 2 * p := by omega
        by_cases k4 : 2 * p < v
        · skip
          have k4' : 0 < v - 2 * p := by omega
          have D := hide (show Below w.heap.size w ((w.alloc (.cells #[.int .i64 x, .int .i64 y, .int .i64 u, .int .i64 v] 30)).alloc (.cells #[.int .i64 (x + p), .int .i64 (y + p), .int .i64 (u - 2 * p), .int .i64 (v - 2 * p)] 30)) from ((Below.refl _ _).alloc (Nat.le_refl _) _).alloc (by simp) _)
          have E := hide (E.out (x + p) (y + p) (u - 2 * p) (v - 2 * p) (by omega) (by omega) (by omega) (by omega))
          go_enter Try.func49, Try.ntmps49
          go_wp2
          exact bodyPost_ret (v := .agg #[.int .i64 (x + p), .int .i64 (y + p), .int .i64 (u - 2 * p), .int .i64 (v - 2 * p)]) (by simp [results, Try.results49, go_sem]) rfl ⟨by rw [E.out]; rfl, D.out⟩
        · have k4n : v ≤ 2 * p := by omega
          have k4' : ¬ 0 < v - 2 * p := by omega
          have D := hide (show Below w.heap.size w ((w.alloc (.cells #[.int .i64 x, .int .i64 y, .int .i64 u, .int .i64 v] 30)).alloc (.cells #[.int .i64 (x + p), .int .i64 (y + p), .int .i64 (u - 2 * p), .int .i64 0] 30)) from ((Below.refl _ _).alloc (Nat.le_refl _) _).alloc (by simp) _)
          have E := hide (E.out (x + p) (y + p) (u - 2 * p) (0) (by omega) (by omega) (by omega) (by omega))
          go_enter Try.func49, Try.ntmps49
          go_wp2
          exact bodyPost_ret (v := .agg #[.int .i64 (x + p), .int .i64 (y + p), .int .i64 (u - 2 * p), .int .i64 0]) (by simp [results, Try.results49, go_sem]) rfl ⟨by rw [E.out]; rfl, D.out⟩
      · have k3n : u ≤ 2 * p := by omega
        have k3' : ¬ 0 < u - 2 * p := by omega
        by_cases k4 : 2 * p < v
        · skip
          have k4' : 0 < v - 2 * p := by omega
          have D := hide (show Below w.heap.size w ((w.alloc (.cells #[.int .i64 x, .int .i64 y, .int .i64 u, .int .i64 v] 30)).alloc (.cells #[.int .i64 (x + p), .int .i64 (y + p), .int .i64 0, .int .i64 (v - 2 * p)] 30)) from ((Below.refl _ _).alloc (Nat.le_refl _) _).alloc (by simp) _)
          have E := hide (E.out (x + p) (y + p) (0) (v - 2 * p) (by omega) (by omega) (by omega) (by omega))
          go_enter Try.func49, Try.ntmps49
          go_wp2
          exact bodyPost_ret (v := .agg #[.int .i64 (x + p), .int .i64 (y + p), .int .i64 0, .int .i64 (v - 2 * p)]) (by simp [results, Try.results49, go_sem]) rfl ⟨by rw [E.out]; rfl, D.out⟩
        · have k4n : v ≤ 2 * p := by omega
          have k4' : ¬ 0 < v - 2 * p := by omega
          have D := hide (show Below w.heap.size w ((w.alloc (.cells #[.int .i64 x, .int .i64 y, .int .i64 u, .int .i64 v] 30)).alloc (.cells #[.int .i64 (x + p), .int .i64 (y + p), .int .i64 0, .int .i64 0] 30)) from ((Below.refl _ _).alloc (Nat.le_refl _) _).alloc (by simp) _)
          have E := hide (E.out (x + p) (y + p) (0) (0) (by omega) (by omega) (by omega) (by omega))
          go_enter Try.func49, Try.ntmps49
          go_wp2
          exact bodyPost_ret (v := .agg #[.int .i64 (x + p), .int .i64 (y + p), .int .i64 0, .int .i64 0]) (by simp [results, Try.results49, go_sem]) rfl ⟨by rw [E.out]; rfl, D.out⟩
set_option maxHeartbeats 4000000 in
theorem implInset_any (x y u v p : Int) (w : World) (hx : -200000 ≤ x ∧ x ≤ 200000) (hy : -200000 ≤ y ∧ y ≤ 200000) (hu : 0 ≤ u ∧ u ≤ 10000) (hv : 0 ≤ v ∧ v ≤ 10000) (hp : 0 ≤ p ∧ p ≤ 50) :
    Calls Try.prog 58 #[.agg #[.int .i64 x, .int .i64 y, .int .i64 u, .int .i64 v], .int .i64 p] w fun e w' => e = .returned (RV (insetR (ri x y u v) p)) ∧ Below w.heap.size w w' := by
  obtain ⟨q, hq⟩ : ∃ q, u / 2 = q := ⟨_, rfl⟩
  obtain ⟨s, hs⟩ : ∃ s, v / 2 = s := ⟨_, rfl⟩
  have hq1 : u.tdiv 2 = q := by rw [Int.tdiv_eq_ediv_of_nonneg hu.1]; exact hq
  have hs1 : v.tdiv 2 = s := by rw [Int.tdiv_eq_ediv_of_nonneg hv.1]; exact hs
  have bq : 0 ≤ q ∧ q ≤ 5000 := by omega
  have bs : 0 ≤ s ∧ s ≤ 5000 := by omega
  have E := hide (fun a b c d (h1 : a = x + min p q) (h2 : b = y + min p s) (h3 : c = max (u - 2 * p) 0) (h4 : d = max (v - 2 * p) 0) => (show insetR (ri x y u v) p = ri a b c d from RectI.ext' (by show x + min p (u / 2) = a; rw [hq, h1]) (by show y + min p (v / 2) = b; rw [hs, h2]) h3.symm h4.symm))
  clear hq hs
  by_cases k1 : q < p
  · skip
    skip
    by_cases k2 : s < p
    · skip
      skip
      by_cases k3 : 2 * p ≤ u
      · skip
        have k3' : ¬ u - 2 * p < 0 := by omega
        by_cases k4 : 2 * p ≤ v
        · skip
          have k4' : ¬ v - 2 * p < 0 := by omega
          have D := hide (show Below w.heap.size w (((w.alloc (.cells #[.int .i64 x, .int .i64 y, .int .i64 u, .int .i64 v] 30)).alloc (.cells #[.int .i64 (x + q), .int .i64 (y + s), .int .i64 (u - 2 * p), .int .i64 (v - 2 * p)] 30)).alloc (.cells #[.int .i64 (x + q), .int .i64 (y + s), .int .i64 (u - 2 * p), .int .i64 (v - 2 * p)] 30)).drew from ((((Below.refl _ _).alloc (Nat.le_refl _) _).alloc (by simp) _).alloc (by simp; omega) _).drew)
          have E := hide (E.out (x + q) (y + s) (u - 2 * p) (v - 2 * p) (by omega) (by omega) (by omega) (by omega))
          go_enter Try.func58, Try.ntmps58
          go_wp2
          go_region
          go_wp2
          exact bodyPost_ret (v := .agg #[.int .i64 (x + q), .int .i64 (y + s), .int .i64 (u - 2 * p), .int .i64 (v - 2 * p)]) (by simp [results, Try.results58, go_sem]) rfl ⟨by rw [E.out]; rfl, D.out⟩
        · have k4n : v < 2 * p := by omega
          have k4' : v - 2 * p < 0 := by omega
          have D := hide (show Below w.heap.size w (((w.alloc (.cells #[.int .i64 x, .int .i64 y, .int .i64 u, .int .i64 v] 30)).alloc (.cells #[.int .i64 (x + q), .int .i64 (y + s), .int .i64 (u - 2 * p), .int .i64 0] 30)).alloc (.cells #[.int .i64 (x + q), .int .i64 (y + s), .int .i64 (u - 2 * p), .int .i64 0] 30)).drew from ((((Below.refl _ _).alloc (Nat.le_refl _) _).alloc (by simp) _).alloc (by simp; omega) _).drew)
          have E := hide (E.out (x + q) (y + s) (u - 2 * p) (0) (by omega) (by omega) (by omega) (by omega))
          go_enter Try.func58, Try.ntmps58
          go_wp2
          go_region
          go_wp2
          exact bodyPost_ret (v := .agg #[.int .i64 (x + q), .int .i64 (y + s), .int .i64 (u - 2 * p), .int .i64 0]) (by simp [results, Try.results58, go_sem]) rfl ⟨by rw [E.out]; rfl, D.out⟩
      · have k3n : u < 2 * p := by omega
        have k3' : u - 2 * p < 0 := by omega
        by_cases k4 : 2 * p ≤ v
        · skip
          have k4' : ¬ v - 2 * p < 0 := by omega
          have D := hide (show Below w.heap.size w (((w.alloc (.cells #[.int .i64 x, .int .i64 y, .int .i64 u, .int .i64 v] 30)).alloc (.cells #[.int .i64 (x + q), .int .i64 (y + s), .int .i64 0, .int .i64 (v - 2 * p)] 30)).alloc (.cells #[.int .i64 (x + q), .int .i64 (y + s), .int .i64 0, .int .i64 (v - 2 * p)] 30)).drew from ((((Below.refl _ _).alloc (Nat.le_refl _) _).alloc (by simp) _).alloc (by simp; omega) _).drew)
          have E := hide (E.out (x + q) (y + s) (0) (v - 2 * p) (by omega) (by omega) (by omega) (by omega))
          go_enter Try.func58, Try.ntmps58
          go_wp2
          go_region
          go_wp2
          exact bodyPost_ret (v := .agg #[.int .i64 (x + q), .int .i64 (y + s), .int .i64 0, .int .i64 (v - 2 * p)]) (by simp [results, Try.results58, go_sem]) rfl ⟨by rw [E.out]; rfl, D.out⟩
        · have k4n : v < 2 * p := by omega
          have k4' : v - 2 * p < 0 := by omega
          have D := hide (show Below w.heap.size w (((w.alloc (.cells #[.int .i64 x, .int .i64 y, .int .i64 u, .int .i64 v] 30)).alloc (.cells #[.int .i64 (x + q), .int .i64 (y + s), .int .i64 0, .int .i64 0] 30)).alloc (.cells #[.int .i64 (x + q), .int .i64 (y + s), .int .i64 0, .int .i64 0] 30)).drew from ((((Below.refl _ _).alloc (Nat.le_refl _) _).alloc (by simp) _).alloc (by simp; omega) _).drew)
          have E := hide (E.out (x + q) (y + s) (0) (0) (by omega) (by omega) (by omega) (by omega))
          go_enter Try.func58, Try.ntmps58
          go_wp2
          go_region
          go_wp2
          exact bodyPost_ret (v := .agg #[.int .i64 (x + q), .int .i64 (y + s), .int .i64 0, .int .i64 0]) (by simp [results, Try.results58, go_sem]) rfl ⟨by rw [E.out]; rfl, D.out⟩
    · have k2n : p ≤ s := by omega
      skip
      by_cases k3 : 2 * p ≤ u
      · skip
        have k3' : ¬ u - 2 * p < 0 := by omega
        by_cases k4 : 2 * p ≤ v
        · skip
          have k4' : ¬ v - 2 * p < 0 := by omega
          have D := hide (show Below w.heap.size w (((w.alloc (.cells #[.int .i64 x, .int .i64 y, .int .i64 u, .int .i64 v] 30)).alloc (.cells #[.int .i64 (x + q), .int .i64 (y + p), .int .i64 (u - 2 * p), .int .i64 (v - 2 * p)] 30)).alloc (.cells #[.int .i64 (x + q), .int .i64 (y + p), .int .i64 (u - 2 * p), .int .i64 (v - 2 * p)] 30)).drew from ((((Below.refl _ _).alloc (Nat.le_refl _) _).alloc (by simp) _).alloc (by simp; omega) _).drew)
          have E := hide (E.out (x + q) (y + p) (u - 2 * p) (v - 2 * p) (by omega) (by omega) (by omega) (by omega))
          go_enter Try.func58, Try.ntmps58
          go_wp2
          go_region
          go_wp2
          exact bodyPost_ret (v := .agg #[.int .i64 (x + q), .int .i64 (y + p), .int .i64 (u - 2 * p), .int .i64 (v - 2 * p)]) (by simp [results, Try.results58, go_sem]) rfl ⟨by rw [E.out]; rfl, D.out⟩
        · have k4n : v < 2 * p := by omega
          have k4' : v - 2 * p < 0 := by omega
          have D := hide (show Below w.heap.size w (((w.alloc (.cells #[.int .i64 x, .int .i64 y, .int .i64 u, .int .i64 v] 30)).alloc (.cells #[.int .i64 (x + q), .int .i64 (y + p), .int .i64 (u - 2 * p), .int .i64 0] 30)).alloc (.cells #[.int .i64 (x + q), .int .i64 (y + p), .int .i64 (u - 2 * p), .int .i64 0] 30)).drew from ((((Below.refl _ _).alloc (Nat.le_refl _) _).alloc (by simp) _).alloc (by simp; omega) _).drew)
          have E := hide (E.out (x + q) (y + p) (u - 2 * p) (0) (by omega) (by omega) (by omega) (by omega))
          go_enter Try.func58, Try.ntmps58
          go_wp2
          go_region
          go_wp2
          exact bodyPost_ret (v := .agg #[.int .i64 (x + q), .int .i64 (y + p), .int .i64 (u - 2 * p), .int .i64 0]) (by simp [results, Try.results58, go_sem]) rfl ⟨by rw [E.out]; rfl, D.out⟩
      · have k3n : u < 2 * p := by omega
        have k3' : u - 2 * p < 0 := by omega
        by_cases k4 : 2 * p ≤ v
        · skip
          have k4' : ¬ v - 2 * p < 0 := by omega
          have D := hide (show Below w.heap.size w (((w.alloc (.cells #[.int .i64 x, .int .i64 y, .int .i64 u, .int .i64 v] 30)).alloc (.cells #[.int .i64 (x + q), .int .i64 (y + p), .int .i64 0, .int .i64 (v - 2 * p)] 30)).alloc (.cells #[.int .i64 (x + q), .int .i64 (y + p), .int .i64 0, .int .i64 (v - 2 * p)] 30)).drew from ((((Below.refl _ _).alloc (Nat.le_refl _) _).alloc (by simp) _).alloc (by simp; omega) _).drew)
          have E := hide (E.out (x + q) (y + p) (0) (v - 2 * p) (by omega) (by omega) (by omega) (by omega))
          go_enter Try.func58, Try.ntmps58
          go_wp2
          go_region
          go_wp2
          exact bodyPost_ret (v := .agg #[.int .i64 (x + q), .int .i64 (y + p), .int .i64 0, .int .i64 (v - 2 * p)]) (by simp [results, Try.results58, go_sem]) rfl ⟨by rw [E.out]; rfl, D.out⟩
        · have k4n : v < 2 * p := by omega
          have k4' : v - 2 * p < 0 := by omega
          have D := hide (show Below w.heap.size w (((w.alloc (.cells #[.int .i64 x, .int .i64 y, .int .i64 u, .int .i64 v] 30)).alloc (.cells #[.int .i64 (x + q), .int .i64 (y + p), .int .i64 0, .int .i64 0] 30)).alloc (.cells #[.int .i64 (x + q), .int .i64 (y + p), .int .i64 0, .int .i64 0] 30)).drew from ((((Below.refl _ _).alloc (Nat.le_refl _) _).alloc (by simp) _).alloc (by simp; omega) _).drew)
          have E := hide (E.out (x + q) (y + p) (0) (0) (by omega) (by omega) (by omega) (by omega))
          go_enter Try.func58, Try.ntmps58
          go_wp2
          go_region
          go_wp2
          exact bodyPost_ret (v := .agg #[.int .i64 (x + q), .int .i64 (y + p), .int .i64 0, .int .i64 0]) (by simp [results, Try.results58, go_sem]) rfl ⟨by rw [E.out]; rfl, D.out⟩
  · have k1n : p ≤ q := by omega
    skip
    by_cases k2 : s < p
    · skip
      skip
      by_cases k3 : 2 * p ≤ u
      · skip
        have k3' : ¬ u - 2 * p < 0 := by omega
        by_cases k4 : 2 * p ≤ v
        · skip
          have k4' : ¬ v - 2 * p < 0 := by omega
          have D := hide (show Below w.heap.size w (((w.alloc (.cells #[.int .i64 x, .int .i64 y, .int .i64 u, .int .i64 v] 30)).alloc (.cells #[.int .i64 (x + p), .int .i64 (y + s), .int .i64 (u - 2 * p), .int .i64 (v - 2 * p)] 30)).alloc (.cells #[.int .i64 (x + p), .int .i64 (y + s), .int .i64 (u - 2 * p), .int .i64 (v - 2 * p)] 30)).drew from ((((Below.refl _ _).alloc (Nat.le_refl _) _).alloc (by simp) _).alloc (by simp; omega) _).drew)
          have E := hide (E.out (x + p) (y + s) (u - 2 * p) (v - 2 * p) (by omega) (by omega) (by omega) (by omega))
          go_enter Try.func58, Try.ntmps58
          go_wp2
          go_region
          go_wp2
          exact bodyPost_ret (v := .agg #[.int .i64 (x + p), .int .i64 (y + s), .int .i64 (u - 2 * p), .int .i64 (v - 2 * p)]) (by simp [results, Try.results58, go_sem]) rfl ⟨by rw [E.out]; rfl, D.out⟩
        · have k4n : v < 2 * p := by omega
          have k4' : v - 2 * p < 0 := by omega
          have D := hide (show Below w.heap.size w (((w.alloc (.cells #[.int .i64 x, .int .i64 y, .int .i64 u, .int .i64 v] 30)).alloc (.cells #[.int .i64 (x + p), .int .i64 (y + s), .int .i64 (u - 2 * p), .int .i64 0] 30)).alloc (.cells #[.int .i64 (x + p), .int .i64 (y + s), .int .i64 (u - 2 * p), .int .i64 0] 30)).drew from ((((Below.refl _ _).alloc (Nat.le_refl _) _).alloc (by simp) _).alloc (by simp; omega) _).drew)
          have E := hide (E.out (x + p) (y + s) (u - 2 * p) (0) (by omega) (by omega) (by omega) (by omega))
          go_enter Try.func58, Try.ntmps58
          go_wp2
          go_region
          go_wp2
          exact bodyPost_ret (v := .agg #[.int .i64 (x + p), .int .i64 (y + s), .int .i64 (u - 2 * p), .int .i64 0]) (by simp [results, Try.results58, go_sem]) rfl ⟨by rw [E.out]; rfl, D.out⟩
      · have k3n : u < 2 * p := by omega
        have k3' : u - 2 * p < 0 := by omega
        by_cases k4 : 2 * p ≤ v
        · skip
          have k4' : ¬ v - 2 * p < 0 := by omega
          have D := hide (show Below w.heap.size w (((w.alloc (.cells #[.int .i64 x, .int .i64 y, .int .i64 u, .int .i64 v] 30)).alloc (.cells #[.int .i64 (x + p), .int .i64 (y + s), .int .i64 0, .int .i64 (v - 2 * p)] 30)).alloc (.cells #[.int .i64 (x + p), .int .i64 (y + s), .int .i64 0, .int .i64 (v - 2 * p)] 30)).drew from ((((Below.refl _ _).alloc (Nat.le_refl _) _).alloc (by simp) _).alloc (by simp; omega) _).drew)
          have E := hide (E.out (x + p) (y + s) (0) (v - 2 * p) (by omega) (by omega) (by omega) (by omega))
          go_enter Try.func58, Try.ntmps58
          go_wp2
          go_region
          go_wp2
          exact bodyPost_ret (v := .agg #[.int .i64 (x + p), .int .i64 (y + s), .int .i64 0, .int .i64 (v - 2 * p)]) (by simp [results, Try.results58, go_sem]) rfl ⟨by rw [E.out]; rfl, D.out⟩
        · have k4n : v < 2 * p := by omega
          have k4' : v - 2 * p < 0 := by omega
          have D := hide (show Below w.heap.size w (((w.alloc (.cells #[.int .i64 x, .int .i64 y, .int .i64 u, .int .i64 v] 30)).alloc (.cells #[.int .i64 (x + p), .int .i64 (y + s), .int .i64 0, .int .i64 0] 30)).alloc (.cells #[.int .i64 (x + p), .int .i64 (y + s), .int .i64 0, .int .i64 0] 30)).drew from ((((Below.refl _ _).alloc (Nat.le_refl _) _).alloc (by simp) _).alloc (by simp; omega) _).drew)
          have E := hide (E.out (x + p) (y + s) (0) (0) (by omega) (by omega) (by omega) (by omega))
          go_enter Try.func58, Try.ntmps58
          go_wp2
          go_region
          go_wp2
          exact bodyPost_ret (v := .agg #[.int .i64 (x + p), .int .i64 (y + s), .int .i64 0, .int .i64 0]) (by simp [results, Try.results58, go_sem]) rfl ⟨by rw [E.out]; rfl, D.out⟩
    · have k2n : p ≤ s := by omega
      skip
      by_cases k3 : 2 * p ≤ u
      · skip
        have k3' : ¬ u - 2 * p < 0 := by omega
        by_cases k4 : 2 * p ≤ v
        · skip
          have k4' : ¬ v - 2 * p < 0 := by omega
          have D := hide (show Below w.heap.size w (((w.alloc (.cells #[.int .i64 x, .int .i64 y, .int .i64 u, .int .i64 v] 30)).alloc (.cells #[.int .i64 (x + p), .int .i64 (y + p), .int .i64 (u - 2 * p), .int .i64 (v - 2 * p)] 30)).alloc (.cells #[.int .i64 (x + p), .int .i64 (y + p), .int .i64 (u - 2 * p), .int .i64 (v - 2 * p)] 30)).drew from ((((Below.refl _ _).alloc (Nat.le_refl _) _).alloc (by simp) _).alloc (by simp; omega) _).drew)
          have E := hide (E.out (x + p) (y + p) (u - 2 * p) (v - 2 * p) (by omega) (by omega) (by omega) (by omega))
          go_enter Try.func58, Try.ntmps58
          go_wp2
          go_region
          go_wp2
          exact bodyPost_ret (v := .agg #[.int .i64 (x + p), .int .i64 (y + p), .int .i64 (u - 2 * p), .int .i64 (v - 2 * p)]) (by simp [results, Try.results58, go_sem]) rfl ⟨by rw [E.out]; rfl, D.out⟩
        · have k4n : v < 2 * p := by omega
          have k4' : v - 2 * p < 0 := by omega
          have D := hide (show Below w.heap.size w (((w.alloc (.cells #[.int .i64 x, .int .i64 y, .int .i64 u, .int .i64 v] 30)).alloc (.cells #[.int .i64 (x + p), .int .i64 (y + p), .int .i64 (u - 2 * p), .int .i64 0] 30)).alloc (.cells #[.int .i64 (x + p), .int .i64 (y + p), .int .i64 (u - 2 * p), .int .i64 0] 30)).drew from ((((Below.refl _ _).alloc (Nat.le_refl _) _).alloc (by simp) _).alloc (by simp; omega) _).drew)
          have E := hide (E.out (x + p) (y + p) (u - 2 * p) (0) (by omega) (by omega) (by omega) (by omega))
          go_enter Try.func58, Try.ntmps58
          go_wp2
          go_region
          go_wp2
          exact bodyPost_ret (v := .agg #[.int .i64 (x + p), .int .i64 (y + p), .int .i64 (u - 2 * p), .int .i64 0]) (by simp [results, Try.results58, go_sem]) rfl ⟨by rw [E.out]; rfl, D.out⟩
      · have k3n : u < 2 * p := by omega
        have k3' : u - 2 * p < 0 := by omega
        by_cases k4 : 2 * p ≤ v
        · skip
          have k4' : ¬ v - 2 * p < 0 := by omega
          have D := hide (show Below w.heap.size w (((w.alloc (.cells #[.int .i64 x, .int .i64 y, .int .i64 u, .int .i64 v] 30)).alloc (.cells #[.int .i64 (x + p), .int .i64 (y + p), .int .i64 0, .int .i64 (v - 2 * p)] 30)).alloc (.cells #[.int .i64 (x + p), .int .i64 (y + p), .int .i64 0, .int .i64 (v - 2 * p)] 30)).drew from ((((Below.refl _ _).alloc (Nat.le_refl _) _).alloc (by simp) _).alloc (by simp; omega) _).drew)
          have E := hide (E.out (x + p) (y + p) (0) (v - 2 * p) (by omega) (by omega) (by omega) (by omega))
          go_enter Try.func58, Try.ntmps58
          go_wp2
          go_region
          go_wp2
          exact bodyPost_ret (v := .agg #[.int .i64 (x + p), .int .i64 (y + p), .int .i64 0, .int .i64 (v - 2 * p)]) (by simp [results, Try.results58, go_sem]) rfl ⟨by rw [E.out]; rfl, D.out⟩
        · have k4n : v < 2 * p := by omega
          have k4' : v - 2 * p < 0 := by omega
          have D := hide (show Below w.heap.size w (((w.alloc (.cells #[.int .i64 x, .int .i64 y, .int .i64 u, .int .i64 v] 30)).alloc (.cells #[.int .i64 (x + p), .int .i64 (y + p), .int .i64 0, .int .i64 0] 30)).alloc (.cells #[.int .i64 (x + p), .int .i64 (y + p), .int .i64 0, .int .i64 0] 30)).drew from ((((Below.refl _ _).alloc (Nat.le_refl _) _).alloc (by simp) _).alloc (by simp; omega) _).drew)
          have E := hide (E.out (x + p) (y + p) (0) (0) (by omega) (by omega) (by omega) (by omega))
          go_enter Try.func58, Try.ntmps58
          go_wp2
          go_region
          go_wp2
          exact bodyPost_ret (v := .agg #[.int .i64 (x + p), .int .i64 (y + p), .int .i64 0, .int .i64 0]) (by simp [results, Try.results58, go_sem]) rfl ⟨by rw [E.out]; rfl, D.out⟩
end Go.Proofs.Ythgliihdaockoaa
