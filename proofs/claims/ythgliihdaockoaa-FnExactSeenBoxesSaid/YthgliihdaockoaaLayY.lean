/- Layout: rectangles turned, met, tested. Conditions: none. -/
import Derived.Test.YthgliihdaockoaaLayI
import Derived.Test.YthgliihdaockoaaTreeE
import Derived.BigRegion
namespace Go.Proofs.Ythgliihdaockoaa
open Go.RowKit
set_option linter.unusedVariables false
set_option linter.unusedSimpArgs false
theorem turnR_any (x y u v : Int) (w : World) :
    Calls Try.prog 44 #[.agg #[.int .i64 x, .int .i64 y, .int .i64 u, .int .i64 v]] w fun e w' => e = .returned (.agg #[.int .i64 y, .int .i64 x, .int .i64 v, .int .i64 u]) ∧ Below w.heap.size w w' := by
  have D := hide (show Below w.heap.size w ((w.alloc (.cells #[.int .i64 x, .int .i64 y, .int .i64 u, .int .i64 v] 30)).alloc (.cells #[.int .i64 y, .int .i64 x, .int .i64 v, .int .i64 u] 30)) from ((Below.refl _ _).alloc (Nat.le_refl _) _).alloc (by simp) _)
  go_enter Try.func44, Try.ntmps44
  go_wp2
  exact bodyPost_ret (v := .agg #[.int .i64 y, .int .i64 x, .int .i64 v, .int .i64 u]) (by simp [results, Try.results44, go_sem]) rfl ⟨rfl, D.out⟩
theorem turnS_any (x y : Int) (w : World) :
    Calls Try.prog 45 #[.agg #[.int .i64 x, .int .i64 y]] w fun e w' => e = .returned (.agg #[.int .i64 y, .int .i64 x]) ∧ Below w.heap.size w w' := by
  have D := hide (show Below w.heap.size w ((w.alloc (.cells #[.int .i64 x, .int .i64 y] 66)).alloc (.cells #[.int .i64 y, .int .i64 x] 66)) from ((Below.refl _ _).alloc (Nat.le_refl _) _).alloc (by simp) _)
  go_enter Try.func45, Try.ntmps45
  go_wp2
  exact bodyPost_ret (v := .agg #[.int .i64 y, .int .i64 x]) (by simp [results, Try.results45, go_sem]) rfl ⟨rfl, D.out⟩
theorem toRect_any (x y u v : Int) (w : World) :
    Calls Try.prog 7 #[.agg #[.int .i64 x, .int .i64 y, .int .i64 u, .int .i64 v]] w fun e w' => e = .returned (.agg #[.int .i64 x, .int .i64 y, .int .i64 u, .int .i64 v]) ∧ Below w.heap.size w w' := by
  have D := hide (show Below w.heap.size w (((w.alloc (.cells #[.int .i64 x, .int .i64 y, .int .i64 u, .int .i64 v] 24)).alloc (.cells #[.int .i64 x, .int .i64 y, .int .i64 u, .int .i64 v] 30)).alloc (.cells #[.int .i64 x, .int .i64 y, .int .i64 u, .int .i64 v] 30)) from (((Below.refl _ _).alloc (Nat.le_refl _) _).alloc (by simp) _).alloc (by simp; omega) _)
  go_enter Try.func7, Try.ntmps7
  go_wp2
  exact bodyPost_ret (v := .agg #[.int .i64 x, .int .i64 y, .int .i64 u, .int .i64 v]) (by simp [results, Try.results7, go_sem]) rfl ⟨rfl, D.out⟩
theorem between_any (x y u v : Int) (w : World) (hx : -1000000 ≤ x ∧ x ≤ 1000000) (hy : -1000000 ≤ y ∧ y ≤ 1000000) (hu : -1000000 ≤ u ∧ u ≤ 1000000) (hv : -1000000 ≤ v ∧ v ≤ 1000000) :
    Calls Try.prog 48 #[.int .i64 x, .int .i64 y, .int .i64 u, .int .i64 v] w fun e w' => e = .returned (.agg #[.int .i64 x, .int .i64 y, .int .i64 (u - x), .int .i64 (v - y)]) ∧ Below w.heap.size w w' := by
  have D := hide (show Below w.heap.size w (w.alloc (.cells #[.int .i64 x, .int .i64 y, .int .i64 (u - x), .int .i64 (v - y)] 30)) from (Below.refl _ _).alloc (Nat.le_refl _) _)
  go_enter Try.func48, Try.ntmps48
  go_wp2
  exact bodyPost_ret (v := .agg #[.int .i64 x, .int .i64 y, .int .i64 (u - x), .int .i64 (v - y)]) (by simp [results, Try.results48, go_sem]) rfl ⟨rfl, D.out⟩
def rectB (x y u v : Int) : Bool := inR x (-100000) 100000 && (inR y (-100000) 100000 && (inR u 0 200000 && inR v 0 200000))
theorem sizeOk_is {n : Int} {b : Bool} (h : inR n 0 200000 = b) (w : World) : Calls Try.prog 29 #[.int .i64 n] w fun e w' => e = .returned (.bool b) ∧ w = w' := by
  go_enter Try.func29, Try.ntmps29
  go_wp2_with (go_at_call 28; with_reducible refine (within_is h _).mono ?_; rintro e w' ⟨rfl, rfl⟩)
  go_ret
  exact ⟨rfl, rfl⟩
theorem rectB_bd {x y u v : Int} (h : rectB x y u v = true) : (-100000 ≤ x ∧ x ≤ 100000) ∧ (-100000 ≤ y ∧ y ≤ 100000) ∧ (0 ≤ u ∧ u ≤ 200000) ∧ (0 ≤ v ∧ v ≤ 200000) := by
  simp only [rectB, Bool.and_eq_true, inR_iff] at h
  exact h
theorem set4_heap {w1 : World} {z : Nat} {v0 v1 v2 v3 : Value} {E : TypeId} (r1 : w1.heap[z]? = some (.cells #[v0, v1, v2, v3] E (0, 0))) (a b c d : Value) :
    ((((w1.setCell ⟨z, 0, none⟩ a).setCell ⟨z, 1, none⟩ b).setCell ⟨z, 2, none⟩ c).setCell ⟨z, 3, none⟩ d).heap[z]? = some (.cells #[a, b, c, d] E (0, 0)) := by simp [World.setCell, Array.getElem?_modify, r1]
theorem set4_cells {w1 : World} {z : Nat} {v0 v1 v2 v3 : Value} {E : TypeId} (r1 : w1.heap[z]? = some (.cells #[v0, v1, v2, v3] E (0, 0))) (a b c d : Value) (o : Obj) :
    let X := ((((w1.setCell ⟨z, 0, none⟩ a).setCell ⟨z, 1, none⟩ b).setCell ⟨z, 2, none⟩ c).setCell ⟨z, 3, none⟩ d).alloc o
    X.cell? ⟨z, 0, none⟩ = some a ∧ X.cell? ⟨z, 1, none⟩ = some b ∧ X.cell? ⟨z, 2, none⟩ = some c ∧ X.cell? ⟨z, 3, none⟩ = some d := by
  have h := set4_heap r1 a b c d
  have h2 := (heap_alloc_old _ o (Array.getElem?_eq_some_iff.1 h).1).trans h
  exact ⟨by rw [cell_of_row _ _ 0 _ _ (0, 0) h2]; rfl, by rw [cell_of_row _ _ 1 _ _ (0, 0) h2]; rfl, by rw [cell_of_row _ _ 2 _ _ (0, 0) h2]; rfl, by rw [cell_of_row _ _ 3 _ _ (0, 0) h2]; rfl⟩
theorem set4_below {B : Nat} {w w1 : World} (h : Below B w w1) {z : Nat} (hz : B ≤ z) (hB : B ≤ w1.heap.size) (a b c d : Value) (o : Obj) :
    Below B w (((((w1.setCell ⟨z, 0, none⟩ a).setCell ⟨z, 1, none⟩ b).setCell ⟨z, 2, none⟩ c).setCell ⟨z, 3, none⟩ d).alloc o) :=
  ((((h.setCell (p := ⟨z, 0, none⟩) hz _).setCell (p := ⟨z, 1, none⟩) hz _).setCell (p := ⟨z, 2, none⟩) hz _).setCell (p := ⟨z, 3, none⟩) hz _).alloc (by simpa using hB) _
def mxI (a b : Int) : Int := if a < b then b else a
def mnI (a b : Int) : Int := if b < a then b else a
def metI (a aw b bw : Int) : Int := mnI (a + aw) (b + bw) - mxI a b
def meetB (a b : RectI) : Bool := decide (0 < metI a.x a.w b.x b.w) && decide (0 < metI a.y a.h b.y b.h)
/-- a rectangle and whether there is one -/
def MetR (b : Bool) (e : Ending) : Prop := ∃ r0 r1 r2 r3 : Int, e = .returned (.tuple #[.agg #[.int .i64 r0, .int .i64 r1, .int .i64 r2, .int .i64 r3], .bool b])
set_option maxHeartbeats 2000000 in
theorem specRectOk_any (x y u v : Int) (w : World) :
    Calls Try.prog 15 #[.agg #[.int .i64 x, .int .i64 y, .int .i64 u, .int .i64 v]] w fun e w' => e = .returned (.bool (rectB x y u v)) ∧ Below w.heap.size w w' := by
  have HB := hide (show Below w.heap.size w (w.alloc (.cells #[.int .i64 x, .int .i64 y, .int .i64 u, .int .i64 v] 30)) from (Below.refl _ _).alloc (Nat.le_refl _) _)
  cases h1 : inR x (-100000) 100000
  case false =>
    have D := hide (show rectB x y u v = false by simp [rectB, h1])
    go_enter Try.func15, Try.ntmps15
    go_wp2_with (first | (go_at_call 25; with_reducible refine (inRange_is h1 _).mono ?_; rintro e w' ⟨rfl, rfl⟩))
    go_ret
    exact ⟨ret_bool D.out.symm, HB.out⟩
  case true =>
    cases h2 : inR y (-100000) 100000
    case false =>
      have D := hide (show rectB x y u v = false by simp [rectB, h1, h2])
      go_enter Try.func15, Try.ntmps15
      go_wp2_with (first | (go_at_call 25; with_reducible refine (inRange_is h1 _).mono ?_; rintro e w' ⟨rfl, rfl⟩) | (go_at_call 25; with_reducible refine (inRange_is h2 _).mono ?_; rintro e w' ⟨rfl, rfl⟩))
      go_ret
      exact ⟨ret_bool D.out.symm, HB.out⟩
    case true =>
      cases h3 : inR u 0 200000
      case false =>
        have D := hide (show rectB x y u v = false by simp [rectB, h1, h2, h3])
        go_enter Try.func15, Try.ntmps15
        go_wp2_with (first | (go_at_call 25; with_reducible refine (inRange_is h1 _).mono ?_; rintro e w' ⟨rfl, rfl⟩) | (go_at_call 25; with_reducible refine (inRange_is h2 _).mono ?_; rintro e w' ⟨rfl, rfl⟩) | (go_at_call 25; with_reducible refine (inRange_is h3 _).mono ?_; rintro e w' ⟨rfl, rfl⟩))
        go_ret
        exact ⟨ret_bool D.out.symm, HB.out⟩
      case true =>
        cases h4 : inR v 0 200000
        case false =>
          have D := hide (show rectB x y u v = false by simp [rectB, h1, h2, h3, h4])
          go_enter Try.func15, Try.ntmps15
          go_wp2_with (first | (go_at_call 25; with_reducible refine (inRange_is h1 _).mono ?_; rintro e w' ⟨rfl, rfl⟩) | (go_at_call 25; with_reducible refine (inRange_is h2 _).mono ?_; rintro e w' ⟨rfl, rfl⟩) | (go_at_call 25; with_reducible refine (inRange_is h3 _).mono ?_; rintro e w' ⟨rfl, rfl⟩) | (go_at_call 25; with_reducible refine (inRange_is h4 _).mono ?_; rintro e w' ⟨rfl, rfl⟩))
          go_ret
          exact ⟨ret_bool D.out.symm, HB.out⟩
        case true =>
          have D := hide (show rectB x y u v = true by simp [rectB, h1, h2, h3, h4])
          go_enter Try.func15, Try.ntmps15
          go_wp2_with (first | (go_at_call 25; with_reducible refine (inRange_is h1 _).mono ?_; rintro e w' ⟨rfl, rfl⟩) | (go_at_call 25; with_reducible refine (inRange_is h2 _).mono ?_; rintro e w' ⟨rfl, rfl⟩) | (go_at_call 25; with_reducible refine (inRange_is h3 _).mono ?_; rintro e w' ⟨rfl, rfl⟩) | (go_at_call 25; with_reducible refine (inRange_is h4 _).mono ?_; rintro e w' ⟨rfl, rfl⟩))
          go_ret
          exact ⟨ret_bool D.out.symm, HB.out⟩
set_option maxHeartbeats 2000000 in
theorem implRectOk_any (x y u v : Int) (w : World) :
    Calls Try.prog 19 #[.agg #[.int .i64 x, .int .i64 y, .int .i64 u, .int .i64 v]] w fun e w' => e = .returned (.bool (rectB x y u v)) ∧ Below w.heap.size w w' := by
  have HB := hide (show Below w.heap.size w (w.alloc (.cells #[.int .i64 x, .int .i64 y, .int .i64 u, .int .i64 v] 30)) from (Below.refl _ _).alloc (Nat.le_refl _) _)
  cases h1 : inR x (-100000) 100000
  case false =>
    have D := hide (show rectB x y u v = false by simp [rectB, h1])
    go_enter Try.func19, Try.ntmps19
    go_wp2_with (first | (go_at_call 28; with_reducible refine (within_is h1 _).mono ?_; rintro e w' ⟨rfl, rfl⟩))
    go_ret
    exact ⟨ret_bool D.out.symm, HB.out⟩
  case true =>
    cases h2 : inR y (-100000) 100000
    case false =>
      have D := hide (show rectB x y u v = false by simp [rectB, h1, h2])
      go_enter Try.func19, Try.ntmps19
      go_wp2_with (first | (go_at_call 28; with_reducible refine (within_is h1 _).mono ?_; rintro e w' ⟨rfl, rfl⟩) | (go_at_call 28; with_reducible refine (within_is h2 _).mono ?_; rintro e w' ⟨rfl, rfl⟩))
      go_ret
      exact ⟨ret_bool D.out.symm, HB.out⟩
    case true =>
      cases h3 : inR u 0 200000
      case false =>
        have D := hide (show rectB x y u v = false by simp [rectB, h1, h2, h3])
        go_enter Try.func19, Try.ntmps19
        go_wp2_with (first | (go_at_call 28; with_reducible refine (within_is h1 _).mono ?_; rintro e w' ⟨rfl, rfl⟩) | (go_at_call 28; with_reducible refine (within_is h2 _).mono ?_; rintro e w' ⟨rfl, rfl⟩) | (go_at_call 29; with_reducible refine (sizeOk_is h3 _).mono ?_; rintro e w' ⟨rfl, rfl⟩))
        go_ret
        exact ⟨ret_bool D.out.symm, HB.out⟩
      case true =>
        cases h4 : inR v 0 200000
        case false =>
          have D := hide (show rectB x y u v = false by simp [rectB, h1, h2, h3, h4])
          go_enter Try.func19, Try.ntmps19
          go_wp2_with (first | (go_at_call 28; with_reducible refine (within_is h1 _).mono ?_; rintro e w' ⟨rfl, rfl⟩) | (go_at_call 28; with_reducible refine (within_is h2 _).mono ?_; rintro e w' ⟨rfl, rfl⟩) | (go_at_call 29; with_reducible refine (sizeOk_is h3 _).mono ?_; rintro e w' ⟨rfl, rfl⟩) | (go_at_call 29; with_reducible refine (sizeOk_is h4 _).mono ?_; rintro e w' ⟨rfl, rfl⟩))
          go_ret
          exact ⟨ret_bool D.out.symm, HB.out⟩
        case true =>
          have D := hide (show rectB x y u v = true by simp [rectB, h1, h2, h3, h4])
          go_enter Try.func19, Try.ntmps19
          go_wp2_with (first | (go_at_call 28; with_reducible refine (within_is h1 _).mono ?_; rintro e w' ⟨rfl, rfl⟩) | (go_at_call 28; with_reducible refine (within_is h2 _).mono ?_; rintro e w' ⟨rfl, rfl⟩) | (go_at_call 29; with_reducible refine (sizeOk_is h3 _).mono ?_; rintro e w' ⟨rfl, rfl⟩) | (go_at_call 29; with_reducible refine (sizeOk_is h4 _).mono ?_; rintro e w' ⟨rfl, rfl⟩))
          go_ret
          exact ⟨ret_bool D.out.symm, HB.out⟩
set_option maxHeartbeats 4000000 in
theorem specMeet_any (ax ay aw ah bx byy bw bh : Int) (w : World) (hax : -200000 ≤ ax ∧ ax ≤ 200000) (hay : -200000 ≤ ay ∧ ay ≤ 200000) (haw : 0 ≤ aw ∧ aw ≤ 200000) (hah : 0 ≤ ah ∧ ah ≤ 200000) (hbx : -200000 ≤ bx ∧ bx ≤ 200000) (hbyy : -200000 ≤ byy ∧ byy ≤ 200000) (hbw : 0 ≤ bw ∧ bw ≤ 200000) (hbh : 0 ≤ bh ∧ bh ≤ 200000) :
    Calls Try.prog 16 #[.agg #[.int .i64 ax, .int .i64 ay, .int .i64 aw, .int .i64 ah], .agg #[.int .i64 bx, .int .i64 byy, .int .i64 bw, .int .i64 bh]] w fun e w' => MetR (meetB (ri ax ay aw ah) (ri bx byy bw bh)) e ∧ Below w.heap.size w w' := by
  obtain ⟨mx, hmx⟩ : ∃ mx, (if ax < bx then bx else ax) = mx := ⟨_, rfl⟩
  obtain ⟨my, hmy⟩ : ∃ my, (if ay < byy then byy else ay) = my := ⟨_, rfl⟩
  obtain ⟨mr, hmr⟩ : ∃ mr, (if bx + bw < ax + aw then bx + bw else ax + aw) = mr := ⟨_, rfl⟩
  obtain ⟨mb, hmb⟩ : ∃ mb, (if byy + bh < ay + ah then byy + bh else ay + ah) = mb := ⟨_, rfl⟩
  have b1 : -200000 ≤ mx ∧ mx ≤ 200000 := by rw [← hmx]; split <;> omega
  have b2 : -200000 ≤ my ∧ my ≤ 200000 := by rw [← hmy]; split <;> omega
  have b3 : -200000 ≤ mr ∧ mr ≤ 400000 := by rw [← hmr]; split <;> omega
  have b4 : -200000 ≤ mb ∧ mb ≤ 400000 := by rw [← hmb]; split <;> omega
  have E := hide (show meetB (ri ax ay aw ah) (ri bx byy bw bh) = (decide (0 < mr - mx) && decide (0 < mb - my)) by
    unfold meetB
    rw [show metI (ri ax ay aw ah).x (ri ax ay aw ah).w (ri bx byy bw bh).x (ri bx byy bw bh).w = mr - mx by rw [← hmr, ← hmx]; rfl, show metI (ri ax ay aw ah).y (ri ax ay aw ah).h (ri bx byy bw bh).y (ri bx byy bw bh).h = mb - my by rw [← hmb, ← hmy]; rfl])
  have D := hide (show Below w.heap.size w (((w.alloc (.cells #[.int .i64 ax, .int .i64 ay, .int .i64 aw, .int .i64 ah] 30)).alloc (.cells #[.int .i64 bx, .int .i64 byy, .int .i64 bw, .int .i64 bh] 30)).alloc (.cells #[.int .i64 mx, .int .i64 my, .int .i64 (mr - mx), .int .i64 (mb - my)] 30)) from (((Below.refl _ _).alloc (Nat.le_refl _) _).alloc (by simp) _).alloc (by simp; omega) _)
  by_cases k1 : 0 < mr - mx
  · by_cases k2 : 0 < mb - my
    · have m1 : mx < mr := by omega
      have m1d : decide (mx < mr) = true := by simp; omega
      have m2 : my < mb := by omega
      have m2d : decide (my < mb) = true := by simp; omega
      have E2 := hide (show meetB (ri ax ay aw ah) (ri bx byy bw bh) = true by rw [E.out]; simp; omega)
      go_enter Try.func16, Try.ntmps16
      go_wp2
      exact bodyPost_ret (v := .tuple #[.agg #[.int .i64 mx, .int .i64 my, .int .i64 (mr - mx), .int .i64 (mb - my)], .bool true]) (by simp [results, Try.results16, go_sem]; try omega) rfl ⟨by rw [E2.out]; exact ⟨_, _, _, _, rfl⟩, D.out⟩
    · have m1 : mx < mr := by omega
      have m1d : decide (mx < mr) = true := by simp; omega
      have m2 : ¬ my < mb := by omega
      have m2n : mb ≤ my := by omega
      have m2d : decide (my < mb) = false := by simp; omega
      have E2 := hide (show meetB (ri ax ay aw ah) (ri bx byy bw bh) = false by rw [E.out]; simp; omega)
      go_enter Try.func16, Try.ntmps16
      go_wp2
      exact bodyPost_ret (v := .tuple #[.agg #[.int .i64 mx, .int .i64 my, .int .i64 (mr - mx), .int .i64 (mb - my)], .bool false]) (by simp [results, Try.results16, go_sem]; try omega) rfl ⟨by rw [E2.out]; exact ⟨_, _, _, _, rfl⟩, D.out⟩
  · have m1 : ¬ mx < mr := by omega
    have m1n : mr ≤ mx := by omega
    have m1d : decide (mx < mr) = false := by simp; omega
    have E2 := hide (show meetB (ri ax ay aw ah) (ri bx byy bw bh) = false by rw [E.out]; simp; omega)
    go_enter Try.func16, Try.ntmps16
    go_wp2
    exact bodyPost_ret (v := .tuple #[.agg #[.int .i64 mx, .int .i64 my, .int .i64 (mr - mx), .int .i64 (mb - my)], .bool false]) (by simp [results, Try.results16, go_sem]; try omega) rfl ⟨by rw [E2.out]; exact ⟨_, _, _, _, rfl⟩, D.out⟩
set_option maxHeartbeats 4000000 in
theorem implMeet_any (ax ay aw ah bx byy bw bh : Int) (w : World) (hax : -200000 ≤ ax ∧ ax ≤ 200000) (hay : -200000 ≤ ay ∧ ay ≤ 200000) (haw : 0 ≤ aw ∧ aw ≤ 200000) (hah : 0 ≤ ah ∧ ah ≤ 200000) (hbx : -200000 ≤ bx ∧ bx ≤ 200000) (hbyy : -200000 ≤ byy ∧ byy ≤ 200000) (hbw : 0 ≤ bw ∧ bw ≤ 200000) (hbh : 0 ≤ bh ∧ bh ≤ 200000) :
    Calls Try.prog 33 #[.agg #[.int .i64 ax, .int .i64 ay, .int .i64 aw, .int .i64 ah], .agg #[.int .i64 bx, .int .i64 byy, .int .i64 bw, .int .i64 bh]] w fun e w' => MetR (meetB (ri ax ay aw ah) (ri bx byy bw bh)) e ∧ Below w.heap.size w w' := by
  obtain ⟨mx, hmx⟩ : ∃ mx, (if ax < bx then bx else ax) = mx := ⟨_, rfl⟩
  obtain ⟨my, hmy⟩ : ∃ my, (if ay < byy then byy else ay) = my := ⟨_, rfl⟩
  obtain ⟨mr, hmr⟩ : ∃ mr, (if bx + bw < ax + aw then bx + bw else ax + aw) = mr := ⟨_, rfl⟩
  obtain ⟨mb, hmb⟩ : ∃ mb, (if byy + bh < ay + ah then byy + bh else ay + ah) = mb := ⟨_, rfl⟩
  have b1 : -200000 ≤ mx ∧ mx ≤ 200000 := by rw [← hmx]; split <;> omega
  have b2 : -200000 ≤ my ∧ my ≤ 200000 := by rw [← hmy]; split <;> omega
  have b3 : -200000 ≤ mr ∧ mr ≤ 400000 := by rw [← hmr]; split <;> omega
  have b4 : -200000 ≤ mb ∧ mb ≤ 400000 := by rw [← hmb]; split <;> omega
  have E := hide (show meetB (ri ax ay aw ah) (ri bx byy bw bh) = (decide (0 < mr - mx) && decide (0 < mb - my)) by
    unfold meetB
    rw [show metI (ri ax ay aw ah).x (ri ax ay aw ah).w (ri bx byy bw bh).x (ri bx byy bw bh).w = mr - mx by rw [← hmr, ← hmx]; rfl, show metI (ri ax ay aw ah).y (ri ax ay aw ah).h (ri bx byy bw bh).y (ri bx byy bw bh).h = mb - my by rw [← hmb, ← hmy]; rfl])
  have HB := hide (show Below w.heap.size w (((w.alloc (.cells #[.int .i64 ax, .int .i64 ay, .int .i64 aw, .int .i64 ah] 30)).alloc (.cells #[.int .i64 bx, .int .i64 byy, .int .i64 bw, .int .i64 bh] 30)).alloc (.cells #[.int .i64 0, .int .i64 0, .int .i64 0, .int .i64 0] 30)) from (((Below.refl _ _).alloc (Nat.le_refl _) _).alloc (by simp) _).alloc (by simp; omega) _)
  by_cases k1 : 0 < mr - mx
  · by_cases k2 : 0 < mb - my
    · have m1 : mx < mr := by omega
      have m1d : decide (mx < mr) = true := by simp; omega
      have m2 : my < mb := by omega
      have m2d : decide (my < mb) = true := by simp; omega
      have E2 := hide (show meetB (ri ax ay aw ah) (ri bx byy bw bh) = true by rw [E.out]; simp; omega)
      go_enter Try.func33, Try.ntmps33
      go_wp2_with fail
      refine (between_any mx my mr mb _ (by omega) (by omega) (by omega) (by omega)).mono ?_
      rintro e w1 ⟨rfl, hb⟩
      have HB1 := hide (HB.out.trans (hb.mono (by simp; omega)))
      have r1 := (hb.block (w.heap.size + 1 + 1) (by simp)).trans (show (((w.alloc (.cells #[.int .i64 ax, .int .i64 ay, .int .i64 aw, .int .i64 ah] 30)).alloc (.cells #[.int .i64 bx, .int .i64 byy, .int .i64 bw, .int .i64 bh] 30)).alloc (.cells #[.int .i64 0, .int .i64 0, .int .i64 0, .int .i64 0] 30)).heap[w.heap.size + 1 + 1]? = some (.cells #[.int .i64 0, .int .i64 0, .int .i64 0, .int .i64 0] 30 (0, 0)) from by have h := heap_alloc_new ((w.alloc (.cells #[.int .i64 ax, .int .i64 ay, .int .i64 aw, .int .i64 ah] 30)).alloc (.cells #[.int .i64 bx, .int .i64 byy, .int .i64 bw, .int .i64 bh] 30)) (.cells #[.int .i64 0, .int .i64 0, .int .i64 0, .int .i64 0] 30); simp only [World.size_alloc] at h; exact h)
      have hz1 := HB1.out.size
      have hz2 : w.heap.size + 1 + 1 < w1.heap.size := (Array.getElem?_eq_some_iff.1 r1).1
      have c0 : w1.cell? ⟨w.heap.size + 1 + 1, 0, none⟩ = some (.int .i64 0) := by rw [cell_of_row _ _ 0 _ _ (0, 0) r1]; rfl
      have c1 : w1.cell? ⟨w.heap.size + 1 + 1, 1, none⟩ = some (.int .i64 0) := by rw [cell_of_row _ _ 1 _ _ (0, 0) r1]; rfl
      have c2 : w1.cell? ⟨w.heap.size + 1 + 1, 2, none⟩ = some (.int .i64 0) := by rw [cell_of_row _ _ 2 _ _ (0, 0) r1]; rfl
      have c3 : w1.cell? ⟨w.heap.size + 1 + 1, 3, none⟩ = some (.int .i64 0) := by rw [cell_of_row _ _ 3 _ _ (0, 0) r1]; rfl
      have f0 : w1.frozen? ⟨w.heap.size + 1 + 1, 0, none⟩ = false := by simp [World.frozen?, r1]
      have f1 : w1.frozen? ⟨w.heap.size + 1 + 1, 1, none⟩ = false := by simp [World.frozen?, r1]
      have f2 : w1.frozen? ⟨w.heap.size + 1 + 1, 2, none⟩ = false := by simp [World.frozen?, r1]
      have f3 : w1.frozen? ⟨w.heap.size + 1 + 1, 3, none⟩ = false := by simp [World.frozen?, r1]
      clear hb HB
      have D4 := hide (set4_cells r1 (.int .i64 mx) (.int .i64 my) (.int .i64 (mr - mx)) (.int .i64 (mb - my)) (.cells #[.int .i64 mx, .int .i64 my, .int .i64 (mr - mx), .int .i64 (mb - my)] 30))
      go_wp2
      go_region
      go_wp2
      exact bodyPost_ret (v := .tuple #[.agg #[.int .i64 mx, .int .i64 my, .int .i64 (mr - mx), .int .i64 (mb - my)], .bool true]) (by simp [results, Try.results33, go_sem, D4.out.1, D4.out.2.1, D4.out.2.2.1, D4.out.2.2.2]; try omega) rfl ⟨by rw [E2.out]; exact ⟨_, _, _, _, rfl⟩, (set4_below HB1.out (by omega) hz1 _ _ _ _ _).drew⟩
    · have m1 : mx < mr := by omega
      have m1d : decide (mx < mr) = true := by simp; omega
      have m2 : ¬ my < mb := by omega
      have m2n : mb ≤ my := by omega
      have m2d : decide (my < mb) = false := by simp; omega
      have E2 := hide (show meetB (ri ax ay aw ah) (ri bx byy bw bh) = false by rw [E.out]; simp; omega)
      go_enter Try.func33, Try.ntmps33
      go_wp2_with fail
      refine (between_any mx my mr mb _ (by omega) (by omega) (by omega) (by omega)).mono ?_
      rintro e w1 ⟨rfl, hb⟩
      have HB1 := hide (HB.out.trans (hb.mono (by simp; omega)))
      have r1 := (hb.block (w.heap.size + 1 + 1) (by simp)).trans (show (((w.alloc (.cells #[.int .i64 ax, .int .i64 ay, .int .i64 aw, .int .i64 ah] 30)).alloc (.cells #[.int .i64 bx, .int .i64 byy, .int .i64 bw, .int .i64 bh] 30)).alloc (.cells #[.int .i64 0, .int .i64 0, .int .i64 0, .int .i64 0] 30)).heap[w.heap.size + 1 + 1]? = some (.cells #[.int .i64 0, .int .i64 0, .int .i64 0, .int .i64 0] 30 (0, 0)) from by have h := heap_alloc_new ((w.alloc (.cells #[.int .i64 ax, .int .i64 ay, .int .i64 aw, .int .i64 ah] 30)).alloc (.cells #[.int .i64 bx, .int .i64 byy, .int .i64 bw, .int .i64 bh] 30)) (.cells #[.int .i64 0, .int .i64 0, .int .i64 0, .int .i64 0] 30); simp only [World.size_alloc] at h; exact h)
      have hz1 := HB1.out.size
      have hz2 : w.heap.size + 1 + 1 < w1.heap.size := (Array.getElem?_eq_some_iff.1 r1).1
      have c0 : w1.cell? ⟨w.heap.size + 1 + 1, 0, none⟩ = some (.int .i64 0) := by rw [cell_of_row _ _ 0 _ _ (0, 0) r1]; rfl
      have c1 : w1.cell? ⟨w.heap.size + 1 + 1, 1, none⟩ = some (.int .i64 0) := by rw [cell_of_row _ _ 1 _ _ (0, 0) r1]; rfl
      have c2 : w1.cell? ⟨w.heap.size + 1 + 1, 2, none⟩ = some (.int .i64 0) := by rw [cell_of_row _ _ 2 _ _ (0, 0) r1]; rfl
      have c3 : w1.cell? ⟨w.heap.size + 1 + 1, 3, none⟩ = some (.int .i64 0) := by rw [cell_of_row _ _ 3 _ _ (0, 0) r1]; rfl
      have f0 : w1.frozen? ⟨w.heap.size + 1 + 1, 0, none⟩ = false := by simp [World.frozen?, r1]
      have f1 : w1.frozen? ⟨w.heap.size + 1 + 1, 1, none⟩ = false := by simp [World.frozen?, r1]
      have f2 : w1.frozen? ⟨w.heap.size + 1 + 1, 2, none⟩ = false := by simp [World.frozen?, r1]
      have f3 : w1.frozen? ⟨w.heap.size + 1 + 1, 3, none⟩ = false := by simp [World.frozen?, r1]
      clear hb HB
      have D4 := hide (set4_cells r1 (.int .i64 mx) (.int .i64 my) (.int .i64 (mr - mx)) (.int .i64 (mb - my)) (.cells #[.int .i64 mx, .int .i64 my, .int .i64 (mr - mx), .int .i64 (mb - my)] 30))
      go_wp2
      go_region
      go_wp2
      exact bodyPost_ret (v := .tuple #[.agg #[.int .i64 mx, .int .i64 my, .int .i64 (mr - mx), .int .i64 (mb - my)], .bool false]) (by simp [results, Try.results33, go_sem, D4.out.1, D4.out.2.1, D4.out.2.2.1, D4.out.2.2.2]; try omega) rfl ⟨by rw [E2.out]; exact ⟨_, _, _, _, rfl⟩, (set4_below HB1.out (by omega) hz1 _ _ _ _ _).drew⟩
  · have m1 : ¬ mx < mr := by omega
    have m1n : mr ≤ mx := by omega
    have m1d : decide (mx < mr) = false := by simp; omega
    have E2 := hide (show meetB (ri ax ay aw ah) (ri bx byy bw bh) = false by rw [E.out]; simp; omega)
    go_enter Try.func33, Try.ntmps33
    go_wp2_with fail
    refine (between_any mx my mr mb _ (by omega) (by omega) (by omega) (by omega)).mono ?_
    rintro e w1 ⟨rfl, hb⟩
    have HB1 := hide (HB.out.trans (hb.mono (by simp; omega)))
    have r1 := (hb.block (w.heap.size + 1 + 1) (by simp)).trans (show (((w.alloc (.cells #[.int .i64 ax, .int .i64 ay, .int .i64 aw, .int .i64 ah] 30)).alloc (.cells #[.int .i64 bx, .int .i64 byy, .int .i64 bw, .int .i64 bh] 30)).alloc (.cells #[.int .i64 0, .int .i64 0, .int .i64 0, .int .i64 0] 30)).heap[w.heap.size + 1 + 1]? = some (.cells #[.int .i64 0, .int .i64 0, .int .i64 0, .int .i64 0] 30 (0, 0)) from by have h := heap_alloc_new ((w.alloc (.cells #[.int .i64 ax, .int .i64 ay, .int .i64 aw, .int .i64 ah] 30)).alloc (.cells #[.int .i64 bx, .int .i64 byy, .int .i64 bw, .int .i64 bh] 30)) (.cells #[.int .i64 0, .int .i64 0, .int .i64 0, .int .i64 0] 30); simp only [World.size_alloc] at h; exact h)
    have hz1 := HB1.out.size
    have hz2 : w.heap.size + 1 + 1 < w1.heap.size := (Array.getElem?_eq_some_iff.1 r1).1
    have c0 : w1.cell? ⟨w.heap.size + 1 + 1, 0, none⟩ = some (.int .i64 0) := by rw [cell_of_row _ _ 0 _ _ (0, 0) r1]; rfl
    have c1 : w1.cell? ⟨w.heap.size + 1 + 1, 1, none⟩ = some (.int .i64 0) := by rw [cell_of_row _ _ 1 _ _ (0, 0) r1]; rfl
    have c2 : w1.cell? ⟨w.heap.size + 1 + 1, 2, none⟩ = some (.int .i64 0) := by rw [cell_of_row _ _ 2 _ _ (0, 0) r1]; rfl
    have c3 : w1.cell? ⟨w.heap.size + 1 + 1, 3, none⟩ = some (.int .i64 0) := by rw [cell_of_row _ _ 3 _ _ (0, 0) r1]; rfl
    have f0 : w1.frozen? ⟨w.heap.size + 1 + 1, 0, none⟩ = false := by simp [World.frozen?, r1]
    have f1 : w1.frozen? ⟨w.heap.size + 1 + 1, 1, none⟩ = false := by simp [World.frozen?, r1]
    have f2 : w1.frozen? ⟨w.heap.size + 1 + 1, 2, none⟩ = false := by simp [World.frozen?, r1]
    have f3 : w1.frozen? ⟨w.heap.size + 1 + 1, 3, none⟩ = false := by simp [World.frozen?, r1]
    clear hb HB
    have D4 := hide (set4_cells r1 (.int .i64 mx) (.int .i64 my) (.int .i64 (mr - mx)) (.int .i64 (mb - my)) (.cells #[.int .i64 mx, .int .i64 my, .int .i64 (mr - mx), .int .i64 (mb - my)] 30))
    go_wp2
    go_region
    go_wp2
    exact bodyPost_ret (v := .tuple #[.agg #[.int .i64 mx, .int .i64 my, .int .i64 (mr - mx), .int .i64 (mb - my)], .bool false]) (by simp [results, Try.results33, go_sem, D4.out.1, D4.out.2.1, D4.out.2.2.1, D4.out.2.2.2]; try omega) rfl ⟨by rw [E2.out]; exact ⟨_, _, _, _, rfl⟩, (set4_below HB1.out (by omega) hz1 _ _ _ _ _).drew⟩
end Go.Proofs.Ythgliihdaockoaa
