/- Buffers in the laws: sized, copied in, compared, marked, held. Conditions: none. -/
import Derived.Test.YtjaagekckbjhdaaBufRead
namespace Go.Proofs.Ytjaagekckbjhdaa
open Go.RowKit
set_option linter.unusedVariables false

def szS (left : Int) (n : Nat) : Int := if (n : Int) ≤ left then left - n else -1
theorem szIntS_any (A : Option Addr) (n c : Nat) (left : Int) (w : World) (hn : n ≤ 9223372036854775807) (hl : 0 ≤ left ∧ left ≤ 1048576) :
    Calls Try.prog 29 #[.slice A n c, .int .i64 left] w fun e w' => e = .returned (.int .i64 (szS left n)) ∧ w = w' := by
  obtain ⟨_, _⟩ := hl
  by_cases h : (n : Int) ≤ left
  · have hs := hide (show szS left n = left - n from if_pos h)
    go_enter Try.func29, Try.ntmps29
    go_wp2
    go_ret
    exact ⟨ret_int hs.out.symm, rfl⟩
  · have hs := hide (show szS left n = -1 from if_neg h)
    go_enter Try.func29, Try.ntmps29
    go_wp2
    go_ret
    exact ⟨ret_int hs.out.symm, rfl⟩
def szB (n m : Nat) : Int := if n + m ≤ 1048576 then 1048576 - n - m else -1
theorem szBuffers_any (A : Option Addr) (n c : Nat) (B : Option Addr) (m d : Nat) (v : Int) (w : World) (hn : n ≤ 9223372036854775807) (hm : m ≤ 9223372036854775807) :
    Calls Try.prog 9 #[.agg #[.slice A n c, .slice B m d, .int .i64 v], .int .i64 1048576] w fun e w' => e = .returned (.int .i64 (szB n m)) ∧ Below w.heap.size w w' := by
  have hb0 := hide (((Below.refl w.heap.size w).alloc (Nat.le_refl _) (.cells #[.slice A n c, .slice B m d, .int .i64 v] 24)))
  by_cases h : n ≤ 1048576
  · have e1 : szS 1048576 n = 1048576 - n := if_pos (by omega)
    by_cases h2 : n + m ≤ 1048576
    · have e2 : szS (1048576 - n) m = 1048576 - n - m := if_pos (by omega)
      have hs := hide (show szB n m = 1048576 - n - m from if_pos h2)
      go_enter Try.func9, Try.ntmps9
      go_wp2_with fail
      refine (szIntS_any A n c _ _ hn (by omega)).mono ?_
      rintro e w' ⟨rfl, rfl⟩
      go_wp2_with fail
      refine (szIntS_any B m d _ _ hm (by omega)).mono ?_
      rintro e w' ⟨rfl, rfl⟩
      go_wp2
      go_ret
      exact ⟨ret_int hs.out.symm, hb0.out⟩
    · have e2 : szS (1048576 - n) m = -1 := if_neg (by omega)
      have hs := hide (show szB n m = -1 from if_neg h2)
      go_enter Try.func9, Try.ntmps9
      go_wp2_with fail
      refine (szIntS_any A n c _ _ hn (by omega)).mono ?_
      rintro e w' ⟨rfl, rfl⟩
      go_wp2_with fail
      refine (szIntS_any B m d _ _ hm (by omega)).mono ?_
      rintro e w' ⟨rfl, rfl⟩
      go_wp2
      go_ret
      exact ⟨ret_int hs.out.symm, hb0.out⟩
  · have e1 : szS 1048576 n = -1 := if_neg (by omega)
    have hs := hide (show szB n m = -1 from if_neg (by omega))
    go_enter Try.func9, Try.ntmps9
    go_wp2_with fail
    refine (szIntS_any A n c _ _ hn (by omega)).mono ?_
    rintro e w' ⟨rfl, rfl⟩
    go_wp2
    go_ret
    exact ⟨ret_int hs.out.symm, hb0.out⟩
def ToB (xs ys : List Int) (v : Int) (w : World) (e : Ending) (w' : World) : Prop :=
  ∃ A n c B m d, e = .returned (.agg #[.slice A n c, .slice B m d, .int .i64 v]) ∧ TwoNew xs ys w w' A n c B m d
set_option maxHeartbeats 3200000 in
theorem toBuffers_any (K : Nat) (A : Option Addr) (n c : Nat) (B : Option Addr) (m d : Nat) (xs ys : List Int) (v : Int) (w : World) (hA : Ints .i64 w K A n xs) (hB : Ints .i64 w K B m ys) (hK : K ≤ w.heap.size) (hn : n ≤ 1048576) (hm : m ≤ 1048576) :
    Calls Try.prog 11 #[.agg #[.slice A n c, .slice B m d, .int .i64 v]] w (ToB xs ys v w) := by
  have hb0 := hide ((((Below.refl w.heap.size w).alloc (Nat.le_refl _) (.cells #[.slice A n c, .slice B m d, .int .i64 v] 24)).alloc (by simp) (.cells #[.slice none 0 0, .slice none 0 0, .int .i64 0] 27)).alloc (by simp; omega) (.cells #[.slice none 0 0, .slice none 0 0, .int .i64 0] 27))
  have HA := hide (hA.below hb0.out hK)
  have HB := hide (hB.below hb0.out hK)
  clear hA hB
  go_enter Try.func11, Try.ntmps11
  go_wp2_with fail
  refine (toIntS_any A n c xs _ (HA.out.more (by simp; omega)) hn).mono ?_
  rintro e w1 ⟨A1, n1, c1, rfl, k1, k2, hr1, hb1⟩
  have sa0 := hb1.cell (p := ⟨w.heap.size, 0, none⟩) (by simp; omega)
  have sa1 := hb1.cell (p := ⟨w.heap.size, 1, none⟩) (by simp; omega)
  have sa2 := hb1.cell (p := ⟨w.heap.size, 2, none⟩) (by simp; omega)
  have sb0 := hb1.cell (p := ⟨w.heap.size + 1, 0, none⟩) (by simp)
  have sfb0 := hb1.frozen (p := ⟨w.heap.size + 1, 0, none⟩) (by simp)
  have sb1 := hb1.cell (p := ⟨w.heap.size + 1, 1, none⟩) (by simp)
  have sfb1 := hb1.frozen (p := ⟨w.heap.size + 1, 1, none⟩) (by simp)
  have sb2 := hb1.cell (p := ⟨w.heap.size + 1, 2, none⟩) (by simp)
  have sfb2 := hb1.frozen (p := ⟨w.heap.size + 1, 2, none⟩) (by simp)
  have sc0 := hb1.cell (p := ⟨w.heap.size + 2, 0, none⟩) (by simp)
  have sfc0 := hb1.frozen (p := ⟨w.heap.size + 2, 0, none⟩) (by simp)
  have sc1 := hb1.cell (p := ⟨w.heap.size + 2, 1, none⟩) (by simp)
  have sfc1 := hb1.frozen (p := ⟨w.heap.size + 2, 1, none⟩) (by simp)
  have sc2 := hb1.cell (p := ⟨w.heap.size + 2, 2, none⟩) (by simp)
  have sfc2 := hb1.frozen (p := ⟨w.heap.size + 2, 2, none⟩) (by simp)
  have hz1 : w.heap.size + 3 ≤ w1.heap.size := by have := hb1.size; simpa using this
  go_wp2_with fail
  have hs1 : Only (w.heap.size + 2) (w.heap.size + 3) w1 (w1.setCell ⟨w.heap.size + 2, 0, none⟩ (.slice A1 n1 c1)) := (Only.refl _ _ _).set (by omega) (by omega) _
  have HB1 := (HB.out.below hb1 (by simp; omega)).below (hs1.below (B := w.heap.size) (by omega) (by omega)) (by omega)
  refine (toIntS_any B m d ys _ (HB1.more (by simp [World.setCell]; omega)) hm).mono ?_
  rintro e w2 ⟨B1, m1, d1, rfl, k3, k4, hr2, hb2⟩
  have ua0 := hb2.cell (p := ⟨w.heap.size, 0, none⟩) (by show w.heap.size < (w1.setCell _ _).heap.size; simp [World.setCell]; omega)
  have ua1 := hb2.cell (p := ⟨w.heap.size, 1, none⟩) (by show w.heap.size < (w1.setCell _ _).heap.size; simp [World.setCell]; omega)
  have ua2 := hb2.cell (p := ⟨w.heap.size, 2, none⟩) (by show w.heap.size < (w1.setCell _ _).heap.size; simp [World.setCell]; omega)
  have ub0 := hb2.cell (p := ⟨w.heap.size + 1, 0, none⟩) (by show w.heap.size + 1 < (w1.setCell _ _).heap.size; simp [World.setCell]; omega)
  have ufb0 := hb2.frozen (p := ⟨w.heap.size + 1, 0, none⟩) (by show w.heap.size + 1 < (w1.setCell _ _).heap.size; simp [World.setCell]; omega)
  have ub1 := hb2.cell (p := ⟨w.heap.size + 1, 1, none⟩) (by show w.heap.size + 1 < (w1.setCell _ _).heap.size; simp [World.setCell]; omega)
  have ufb1 := hb2.frozen (p := ⟨w.heap.size + 1, 1, none⟩) (by show w.heap.size + 1 < (w1.setCell _ _).heap.size; simp [World.setCell]; omega)
  have ub2 := hb2.cell (p := ⟨w.heap.size + 1, 2, none⟩) (by show w.heap.size + 1 < (w1.setCell _ _).heap.size; simp [World.setCell]; omega)
  have ufb2 := hb2.frozen (p := ⟨w.heap.size + 1, 2, none⟩) (by show w.heap.size + 1 < (w1.setCell _ _).heap.size; simp [World.setCell]; omega)
  have uc0 := hb2.cell (p := ⟨w.heap.size + 2, 0, none⟩) (by show w.heap.size + 2 < (w1.setCell _ _).heap.size; simp [World.setCell]; omega)
  have ufc0 := hb2.frozen (p := ⟨w.heap.size + 2, 0, none⟩) (by show w.heap.size + 2 < (w1.setCell _ _).heap.size; simp [World.setCell]; omega)
  have uc1 := hb2.cell (p := ⟨w.heap.size + 2, 1, none⟩) (by show w.heap.size + 2 < (w1.setCell _ _).heap.size; simp [World.setCell]; omega)
  have ufc1 := hb2.frozen (p := ⟨w.heap.size + 2, 1, none⟩) (by show w.heap.size + 2 < (w1.setCell _ _).heap.size; simp [World.setCell]; omega)
  have uc2 := hb2.cell (p := ⟨w.heap.size + 2, 2, none⟩) (by show w.heap.size + 2 < (w1.setCell _ _).heap.size; simp [World.setCell]; omega)
  have ufc2 := hb2.frozen (p := ⟨w.heap.size + 2, 2, none⟩) (by show w.heap.size + 2 < (w1.setCell _ _).heap.size; simp [World.setCell]; omega)
  have hz2 : w1.heap.size ≤ w2.heap.size := by have := hb2.size; simpa [World.setCell] using this
  have D := hide (show ∀ w3, Only w.heap.size (w.heap.size + 3) w2 w3 → w3.heap.size = w2.heap.size → ToB xs ys v w (.returned (.agg #[.slice A1 n1 c1, .slice B1 m1 d1, .int .i64 v])) w3 from fun w3 ho hs => by
    have hsz : (w1.setCell ⟨w.heap.size + 2, 0, none⟩ (.slice A1 n1 c1)).heap.size = w1.heap.size := by simp [World.setCell]
    have h1 := (((hr1.far hs1 (.inr (by simp))).belowS hb2).far ho (.inr (by simp)))
    have h2 := hr2.far ho (.inr (by rw [hsz]; omega))
    have hbw := ((hb0.out.trans (hb1.mono (by simp; omega))).trans (hs1.below (B := w.heap.size) (by omega) (by omega))).trans (hb2.mono (by rw [hsz]; omega))
    exact ⟨_, _, _, _, _, _, rfl, k1, k2, k3, k4, hbw.trans (ho.below (Nat.le_refl _) (by omega)), w1.heap.size, by omega, by omega, h1.mono (by simp; omega) (Nat.le_refl _), h2.mono (by rw [hsz]; exact Nat.le_refl _) (by omega)⟩)
  clear hb1 hb2 hr1 hr2 hs1 HB1 HA HB hb0
  go_wp2
  refine bodyPost_ret (v := .agg #[.slice A1 n1 c1, .slice B1 m1 d1, .int .i64 v]) (by simp [results, Try.results11, go_sem, ub0, ub1, ub2, sb0, sb1, sb2]) rfl (D.out _ ?_ ?_)
  · exact (((((Only.refl _ _ _).set (by omega) (by omega) _).set (by omega) (by omega) _).set (by omega) (by omega) _).set (by omega) (by omega) _).set (by omega) (by omega) _
  · simp [World.setCell]

def bufEq (xs ys : List Int) (v : Int) (xs' ys' : List Int) (v' : Int) : Bool := listEq xs xs' && (listEq ys ys' && decide (v = v'))
theorem bufEq_self (xs ys : List Int) (v : Int) : bufEq xs ys v xs ys v = true := by simp [bufEq, listEq]

set_option maxHeartbeats 1000000 in
theorem eqBuffers_any (K1 K2 : Nat) (A : Option Addr) (n c : Nat) (B : Option Addr) (m d : Nat) (A' : Option Addr) (n' c' : Nat) (B' : Option Addr) (m' d' : Nat) (xs ys xs' ys' : List Int) (v v' : Int) (w : World)
    (hA : Ints .i64 w K1 A n xs) (hB : Ints .i64 w K1 B m ys) (hA' : Ints .i64 w K2 A' n' xs') (hB' : Ints .i64 w K2 B' m' ys') (hK1 : K1 ≤ w.heap.size) (hK2 : K2 ≤ w.heap.size) (hn : n ≤ 9223372036854775807) (hm : m ≤ 9223372036854775807) (hn' : n' ≤ 9223372036854775807) (hm' : m' ≤ 9223372036854775807) :
    Calls Try.prog 13 #[.agg #[.slice A n c, .slice B m d, .int .i64 v], .agg #[.slice A' n' c', .slice B' m' d', .int .i64 v']] w fun e w' => e = .returned (.bool (bufEq xs ys v xs' ys' v')) ∧ Below w.heap.size w w' := by
  have hb0 := hide ((((Below.refl w.heap.size w).alloc (Nat.le_refl _) (.cells #[.slice A n c, .slice B m d, .int .i64 v] 27)).alloc (by simp) (.cells #[.slice A' n' c', .slice B' m' d', .int .i64 v'] 27)))
  have HA := hide (hA.below hb0.out hK1)
  have HB := hide (hB.below hb0.out hK1)
  have HA' := hide (hA'.below hb0.out hK2)
  have HB' := hide (hB'.below hb0.out hK2)
  clear hA hB hA' hB'
  cases h1 : listEq xs xs'
  case false =>
    have D := hide (show bufEq xs ys v xs' ys' v' = false by simp [bufEq, h1])
    go_enter Try.func13, Try.ntmps13
    go_wp2_with fail
    refine (eqIntS_any K1 K2 A A' n n' c c' xs xs' _ HA.out HA'.out hn hn').mono ?_
    rintro e w1 ⟨rfl, hb⟩
    have HZ := hide (hb0.out.trans (hb.mono (by simp; omega)))
    clear hb
    go_wp2
    go_ret
    exact ⟨ret_bool D.out.symm, HZ.out⟩
  case true =>
    have common : True := trivial
    cases h2 : listEq ys ys'
    case false =>
      have D := hide (show bufEq xs ys v xs' ys' v' = false by simp [bufEq, h2])
      go_enter Try.func13, Try.ntmps13
      go_wp2_with fail
      refine (eqIntS_any K1 K2 A A' n n' c c' xs xs' _ HA.out HA'.out hn hn').mono ?_
      rintro e w1 ⟨rfl, hb⟩
      have hz1 : w.heap.size + 2 ≤ w1.heap.size := by have := hb.size; simpa using this
      have sa0 := hb.cell (p := ⟨w.heap.size, 0, none⟩) (by simp; omega)
      have sa1 := hb.cell (p := ⟨w.heap.size, 1, none⟩) (by simp; omega)
      have sa2 := hb.cell (p := ⟨w.heap.size, 2, none⟩) (by simp; omega)
      have sb0 := hb.cell (p := ⟨w.heap.size + 1, 0, none⟩) (by simp)
      have sb1 := hb.cell (p := ⟨w.heap.size + 1, 1, none⟩) (by simp)
      have sb2 := hb.cell (p := ⟨w.heap.size + 1, 2, none⟩) (by simp)
      have HZ := hide (hb0.out.trans (hb.mono (by simp; omega)))
      have G1 := hide (HB.out.below hb (by simp; omega))
      have G2 := hide (HB'.out.below hb (by simp; omega))
      clear hb
      go_wp2_with fail
      refine (eqIntS_any K1 K2 B B' m m' d d' ys ys' _ G1.out G2.out hm hm').mono ?_
      rintro e w2 ⟨rfl, hb2⟩
      have ta0 := hb2.cell (p := ⟨w.heap.size, 0, none⟩) (by show w.heap.size < w1.heap.size; omega)
      have ta1 := hb2.cell (p := ⟨w.heap.size, 1, none⟩) (by show w.heap.size < w1.heap.size; omega)
      have ta2 := hb2.cell (p := ⟨w.heap.size, 2, none⟩) (by show w.heap.size < w1.heap.size; omega)
      have tb0 := hb2.cell (p := ⟨w.heap.size + 1, 0, none⟩) (by show w.heap.size + 1 < w1.heap.size; omega)
      have tb1 := hb2.cell (p := ⟨w.heap.size + 1, 1, none⟩) (by show w.heap.size + 1 < w1.heap.size; omega)
      have tb2 := hb2.cell (p := ⟨w.heap.size + 1, 2, none⟩) (by show w.heap.size + 1 < w1.heap.size; omega)
      have HZ2 := hide (HZ.out.trans (hb2.mono (by omega)))
      clear hb2
      go_wp2
      go_ret
      exact ⟨ret_bool D.out.symm, HZ2.out⟩
    case true =>
      by_cases hv : v = v'
      case pos =>
        subst hv
        have D := hide (show bufEq xs ys v xs' ys' v = true by simp [bufEq, h1, h2])
        go_enter Try.func13, Try.ntmps13
        go_wp2_with fail
        refine (eqIntS_any K1 K2 A A' n n' c c' xs xs' _ HA.out HA'.out hn hn').mono ?_
        rintro e w1 ⟨rfl, hb⟩
        have hz1 : w.heap.size + 2 ≤ w1.heap.size := by have := hb.size; simpa using this
        have sa0 := hb.cell (p := ⟨w.heap.size, 0, none⟩) (by simp; omega)
        have sa1 := hb.cell (p := ⟨w.heap.size, 1, none⟩) (by simp; omega)
        have sa2 := hb.cell (p := ⟨w.heap.size, 2, none⟩) (by simp; omega)
        have sb0 := hb.cell (p := ⟨w.heap.size + 1, 0, none⟩) (by simp)
        have sb1 := hb.cell (p := ⟨w.heap.size + 1, 1, none⟩) (by simp)
        have sb2 := hb.cell (p := ⟨w.heap.size + 1, 2, none⟩) (by simp)
        have HZ := hide (hb0.out.trans (hb.mono (by simp; omega)))
        have G1 := hide (HB.out.below hb (by simp; omega))
        have G2 := hide (HB'.out.below hb (by simp; omega))
        clear hb
        go_wp2_with fail
        refine (eqIntS_any K1 K2 B B' m m' d d' ys ys' _ G1.out G2.out hm hm').mono ?_
        rintro e w2 ⟨rfl, hb2⟩
        have ta0 := hb2.cell (p := ⟨w.heap.size, 0, none⟩) (by show w.heap.size < w1.heap.size; omega)
        have ta1 := hb2.cell (p := ⟨w.heap.size, 1, none⟩) (by show w.heap.size < w1.heap.size; omega)
        have ta2 := hb2.cell (p := ⟨w.heap.size, 2, none⟩) (by show w.heap.size < w1.heap.size; omega)
        have tb0 := hb2.cell (p := ⟨w.heap.size + 1, 0, none⟩) (by show w.heap.size + 1 < w1.heap.size; omega)
        have tb1 := hb2.cell (p := ⟨w.heap.size + 1, 1, none⟩) (by show w.heap.size + 1 < w1.heap.size; omega)
        have tb2 := hb2.cell (p := ⟨w.heap.size + 1, 2, none⟩) (by show w.heap.size + 1 < w1.heap.size; omega)
        have HZ2 := hide (HZ.out.trans (hb2.mono (by omega)))
        clear hb2
        go_wp2
        go_ret
        exact ⟨ret_bool D.out.symm, HZ2.out⟩
      case neg =>
        have D := hide (show bufEq xs ys v xs' ys' v' = false by simp [bufEq, hv])
        have f1 : (v == v') = false := by simpa using hv
        have f2 : (v != v') = true := by simpa using hv
        go_enter Try.func13, Try.ntmps13
        go_wp2_with fail
        refine (eqIntS_any K1 K2 A A' n n' c c' xs xs' _ HA.out HA'.out hn hn').mono ?_
        rintro e w1 ⟨rfl, hb⟩
        have hz1 : w.heap.size + 2 ≤ w1.heap.size := by have := hb.size; simpa using this
        have sa0 := hb.cell (p := ⟨w.heap.size, 0, none⟩) (by simp; omega)
        have sa1 := hb.cell (p := ⟨w.heap.size, 1, none⟩) (by simp; omega)
        have sa2 := hb.cell (p := ⟨w.heap.size, 2, none⟩) (by simp; omega)
        have sb0 := hb.cell (p := ⟨w.heap.size + 1, 0, none⟩) (by simp)
        have sb1 := hb.cell (p := ⟨w.heap.size + 1, 1, none⟩) (by simp)
        have sb2 := hb.cell (p := ⟨w.heap.size + 1, 2, none⟩) (by simp)
        have HZ := hide (hb0.out.trans (hb.mono (by simp; omega)))
        have G1 := hide (HB.out.below hb (by simp; omega))
        have G2 := hide (HB'.out.below hb (by simp; omega))
        clear hb
        go_wp2_with fail
        refine (eqIntS_any K1 K2 B B' m m' d d' ys ys' _ G1.out G2.out hm hm').mono ?_
        rintro e w2 ⟨rfl, hb2⟩
        have ta0 := hb2.cell (p := ⟨w.heap.size, 0, none⟩) (by show w.heap.size < w1.heap.size; omega)
        have ta1 := hb2.cell (p := ⟨w.heap.size, 1, none⟩) (by show w.heap.size < w1.heap.size; omega)
        have ta2 := hb2.cell (p := ⟨w.heap.size, 2, none⟩) (by show w.heap.size < w1.heap.size; omega)
        have tb0 := hb2.cell (p := ⟨w.heap.size + 1, 0, none⟩) (by show w.heap.size + 1 < w1.heap.size; omega)
        have tb1 := hb2.cell (p := ⟨w.heap.size + 1, 1, none⟩) (by show w.heap.size + 1 < w1.heap.size; omega)
        have tb2 := hb2.cell (p := ⟨w.heap.size + 1, 2, none⟩) (by show w.heap.size + 1 < w1.heap.size; omega)
        have HZ2 := hide (HZ.out.trans (hb2.mono (by omega)))
        clear hb2
        go_wp2
        go_ret
        exact ⟨ret_bool D.out.symm, HZ2.out⟩


/-- both lists have been written over -/
def MarkedB (lo mid hi : Nat) (A : Option Addr) (n : Nat) (B : Option Addr) (m : Nat) (k : Int) (w : World) (e : Ending) (w' : World) : Prop :=
  e = .returned (.int .i64 (k + n + m)) ∧ Row 3 w' lo mid A n (marks k n) ∧ Row 3 w' mid hi B m (marks (k + n) m) ∧ Only lo hi w w'
set_option maxHeartbeats 1000000 in
theorem markBuffers_any (lo mid hi : Nat) (A : Option Addr) (n c : Nat) (B : Option Addr) (m d : Nat) (xs ys : List Int) (v k0 : Int) (w : World) (hA : Row 3 w lo mid A n xs) (hB : Row 3 w mid hi B m ys) (hlm : lo ≤ mid) (hmh : mid ≤ hi) (hhi : hi ≤ w.heap.size)
    (hn : n ≤ 2097152) (hm : m ≤ 2097152) (hk : 0 ≤ k0 ∧ k0 ≤ 4194304) :
    Calls Try.prog 22 #[.agg #[.slice A n c, .slice B m d, .int .i64 v], .int .i64 k0] w (MarkedB lo mid hi A n B m k0 w) := by
  have hb0 := hide (((Below.refl w.heap.size w).alloc (Nat.le_refl _) (.cells #[.slice A n c, .slice B m d, .int .i64 v] 27)))
  have HA := hide (hA.belowS hb0.out)
  have HB := hide (hB.belowS hb0.out)
  clear hA hB
  go_enter Try.func22, Try.ntmps22
  go_wp2_with fail
  refine (markIntS_any _ lo mid A n c xs k0 _ HA.out (by omega) (by omega)).mono ?_
  rintro e w1 ⟨rfl, hr1, ho1⟩
  have s1 : w1.cell? ⟨w.heap.size, 1, none⟩ = some (.slice B m d) := (World.cell?_of_block (w := w.alloc _) (a := ⟨w.heap.size, 1, none⟩) (ho1.block w.heap.size (by simp) (.inr (by omega)))).trans (by simp)
  have H1 := hide (HB.out.far ho1 (.inr (Nat.le_refl _)))
  go_wp2_with fail
  refine (markIntS_any _ mid hi B m d ys (k0 + n) _ H1.out (by omega) (by omega)).mono ?_
  rintro e w2 ⟨rfl, hr2, ho2⟩
  have D := hide (show MarkedB lo mid hi A n B m k0 w (.returned (.int .i64 (k0 + n + m))) w2 from ⟨rfl, hr1.far ho2 (.inl (Nat.le_refl _)), hr2, (Only.ofBelow hb0.out).trans ((ho1.mono (Nat.le_refl _) hmh).trans (ho2.mono hlm (Nat.le_refl _)))⟩)
  clear hr1 hr2 ho1 ho2
  go_wp2
  go_ret
  exact D.out
end Go.Proofs.Ytjaagekckbjhdaa
