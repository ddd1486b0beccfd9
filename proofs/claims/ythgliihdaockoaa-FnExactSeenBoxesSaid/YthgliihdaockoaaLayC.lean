/- Layout: the rectangles of all boxes: the reference. Conditions: none. -/
import Derived.Test.YthgliihdaockoaaLayB
import Derived.Test.YthgliihdaockoaaLayY
import Derived.Test.YthgliihdaockoaaTreeB
namespace Go.Proofs.Ythgliihdaockoaa
open Go.RowKit
set_option linter.unusedVariables false
set_option linter.unusedSimpArgs false
/-- the rectangles of all boxes in a new list -/
def LaidR (xs : List Int) (n : Nat) (root : RectI) (w : World) (e : Ending) (w' : World) : Prop :=
  ∃ bo, e = .returned (.slice (some ⟨bo, 0, none⟩) n n) ∧ w.heap.size ≤ bo ∧ RR w' bo 0 n (rc xs n root) ∧ Below w.heap.size w w'
theorem root_ok {wd ht : Int} (h1 : 0 ≤ wd ∧ wd ≤ 10000) (h2 : 0 ≤ ht ∧ ht ≤ 10000) : RcB 0 (ri 0 0 wd ht) :=
  ⟨Int.le_refl _, by simp [ri], Int.le_refl _, by simp [ri], h1.1, h1.2, h2.1, h2.2⟩
set_option maxHeartbeats 4000000 in
theorem specLayoutR_any (B : Nat) (a : Option Addr) (n c : Nat) (xs : List Int) (wd ht : Int) (w : World) (hA : Ints .i64 w B a (n * 9) xs) (hB : B ≤ w.heap.size) (hT : TreeP xs n) (h1 : 0 ≤ wd ∧ wd ≤ 10000) (h2 : 0 ≤ ht ∧ ht ≤ 10000) :
    Calls Try.prog 26 #[.slice a n c, .int .i64 wd, .int .i64 ht] w (LaidR xs n (ri 0 0 wd ht) w) := by
  have hn16 := hT.hi
  have hlo := hT.lo
  have hmk := mk_Rects n (by omega)
  have hbel : Below w.heap.size w (w.alloc (.cells (madeCells #[.int .i64 0, .int .i64 0, .int .i64 0, .int .i64 0] (n * 4)) 30)) := (Below.refl _ _).alloc (Nat.le_refl _) _
  have HB := hide hbel
  have hcall := specPlace_any B a n c xs (ri 0 0 wd ht) w.heap.size 0 n hT (root_ok h1 h2) hB n 0 _ _ (hA.below hbel hB) (RR.made w n) (by omega) (by omega)
  rw [rc_zero] at hcall
  have HC := hide (show Calls Try.prog 38 #[.slice a n c, .int .i64 0, .agg #[.int .i64 0, .int .i64 0, .int .i64 wd, .int .i64 ht], .slice (some ⟨w.heap.size, 0, none⟩) n n] _ _ from hcall)
  have HAll := hide (Desc.all hT.pre)
  clear hcall hA hT
  go_enter Try.func26, Try.ntmps26
  go_wp2_with fail
  refine HC.out.mono ?_
  rintro e W ⟨rfl, ⟨f', hP, hR⟩, hO⟩
  have D := hide (show LaidR xs n (ri 0 0 wd ht) w (.returned (.slice (some ⟨w.heap.size, 0, none⟩) n n)) W from
    ⟨w.heap.size, rfl, Nat.le_refl _, hR.congr (fun i hi => hP.desc i (HAll.out i hi)), HB.out.trans (hO.below (Nat.le_refl _) HB.out.size)⟩)
  clear hP hR hO HC HAll HB
  go_wp2
  go_ret
  exact D.out
noncomputable def scrB (xs : List Int) (n : Nat) (wd ht : Int) : Bool := treeV xs n && (inR wd 0 10000 && inR ht 0 10000)
/-- the same, or no list -/
def LaidO (b : Bool) (xs : List Int) (n : Nat) (root : RectI) (w : World) (e : Ending) (w' : World) : Prop :=
  if b = true then LaidR xs n root w e w' else e = .returned (.slice none 0 0) ∧ Below w.heap.size w w'
set_option maxHeartbeats 4000000 in
theorem specLayoutTree_any (B : Nat) (a : Option Addr) (n c : Nat) (xs : List Int) (wd ht : Int) (w : World) (hA : Ints .i64 w B a (n * 9) xs) (hB : B ≤ w.heap.size) (hn : n ≤ 1048577) :
    Calls Try.prog 14 #[.slice a n c, .int .i64 wd, .int .i64 ht] w (LaidO (scrB xs n wd ht) xs n (ri 0 0 wd ht) w) := by
  have HV := hide (specValid_any B a n c xs w hA hB hn)
  cases h0 : treeV xs n
  case false =>
    rw [h0] at HV
    have D := hide (show scrB xs n wd ht = false by simp [scrB, h0])
    go_enter Try.func14, Try.ntmps14
    go_wp2_with (first | (go_at_call 24; refine HV.out.mono ?_; rintro e w1 ⟨rfl, hb⟩; have HB1 := hide hb; clear hb))
    go_ret
    rw [D.out]
    exact ⟨rfl, HB1.out⟩
  case true =>
    rw [h0] at HV
    cases h1 : inR wd 0 10000
    case false =>
      have D := hide (show scrB xs n wd ht = false by simp [scrB, h0, h1])
      go_enter Try.func14, Try.ntmps14
      go_wp2_with (first | (go_at_call 24; refine HV.out.mono ?_; rintro e w1 ⟨rfl, hb⟩; have HB1 := hide hb; clear hb) | (go_at_call 25; with_reducible refine (inRange_is h1 _).mono ?_; rintro e w' ⟨rfl, rfl⟩))
      go_ret
      rw [D.out]
      exact ⟨rfl, HB1.out⟩
    case true =>
      cases h2 : inR ht 0 10000
      case false =>
        have D := hide (show scrB xs n wd ht = false by simp [scrB, h0, h1, h2])
        go_enter Try.func14, Try.ntmps14
        go_wp2_with (first | (go_at_call 24; refine HV.out.mono ?_; rintro e w1 ⟨rfl, hb⟩; have HB1 := hide hb; clear hb) | (go_at_call 25; with_reducible refine (inRange_is h1 _).mono ?_; rintro e w' ⟨rfl, rfl⟩) | (go_at_call 25; with_reducible refine (inRange_is h2 _).mono ?_; rintro e w' ⟨rfl, rfl⟩))
        go_ret
        rw [D.out]
        exact ⟨rfl, HB1.out⟩
      case true =>
        have D := hide (show scrB xs n wd ht = true by simp [scrB, h0, h1, h2])
        have HL := hide (fun W (h : Below w.heap.size w W) => specLayoutR_any B a n c xs wd ht W (hA.below h hB) (by have := h.size; omega) (treeV_iff.1 h0) (inR_iff.1 h1) (inR_iff.1 h2))
        clear hA
        go_enter Try.func14, Try.ntmps14
        go_wp2_with (first | (go_at_call 24; refine HV.out.mono ?_; rintro e w1 ⟨rfl, hb⟩; have HB1 := hide hb; clear hb) | (go_at_call 25; with_reducible refine (inRange_is h1 _).mono ?_; rintro e w' ⟨rfl, rfl⟩) | (go_at_call 25; with_reducible refine (inRange_is h2 _).mono ?_; rintro e w' ⟨rfl, rfl⟩) | (go_at_call 26; refine (HL.out _ HB1.out).mono ?_; rintro e w2 ⟨bo, rfl, hbo, hR, hb⟩; have HF := hide (show LaidR xs n (ri 0 0 wd ht) w (.returned (.slice (some ⟨bo, 0, none⟩) n n)) w2 from ⟨bo, rfl, Nat.le_trans HB1.out.size hbo, hR, HB1.out.trans (hb.mono HB1.out.size)⟩); clear hR hb hbo))
        go_ret
        rw [D.out]
        exact HF.out
end Go.Proofs.Ythgliihdaockoaa
