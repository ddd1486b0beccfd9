/- Buffers: what makes them valid, the program's and the reference's. Conditions: none. -/
import Derived.Test.YtjaagekckbjhdaaSums
import Derived.Deep.RegionHeld3
import Derived.Deep.DeepCutAuto
namespace Go.Proofs.Ytjaagekckbjhdaa
open Go.RowKit
set_option linter.unusedVariables false

/-- the two lists of buffers, as they lie below block K -/
def Buf (w : World) (K : Nat) (A : Option Addr) (n c : Nat) (B : Option Addr) (m d : Nat) (xs ys : List Int) : Prop :=
  Ints .i64 w K A n xs ∧ Ints .i64 w K B m ys ∧ n ≤ 2097152 ∧ m ≤ 2097152 ∧ n ≤ c ∧ m ≤ d
theorem Buf.below {w w' : World} {K K' n c m d : Nat} {A B : Option Addr} {xs ys : List Int} (h : Buf w K A n c B m d xs ys) (hb : Below K' w w') (hK : K ≤ K') : Buf w' K A n c B m d xs ys :=
  ⟨h.1.below hb hK, h.2.1.below hb hK, h.2.2⟩
theorem Buf.more {w : World} {K K' n c m d : Nat} {A B : Option Addr} {xs ys : List Int} (h : Buf w K A n c B m d xs ys) (hK : K ≤ K') : Buf w K' A n c B m d xs ys :=
  ⟨h.1.more hK, h.2.1.more hK, h.2.2⟩

def validB (xs ys : List Int) (v : Int) : Bool := inR xs.length 1 16 && (decide (ys.length = xs.length) && (inAll xs (-10000) 10000 && (inAll ys (-10000) 10000 && inR v 0 1000)))
theorem validB_iff {xs ys : List Int} {v : Int} : validB xs ys v = true ↔ (1 ≤ xs.length ∧ xs.length ≤ 16) ∧ ys.length = xs.length ∧ inAll xs (-10000) 10000 = true ∧ inAll ys (-10000) 10000 = true ∧ 0 ≤ v ∧ v ≤ 1000 := by
  simp only [validB, inR, Bool.and_eq_true, decide_eq_true_eq]
  constructor
  · rintro ⟨⟨a, b⟩, c, d, e, f⟩; exact ⟨⟨by omega, by omega⟩, c, d, e, f⟩
  · rintro ⟨⟨a, b⟩, c, d, e, f⟩; exact ⟨⟨by omega, by omega⟩, c, d, e, f⟩

set_option maxHeartbeats 1000000 in
theorem implValid_any (K : Nat) (A : Option Addr) (n c : Nat) (B : Option Addr) (m d : Nat) (xs ys : List Int) (v : Int) (w : World) (h : Buf w K A n c B m d xs ys) (hK : K ≤ w.heap.size) :
    Calls Try.prog 12 #[.agg #[.slice A n c, .slice B m d, .int .i64 v]] w fun e w' => e = .returned (.bool (validB xs ys v)) ∧ Below w.heap.size w w' := by
  obtain ⟨hA, hB, hn, hm, hnc, hmd⟩ := h
  have hl := hide hA.1
  have hl' := hide hB.1
  have hb0 := hide (((Below.refl w.heap.size w).alloc (Nat.le_refl _) (.cells #[.slice A n c, .slice B m d, .int .i64 v] 27)))
  have HA := hide (hA.below hb0.out hK)
  have HB := hide (hB.below hb0.out hK)
  clear hA hB
  cases h1 : inR (n : Int) 1 16
  case false =>
    have D := hide (show validB xs ys v = false by unfold validB; rw [hl.out, h1]; rfl)
    go_enter Try.func12, Try.ntmps12
    go_wp2_with (go_at_call 32; refine (within_any _ _ _ _).mono ?_; rintro e w' ⟨rfl, rfl⟩)
    go_ret
    exact ⟨ret_bool D.out.symm, hb0.out⟩
  case true =>
    by_cases hnm : m = n
    case neg =>
      have D := hide (show validB xs ys v = false by unfold validB; rw [hl.out, hl'.out, decide_eq_false hnm]; simp)
      have hbn : ((m : Int) == (n : Int)) = false := by simp; omega
      go_enter Try.func12, Try.ntmps12
      go_wp2_with (go_at_call 32; refine (within_any _ _ _ _).mono ?_; rintro e w' ⟨rfl, rfl⟩)
      go_ret
      exact ⟨ret_bool D.out.symm, hb0.out⟩
    case pos =>
      subst hnm
      cases h2 : inAll xs (-10000) 10000
      case false =>
        have D := hide (show validB xs ys v = false by unfold validB; rw [h2]; simp)
        go_enter Try.func12, Try.ntmps12
        go_wp2_with (first
          | (go_at_call 32; refine (within_any _ _ _ _).mono ?_; rintro e w' ⟨rfl, rfl⟩)
          | (go_at_call 33; refine (implAllIn_any K _ _ _ xs _ _ _ HA.out (by simp; omega) (by omega)).mono ?_; rintro e w1 ⟨rfl, hb⟩; have HZ := hide (hb0.out.trans (hb.mono (by simp))); clear hb))
        go_ret
        exact ⟨ret_bool D.out.symm, HZ.out⟩
      case true =>
        cases h3 : inAll ys (-10000) 10000
        case false =>
          have D := hide (show validB xs ys v = false by unfold validB; rw [h3]; simp)
          go_enter Try.func12, Try.ntmps12
          go_wp2_with fail
          refine (within_any _ _ _ _).mono ?_
          rintro e w' ⟨rfl, rfl⟩
          go_wp2_with fail
          refine (implAllIn_any K _ _ _ xs _ _ _ HA.out (by simp; omega) (by omega)).mono ?_
          rintro e w1 ⟨rfl, hb⟩
          have k1 := hb.cell (p := ⟨w.heap.size, 1, none⟩) (by simp)
          have k2 := hb.cell (p := ⟨w.heap.size, 2, none⟩) (by simp)
          have HBx := hide (HB.out.below hb (by simp; omega))
          have HZ := hide (hb0.out.trans (hb.mono (by simp)))
          have hz : w.heap.size + 1 ≤ w1.heap.size := by have := hb.size; simpa using this
          clear hb
          go_wp2_with fail
          refine (implAllIn_any K _ _ _ ys _ _ _ HBx.out (by omega) (by omega)).mono ?_
          rintro e w2 ⟨rfl, hb2⟩
          have HZ2 := hide (HZ.out.trans (hb2.mono (by omega)))
          clear hb2
          go_wp2_with fail
          go_ret
          exact ⟨ret_bool D.out.symm, HZ2.out⟩
        case true =>
          have D := hide (show validB xs ys v = inR v 0 1000 by unfold validB; rw [hl.out, hl'.out, h1, h2, h3]; simp)
          go_enter Try.func12, Try.ntmps12
          go_wp2_with fail
          refine (within_any _ _ _ _).mono ?_
          rintro e w' ⟨rfl, rfl⟩
          go_wp2_with fail
          refine (implAllIn_any K _ _ _ xs _ _ _ HA.out (by simp; omega) (by omega)).mono ?_
          rintro e w1 ⟨rfl, hb⟩
          have k1 := hb.cell (p := ⟨w.heap.size, 1, none⟩) (by simp)
          have k2 := hb.cell (p := ⟨w.heap.size, 2, none⟩) (by simp)
          have HBx := hide (HB.out.below hb (by simp; omega))
          have HZ := hide (hb0.out.trans (hb.mono (by simp)))
          have hz : w.heap.size + 1 ≤ w1.heap.size := by have := hb.size; simpa using this
          clear hb
          go_wp2_with fail
          refine (implAllIn_any K _ _ _ ys _ _ _ HBx.out (by omega) (by omega)).mono ?_
          rintro e w2 ⟨rfl, hb2⟩
          have HZ2 := hide (HZ.out.trans (hb2.mono (by omega)))
          have k3 := hb2.cell (p := ⟨w.heap.size, 2, none⟩) (by show w.heap.size < w1.heap.size; omega)
          clear hb2
          go_wp2_with fail
          refine (within_any _ _ _ _).mono ?_
          rintro e w' ⟨rfl, rfl⟩
          go_wp2_with fail
          go_ret
          exact ⟨ret_bool D.out.symm, HZ2.out⟩

set_option maxHeartbeats 1000000 in
theorem specValidIn_any (K : Nat) (A : Option Addr) (n c : Nat) (B : Option Addr) (m d : Nat) (xs ys : List Int) (v : Int) (w : World) (h : Buf w K A n c B m d xs ys) (hK : K ≤ w.heap.size) :
    Calls Try.prog 30 #[.agg #[.slice A n c, .slice B m d, .int .i64 v]] w fun e w' => e = .returned (.bool (validB xs ys v)) ∧ Below w.heap.size w w' := by
  obtain ⟨hA, hB, hn, hm, hnc, hmd⟩ := h
  have hl := hide hA.1
  have hl' := hide hB.1
  have hb0 := hide (((Below.refl w.heap.size w).alloc (Nat.le_refl _) (.cells #[.slice A n c, .slice B m d, .int .i64 v] 27)))
  have HA := hide (hA.below hb0.out hK)
  have HB := hide (hB.below hb0.out hK)
  clear hA hB
  cases h1 : inR (n : Int) 1 16
  case false =>
    have D := hide (show validB xs ys v = false by unfold validB; rw [hl.out, h1]; rfl)
    go_enter Try.func30, Try.ntmps30
    go_wp2_with (go_at_call 36; refine (inRange_any _ _ _ _).mono ?_; rintro e w' ⟨rfl, rfl⟩)
    go_ret
    exact ⟨ret_bool D.out.symm, hb0.out⟩
  case true =>
    by_cases hnm : m = n
    case neg =>
      have D := hide (show validB xs ys v = false by unfold validB; rw [hl.out, hl'.out, decide_eq_false hnm]; simp)
      have hbn : ((m : Int) == (n : Int)) = false := by simp; omega
      go_enter Try.func30, Try.ntmps30
      go_wp2_with (go_at_call 36; refine (inRange_any _ _ _ _).mono ?_; rintro e w' ⟨rfl, rfl⟩)
      go_ret
      exact ⟨ret_bool D.out.symm, hb0.out⟩
    case pos =>
      subst hnm
      cases h2 : inAll xs (-10000) 10000
      case false =>
        have D := hide (show validB xs ys v = false by unfold validB; rw [h2]; simp)
        go_enter Try.func30, Try.ntmps30
        go_wp2_with (first
          | (go_at_call 36; refine (inRange_any _ _ _ _).mono ?_; rintro e w' ⟨rfl, rfl⟩)
          | (go_at_call 40; refine (specAllIn_any K _ _ _ xs _ _ _ HA.out (by omega)).mono ?_; rintro e w1 ⟨rfl, rfl⟩; have HZ := hide (hb0.out)))
        go_ret
        exact ⟨ret_bool D.out.symm, HZ.out⟩
      case true =>
        cases h3 : inAll ys (-10000) 10000
        case false =>
          have D := hide (show validB xs ys v = false by unfold validB; rw [h3]; simp)
          go_enter Try.func30, Try.ntmps30
          go_wp2_with fail
          refine (inRange_any _ _ _ _).mono ?_
          rintro e w' ⟨rfl, rfl⟩
          go_wp2_with fail
          refine (specAllIn_any K _ _ _ xs _ _ _ HA.out (by omega)).mono ?_
          rintro e w1 ⟨rfl, rfl⟩
          go_wp2_with fail
          refine (specAllIn_any K _ _ _ ys _ _ _ HB.out (by omega)).mono ?_
          rintro e w2 ⟨rfl, rfl⟩
          have HZ2 := hide (hb0.out)
          go_wp2_with fail
          go_ret
          exact ⟨ret_bool D.out.symm, HZ2.out⟩
        case true =>
          have D := hide (show validB xs ys v = inR v 0 1000 by unfold validB; rw [hl.out, hl'.out, h1, h2, h3]; simp)
          go_enter Try.func30, Try.ntmps30
          go_wp2_with fail
          refine (inRange_any _ _ _ _).mono ?_
          rintro e w' ⟨rfl, rfl⟩
          go_wp2_with fail
          refine (specAllIn_any K _ _ _ xs _ _ _ HA.out (by omega)).mono ?_
          rintro e w1 ⟨rfl, rfl⟩
          go_wp2_with fail
          refine (specAllIn_any K _ _ _ ys _ _ _ HB.out (by omega)).mono ?_
          rintro e w2 ⟨rfl, rfl⟩
          have HZ2 := hide (hb0.out)
          go_wp2_with fail
          refine (inRange_any _ _ _ _).mono ?_
          rintro e w' ⟨rfl, rfl⟩
          go_wp2_with fail
          go_ret
          exact ⟨ret_bool D.out.symm, HZ2.out⟩

theorem specValid_any (K : Nat) (A : Option Addr) (n c : Nat) (B : Option Addr) (m d : Nat) (xs ys : List Int) (v : Int) (w : World) (h : Buf w K A n c B m d xs ys) (hK : K ≤ w.heap.size) :
    Calls Try.prog 10 #[.agg #[.slice A n c, .slice B m d, .int .i64 v]] w fun e w' => e = .returned (.bool (validB xs ys v)) ∧ Below w.heap.size w w' := by
  have hb0 := hide (((Below.refl w.heap.size w).alloc (Nat.le_refl _) (.cells #[.slice A n c, .slice B m d, .int .i64 v] 27)))
  have H := hide (h.below hb0.out hK)
  clear h
  go_enter Try.func10, Try.ntmps10
  go_wp2_with fail
  refine (specValidIn_any K A n c B m d xs ys v _ H.out (by simp; omega)).mono ?_
  rintro e w' ⟨rfl, hb⟩
  have HZ := hide (hb0.out.trans (hb.mono (by simp)))
  clear hb
  go_wp2
  go_ret
  exact ⟨rfl, HZ.out⟩
theorem cellIn_any (K : Nat) (A : Option Addr) (n c : Nat) (B : Option Addr) (m d : Nat) (xs ys : List Int) (v i : Int) (w : World) (h : Buf w K A n c B m d xs ys) (hK : K ≤ w.heap.size) :
    Calls Try.prog 37 #[.agg #[.slice A n c, .slice B m d, .int .i64 v], .int .i64 i] w fun e w' => e = .returned (.bool (validB xs ys v && inR i 0 ((n : Int) - 1))) ∧ Below w.heap.size w w' := by
  have hb0 := hide (((Below.refl w.heap.size w).alloc (Nat.le_refl _) (.cells #[.slice A n c, .slice B m d, .int .i64 v] 27)))
  have H := hide (h.below hb0.out hK)
  have hn := h.2.2.1
  clear h
  cases hv : validB xs ys v
  case false =>
    go_enter Try.func37, Try.ntmps37
    go_wp2_with fail
    refine (implValid_any K A n c B m d xs ys v _ H.out (by simp; omega)).mono ?_
    rintro e w1 ⟨rfl, hb⟩
    have HZ := hide (hb0.out.trans (hb.mono (by simp)))
    clear hb
    go_wp2
    go_ret
    exact ⟨rfl, HZ.out⟩
  case true =>
    go_enter Try.func37, Try.ntmps37
    go_wp2_with fail
    refine (implValid_any K A n c B m d xs ys v _ H.out (by simp; omega)).mono ?_
    rintro e w1 ⟨rfl, hb⟩
    have HZ := hide (hb0.out.trans (hb.mono (by simp)))
    have k0 := hb.cell (p := ⟨w.heap.size, 0, none⟩) (by simp)
    clear hb
    go_wp2_with fail
    refine (within_any _ _ _ _).mono ?_
    rintro e w' ⟨rfl, rfl⟩
    go_wp2
    go_ret
    exact ⟨rfl, HZ.out⟩
end Go.Proofs.Ytjaagekckbjhdaa
