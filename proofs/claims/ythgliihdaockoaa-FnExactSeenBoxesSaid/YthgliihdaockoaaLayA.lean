/- Layout: the flexible sizes of the boxes in a box: the reference. Conditions: none. -/
import Derived.Test.YthgliihdaockoaaLayZ
namespace Go.Proofs.Ythgliihdaockoaa
open Go.RowKit
set_option linter.unusedVariables false
set_option linter.unusedSimpArgs false
/-- a new list of flexible sizes -/
def FlexR (base gr sr : Nat → Int) (m : Nat) (w : World) (e : Ending) (w' : World) : Prop :=
  ∃ (A : Option Addr) (c : Nat), e = .returned (.slice A m c) ∧ Ints .i64 w' w'.heap.size A (m * 5) (flexZ base gr sr m) ∧ Below w.heap.size w w'
theorem FlexR.own {base gr sr : Nat → Int} {m : Nat} {w w' : World} {A : Option Addr} {c : Nat} (h : Own 72 5 w' w.heap.size (.slice A m c) m (flexZ base gr sr m)) (hb : Below w.heap.size w w') : FlexR base gr sr m w (.returned (.slice A m c)) w' := by
  obtain ⟨A', c', e, _, _, hr⟩ := h.form
  injection e with e1 e2 e3
  subst e1 e3
  exact ⟨A, c, rfl, hr.ints, hb⟩
theorem kid_at {xs : List Int} {n p t : Nat} (hp : Pre xs n) (ht : t < (kidsL xs n p).length) : (kidsL xs n p).getD t 0 = ((kidN xs n p t : Nat) : Int) := (kidN_is hp ht).2.2.1.symm
set_option maxRecDepth 100000 in
set_option maxHeartbeats 8000000 in
theorem specFlexes_row (B : Nat) (a : Option Addr) (n c : Nat) (xs : List Int) (p : Nat) (A : Option Addr) (m cl : Nat) (w : World) (hT : TreeP xs n) (hp : p < n) (hA : Ints .i64 w B a (n * 9) xs) (hB : B ≤ w.heap.size) (hL : Ints .i64 w w.heap.size A m (kidsL xs n p)) (hm : 1 ≤ m) :
    Calls Try.prog 51 #[.slice a n c, .slice A m cl, .bool true] w (FlexR (bsW xs n p) (grK xs n p) (srK xs n p) m w) := by
  obtain ⟨i0, hi0, hz0, hz1, hz2⟩ := info_parts Flex_info
  have hml : (kidsL xs n p).length = m := hL.1
  have hm8 : m ≤ 8 := by have := hT.kidsLen hp; omega
  have hn16 := hT.hi
  have HA := hide (fun W (h : Below w.heap.size w W) => hA.below h hB)
  have HKI := hide (fun t (ht : t < m) => kidN_is hT.pre (t := t) (p := p) (n := n) (xs := xs) (by omega))
  have HKb := hide (fun q (hq : q < n) => nat_bd hT hq)
  have HNat := hide (fun (W : World) (h : Below w.heap.size w W) (q : Nat) (hq : q < n) => specNat_any B a n c xs hT n q W (hA.below h hB) (by have := h.size; omega) (by omega) hq (by omega))
  obtain ⟨bl, ol, rfl, hbl, hcl⟩ := hL.2.2 (by omega)
  have HCl := hide (fun W (h : Below w.heap.size w W) t (ht : t < m) => (h.cell (p := ⟨bl, ol + t, none⟩) (by show bl < w.heap.size; omega)).trans (hcl t (by omega)))
  obtain ⟨b, off, rfl, hb9, h1, h2⟩ := hA.fldAt (by omega)
  have HC := hide (fun W (h : Below w.heap.size w W) => (show (∀ i, i < n → W.cell? ⟨b, off + i * 9, none⟩ = some (.int .i64 (par xs i))) ∧ ∀ i j, i < n → j < 9 → W.cell? ⟨b, off + i * 9 + j, none⟩ = some (.int .i64 (fld xs i j)) from ⟨fun i hi => (h.cell (p := ⟨b, off + i * 9, none⟩) (by show b < w.heap.size; omega)).trans (h1 i hi), fun i j hi hj => (h.cell (p := ⟨b, off + i * 9 + j, none⟩) (by show b < w.heap.size; omega)).trans (h2 i j hi hj)⟩))
  have HO := hide (show Own 72 5 (w.alloc (.cells #[] 72)) w.heap.size (.slice (some ⟨w.heap.size, 0, none⟩) 0 0) 0 (flexZ (bsW xs n p) (grK xs n p) (srK xs n p) 0) from Own.made 72 5 w #[] 0 w.heap.size (Nat.le_refl _) (by omega) rfl)
  have HB := hide (show Below w.heap.size w (w.alloc (.cells #[] 72)) from (Below.refl _ _).alloc (Nat.le_refl _) _)
  clear hA hL hcl h1 h2 hT
  go_enter Try.func51, Try.ntmps51
  go_wp2
  generalize w.alloc (.cells #[] 72) = W0 at HO HB ⊢
  go_loopw [7, 8, 9, 10, 11] (fun s7 s8 _ _ _ wr => ∃ (t c' : Nat) (A : Option Addr) (W9 : World), t ≤ m ∧ s7 = .slice A t c' ∧ s8 = .int .i64 t ∧ W9 = wr ∧ Hid (Own 72 5 W9 w.heap.size (.slice A t c') t (flexZ (bsW xs n p) (grK xs n p) (srK xs n p) t)) ∧ Hid (Below w.heap.size w W9)) (fun _ s8 _ _ _ _ => m - (intOf s8).toNat)
  case atStart => exact ⟨0, _, _, _, Nat.zero_le _, rfl, rfl, rfl, HO, HB⟩
  case round =>
    clear HO HB
    obtain ⟨t, c', A, W9, htm, rfl, rfl, rfl, HO, HB⟩ := hrel
    have hz9 := HB.out.size
    by_cases hlt : t < m
    · have hlt' : (t : Int) < (m : Int) := by omega
      have hct := HCl.out W9 HB.out t hlt
      obtain ⟨hq1, hq2, hq3, hq4⟩ := HKI.out t hlt
      rw [← hq3] at hct
      obtain ⟨q, hq⟩ : ∃ q, kidN xs n p t = q := ⟨_, rfl⟩
      rw [hq] at hct hq2
      have hqn : q < n := hq2
      have hqi : (q : Int) < (n : Int) := by omega
      have HQe := hide hq
      have hcall := HNat.out W9 HB.out q hqn
      have bK := HKb.out q hqn
      obtain ⟨kw, hkw⟩ : ∃ kw, (nat xs n q).1 = kw := ⟨_, rfl⟩
      obtain ⟨kh, hkh⟩ : ∃ kh, (nat xs n q).2 = kh := ⟨_, rfl⟩
      rw [hkw, hkh] at hcall bK
      have HKW := hide hkw
      have HKH := hide hkh
      clear hq hkw hkh hq1 hq3 hq4 hq2
      have HCt := hide (fun W (h : Below w.heap.size w W) => (show W.cell? ⟨bl, ol + t, none⟩ = some (.int .i64 (q : Int)) from by have h2 := HCl.out W h t hlt; rw [← (HKI.out t hlt).2.2.1, HQe.out] at h2; exact h2))
      obtain ⟨h1, h2⟩ := HC.out W9 HB.out
      have hc0 := h1 q hqn
      have hc1 := h2 q 1 hqn (by omega)
      have hc2 := h2 q 2 hqn (by omega)
      have hc3 := h2 q 3 hqn (by omega)
      have hc4 := h2 q 4 hqn (by omega)
      have hc5 := h2 q 5 hqn (by omega)
      have hc6 := h2 q 6 hqn (by omega)
      have hc7 := h2 q 7 hqn (by omega)
      have hc8 := h2 q 8 hqn (by omega)
      obtain ⟨y, hy⟩ : ∃ y, par xs q = y := ⟨_, rfl⟩
      rw [hy] at hc0
      have HYc0 := hide hy
      clear hy
      obtain ⟨y1, hy1⟩ : ∃ y1, fld xs q 1 = y1 := ⟨_, rfl⟩
      rw [hy1] at hc1
      have HY1 := hide hy1
      clear hy1
      obtain ⟨y2, hy2⟩ : ∃ y2, fld xs q 2 = y2 := ⟨_, rfl⟩
      rw [hy2] at hc2
      have HY2 := hide hy2
      clear hy2
      obtain ⟨y3, hy3⟩ : ∃ y3, fld xs q 3 = y3 := ⟨_, rfl⟩
      rw [hy3] at hc3
      have HY3 := hide hy3
      clear hy3
      obtain ⟨y4, hy4⟩ : ∃ y4, fld xs q 4 = y4 := ⟨_, rfl⟩
      rw [hy4] at hc4
      have HY4 := hide hy4
      clear hy4
      obtain ⟨y5, hy5⟩ : ∃ y5, fld xs q 5 = y5 := ⟨_, rfl⟩
      rw [hy5] at hc5
      have HY5 := hide hy5
      clear hy5
      obtain ⟨y6, hy6⟩ : ∃ y6, fld xs q 6 = y6 := ⟨_, rfl⟩
      rw [hy6] at hc6
      have HY6 := hide hy6
      clear hy6
      obtain ⟨y7, hy7⟩ : ∃ y7, fld xs q 7 = y7 := ⟨_, rfl⟩
      rw [hy7] at hc7
      have HY7 := hide hy7
      clear hy7
      obtain ⟨y8, hy8⟩ : ∃ y8, fld xs q 8 = y8 := ⟨_, rfl⟩
      rw [hy8] at hc8
      have HY8 := hide hy8
      clear hy8
      clear hc0 hc1 hc2 hc3 hc4 hc5 hc6 hc7 hc8 h1 h2
      have HCq := hide (fun W (h : Below w.heap.size w W) => (show W.cell? ⟨b, off + q * 9, none⟩ = some (.int .i64 y) ∧ W.cell? ⟨b, off + q * 9 + 1, none⟩ = some (.int .i64 y1) ∧ W.cell? ⟨b, off + q * 9 + 2, none⟩ = some (.int .i64 y2) ∧ W.cell? ⟨b, off + q * 9 + 3, none⟩ = some (.int .i64 y3) ∧ W.cell? ⟨b, off + q * 9 + 4, none⟩ = some (.int .i64 y4) ∧ W.cell? ⟨b, off + q * 9 + 5, none⟩ = some (.int .i64 y5) ∧ W.cell? ⟨b, off + q * 9 + 6, none⟩ = some (.int .i64 y6) ∧ W.cell? ⟨b, off + q * 9 + 7, none⟩ = some (.int .i64 y7) ∧ W.cell? ⟨b, off + q * 9 + 8, none⟩ = some (.int .i64 y8) from by
        obtain ⟨h1, h2⟩ := HC.out W h
        exact ⟨HYc0.out ▸ h1 q hqn, HY1.out ▸ h2 q 1 hqn (by omega), HY2.out ▸ h2 q 2 hqn (by omega), HY3.out ▸ h2 q 3 hqn (by omega), HY4.out ▸ h2 q 4 hqn (by omega), HY5.out ▸ h2 q 5 hqn (by omega), HY6.out ▸ h2 q 6 hqn (by omega), HY7.out ▸ h2 q 7 hqn (by omega), HY8.out ▸ h2 q 8 hqn (by omega)⟩))
      have D := hide (show flexZ (bsW xs n p) (grK xs n p) (srK xs n p) (t + 1) = flexZ (bsW xs n p) (grK xs n p) (srK xs n p) t ++ [kw, 0, 10000, y6, y7] by rw [flexZ]; unfold bsW grK srK; rw [HQe.out, HKW.out, HY6.out, HY7.out])
      clear HKW HKH
      go_wp2_with (first | (go_at_call 53; refine hcall.mono ?_; rintro e W10 ⟨rfl, hb⟩; have HBa := hide (HB.out.trans (hb.mono hz9)); have hz10 := HBa.out.size; have hct2 := HCt.out W10 HBa.out; obtain ⟨hc0, hc1, hc2, hc3, hc4, hc5, hc6, hc7, hc8⟩ := HCq.out W10 HBa.out; have hba : Below W10.heap.size W10 (W10.alloc (.cells #[.int .i64 y, .int .i64 y1, .int .i64 y2, .int .i64 y3, .int .i64 y4, .int .i64 y5, .int .i64 y6, .int .i64 y7, .int .i64 y8] 43)) := (Below.refl _ _).alloc (Nat.le_refl _) _; have HOb := hide ((HO.out.keep hb).keep hba); have HBb := hide (HBa.out.trans (hba.mono hz10)); have hzb := HBb.out.size; clear hb hba) | (at_builtin; refine wpList_push rfl (.tmp 38) (.tmp 45) 69 72 5 40 i0 _ rfl Try.underlying69 hi0 hz0 hz1 hz2 rfl (by omega) (by omega) (W10.alloc (.cells #[.int .i64 y, .int .i64 y1, .int .i64 y2, .int .i64 y3, .int .i64 y4, .int .i64 y5, .int .i64 y6, .int .i64 y7, .int .i64 y8] 43)) w.heap.size (.slice A t c') t (flexZ (bsW xs n p) (grK xs n p) (srK xs n p) t) rfl HOb.out [kw, 0, 10000, y6, y7] 1 1 (by show Value.slice (some ⟨W10.heap.size + 1, 0, none⟩) 1 1 = _; simp) rfl (by omega) hzb ?_; intro v1 w1 ho1 hb1 hg1 hv1; obtain ⟨A1, c1, hvv1, _, _, _⟩ := ho1.form; subst hvv1; have HO1 := hide ho1; have HB1 := hide (HBb.out.trans hb1); clear ho1 hb1 hg1 hv1))
      go_roundw
      case rel => exact ⟨t + 1, _, _, _, by omega, rfl, by go_num, rfl, by rw [D.out]; exact HO1, HB1⟩
      case measure => simp [intOf]; omega
    · obtain rfl : m = t := by omega
      have D := hide (FlexR.own HO.out HB.out)
      clear HO HB
      go_wp2
      go_ret
      exact D.out
set_option maxRecDepth 100000 in
set_option maxHeartbeats 8000000 in
theorem specFlexes_col (B : Nat) (a : Option Addr) (n c : Nat) (xs : List Int) (p : Nat) (A : Option Addr) (m cl : Nat) (w : World) (hT : TreeP xs n) (hp : p < n) (hA : Ints .i64 w B a (n * 9) xs) (hB : B ≤ w.heap.size) (hL : Ints .i64 w w.heap.size A m (kidsL xs n p)) (hm : 1 ≤ m) :
    Calls Try.prog 51 #[.slice a n c, .slice A m cl, .bool false] w (FlexR (bsH xs n p) (grK xs n p) (srK xs n p) m w) := by
  obtain ⟨i0, hi0, hz0, hz1, hz2⟩ := info_parts Flex_info
  have hml : (kidsL xs n p).length = m := hL.1
  have hm8 : m ≤ 8 := by have := hT.kidsLen hp; omega
  have hn16 := hT.hi
  have HA := hide (fun W (h : Below w.heap.size w W) => hA.below h hB)
  have HKI := hide (fun t (ht : t < m) => kidN_is hT.pre (t := t) (p := p) (n := n) (xs := xs) (by omega))
  have HKb := hide (fun q (hq : q < n) => nat_bd hT hq)
  have HNat := hide (fun (W : World) (h : Below w.heap.size w W) (q : Nat) (hq : q < n) => specNat_any B a n c xs hT n q W (hA.below h hB) (by have := h.size; omega) (by omega) hq (by omega))
  obtain ⟨bl, ol, rfl, hbl, hcl⟩ := hL.2.2 (by omega)
  have HCl := hide (fun W (h : Below w.heap.size w W) t (ht : t < m) => (h.cell (p := ⟨bl, ol + t, none⟩) (by show bl < w.heap.size; omega)).trans (hcl t (by omega)))
  obtain ⟨b, off, rfl, hb9, h1, h2⟩ := hA.fldAt (by omega)
  have HC := hide (fun W (h : Below w.heap.size w W) => (show (∀ i, i < n → W.cell? ⟨b, off + i * 9, none⟩ = some (.int .i64 (par xs i))) ∧ ∀ i j, i < n → j < 9 → W.cell? ⟨b, off + i * 9 + j, none⟩ = some (.int .i64 (fld xs i j)) from ⟨fun i hi => (h.cell (p := ⟨b, off + i * 9, none⟩) (by show b < w.heap.size; omega)).trans (h1 i hi), fun i j hi hj => (h.cell (p := ⟨b, off + i * 9 + j, none⟩) (by show b < w.heap.size; omega)).trans (h2 i j hi hj)⟩))
  have HO := hide (show Own 72 5 (w.alloc (.cells #[] 72)) w.heap.size (.slice (some ⟨w.heap.size, 0, none⟩) 0 0) 0 (flexZ (bsH xs n p) (grK xs n p) (srK xs n p) 0) from Own.made 72 5 w #[] 0 w.heap.size (Nat.le_refl _) (by omega) rfl)
  have HB := hide (show Below w.heap.size w (w.alloc (.cells #[] 72)) from (Below.refl _ _).alloc (Nat.le_refl _) _)
  clear hA hL hcl h1 h2 hT
  go_enter Try.func51, Try.ntmps51
  go_wp2
  generalize w.alloc (.cells #[] 72) = W0 at HO HB ⊢
  go_loopw [7, 8, 9, 10, 11] (fun s7 s8 _ _ _ wr => ∃ (t c' : Nat) (A : Option Addr) (W9 : World), t ≤ m ∧ s7 = .slice A t c' ∧ s8 = .int .i64 t ∧ W9 = wr ∧ Hid (Own 72 5 W9 w.heap.size (.slice A t c') t (flexZ (bsH xs n p) (grK xs n p) (srK xs n p) t)) ∧ Hid (Below w.heap.size w W9)) (fun _ s8 _ _ _ _ => m - (intOf s8).toNat)
  case atStart => exact ⟨0, _, _, _, Nat.zero_le _, rfl, rfl, rfl, HO, HB⟩
  case round =>
    clear HO HB
    obtain ⟨t, c', A, W9, htm, rfl, rfl, rfl, HO, HB⟩ := hrel
    have hz9 := HB.out.size
    by_cases hlt : t < m
    · have hlt' : (t : Int) < (m : Int) := by omega
      have hct := HCl.out W9 HB.out t hlt
      obtain ⟨hq1, hq2, hq3, hq4⟩ := HKI.out t hlt
      rw [← hq3] at hct
      obtain ⟨q, hq⟩ : ∃ q, kidN xs n p t = q := ⟨_, rfl⟩
      rw [hq] at hct hq2
      have hqn : q < n := hq2
      have hqi : (q : Int) < (n : Int) := by omega
      have HQe := hide hq
      have hcall := HNat.out W9 HB.out q hqn
      have bK := HKb.out q hqn
      obtain ⟨kw, hkw⟩ : ∃ kw, (nat xs n q).1 = kw := ⟨_, rfl⟩
      obtain ⟨kh, hkh⟩ : ∃ kh, (nat xs n q).2 = kh := ⟨_, rfl⟩
      rw [hkw, hkh] at hcall bK
      have HKW := hide hkw
      have HKH := hide hkh
      clear hq hkw hkh hq1 hq3 hq4 hq2
      have HCt := hide (fun W (h : Below w.heap.size w W) => (show W.cell? ⟨bl, ol + t, none⟩ = some (.int .i64 (q : Int)) from by have h2 := HCl.out W h t hlt; rw [← (HKI.out t hlt).2.2.1, HQe.out] at h2; exact h2))
      obtain ⟨h1, h2⟩ := HC.out W9 HB.out
      have hc0 := h1 q hqn
      have hc1 := h2 q 1 hqn (by omega)
      have hc2 := h2 q 2 hqn (by omega)
      have hc3 := h2 q 3 hqn (by omega)
      have hc4 := h2 q 4 hqn (by omega)
      have hc5 := h2 q 5 hqn (by omega)
      have hc6 := h2 q 6 hqn (by omega)
      have hc7 := h2 q 7 hqn (by omega)
      have hc8 := h2 q 8 hqn (by omega)
      obtain ⟨y, hy⟩ : ∃ y, par xs q = y := ⟨_, rfl⟩
      rw [hy] at hc0
      have HYc0 := hide hy
      clear hy
      obtain ⟨y1, hy1⟩ : ∃ y1, fld xs q 1 = y1 := ⟨_, rfl⟩
      rw [hy1] at hc1
      have HY1 := hide hy1
      clear hy1
      obtain ⟨y2, hy2⟩ : ∃ y2, fld xs q 2 = y2 := ⟨_, rfl⟩
      rw [hy2] at hc2
      have HY2 := hide hy2
      clear hy2
      obtain ⟨y3, hy3⟩ : ∃ y3, fld xs q 3 = y3 := ⟨_, rfl⟩
      rw [hy3] at hc3
      have HY3 := hide hy3
      clear hy3
      obtain ⟨y4, hy4⟩ : ∃ y4, fld xs q 4 = y4 := ⟨_, rfl⟩
      rw [hy4] at hc4
      have HY4 := hide hy4
      clear hy4
      obtain ⟨y5, hy5⟩ : ∃ y5, fld xs q 5 = y5 := ⟨_, rfl⟩
      rw [hy5] at hc5
      have HY5 := hide hy5
      clear hy5
      obtain ⟨y6, hy6⟩ : ∃ y6, fld xs q 6 = y6 := ⟨_, rfl⟩
      rw [hy6] at hc6
      have HY6 := hide hy6
      clear hy6
      obtain ⟨y7, hy7⟩ : ∃ y7, fld xs q 7 = y7 := ⟨_, rfl⟩
      rw [hy7] at hc7
      have HY7 := hide hy7
      clear hy7
      obtain ⟨y8, hy8⟩ : ∃ y8, fld xs q 8 = y8 := ⟨_, rfl⟩
      rw [hy8] at hc8
      have HY8 := hide hy8
      clear hy8
      clear hc0 hc1 hc2 hc3 hc4 hc5 hc6 hc7 hc8 h1 h2
      have HCq := hide (fun W (h : Below w.heap.size w W) => (show W.cell? ⟨b, off + q * 9, none⟩ = some (.int .i64 y) ∧ W.cell? ⟨b, off + q * 9 + 1, none⟩ = some (.int .i64 y1) ∧ W.cell? ⟨b, off + q * 9 + 2, none⟩ = some (.int .i64 y2) ∧ W.cell? ⟨b, off + q * 9 + 3, none⟩ = some (.int .i64 y3) ∧ W.cell? ⟨b, off + q * 9 + 4, none⟩ = some (.int .i64 y4) ∧ W.cell? ⟨b, off + q * 9 + 5, none⟩ = some (.int .i64 y5) ∧ W.cell? ⟨b, off + q * 9 + 6, none⟩ = some (.int .i64 y6) ∧ W.cell? ⟨b, off + q * 9 + 7, none⟩ = some (.int .i64 y7) ∧ W.cell? ⟨b, off + q * 9 + 8, none⟩ = some (.int .i64 y8) from by
        obtain ⟨h1, h2⟩ := HC.out W h
        exact ⟨HYc0.out ▸ h1 q hqn, HY1.out ▸ h2 q 1 hqn (by omega), HY2.out ▸ h2 q 2 hqn (by omega), HY3.out ▸ h2 q 3 hqn (by omega), HY4.out ▸ h2 q 4 hqn (by omega), HY5.out ▸ h2 q 5 hqn (by omega), HY6.out ▸ h2 q 6 hqn (by omega), HY7.out ▸ h2 q 7 hqn (by omega), HY8.out ▸ h2 q 8 hqn (by omega)⟩))
      have D := hide (show flexZ (bsH xs n p) (grK xs n p) (srK xs n p) (t + 1) = flexZ (bsH xs n p) (grK xs n p) (srK xs n p) t ++ [kh, 0, 10000, y6, y7] by rw [flexZ]; unfold bsH grK srK; rw [HQe.out, HKH.out, HY6.out, HY7.out])
      clear HKW HKH
      go_wp2_with (first | (go_at_call 53; refine hcall.mono ?_; rintro e W10 ⟨rfl, hb⟩; have HBa := hide (HB.out.trans (hb.mono hz9)); have hz10 := HBa.out.size; have hct2 := HCt.out W10 HBa.out; obtain ⟨hc0, hc1, hc2, hc3, hc4, hc5, hc6, hc7, hc8⟩ := HCq.out W10 HBa.out; have hba : Below W10.heap.size W10 (W10.alloc (.cells #[.int .i64 y, .int .i64 y1, .int .i64 y2, .int .i64 y3, .int .i64 y4, .int .i64 y5, .int .i64 y6, .int .i64 y7, .int .i64 y8] 43)) := (Below.refl _ _).alloc (Nat.le_refl _) _; have HOb := hide ((HO.out.keep hb).keep hba); have HBb := hide (HBa.out.trans (hba.mono hz10)); have hzb := HBb.out.size; clear hb hba) | (at_builtin; refine wpList_push rfl (.tmp 38) (.tmp 45) 69 72 5 40 i0 _ rfl Try.underlying69 hi0 hz0 hz1 hz2 rfl (by omega) (by omega) (W10.alloc (.cells #[.int .i64 y, .int .i64 y1, .int .i64 y2, .int .i64 y3, .int .i64 y4, .int .i64 y5, .int .i64 y6, .int .i64 y7, .int .i64 y8] 43)) w.heap.size (.slice A t c') t (flexZ (bsH xs n p) (grK xs n p) (srK xs n p) t) rfl HOb.out [kh, 0, 10000, y6, y7] 1 1 (by show Value.slice (some ⟨W10.heap.size + 1, 0, none⟩) 1 1 = _; simp) rfl (by omega) hzb ?_; intro v1 w1 ho1 hb1 hg1 hv1; obtain ⟨A1, c1, hvv1, _, _, _⟩ := ho1.form; subst hvv1; have HO1 := hide ho1; have HB1 := hide (HBb.out.trans hb1); clear ho1 hb1 hg1 hv1))
      go_roundw
      case rel => exact ⟨t + 1, _, _, _, by omega, rfl, by go_num, rfl, by rw [D.out]; exact HO1, HB1⟩
      case measure => simp [intOf]; omega
    · obtain rfl : m = t := by omega
      have D := hide (FlexR.own HO.out HB.out)
      clear HO HB
      go_wp2
      go_ret
      exact D.out
end Go.Proofs.Ythgliihdaockoaa
