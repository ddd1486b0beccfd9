/- Layout: flexible sizes: the reference. Conditions: none. -/
import Derived.Test.YthgliihdaockoaaLayO
import Derived.Test.YthgliihdaockoaaLayF
import Derived.Test.YthgliihdaockoaaShareX
import Derived.Deep.RegionHeld3
namespace Go.Proofs.Ythgliihdaockoaa
open Go.RowKit
set_option linter.unusedVariables false
set_option linter.unusedSimpArgs false
/-- m flexible sizes, five numbers each -/
def flexZ (base gr sr : Nat → Int) : Nat → List Int
  | 0 => []
  | m + 1 => flexZ base gr sr m ++ [base m, 0, 10000, gr m, sr m]
theorem flexZ_len (base gr sr : Nat → Int) (m : Nat) : (flexZ base gr sr m).length = m * 5 := by
  induction m with
  | zero => rfl
  | succ m ih => rw [flexZ, List.length_append, ih]; simp; omega
theorem flexZ_at {base gr sr : Nat → Int} {m t : Nat} (ht : t < m) : (flexZ base gr sr m).getD (t * 5) 0 = base t ∧ (flexZ base gr sr m).getD (t * 5 + 1) 0 = 0 ∧ (flexZ base gr sr m).getD (t * 5 + 2) 0 = 10000 ∧ (flexZ base gr sr m).getD (t * 5 + 3) 0 = gr t ∧ (flexZ base gr sr m).getD (t * 5 + 4) 0 = sr t := by
  induction m with
  | zero => omega
  | succ m ih =>
    have hl := flexZ_len base gr sr m
    have hap : ∀ j, j < m * 5 → (flexZ base gr sr (m + 1)).getD j 0 = (flexZ base gr sr m).getD j 0 := fun j hj => by
      rw [flexZ, List.getD_eq_getElem?_getD, List.getD_eq_getElem?_getD, List.getElem?_append_left (by omega)]
    have hne : ∀ j, j < 5 → (flexZ base gr sr (m + 1)).getD (m * 5 + j) 0 = [base m, 0, 10000, gr m, sr m].getD j 0 := fun j hj => by
      rw [flexZ, List.getD_eq_getElem?_getD, List.getD_eq_getElem?_getD, List.getElem?_append_right (by omega), hl, show m * 5 + j - m * 5 = j by omega]
    by_cases e : t = m
    · subst e
      exact ⟨hne 0 (by omega), hne 1 (by omega), hne 2 (by omega), hne 3 (by omega), hne 4 (by omega)⟩
    · rw [hap _ (by omega), hap _ (by omega), hap _ (by omega), hap _ (by omega), hap _ (by omega)]
      exact ih (by omega)
theorem Ints.flexAt {w : World} {B m : Nat} {a : Option Addr} {base gr sr : Nat → Int} (h : Ints .i64 w B a (m * 5) (flexZ base gr sr m)) (hm : 0 < m) :
    ∃ b off, a = some ⟨b, off, none⟩ ∧ b < B ∧ ∀ t, t < m → w.cell? ⟨b, off + t * 5, none⟩ = some (.int .i64 (base t)) ∧ w.cell? ⟨b, off + t * 5 + 1, none⟩ = some (.int .i64 0) ∧ w.cell? ⟨b, off + t * 5 + 2, none⟩ = some (.int .i64 10000) ∧ w.cell? ⟨b, off + t * 5 + 3, none⟩ = some (.int .i64 (gr t)) ∧ w.cell? ⟨b, off + t * 5 + 4, none⟩ = some (.int .i64 (sr t)) := by
  obtain ⟨b, off, e, hb, hc⟩ := h.2.2 (by omega)
  refine ⟨b, off, e, hb, fun t ht => ?_⟩
  obtain ⟨e0, e1, e2, e3, e4⟩ := flexZ_at (base := base) (gr := gr) (sr := sr) ht
  have h0 := hc (t * 5) (by omega)
  have h1 := hc (t * 5 + 1) (by omega)
  have h2 := hc (t * 5 + 2) (by omega)
  have h3 := hc (t * 5 + 3) (by omega)
  have h4 := hc (t * 5 + 4) (by omega)
  rw [e0] at h0
  rw [e1, ← Nat.add_assoc] at h1
  rw [e2, ← Nat.add_assoc] at h2
  rw [e3, ← Nat.add_assoc] at h3
  rw [e4, ← Nat.add_assoc] at h4
  exact ⟨h0, h1, h2, h3, h4⟩
theorem fl_snoc (k : Nat) (f : Nat → Int) : fl (k + 1) f = fl k f ++ [f k] := by unfold fl; rw [List.range_succ, List.map_append]; rfl
theorem toInt_true (w : World) : Calls Try.prog 73 #[.bool true] w fun e w' => e = .returned (.int .i64 1) ∧ w = w' := by
  go_enter Try.func73, Try.ntmps73
  go_wp2
  go_ret
  exact ⟨rfl, rfl⟩
theorem toInt_false (w : World) : Calls Try.prog 73 #[.bool false] w fun e w' => e = .returned (.int .i64 0) ∧ w = w' := by
  go_enter Try.func73, Try.ntmps73
  go_wp2
  go_ret
  exact ⟨rfl, rfl⟩
theorem toInt_1 {b : Bool} (h : b = true) (w : World) : Calls Try.prog 73 #[.bool b] w fun e w' => e = .returned (.int .i64 1) ∧ w = w' := h ▸ toInt_true w
theorem toInt_0 {b : Bool} (h : b = false) (w : World) : Calls Try.prog 73 #[.bool b] w fun e w' => e = .returned (.int .i64 0) ∧ w = w' := h ▸ toInt_false w
theorem share_small {dn : Bool} {wt out : Nat → Int} {m : Nat} {left : Int} (h : WtOk wt m) (hl : 0 ≤ left) (hm : m ≤ 8) (hb : left ≤ 200000) : Small 1000000000 (shareL left (wD dn wt out m)) := fun x hx => by
  have h0 := sumI_range (shareL left (wD dn wt out m))
  obtain ⟨i, hi, rfl⟩ := List.getElem_of_mem hx
  have hi' : i < m := by rw [shareL_len, wD_len] at hi; exact hi
  have e : (shareL left (wD dn wt out m))[i] = (shareL left (wD dn wt out m)).getD i 0 := by rw [List.getD_eq_getElem?_getD, List.getElem?_eq_getElem hi]; rfl
  have h1 := share_bd (dn := dn) (out := out) h hl hi'
  have h4 : sumI (shareL left (wD dn wt out m)) ≤ left := by
    by_cases e : sumI (wD dn wt out m) = 0
    · rw [shareL_sum0 e]; exact hl
    · rw [shareL_sum (by have := wD_sum (dn := dn) (out := out) h; omega)]; exact Int.le_refl _
  have h5 := sumF_take_le (f := fun t => (shareL left (wD dn wt out m)).getD t 0) (n := m) (fun j hj => share_bd h hl hj) (k := i + 1) (by omega)
  rw [sumF_share, sumF_range_succ] at h5
  have h6 := sumF_nonneg (f := fun t => (shareL left (wD dn wt out m)).getD t 0) (l := List.range i) fun j hj => share_bd h hl (by have := List.mem_range.1 hj; omega)
  rw [e]
  omega
set_option maxHeartbeats 1000000 in
theorem bases_any (B : Nat) (a : Option Addr) (m c : Nat) (base gr sr : Nat → Int) (w : World) (hA : Ints .i64 w B a (m * 5) (flexZ base gr sr m)) (hB : B ≤ w.heap.size) (hm : m ≤ 8) :
    Calls Try.prog 64 #[.slice a m c] w (ListR (fl m base) w) := by
  obtain ⟨i0, hi0, hz0, hz1, hz2⟩ := info_parts int_info
  have HA := hide (fun W (h : Below w.heap.size w W) => hA.below h hB)
  have HS := hide (show Own 3 1 (w.alloc (.cells #[] 3)) w.heap.size (.slice (some ⟨w.heap.size, 0, none⟩) 0 0) 0 [] from Own.made 3 1 w #[] 0 w.heap.size (Nat.le_refl _) (by omega) rfl)
  have HB := hide (show Below w.heap.size w (w.alloc (.cells #[] 3)) from (Below.refl _ _).alloc (Nat.le_refl _) _)
  clear hA
  go_enter Try.func64, Try.ntmps64
  go_wp2
  generalize w.alloc (.cells #[] 3) = W0 at HS HB ⊢
  go_loopw [3, 4] (fun s3 s4 wr => ∃ (t c' : Nat) (A : Option Addr) (W9 : World), t ≤ m ∧ s3 = .slice A t c' ∧ s4 = .int .i64 t ∧ W9 = wr ∧ Hid (Own 3 1 W9 w.heap.size (.slice A t c') t (fl t base)) ∧ Hid (Below w.heap.size w W9)) (fun _ s4 _ => m - (intOf s4).toNat)
  case atStart => exact ⟨0, 0, _, _, Nat.zero_le _, rfl, rfl, rfl, HS, HB⟩
  case round =>
    clear HS HB
    obtain ⟨t, c', A, W9, htm, rfl, rfl, rfl, HO, HB⟩ := hrel
    have hz9 := HB.out.size
    by_cases hlt : t < m
    · have hlt' : (t : Int) < (m : Int) := by omega
      obtain ⟨b, off, rfl, hb9, hcell⟩ := (HA.out _ HB.out).flexAt (by omega)
      have hc0 := (hcell t hlt).1
      clear hcell
      obtain ⟨x, hx⟩ : ∃ x, base t = x := ⟨_, rfl⟩
      have HX := hide hx
      rw [hx] at hc0
      clear hx
      go_wp2_with (at_builtin; refine wpList_push rfl (.tmp 12) (.tmp 18) 26 3 1 8 i0 _ rfl Try.underlying26 hi0 hz0 hz1 hz2 rfl (by omega) (by omega) W9 w.heap.size (.slice A t c') t (fl t base) rfl HO.out [x] 1 1 rfl rfl (by omega) hz9 ?_; intro v1 w1 ho1 hb1 hg1 hv1; obtain ⟨A1, c1, hvv1, _, _, _⟩ := ho1.form; subst hvv1; have HO1 := hide ho1; have HB1 := hide (HB.out.trans hb1); clear ho1 hb1 hg1 hv1)
      go_roundw
      case rel => exact ⟨t + 1, _, _, _, by omega, rfl, by go_num, rfl, by rw [fl_snoc, HX.out]; exact HO1, HB1⟩
      case measure => simp [intOf]; omega
    · obtain rfl : m = t := by omega
      have D := hide (ListR.own HO.out HB.out)
      go_wp2
      go_ret
      exact D.out
/-- sizes when t of them have taken their share -/
def midD (dn : Bool) (wt out : Nat → Int) (m : Nat) (left : Int) (t : Nat) (j : Nat) : Int := if j < t then stepD dn wt out m left j else out j
def midL (dn : Bool) (wt out : Nat → Int) (m : Nat) (left : Int) (t : Nat) : Int := left - sumF (takeD dn wt out m left) (List.range t)
theorem midL_bd {dn : Bool} {wt out : Nat → Int} {m : Nat} {left : Int} (h : WtOk wt m) (ho : OutOk out m) (hl : 0 ≤ left) {t : Nat} (ht : t ≤ m) : 0 ≤ midL dn wt out m left t + 80000 ∧ midL dn wt out m left t ≤ left := by
  have h1 := sumF_nonneg (f := takeD dn wt out m left) (l := List.range t) fun i hi => (takeD_bd h ho hl (by have := List.mem_range.1 hi; omega)).1
  have h2 : sumF (takeD dn wt out m left) (List.range t) ≤ sumF (takeD dn wt out m left) (List.range m) := sumF_take_le (fun i hi => (takeD_bd h ho hl hi).1) ht
  have h3 : sumF (takeD dn wt out m left) (List.range m) ≤ sumF (fun t => (shareL left (wD dn wt out m)).getD t 0) (List.range m) := sumF_le_of fun i hi => (takeD_bd h ho hl (List.mem_range.1 hi)).2.2
  rw [sumF_share] at h3
  have h4 : sumI (shareL left (wD dn wt out m)) ≤ left := by
    by_cases e : sumI (wD dn wt out m) = 0
    · rw [shareL_sum0 e]; exact hl
    · rw [shareL_sum (by have := wD_sum (dn := dn) (out := out) h; omega)]; exact Int.le_refl _
  unfold midL
  omega
set_option maxRecDepth 100000 in
set_option maxHeartbeats 8000000 in
theorem grow_any (B lo hi : Nat) (a ao : Option Addr) (m c co : Nat) (base gr sr out0 : Nat → Int) (left0 : Int) (w : World) (hA : Ints .i64 w B a (m * 5) (flexZ base gr sr m)) (hB : B ≤ lo) (hlo : lo ≤ hi) (hhi : hi ≤ w.heap.size) (hm : 1 ≤ m ∧ m ≤ 8)
    (hO : Row 3 w lo hi ao m (fl m out0)) (hok : OutOk out0 m) (hw : WtOk gr m) (hl : 0 ≤ left0 ∧ left0 ≤ 200000) :
    Calls Try.prog 66 #[.slice a m c, .slice ao m co, .int .i64 left0] w fun e w' => e = .returned (.slice ao m co) ∧ Row 3 w' lo hi ao m (fl m (flexF false gr m (left0 + 1).toNat left0 out0)) ∧ Only lo hi w w' := by
  obtain ⟨i0, hi0, hz0, hz1', hz2'⟩ := info_parts int_info
  have HA := hide (fun W (h : Only lo hi w W) => hA.only h hB (by omega))
  have HW := hide hw
  obtain ⟨bo, oo, rfl, hbo1, hbo2⟩ : ∃ bo oo, ao = some ⟨bo, oo, none⟩ ∧ lo ≤ bo ∧ bo < hi := by
    obtain ⟨g, off, cur, e, h1, h2, -⟩ := hO.2 (by omega)
    exact ⟨g, off, e, h1, h2⟩
  have HO0 := hide hO
  have HK0 := hide hok
  have HR0 := hide (Only.refl lo hi w)
  clear hA hw hO hok
  go_enter Try.func66, Try.ntmps66
  go_wp2
  go_loopw [2, 7, 8, 9, 10, 11] (fun s2 _ _ _ _ _ wr => ∃ (left : Int) (f : Nat) (out : Nat → Int) (W9 : World), 0 ≤ left ∧ left ≤ 200000 ∧ left < f ∧ s2 = .int .i64 left ∧ W9 = wr ∧ Hid (flexF false gr m f left out = flexF false gr m (left0 + 1).toNat left0 out0) ∧ Hid (OutOk out m) ∧ Hid (Row 3 W9 lo hi (some ⟨bo, oo, none⟩) m (fl m out)) ∧ Hid (Only lo hi w W9)) (fun s2 _ _ _ _ _ _ => (intOf s2).toNat)
  case atStart => exact ⟨left0, (left0 + 1).toNat, out0, _, hl.1, hl.2, by omega, rfl, rfl, hide rfl, HK0, HO0, HR0⟩
  case round =>
    clear HK0 HO0 HR0
    obtain ⟨left, f, out, W9, hl0, hl2, hlf, rfl, rfl, HF, HK, HO, HR⟩ := hrel
    have hz9 := HR.out.size
    obtain ⟨b, off, rfl, hb9, hcell⟩ := (HA.out _ HR.out).flexAt (by omega)
    have HC := hide hcell
    have HS7 := hide (show Own 3 1 (W9.alloc (.cells #[] 3)) W9.heap.size (.slice (some ⟨W9.heap.size, 0, none⟩) 0 0) 0 [] from Own.made 3 1 W9 #[] 0 W9.heap.size (Nat.le_refl _) (by omega) rfl)
    have HB7 := hide (show Below W9.heap.size W9 (W9.alloc (.cells #[] 3)) from (Below.refl _ _).alloc (Nat.le_refl _) _)
    clear hcell
    go_wp2
    generalize W9.alloc (.cells #[] 3) = Wx at HS7 HB7 ⊢
    go_loopw [7, 8] (fun s7 s8 wr => ∃ (t c7 : Nat) (A7 : Option Addr) (W8 : World), t ≤ m ∧ s7 = .slice A7 t c7 ∧ s8 = .int .i64 t ∧ W8 = wr ∧ Hid (Own 3 1 W8 W9.heap.size (.slice A7 t c7) t (fl t (fun s => (wD false gr out m).getD s 0))) ∧ Hid (Below W9.heap.size W9 W8)) (fun _ s8 _ => m - (intOf s8).toNat)
    case atStart => exact ⟨0, 0, _, _, Nat.zero_le _, rfl, rfl, rfl, HS7, HB7⟩
    case round =>
      clear HS7 HB7
      obtain ⟨t, c7, A7, W8, htm, rfl, rfl, rfl, HO7, HB8⟩ := hrel
      have hz8 := HB8.out.size
      by_cases hlt : t < m
      · have hlt' : (t : Int) < (m : Int) := by omega
        have hc1 := (HB8.out.cell (p := ⟨b, off + t * 5 + 3, none⟩) (by show b < W9.heap.size; omega)).trans (HC.out t hlt).2.2.2.1
        have hc2 := (HB8.out.cell (p := ⟨bo, oo + t, none⟩) (by show bo < W9.heap.size; omega)).trans (HO.out.cell t hlt).1
        have hc3 := (HB8.out.cell (p := ⟨b, off + t * 5 + 2, none⟩) (by show b < W9.heap.size; omega)).trans (HC.out t hlt).2.2.1
        rw [fl_at out hlt] at hc2
        have hwy := HW.out t hlt
        have hoo := HK.out t hlt
        obtain ⟨y, hy⟩ : ∃ y, gr t = y := ⟨_, rfl⟩
        obtain ⟨o, ho⟩ : ∃ o, out t = o := ⟨_, rfl⟩
        have HYt := hide hy
        have HOt := hide ho
        rw [hy] at hc1 hwy
        rw [ho] at hc2 hoo
        clear hy ho
        have ey : IntKind.i64.wrap y = y := IntWalk.i64_in _ (by omega)
        by_cases hcd : o < 10000
        · have HOa := hide (show ((W8.drew).alloc (.cells #[.int .i64 y] 3)).ownsRow W9.heap.size 3 1 (.slice A7 t c7) t (iv (fl t (fun s => (wD false gr out m).getD s 0))) from World.ownsRow.alloc HO7.out _)
          have HRd := hide (reads_new 3 W8.drew 1 1 [y] rfl)
          have D := hide (show (wD false gr out m).getD t 0 = y by rw [wD_at hlt, HOt.out, HYt.out]; unfold farD; rw [if_neg Bool.false_ne_true, if_pos (by omega)])
          go_wp2_with fail
          first | go_region_held3 (fun w' => w'.cell? ⟨b, off + t * 5 + 3, none⟩ = some (.int .i64 y) ∧ w'.cell? ⟨bo, oo + t, none⟩ = some (.int .i64 o) ∧ w'.cell? ⟨b, off + t * 5 + 2, none⟩ = some (.int .i64 10000)) (first | go_keep | exact ⟨hc1, hc2, hc3⟩ | exact ⟨hd1, hd2, hd3⟩) (first | (go_at_call 73; refine (toInt_1 (by first | rfl | simpa using hcd) _).mono ?_; rintro e w' ⟨rfl, rfl⟩) | (refine step_append_any _ (by rfl) _ _ _ (by rfl) W9.heap.size 3 i0 _ 1 8 Try.underlying26 hi0 hz0 hz1' hz2' rfl (by omega) (.slice A7 t c7) t (iv (fl t (fun s => (wD false gr out m).getD s 0))) (by rfl) HOa.out (W8.heap.size + 1) (some ⟨W8.heap.size, 0, none⟩) 1 1 (iv [y]) (by rfl) HRd.out (iv_one _) (by unfold maxLen; omega) (by omega) (by simp; omega) ?_; intro v1 w1 ho1 hg1 hv1; have hgw := only_trans (only_drew (World.grownBy_alloc W8 _ _)) hg1; have hbw := Own.below HO7.out hz8 hgw; have hd1 := (hbw.cell (p := ⟨b, off + t * 5 + 3, none⟩) (by show b < W9.heap.size; omega)).trans hc1; have hd2 := (hbw.cell (p := ⟨bo, oo + t, none⟩) (by show bo < W9.heap.size; omega)).trans hc2; have hd3 := (hbw.cell (p := ⟨b, off + t * 5 + 2, none⟩) (by show b < W9.heap.size; omega)).trans hc3)) | fail
          have HO1 := hide (show Own 3 1 w1 W9.heap.size v1 (t + 1) (fl (t + 1) (fun s => (wD false gr out m).getD s 0)) by rw [fl_snoc, D.out]; rw [← iv_append] at ho1; exact ho1)
          have HB1 := hide (HB8.out.trans hbw)
          obtain ⟨A1, c1, hvv1, _, _, _⟩ := HO1.out.form
          subst hvv1
          clear ho1 hg1 hv1 hgw hbw HOa HRd HO7 HB8 hc1 hc2 hc3 hd1 hd2 hd3 D
          go_wp2
          go_roundw
          case rel => exact ⟨t + 1, _, _, _, by omega, rfl, by go_num, rfl, HO1, HB1⟩
          case measure => simp [intOf]; omega
        · have hcd' : ¬ o < 10000 := hcd
          have HOa := hide (show ((W8.drew).alloc (.cells #[.int .i64 0] 3)).ownsRow W9.heap.size 3 1 (.slice A7 t c7) t (iv (fl t (fun s => (wD false gr out m).getD s 0))) from World.ownsRow.alloc HO7.out _)
          have HRd := hide (reads_new 3 W8.drew 1 1 [0] rfl)
          have D := hide (show (wD false gr out m).getD t 0 = 0 by rw [wD_at hlt, HOt.out, HYt.out]; unfold farD; rw [if_neg Bool.false_ne_true, if_neg (by omega)])
          go_wp2_with fail
          first | go_region_held3 (fun w' => w'.cell? ⟨b, off + t * 5 + 3, none⟩ = some (.int .i64 y) ∧ w'.cell? ⟨bo, oo + t, none⟩ = some (.int .i64 o) ∧ w'.cell? ⟨b, off + t * 5 + 2, none⟩ = some (.int .i64 10000)) (first | go_keep | exact ⟨hc1, hc2, hc3⟩ | exact ⟨hd1, hd2, hd3⟩) (first | (go_at_call 73; refine (toInt_0 (by first | rfl | simpa using hcd) _).mono ?_; rintro e w' ⟨rfl, rfl⟩) | (refine step_append_any _ (by rfl) _ _ _ (by rfl) W9.heap.size 3 i0 _ 1 8 Try.underlying26 hi0 hz0 hz1' hz2' rfl (by omega) (.slice A7 t c7) t (iv (fl t (fun s => (wD false gr out m).getD s 0))) (by rfl) HOa.out (W8.heap.size + 1) (some ⟨W8.heap.size, 0, none⟩) 1 1 (iv [0]) (by rfl) HRd.out (iv_one _) (by unfold maxLen; omega) (by omega) (by simp; omega) ?_; intro v1 w1 ho1 hg1 hv1; have hgw := only_trans (only_drew (World.grownBy_alloc W8 _ _)) hg1; have hbw := Own.below HO7.out hz8 hgw; have hd1 := (hbw.cell (p := ⟨b, off + t * 5 + 3, none⟩) (by show b < W9.heap.size; omega)).trans hc1; have hd2 := (hbw.cell (p := ⟨bo, oo + t, none⟩) (by show bo < W9.heap.size; omega)).trans hc2; have hd3 := (hbw.cell (p := ⟨b, off + t * 5 + 2, none⟩) (by show b < W9.heap.size; omega)).trans hc3)) | fail
          have HO1 := hide (show Own 3 1 w1 W9.heap.size v1 (t + 1) (fl (t + 1) (fun s => (wD false gr out m).getD s 0)) by rw [fl_snoc, D.out]; rw [← iv_append] at ho1; exact ho1)
          have HB1 := hide (HB8.out.trans hbw)
          obtain ⟨A1, c1, hvv1, _, _, _⟩ := HO1.out.form
          subst hvv1
          clear ho1 hg1 hv1 hgw hbw HOa HRd HO7 HB8 hc1 hc2 hc3 hd1 hd2 hd3 D
          go_wp2
          go_roundw
          case rel => exact ⟨t + 1, _, _, _, by omega, rfl, by go_num, rfl, HO1, HB1⟩
          case measure => simp [intOf]; omega
      · obtain rfl : m = t := by omega
        have HWs := hide (show Own 3 1 W8 W9.heap.size (.slice A7 m c7) m (wD false gr out m) by
          have h := HO7.out
          rw [show fl m (fun s => (wD false gr out m).getD s 0) = wD false gr out m from (by
            apply List.ext_getElem
            · rw [fl_len, wD_len]
            · intro i h1 h2
              simp only [fl, List.getElem_map, List.getElem_range]
              rw [List.getD_eq_getElem?_getD, List.getElem?_eq_getElem h2]; rfl)] at h
          exact h)
        obtain ⟨A7', c7', e7, h71, h72, hrow7⟩ := HWs.out.form
        injection e7 with q1 q2 q3
        subst q1 q3
        rw [Nat.mul_one] at hrow7
        have HSh := hide (specShare_any W8.heap.size A7 m c7 (wD false gr out m) left W8 hrow7.ints (Nat.le_refl _) hm.2 (wD_ok HW.out) ⟨hl0, hl2⟩)
        have HK2 := hide (fun t (ht : t < m) => takeD_bd (dn := false) (left := left) HW.out HK.out hl0 ht)
        have HK3 := hide (stepD_ok (dn := false) (left := left) HW.out HK.out hl0)
        clear hrow7 h71 h72 HO7 HWs
        go_wp2_with fail
        refine HSh.out.mono ?_
        rintro e W7 ⟨A9, n9, c9, rfl, hn9, hc9, hr9, hb7⟩
        obtain rfl : m = n9 := by have h1 := hr9.1; rw [shareL_len, wD_len] at h1; exact h1
        have HB7 := hide (HB8.out.trans (hb7.mono hz8))
        have hz7 := hb7.size
        have HM := hide hr9.ints
        have HM9 := hide hr9
        clear hr9 hb7 HSh hn9 hc9 HB8
        have hsm : Small 1000000000 (shareL left (wD false gr out m)) := share_small HW.out hl0 hm.2 hl2
        have hsum := specSum_any W7.heap.size A9 m c9 (shareL left (wD false gr out m)) W7 HM.out (by omega) hsm
        obtain ⟨q0, hq0⟩ : ∃ q0, sumI (shareL left (wD false gr out m)) = q0 := ⟨_, rfl⟩
        rw [hq0] at hsum
        have HQ0 := hide hq0
        clear hq0 hsm
        obtain ⟨g, rfl⟩ : ∃ g, f = g + 1 := ⟨f - 1, by omega⟩
        by_cases hq : q0 = 0
        · have hq' : (q0 == 0) = true := by simpa using hq
          have D := hide (show Row 3 W7 lo hi (some ⟨bo, oo, none⟩) m (fl m (flexF false gr m (left0 + 1).toNat left0 out0)) by
            rw [← HF.out, flexF, if_pos (by rw [HQ0.out]; exact hq)]
            exact HO.out.below HB7.out (by omega))
          have DR := hide (HR.out.trans (Only.ofBelow HB7.out))
          clear hq HF HO HK2 HK3 HC
          go_wp2_with (go_at_call 65; refine hsum.mono ?_; rintro e w' ⟨rfl, rfl⟩)
          go_ret
          exact ⟨rfl, D.out, DR.out⟩
        · have hq' : (q0 == 0) = false := by simpa using hq
          have hrb := restD_bd (dn := false) (left := left) HW.out HK.out hl0 (by rw [HQ0.out]; exact hq)
          have HF2 := hide (show flexF false gr m g (restD false gr out m left) (stepD false gr out m left) = flexF false gr m (left0 + 1).toNat left0 out0 by
            rw [← HF.out, flexF, if_neg (by rw [HQ0.out]; exact hq)])
          have HOm := hide (show Row 3 W7 lo hi (some ⟨bo, oo, none⟩) m (fl m (midD false gr out m left 0)) by
            rw [fl_congr (g := out) (fun i _ => by unfold midD; rw [if_neg (by omega)])]
            exact HO.out.below HB7.out (by omega))
          have HM0 := hide (show midL false gr out m left 0 = left by simp [midL, sumF_nil])
          have HRm := hide (HR.out.trans (Only.ofBelow HB7.out))
          have HShb := hide (fun t (ht : t < m) => share_bd (dn := false) (out := out) HW.out hl0 ht)
          have HSh2 := hide (fun t (ht : t < m) => share_small (dn := false) (out := out) HW.out hl0 hm.2 hl2 _ (getD_mem (xs := shareL left (wD false gr out m)) (by rw [shareL_len, wD_len]; exact ht)))
          have HmL := hide (fun t (ht : t ≤ m) => midL_bd (dn := false) (left := left) HW.out HK.out hl0 ht)
          clear hq HF HO HC HQ0 HK2
          go_wp2_with (go_at_call 65; refine hsum.mono ?_; rintro e w' ⟨rfl, rfl⟩)
          go_loopw [2, 10, 11] (fun s2 s10 _ wr => ∃ (t : Nat) (Wc : World), t ≤ m ∧ s2 = .int .i64 (midL false gr out m left t) ∧ s10 = .int .i64 t ∧ Wc = wr ∧ Hid (Row 3 Wc lo hi (some ⟨bo, oo, none⟩) m (fl m (midD false gr out m left t))) ∧ Hid (Row 3 Wc W8.heap.size W7.heap.size A9 m (shareL left (wD false gr out m))) ∧ Hid (Only lo hi w Wc)) (fun _ s10 _ _ => m - (intOf s10).toNat)
          case atStart => exact ⟨0, _, Nat.zero_le _, by rw [HM0.out], rfl, rfl, HOm, HM9, HRm⟩
          case round =>
            clear HOm HM9 HRm HM HB7 hsum HM0
            obtain ⟨t, Wc, htm, rfl, rfl, rfl, HOm, HM9, HRm⟩ := hrel
            have hzc := HRm.out.size
            have hmb := HmL.out t htm
            obtain ⟨L, hL⟩ : ∃ L, midL false gr out m left t = L := ⟨_, rfl⟩
            rw [hL] at hmb
            rw [hL]
            have HLt := hide hL
            clear hL
            by_cases hlt : t < m
            · have hlt' : (t : Int) < (m : Int) := by omega
              obtain ⟨b', off', eb, hb9', hcell⟩ := (HA.out _ HRm.out).flexAt (by omega)
              injection eb with eb
              injection eb with eb1 eb2
              subst eb1 eb2
              have hc1 := (hcell t hlt).2.2.1
              have hc2 := (HOm.out.cell t hlt).1
              have hf2 := (HOm.out.cell t hlt).2
              obtain ⟨ag, aof, rfl, -, hsh⟩ := HM9.out.ints.2.2 (by omega)
              have hc3 := hsh t hlt
              rw [fl_at _ hlt] at hc2
              have hoo := HK.out t hlt
              have hss := HShb.out t hlt
              have hss2 := HSh2.out t hlt
              obtain ⟨o, ho⟩ : ∃ o, out t = o := ⟨_, rfl⟩
              obtain ⟨s, hs⟩ : ∃ s, (shareL left (wD false gr out m)).getD t 0 = s := ⟨_, rfl⟩
              rw [show midD false gr out m left t t = out t from if_neg (by omega), ho] at hc2
              rw [hs] at hc3 hss hss2
              rw [ho] at hoo
              have HT := hide (show takeD false gr out m left t = min s (10000 - o) by unfold takeD farD; rw [hs, ho]; rw [if_neg Bool.false_ne_true])
              have HO := hide ho
              clear ho hs hcell hsh
              have hbb : b < lo := by omega
              have hsr : s ≤ 1000000000 := by omega
              clear hss2
              by_cases hle : (10000 - o) < s
              · have D := hide (show fl m (midD false gr out m left (t + 1)) = (fl m (midD false gr out m left t)).set t (o + (10000 - o)) by
                  rw [fl_set]
                  refine fl_congr fun j hj => ?_
                  by_cases e : j = t
                  · subst e; rw [if_pos rfl]; unfold midD; rw [if_pos (by omega)]; unfold stepD; rw [HO.out, HT.out]; rw [if_neg Bool.false_ne_true]; omega
                  · rw [if_neg e]; unfold midD; by_cases e2 : j < t
                    · rw [if_pos (by omega), if_pos e2]
                    · rw [if_neg (by omega), if_neg e2])
                have D2 := hide (show midL false gr out m left (t + 1) = L - (10000 - o) by have h := HLt.out; unfold midL at h ⊢; rw [sumF_range_succ, HT.out]; omega)
                clear HLt HT HO
                go_wp2
                go_region
                go_wp2
                go_roundw
                case rel => exact ⟨t + 1, _, by omega, by rw [D2.out], by go_num, rfl, by rw [D.out]; exact hide (((HOm.out).put hlt (o + (10000 - o)))), hide (HM9.out.keep fun k h1 _ _ => Below.heap_setCell _ _ _ _ (by show k ≠ bo; omega)), hide (HRm.out.set hbo1 hbo2 _).drew⟩
                case measure => simp [intOf]; omega
              · have D := hide (show fl m (midD false gr out m left (t + 1)) = (fl m (midD false gr out m left t)).set t (o + s) by
                  rw [fl_set]
                  refine fl_congr fun j hj => ?_
                  by_cases e : j = t
                  · subst e; rw [if_pos rfl]; unfold midD; rw [if_pos (by omega)]; unfold stepD; rw [HO.out, HT.out]; rw [if_neg Bool.false_ne_true]; omega
                  · rw [if_neg e]; unfold midD; by_cases e2 : j < t
                    · rw [if_pos (by omega), if_pos e2]
                    · rw [if_neg (by omega), if_neg e2])
                have D2 := hide (show midL false gr out m left (t + 1) = L - s by have h := HLt.out; unfold midL at h ⊢; rw [sumF_range_succ, HT.out]; omega)
                clear HLt HT HO
                go_wp2
                go_region
                go_wp2
                go_roundw
                case rel => exact ⟨t + 1, _, by omega, by rw [D2.out], by go_num, rfl, by rw [D.out]; exact hide (((HOm.out).put hlt (o + s))), hide (HM9.out.keep fun k h1 _ _ => Below.heap_setCell _ _ _ _ (by show k ≠ bo; omega)), hide (HRm.out.set hbo1 hbo2 _).drew⟩
                case measure => simp [intOf]; omega
            · obtain rfl : m = t := by omega
              have D := hide (show restD false gr out m left = L by rw [← HLt.out]; rfl)
              have DO := hide (show Row 3 Wc lo hi (some ⟨bo, oo, none⟩) m (fl m (stepD false gr out m left)) by
                rw [← fl_congr (f := midD false gr out m left m) (fun j hj => by unfold midD; rw [if_pos hj])]; exact HOm.out)
              rw [D.out] at hrb HF2
              clear HLt HOm HM9
              go_wp2
              go_roundw
              case rel => exact ⟨L, g, _, _, hrb.1, by omega, by omega, rfl, rfl, HF2, HK3, DO, HRm⟩
              case measure => simp [intOf]; omega
set_option maxRecDepth 100000 in
set_option maxHeartbeats 8000000 in
theorem shrink_any (B lo hi : Nat) (a ao : Option Addr) (m c co : Nat) (base gr sr out0 : Nat → Int) (left0 : Int) (w : World) (hA : Ints .i64 w B a (m * 5) (flexZ base gr sr m)) (hB : B ≤ lo) (hlo : lo ≤ hi) (hhi : hi ≤ w.heap.size) (hm : 1 ≤ m ∧ m ≤ 8)
    (hO : Row 3 w lo hi ao m (fl m out0)) (hok : OutOk out0 m) (hw : WtOk sr m) (hl : 0 ≤ left0 ∧ left0 ≤ 200000) :
    Calls Try.prog 67 #[.slice a m c, .slice ao m co, .int .i64 left0] w fun e w' => e = .returned (.slice ao m co) ∧ Row 3 w' lo hi ao m (fl m (flexF true sr m (left0 + 1).toNat left0 out0)) ∧ Only lo hi w w' := by
  obtain ⟨i0, hi0, hz0, hz1', hz2'⟩ := info_parts int_info
  have HA := hide (fun W (h : Only lo hi w W) => hA.only h hB (by omega))
  have HW := hide hw
  obtain ⟨bo, oo, rfl, hbo1, hbo2⟩ : ∃ bo oo, ao = some ⟨bo, oo, none⟩ ∧ lo ≤ bo ∧ bo < hi := by
    obtain ⟨g, off, cur, e, h1, h2, -⟩ := hO.2 (by omega)
    exact ⟨g, off, e, h1, h2⟩
  have HO0 := hide hO
  have HK0 := hide hok
  have HR0 := hide (Only.refl lo hi w)
  clear hA hw hO hok
  go_enter Try.func67, Try.ntmps67
  go_wp2
  go_loopw [2, 7, 8, 9, 10, 11] (fun s2 _ _ _ _ _ wr => ∃ (left : Int) (f : Nat) (out : Nat → Int) (W9 : World), 0 ≤ left ∧ left ≤ 200000 ∧ left < f ∧ s2 = .int .i64 left ∧ W9 = wr ∧ Hid (flexF true sr m f left out = flexF true sr m (left0 + 1).toNat left0 out0) ∧ Hid (OutOk out m) ∧ Hid (Row 3 W9 lo hi (some ⟨bo, oo, none⟩) m (fl m out)) ∧ Hid (Only lo hi w W9)) (fun s2 _ _ _ _ _ _ => (intOf s2).toNat)
  case atStart => exact ⟨left0, (left0 + 1).toNat, out0, _, hl.1, hl.2, by omega, rfl, rfl, hide rfl, HK0, HO0, HR0⟩
  case round =>
    clear HK0 HO0 HR0
    obtain ⟨left, f, out, W9, hl0, hl2, hlf, rfl, rfl, HF, HK, HO, HR⟩ := hrel
    have hz9 := HR.out.size
    obtain ⟨b, off, rfl, hb9, hcell⟩ := (HA.out _ HR.out).flexAt (by omega)
    have HC := hide hcell
    have HS7 := hide (show Own 3 1 (W9.alloc (.cells #[] 3)) W9.heap.size (.slice (some ⟨W9.heap.size, 0, none⟩) 0 0) 0 [] from Own.made 3 1 W9 #[] 0 W9.heap.size (Nat.le_refl _) (by omega) rfl)
    have HB7 := hide (show Below W9.heap.size W9 (W9.alloc (.cells #[] 3)) from (Below.refl _ _).alloc (Nat.le_refl _) _)
    clear hcell
    go_wp2
    generalize W9.alloc (.cells #[] 3) = Wx at HS7 HB7 ⊢
    go_loopw [7, 8] (fun s7 s8 wr => ∃ (t c7 : Nat) (A7 : Option Addr) (W8 : World), t ≤ m ∧ s7 = .slice A7 t c7 ∧ s8 = .int .i64 t ∧ W8 = wr ∧ Hid (Own 3 1 W8 W9.heap.size (.slice A7 t c7) t (fl t (fun s => (wD true sr out m).getD s 0))) ∧ Hid (Below W9.heap.size W9 W8)) (fun _ s8 _ => m - (intOf s8).toNat)
    case atStart => exact ⟨0, 0, _, _, Nat.zero_le _, rfl, rfl, rfl, HS7, HB7⟩
    case round =>
      clear HS7 HB7
      obtain ⟨t, c7, A7, W8, htm, rfl, rfl, rfl, HO7, HB8⟩ := hrel
      have hz8 := HB8.out.size
      by_cases hlt : t < m
      · have hlt' : (t : Int) < (m : Int) := by omega
        have hc1 := (HB8.out.cell (p := ⟨b, off + t * 5 + 4, none⟩) (by show b < W9.heap.size; omega)).trans (HC.out t hlt).2.2.2.2
        have hc2 := (HB8.out.cell (p := ⟨bo, oo + t, none⟩) (by show bo < W9.heap.size; omega)).trans (HO.out.cell t hlt).1
        have hc3 := (HB8.out.cell (p := ⟨b, off + t * 5 + 1, none⟩) (by show b < W9.heap.size; omega)).trans (HC.out t hlt).2.1
        rw [fl_at out hlt] at hc2
        have hwy := HW.out t hlt
        have hoo := HK.out t hlt
        obtain ⟨y, hy⟩ : ∃ y, sr t = y := ⟨_, rfl⟩
        obtain ⟨o, ho⟩ : ∃ o, out t = o := ⟨_, rfl⟩
        have HYt := hide hy
        have HOt := hide ho
        rw [hy] at hc1 hwy
        rw [ho] at hc2 hoo
        clear hy ho
        have ey : IntKind.i64.wrap y = y := IntWalk.i64_in _ (by omega)
        by_cases hcd : 0 < o
        · have HOa := hide (show ((W8.drew).alloc (.cells #[.int .i64 y] 3)).ownsRow W9.heap.size 3 1 (.slice A7 t c7) t (iv (fl t (fun s => (wD true sr out m).getD s 0))) from World.ownsRow.alloc HO7.out _)
          have HRd := hide (reads_new 3 W8.drew 1 1 [y] rfl)
          have D := hide (show (wD true sr out m).getD t 0 = y by rw [wD_at hlt, HOt.out, HYt.out]; unfold farD; rw [if_pos rfl, if_pos (by omega)])
          go_wp2_with fail
          first | go_region_held3 (fun w' => w'.cell? ⟨b, off + t * 5 + 4, none⟩ = some (.int .i64 y) ∧ w'.cell? ⟨bo, oo + t, none⟩ = some (.int .i64 o) ∧ w'.cell? ⟨b, off + t * 5 + 1, none⟩ = some (.int .i64 0)) (first | go_keep | exact ⟨hc1, hc2, hc3⟩ | exact ⟨hd1, hd2, hd3⟩) (first | (go_at_call 73; refine (toInt_1 (by first | rfl | simpa using hcd) _).mono ?_; rintro e w' ⟨rfl, rfl⟩) | (refine step_append_any _ (by rfl) _ _ _ (by rfl) W9.heap.size 3 i0 _ 1 8 Try.underlying26 hi0 hz0 hz1' hz2' rfl (by omega) (.slice A7 t c7) t (iv (fl t (fun s => (wD true sr out m).getD s 0))) (by rfl) HOa.out (W8.heap.size + 1) (some ⟨W8.heap.size, 0, none⟩) 1 1 (iv [y]) (by rfl) HRd.out (iv_one _) (by unfold maxLen; omega) (by omega) (by simp; omega) ?_; intro v1 w1 ho1 hg1 hv1; have hgw := only_trans (only_drew (World.grownBy_alloc W8 _ _)) hg1; have hbw := Own.below HO7.out hz8 hgw; have hd1 := (hbw.cell (p := ⟨b, off + t * 5 + 4, none⟩) (by show b < W9.heap.size; omega)).trans hc1; have hd2 := (hbw.cell (p := ⟨bo, oo + t, none⟩) (by show bo < W9.heap.size; omega)).trans hc2; have hd3 := (hbw.cell (p := ⟨b, off + t * 5 + 1, none⟩) (by show b < W9.heap.size; omega)).trans hc3)) | fail
          have HO1 := hide (show Own 3 1 w1 W9.heap.size v1 (t + 1) (fl (t + 1) (fun s => (wD true sr out m).getD s 0)) by rw [fl_snoc, D.out]; rw [← iv_append] at ho1; exact ho1)
          have HB1 := hide (HB8.out.trans hbw)
          obtain ⟨A1, c1, hvv1, _, _, _⟩ := HO1.out.form
          subst hvv1
          clear ho1 hg1 hv1 hgw hbw HOa HRd HO7 HB8 hc1 hc2 hc3 hd1 hd2 hd3 D
          go_wp2
          go_roundw
          case rel => exact ⟨t + 1, _, _, _, by omega, rfl, by go_num, rfl, HO1, HB1⟩
          case measure => simp [intOf]; omega
        · have hcd' : ¬ 0 < o := hcd
          have HOa := hide (show ((W8.drew).alloc (.cells #[.int .i64 0] 3)).ownsRow W9.heap.size 3 1 (.slice A7 t c7) t (iv (fl t (fun s => (wD true sr out m).getD s 0))) from World.ownsRow.alloc HO7.out _)
          have HRd := hide (reads_new 3 W8.drew 1 1 [0] rfl)
          have D := hide (show (wD true sr out m).getD t 0 = 0 by rw [wD_at hlt, HOt.out, HYt.out]; unfold farD; rw [if_pos rfl, if_neg (by omega)])
          go_wp2_with fail
          first | go_region_held3 (fun w' => w'.cell? ⟨b, off + t * 5 + 4, none⟩ = some (.int .i64 y) ∧ w'.cell? ⟨bo, oo + t, none⟩ = some (.int .i64 o) ∧ w'.cell? ⟨b, off + t * 5 + 1, none⟩ = some (.int .i64 0)) (first | go_keep | exact ⟨hc1, hc2, hc3⟩ | exact ⟨hd1, hd2, hd3⟩) (first | (go_at_call 73; refine (toInt_0 (by first | rfl | simpa using hcd) _).mono ?_; rintro e w' ⟨rfl, rfl⟩) | (refine step_append_any _ (by rfl) _ _ _ (by rfl) W9.heap.size 3 i0 _ 1 8 Try.underlying26 hi0 hz0 hz1' hz2' rfl (by omega) (.slice A7 t c7) t (iv (fl t (fun s => (wD true sr out m).getD s 0))) (by rfl) HOa.out (W8.heap.size + 1) (some ⟨W8.heap.size, 0, none⟩) 1 1 (iv [0]) (by rfl) HRd.out (iv_one _) (by unfold maxLen; omega) (by omega) (by simp; omega) ?_; intro v1 w1 ho1 hg1 hv1; have hgw := only_trans (only_drew (World.grownBy_alloc W8 _ _)) hg1; have hbw := Own.below HO7.out hz8 hgw; have hd1 := (hbw.cell (p := ⟨b, off + t * 5 + 4, none⟩) (by show b < W9.heap.size; omega)).trans hc1; have hd2 := (hbw.cell (p := ⟨bo, oo + t, none⟩) (by show bo < W9.heap.size; omega)).trans hc2; have hd3 := (hbw.cell (p := ⟨b, off + t * 5 + 1, none⟩) (by show b < W9.heap.size; omega)).trans hc3)) | fail
          have HO1 := hide (show Own 3 1 w1 W9.heap.size v1 (t + 1) (fl (t + 1) (fun s => (wD true sr out m).getD s 0)) by rw [fl_snoc, D.out]; rw [← iv_append] at ho1; exact ho1)
          have HB1 := hide (HB8.out.trans hbw)
          obtain ⟨A1, c1, hvv1, _, _, _⟩ := HO1.out.form
          subst hvv1
          clear ho1 hg1 hv1 hgw hbw HOa HRd HO7 HB8 hc1 hc2 hc3 hd1 hd2 hd3 D
          go_wp2
          go_roundw
          case rel => exact ⟨t + 1, _, _, _, by omega, rfl, by go_num, rfl, HO1, HB1⟩
          case measure => simp [intOf]; omega
      · obtain rfl : m = t := by omega
        have HWs := hide (show Own 3 1 W8 W9.heap.size (.slice A7 m c7) m (wD true sr out m) by
          have h := HO7.out
          rw [show fl m (fun s => (wD true sr out m).getD s 0) = wD true sr out m from (by
            apply List.ext_getElem
            · rw [fl_len, wD_len]
            · intro i h1 h2
              simp only [fl, List.getElem_map, List.getElem_range]
              rw [List.getD_eq_getElem?_getD, List.getElem?_eq_getElem h2]; rfl)] at h
          exact h)
        obtain ⟨A7', c7', e7, h71, h72, hrow7⟩ := HWs.out.form
        injection e7 with q1 q2 q3
        subst q1 q3
        rw [Nat.mul_one] at hrow7
        have HSh := hide (specShare_any W8.heap.size A7 m c7 (wD true sr out m) left W8 hrow7.ints (Nat.le_refl _) hm.2 (wD_ok HW.out) ⟨hl0, hl2⟩)
        have HK2 := hide (fun t (ht : t < m) => takeD_bd (dn := true) (left := left) HW.out HK.out hl0 ht)
        have HK3 := hide (stepD_ok (dn := true) (left := left) HW.out HK.out hl0)
        clear hrow7 h71 h72 HO7 HWs
        go_wp2_with fail
        refine HSh.out.mono ?_
        rintro e W7 ⟨A9, n9, c9, rfl, hn9, hc9, hr9, hb7⟩
        obtain rfl : m = n9 := by have h1 := hr9.1; rw [shareL_len, wD_len] at h1; exact h1
        have HB7 := hide (HB8.out.trans (hb7.mono hz8))
        have hz7 := hb7.size
        have HM := hide hr9.ints
        have HM9 := hide hr9
        clear hr9 hb7 HSh hn9 hc9 HB8
        have hsm : Small 1000000000 (shareL left (wD true sr out m)) := share_small HW.out hl0 hm.2 hl2
        have hsum := specSum_any W7.heap.size A9 m c9 (shareL left (wD true sr out m)) W7 HM.out (by omega) hsm
        obtain ⟨q0, hq0⟩ : ∃ q0, sumI (shareL left (wD true sr out m)) = q0 := ⟨_, rfl⟩
        rw [hq0] at hsum
        have HQ0 := hide hq0
        clear hq0 hsm
        obtain ⟨g, rfl⟩ : ∃ g, f = g + 1 := ⟨f - 1, by omega⟩
        by_cases hq : q0 = 0
        · have hq' : (q0 == 0) = true := by simpa using hq
          have D := hide (show Row 3 W7 lo hi (some ⟨bo, oo, none⟩) m (fl m (flexF true sr m (left0 + 1).toNat left0 out0)) by
            rw [← HF.out, flexF, if_pos (by rw [HQ0.out]; exact hq)]
            exact HO.out.below HB7.out (by omega))
          have DR := hide (HR.out.trans (Only.ofBelow HB7.out))
          clear hq HF HO HK2 HK3 HC
          go_wp2_with (go_at_call 65; refine hsum.mono ?_; rintro e w' ⟨rfl, rfl⟩)
          go_ret
          exact ⟨rfl, D.out, DR.out⟩
        · have hq' : (q0 == 0) = false := by simpa using hq
          have hrb := restD_bd (dn := true) (left := left) HW.out HK.out hl0 (by rw [HQ0.out]; exact hq)
          have HF2 := hide (show flexF true sr m g (restD true sr out m left) (stepD true sr out m left) = flexF true sr m (left0 + 1).toNat left0 out0 by
            rw [← HF.out, flexF, if_neg (by rw [HQ0.out]; exact hq)])
          have HOm := hide (show Row 3 W7 lo hi (some ⟨bo, oo, none⟩) m (fl m (midD true sr out m left 0)) by
            rw [fl_congr (g := out) (fun i _ => by unfold midD; rw [if_neg (by omega)])]
            exact HO.out.below HB7.out (by omega))
          have HM0 := hide (show midL true sr out m left 0 = left by simp [midL, sumF_nil])
          have HRm := hide (HR.out.trans (Only.ofBelow HB7.out))
          have HShb := hide (fun t (ht : t < m) => share_bd (dn := true) (out := out) HW.out hl0 ht)
          have HSh2 := hide (fun t (ht : t < m) => share_small (dn := true) (out := out) HW.out hl0 hm.2 hl2 _ (getD_mem (xs := shareL left (wD true sr out m)) (by rw [shareL_len, wD_len]; exact ht)))
          have HmL := hide (fun t (ht : t ≤ m) => midL_bd (dn := true) (left := left) HW.out HK.out hl0 ht)
          clear hq HF HO HC HQ0 HK2
          go_wp2_with (go_at_call 65; refine hsum.mono ?_; rintro e w' ⟨rfl, rfl⟩)
          go_loopw [2, 10, 11] (fun s2 s10 _ wr => ∃ (t : Nat) (Wc : World), t ≤ m ∧ s2 = .int .i64 (midL true sr out m left t) ∧ s10 = .int .i64 t ∧ Wc = wr ∧ Hid (Row 3 Wc lo hi (some ⟨bo, oo, none⟩) m (fl m (midD true sr out m left t))) ∧ Hid (Row 3 Wc W8.heap.size W7.heap.size A9 m (shareL left (wD true sr out m))) ∧ Hid (Only lo hi w Wc)) (fun _ s10 _ _ => m - (intOf s10).toNat)
          case atStart => exact ⟨0, _, Nat.zero_le _, by rw [HM0.out], rfl, rfl, HOm, HM9, HRm⟩
          case round =>
            clear HOm HM9 HRm HM HB7 hsum HM0
            obtain ⟨t, Wc, htm, rfl, rfl, rfl, HOm, HM9, HRm⟩ := hrel
            have hzc := HRm.out.size
            have hmb := HmL.out t htm
            obtain ⟨L, hL⟩ : ∃ L, midL true sr out m left t = L := ⟨_, rfl⟩
            rw [hL] at hmb
            rw [hL]
            have HLt := hide hL
            clear hL
            by_cases hlt : t < m
            · have hlt' : (t : Int) < (m : Int) := by omega
              obtain ⟨b', off', eb, hb9', hcell⟩ := (HA.out _ HRm.out).flexAt (by omega)
              injection eb with eb
              injection eb with eb1 eb2
              subst eb1 eb2
              have hc1 := (hcell t hlt).2.1
              have hc2 := (HOm.out.cell t hlt).1
              have hf2 := (HOm.out.cell t hlt).2
              obtain ⟨ag, aof, rfl, -, hsh⟩ := HM9.out.ints.2.2 (by omega)
              have hc3 := hsh t hlt
              rw [fl_at _ hlt] at hc2
              have hoo := HK.out t hlt
              have hss := HShb.out t hlt
              have hss2 := HSh2.out t hlt
              obtain ⟨o, ho⟩ : ∃ o, out t = o := ⟨_, rfl⟩
              obtain ⟨s, hs⟩ : ∃ s, (shareL left (wD true sr out m)).getD t 0 = s := ⟨_, rfl⟩
              rw [show midD true sr out m left t t = out t from if_neg (by omega), ho] at hc2
              rw [hs] at hc3 hss hss2
              rw [ho] at hoo
              have HT := hide (show takeD true sr out m left t = min s o by unfold takeD farD; rw [hs, ho]; rw [if_pos rfl])
              have HO := hide ho
              clear ho hs hcell hsh
              have hbb : b < lo := by omega
              have hsr : s ≤ 1000000000 := by omega
              clear hss2
              by_cases hle : o < s
              · have D := hide (show fl m (midD true sr out m left (t + 1)) = (fl m (midD true sr out m left t)).set t (0) by
                  rw [fl_set]
                  refine fl_congr fun j hj => ?_
                  by_cases e : j = t
                  · subst e; rw [if_pos rfl]; unfold midD; rw [if_pos (by omega)]; unfold stepD; rw [HO.out, HT.out]; rw [if_pos rfl]; omega
                  · rw [if_neg e]; unfold midD; by_cases e2 : j < t
                    · rw [if_pos (by omega), if_pos e2]
                    · rw [if_neg (by omega), if_neg e2])
                have D2 := hide (show midL true sr out m left (t + 1) = L - o by have h := HLt.out; unfold midL at h ⊢; rw [sumF_range_succ, HT.out]; omega)
                clear HLt HT HO
                go_wp2
                go_region
                go_wp2
                go_roundw
                case rel => exact ⟨t + 1, _, by omega, by rw [D2.out], by go_num, rfl, by rw [D.out]; exact hide (((HOm.out).put hlt (0))), hide (HM9.out.keep fun k h1 _ _ => Below.heap_setCell _ _ _ _ (by show k ≠ bo; omega)), hide (HRm.out.set hbo1 hbo2 _).drew⟩
                case measure => simp [intOf]; omega
              · have D := hide (show fl m (midD true sr out m left (t + 1)) = (fl m (midD true sr out m left t)).set t (o - s) by
                  rw [fl_set]
                  refine fl_congr fun j hj => ?_
                  by_cases e : j = t
                  · subst e; rw [if_pos rfl]; unfold midD; rw [if_pos (by omega)]; unfold stepD; rw [HO.out, HT.out]; rw [if_pos rfl]; omega
                  · rw [if_neg e]; unfold midD; by_cases e2 : j < t
                    · rw [if_pos (by omega), if_pos e2]
                    · rw [if_neg (by omega), if_neg e2])
                have D2 := hide (show midL true sr out m left (t + 1) = L - s by have h := HLt.out; unfold midL at h ⊢; rw [sumF_range_succ, HT.out]; omega)
                clear HLt HT HO
                go_wp2
                go_region
                go_wp2
                go_roundw
                case rel => exact ⟨t + 1, _, by omega, by rw [D2.out], by go_num, rfl, by rw [D.out]; exact hide (((HOm.out).put hlt (o - s))), hide (HM9.out.keep fun k h1 _ _ => Below.heap_setCell _ _ _ _ (by show k ≠ bo; omega)), hide (HRm.out.set hbo1 hbo2 _).drew⟩
                case measure => simp [intOf]; omega
            · obtain rfl : m = t := by omega
              have D := hide (show restD true sr out m left = L by rw [← HLt.out]; rfl)
              have DO := hide (show Row 3 Wc lo hi (some ⟨bo, oo, none⟩) m (fl m (stepD true sr out m left)) by
                rw [← fl_congr (f := midD true sr out m left m) (fun j hj => by unfold midD; rw [if_pos hj])]; exact HOm.out)
              rw [D.out] at hrb HF2
              clear HLt HOm HM9
              go_wp2
              go_roundw
              case rel => exact ⟨L, g, _, _, hrb.1, by omega, by omega, rfl, rfl, HF2, HK3, DO, HRm⟩
              case measure => simp [intOf]; omega
set_option maxHeartbeats 2000000 in
theorem specFlex_any (B : Nat) (a : Option Addr) (m c : Nat) (base gr sr : Nat → Int) (space : Int) (w : World) (hA : Ints .i64 w B a (m * 5) (flexZ base gr sr m)) (hB : B ≤ w.heap.size) (hm : 1 ≤ m ∧ m ≤ 8)
    (hok : OutOk base m) (hg : WtOk gr m) (hs : WtOk sr m) (hsp : 0 ≤ space ∧ space ≤ 100000) :
    Calls Try.prog 50 #[.slice a m c, .int .i64 space] w (ListR (fl m (flexS base gr sr m space)) w) := by
  have HA := hide (fun W (h : Below w.heap.size w W) => (hA.more hB).below h (Nat.le_refl _))
  have HOk := hide hok
  have HWG := hide hg
  have HWS := hide hs
  have hbas := bases_any B a m c base gr sr w hA hB hm.2
  have hTs : 0 ≤ sumF base (List.range m) ∧ sumF base (List.range m) ≤ 80000 := by
    have h1 := sumF_nonneg (f := base) (l := List.range m) fun i hi => (hok i (List.mem_range.1 hi)).1
    have h2 := sumF_le (f := base) (l := List.range m) (M := 10000) fun i hi => (hok i (List.mem_range.1 hi)).2
    rw [List.length_range] at h2
    omega
  obtain ⟨T, hT⟩ : ∃ T, sumF base (List.range m) = T := ⟨_, rfl⟩
  rw [hT] at hTs
  have HT := hide hT
  obtain ⟨b, off, rfl, hb9, -⟩ := hA.flexAt (by omega)
  clear hT hA hok hg hs
  go_enter Try.func50, Try.ntmps50
  go_wp2_with fail
  refine hbas.mono ?_
  rintro e W1 ⟨A1, m1, c1, rfl, hr, hb⟩
  obtain rfl : m = m1 := by have h := hr.1; rw [fl_len] at h; exact h
  have HB := hide hb
  obtain ⟨bo, oo, rfl⟩ : ∃ bo oo, A1 = some ⟨bo, oo, none⟩ := by
    obtain ⟨g, off, cur, e, -⟩ := hr.2 (by omega)
    exact ⟨g, off, e⟩
  have hsm : Small 1000000000 (fl m base) := fun x hx => by
    obtain ⟨i, hi, rfl⟩ := fl_mem hx
    have := HOk.out i hi
    omega
  have HSum := hide (fun W (h : Below W1.heap.size W1 W) => (show Calls Try.prog 65 #[.slice (some ⟨bo, oo, none⟩) m c1] W fun e w' => e = .returned (.int .i64 T) ∧ W = w' from by
    have h2 := specSum_any W1.heap.size (some ⟨bo, oo, none⟩) m c1 (fl m base) W (hr.ints.below h (Nat.le_refl _)) (by omega) hsm
    rw [show sumI (fl m base) = T from HT.out] at h2
    exact h2))
  clear hbas hb hsm
  go_wp2_with fail
  refine (HSum.out _ (Below.refl _ W1)).mono ?_
  rintro e w' ⟨rfl, rfl⟩
  by_cases hle : T ≤ space
  · have hle' : T ≤ space := hle
    go_wp2_with (go_at_call 65; refine (HSum.out _ (Below.refl _ W1)).mono ?_; rintro e w' ⟨rfl, rfl⟩)
    refine (grow_any w.heap.size w.heap.size W1.heap.size (some ⟨b, off, none⟩) (some ⟨bo, oo, none⟩) m c c1 base gr sr base (space - T) W1 (HA.out _ HB.out) (Nat.le_refl _) HB.out.size (Nat.le_refl _) hm hr HOk.out HWG.out (by omega)).mono ?_
    rintro e W2 ⟨rfl, hr2, ho⟩
    have D := hide (show ListR (fl m (flexS base gr sr m space)) w (.returned (.slice (some ⟨bo, oo, none⟩) m c1)) W2 by
      refine ⟨some ⟨bo, oo, none⟩, m, c1, rfl, ?_, HB.out.trans (ho.below (Nat.le_refl _) HB.out.size)⟩
      have e : flexS base gr sr m space = flexF false gr m (space - T + 1).toNat (space - T) base := by unfold flexS; rw [HT.out, if_pos hle]
      rw [e]
      exact hr2.mono (Nat.le_refl _) ho.size)
    clear hr2 ho
    go_wp2
    go_ret
    exact D.out
  · have hle' : space < T := by omega
    go_wp2_with (go_at_call 65; refine (HSum.out _ (Below.refl _ W1)).mono ?_; rintro e w' ⟨rfl, rfl⟩)
    refine (shrink_any w.heap.size w.heap.size W1.heap.size (some ⟨b, off, none⟩) (some ⟨bo, oo, none⟩) m c c1 base gr sr base (T - space) W1 (HA.out _ HB.out) (Nat.le_refl _) HB.out.size (Nat.le_refl _) hm hr HOk.out HWS.out (by omega)).mono ?_
    rintro e W2 ⟨rfl, hr2, ho⟩
    have D := hide (show ListR (fl m (flexS base gr sr m space)) w (.returned (.slice (some ⟨bo, oo, none⟩) m c1)) W2 by
      refine ⟨some ⟨bo, oo, none⟩, m, c1, rfl, ?_, HB.out.trans (ho.below (Nat.le_refl _) HB.out.size)⟩
      have e : flexS base gr sr m space = flexF true sr m (T - space + 1).toNat (T - space) base := by unfold flexS; rw [HT.out, if_neg (by omega)]
      rw [e]
      exact hr2.mono (Nat.le_refl _) ho.size)
    clear hr2 ho
    go_wp2
    go_ret
    exact D.out
end Go.Proofs.Ythgliihdaockoaa
