/- Layout: natural sizes: the reference. Conditions: none. -/
import Derived.Test.YthgliihdaockoaaLayN
import Derived.BigRegion
namespace Go.Proofs.Ythgliihdaockoaa
open Go.RowKit
set_option linter.unusedVariables false
set_option linter.unusedSimpArgs false
/-- the sum of the first t boxes, and all gaps -/
def spA (P : Int) (f : Int → Int) (L : List Int) (t : Nat) : Int := P + sumI ((L.take t).map f)
theorem spA_zero (P : Int) (f : Int → Int) (L : List Int) : spA P f L 0 = P := by simp [spA, sumI_nil]
theorem spA_succ {P : Int} {f : Int → Int} {L : List Int} {t : Nat} (ht : t < L.length) : spA P f L (t + 1) = spA P f L t + f (L.getD t 0) := by
  rw [spA, spA, take_snoc ht, List.map_append, sumI_append]
  simp [sumI_cons, sumI_nil]
  omega
theorem spA_bd {P : Int} {f : Int → Int} {L : List Int} (hP : 0 ≤ P ∧ P ≤ 350) (h : ∀ x ∈ L, 0 ≤ f x) (hs : sumI (L.map f) ≤ 7200) (t : Nat) : 0 ≤ spA P f L t ∧ spA P f L t ≤ 7550 := by
  have h1 := sumI_take_le h t
  unfold spA
  omega
theorem spA_acc {g : Int} {f : Int → Int} {L : List Int} : accA g f L 0 L.length = spA (g * ((L.length - 1 : Nat) : Int)) f L L.length := by rw [accA, spA]; omega
set_option maxRecDepth 100000 in
set_option maxHeartbeats 8000000 in
theorem specNat_any (B : Nat) (a : Option Addr) (n c : Nat) (xs : List Int) (hT : TreeP xs n) : ∀ (d i : Nat) (w : World), Ints .i64 w B a (n * 9) xs → B ≤ w.heap.size → n ≤ 1048577 → i < n → n - i ≤ d →
    Calls Try.prog 53 #[.slice a n c, .int .i64 i] w fun e w' => e = .returned (.tuple #[.int .i64 (nat xs n i).1, .int .i64 (nat xs n i).2]) ∧ Below w.heap.size w w' := by
  intro d
  induction d with
  | zero => intro i w hA hB hn hi hd; omega
  | succ d ihd =>
    intro i w hA hB hn hi hd
    have IH := hide ihd
    have HT := hide hT
    have hin : (i : Int) < (n : Int) := by omega
    have hn16 := hT.hi
    have hnum := hT.nums hi
    have HX := hide (fun x (hx : x ∈ kidsL xs n i) => (show (0 ≤ x ∧ x < n ∧ (i : Int) < x) ∧ 0 ≤ natW xs n x ∧ 0 ≤ natH xs n x from by
      obtain ⟨h1, h2, h3, -⟩ := kid_gt hT.pre hx
      exact ⟨by omega, natW_nonneg hT h2, natH_nonneg hT h2⟩))
    have HKb := hide (fun q (hq : q < n) => nat_bd hT hq)
    have HS := hide (kids_bd hT hi)
    have HL8 := hide (hT.kidsLen hi)
    have HNo := hide (hT.noKids hi)
    obtain ⟨b, off, rfl, hb9, h1, h2⟩ := hA.fldAt (by omega)
    clear ihd hT
    have hc0 := h1 i hi
    have hc1 := h2 i 1 hi (by omega)
    have hc2 := h2 i 2 hi (by omega)
    have hc3 := h2 i 3 hi (by omega)
    have hc4 := h2 i 4 hi (by omega)
    have hc5 := h2 i 5 hi (by omega)
    have hc6 := h2 i 6 hi (by omega)
    have hc7 := h2 i 7 hi (by omega)
    have hc8 := h2 i 8 hi (by omega)
    clear h1 h2
    generalize par xs i = y at hc0
    obtain ⟨y1, hy1⟩ : ∃ y1, fld xs i 1 = y1 := ⟨_, rfl⟩
    have HY1 := hide hy1
    rw [hy1] at hc1 hnum
    clear hy1
    obtain ⟨y2, hy2⟩ : ∃ y2, fld xs i 2 = y2 := ⟨_, rfl⟩
    have HY2 := hide hy2
    rw [hy2] at hc2 hnum
    clear hy2
    obtain ⟨y3, hy3⟩ : ∃ y3, fld xs i 3 = y3 := ⟨_, rfl⟩
    have HY3 := hide hy3
    rw [hy3] at hc3 hnum
    clear hy3
    obtain ⟨y4, hy4⟩ : ∃ y4, fld xs i 4 = y4 := ⟨_, rfl⟩
    have HY4 := hide hy4
    rw [hy4] at hc4 hnum
    clear hy4
    obtain ⟨y5, hy5⟩ : ∃ y5, fld xs i 5 = y5 := ⟨_, rfl⟩
    have HY5 := hide hy5
    rw [hy5] at hc5 hnum
    clear hy5
    obtain ⟨y6, hy6⟩ : ∃ y6, fld xs i 6 = y6 := ⟨_, rfl⟩
    rw [hy6] at hc6
    clear hy6
    obtain ⟨y7, hy7⟩ : ∃ y7, fld xs i 7 = y7 := ⟨_, rfl⟩
    rw [hy7] at hc7
    clear hy7
    obtain ⟨y8, hy8⟩ : ∃ y8, fld xs i 8 = y8 := ⟨_, rfl⟩
    rw [hy8] at hc8
    clear hy8
    rw [HY1.out] at HNo
    have Hz := hide hnum.2.2.2.2.2.2.2.2
    obtain ⟨-, hbase1, hbase2, hpad, hg, -⟩ := hnum
    have hb0 : Below w.heap.size w (w.alloc (.cells #[.int .i64 y, .int .i64 y1, .int .i64 y2, .int .i64 y3, .int .i64 y4, .int .i64 y5, .int .i64 y6, .int .i64 y7, .int .i64 y8] 43)) := (Below.refl _ _).alloc (Nat.le_refl _) _
    have HB0 := hide hb0
    have HZ0 := hide (show (w.alloc (.cells #[.int .i64 y, .int .i64 y1, .int .i64 y2, .int .i64 y3, .int .i64 y4, .int .i64 y5, .int .i64 y6, .int .i64 y7, .int .i64 y8] 43)).heap.size = w.heap.size + 1 by simp)
    have HBX := hide (fun W (h : Below (w.alloc (.cells #[.int .i64 y, .int .i64 y1, .int .i64 y2, .int .i64 y3, .int .i64 y4, .int .i64 y5, .int .i64 y6, .int .i64 y7, .int .i64 y8] 43)).heap.size (w.alloc (.cells #[.int .i64 y, .int .i64 y1, .int .i64 y2, .int .i64 y3, .int .i64 y4, .int .i64 y5, .int .i64 y6, .int .i64 y7, .int .i64 y8] 43)) W) j v (hv : (#[.int .i64 y, .int .i64 y1, .int .i64 y2, .int .i64 y3, .int .i64 y4, .int .i64 y5, .int .i64 y6, .int .i64 y7, .int .i64 y8] : Array Value)[j]? = some (.int .i64 v)) => (h.cell (p := ⟨w.heap.size, j, none⟩) (by show w.heap.size < (w.alloc (.cells #[.int .i64 y, .int .i64 y1, .int .i64 y2, .int .i64 y3, .int .i64 y4, .int .i64 y5, .int .i64 y6, .int .i64 y7, .int .i64 y8] 43)).heap.size; simp)).trans (show (w.alloc (.cells #[.int .i64 y, .int .i64 y1, .int .i64 y2, .int .i64 y3, .int .i64 y4, .int .i64 y5, .int .i64 y6, .int .i64 y7, .int .i64 y8] 43)).cell? ⟨w.heap.size, j, none⟩ = some (.int .i64 v) by rw [cell_of_row _ _ j _ _ (0, 0) (heap_alloc_new w _)]; exact hv))
    have HA := hide (fun W (h : Below (w.alloc (.cells #[.int .i64 y, .int .i64 y1, .int .i64 y2, .int .i64 y3, .int .i64 y4, .int .i64 y5, .int .i64 y6, .int .i64 y7, .int .i64 y8] 43)).heap.size (w.alloc (.cells #[.int .i64 y, .int .i64 y1, .int .i64 y2, .int .i64 y3, .int .i64 y4, .int .i64 y5, .int .i64 y6, .int .i64 y7, .int .i64 y8] 43)) W) => (hA.below hb0 hB).below h (by have := HZ0.out; omega))
    have g1 := HBX.out _ (Below.refl _ _) 1 y1 rfl
    have g2 := HBX.out _ (Below.refl _ _) 2 y2 rfl
    have g3 := HBX.out _ (Below.refl _ _) 3 y3 rfl
    have g4 := HBX.out _ (Below.refl _ _) 4 y4 rfl
    have HRf := hide (Below.refl (w.alloc (.cells #[.int .i64 y, .int .i64 y1, .int .i64 y2, .int .i64 y3, .int .i64 y4, .int .i64 y5, .int .i64 y6, .int .i64 y7, .int .i64 y8] 43)).heap.size (w.alloc (.cells #[.int .i64 y, .int .i64 y1, .int .i64 y2, .int .i64 y3, .int .i64 y4, .int .i64 y5, .int .i64 y6, .int .i64 y7, .int .i64 y8] 43)))
    clear hA hb0
    by_cases hk0 : y1 = 0
    · have hk0' : (y1 == 0) = true := by simpa using hk0
      have D := hide (show nat xs n i = (y2 + 2 * y4, y3 + 2 * y4) by
        have hL := HNo.out hk0
        rw [nat_col HT.out.pre hi (by rw [HY1.out, hk0]; omega), hL, HY2.out, HY3.out, HY4.out, HY5.out]
        simp [accA, accB, maxL, sumI_nil])
      clear hk0 HNo Hz
      go_enter Try.func53, Try.ntmps53
      go_wp2
      generalize (w.alloc (.cells #[.int .i64 y, .int .i64 y1, .int .i64 y2, .int .i64 y3, .int .i64 y4, .int .i64 y5, .int .i64 y6, .int .i64 y7, .int .i64 y8] 43)) = W0 at HB0 HZ0 HBX HA g1 g2 g3 g4 HRf ⊢
      clear hc0 hc1 hc2 hc3 hc4 hc5 hc6 hc7 hc8
      go_region
      go_wp2
      exact bodyPost_ret (v := .tuple #[.int .i64 (y2 + 2 * y4), .int .i64 (y3 + 2 * y4)]) (by simp [results, Try.results53, go_sem]) rfl ⟨by rw [D.out], HB0.out.drew⟩
    · have hk0' : (y1 == 0) = false := by simpa using hk0
      have Hz := hide (show y2 = 0 ∧ y3 = 0 from Hz.out.resolve_left hk0)
      clear HNo
      go_enter Try.func53, Try.ntmps53
      go_wp2_with fail
      generalize (w.alloc (.cells #[.int .i64 y, .int .i64 y1, .int .i64 y2, .int .i64 y3, .int .i64 y4, .int .i64 y5, .int .i64 y6, .int .i64 y7, .int .i64 y8] 43)) = W0 at HB0 HZ0 HBX HA g1 g2 g3 g4 HRf ⊢
      refine (specKidsL_any B (some ⟨b, off, none⟩) n c xs i W0 (HA.out _ HRf.out) (by have := HZ0.out; omega) hn hi HT.out.pre).mono ?_
      rintro e W1 ⟨A, m, c', rfl, hr, hb⟩
      have HB := hide hb
      have hml : (kidsL xs n i).length = m := hr.1
      have hm8 : m ≤ 8 := by rw [← hml]; exact HL8.out
      obtain ⟨L, hL⟩ : ∃ L, kidsL xs n i = L := ⟨_, rfl⟩
      have HLe := hide hL
      rw [hL] at HX HS hr hml
      have HML := hide hml
      clear hL hml
      clear g1 g2 g3 g4
      have g1 := HBX.out _ hb 1 y1 rfl
      have g5 := HBX.out _ hb 5 y5 rfl
      obtain ⟨lo, hlo⟩ : ∃ lo, W0.heap.size = lo := ⟨_, rfl⟩
      obtain ⟨hi9, hhi⟩ : ∃ hi9, W1.heap.size = hi9 := ⟨_, rfl⟩
      have HR := hide (show Row 3 W1 lo hi9 A m L by rw [← hlo, ← hhi]; exact hr)
      clear hr hb hlo hhi hc0 hc1 hc2 hc3 hc4 hc5 hc6 hc7 hc8 HRf
      by_cases hm1 : m ≤ 1
      · have hm1' : ¬ (0 : Int) < (m : Int) - 1 := by omega
        have hm1'' : ¬ (1 : Int) < (m : Int) := by omega
        have hm2 : ¬ 1 < m := by omega
        have HP := hide (show y5 * ((m - 1 : Nat) : Int) = 0 by rw [show m - 1 = 0 by omega]; simp)
        have hP : 0 ≤ (0 : Int) ∧ (0 : Int) ≤ 350 := by omega
        clear hm1
        by_cases hk : y1 = 2
        · have hk' : (y1 != 2) = false := by simpa using hk
          go_wp2
          go_loopw [8, 9, 10, 11, 12, 13] (fun s8 s9 s10 _ _ _ wr => ∃ (t : Nat) (W9 : World), t ≤ m ∧ s8 = .int .i64 (spA 0 (natW xs n) L t) ∧ s9 = .int .i64 (accB (natH xs n) L 0 t) ∧ s10 = .int .i64 t ∧ W9 = wr ∧ Hid (Below W0.heap.size W0 W9) ∧ Hid (Row 3 W9 lo hi9 A m L)) (fun _ _ s10 _ _ _ _ => m - (intOf s10).toNat)
          case atStart => exact ⟨0, _, Nat.zero_le _, by rw [spA_zero], by rw [accB_zero], rfl, rfl, HB, HR⟩
          case round =>
            clear HB HR g1 g5
            obtain ⟨t, W9, htm, rfl, rfl, rfl, rfl, HB, HR⟩ := hrel
            have hz9 := HB.out.size
            have bA := spA_bd (P := 0) (f := natW xs n) (L := L) hP (fun x hx => (HX.out x hx).2.1) HS.out.1 t
            have bB := accB_bd (f := natH xs n) (L := L) (base := 0) (by omega) (fun x hx => (HX.out x hx).2.2) HS.out.2 t
            obtain ⟨al, hal⟩ : ∃ al, spA 0 (natW xs n) L t = al := ⟨_, rfl⟩
            obtain ⟨ac, hac⟩ : ∃ ac, accB (natH xs n) L 0 t = ac := ⟨_, rfl⟩
            rw [hal] at bA
            rw [hac] at bB
            rw [hal, hac]
            have HAl := hide hal
            have HAc := hide hac
            clear hal hac
            by_cases hlt : t < m
            · have htm' : (t : Int) < (m : Int) := by omega
              have htL : t < L.length := by rw [HML.out]; exact hlt
              obtain ⟨gb, go, rfl, -, hcell⟩ := HR.out.ints.2.2 (by omega)
              have hct := hcell t hlt
              have hx := HX.out _ (getD_mem htL)
              obtain ⟨q, hq⟩ : ∃ q : Nat, L.getD t 0 = q := ⟨(L.getD t 0).toNat, by omega⟩
              rw [hq] at hct hx
              have hcall := IH.out q W9 (HA.out _ HB.out) (by have := HZ0.out; omega) hn (by omega) (by omega)
              have bK := HKb.out q (by omega)
              obtain ⟨kw, hkw⟩ : ∃ kw, (nat xs n q).1 = kw := ⟨_, rfl⟩
              obtain ⟨kh, hkh⟩ : ∃ kh, (nat xs n q).2 = kh := ⟨_, rfl⟩
              rw [hkw, hkh] at hcall bK
              have HQ := hide (show natW xs n (L.getD t 0) = kw ∧ natH xs n (L.getD t 0) = kh by rw [hq, natW_at, natH_at]; exact ⟨hkw, hkh⟩)
              clear hq hkw hkh hcell hx
              have DA := hide (show spA 0 (natW xs n) L (t + 1) = al + kw by rw [spA_succ htL, HAl.out, HQ.out.1])
              have DB := hide (show accB (natH xs n) L 0 (t + 1) = (if ac < kh then kh else ac) by rw [accB_succ htL, HAc.out, HQ.out.2]; split <;> omega)
              clear HAl HAc HQ
              go_wp2_with (go_at_call 53; refine hcall.mono ?_; rintro e W10 ⟨rfl, hb⟩; have HBa := hide (HB.out.trans (hb.mono HB.out.size)); have HRa := hide (HR.out.belowS hb); have b1 := HBX.out W10 HBa.out 1 y1 rfl; clear hb)
              go_roundw
              case rel => exact ⟨t + 1, _, by omega, by rw [DA.out], by rw [DB.out], by go_num, rfl, HBa, HRa⟩
              case measure => simp [intOf]; omega
            · obtain rfl : m = t := by omega
              have b1 := HBX.out W9 HB.out 1 y1 rfl
              have b4 := HBX.out W9 HB.out 4 y4 rfl
              have D := hide (show nat xs n i = (al + 2 * y4, ac + 2 * y4) by
                have e2 : fld xs i 2 = 0 := by rw [HY2.out]; exact Hz.out.1
                have e3 : fld xs i 3 = 0 := by rw [HY3.out]; exact Hz.out.2
                rw [nat_row HT.out.pre hi (by rw [HY1.out]; exact hk), e2, e3, HY4.out, HY5.out, HLe.out, spA_acc, HML.out, HP.out, HAl.out, HAc.out])
              have DC := hide (HB0.out.trans (HB.out.mono (by have := HZ0.out; omega)))
              clear HAl HAc HR HB
              go_wp2
              go_region
              go_wp2
              exact bodyPost_ret (v := .tuple #[.int .i64 (al + 2 * y4), .int .i64 (ac + 2 * y4)]) (by simp [results, Try.results53, go_sem]) rfl ⟨by rw [D.out], DC.out.drew⟩
        · have hk' : (y1 != 2) = true := by simpa using hk
          go_wp2
          go_loopw [8, 9, 10, 11, 12, 13] (fun s8 s9 s10 _ _ _ wr => ∃ (t : Nat) (W9 : World), t ≤ m ∧ s8 = .int .i64 (spA 0 (natH xs n) L t) ∧ s9 = .int .i64 (accB (natW xs n) L 0 t) ∧ s10 = .int .i64 t ∧ W9 = wr ∧ Hid (Below W0.heap.size W0 W9) ∧ Hid (Row 3 W9 lo hi9 A m L)) (fun _ _ s10 _ _ _ _ => m - (intOf s10).toNat)
          case atStart => exact ⟨0, _, Nat.zero_le _, by rw [spA_zero], by rw [accB_zero], rfl, rfl, HB, HR⟩
          case round =>
            clear HB HR g1 g5
            obtain ⟨t, W9, htm, rfl, rfl, rfl, rfl, HB, HR⟩ := hrel
            have hz9 := HB.out.size
            have bA := spA_bd (P := 0) (f := natH xs n) (L := L) hP (fun x hx => (HX.out x hx).2.2) HS.out.2 t
            have bB := accB_bd (f := natW xs n) (L := L) (base := 0) (by omega) (fun x hx => (HX.out x hx).2.1) HS.out.1 t
            obtain ⟨al, hal⟩ : ∃ al, spA 0 (natH xs n) L t = al := ⟨_, rfl⟩
            obtain ⟨ac, hac⟩ : ∃ ac, accB (natW xs n) L 0 t = ac := ⟨_, rfl⟩
            rw [hal] at bA
            rw [hac] at bB
            rw [hal, hac]
            have HAl := hide hal
            have HAc := hide hac
            clear hal hac
            by_cases hlt : t < m
            · have htm' : (t : Int) < (m : Int) := by omega
              have htL : t < L.length := by rw [HML.out]; exact hlt
              obtain ⟨gb, go, rfl, -, hcell⟩ := HR.out.ints.2.2 (by omega)
              have hct := hcell t hlt
              have hx := HX.out _ (getD_mem htL)
              obtain ⟨q, hq⟩ : ∃ q : Nat, L.getD t 0 = q := ⟨(L.getD t 0).toNat, by omega⟩
              rw [hq] at hct hx
              have hcall := IH.out q W9 (HA.out _ HB.out) (by have := HZ0.out; omega) hn (by omega) (by omega)
              have bK := HKb.out q (by omega)
              obtain ⟨kw, hkw⟩ : ∃ kw, (nat xs n q).1 = kw := ⟨_, rfl⟩
              obtain ⟨kh, hkh⟩ : ∃ kh, (nat xs n q).2 = kh := ⟨_, rfl⟩
              rw [hkw, hkh] at hcall bK
              have HQ := hide (show natW xs n (L.getD t 0) = kw ∧ natH xs n (L.getD t 0) = kh by rw [hq, natW_at, natH_at]; exact ⟨hkw, hkh⟩)
              clear hq hkw hkh hcell hx
              have DA := hide (show spA 0 (natH xs n) L (t + 1) = al + kh by rw [spA_succ htL, HAl.out, HQ.out.2])
              have DB := hide (show accB (natW xs n) L 0 (t + 1) = (if ac < kw then kw else ac) by rw [accB_succ htL, HAc.out, HQ.out.1]; split <;> omega)
              clear HAl HAc HQ
              go_wp2_with (go_at_call 53; refine hcall.mono ?_; rintro e W10 ⟨rfl, hb⟩; have HBa := hide (HB.out.trans (hb.mono HB.out.size)); have HRa := hide (HR.out.belowS hb); have b1 := HBX.out W10 HBa.out 1 y1 rfl; clear hb)
              go_roundw
              case rel => exact ⟨t + 1, _, by omega, by rw [DA.out], by rw [DB.out], by go_num, rfl, HBa, HRa⟩
              case measure => simp [intOf]; omega
            · obtain rfl : m = t := by omega
              have b1 := HBX.out W9 HB.out 1 y1 rfl
              have b4 := HBX.out W9 HB.out 4 y4 rfl
              have D := hide (show nat xs n i = (ac + 2 * y4, al + 2 * y4) by
                have e2 : fld xs i 2 = 0 := by rw [HY2.out]; exact Hz.out.1
                have e3 : fld xs i 3 = 0 := by rw [HY3.out]; exact Hz.out.2
                rw [nat_col HT.out.pre hi (by rw [HY1.out]; exact hk), e2, e3, HY4.out, HY5.out, HLe.out, spA_acc, HML.out, HP.out, HAl.out, HAc.out])
              have DC := hide (HB0.out.trans (HB.out.mono (by have := HZ0.out; omega)))
              clear HAl HAc HR HB
              go_wp2
              go_region
              go_wp2
              exact bodyPost_ret (v := .tuple #[.int .i64 (ac + 2 * y4), .int .i64 (al + 2 * y4)]) (by simp [results, Try.results53, go_sem]) rfl ⟨by rw [D.out], DC.out.drew⟩
      · have hm1' : (0 : Int) < (m : Int) - 1 := by omega
        have hm1'' : (1 : Int) < (m : Int) := by omega
        have hm2 : 1 < m := by omega
        have hP := gap_bd hg (show m - 1 ≤ 7 by omega)
        obtain ⟨P, hPe⟩ : ∃ P, y5 * ((m - 1 : Nat) : Int) = P := ⟨_, rfl⟩
        rw [hPe] at hP
        have HP := hide hPe
        have hmul : ((m : Int) - 1) * y5 = P := by rw [← hPe, Int.mul_comm, show ((m - 1 : Nat) : Int) = (m : Int) - 1 by omega]
        clear hPe hm1
        by_cases hk : y1 = 2
        · have hk' : (y1 != 2) = false := by simpa using hk
          go_wp2
          go_loopw [8, 9, 10, 11, 12, 13] (fun s8 s9 s10 _ _ _ wr => ∃ (t : Nat) (W9 : World), t ≤ m ∧ s8 = .int .i64 (spA P (natW xs n) L t) ∧ s9 = .int .i64 (accB (natH xs n) L 0 t) ∧ s10 = .int .i64 t ∧ W9 = wr ∧ Hid (Below W0.heap.size W0 W9) ∧ Hid (Row 3 W9 lo hi9 A m L)) (fun _ _ s10 _ _ _ _ => m - (intOf s10).toNat)
          case atStart => exact ⟨0, _, Nat.zero_le _, by rw [spA_zero], by rw [accB_zero], rfl, rfl, HB, HR⟩
          case round =>
            clear HB HR g1 g5
            obtain ⟨t, W9, htm, rfl, rfl, rfl, rfl, HB, HR⟩ := hrel
            have hz9 := HB.out.size
            have bA := spA_bd (P := P) (f := natW xs n) (L := L) hP (fun x hx => (HX.out x hx).2.1) HS.out.1 t
            have bB := accB_bd (f := natH xs n) (L := L) (base := 0) (by omega) (fun x hx => (HX.out x hx).2.2) HS.out.2 t
            obtain ⟨al, hal⟩ : ∃ al, spA P (natW xs n) L t = al := ⟨_, rfl⟩
            obtain ⟨ac, hac⟩ : ∃ ac, accB (natH xs n) L 0 t = ac := ⟨_, rfl⟩
            rw [hal] at bA
            rw [hac] at bB
            rw [hal, hac]
            have HAl := hide hal
            have HAc := hide hac
            clear hal hac
            by_cases hlt : t < m
            · have htm' : (t : Int) < (m : Int) := by omega
              have htL : t < L.length := by rw [HML.out]; exact hlt
              obtain ⟨gb, go, rfl, -, hcell⟩ := HR.out.ints.2.2 (by omega)
              have hct := hcell t hlt
              have hx := HX.out _ (getD_mem htL)
              obtain ⟨q, hq⟩ : ∃ q : Nat, L.getD t 0 = q := ⟨(L.getD t 0).toNat, by omega⟩
              rw [hq] at hct hx
              have hcall := IH.out q W9 (HA.out _ HB.out) (by have := HZ0.out; omega) hn (by omega) (by omega)
              have bK := HKb.out q (by omega)
              obtain ⟨kw, hkw⟩ : ∃ kw, (nat xs n q).1 = kw := ⟨_, rfl⟩
              obtain ⟨kh, hkh⟩ : ∃ kh, (nat xs n q).2 = kh := ⟨_, rfl⟩
              rw [hkw, hkh] at hcall bK
              have HQ := hide (show natW xs n (L.getD t 0) = kw ∧ natH xs n (L.getD t 0) = kh by rw [hq, natW_at, natH_at]; exact ⟨hkw, hkh⟩)
              clear hq hkw hkh hcell hx
              have DA := hide (show spA P (natW xs n) L (t + 1) = al + kw by rw [spA_succ htL, HAl.out, HQ.out.1])
              have DB := hide (show accB (natH xs n) L 0 (t + 1) = (if ac < kh then kh else ac) by rw [accB_succ htL, HAc.out, HQ.out.2]; split <;> omega)
              clear HAl HAc HQ
              go_wp2_with (go_at_call 53; refine hcall.mono ?_; rintro e W10 ⟨rfl, hb⟩; have HBa := hide (HB.out.trans (hb.mono HB.out.size)); have HRa := hide (HR.out.belowS hb); have b1 := HBX.out W10 HBa.out 1 y1 rfl; clear hb)
              go_roundw
              case rel => exact ⟨t + 1, _, by omega, by rw [DA.out], by rw [DB.out], by go_num, rfl, HBa, HRa⟩
              case measure => simp [intOf]; omega
            · obtain rfl : m = t := by omega
              have b1 := HBX.out W9 HB.out 1 y1 rfl
              have b4 := HBX.out W9 HB.out 4 y4 rfl
              have D := hide (show nat xs n i = (al + 2 * y4, ac + 2 * y4) by
                have e2 : fld xs i 2 = 0 := by rw [HY2.out]; exact Hz.out.1
                have e3 : fld xs i 3 = 0 := by rw [HY3.out]; exact Hz.out.2
                rw [nat_row HT.out.pre hi (by rw [HY1.out]; exact hk), e2, e3, HY4.out, HY5.out, HLe.out, spA_acc, HML.out, HP.out, HAl.out, HAc.out])
              have DC := hide (HB0.out.trans (HB.out.mono (by have := HZ0.out; omega)))
              clear HAl HAc HR HB
              go_wp2
              go_region
              go_wp2
              exact bodyPost_ret (v := .tuple #[.int .i64 (al + 2 * y4), .int .i64 (ac + 2 * y4)]) (by simp [results, Try.results53, go_sem]) rfl ⟨by rw [D.out], DC.out.drew⟩
        · have hk' : (y1 != 2) = true := by simpa using hk
          go_wp2
          go_loopw [8, 9, 10, 11, 12, 13] (fun s8 s9 s10 _ _ _ wr => ∃ (t : Nat) (W9 : World), t ≤ m ∧ s8 = .int .i64 (spA P (natH xs n) L t) ∧ s9 = .int .i64 (accB (natW xs n) L 0 t) ∧ s10 = .int .i64 t ∧ W9 = wr ∧ Hid (Below W0.heap.size W0 W9) ∧ Hid (Row 3 W9 lo hi9 A m L)) (fun _ _ s10 _ _ _ _ => m - (intOf s10).toNat)
          case atStart => exact ⟨0, _, Nat.zero_le _, by rw [spA_zero], by rw [accB_zero], rfl, rfl, HB, HR⟩
          case round =>
            clear HB HR g1 g5
            obtain ⟨t, W9, htm, rfl, rfl, rfl, rfl, HB, HR⟩ := hrel
            have hz9 := HB.out.size
            have bA := spA_bd (P := P) (f := natH xs n) (L := L) hP (fun x hx => (HX.out x hx).2.2) HS.out.2 t
            have bB := accB_bd (f := natW xs n) (L := L) (base := 0) (by omega) (fun x hx => (HX.out x hx).2.1) HS.out.1 t
            obtain ⟨al, hal⟩ : ∃ al, spA P (natH xs n) L t = al := ⟨_, rfl⟩
            obtain ⟨ac, hac⟩ : ∃ ac, accB (natW xs n) L 0 t = ac := ⟨_, rfl⟩
            rw [hal] at bA
            rw [hac] at bB
            rw [hal, hac]
            have HAl := hide hal
            have HAc := hide hac
            clear hal hac
            by_cases hlt : t < m
            · have htm' : (t : Int) < (m : Int) := by omega
              have htL : t < L.length := by rw [HML.out]; exact hlt
              obtain ⟨gb, go, rfl, -, hcell⟩ := HR.out.ints.2.2 (by omega)
              have hct := hcell t hlt
              have hx := HX.out _ (getD_mem htL)
              obtain ⟨q, hq⟩ : ∃ q : Nat, L.getD t 0 = q := ⟨(L.getD t 0).toNat, by omega⟩
              rw [hq] at hct hx
              have hcall := IH.out q W9 (HA.out _ HB.out) (by have := HZ0.out; omega) hn (by omega) (by omega)
              have bK := HKb.out q (by omega)
              obtain ⟨kw, hkw⟩ : ∃ kw, (nat xs n q).1 = kw := ⟨_, rfl⟩
              obtain ⟨kh, hkh⟩ : ∃ kh, (nat xs n q).2 = kh := ⟨_, rfl⟩
              rw [hkw, hkh] at hcall bK
              have HQ := hide (show natW xs n (L.getD t 0) = kw ∧ natH xs n (L.getD t 0) = kh by rw [hq, natW_at, natH_at]; exact ⟨hkw, hkh⟩)
              clear hq hkw hkh hcell hx
              have DA := hide (show spA P (natH xs n) L (t + 1) = al + kh by rw [spA_succ htL, HAl.out, HQ.out.2])
              have DB := hide (show accB (natW xs n) L 0 (t + 1) = (if ac < kw then kw else ac) by rw [accB_succ htL, HAc.out, HQ.out.1]; split <;> omega)
              clear HAl HAc HQ
              go_wp2_with (go_at_call 53; refine hcall.mono ?_; rintro e W10 ⟨rfl, hb⟩; have HBa := hide (HB.out.trans (hb.mono HB.out.size)); have HRa := hide (HR.out.belowS hb); have b1 := HBX.out W10 HBa.out 1 y1 rfl; clear hb)
              go_roundw
              case rel => exact ⟨t + 1, _, by omega, by rw [DA.out], by rw [DB.out], by go_num, rfl, HBa, HRa⟩
              case measure => simp [intOf]; omega
            · obtain rfl : m = t := by omega
              have b1 := HBX.out W9 HB.out 1 y1 rfl
              have b4 := HBX.out W9 HB.out 4 y4 rfl
              have D := hide (show nat xs n i = (ac + 2 * y4, al + 2 * y4) by
                have e2 : fld xs i 2 = 0 := by rw [HY2.out]; exact Hz.out.1
                have e3 : fld xs i 3 = 0 := by rw [HY3.out]; exact Hz.out.2
                rw [nat_col HT.out.pre hi (by rw [HY1.out]; exact hk), e2, e3, HY4.out, HY5.out, HLe.out, spA_acc, HML.out, HP.out, HAl.out, HAc.out])
              have DC := hide (HB0.out.trans (HB.out.mono (by have := HZ0.out; omega)))
              clear HAl HAc HR HB
              go_wp2
              go_region
              go_wp2
              exact bodyPost_ret (v := .tuple #[.int .i64 (ac + 2 * y4), .int .i64 (al + 2 * y4)]) (by simp [results, Try.results53, go_sem]) rfl ⟨by rw [D.out], DC.out.drew⟩
end Go.Proofs.Ythgliihdaockoaa
