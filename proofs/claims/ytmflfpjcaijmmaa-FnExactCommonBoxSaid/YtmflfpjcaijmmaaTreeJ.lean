/- Trees: which dirty boxes no other is around: the reference and the program. Conditions: none. -/
import Derived.Test.YtmflfpjcaijmmaaTreeI
namespace Go.Proofs.Ytmflfpjcaijmmaa
open Go.RowKit
set_option linter.unusedVariables false
set_option linter.unusedSimpArgs false
theorem rootB_out {xs ms : List Int} {k : Nat} (h : decide ((k : Int) ∈ ms) = false) : rootB xs ms k = false := by rw [rootB, h]; rfl
theorem rootB_in {xs ms : List Int} {k : Nat} (h : decide ((k : Int) ∈ ms) = true) : rootB xs ms k = !(ms.any (fun y => y != (k : Int) && arnd xs y k)) := by rw [rootB, h]; rfl
/-- the same, the slice being no longer than its list -/
def ListRC (L : List Int) (w : World) (e : Ending) (w' : World) : Prop :=
  ∃ (A : Option Addr) (m : Nat), e = .returned (.slice A m m) ∧ Row 3 w' w.heap.size w'.heap.size A m L ∧ Below w.heap.size w w'
theorem ListRC.r {L : List Int} {w w' : World} {e : Ending} (h : ListRC L w e w') : ListR L w e w' := by
  obtain ⟨A, m, h1, h2, h3⟩ := h
  exact ⟨A, m, m, h1, h2, h3⟩
set_option maxHeartbeats 4000000 in
theorem specRoots_any (B BM : Nat) (a am : Option Addr) (n c m0 cm : Nat) (xs ms : List Int) (w : World) (hA : Ints .i64 w B a (n * 9) xs) (hM : Ints .i64 w BM am m0 ms) (hB : B ≤ w.heap.size) (hBM : BM ≤ w.heap.size) (hn : n ≤ 1048577) (hm : m0 ≤ 1048577) (hT : TreeP xs n) (hpos : ∀ x ∈ ms, 0 ≤ x) :
    Calls Try.prog 47 #[.slice a n c, .slice am m0 cm] w (ListR (pickN (rootB xs ms) n) w) := by
  obtain ⟨i0, hi0, hz0, hz1, hz2⟩ := info_parts int_info
  have HA := hide (fun W (h : Below w.heap.size w W) => hA.below h hB)
  have HM := hide (fun W (h : Below w.heap.size w W) => hM.below h hBM)
  have HL := hide hM.1
  have HT := hide hT
  have HPos := hide hpos
  have HS := hide (show Own 3 1 (w.alloc (.cells #[] 3)) w.heap.size (.slice (some ⟨w.heap.size, 0, none⟩) 0 0) 0 [] from Own.made 3 1 w #[] 0 w.heap.size (Nat.le_refl _) (by omega) rfl)
  have HB := hide (show Below w.heap.size w (w.alloc (.cells #[] 3)) from (Below.refl _ _).alloc (Nat.le_refl _) _)
  clear hA hM hT hpos
  go_enter Try.func47, Try.ntmps47
  go_wp2
  generalize w.alloc (.cells #[] 3) = W0 at HS HB ⊢
  go_loopw [5, 6, 7, 8] (fun s5 s6 _ _ wr => ∃ (k m c' : Nat) (A : Option Addr) (ys : List Int) (W9 : World), k ≤ n ∧ m ≤ k ∧ s5 = .slice A m c' ∧ s6 = .int .i64 k ∧ W9 = wr ∧ Hid (ys = pickN (rootB xs ms) k) ∧ Hid (Own 3 1 W9 w.heap.size (.slice A m c') m ys) ∧ Hid (Below w.heap.size w W9)) (fun _ s6 _ _ _ => n - (intOf s6).toNat)
  case atStart => exact ⟨0, 0, 0, _, [], _, Nat.zero_le _, Nat.zero_le _, rfl, rfl, rfl, hide rfl, HS, HB⟩
  case round =>
    clear HS HB
    obtain ⟨k, m, c', A, ys, W9, hk, hmk, rfl, rfl, rfl, HY, HO, HB⟩ := hrel
    have hz9 := HB.out.size
    by_cases hlt : k < n
    · have hkn : (k : Int) < (n : Int) := by omega
      have hin := specIsIn_any BM am m0 cm ms (k : Int) W9 (HM.out _ HB.out) (by omega)
      obtain ⟨q, hq⟩ : ∃ q, hasI ms (k : Int) = q := ⟨_, rfl⟩
      rw [hq] at hin
      have HIn := hide (show decide ((k : Int) ∈ ms) = q from hq)
      clear hq
      cases q with
      | false =>
        have D := hide (show ys = pickN (rootB xs ms) (k + 1) by rw [pickN_no (rootB_out HIn.out), HY.out])
        clear HY HIn
        go_wp2_with (go_at_call 63; refine hin.mono ?_; rintro e w' ⟨rfl, rfl⟩)
        go_roundw
        case rel => exact ⟨k + 1, m, _, _, _, _, by omega, by omega, rfl, by go_num, rfl, D, HO, HB⟩
        case measure => simp [intOf]; omega
      | true =>
      have HK := hide (rootB_in (xs := xs) HIn.out)
      clear HIn
      go_wp2_with (go_at_call 63; refine hin.mono ?_; rintro e w' ⟨rfl, rfl⟩)
      clear hin
      go_loopw [7, 8] (fun s7 s8 wr => ∃ (b : Bool) (j : Nat), j ≤ m0 ∧ s7 = .bool b ∧ s8 = .int .i64 j ∧ W9 = wr ∧ Hid (b = !((ms.take j).any (fun y => y != (k : Int) && arnd xs y k)))) (fun _ s8 _ => m0 - (intOf s8).toNat)
      case atStart => exact ⟨true, 0, Nat.zero_le _, rfl, rfl, by trivial, hide (by simp)⟩
      case round =>
        obtain ⟨b, j, hj, rfl, rfl, rfl, HD⟩ := hrel
        by_cases hjl : j < m0
        · have hjl' : (j : Int) < (m0 : Int) := by omega
          have hjm : j < ms.length := by rw [HL.out]; exact hjl
          have HN := hide (any_take_succ (p := fun y => y != (k : Int) && arnd xs y k) hjm)
          obtain ⟨bm, om, rfl, hbm9, hcell⟩ := (HM.out _ HB.out).2.2 (by omega)
          have hcj := hcell j hjl
          have hyp := HPos.out _ (getD_mem hjm)
          generalize ms.getD j 0 = y at hcj hyp HN
          clear hcell hjm
          cases b with
          | false =>
            have D := hide (show false = !((ms.take (j + 1)).any (fun y => y != (k : Int) && arnd xs y k)) by
              have h1 := HD.out
              rw [HN.out]
              cases h2 : (ms.take j).any (fun y => y != (k : Int) && arnd xs y k)
              · rw [h2] at h1; cases h1
              · rfl)
            clear HN HD
            go_wp2
            go_roundw
            case rel => exact ⟨false, j + 1, by omega, rfl, by go_num, by trivial, D⟩
            case measure => simp [intOf]; omega
          | true =>
            have HF := hide (show (ms.take (j + 1)).any (fun y => y != (k : Int) && arnd xs y k) = (y != (k : Int) && arnd xs y k) by
              have h1 := HD.out
              rw [HN.out]
              cases h2 : (ms.take j).any (fun y => y != (k : Int) && arnd xs y k)
              · rfl
              · rw [h2] at h1; cases h1)
            clear HN HD
            by_cases hyk : y = (k : Int)
            · have hyk' : (y == (k : Int)) = true := by simpa using hyk
              have D := hide (show true = !((ms.take (j + 1)).any (fun y => y != (k : Int) && arnd xs y k)) by rw [HF.out]; simp [hyk])
              clear HF hyk
              go_wp2
              go_roundw
              case rel => exact ⟨true, j + 1, by omega, rfl, by go_num, by trivial, D⟩
              case measure => simp [intOf]; omega
            · have hyk' : (y == (k : Int)) = false := by simpa using hyk
              have D := hide (show (!(arnd xs y k)) = !((ms.take (j + 1)).any (fun y => y != (k : Int) && arnd xs y k)) by rw [HF.out]; simp [hyk])
              have HC := hide (specAround_any B a n c xs y k _ (HA.out _ HB.out) hn hlt HT.out.pre hyp)
              clear HF hyk
              go_wp2_with (go_at_call 37; refine HC.out.mono ?_; rintro e w' ⟨rfl, rfl⟩)
              go_roundw
              case rel => exact ⟨!(arnd xs y k), j + 1, by omega, rfl, by go_num, by trivial, D⟩
              case measure => simp [intOf]; omega
        · obtain rfl : m0 = j := by omega
          have D0 := hide (show rootB xs ms k = b by have h := HD.out; rw [← HL.out, List.take_length] at h; rw [HK.out, h])
          clear HD HK
          cases b with
          | true =>
            have D := hide (show ys ++ [(k : Int)] = pickN (rootB xs ms) (k + 1) by rw [pickN_yes D0.out, HY.out])
            clear HY D0
            go_wp2_with (at_builtin; refine wpList_push rfl (.tmp 46) (.tmp 48) 31 3 1 8 i0 _ rfl Try.underlying31 hi0 hz0 hz1 hz2 rfl (by omega) (by omega) W9 w.heap.size (.slice A m c') m ys rfl HO.out [(k : Int)] 1 1 rfl rfl (by omega) hz9 ?_; intro v1 w1 ho1 hb1 hg1 hv1; obtain ⟨A1, c1, hvv1, _, _, _⟩ := ho1.form; subst hvv1; have HO1 := hide ho1; have HB1 := hide (HB.out.trans hb1); clear ho1 hb1 hg1 hv1)
            go_roundw
            case rel => exact ⟨k + 1, m + 1, _, _, _, _, by omega, by omega, rfl, by go_num, rfl, D, HO1, HB1⟩
            case measure => simp [intOf]; omega
          | false =>
            have D := hide (show ys = pickN (rootB xs ms) (k + 1) by rw [pickN_no D0.out, HY.out])
            clear HY D0
            go_wp2
            go_roundw
            case rel => exact ⟨k + 1, m, _, _, _, _, by omega, by omega, rfl, by go_num, rfl, D, HO, HB⟩
            case measure => simp [intOf]; omega
    · obtain rfl : n = k := by omega
      have D := hide (show ListR (pickN (rootB xs ms) n) w (.returned (.slice A m c')) W9 by rw [← HY.out]; exact ListR.own HO.out HB.out)
      clear HY HO
      go_wp2
      go_ret
      exact D.out
theorem rootFn_any (P2 P6 : Nat) (B : Nat) (a : Option Addr) (n c : Nat) (xs : List Int) (i : Nat) (x : Int) (w : World) (h2 : w.cell? ⟨P2, 0, none⟩ = some (.slice a n c)) (h6 : w.cell? ⟨P6, 0, none⟩ = some (.int .i64 i)) (hA : Ints .i64 w B a (n * 9) xs) (hB : B ≤ w.heap.size) (hn : n ≤ 1048577) (hi : i < n) (hp : Pre xs n) :
    Calls Try.prog 64 (#[.int .i64 x] ++ #[.pointer (some ⟨P6, 0, none⟩), .pointer (some ⟨P2, 0, none⟩)]) w fun e w' => e = .returned (.bool (x != (i : Int) && arnd xs x i)) ∧ Below w.heap.size w w' := by
  have hc := implAround_any B a n c xs x i w hA hB hn hi hp
  clear hA hp
  show Calls Try.prog 64 #[.int .i64 x, .pointer (some ⟨P6, 0, none⟩), .pointer (some ⟨P2, 0, none⟩)] w _
  by_cases hxi : x = (i : Int)
  · have hxi' : (x != (i : Int)) = false := by simpa using hxi
    have HR := hide (Below.refl w.heap.size w)
    clear hc hxi
    go_enter Try.func64, Try.ntmps64
    go_wp2
    go_ret
    exact ⟨ret_bool (by simp [hxi']), HR.out⟩
  · have hxi' : (x != (i : Int)) = true := by simpa using hxi
    clear hxi
    go_enter Try.func64, Try.ntmps64
    go_wp2_with (go_at_call 40; refine hc.mono ?_; rintro e w' ⟨rfl, hb⟩; have HB := hide hb; clear hb)
    go_ret
    exact ⟨ret_bool (by simp [hxi']), HB.out⟩
set_option maxHeartbeats 4000000 in
theorem implRoots_any (B BM : Nat) (a am : Option Addr) (n c m0 cm : Nat) (xs ms : List Int) (w : World) (hA : Ints .i64 w B a (n * 9) xs) (hM : Ints .i64 w BM am m0 ms) (hB : B ≤ w.heap.size) (hBM : BM ≤ w.heap.size) (hn : n ≤ 1048577) (hm : m0 ≤ 1048577) (hT : TreeP xs n) (hpos : ∀ x ∈ ms, 0 ≤ x) :
    Calls Try.prog 48 #[.slice a n c, .slice am m0 cm] w (ListRC (pickN (rootB xs ms) n) w) := by
  obtain ⟨i0, hi0, hz0, hz1, hz2⟩ := info_parts int_info
  have hb0 : Below w.heap.size w (w.alloc (.cells #[.slice a n c] 25)) := (Below.refl _ _).alloc (Nat.le_refl _) _
  have HB0 := hide hb0
  have HZ0 := hide (show (w.alloc (.cells #[.slice a n c] 25)).heap.size = w.heap.size + 1 by simp)
  have c2 : (w.alloc (.cells #[.slice a n c] 25)).cell? ⟨w.heap.size, 0, none⟩ = some (.slice a n c) := by simp [go_sem]
  have H2 := hide (fun W (h : Below (w.alloc (.cells #[.slice a n c] 25)).heap.size (w.alloc (.cells #[.slice a n c] 25)) W) => (h.cell (p := ⟨w.heap.size, 0, none⟩) (by show w.heap.size < (w.alloc (.cells #[.slice a n c] 25)).heap.size; simp)).trans c2)
  have HA := hide (fun W (h : Below (w.alloc (.cells #[.slice a n c] 25)).heap.size (w.alloc (.cells #[.slice a n c] 25)) W) => (hA.below hb0 hB).below h (by have := HZ0.out; omega))
  have HM := hide (fun W (h : Below (w.alloc (.cells #[.slice a n c] 25)).heap.size (w.alloc (.cells #[.slice a n c] 25)) W) => (hM.below hb0 hBM).below h (by have := HZ0.out; omega))
  have HR := hide (Below.refl (w.alloc (.cells #[.slice a n c] 25)).heap.size (w.alloc (.cells #[.slice a n c] 25)))
  have HL := hide hM.1
  clear hb0 hA hM
  have HT := hide hT
  have HS := hide (show Own 3 1 ((w.alloc (.cells #[.slice a n c] 25)).alloc (.cells #[] 3)) (w.alloc (.cells #[.slice a n c] 25)).heap.size (.slice (some ⟨(w.alloc (.cells #[.slice a n c] 25)).heap.size, 0, none⟩) 0 0) 0 [] from Own.made 3 1 _ #[] 0 _ (Nat.le_refl _) (by omega) rfl)
  have HB := hide (show Below (w.alloc (.cells #[.slice a n c] 25)).heap.size (w.alloc (.cells #[.slice a n c] 25)) ((w.alloc (.cells #[.slice a n c] 25)).alloc (.cells #[] 3)) from (Below.refl _ _).alloc (Nat.le_refl _) _)
  have k2 := H2.out _ HB.out
  clear hT hpos
  go_enter Try.func48, Try.ntmps48
  go_wp2
  generalize w.alloc (.cells #[.slice a n c] 25) = W0 at HB0 HZ0 c2 H2 HA HM HR HS HB k2 ⊢
  clear k2 c2 HR
  have HS1 := hide (show Own 3 1 (W0.alloc (.cells #[] 3)) W0.heap.size (.slice (some ⟨w.heap.size + 1, 0, none⟩) 0 0) 0 [] by have h := HS.out; rw [HZ0.out] at h ⊢; exact h)
  clear HS
  generalize W0.alloc (.cells #[] 3) = W2 at HS1 HB ⊢
  go_loopw [5, 6, 7, 11] (fun s5 _ _ s11 wr => ∃ (k m c' : Nat) (A : Option Addr) (ys : List Int) (W9 : World), k ≤ n ∧ m ≤ k ∧ s5 = .slice A m c' ∧ s11 = .int .i64 k ∧ W9 = wr ∧ Hid (ys = pickN (rootB xs ms) k) ∧ Hid (Own 3 1 W9 W0.heap.size (.slice A m c') m ys) ∧ Hid (Below W0.heap.size W0 W9)) (fun _ _ _ s11 _ => n - (intOf s11).toNat)
  case atStart => exact ⟨0, 0, _, _, [], _, Nat.zero_le _, Nat.zero_le _, rfl, rfl, rfl, hide rfl, HS1, HB⟩
  case round =>
    clear HS1 HB
    obtain ⟨k, m, c', A, ys, W9, hk, hmk, rfl, rfl, rfl, HY, HO, HB⟩ := hrel
    have hz9 := HB.out.size
    by_cases hlt : k < n
    · have hkn : (k : Int) < (n : Int) := by omega
      have hba : Below W9.heap.size W9 (W9.alloc (.cells #[.int .i64 (k : Int)] 3)) := (Below.refl _ _).alloc (Nat.le_refl _) _
      have HBa := hide (HB.out.trans (hba.mono hz9))
      have HOa := hide (HO.out.keep hba)
      have HZa := hide (show (W9.alloc (.cells #[.int .i64 (k : Int)] 3)).heap.size = W9.heap.size + 1 by simp)
      have c6 : (W9.alloc (.cells #[.int .i64 (k : Int)] 3)).cell? ⟨W9.heap.size, 0, none⟩ = some (.int .i64 k) := by simp [go_sem]
      have hza := HBa.out.size
      have hin := containsInt_any BM am m0 cm ms (k : Int) _ (HM.out _ HBa.out) (by omega)
      obtain ⟨q, hq⟩ : ∃ q, decide ((k : Int) ∈ ms) = q := ⟨_, rfl⟩
      rw [hq] at hin
      have HIn := hide hq
      clear hba HO hq
      cases q with
      | false =>
        have D := hide (show ys = pickN (rootB xs ms) (k + 1) by rw [pickN_no (rootB_out HIn.out), HY.out])
        clear HY HIn
        go_wp2_with (go_at_call 59; refine hin.mono ?_; rintro e w' ⟨rfl, rfl⟩)
        go_roundw
        case rel => exact ⟨k + 1, m, _, _, _, _, by omega, by omega, rfl, by go_num, rfl, D, HOa, HBa⟩
        case measure => simp [intOf]; omega
      | true =>
      have HK := hide (rootB_in (xs := xs) HIn.out)
      have hcall := containsFn_any 64 #[.pointer (some ⟨W9.heap.size, 0, none⟩), .pointer (some ⟨w.heap.size, 0, none⟩)] (enters_of Try.func64 (by kernel_rfl) rfl) (fun y => y != (k : Int) && arnd xs y k) BM am m0 cm ms _ (HM.out _ HBa.out) (by have := HZ0.out; omega) (by omega)
        (fun x _ W hW => rootFn_any w.heap.size W9.heap.size B a n c xs k x W (H2.out W (HBa.out.trans (hW.mono hza))) ((hW.cell (p := ⟨W9.heap.size, 0, none⟩) (by show W9.heap.size < _; have := HZa.out; omega)).trans c6) (HA.out W (HBa.out.trans (hW.mono hza))) (by have := HZ0.out; have := hW.size; omega) hn hlt HT.out.pre)
      clear HIn
      go_wp2_with (go_at_call 59; refine hin.mono ?_; rintro e w' ⟨rfl, rfl⟩)
      have H6 := hide c6
      clear hin c6
      generalize W9.alloc (.cells #[.int .i64 (k : Int)] 3) = Wa at HBa HOa HZa H6 hza hcall ⊢
      obtain ⟨q, hq⟩ : ∃ q, ms.any (fun y => y != (k : Int) && arnd xs y k) = q := ⟨_, rfl⟩
      rw [hq] at hcall
      rw [hq] at HK
      clear hq
      refine hcall.mono ?_
      rintro e W3 ⟨rfl, hb⟩
      have g6 := (hb.cell (p := ⟨W9.heap.size, 0, none⟩) (by show W9.heap.size < Wa.heap.size; have := HZa.out; omega)).trans H6.out
      have HO3 := hide (HOa.out.keep hb)
      have HB3 := hide (HBa.out.trans (hb.mono hza))
      have hz3 := HB3.out.size
      clear hb hcall HOa HBa H6
      cases q with
      | false =>
        have D := hide (show ys ++ [(k : Int)] = pickN (rootB xs ms) (k + 1) by rw [pickN_yes HK.out, HY.out])
        clear HK HY
        go_wp2_with (at_builtin; refine wpList_push rfl (.tmp 24) (.tmp 26) 31 3 1 8 i0 _ rfl Try.underlying31 hi0 hz0 hz1 hz2 rfl (by omega) (by omega) W3 W0.heap.size (.slice A m c') m ys rfl HO3.out [(k : Int)] 1 1 rfl rfl (by omega) hz3 ?_; intro v1 w1 ho1 hb1 hg1 hv1; obtain ⟨A1, c1, hvv1, _, _, _⟩ := ho1.form; subst hvv1; have HO1 := hide ho1; have HB1 := hide (HB3.out.trans hb1); clear ho1 hb1 hg1 hv1)
        go_roundw
        case rel => exact ⟨k + 1, m + 1, _, _, _, _, by omega, by omega, rfl, by go_num, rfl, D, HO1, HB1⟩
        case measure => simp [intOf]; omega
      | true =>
        have D := hide (show ys = pickN (rootB xs ms) (k + 1) by rw [pickN_no HK.out, HY.out])
        clear HK HY g6
        go_wp2
        go_roundw
        case rel => exact ⟨k + 1, m, _, _, _, _, by omega, by omega, rfl, by go_num, rfl, D, HO3, HB3⟩
        case measure => simp [intOf]; omega
    · obtain rfl : n = k := by omega
      obtain ⟨A', c'', e, hc1, hc2, hrow⟩ := HO.out.form
      injection e with e1 e2 e3
      subst e1 e3
      rw [Nat.mul_one] at hrow
      have D := hide (show ListRC (pickN (rootB xs ms) n) w (.returned (.slice A m m)) W9 by rw [← HY.out]; exact ⟨A, m, rfl, hrow.mono (by have := HZ0.out; omega) (Nat.le_refl _), HB0.out.trans (HB.out.mono (by have := HZ0.out; omega))⟩)
      clear HY HO hrow
      go_wp2_with (go_at_call 46; refine (clipInts_any A m c' _ hc1 (by unfold maxLen; omega)).mono ?_; rintro e w' ⟨rfl, rfl⟩)
      go_ret
      exact D.out
theorem specRootsOf_any (B BM : Nat) (a am : Option Addr) (n c m0 cm : Nat) (xs ms : List Int) (w : World) (hA : Ints .i64 w B a (n * 9) xs) (hM : Ints .i64 w BM am m0 ms) (hB : B ≤ w.heap.size) (hBM : BM ≤ w.heap.size) (hn : n ≤ 1048577) (hm : m0 ≤ 1048577) :
    Calls Try.prog 28 #[.slice a n c, .slice am m0 cm] w (ListR (pickL rootB xs n ms) w) := by
  have hv := specMarks_any B BM a am n c m0 cm xs ms w hA hM hB hBM hn hm
  have HA := hide (fun W (h : Below w.heap.size w W) => hA.below h hB)
  have HM := hide (fun W (h : Below w.heap.size w W) => hM.below h hBM)
  clear hA hM
  cases h0 : marksV xs n ms
  case false =>
    rw [h0] at hv
    have D := hide (pickL_no (p := rootB) h0)
    go_enter Try.func28, Try.ntmps28
    go_wp2_with (go_at_call 41; refine hv.mono ?_; rintro e W1 ⟨rfl, hb⟩; have HB := hide hb; clear hb)
    go_ret
    exact ListR.nil D.out HB.out
  case true =>
    rw [h0] at hv
    have HQ := hide (pickL_yes (p := rootB) h0)
    have ht := marksV_all h0
    have HI := hide (fun W (h : Below w.heap.size w W) => specRoots_any B BM a am n c m0 cm xs ms W (HA.out W h) (HM.out W h) (by have := h.size; omega) (by have := h.size; omega) hn hm ht.1 (fun x hx => (ht.2.2 x hx).1))
    clear h0 ht
    go_enter Try.func28, Try.ntmps28
    go_wp2_with (go_at_call 41; refine hv.mono ?_; rintro e W1 ⟨rfl, hb⟩; have HB := hide hb; clear hb)
    refine (HI.out _ HB.out).mono ?_
    rintro e W2 ⟨A, m, c', rfl, hr, hb⟩
    have D := hide (show ListR (pickL rootB xs n ms) w (.returned (.slice A m c')) W2 by rw [HQ.out]; exact ⟨A, m, c', rfl, hr.mono HB.out.size (Nat.le_refl _), HB.out.trans (hb.mono HB.out.size)⟩)
    clear hr hb
    go_wp2
    go_ret
    exact D.out
theorem implRootsOf_any (B BM : Nat) (a am : Option Addr) (n c m0 cm : Nat) (xs ms : List Int) (w : World) (hA : Ints .i64 w B a (n * 9) xs) (hM : Ints .i64 w BM am m0 ms) (hB : B ≤ w.heap.size) (hBM : BM ≤ w.heap.size) (hn : n ≤ 1048577) (hm : m0 ≤ 1048577) :
    Calls Try.prog 29 #[.slice a n c, .slice am m0 cm] w (ListR (pickL rootB xs n ms) w) := by
  have hv := implMarks_any B BM a am n c m0 cm xs ms w hA hM hB hBM hn hm
  have HA := hide (fun W (h : Below w.heap.size w W) => hA.below h hB)
  have HM := hide (fun W (h : Below w.heap.size w W) => hM.below h hBM)
  clear hA hM
  cases h0 : marksV xs n ms
  case false =>
    rw [h0] at hv
    have D := hide (pickL_no (p := rootB) h0)
    go_enter Try.func29, Try.ntmps29
    go_wp2_with (go_at_call 43; refine hv.mono ?_; rintro e W1 ⟨rfl, hb⟩; have HB := hide hb; clear hb)
    go_ret
    exact ListR.nil D.out HB.out
  case true =>
    rw [h0] at hv
    have HQ := hide (pickL_yes (p := rootB) h0)
    have ht := marksV_all h0
    have HI := hide (fun W (h : Below w.heap.size w W) => implRoots_any B BM a am n c m0 cm xs ms W (HA.out W h) (HM.out W h) (by have := h.size; omega) (by have := h.size; omega) hn hm ht.1 (fun x hx => (ht.2.2 x hx).1) |>.mono fun e w' h => h.r)
    clear h0 ht
    go_enter Try.func29, Try.ntmps29
    go_wp2_with (go_at_call 43; refine hv.mono ?_; rintro e W1 ⟨rfl, hb⟩; have HB := hide hb; clear hb)
    refine (HI.out _ HB.out).mono ?_
    rintro e W2 ⟨A, m, c', rfl, hr, hb⟩
    have D := hide (show ListR (pickL rootB xs n ms) w (.returned (.slice A m c')) W2 by rw [HQ.out]; exact ⟨A, m, c', rfl, hr.mono HB.out.size (Nat.le_refl _), HB.out.trans (hb.mono HB.out.size)⟩)
    clear hr hb
    go_wp2
    go_ret
    exact D.out
end Go.Proofs.Ytmflfpjcaijmmaa
