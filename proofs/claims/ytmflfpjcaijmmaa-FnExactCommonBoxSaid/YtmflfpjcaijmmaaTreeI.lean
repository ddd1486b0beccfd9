/- Trees: which boxes are dirty: the program. Conditions: none. -/
import Derived.Test.YtmflfpjcaijmmaaTreeH
namespace Go.Proofs.Ytmflfpjcaijmmaa
open Go.RowKit
set_option linter.unusedVariables false
set_option linter.unusedSimpArgs false
theorem dirtyFn_any (P2 P6 : Nat) (B : Nat) (a : Option Addr) (n c : Nat) (xs : List Int) (i : Nat) (x : Int) (w : World) (h2 : w.cell? ⟨P2, 0, none⟩ = some (.slice a n c)) (h6 : w.cell? ⟨P6, 0, none⟩ = some (.int .i64 i)) (hA : Ints .i64 w B a (n * 9) xs) (hB : B ≤ w.heap.size) (hn : n ≤ 1048577) (hi : i < n) (hp : Pre xs n) :
    Calls Try.prog 45 (#[.int .i64 x] ++ #[.pointer (some ⟨P2, 0, none⟩), .pointer (some ⟨P6, 0, none⟩)]) w fun e w' => e = .returned (.bool (arnd xs x i)) ∧ Below w.heap.size w w' := by
  have hc := implAround_any B a n c xs x i w hA hB hn hi hp
  clear hA hp
  show Calls Try.prog 45 #[.int .i64 x, .pointer (some ⟨P2, 0, none⟩), .pointer (some ⟨P6, 0, none⟩)] w _
  go_enter Try.func45, Try.ntmps45
  go_wp2_with fail
  refine hc.mono ?_
  rintro e w' ⟨rfl, hb⟩
  have HB := hide hb
  clear hb h2 h6
  go_wp2
  go_ret
  exact ⟨rfl, HB.out⟩
set_option maxHeartbeats 2000000 in
theorem implDirty_any (B BM : Nat) (a am : Option Addr) (n c m0 cm : Nat) (xs ms : List Int) (w : World) (hA : Ints .i64 w B a (n * 9) xs) (hM : Ints .i64 w BM am m0 ms) (hB : B ≤ w.heap.size) (hBM : BM ≤ w.heap.size) (hn : n ≤ 1048577) (hm : m0 ≤ 1048577) :
    Calls Try.prog 27 #[.slice a n c, .slice am m0 cm] w (ListR (pickL covB xs n ms) w) := by
  obtain ⟨i0, hi0, hz0, hz1, hz2⟩ := info_parts int_info
  have hb0 : Below w.heap.size w (w.alloc (.cells #[.slice a n c] 25)) := (Below.refl _ _).alloc (Nat.le_refl _) _
  have HB0 := hide hb0
  have HZ0 := hide (show (w.alloc (.cells #[.slice a n c] 25)).heap.size = w.heap.size + 1 by simp)
  have c2 : (w.alloc (.cells #[.slice a n c] 25)).cell? ⟨w.heap.size, 0, none⟩ = some (.slice a n c) := by simp [go_sem]
  have H2 := hide (fun W (h : Below (w.alloc (.cells #[.slice a n c] 25)).heap.size (w.alloc (.cells #[.slice a n c] 25)) W) => (h.cell (p := ⟨w.heap.size, 0, none⟩) (by show w.heap.size < (w.alloc (.cells #[.slice a n c] 25)).heap.size; simp)).trans c2)
  have HA := hide (fun W (h : Below (w.alloc (.cells #[.slice a n c] 25)).heap.size (w.alloc (.cells #[.slice a n c] 25)) W) => (hA.below hb0 hB).below h (by have := HZ0.out; omega))
  have HM := hide (fun W (h : Below (w.alloc (.cells #[.slice a n c] 25)).heap.size (w.alloc (.cells #[.slice a n c] 25)) W) => (hM.below hb0 hBM).below h (by have := HZ0.out; omega))
  have HR := hide (Below.refl (w.alloc (.cells #[.slice a n c] 25)).heap.size (w.alloc (.cells #[.slice a n c] 25)))
  have HL := hide hM.1
  clear hb0 hA hM
  cases h0 : marksV xs n ms
  case false =>
    have D := hide (pickL_no (p := covB) h0)
    go_enter Try.func27, Try.ntmps27
    go_wp2_with fail
    generalize w.alloc (.cells #[.slice a n c] 25) = W0 at HB0 HZ0 c2 H2 HA HM HR ⊢
    have hv := implMarks_any B BM a am n c m0 cm xs ms W0 (HA.out _ HR.out) (HM.out _ HR.out) (by have := HZ0.out; omega) (by have := HZ0.out; omega) hn hm
    rw [h0] at hv
    refine hv.mono ?_
    rintro e W1 ⟨rfl, hb⟩
    have HB := hide (HB0.out.trans (hb.mono (by have := HZ0.out; omega)))
    clear hb hv
    go_wp2
    go_ret
    exact ListR.nil D.out HB.out
  case true =>
    have HQ := hide (pickL_yes (p := covB) h0)
    have ht := marksV_all h0
    have HT := hide ht.1
    clear ht
    go_enter Try.func27, Try.ntmps27
    go_wp2_with fail
    generalize w.alloc (.cells #[.slice a n c] 25) = W0 at HB0 HZ0 c2 H2 HA HM HR ⊢
    have hv := implMarks_any B BM a am n c m0 cm xs ms W0 (HA.out _ HR.out) (HM.out _ HR.out) (by have := HZ0.out; omega) (by have := HZ0.out; omega) hn hm
    rw [h0] at hv
    refine hv.mono ?_
    rintro e W1 ⟨rfl, hb⟩
    have HB1 := hide hb
    have g2 := H2.out _ hb
    have hz1' := hb.size
    have HS := hide (show Own 3 1 (W1.alloc (.cells #[] 3)) W0.heap.size (.slice (some ⟨W1.heap.size, 0, none⟩) 0 0) 0 [] from Own.made 3 1 W1 #[] 0 W0.heap.size hz1' (by omega) rfl)
    have HB := hide (show Below W0.heap.size W0 (W1.alloc (.cells #[] 3)) from HB1.out.alloc hz1' _)
    have k2 := H2.out _ HB.out
    clear hb hv h0 c2 HR
    go_wp2
    clear g2 k2 HB1
    generalize W1.alloc (.cells #[] 3) = W2 at HS HB ⊢
    generalize (Value.slice (some ⟨W1.heap.size, 0, none⟩) 0 0) = V2 at HS ⊢
    obtain ⟨A2, c2, e2, -, -, -⟩ := HS.out.form
    subst e2
    go_loopw [5, 6, 14] (fun s5 _ s14 wr => ∃ (k m c' : Nat) (A : Option Addr) (ys : List Int) (W9 : World), k ≤ n ∧ m ≤ k ∧ s5 = .slice A m c' ∧ s14 = .int .i64 k ∧ W9 = wr ∧ Hid (ys = pickN (covB xs ms) k) ∧ Hid (Own 3 1 W9 W0.heap.size (.slice A m c') m ys) ∧ Hid (Below W0.heap.size W0 W9)) (fun _ _ s14 _ => n - (intOf s14).toNat)
    case atStart => exact ⟨0, 0, _, _, [], _, Nat.zero_le _, Nat.zero_le _, rfl, rfl, rfl, hide rfl, HS, HB⟩
    case round =>
      clear HS HB
      obtain ⟨k, m, c', A, ys, W9, hk, hmk, rfl, rfl, rfl, HY, HO, HB⟩ := hrel
      have hz9 := HB.out.size
      by_cases hlt : k < n
      · have hkn : (k : Int) < (n : Int) := by omega
        have hba : Below W9.heap.size W9 (W9.alloc (.cells #[.int .i64 (k : Int)] 3)) := (Below.refl _ _).alloc (Nat.le_refl _) _
        have HBa := hide (HB.out.trans (hba.mono hz9))
        have HOa := hide (HO.out.keep hba)
        have HZa := hide (show (W9.alloc (.cells #[.int .i64 (k : Int)] 3)).heap.size = W9.heap.size + 1 by simp)
        have c6 : (W9.alloc (.cells #[.int .i64 (k : Int)] 3)).cell? ⟨W9.heap.size, 0, none⟩ = some (.int .i64 k) := by simp [go_sem]
        have H6 := hide c6
        clear hba HO c6
        go_wp2_with fail
        generalize W9.alloc (.cells #[.int .i64 (k : Int)] 3) = Wa at HBa HOa HZa H6 ⊢
        have hza := HBa.out.size
        have hcall := containsFn_any 45 #[.pointer (some ⟨w.heap.size, 0, none⟩), .pointer (some ⟨W9.heap.size, 0, none⟩)] (enters_of Try.func45 (by kernel_rfl) rfl) (fun y => arnd xs y k) BM am m0 cm ms Wa (HM.out _ HBa.out) (by have := HZ0.out; omega) (by omega)
          (fun x _ W hW => dirtyFn_any w.heap.size W9.heap.size B a n c xs k x W (H2.out W (HBa.out.trans (hW.mono hza))) ((hW.cell (p := ⟨W9.heap.size, 0, none⟩) (by show W9.heap.size < Wa.heap.size; have := HZa.out; omega)).trans H6.out) (HA.out W (HBa.out.trans (hW.mono hza))) (by have := HZ0.out; have := hW.size; omega) hn hlt HT.out.pre)
        cases hq : ms.any (fun y => arnd xs y k) with
        | true =>
          rw [hq] at hcall
          have D := hide (show ys ++ [(k : Int)] = pickN (covB xs ms) (k + 1) by rw [pickN_yes (show covB xs ms k = true from hq), HY.out])
          clear hq HY
          refine hcall.mono ?_
          rintro e W3 ⟨rfl, hb⟩
          have g6 := (hb.cell (p := ⟨W9.heap.size, 0, none⟩) (by show W9.heap.size < Wa.heap.size; have := HZa.out; omega)).trans H6.out
          have HO3 := hide (HOa.out.keep hb)
          have HB3 := hide (HBa.out.trans (hb.mono hza))
          have hz3 := HB3.out.size
          clear hb hcall HOa HBa H6
          go_wp2_with (at_builtin; refine wpList_push rfl (.tmp 20) (.tmp 22) 31 3 1 8 i0 _ rfl Try.underlying31 hi0 hz0 hz1 hz2 rfl (by omega) (by omega) W3 W0.heap.size (.slice A m c') m ys rfl HO3.out [(k : Int)] 1 1 rfl rfl (by omega) hz3 ?_; intro v1 w1 ho1 hb1 hg1 hv1; obtain ⟨A1, c1, hvv1, _, _, _⟩ := ho1.form; subst hvv1; have HO1 := hide ho1; have HB1 := hide (HB3.out.trans hb1); clear ho1 hb1 hg1 hv1)
          go_roundw
          case rel => exact ⟨k + 1, m + 1, _, _, _, _, by omega, by omega, rfl, by go_num, rfl, D, HO1, HB1⟩
          case measure => simp [intOf]; omega
        | false =>
          rw [hq] at hcall
          have D := hide (show ys = pickN (covB xs ms) (k + 1) by rw [pickN_no (show covB xs ms k = false from hq), HY.out])
          clear hq HY
          refine hcall.mono ?_
          rintro e W3 ⟨rfl, hb⟩
          have HO3 := hide (HOa.out.keep hb)
          have HB3 := hide (HBa.out.trans (hb.mono hza))
          clear hb hcall HOa HBa H6
          go_wp2
          go_roundw
          case rel => exact ⟨k + 1, m, _, _, _, _, by omega, by omega, rfl, by go_num, rfl, D, HO3, HB3⟩
          case measure => simp [intOf]; omega
      · obtain rfl : n = k := by omega
        obtain ⟨A', c'', e, hc1, hc2, hrow⟩ := HO.out.form
        injection e with e1 e2 e3
        subst e1 e3
        rw [Nat.mul_one] at hrow
        have D := hide (show ListR (pickL covB xs n ms) w (.returned (.slice A m m)) W9 by rw [HQ.out, ← HY.out]; exact ⟨A, m, m, rfl, hrow.mono (by have := HZ0.out; omega) (Nat.le_refl _), HB0.out.trans (HB.out.mono (by have := HZ0.out; omega))⟩)
        clear HY HO hrow
        go_wp2_with (go_at_call 46; refine (clipInts_any A m c' _ hc1 (by unfold maxLen; omega)).mono ?_; rintro e w' ⟨rfl, rfl⟩)
        go_ret
        exact D.out
end Go.Proofs.Ytmflfpjcaijmmaa
