/- The laws of RowsUsed. Conditions: none. -/
import Derived.Test.YtldmnpflcnmcpaaPlace
import Derived.Test.YtldmnpflcnmcpaaDrawF
namespace Go.Proofs.Ytldmnpflcnmcpaa
open Go.RowKit
set_option linter.unusedVariables false
theorem rowsS_bd (xs : List Int) (c : Int) : -1 ≤ rowsS xs c ∧ rowsS xs c ≤ 12 := by
  unfold rowsS
  split
  · rename_i h
    have h1 := okP_iff.1 h
    have := rows_bd (c := c) (by omega) h1.2.2
    omega
  · omega

set_option maxHeartbeats 2000000 in
theorem walk_FnExactRowsUsed (a0 : Option Addr) (len cap : Nat) (zs : List Int) (a1 : Int) (w : World) (h0 : Ints .i64 w w.heap.size a0 len zs) (hc : len ≤ cap) (hw1 : (Lit.int .i64 a1).wf = true) :
    Calls Try.prog 3 #[.slice a0 len cap, .int .i64 a1] w fun e w' => e = .returned (.bool true) ∧ Below w.heap.size w w' := by
  by_cases hl : len ≤ 1048576
  case neg =>
    go_enter Try.func3, Try.ntmps3
    go_wp2
    go_ret
    exact ⟨rfl, Below.refl _ _⟩
  case pos =>
    have H0 := hide h0
    clear h0
    go_enter Try.func3, Try.ntmps3
    go_wp2_with fail
    refine (toIntS_any a0 len cap zs _ H0.out hl).mono ?_
    rintro e W1 ⟨A1, n1, c1, rfl, p1, p2, r1, hb1⟩
    have hX1 := hide r1.ints
    have hn1 : n1 = len := by have h := r1.1; exact h.symm.trans H0.out.1
    subst hn1
    have hB1 := hide hb1
    have hz1 := hb1.size
    clear r1 hb1
    go_wp2_with fail
    refine (specRows_any W1.heap.size A1 n1 c1 zs a1 _ hX1.out (Nat.le_refl _) hl).mono ?_
    rintro e W2 ⟨rfl, hb⟩
    have hB2 := hide (hB1.out.trans (hb.mono hz1))
    have H2 := hide (H0.out.below hB2.out (Nat.le_refl _))
    have hz2 := hb.size
    clear hb hX1
    go_wp2_with fail
    refine (toIntS_any a0 n1 cap zs _ (H2.out.more (by omega)) hl).mono ?_
    rintro e W3 ⟨A3, n3, c3, rfl, p3, p4, r3, hb⟩
    have hX3 := hide r3.ints
    have hn3 : n3 = n1 := by have h := r3.1; exact h.symm.trans H0.out.1
    subst hn3
    have hB3 := hide (hB2.out.trans (hb.mono (by omega)))
    have hz3 := hb.size
    clear r3 hb
    go_wp2_with fail
    refine (implRows_any W3.heap.size A3 n3 c3 zs a1 _ hX3.out (Nat.le_refl _) hl).mono ?_
    rintro e W4 ⟨rfl, hb⟩
    have hB4 := hide (hB3.out.trans (hb.mono (by omega)))
    have hX4 := hide (hX3.out.below hb (Nat.le_refl _))
    have H4 := hide (H0.out.below hB4.out (Nat.le_refl _))
    have hz4 := hb.size
    clear hb hX3
    generalize rowsS zs a1 = r
    go_wp2_with fail
    refine (toIntS_any a0 n3 cap zs _ (H4.out.more (by omega)) hl).mono ?_
    rintro e W5 ⟨A5, n5, c5, rfl, p5, p6, r5, hb⟩
    have hX5 := hide r5.ints
    have hn5 : n5 = n3 := by have h := r5.1; exact h.symm.trans H0.out.1
    subst hn5
    have hB5 := hide (hB4.out.trans (hb.mono (by omega)))
    have hX45 := hide (hX4.out.below hb (by omega))
    have hz5 := hb.size
    clear r5 hb hX4
    go_wp2_with fail
    refine (eqIntS_any W3.heap.size W5.heap.size A3 A5 n5 n5 c3 c5 zs zs _ hX45.out hX5.out (by omega) (by omega)).mono ?_
    rintro e W6 ⟨rfl, hb⟩
    rw [listEq_self]
    have hB6 := hide (hB5.out.trans (hb.mono (by omega)))
    clear hb hX5 hX45
    go_wp2
    go_ret
    exact ⟨rfl, hB6.out⟩
set_option maxHeartbeats 2000000 in
theorem walk_FnRowsUsedMore (a0 : Option Addr) (len cap : Nat) (zs : List Int) (w : World) (h0 : Ints .u8 w w.heap.size a0 len zs) (hc : len ≤ cap) :
    Calls Try.prog 8 #[.slice a0 len cap] w fun e w' => e = .returned (.bool true) ∧ Below w.heap.size w w' := by
  by_cases hl : len ≤ 1048576
  case neg =>
    go_enter Try.func8, Try.ntmps8
    go_wp2
    go_ret
    exact ⟨rfl, Below.refl _ _⟩
  case pos =>
    go_enter Try.func8, Try.ntmps8
    go_wp2_with fail
    refine (drawRows_any a0 len cap zs _ h0 hc).mono ?_
    rintro e W0 ⟨A, n, c, xs, cc, rfl, hc0, hc9, hn, hnc, hcm, rX, hb⟩
    have hX0 := hide rX.ints
    have hB0 := hide hb
    have hz0 := hb.size
    have hbd := rowsS_bd xs cc
    clear h0 rX hb
    go_wp2_with fail
    refine (implRows_any W0.heap.size A n c xs cc _ hX0.out (Nat.le_refl _) (by omega)).mono ?_
    rintro e W1 ⟨rfl, hb⟩
    have hX1 := hide (hX0.out.below hb (Nat.le_refl _))
    have hB1 := hide (hB0.out.trans (hb.mono hz0))
    have hz1 := hb.size
    clear hb hX0
    go_wp2_with fail
    refine (specRows_any W0.heap.size A n c xs cc _ hX1.out (by omega) (by omega)).mono ?_
    rintro e W2 ⟨rfl, hb⟩
    have hX2 := hide (hX1.out.below hb (by omega))
    have hB2 := hide (hB1.out.trans (hb.mono (by omega)))
    have hz2 := hb.size
    clear hb hX1
    by_cases hok : okP xs cc = true
    · have hi := okP_iff.1 hok
      have hr := hide (show rowsS xs cc = rowsL xs cc from if_pos hok)
      have hrb := rows_bd (c := cc) (by omega) hi.2.2
      by_cases h8 : cc = 8
      · subst h8
        rw [hr.out] at hbd ⊢
        generalize rowsL xs 8 = r at hr hbd hrb ⊢
        go_wp2_with fail
        refine (specRows_any W0.heap.size A n c xs 8 _ hX2.out (by omega) (by omega)).mono ?_
        rintro e W3 ⟨rfl, hb⟩
        rw [hr.out]
        have hB3 := hide (hB2.out.trans (hb.mono (by omega)))
        clear hb hX2
        go_wp2
        go_ret
        exact ⟨ret_bool (by simp), hB3.out⟩
      · have hok2 : okP xs (cc + 1) = true := okP_iff.2 ⟨by omega, hi.2.1, fun x hx => by have := hi.2.2 x hx; omega⟩
        have hr2 := hide (show rowsS xs (cc + 1) = rowsL xs (cc + 1) from if_pos hok2)
        have hle := rows_more (c := cc) (by omega) hi.2.2
        have hw : IntKind.i64.wrap (cc + 1) = cc + 1 := IntWalk.i64_in _ (by omega)
        have h81 : (cc == 8) = false := by simpa using h8
        rw [hr.out] at hbd ⊢
        clear hok hi hok2
        generalize rowsL xs cc = r at hr hbd hrb hle ⊢
        go_wp2_with fail
        refine (implRows_any W0.heap.size A n c xs (cc + 1) _ hX2.out (by omega) (by omega)).mono ?_
        rintro e W3 ⟨rfl, hb⟩
        rw [hr2.out]
        have hB3 := hide (hB2.out.trans (hb.mono (by omega)))
        clear hb hX2 hr hr2
        generalize rowsL xs (cc + 1) = r2 at hle ⊢
        go_wp2
        go_ret
        exact ⟨ret_bool (by simp), hB3.out⟩
    · have hr := hide (show rowsS xs cc = -1 from if_neg hok)
      rw [hr.out]
      clear hbd hok
      go_wp2_with fail
      refine (specRows_any W0.heap.size A n c xs cc _ hX2.out (by omega) (by omega)).mono ?_
      rintro e W3 ⟨rfl, hb⟩
      rw [hr.out]
      have hB3 := hide (hB2.out.trans (hb.mono (by omega)))
      clear hb hX2
      go_wp2
      go_ret
      exact ⟨ret_bool (by simp), hB3.out⟩
set_option maxHeartbeats 2000000 in
theorem walk_FnRowsUsed (a0 : Option Addr) (len cap : Nat) (zs : List Int) (w : World) (h0 : Ints .u8 w w.heap.size a0 len zs) (hc : len ≤ cap) :
    Calls Try.prog 9 #[.slice a0 len cap] w fun e w' => e = .returned (.bool true) ∧ Below w.heap.size w w' := by
  obtain ⟨i0, hI, hI0, hI1, hI2⟩ := info_parts int_info
  by_cases hl : len ≤ 1048576
  case neg =>
    go_enter Try.func9, Try.ntmps9
    go_wp2
    go_ret
    exact ⟨rfl, Below.refl _ _⟩
  case pos =>
    go_enter Try.func9, Try.ntmps9
    go_wp2_with fail
    refine (drawRows_any a0 len cap zs _ h0 hc).mono ?_
    rintro e W0 ⟨A, n, c, xs, cc, rfl, hc0, hc9, hn, hnc, hcm, rX, hb⟩
    have hX0 := hide rX.ints
    have hxl := hide rX.1
    have hB0 := hide hb
    have hz0 := hb.size
    have hbd := rowsS_bd xs cc
    clear h0 rX hb
    go_wp2_with fail
    refine (implRows_any W0.heap.size A n c xs cc _ hX0.out (Nat.le_refl _) (by omega)).mono ?_
    rintro e W1 ⟨rfl, hb⟩
    have hX1 := hide (hX0.out.below hb (Nat.le_refl _))
    have hB1 := hide (hB0.out.trans (hb.mono hz0))
    have hz1 := hb.size
    clear hb hX0
    go_wp2_with fail
    refine (specRows_any W0.heap.size A n c xs cc _ hX1.out (by omega) (by omega)).mono ?_
    rintro e W2 ⟨rfl, hb⟩
    have hX2 := hide (hX1.out.below hb (by omega))
    have hB2 := hide (hB1.out.trans (hb.mono (by omega)))
    have hz2 := hb.size
    clear hb hX1
    by_cases hok : okP xs cc = true
    · have hi := okP_iff.1 hok
      have hr := hide (show rowsS xs cc = rowsL xs cc from if_pos hok)
      have hrb := rows_bd (c := cc) (by omega) hi.2.2
      have hroom := rows_room (c := cc) (by omega) hi.2.2
      have hsm := hide (show Small 1000000000 xs from fun x hx => by have := hi.2.2 x hx; omega)
      have hn12 : n ≤ 12 := by have := hi.2.1; have := hxl.out; omega
      have hrn : rowsL xs cc ≤ n := by have := hxl.out; omega
      have hone := hide (show rowsS (List.replicate n 1) 1 = n by
        rw [rowsS, if_pos (okP_iff.2 ⟨by omega, by rw [List.length_replicate]; exact hn12, ones_wid n⟩), rows_ones])
      have hcc : 1 ≤ cc ∧ cc ≤ 8 := hi.1
      rw [hr.out] at hbd ⊢
      clear hok hi
      generalize hrr : rowsL xs cc = r at hbd hrb hrn hroom ⊢
      clear hrr hr
      have hmul : 0 ≤ r * cc ∧ r * cc ≤ 96 := by
        refine ⟨Int.mul_nonneg hrb.1 (by omega), ?_⟩
        have h1 := Int.mul_le_mul_of_nonneg_left hcc.2 hrb.1
        omega
      have HS := hide (show GrowRel W2 0 (List.replicate 0 1) (.slice (some ⟨W2.heap.size, 0, none⟩) 0 0) (W2.alloc (.cells #[] 3)) from
        ⟨Own.made 3 1 W2 _ 0 W2.heap.size (Nat.le_refl _) (by omega) rfl, (Below.refl _ _).alloc (Nat.le_refl _) _⟩)
      go_wp2
      go_loopw [6, 7] (fun s6 s7 wr => ∃ (k : Nat) (W9 : World), k ≤ n ∧ s7 = .int .i64 k ∧ W9 = wr ∧ Hid (GrowRel W2 k (List.replicate k 1) s6 W9)) (fun _ s7 _ => n - (intOf s7).toNat)
      case atStart => exact ⟨0, _, Nat.zero_le _, rfl, rfl, HS⟩
      case round =>
        clear HS
        obtain ⟨k, W9, hk, rfl, rfl, HG⟩ := hrel
        obtain ⟨A7, c7, hv7, hc1, hc2, hrow⟩ := HG.out.1.form
        subst hv7
        have HO := hide HG.out.1
        have HW := hide HG.out.2
        have hzw := HW.out.size
        clear hrow
        by_cases hlt : k < n
        · go_wp2_with (at_builtin; refine wpList_push rfl (.tmp 40) (.tmp 41) 22 3 1 8 i0 _ rfl Try.underlying22 hI hI0 hI1 hI2 rfl (by omega) (by omega) W9 W2.heap.size (.slice A7 k c7) k _ rfl HO.out [1] 1 1 rfl rfl (by omega) hzw ?_; intro v1 w1' ho1 hb1 hg1 hv1; have D := hide (show GrowRel W2 (k + 1) (List.replicate (k + 1) 1) v1 w1' from ⟨by rw [List.replicate_succ']; exact ho1, HW.out.trans hb1⟩); clear ho1 hb1 hg1 hv1)
          go_roundw
          case rel => exact ⟨k + 1, _, by omega, by go_num, rfl, D⟩
          case measure => simp [intOf]; omega
        · obtain rfl : k = n := by omega
          have hX9 := hide (hX2.out.below HW.out (by omega))
          have hO9 := hide (HG.out.made)
          obtain ⟨A7', n7', c7', e7, _, _, rO, _⟩ := hO9.out
          injection e7 with e7
          injection e7 with q1 q2 q3
          subst q1 q2 q3
          have hI9 := hide rO.ints
          have hB9 := hide (hB2.out.trans (HW.out.mono (by omega)))
          clear rO hO9 HG HO HW
          go_wp2_with fail
          refine (lawsSum_any W0.heap.size A k c xs _ hX9.out (by omega) hsm.out).mono ?_
          rintro e w' ⟨rfl, rfl⟩
          generalize sumI xs = sx at hroom ⊢
          go_wp2_with fail
          refine (implRows_any W9.heap.size A7 k c7 (List.replicate k 1) 1 _ hI9.out (Nat.le_refl _) (by omega)).mono ?_
          rintro e W10 ⟨rfl, hb⟩
          rw [hone.out]
          have hB10 := hide (hB9.out.trans (hb.mono (by omega)))
          clear hb
          go_wp2
          go_ret
          exact ⟨ret_bool (by simp), hB10.out⟩
    · have hr := hide (show rowsS xs cc = -1 from if_neg hok)
      rw [hr.out]
      clear hbd hok
      go_wp2_with fail
      refine (specRows_any W0.heap.size A n c xs cc _ hX2.out (by omega) (by omega)).mono ?_
      rintro e W3 ⟨rfl, hb⟩
      rw [hr.out]
      have hB3 := hide (hB2.out.trans (hb.mono (by omega)))
      clear hb hX2
      go_wp2
      go_ret
      exact ⟨ret_bool (by simp), hB3.out⟩
end Go.Proofs.Ytldmnpflcnmcpaa
