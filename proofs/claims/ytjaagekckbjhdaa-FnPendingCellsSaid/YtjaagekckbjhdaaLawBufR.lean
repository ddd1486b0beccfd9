/- The drawn law of PendingCells. Conditions: none. -/
import Derived.Test.YtjaagekckbjhdaaLawBufV
namespace Go.Proofs.Ytjaagekckbjhdaa
open Go.RowKit
set_option linter.unusedVariables false
theorem quiet_anyR {P : Program} {f : FuncId} {args : Array Value} {w : World} {n : Nat} {v : Value}
    (h : Calls P f args (w.drewN n) fun e w' => e = .returned v ∧ w.drewN n = w') : Calls P f args (w.drewN n) fun e w'' => e = .returned v ∧ ∃ m, w'' = w.drewN m :=
  h.mono fun _ _ ⟨he, hm⟩ => ⟨he, n, hm.symm⟩
theorem hasI_pendToR {xs ys : List Int} (k n : Nat) : hasI (pendTo xs ys n) k = (decide (k < n) && decide (xs.getD k 0 ≠ ys.getD k 0)) := by
  rw [Bool.eq_iff_iff, hasI_iff]
  simp only [Bool.and_eq_true, decide_eq_true_eq]
  induction n with
  | zero => simp [pendTo]
  | succ n ih =>
    simp only [pendTo]
    split
    · rename_i h
      rw [ih]
      constructor
      · rintro ⟨h1, h2⟩; exact ⟨by omega, h2⟩
      · rintro ⟨h1, h2⟩
        refine ⟨?_, h2⟩
        rcases Nat.lt_or_ge k n with h3 | h3
        · exact h3
        · obtain rfl : k = n := by omega
          exact absurd h h2
    · rename_i h
      rw [List.mem_append, ih, List.mem_singleton]
      constructor
      · rintro (⟨h1, h2⟩ | h1)
        · exact ⟨by omega, h2⟩
        · obtain rfl : k = n := by omega
          exact ⟨by omega, h⟩
      · rintro ⟨h1, h2⟩
        by_cases h3 : k = n
        · subst h3; exact .inr rfl
        · exact .inl ⟨by omega, h2⟩
theorem hasI_pendSR {xs ys : List Int} {v : Int} {k : Nat} (h : validB xs ys v = true) (hk : k < xs.length) : hasI (pendS xs ys v) k = decide (xs.getD k 0 ≠ ys.getD k 0) := by
  rw [pendS, if_pos h, hasI_pendToR]
  simp [hk]
theorem pendS_lenR (xs ys : List Int) (v : Int) : (pendS xs ys v).length ≤ 16 := by
  unfold pendS; split
  · rename_i h
    exact Nat.le_trans (pendTo_len _ _ _) (validB_iff.1 h).1.2
  · simp
theorem pendTo_selfR (xs : List Int) : ∀ k, pendTo xs xs k = []
  | 0 => rfl
  | k + 1 => by simp [pendTo, pendTo_selfR xs k]
/-- the first k cells as they are shown, the others as they are written -/
def mixL (xs ys : List Int) (k : Nat) : List Int := xs.take k ++ ys.drop k
theorem mixL_zero (xs ys : List Int) : mixL xs ys 0 = ys := by simp [mixL]
theorem mixL_all {xs ys : List Int} (h : ys.length = xs.length) : mixL xs ys xs.length = xs := by simp [mixL, List.drop_of_length_le (Nat.le_of_eq h)]
theorem mixL_len {xs ys : List Int} (h : ys.length = xs.length) {k : Nat} (hk : k ≤ xs.length) : (mixL xs ys k).length = xs.length := by
  rw [mixL, List.length_append, List.length_take, List.length_drop]; omega
theorem mixL_succ {xs ys : List Int} (h : ys.length = xs.length) {k : Nat} (hk : k < xs.length) : (mixL xs ys k).set k (xs.getD k 0) = mixL xs ys (k + 1) := by
  have h1 : (xs.take k).length = k := by rw [List.length_take]; omega
  have h2 : ys.drop k = ys[k]'(by omega) :: ys.drop (k + 1) := List.drop_eq_getElem_cons (by omega)
  rw [mixL, mixL, List.set_append_right _ _ (by omega), h1, Nat.sub_self, h2, List.set_cons_zero, List.take_succ_eq_append_getElem hk, List.getD_eq_getElem?_getD, List.getElem?_eq_getElem hk]
  simp only [Option.getD_some, List.append_assoc, List.cons_append, List.nil_append]
theorem mixL_valid {xs ys : List Int} {v : Int} (h : validB xs ys v = true) {k : Nat} (hk : k ≤ xs.length) : validB xs (mixL xs ys k) v = true := by
  have h1 := validB_iff.1 h
  rw [validB_iff]
  refine ⟨h1.1, mixL_len h1.2.1 hk, h1.2.2.1, ?_, h1.2.2.2.2⟩
  rw [inAll_iff]
  intro z hz
  rcases List.mem_append.1 hz with hz | hz
  · exact inAll_iff.1 h1.2.2.1 z (List.mem_of_mem_take hz)
  · exact inAll_iff.1 h1.2.2.2.1 z (List.mem_of_mem_drop hz)
theorem writeS_ofR {xs ys : List Int} {v x : Int} {j : Nat} (h : validB xs ys v = true) (hj : j < xs.length) (h0 : -10000 ≤ x) (h1 : x ≤ 10000) : writeS xs ys v j x = ⟨xs, ys.set j x, v, true⟩ := by
  unfold writeS
  rw [if_pos, Int.toNat_natCast]
  rw [Bool.and_eq_true, inR_iff, inR_iff]
  exact ⟨⟨h, by omega, by omega⟩, h0, h1⟩
/-- a list that lies anywhere but in one block -/
def IntsOff (w : World) (G : Nat) (a : Option Addr) (n : Nat) (xs : List Int) : Prop :=
  xs.length = n ∧ (0 < n → ∃ b off, a = some ⟨b, off, none⟩ ∧ b ≠ G ∧ b < w.heap.size ∧ ∀ i, i < n → w.cell? ⟨b, off + i, none⟩ = some (.int .i64 (xs.getD i 0)))
theorem IntsOff.ints {w : World} {G n : Nat} {a : Option Addr} {xs : List Int} (h : IntsOff w G a n xs) : Ints .i64 w w.heap.size a n xs :=
  ⟨h.1, (fun h => by cases h), fun hn => by obtain ⟨b, off, e, _, hb, hc⟩ := h.2 hn; exact ⟨b, off, e, hb, hc⟩⟩
theorem IntsOff.below {w w' : World} {G n : Nat} {a : Option Addr} {xs : List Int} (h : IntsOff w G a n xs) (hb : Below w.heap.size w w') : IntsOff w' G a n xs :=
  ⟨h.1, fun hn => by
    obtain ⟨b, off, e, hg, hl, hc⟩ := h.2 hn
    exact ⟨b, off, e, hg, Nat.lt_of_lt_of_le hl hb.size, fun i hi => (hb.cell (p := ⟨b, off + i, none⟩) hl).trans (hc i hi)⟩⟩
theorem IntsOff.set {w : World} {G n o : Nat} {a : Option Addr} {xs : List Int} (h : IntsOff w G a n xs) (v : Value) : IntsOff (w.setCell ⟨G, o, none⟩ v) G a n xs :=
  ⟨h.1, fun hn => by
    obtain ⟨b, off, e, hg, hl, hc⟩ := h.2 hn
    refine ⟨b, off, e, hg, by simpa [World.setCell] using hl, fun i hi => ?_⟩
    rw [World.cell?_setCell_other _ _ _ _ (by intro e; injection e with e; exact hg e.symm)]
    exact hc i hi⟩
theorem Ints.off {w : World} {G K n : Nat} {a : Option Addr} {xs : List Int} (h : Ints .i64 w K a n xs) (hK : K ≤ G) (hw : K ≤ w.heap.size) : IntsOff w G a n xs :=
  ⟨h.1, fun hn => by obtain ⟨b, off, e, hb, hc⟩ := h.2.2 hn; exact ⟨b, off, e, by omega, by omega, hc⟩⟩
theorem Row.off {w : World} {G lo hi n : Nat} {E : TypeId} {a : Option Addr} {xs : List Int} (h : Row E w lo hi a n xs) (hG : G < lo) (hw : hi ≤ w.heap.size) : IntsOff w G a n xs :=
  ⟨h.1, fun hn => by
    obtain ⟨g, off, cur, e, h1, h2, h3, h4, h5⟩ := h.2 hn
    exact ⟨g, off, e, by omega, by omega, fun i hi => by rw [cell_of_row w g _ cur E (0, 0) h3]; exact h5 i hi⟩⟩
/-- the loop's buffers -/
def PC (W4 : World) (G n : Nat) (v : Int) (xs ys : List Int) (k : Nat) (W9 : World) : Prop :=
  ∃ A9 c9 B9 d9, n ≤ c9 ∧ n ≤ d9 ∧ W9.heap[G]? = some (.cells #[.slice A9 n c9, .slice B9 n d9, .int .i64 v] 27 (0, 0)) ∧ IntsOff W9 G A9 n xs ∧ IntsOff W9 G B9 n (mixL xs ys k) ∧ Below G W4 W9
theorem pc_end {W4 W12 : World} {G n n1 c1 m1 d1 k : Nat} {v : Int} {xs ys : List Int} {A1 B1 : Option Addr} {z0 z1 z2 : Value} (hG : W12.heap[G]? = some (.cells #[z0, z1, z2] 27 (0, 0))) (hX : IntsOff W12 G A1 n1 xs) (hY : IntsOff W12 G B1 m1 (mixL xs ys (k + 1)))
    (hn : n1 = n) (hm : m1 = n) (hb : Below G W4 W12) (h1 : n1 ≤ c1) (h2 : m1 ≤ d1) : PC W4 G n v xs ys (k + 1) (((W12.setCell ⟨G, 0, none⟩ (.slice A1 n1 c1)).setCell ⟨G, 1, none⟩ (.slice B1 m1 d1)).setCell ⟨G, 2, none⟩ (.int .i64 v)) := by
  subst hn hm
  exact ⟨A1, c1, B1, d1, h1, h2, block_set3 hG, ((hX.set _).set _).set _, ((hY.set _).set _).set _, ((hb.setCell (Nat.le_refl _) _).setCell (Nat.le_refl _) _).setCell (Nat.le_refl _) _⟩
theorem below_store {W4 w : World} {G : Nat} (h : Below G W4 w) (u0 u1 u2 : Value) : Below G W4 (((w.setCell ⟨G, 0, none⟩ u0).setCell ⟨G, 1, none⟩ u1).setCell ⟨G, 2, none⟩ u2) :=
  ((h.setCell (Nat.le_refl _) _).setCell (Nat.le_refl _) _).setCell (Nat.le_refl _) _

set_option maxHeartbeats 4000000 in
theorem walk_FnPendingCells (a0 : Option Addr) (len cap : Nat) (zs : List Int) (w : World) (h0 : Ints .u8 w w.heap.size a0 len zs) (hc : len ≤ cap) :
    Calls Try.prog 8 #[.slice a0 len cap] w fun e w' => e = .returned (.bool true) ∧ Below w.heap.size w w' := by
  by_cases hl : len ≤ 1048576
  case neg =>
    go_enter Try.func8, Try.ntmps8
    go_wp2
    go_ret
    exact ⟨rfl, Below.refl _ _⟩
  case pos =>
    go_enter Try.func8, Try.ntmps8
    go_wp2_with fail
    refine (drawPendingCells_any a0 len cap zs _ h0 hc).mono ?_
    rintro e W0 ⟨A, n, c, B, m, d, xs, ys, v, rfl, hN⟩
    clear h0
    have hF_0 := hide hN.buf
    have hB_0 := hide hN.2.2.2.2.2.2.2.2.2.2
    have hz0 := hB_0.out.size
    clear hN
    have hxl := hide hF_0.out.1.1
    have hyl := hide hF_0.out.2.1.1
    have hpl := pendS_lenR xs ys v
    go_wp2_with fail
    refine (implPend_any W0.heap.size A n c B m d xs ys v _ (hF_0.out.below (alB _ _) (Nat.le_refl _)) (by simp)).mono ?_
    rintro e W1 ⟨P, Pn, Pc, rfl, hP1, hP2, hp, hb⟩
    have hPl := hide hp.1
    have hP_1 := hide hp.ints
    have hPn : Pn ≤ 16 := by have := hPl.out; omega
    have hbb := (alB W0 (.cells #[.slice A n c, .slice B m d, .int .i64 v] 27)).trans (hb.mono (by simp))
    have hF_1 := hide (hF_0.out.below hbb (Nat.le_refl _))
    have hB_1 := hide (hB_0.out.trans (hbb.mono hz0))
    obtain ⟨b0_1, b1_1, b2_1, _, _, _⟩ := AnyOp.cellsOf ((hb.block W0.heap.size (by simp)).trans (heap_alloc_new W0 _))
    have hz1 : W0.heap.size < W1.heap.size := by have := hb.size; simp at this; omega
    clear hb hbb hp hF_0 hB_0
    go_wp2_with fail
    refine (specPend_any W0.heap.size A n c B m d xs ys v _ hF_1.out (by omega)).mono ?_
    rintro e W2 ⟨Q, Qn, Qc, rfl, hQ1, hQ2, hq, hb⟩
    have hQl := hide hq.1
    have hQ_2 := hide hq.ints
    have hQn : Qn ≤ 16 := by have := hQl.out; omega
    clear hq
    have hF_2 := hide (hF_1.out.below hb (by omega))
    have hP_2 := hide (hP_1.out.below hb (by omega))
    have hB_2 := hide (hB_1.out.trans (hb.mono (by omega)))
    have b0_2 := (hb.cell (p := ⟨W0.heap.size, 0, none⟩) (by show W0.heap.size < W1.heap.size; omega)).trans b0_1
    have b1_2 := (hb.cell (p := ⟨W0.heap.size, 1, none⟩) (by show W0.heap.size < W1.heap.size; omega)).trans b1_1
    have b2_2 := (hb.cell (p := ⟨W0.heap.size, 2, none⟩) (by show W0.heap.size < W1.heap.size; omega)).trans b2_1
    have hz2 := hb.size
    clear hb hF_1 hP_1 hB_1 b0_1 b1_1 b2_1
    go_wp2_with fail
    refine (equalInts_any W1.heap.size W2.heap.size P Q Pn Qn Pc Qc _ _ _ hP_2.out hQ_2.out (by omega) (by omega)).mono ?_
    rintro e W3 ⟨rfl, hb⟩
    rw [listEq_self (pendS xs ys v)]
    have hF_3 := hide (hF_2.out.below hb (by omega))
    have hP_3 := hide (hP_2.out.below hb (by omega))
    have hB_3 := hide (hB_2.out.trans (hb.mono (by omega)))
    have b0_3 := (hb.cell (p := ⟨W0.heap.size, 0, none⟩) (by show W0.heap.size < W2.heap.size; omega)).trans b0_2
    have b1_3 := (hb.cell (p := ⟨W0.heap.size, 1, none⟩) (by show W0.heap.size < W2.heap.size; omega)).trans b1_2
    have b2_3 := (hb.cell (p := ⟨W0.heap.size, 2, none⟩) (by show W0.heap.size < W2.heap.size; omega)).trans b2_2
    have hz3 := hb.size
    clear hb hF_2 hP_2 hB_2 b0_2 b1_2 b2_2
    go_wp2_with fail
    refine (implValid_any W0.heap.size A n c B m d xs ys v _ hF_3.out (by omega)).mono ?_
    rintro e W4 ⟨rfl, hb⟩
    have hF_4 := hide (hF_3.out.below hb (by omega))
    have hP_4 := hide (hP_3.out.below hb (by omega))
    have hB_4 := hide (hB_3.out.trans (hb.mono (by omega)))
    have b0_4 := (hb.cell (p := ⟨W0.heap.size, 0, none⟩) (by show W0.heap.size < W3.heap.size; omega)).trans b0_3
    have b1_4 := (hb.cell (p := ⟨W0.heap.size, 1, none⟩) (by show W0.heap.size < W3.heap.size; omega)).trans b1_3
    have b2_4 := (hb.cell (p := ⟨W0.heap.size, 2, none⟩) (by show W0.heap.size < W3.heap.size; omega)).trans b2_3
    have hz4 := hb.size
    clear hb hF_3 hP_3 hB_3 b0_3 b1_3 b2_3
    cases hv : validB xs ys v
    case false =>
      go_wp2_with fail
      refine (specPend_any W0.heap.size A n c B m d xs ys v _ hF_4.out (by omega)).mono ?_
      rintro e W5 ⟨Q, Qn, Qc, rfl, hQ1, hQ2, hq, hb⟩
      have hQl := hide hq.1
      have hQ_5 := hide hq.ints
      have hQn : Qn ≤ 16 := by have := hQl.out; omega
      clear hq
      have hF_5 := hide (hF_4.out.below hb (by omega))
      have hP_5 := hide (hP_4.out.below hb (by omega))
      have hB_5 := hide (hB_4.out.trans (hb.mono (by omega)))
      have b0_5 := (hb.cell (p := ⟨W0.heap.size, 0, none⟩) (by show W0.heap.size < W4.heap.size; omega)).trans b0_4
      have b1_5 := (hb.cell (p := ⟨W0.heap.size, 1, none⟩) (by show W0.heap.size < W4.heap.size; omega)).trans b1_4
      have b2_5 := (hb.cell (p := ⟨W0.heap.size, 2, none⟩) (by show W0.heap.size < W4.heap.size; omega)).trans b2_4
      have hz5 := hb.size
      clear hb hF_4 hP_4 hB_4 b0_4 b1_4 b2_4
      go_wp2_with fail
      refine (equalInts_any W1.heap.size W5.heap.size P Q Pn Qn Pc Qc _ _ _ hP_5.out hQ_5.out (by omega) (by omega)).mono ?_
      rintro e W6 ⟨rfl, hb⟩
      rw [listEq_self (pendS xs ys v)]
      have hF_6 := hide (hF_5.out.below hb (by omega))
      have hP_6 := hide (hP_5.out.below hb (by omega))
      have hB_6 := hide (hB_5.out.trans (hb.mono (by omega)))
      have b0_6 := (hb.cell (p := ⟨W0.heap.size, 0, none⟩) (by show W0.heap.size < W5.heap.size; omega)).trans b0_5
      have b1_6 := (hb.cell (p := ⟨W0.heap.size, 1, none⟩) (by show W0.heap.size < W5.heap.size; omega)).trans b1_5
      have b2_6 := (hb.cell (p := ⟨W0.heap.size, 2, none⟩) (by show W0.heap.size < W5.heap.size; omega)).trans b2_5
      have hz6 := hb.size
      clear hb hF_5 hP_5 hB_5 b0_5 b1_5 b2_5
      go_wp2
      go_ret
      exact ⟨rfl, hB_6.out⟩
    case true =>
      have hv8 := (validB_iff.1 hv).1
      have hv9 := (validB_iff.1 hv).2.2.2.2
      have hyx := hide (validB_iff.1 hv).2.1
      have hax := hide (fun (k : Nat) (hk : k < xs.length) => inAll_iff.1 (validB_iff.1 hv).2.2.1 _ (getD_mem hk))
      have hn16 : 1 ≤ n ∧ n ≤ 16 := by have := hxl.out; omega
      obtain rfl : n = m := by have := hxl.out; have := hyl.out; have := hyx.out; omega
      have HV := hide hv
      clear hv hv8
      have HP0 := hide (show PC W4 W4.heap.size n v xs ys 0 (W4.alloc (.cells #[.slice A n c, .slice B n d, .int .i64 v] 27)) from
        ⟨A, c, B, d, hF_4.out.2.2.2.2.1, hF_4.out.2.2.2.2.2, heap_alloc_new W4 _, (hF_4.out.1.below (alB W4 _) (by omega)).off (by omega) (by simp; omega), by rw [mixL_zero]; exact (hF_4.out.2.1.below (alB W4 _) (by omega)).off (by omega) (by simp; omega), alB W4 _⟩)
      go_wp2_with fail
      go_loopw [6] (fun s6 wr => ∃ (k : Nat) (W9 : World), k ≤ n ∧ s6 = .int .i64 k ∧ W9 = wr ∧ Hid (PC W4 W4.heap.size n v xs ys k W9)) (fun s6 _ => n - (intOf s6).toNat)
      case atStart => exact ⟨0, _, Nat.zero_le _, rfl, rfl, HP0⟩
      case round =>
        clear HP0
        obtain ⟨k, W9, hk, rfl, rfl, HC⟩ := hrel
        obtain ⟨A9, c9, B9, d9, hnc9, hnd9, hG9, hX9, hY9, hb⟩ := HC.out
        have hzG : W4.heap.size < W9.heap.size := by
          rcases Nat.lt_or_ge W4.heap.size W9.heap.size with h | h
          · exact h
          · rw [Array.getElem?_eq_none h] at hG9; cases hG9
        obtain ⟨g0_9, g1_9, g2_9, t0_9, t1_9, t2_9⟩ := AnyOp.cellsOf hG9
        have HG9 := hide hG9
        have HX9 := hide hX9
        have HY9 := hide hY9
        clear hG9 hX9 hY9 HC
        have HL9 := hide hb
        have hF_9 := hide (hF_4.out.below hb (by omega))
        have hP_9 := hide (hP_4.out.below hb (by omega))
        have hB_9 := hide (hB_4.out.trans (hb.mono (by omega)))
        have b0_9 := (hb.cell (p := ⟨W0.heap.size, 0, none⟩) (by show W0.heap.size < W4.heap.size; omega)).trans b0_4
        have b1_9 := (hb.cell (p := ⟨W0.heap.size, 1, none⟩) (by show W0.heap.size < W4.heap.size; omega)).trans b1_4
        have b2_9 := (hb.cell (p := ⟨W0.heap.size, 2, none⟩) (by show W0.heap.size < W4.heap.size; omega)).trans b2_4
        clear hb
        by_cases hlt : k < n
        · have hk5 := hasI_pendSR (xs := xs) (ys := ys) (k := k) HV.out (by have := hxl.out; omega)
          obtain ⟨b1, o1, rfl, hb1l, hcell⟩ := hF_9.out.1.2.2 (by omega)
          obtain ⟨b2, o2, rfl, _, hcell'⟩ := hF_9.out.2.1.2.2 (by omega)
          have h1 := hcell k hlt
          have h2 := hcell' k hlt
          have hxb := hax.out k (by have := hxl.out; omega)
          have HWR := hide (show writeS xs (mixL xs ys k) v k (xs.getD k 0) = ⟨xs, mixL xs ys (k + 1), v, true⟩ by
            rw [writeS_ofR (mixL_valid HV.out (by have := hxl.out; omega)) (by have := hxl.out; omega) hxb.1 hxb.2, mixL_succ hyx.out (by have := hxl.out; omega)])
          have hkn : (k : Int) < (n : Int) := by omega
          clear hcell hcell'
          generalize xs.getD k 0 = z at h1 hk5 hxb HWR
          generalize ys.getD k 0 = y at h2 hk5
          obtain ⟨bq, hq1, hq2⟩ : ∃ bq, hasI (pendS xs ys v) k = bq ∧ (z != y) = bq := ⟨_, rfl, by rw [hk5]; by_cases h : z = y <;> simp [h]⟩
          have hq3 : (bq != bq) = false := by simp
          have HPr : ∀ nq, Ints .i64 (W9.drewN nq) W1.heap.size P Pn (pendS xs ys v) := fun nq => hP_9.out
          clear hk5
          go_wp2
          go_quiet ((go_at_call 27; exact quiet_anyR (lawsIsIn_any W1.heap.size P Pn Pc (pendS xs ys v) k _ (HPr _) (by omega))))
          clear hq1 hq2 HPr
          have h1' : (W9.drewN nq).cell? ⟨b1, o1 + k, none⟩ = some (.int .i64 z) := h1
          have b0_10 : (W9.drewN nq).cell? ⟨W0.heap.size, 0, none⟩ = some (.slice (some ⟨b1, o1, none⟩) n c) := b0_9
          have HG10 : Hid ((W9.drewN nq).heap[W4.heap.size]? = some (.cells #[.slice A9 n c9, .slice B9 n d9, .int .i64 v] 27 (0, 0))) := HG9
          have HX10 : Hid (IntsOff (W9.drewN nq) W4.heap.size A9 n xs) := HX9
          have HY10 : Hid (IntsOff (W9.drewN nq) W4.heap.size B9 n (mixL xs ys k)) := HY9
          have HL10 : Hid (Below W4.heap.size W4 (W9.drewN nq)) := hide (below_drewN HL9.out nq)
          have hz10 : W9.heap.size ≤ (W9.drewN nq).heap.size := Nat.le_refl _
          obtain ⟨g0_10, g1_10, g2_10, t0_10, t1_10, t2_10⟩ := AnyOp.cellsOf HG10.out
          clear h1 h2 b0_9 b1_9 b2_9 g0_9 g1_9 g2_9 t0_9 t1_9 t2_9 HG9 HX9 HY9 HL9 hF_9 hP_9 hB_9
          generalize W9.drewN nq = W10 at h1' b0_10 HG10 HX10 HY10 HL10 hz10 g0_10 g1_10 g2_10 t0_10 t1_10 t2_10 ⊢
          have HBF1 := hide (show Buf W10.drew W10.heap.size A9 n c9 B9 n d9 xs (mixL xs ys k) from ⟨HX10.out.ints, HY10.out.ints, by omega, by omega, hnc9, hnd9⟩)
          have HBF2 := hide (show Buf (W10.alloc (.cells #[.slice none 0 0, .slice none 0 0, .int .i64 0] 27)).drew W10.heap.size A9 n c9 B9 n d9 xs (mixL xs ys k) from ⟨HX10.out.ints.below (alB W10 _).drew (Nat.le_refl _), HY10.out.ints.below (alB W10 _).drew (Nat.le_refl _), by omega, by omega, hnc9, hnd9⟩)
          have HD1 := hide ((Below.refl W10.heap.size W10).drew)
          have HD2 := hide ((alB W10 (.cells #[.slice none 0 0, .slice none 0 0, .int .i64 0] 27)).drew)
          go_wp2_with fail
          go_region_held3 (fun w' => w'.cell? ⟨W4.heap.size, 0, none⟩ = some (.slice A9 n c9) ∧ w'.cell? ⟨W4.heap.size, 1, none⟩ = some (.slice B9 n d9) ∧ w'.cell? ⟨W4.heap.size, 2, none⟩ = some (.int .i64 v) ∧ w'.cell? ⟨W0.heap.size, 0, none⟩ = some (.slice (some ⟨b1, o1, none⟩) n c) ∧ w'.cell? ⟨b1, o1 + k, none⟩ = some (.int .i64 z)) (first | go_keep | exact ⟨ua0, ua1, ua2, ub0, uh1⟩ | exact ⟨cell3_other ua0 (by omega), cell3_other ua1 (by omega), cell3_other ua2 (by omega), cell3_other ub0 (by omega), cell3_other uh1 (by omega)⟩)
            (first
              | (go_at_call 28; ((with_reducible refine (implWrite_any W10.heap.size A9 n c9 B9 n d9 xs (mixL xs ys k) v k z W10.drew HBF1.out (Nat.le_refl _)).mono ?_)); rintro e W11 ⟨A1, n1, c1, B1, m1, d1, rfl, ht⟩; rw [HWR.out] at ht ⊢; have hbx := HD1.out.trans (ht.2.2.2.2.1.mono (by simp)); have HT := hide ht; have hzx := hbx.size; have ua0 := (hbx.cell (p := ⟨W4.heap.size, 0, none⟩) (by show W4.heap.size < W10.heap.size; omega)).trans g0_10; have ua1 := (hbx.cell (p := ⟨W4.heap.size, 1, none⟩) (by show W4.heap.size < W10.heap.size; omega)).trans g1_10; have ua2 := (hbx.cell (p := ⟨W4.heap.size, 2, none⟩) (by show W4.heap.size < W10.heap.size; omega)).trans g2_10; have ub0 := (hbx.cell (p := ⟨W0.heap.size, 0, none⟩) (by show W0.heap.size < W10.heap.size; omega)).trans b0_10; have uh1 := (hbx.cell (p := ⟨b1, o1 + k, none⟩) (by show b1 < W10.heap.size; omega)).trans h1'; have HBX := hide hbx; clear hbx ht)
              | (go_at_call 28; ((with_reducible refine (implWrite_any W10.heap.size A9 n c9 B9 n d9 xs (mixL xs ys k) v k z _ HBF2.out (by simp)).mono ?_)); rintro e W11 ⟨A1, n1, c1, B1, m1, d1, rfl, ht⟩; rw [HWR.out] at ht ⊢; have hbx := HD2.out.trans (ht.2.2.2.2.1.mono (by simp)); have hbn := ht.2.2.2.2.1; have HT := hide ht; have hzx := hbx.size; have hzn : W10.heap.size < W11.heap.size := (by have := hbn.size; simp at this; omega); have ua0 := (hbx.cell (p := ⟨W4.heap.size, 0, none⟩) (by show W4.heap.size < W10.heap.size; omega)).trans g0_10; have ua1 := (hbx.cell (p := ⟨W4.heap.size, 1, none⟩) (by show W4.heap.size < W10.heap.size; omega)).trans g1_10; have ua2 := (hbx.cell (p := ⟨W4.heap.size, 2, none⟩) (by show W4.heap.size < W10.heap.size; omega)).trans g2_10; have ub0 := (hbx.cell (p := ⟨W0.heap.size, 0, none⟩) (by show W0.heap.size < W10.heap.size; omega)).trans b0_10; have uh1 := (hbx.cell (p := ⟨b1, o1 + k, none⟩) (by show b1 < W10.heap.size; omega)).trans h1'; have HB7 := hide ((hbn.block W10.heap.size (by show W10.heap.size < (W10.alloc _).heap.size; simp)).trans (heap_alloc_new W10 _)); obtain ⟨un0, un1, un2, ut0, ut1, ut2⟩ := AnyOp.cellsOf HB7.out; have HBX := hide hbx; clear hbx hbn ht))
          · obtain ⟨t1, t2, t3, t4, hbt, mid, tm1, tm2, rA, rB⟩ := HT.out
            have hn1 : n1 = n := rA.1.symm.trans hxl.out
            have hm1 : m1 = n := rB.1.symm.trans ((mixL_len (k := k + 1) hyx.out (by have := hxl.out; omega)).trans hxl.out)
            have HN1 := hide hn1
            have HM1 := hide hm1
            clear hn1 hm1
            have hG12 : (W11.alloc (.cells #[.slice A1 n1 c1, .slice B1 m1 d1, .int .i64 v] 27)).heap[W4.heap.size]? = some (.cells #[.slice A9 n c9, .slice B9 n d9, .int .i64 v] 27 (0, 0)) := (Below.heap_alloc _ _ _ (by omega)).trans ((HBX.out.block W4.heap.size (by omega)).trans HG10.out)
            have hX12 := hide (((rA.mono (Nat.le_refl _) tm2).off (show W4.heap.size < W10.drew.heap.size from by show W4.heap.size < W10.heap.size; omega) (Nat.le_refl _)).below (alB W11 (.cells #[.slice A1 n1 c1, .slice B1 m1 d1, .int .i64 v] 27)))
            have hY12 := hide (((rB.mono tm1 (Nat.le_refl _)).off (show W4.heap.size < W10.drew.heap.size from by show W4.heap.size < W10.heap.size; omega) (Nat.le_refl _)).below (alB W11 (.cells #[.slice A1 n1 c1, .slice B1 m1 d1, .int .i64 v] 27)))
            have hbW12 := hide ((HL10.out.trans (HBX.out.mono (by omega))).trans ((alB W11 (.cells #[.slice A1 n1 c1, .slice B1 m1 d1, .int .i64 v] 27)).mono (by omega)))
            obtain ⟨y0, y1, y2, _, _, _⟩ := AnyOp.cellsOf (heap_alloc_new W11 (.cells #[.slice A1 n1 c1, .slice B1 m1 d1, .int .i64 v] 27))
            obtain ⟨x0, x1, x2, f0, f1, f2⟩ := AnyOp.cellsOf hG12
            have HG12 := hide hG12
            clear hG12 rA rB HT HBX ua0 ua1 ua2 ub0 uh1 hbt
            generalize W11.alloc (.cells #[.slice A1 n1 c1, .slice B1 m1 d1, .int .i64 v] 27) = W12 at *
            go_wp2
            go_roundw
            case rel => exact ⟨k + 1, _, by omega, by go_num, rfl, hide (pc_end HG12.out hX12.out hY12.out HN1.out HM1.out hbW12.out t1 t3)⟩
            case measure => simp [intOf]; omega
          · obtain ⟨t1, t2, t3, t4, hbt, mid, tm1, tm2, rA, rB⟩ := HT.out
            have hn1 : n1 = n := rA.1.symm.trans hxl.out
            have hm1 : m1 = n := rB.1.symm.trans ((mixL_len (k := k + 1) hyx.out (by have := hxl.out; omega)).trans hxl.out)
            have HN1 := hide hn1
            have HM1 := hide hm1
            clear hn1 hm1
            have hlo : (W10.alloc (.cells #[.slice none 0 0, .slice none 0 0, .int .i64 0] 27)).drew.heap.size = W10.heap.size + 1 := by show (W10.alloc _).heap.size = _; simp
            have hon := only_set3 W11 W10.heap.size (.slice A1 n1 c1) (.slice B1 m1 d1) (.int .i64 v)
            have hsz : (((W11.setCell ⟨W10.heap.size, 0, none⟩ (.slice A1 n1 c1)).setCell ⟨W10.heap.size, 1, none⟩ (.slice B1 m1 d1)).setCell ⟨W10.heap.size, 2, none⟩ (.int .i64 v)).heap.size = W11.heap.size := by simp [World.setCell]
            rw [hlo] at rA tm1
            have hG12 : (((W11.setCell ⟨W10.heap.size, 0, none⟩ (.slice A1 n1 c1)).setCell ⟨W10.heap.size, 1, none⟩ (.slice B1 m1 d1)).setCell ⟨W10.heap.size, 2, none⟩ (.int .i64 v)).heap[W4.heap.size]? = some (.cells #[.slice A9 n c9, .slice B9 n d9, .int .i64 v] 27 (0, 0)) := (hon.block _ (by omega) (.inl (by omega))).trans ((HBX.out.block W4.heap.size (by omega)).trans HG10.out)
            have hX12 := hide (((rA.mono (Nat.le_refl _) tm2).far hon (.inr (Nat.le_refl _))).off (show W4.heap.size < W10.heap.size + 1 by omega) (Nat.le_of_eq hsz.symm))
            have hY12 := hide (((rB.mono tm1 (Nat.le_refl _)).far hon (.inr (Nat.le_refl _))).off (show W4.heap.size < W10.heap.size + 1 by omega) (Nat.le_of_eq hsz.symm))
            have hbW12 := hide ((HL10.out.trans (HBX.out.mono (by omega))).trans (hon.below (by omega) (by omega)))
            have hN12 := block_set3 (u0 := .slice A1 n1 c1) (u1 := .slice B1 m1 d1) (u2 := .int .i64 v) (HB7.out)
            obtain ⟨y0, y1, y2, _, _, _⟩ := AnyOp.cellsOf hN12
            obtain ⟨x0, x1, x2, f0, f1, f2⟩ := AnyOp.cellsOf hG12
            have HG12 := hide hG12
            clear hG12 rA rB HT HBX ua0 ua1 ua2 ub0 uh1 hbt hon hsz hlo hN12 un0 un1 un2 ut0 ut1 ut2 HB7
            generalize (((W11.setCell ⟨W10.heap.size, 0, none⟩ (.slice A1 n1 c1)).setCell ⟨W10.heap.size, 1, none⟩ (.slice B1 m1 d1)).setCell ⟨W10.heap.size, 2, none⟩ (.int .i64 v)) = W12 at *
            go_wp2
            go_roundw
            case rel => exact ⟨k + 1, _, by omega, by go_num, rfl, hide (pc_end HG12.out hX12.out hY12.out HN1.out HM1.out hbW12.out t1 t3)⟩
            case measure => simp [intOf]; omega
        · obtain rfl : k = n := by omega
          have HBF := hide (show Buf W9 W9.heap.size A9 k c9 B9 k d9 xs (mixL xs ys k) from ⟨HX9.out.ints, HY9.out.ints, by omega, by omega, hnc9, hnd9⟩)
          have hmx := hide (show mixL xs ys k = xs by have h := mixL_all (hyx.out); rwa [hxl.out] at h)
          go_wp2_with fail
          refine (implPend_any W9.heap.size A9 k c9 B9 k d9 xs (mixL xs ys k) v _ HBF.out (Nat.le_refl _)).mono ?_
          rintro e W10 ⟨Z, Zn, Zc, rfl, hZ1, hZ2, hzr, hb⟩
          have hz0 : Zn = 0 := by
            have h1 := hzr.1
            rw [hmx.out] at h1
            have h2 : pendS xs xs v = [] := by
              unfold pendS; split
              · exact pendTo_selfR xs _
              · rfl
            rw [h2] at h1
            exact h1.symm
          subst hz0
          have hB_10 := hide (hB_9.out.trans (hb.mono (by omega)))
          clear hzr hb
          go_wp2
          go_ret
          exact ⟨rfl, hB_10.out⟩
end Go.Proofs.Ytjaagekckbjhdaa
