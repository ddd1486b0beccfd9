/- Jobs and frames, the program's and the reference's: what they compute, at all arguments. Conditions: none. -/
import Derived.Test.YtldmnpflcnmcpaaFrameM
import Derived.Deep.DeepCutAuto
import Derived.Deep.CutBlock
namespace Go.Proofs.Ytldmnpflcnmcpaa
open Go.RowKit
set_option linter.unusedVariables false

def costsB (xs : List Int) : Bool := decide (xs.length ≤ 12) && inAll xs 0 1000
def workB (cs bs : List Int) : Bool := costsB cs && costsB bs
def finS (cs bs : List Int) : List Int := if workB cs bs = true then finL cs bs else []
def lackS (cs bs : List Int) : List Int := if workB cs bs = true then lackL cs (sumI bs) else []
theorem costsB_iff {xs : List Int} : costsB xs = true ↔ xs.length ≤ 12 ∧ Costs xs := by
  simp only [costsB, Bool.and_eq_true, decide_eq_true_eq, inAll_iff]
  exact Iff.rfl
theorem workB_iff {cs bs : List Int} : workB cs bs = true ↔ (cs.length ≤ 12 ∧ Costs cs) ∧ bs.length ≤ 12 ∧ Costs bs := by
  simp only [workB, Bool.and_eq_true, costsB_iff]
theorem made_nilF {w w' : World} {xs : List Int} (h : xs = []) (hb : Below w.heap.size w w') : Made xs w (.returned (.slice none 0 0)) w' := by
  subst h; exact ⟨none, 0, 0, rfl, Nat.le_refl _, by omega, Row.nil _ _ _ _ _, hb⟩
theorem mk_ints0F (n : Nat) (hn : n ≤ 1099511627776) (w : World) :
    (Instr.makeSlice 22 (.int .i64 0) (.int .i64 (n : Int))).run Try.prog w = .ok (.slice (some ⟨w.heap.size, 0, none⟩) 0 n) (w.alloc (.cells (madeCells #[.int .i64 0] n) 3)) := by
  obtain ⟨i0, hi, hz0, hz1, hz2⟩ := info_parts int_info
  have h := run_make w 22 3 i0 (.int .i64 0) Try.underlying22 hi hz0 .i64 .i64 0 n (by omega) (by omega) (by rw [hz2]; omega) (by omega)
  simpa [hz1, Value.cells] using h
/-- a list that grows; what was there has not turned -/
def GrowRel (w : World) (k : Nat) (xs : List Int) (s : Value) (wr : World) : Prop := Own 3 1 wr w.heap.size s k xs ∧ Below w.heap.size w wr
theorem GrowRel.made {w wr : World} {xs : List Int} {n c : Nat} {A : Option Addr} (h : GrowRel w n xs (.slice A n c) wr) : Made xs w (.returned (.slice A n c)) wr := by
  obtain ⟨A', c1, e, h1, h2, hr⟩ := h.1.form
  injection e with e1 e2 e3
  subst e1 e3
  rw [Nat.mul_one] at hr
  exact ⟨_, _, _, rfl, h1, h2, hr, h.2⟩

theorem implCosts_any (B : Nat) (a : Option Addr) (n c : Nat) (xs : List Int) (w : World) (hA : Ints .i64 w B a n xs) (hB : B ≤ w.heap.size) (hn : n ≤ 1048576) :
    Calls Try.prog 52 #[.slice a n c] w fun e w' => e = .returned (.bool (costsB xs)) ∧ Below w.heap.size w w' := by
  by_cases h12 : n ≤ 12
  case neg =>
    have hs := hide (show costsB xs = false by simp [costsB, hA.1, h12])
    clear hA
    go_enter Try.func52, Try.ntmps52
    go_wp2
    go_ret
    exact ⟨ret_bool hs.out.symm, Below.refl _ _⟩
  case pos =>
    have hs := hide (show costsB xs = inAll xs 0 1000 by simp [costsB, hA.1, h12])
    have HA := hide hA
    clear hA
    go_enter Try.func52, Try.ntmps52
    go_wp2_with (go_at_call 38; refine (implAllIn_any B _ _ _ xs _ _ _ HA.out hB (by omega)).mono ?_; rintro e w1 ⟨rfl, hb⟩; have HB := hide hb; clear hb)
    go_ret
    exact ⟨ret_bool hs.out.symm, HB.out⟩
theorem implWork_any (B : Nat) (a b : Option Addr) (n c m d : Nat) (xs ys : List Int) (w : World) (hA : Ints .i64 w B a n xs) (hY : Ints .i64 w B b m ys) (hB : B ≤ w.heap.size) (hn : n ≤ 1048576) (hm : m ≤ 1048576) :
    Calls Try.prog 45 #[.slice a n c, .slice b m d] w fun e w' => e = .returned (.bool (workB xs ys)) ∧ Below w.heap.size w w' := by
  have HA := hide hA
  have HY := hide hY
  clear hA hY
  cases hcx : costsB xs
  case false =>
    have hs := hide (show workB xs ys = false by simp [workB, hcx])
    go_enter Try.func45, Try.ntmps45
    go_wp2_with fail
    refine (implCosts_any B _ _ _ xs _ HA.out hB (by omega)).mono ?_
    rintro e w1 ⟨rfl, hb⟩
    have HB := hide hb
    clear hb
    rw [hcx]
    go_wp2
    go_ret
    exact ⟨ret_bool hs.out.symm, HB.out⟩
  case true =>
    by_cases h12 : m ≤ 12
    case neg =>
      have hs := hide (show workB xs ys = false by simp [workB, costsB, HY.out.1, h12])
      go_enter Try.func45, Try.ntmps45
      go_wp2_with fail
      refine (implCosts_any B _ _ _ xs _ HA.out hB (by omega)).mono ?_
      rintro e w1 ⟨rfl, hb⟩
      have HB := hide hb
      clear hb
      rw [hcx]
      go_wp2
      go_ret
      exact ⟨ret_bool hs.out.symm, HB.out⟩
    case pos =>
      have hs := hide (show workB xs ys = inAll ys 0 1000 by rw [workB, hcx]; simp [costsB, HY.out.1, h12])
      go_enter Try.func45, Try.ntmps45
      go_wp2_with fail
      refine (implCosts_any B _ _ _ xs _ HA.out hB (by omega)).mono ?_
      rintro e w1 ⟨rfl, hb⟩
      have hz := hb.size
      have HY1 := hide (HY.out.below hb hB)
      have HB := hide hb
      clear hb
      rw [hcx]
      go_wp2_with (go_at_call 38; refine (implAllIn_any B _ _ _ ys _ _ _ HY1.out (by omega) (by omega)).mono ?_; rintro e w2 ⟨rfl, hb2⟩; have HB2 := hide hb2; clear hb2)
      go_ret
      exact ⟨ret_bool hs.out.symm, HB.out.trans (HB2.out.mono (by omega))⟩
theorem specCosts_any (B : Nat) (a b : Option Addr) (n c m d : Nat) (xs ys : List Int) (w : World) (hA : Ints .i64 w B a n xs) (hY : Ints .i64 w B b m ys) (hn : n ≤ 1048576) (hm : m ≤ 1048576) :
    Calls Try.prog 47 #[.slice a n c, .slice b m d] w fun e w' => e = .returned (.bool (workB xs ys)) ∧ w = w' := by
  have HA := hide hA
  have HY := hide hY
  clear hA hY
  by_cases h1 : n ≤ 12
  case neg =>
    have hs := hide (show workB xs ys = false by simp [workB, costsB, HA.out.1, h1])
    go_enter Try.func47, Try.ntmps47
    go_wp2
    go_ret
    exact ⟨ret_bool hs.out.symm, rfl⟩
  case pos =>
    cases hcx : inAll xs 0 1000
    case false =>
      have hs := hide (show workB xs ys = false by simp [workB, costsB, hcx])
      go_enter Try.func47, Try.ntmps47
      go_wp2_with (go_at_call 36; refine (specAllIn_any B _ _ _ xs _ _ _ HA.out (by omega)).mono ?_; rintro e w1 ⟨rfl, rfl⟩)
      go_ret
      exact ⟨ret_bool hs.out.symm, rfl⟩
    case true =>
      by_cases h2 : m ≤ 12
      case neg =>
        have hs := hide (show workB xs ys = false by simp [workB, costsB, HY.out.1, h2])
        go_enter Try.func47, Try.ntmps47
        go_wp2_with (go_at_call 36; refine (specAllIn_any B _ _ _ xs _ _ _ HA.out (by omega)).mono ?_; rintro e w1 ⟨rfl, rfl⟩)
        go_ret
        exact ⟨ret_bool hs.out.symm, rfl⟩
      case pos =>
        have hs := hide (show workB xs ys = inAll ys 0 1000 by simp [workB, costsB, HA.out.1, HY.out.1, h1, h2, hcx])
        go_enter Try.func47, Try.ntmps47
        go_wp2_with (go_at_call 36; first | (with_reducible refine (specAllIn_any B a n c xs _ _ _ HA.out (by omega)).mono ?_); rintro e w1 ⟨rfl, rfl⟩ | (with_reducible refine (specAllIn_any B b m d ys _ _ _ HY.out (by omega)).mono ?_); rintro e w1 ⟨rfl, rfl⟩)
        go_ret
        exact ⟨ret_bool hs.out.symm, rfl⟩

set_option maxHeartbeats 2000000 in
theorem implLack_any (B : Nat) (a b : Option Addr) (n c m d : Nat) (xs ys : List Int) (w : World) (hA : Ints .i64 w B a n xs) (hY : Ints .i64 w B b m ys) (hB : B ≤ w.heap.size) (hn : n ≤ 1048576) (hm : m ≤ 1048576) :
    Calls Try.prog 33 #[.slice a n c, .slice b m d] w (Made (lackS xs ys) w) := by
  obtain ⟨i0, hi, hz0, hz1, hz2⟩ := info_parts int_info
  have HA := hide hA
  have HY := hide hY
  clear hA hY
  cases hok : workB xs ys
  case false =>
    have hs := hide (show lackS xs ys = [] from if_neg (by simp [hok]))
    go_enter Try.func33, Try.ntmps33
    go_wp2_with fail
    refine (implWork_any B _ _ _ _ _ _ xs ys _ HA.out HY.out hB hn hm).mono ?_
    rintro e w1 ⟨rfl, hb⟩
    have HB := hide hb
    clear hb
    rw [hok]
    go_wp2
    go_ret
    exact made_nilF hs.out HB.out
  case true =>
    have hs := hide (show lackS xs ys = lackL xs (sumI ys) from if_pos hok)
    obtain ⟨⟨hx1, hx2⟩, hy1, hy2⟩ := workB_iff.1 hok
    have hxl := hide HA.out.1
    have hyl := hide HY.out.1
    have hn12 : n ≤ 12 := by have := hxl.out; omega
    have hm12 : m ≤ 12 := by have := hyl.out; omega
    have hsb := sumI_costs hy2
    have hsb1 : 0 ≤ sumI ys ∧ sumI ys ≤ 12000 := by omega
    have HH := hide (fun k => have_bd xs hx2 hsb1.1 k)
    have HE := hide (fun (k : Nat) (hk : k < xs.length) => hx2.at hk)
    have H0 := hide (have_zero xs hsb1.1)
    have HSm := hide hy2.small
    have HN := hide (fun (k : Nat) (hk : k < xs.length) => have_succ (B := sumI ys) hx2 hk)
    have HT := hide (fun (k : Nat) (hk : k < xs.length) => lackL_take_succ (B := sumI ys) hk)
    have hmk := mk_ints0F n (by omega)
    clear hx1 hx2 hy1 hy2 hsb
    generalize ht : sumI ys = t at hs HH H0 HN HT hsb1
    have HT0 := hide ht
    clear ht
    go_enter Try.func33, Try.ntmps33
    go_wp2_with fail
    refine (implWork_any B _ _ _ _ _ _ xs ys _ HA.out HY.out hB hn hm).mono ?_
    rintro e w1 ⟨rfl, hb⟩
    have hz := hb.size
    have hz' : w.heap.size ≤ w1.heap.size := hz
    have HB := hide hb
    have HY1 := hide ((HY.out.below hb hB).below ((Below.refl w1.heap.size w1).alloc (Nat.le_refl _) (.cells (madeCells #[.int .i64 0] n) 3)) (by omega))
    have HS := hide (show GrowRel w 0 ((lackL xs t).take 0) (.slice (some ⟨w1.heap.size, 0, none⟩) 0 n) (w1.alloc (.cells (madeCells #[.int .i64 0] n) 3)) from
      ⟨by rw [List.take_zero]; exact Own.made 3 1 w1 _ n w.heap.size hz (by omega) (by rw [size_madeCells]; simp), hb.alloc hz _⟩)
    clear hb
    rw [hok]
    clear hok
    go_wp2_with (go_at_call 46; refine (total_any B _ _ _ ys _ HY1.out (by omega) HSm.out).mono ?_; rintro e w' ⟨rfl, rfl⟩)
    rw [HT0.out]
    go_loopw [5, 6, 21] (fun s5 s6 si wr => ∃ k : Nat, k ≤ n ∧ s6 = .int .i64 (haveAt xs t k) ∧ si = .int .i64 k ∧ Hid (GrowRel w k ((lackL xs t).take k) s5 wr)) (fun _ _ si _ => n - (intOf si).toNat)
    case atStart => exact ⟨0, Nat.zero_le _, by rw [H0.out], rfl, HS⟩
    case round =>
      obtain ⟨k, hk, rfl, rfl, A⟩ := hrel
      clear HS
      obtain ⟨A7, c7, hv7, hc1, hc2, _⟩ := A.out.1.form
      subst hv7
      have HO := hide A.out.1
      have HW := hide A.out.2
      by_cases hlt : k < n
      · clear A
        obtain ⟨bb, off, rfl, hbB, hcell⟩ := HA.out.2.2 (by omega)
        have hck := (HW.out.cell (p := ⟨bb, off + k, none⟩) (by show bb < w.heap.size; omega)).trans (hcell k hlt)
        have HNk := hide (HN.out k (by have := hxl.out; omega))
        have HTk := hide (HT.out k (by have := hxl.out; omega))
        obtain ⟨y0, y1⟩ := HE.out k (by have := hxl.out; omega)
        obtain ⟨h0, h1⟩ := HH.out k
        have HLk := hide (show lackAt xs t k = xs.getD k 0 - min (xs.getD k 0) (haveAt xs t k) from rfl)
        clear hcell
        generalize xs.getD k 0 = y at hck y0 y1 HNk HLk
        obtain ⟨h, hh⟩ : ∃ h, haveAt xs t k = h := ⟨_, rfl⟩
        rw [hh] at h0 h1
        have HNt := hide (show haveAt xs t (k + 1) = h - min y h by rw [HNk.out, hh])
        have HLt := hide (show lackAt xs t k = y - min y h by rw [HLk.out, hh])
        have Hh := hide hh
        clear hh HNk HLk
        rw [Hh.out]
        have hzw := HW.out.size
        by_cases hyh : y ≤ h
        · have HX := hide (show (lackL xs t).take (k + 1) = (lackL xs t).take k ++ [0] by rw [HTk.out, HLt.out, Int.min_eq_left hyh, Int.sub_self])
          have HNn := hide (show haveAt xs t (k + 1) = h - y by rw [HNt.out, Int.min_eq_left hyh])
          go_wp2_with (at_builtin; refine wpList_push rfl (.tmp 31) (.tmp 35) 22 3 1 8 i0 _ rfl Try.underlying22 hi hz0 hz1 hz2 rfl (by omega) (by omega) wr w.heap.size (.slice A7 k c7) k _ rfl HO.out [0] 1 1 rfl rfl (by omega) hzw ?_; intro v1 w1' ho1 hb1 hg1 hv1; have D := hide (show GrowRel w (k + 1) ((lackL xs t).take (k + 1)) v1 w1' from ⟨by rw [HX.out]; exact ho1, HW.out.trans hb1⟩); clear ho1 hb1 hg1 hv1)
          go_roundw
          case rel => exact ⟨k + 1, by omega, by rw [HNn.out], by go_num, D⟩
          case measure => simp [intOf]; omega
        · have HX := hide (show (lackL xs t).take (k + 1) = (lackL xs t).take k ++ [y - h] by rw [HTk.out, HLt.out, Int.min_eq_right (by omega)])
          have HNn := hide (show haveAt xs t (k + 1) = 0 by rw [HNt.out, Int.min_eq_right (by omega), Int.sub_self])
          have hyh' : h ≤ y := by omega
          go_wp2_with (at_builtin; refine wpList_push rfl (.tmp 31) (.tmp 35) 22 3 1 8 i0 _ rfl Try.underlying22 hi hz0 hz1 hz2 rfl (by omega) (by omega) wr w.heap.size (.slice A7 k c7) k _ rfl HO.out [y - h] 1 1 rfl rfl (by omega) hzw ?_; intro v1 w1' ho1 hb1 hg1 hv1; have D := hide (show GrowRel w (k + 1) ((lackL xs t).take (k + 1)) v1 w1' from ⟨by rw [HX.out]; exact ho1, HW.out.trans hb1⟩); clear ho1 hb1 hg1 hv1)
          go_roundw
          case rel => exact ⟨k + 1, by omega, by rw [HNn.out], by go_num, D⟩
          case measure => simp [intOf]; omega
      · obtain rfl : k = n := by omega
        have D := hide (show Made (lackS xs ys) w (.returned (.slice A7 k c7)) wr by
          have h1 := A.out
          rw [List.take_of_length_le (by rw [lackL_len]; have := hxl.out; omega)] at h1
          rw [hs.out]
          exact h1.made)
        clear A
        go_wp2
        go_ret
        exact D.out
set_option maxHeartbeats 2000000 in
theorem specLack_any (B : Nat) (a b : Option Addr) (n c m d : Nat) (xs ys : List Int) (w : World) (hA : Ints .i64 w B a n xs) (hY : Ints .i64 w B b m ys) (hB : B ≤ w.heap.size) (hn : n ≤ 1048576) (hm : m ≤ 1048576) :
    Calls Try.prog 34 #[.slice a n c, .slice b m d] w (Made (lackS xs ys) w) := by
  obtain ⟨i0, hi, hz0, hz1, hz2⟩ := info_parts int_info
  have HB := hide ((Below.refl w.heap.size w).alloc (Nat.le_refl _) (.cells #[] 3))
  have HA := hide hA
  have HA1 := hide (hA.below HB.out hB)
  have HY1 := hide (hY.below HB.out hB)
  have hyl := hide hY.1
  clear hA hY
  cases hok : workB xs ys
  case false =>
    have hs := hide (show lackS xs ys = [] from if_neg (by simp [hok]))
    go_enter Try.func34, Try.ntmps34
    go_wp2_with fail
    refine (specCosts_any B _ _ _ _ _ _ xs ys _ HA1.out HY1.out hn hm).mono ?_
    rintro e w1 ⟨rfl, rfl⟩
    rw [hok]
    go_wp2
    go_ret
    exact made_nilF hs.out HB.out
  case true =>
    have hs := hide (show lackS xs ys = lackL xs (sumI ys) from if_pos hok)
    obtain ⟨⟨hx1, hx2⟩, hy1, hy2⟩ := workB_iff.1 hok
    have hxl := hide HA.out.1
    have hn12 : n ≤ 12 := by have := hxl.out; omega
    have hm12 : m ≤ 12 := by have := hyl.out; omega
    have hsb := sumI_costs hy2
    have hsb1 : 0 ≤ sumI ys ∧ sumI ys ≤ 12000 := by omega
    have HH := hide (fun k => have_bd xs hx2 hsb1.1 k)
    have HE := hide (fun (k : Nat) (hk : k < xs.length) => hx2.at hk)
    have H0 := hide (have_zero xs hsb1.1)
    have HSm := hide hy2.small
    have HN := hide (fun (k : Nat) (hk : k < xs.length) => have_succ (B := sumI ys) hx2 hk)
    have HT := hide (fun (k : Nat) (hk : k < xs.length) => lackL_take_succ (B := sumI ys) hk)
    clear hx1 hx2 hy1 hy2 hsb
    generalize ht : sumI ys = t at hs HH H0 HN HT hsb1
    have HT0 := hide ht
    clear ht
    have HS := hide (show GrowRel w 0 ((lackL xs t).take 0) (.slice (some ⟨w.heap.size, 0, none⟩) 0 0) (w.alloc (.cells #[] 3)) from
      ⟨by rw [List.take_zero]; exact Own.made 3 1 w _ 0 w.heap.size (Nat.le_refl _) (by omega) rfl, HB.out⟩)
    go_enter Try.func34, Try.ntmps34
    go_wp2_with fail
    refine (specCosts_any B _ _ _ _ _ _ xs ys _ HA1.out HY1.out hn hm).mono ?_
    rintro e w1 ⟨rfl, rfl⟩
    rw [hok]
    clear hok
    go_wp2_with (go_at_call 48; refine (specSum_any B _ _ _ ys _ HY1.out (by omega) HSm.out).mono ?_; rintro e w' ⟨rfl, rfl⟩)
    rw [HT0.out]
    go_loopw [5, 6, 7] (fun s5 s6 si wr => ∃ k : Nat, k ≤ n ∧ s6 = .int .i64 (haveAt xs t k) ∧ si = .int .i64 k ∧ Hid (GrowRel w k ((lackL xs t).take k) s5 wr)) (fun _ _ si _ => n - (intOf si).toNat)
    case atStart => exact ⟨0, Nat.zero_le _, by rw [H0.out], rfl, HS⟩
    case round =>
      obtain ⟨k, hk, rfl, rfl, A⟩ := hrel
      clear HS
      obtain ⟨A7, c7, hv7, hc1, hc2, _⟩ := A.out.1.form
      subst hv7
      have HO := hide A.out.1
      have HW := hide A.out.2
      by_cases hlt : k < n
      · clear A
        obtain ⟨bb, off, rfl, hbB, hcell⟩ := HA.out.2.2 (by omega)
        have hck := (HW.out.cell (p := ⟨bb, off + k, none⟩) (by show bb < w.heap.size; omega)).trans (hcell k hlt)
        have HNk := hide (HN.out k (by have := hxl.out; omega))
        have HTk := hide (HT.out k (by have := hxl.out; omega))
        obtain ⟨y0, y1⟩ := HE.out k (by have := hxl.out; omega)
        obtain ⟨h0, h1⟩ := HH.out k
        have HLk := hide (show lackAt xs t k = xs.getD k 0 - min (xs.getD k 0) (haveAt xs t k) from rfl)
        clear hcell
        generalize xs.getD k 0 = y at hck y0 y1 HNk HLk
        obtain ⟨h, hh⟩ : ∃ h, haveAt xs t k = h := ⟨_, rfl⟩
        rw [hh] at h0 h1
        have HNt := hide (show haveAt xs t (k + 1) = h - min y h by rw [HNk.out, hh])
        have HLt := hide (show lackAt xs t k = y - min y h by rw [HLk.out, hh])
        have Hh := hide hh
        clear hh HNk HLk
        rw [Hh.out]
        have hzw := HW.out.size
        by_cases hyh : y < h
        · have HX := hide (show (lackL xs t).take (k + 1) = (lackL xs t).take k ++ [0] by rw [HTk.out, HLt.out, Int.min_eq_left (show y ≤ h by omega), Int.sub_self])
          have HNn := hide (show haveAt xs t (k + 1) = h - y by rw [HNt.out, Int.min_eq_left (show y ≤ h by omega)])
          go_wp2_with (at_builtin; refine wpList_push rfl (.tmp 31) (.tmp 38) 22 3 1 8 i0 _ rfl Try.underlying22 hi hz0 hz1 hz2 rfl (by omega) (by omega) wr w.heap.size (.slice A7 k c7) k _ rfl HO.out [0] 1 1 rfl rfl (by omega) hzw ?_; intro v1 w1' ho1 hb1 hg1 hv1; have D := hide (show GrowRel w (k + 1) ((lackL xs t).take (k + 1)) v1 w1' from ⟨by rw [HX.out]; exact ho1, HW.out.trans hb1⟩); clear ho1 hb1 hg1 hv1)
          go_roundw
          case rel => exact ⟨k + 1, by omega, by rw [HNn.out], by go_num, D⟩
          case measure => simp [intOf]; omega
        · have HX := hide (show (lackL xs t).take (k + 1) = (lackL xs t).take k ++ [y - h] by rw [HTk.out, HLt.out, Int.min_eq_right (by omega)])
          have HNn := hide (show haveAt xs t (k + 1) = 0 by rw [HNt.out, Int.min_eq_right (by omega), Int.sub_self])
          have hyh' : h ≤ y := by omega
          go_wp2_with (at_builtin; refine wpList_push rfl (.tmp 31) (.tmp 38) 22 3 1 8 i0 _ rfl Try.underlying22 hi hz0 hz1 hz2 rfl (by omega) (by omega) wr w.heap.size (.slice A7 k c7) k _ rfl HO.out [y - h] 1 1 rfl rfl (by omega) hzw ?_; intro v1 w1' ho1 hb1 hg1 hv1; have D := hide (show GrowRel w (k + 1) ((lackL xs t).take (k + 1)) v1 w1' from ⟨by rw [HX.out]; exact ho1, HW.out.trans hb1⟩); clear ho1 hb1 hg1 hv1)
          go_roundw
          case rel => exact ⟨k + 1, by omega, by rw [HNn.out], by go_num, D⟩
          case measure => simp [intOf]; omega
      · obtain rfl : k = n := by omega
        have D := hide (show Made (lackS xs ys) w (.returned (.slice A7 k c7)) wr by
          have h1 := A.out
          rw [List.take_of_length_le (by rw [lackL_len]; have := hxl.out; omega)] at h1
          rw [hs.out]
          exact h1.made)
        clear A
        go_wp2
        go_ret
        exact D.out
set_option maxHeartbeats 2000000 in
theorem implFin_any (B : Nat) (a b : Option Addr) (n c m d : Nat) (xs ys : List Int) (w : World) (hA : Ints .i64 w B a n xs) (hY : Ints .i64 w B b m ys) (hB : B ≤ w.heap.size) (hnc : n ≤ c) (hmd : m ≤ d) (hc9 : c ≤ 9223372036854775807) (hd9 : d ≤ 9223372036854775807) (hn : n ≤ 1048576) (hm : m ≤ 1048576) :
    Calls Try.prog 30 #[.slice a n c, .slice b m d] w (Made (finS xs ys) w) := by
  obtain ⟨i0, hi, hz0, hz1, hz2⟩ := info_parts int_info
  have HA := hide hA
  have HY := hide hY
  clear hA hY
  cases hok : workB xs ys
  case false =>
    have hs := hide (show finS xs ys = [] from if_neg (by simp [hok]))
    go_enter Try.func30, Try.ntmps30
    go_wp2_with fail
    refine (implWork_any B _ _ _ _ _ _ xs ys _ HA.out HY.out hB hn hm).mono ?_
    rintro e w1 ⟨rfl, hb⟩
    have HB := hide hb
    clear hb
    rw [hok]
    go_wp2
    go_ret
    exact made_nilF hs.out HB.out
  case true =>
    have hs := hide (show finS xs ys = finL xs ys from if_pos hok)
    obtain ⟨⟨hx1, hx2⟩, hy1, hy2⟩ := workB_iff.1 hok
    have hxl := hide HA.out.1
    have hyl := hide HY.out.1
    have hn12 : n ≤ 12 := by have := hxl.out; omega
    have hm12 : m ≤ 12 := by have := hyl.out; omega
    have HPx := hide (fun k => pre_bd hx2 k)
    have HPy := hide (fun k => pre_bd hy2 k)
    have HSx := hide hx2.small
    have HSy := hide hy2.small
    have HT := hide (fun (k : Nat) (hk : k < xs.length) => finL_take_succ (bs := ys) hk)
    have hmk := mk_ints0F n (by omega)
    clear hx1 hx2 hy1 hy2
    go_enter Try.func30, Try.ntmps30
    go_wp2_with fail
    refine (implWork_any B _ _ _ _ _ _ xs ys _ HA.out HY.out hB hn hm).mono ?_
    rintro e w1 ⟨rfl, hb⟩
    have hz := hb.size
    have HB := hide hb
    have HS := hide (show GrowRel w 0 ((finL xs ys).take 0) (.slice (some ⟨w1.heap.size, 0, none⟩) 0 n) (w1.alloc (.cells (madeCells #[.int .i64 0] n) 3)) from
      ⟨by rw [List.take_zero]; exact Own.made 3 1 w1 _ n w.heap.size hz (by omega) (by rw [size_madeCells]; simp), hb.alloc hz _⟩)
    clear hb
    rw [hok]
    clear hok
    go_wp2
    clear hmk
    go_loopw [5, 19] (fun s5 s19 wr => ∃ (k : Nat) (W9 : World), k ≤ n ∧ s19 = .int .i64 k ∧ W9 = wr ∧ Hid (GrowRel w k ((finL xs ys).take k) s5 W9)) (fun _ s19 _ => n - (intOf s19).toNat)
    case atStart => exact ⟨0, _, Nat.zero_le _, rfl, rfl, HS⟩
    case round =>
      obtain ⟨k, W9, hk, rfl, rfl, A⟩ := hrel
      clear HS
      obtain ⟨A7, c7, hv7, hc1, hc2, _⟩ := A.out.1.form
      subst hv7
      have HO := hide A.out.1
      have HW := hide A.out.2
      by_cases hlt : k < n
      · clear A
        have HA9 := hide ((HA.out.below HW.out hB).le (show k + 1 ≤ n by omega))
        have HY9 := hide (HY.out.below HW.out hB)
        have HTk := hide (HT.out k (by have := hxl.out; omega))
        have hp := HPx.out (k + 1)
        have HF := hide (show finAt xs ys k = firstAt ys (pre xs (k + 1)) ys.length from rfl)
        have hp' : 0 ≤ pre xs (k + 1) ∧ pre xs (k + 1) ≤ 12000 := by have := hxl.out; omega
        clear hp
        go_wp2_with fail
        refine (total_any B _ (k + 1) c (xs.take (k + 1)) _ HA9.out (by omega) (HSx.out.take _)).mono ?_
        rintro e w' ⟨rfl, rfl⟩
        rw [show sumI (xs.take (k + 1)) = pre xs (k + 1) from rfl]
        generalize pre xs (k + 1) = need at HF hp'
        go_upto_block 2 with fail
        go_cut [8] (fun s8 wx => s8 = .int .i64 (finAt xs ys k) ∧ W9 = wx)
        case first =>
          go_wp2_with fail
          go_loop [8, 29] (fun s8 s29 => ∃ j : Nat, j ≤ m ∧ s8 = .int .i64 (-1) ∧ s29 = .int .i64 j ∧ Hid (firstAt ys need j = -1)) (fun _ s29 => m - (intOf s29).toNat)
          case atStart => exact ⟨0, Nat.zero_le _, rfl, rfl, hide rfl⟩
          case round =>
            obtain ⟨j, hj, rfl, rfl, A⟩ := hrel
            by_cases hjm : j < m
            · have HYj := hide (HY9.out.le (show j + 1 ≤ m by omega))
              have hq := HPy.out (j + 1)
              have hq' : 0 ≤ pre ys (j + 1) ∧ pre ys (j + 1) ≤ 12000 := by have := hyl.out; omega
              clear hq
              by_cases hne : need ≤ pre ys (j + 1)
              · have D := hide (show finAt xs ys k = (j : Int) by rw [HF.out]; exact firstAt_hit A.out hne (by have := hyl.out; omega))
                go_wp2_with (go_at_call 46; refine (total_any B _ (j + 1) d (ys.take (j + 1)) _ HYj.out (by omega) (HSy.out.take _)).mono ?_; rintro e w' ⟨rfl, rfl⟩; rw [show sumI (ys.take (j + 1)) = pre ys (j + 1) from rfl])
                go_meet
                exact ⟨by rw [D.out], rfl⟩
              · have D := hide (firstAt_miss A.out (show pre ys (j + 1) < need by omega))
                go_wp2_with (go_at_call 46; refine (total_any B _ (j + 1) d (ys.take (j + 1)) _ HYj.out (by omega) (HSy.out.take _)).mono ?_; rintro e w' ⟨rfl, rfl⟩; rw [show sumI (ys.take (j + 1)) = pre ys (j + 1) from rfl])
                go_round
                case rel => exact ⟨j + 1, by omega, rfl, by go_num, D⟩
                case measure => simp [intOf]; omega
            · obtain rfl : j = m := by omega
              have D := hide (show finAt xs ys k = -1 by rw [HF.out, hyl.out]; exact A.out)
              go_wp2
              go_meet
              exact ⟨by rw [D.out], rfl⟩
        case rest =>
          obtain ⟨rfl, rfl⟩ := hcut
          have hzw := HW.out.size
          obtain ⟨f, hf⟩ : ∃ f, finAt xs ys k = f := ⟨_, rfl⟩
          have HX := hide (show (finL xs ys).take (k + 1) = (finL xs ys).take k ++ [f] by rw [HTk.out, hf])
          rw [hf]
          clear hf
          go_wp2_with (at_builtin; refine wpList_push rfl (.tmp 41) (.tmp 43) 22 3 1 8 i0 _ rfl Try.underlying22 hi hz0 hz1 hz2 rfl (by omega) (by omega) W9 w.heap.size (.slice A7 k c7) k _ rfl HO.out [f] 1 1 rfl rfl (by omega) hzw ?_; intro v1 w1' ho1 hb1 hg1 hv1; have D := hide (show GrowRel w (k + 1) ((finL xs ys).take (k + 1)) v1 w1' from ⟨by rw [HX.out]; exact ho1, HW.out.trans hb1⟩); clear ho1 hb1 hg1 hv1)
          go_roundw
          case rel => exact ⟨k + 1, _, by omega, by go_num, rfl, D⟩
          case measure => simp [intOf]; omega
      · obtain rfl : k = n := by omega
        have D := hide (show Made (finS xs ys) w (.returned (.slice A7 k c7)) W9 by
          have h1 := A.out
          rw [List.take_of_length_le (by rw [finL_len]; have := hxl.out; omega)] at h1
          rw [hs.out]
          exact h1.made)
        clear A
        go_wp2
        go_ret
        exact D.out
set_option maxHeartbeats 2000000 in
theorem specFin_any (B : Nat) (a b : Option Addr) (n c m d : Nat) (xs ys : List Int) (w : World) (hA : Ints .i64 w B a n xs) (hY : Ints .i64 w B b m ys) (hB : B ≤ w.heap.size) (hn : n ≤ 1048576) (hm : m ≤ 1048576) :
    Calls Try.prog 31 #[.slice a n c, .slice b m d] w (Made (finS xs ys) w) := by
  obtain ⟨i0, hi, hz0, hz1, hz2⟩ := info_parts int_info
  have HB := hide ((Below.refl w.heap.size w).alloc (Nat.le_refl _) (.cells #[] 3))
  have HA := hide hA
  have HY := hide hY
  have HA1 := hide (hA.below HB.out hB)
  have HY1 := hide (hY.below HB.out hB)
  clear hA hY
  cases hok : workB xs ys
  case false =>
    have hs := hide (show finS xs ys = [] from if_neg (by simp [hok]))
    go_enter Try.func31, Try.ntmps31
    go_wp2_with fail
    refine (specCosts_any B _ _ _ _ _ _ xs ys _ HA1.out HY1.out hn hm).mono ?_
    rintro e w1 ⟨rfl, rfl⟩
    rw [hok]
    go_wp2
    go_ret
    exact made_nilF hs.out HB.out
  case true =>
    have hs := hide (show finS xs ys = finL xs ys from if_pos hok)
    obtain ⟨⟨hx1, hx2⟩, hy1, hy2⟩ := workB_iff.1 hok
    have hxl := hide HA.out.1
    have hyl := hide HY.out.1
    have hn12 : n ≤ 12 := by have := hxl.out; omega
    have hm12 : m ≤ 12 := by have := hyl.out; omega
    have HPx := hide (fun k => pre_bd hx2 k)
    have HPy := hide (fun k => pre_bd hy2 k)
    have HEx := hide (fun (k : Nat) (hk : k < xs.length) => hx2.at hk)
    have HEy := hide (fun (k : Nat) (hk : k < ys.length) => hy2.at hk)
    have HT := hide (fun (k : Nat) (hk : k < xs.length) => finL_take_succ (bs := ys) hk)
    have HS := hide (show GrowRel w 0 ((finL xs ys).take 0) (.slice (some ⟨w.heap.size, 0, none⟩) 0 0) (w.alloc (.cells #[] 3)) from
      ⟨by rw [List.take_zero]; exact Own.made 3 1 w _ 0 w.heap.size (Nat.le_refl _) (by omega) rfl, HB.out⟩)
    clear hx1 hx2 hy1 hy2
    go_enter Try.func31, Try.ntmps31
    go_wp2_with fail
    refine (specCosts_any B _ _ _ _ _ _ xs ys _ HA1.out HY1.out hn hm).mono ?_
    rintro e w1 ⟨rfl, rfl⟩
    rw [hok]
    clear hok
    go_wp2
    go_loopw [5, 6, 7] (fun s5 s6 s7 wr => ∃ (k : Nat) (W9 : World), k ≤ n ∧ s6 = .int .i64 (pre xs k) ∧ s7 = .int .i64 k ∧ W9 = wr ∧ Hid (GrowRel w k ((finL xs ys).take k) s5 W9)) (fun _ _ s7 _ => n - (intOf s7).toNat)
    case atStart => exact ⟨0, _, Nat.zero_le _, rfl, rfl, rfl, HS⟩
    case round =>
      obtain ⟨k, W9, hk, rfl, rfl, rfl, A⟩ := hrel
      clear HS
      obtain ⟨A7, c7, hv7, hc1, hc2, _⟩ := A.out.1.form
      subst hv7
      have HO := hide A.out.1
      have HW := hide A.out.2
      by_cases hlt : k < n
      · clear A
        obtain ⟨bb, off, rfl, hbB, hcell⟩ := (HA.out.below HW.out hB).2.2 (by omega)
        have hck := hcell k hlt
        have HY9 := hide (HY.out.below HW.out hB)
        have HTk := hide (HT.out k (by have := hxl.out; omega))
        have hp := HPx.out k
        have hp1 := HPx.out (k + 1)
        obtain ⟨y0, y1⟩ := HEx.out k (by have := hxl.out; omega)
        have HF := hide (show finAt xs ys k = firstAt ys (pre xs (k + 1)) ys.length from rfl)
        have HN := hide (pre_succ (xs := xs) (k := k) (by have := hxl.out; omega))
        have hp' : 0 ≤ pre xs k ∧ pre xs k ≤ 12000 := by have := hxl.out; omega
        clear hp hp1 hcell
        generalize xs.getD k 0 = y at hck HN y0 y1
        obtain ⟨t, ht⟩ : ∃ t, pre xs k = t := ⟨_, rfl⟩
        rw [ht] at hp' ⊢
        have HNt := hide (show pre xs (k + 1) = t + y by rw [HN.out, ht])
        rw [HNt.out] at HF
        clear ht HN
        go_upto_block 2 with fail
        go_cut [8] (fun s8 wx => s8 = .int .i64 (finAt xs ys k) ∧ W9 = wx)
        case first =>
          go_wp2_with fail
          go_loop [8, 9, 10] (fun s8 s9 s10 => ∃ j : Nat, j ≤ m ∧ s8 = .int .i64 (firstAt ys (t + y) j) ∧ s9 = .int .i64 (pre ys j) ∧ s10 = .int .i64 j) (fun _ _ s10 => m - (intOf s10).toNat)
          case atStart => exact ⟨0, Nat.zero_le _, rfl, rfl, rfl⟩
          case round =>
            obtain ⟨j, hj, rfl, rfl, rfl⟩ := hrel
            have hq := HPy.out j
            have hq' : 0 ≤ pre ys j ∧ pre ys j ≤ 12000 := by have := hyl.out; omega
            have hfb := firstAt_bd ys (t + y) j
            clear hq
            by_cases hjm : j < m
            · by_cases hf1 : firstAt ys (t + y) j = -1
              · obtain ⟨b1, o1, rfl, _, hcell⟩ := HY9.out.2.2 (by omega)
                have hcj := hcell j hjm
                obtain ⟨z0, z1⟩ := HEy.out j (by have := hyl.out; omega)
                have HM := hide (pre_succ (xs := ys) (k := j) (by have := hyl.out; omega))
                have HD1 := hide (fun hq => show firstAt ys (t + y) (j + 1) = (j : Int) from firstAt_hit hf1 hq (Nat.lt_succ_self _))
                have HD2 := hide (fun hq => firstAt_miss (bs := ys) (need := t + y) hf1 hq)
                rw [HM.out] at HD1 HD2
                clear hcell
                generalize ys.getD j 0 = z at hcj z0 z1 HM HD1 HD2
                obtain ⟨p, hp⟩ : ∃ p, pre ys j = p := ⟨_, rfl⟩
                rw [hp] at hq' HD1 HD2 ⊢
                have HMt := hide (show pre ys (j + 1) = p + z by rw [HM.out, hp])
                rw [hf1]
                clear hp HM hfb hf1
                by_cases hne : t + y ≤ p + z
                · have D := hide (HD1.out hne)
                  go_wp2
                  go_round
                  case rel => exact ⟨j + 1, by omega, by rw [D.out], by rw [HMt.out], by go_num⟩
                  case measure => simp [intOf]; omega
                · have D := hide (HD2.out (by omega))
                  go_wp2
                  go_round
                  case rel => exact ⟨j + 1, by omega, by rw [D.out], by rw [HMt.out], by go_num⟩
                  case measure => simp [intOf]; omega
              · have hf0 : 0 ≤ firstAt ys (t + y) j := by omega
                have D := hide (show finAt xs ys k = firstAt ys (t + y) j by rw [HF.out]; exact firstAt_stay hf1 (by have := hyl.out; omega))
                clear hf1
                generalize firstAt ys (t + y) j = f at hf0 hfb D ⊢
                generalize pre ys j = p at hq' ⊢
                go_wp2
                go_meet
                exact ⟨by rw [D.out], rfl⟩
            · obtain rfl : j = m := by omega
              have D := hide (show finAt xs ys k = firstAt ys (t + y) j by rw [HF.out, hyl.out])
              generalize firstAt ys (t + y) j = f at hfb D ⊢
              generalize pre ys j = p at hq' ⊢
              go_wp2
              go_meet
              exact ⟨by rw [D.out], rfl⟩
        case rest =>
          obtain ⟨rfl, rfl⟩ := hcut
          have hzw := HW.out.size
          obtain ⟨f, hf⟩ : ∃ f, finAt xs ys k = f := ⟨_, rfl⟩
          have HX := hide (show (finL xs ys).take (k + 1) = (finL xs ys).take k ++ [f] by rw [HTk.out, hf])
          rw [hf]
          clear hf
          go_wp2_with (at_builtin; refine wpList_push rfl (.tmp 48) (.tmp 50) 22 3 1 8 i0 _ rfl Try.underlying22 hi hz0 hz1 hz2 rfl (by omega) (by omega) W9 w.heap.size (.slice A7 k c7) k _ rfl HO.out [f] 1 1 rfl rfl (by omega) hzw ?_; intro v1 w1' ho1 hb1 hg1 hv1; have D := hide (show GrowRel w (k + 1) ((finL xs ys).take (k + 1)) v1 w1' from ⟨by rw [HX.out]; exact ho1, HW.out.trans hb1⟩); clear ho1 hb1 hg1 hv1)
          go_roundw
          case rel => exact ⟨k + 1, _, by omega, by rw [HNt.out], by go_num, rfl, D⟩
          case measure => simp [intOf]; omega
      · obtain rfl : k = n := by omega
        have D := hide (show Made (finS xs ys) w (.returned (.slice A7 k c7)) W9 by
          have h1 := A.out
          rw [List.take_of_length_le (by rw [finL_len]; have := hxl.out; omega)] at h1
          rw [hs.out]
          exact h1.made)
        clear A
        go_wp2
        go_ret
        exact D.out
end Go.Proofs.Ytldmnpflcnmcpaa
