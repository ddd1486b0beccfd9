/- Buffers: read; the cells that differ; the reference's writing. Conditions: none. -/
import Derived.Test.YtjaagekckbjhdaaBufMore
import Derived.BigQuiet
namespace Go.Proofs.Ytjaagekckbjhdaa
open Go.RowKit
set_option linter.unusedVariables false

def readOk (xs ys : List Int) (v i : Int) : Bool := validB xs ys v && inR i 0 ((xs.length : Int) - 1)
def readV (xs ys : List Int) (v i : Int) : Int := if readOk xs ys v i = true then xs.getD i.toNat 0 else 0
/-- the first k cells that differ -/
def pendTo (xs ys : List Int) : Nat → List Int
  | 0 => []
  | k + 1 => if xs.getD k 0 = ys.getD k 0 then pendTo xs ys k else pendTo xs ys k ++ [(k : Int)]
def pendS (xs ys : List Int) (v : Int) : List Int := if validB xs ys v = true then pendTo xs ys xs.length else []
theorem pendTo_len (xs ys : List Int) (k : Nat) : (pendTo xs ys k).length ≤ k := by
  induction k with
  | zero => exact Nat.le_refl _
  | succ k ih => simp only [pendTo]; split <;> (try rw [List.length_append, List.length_singleton]) <;> omega
theorem made_nilS {w w' : World} {xs : List Int} (h : xs = []) (hb : Below w.heap.size w w') : Made xs w (.returned (.slice none 0 0)) w' := by
  subst h; exact ⟨none, 0, 0, rfl, Nat.le_refl _, by omega, Row.nil _ _ _ _ _, hb⟩
theorem mk_ints0 (n : Nat) (hn : n ≤ 1099511627776) (w : World) :
    (Instr.makeSlice 22 (.int .i64 0) (.int .i64 (n : Int))).run Try.prog w = .ok (.slice (some ⟨w.heap.size, 0, none⟩) 0 n) (w.alloc (.cells (madeCells #[.int .i64 0] n) 3)) := by
  obtain ⟨i0, hi, hz0, hz1, hz2⟩ := info_parts int_info
  have h := run_make w 22 3 i0 (.int .i64 0) Try.underlying22 hi hz0 .i64 .i64 0 n (by omega) (by omega) (by rw [hz2]; omega) (by omega)
  simpa [hz1, Value.cells] using h

set_option maxHeartbeats 1000000 in
theorem implRead_any (K : Nat) (A : Option Addr) (n c : Nat) (B : Option Addr) (m d : Nat) (xs ys : List Int) (v i : Int) (w : World) (h : Buf w K A n c B m d xs ys) (hK : K ≤ w.heap.size) :
    Calls Try.prog 16 #[.agg #[.slice A n c, .slice B m d, .int .i64 v], .int .i64 i] w fun e w' => e = .returned (.tuple #[.int .i64 (readV xs ys v i), .bool (readOk xs ys v i)]) ∧ Below w.heap.size w w' := by
  have hb0 := hide (((Below.refl w.heap.size w).alloc (Nat.le_refl _) (.cells #[.slice A n c, .slice B m d, .int .i64 v] 27)))
  have H := hide (h.below hb0.out hK)
  have hxl := hide h.1.1
  have hnn := h.2.2.1
  clear h
  cases hv : (validB xs ys v && inR i 0 ((n : Int) - 1))
  case false =>
    have hr : readOk xs ys v i = false := by unfold readOk; rw [hxl.out]; exact hv
    have hs1 := hide hr
    have hs2 := hide (show readV xs ys v i = 0 from if_neg (by rw [hr]; simp))
    clear hr
    go_enter Try.func16, Try.ntmps16
    go_wp2_with fail
    refine (cellIn_any K _ n c B m d xs ys v _ _ H.out (by simp; omega)).mono ?_
    rintro e w1 ⟨rfl, hb⟩
    have HZ := hide (hb0.out.trans (hb.mono (by simp)))
    clear hb
    go_wp2
    go_ret2
    exact ⟨by rw [hs1.out, hs2.out]; rfl, HZ.out⟩
  case true =>
    have hr : readOk xs ys v i = true := by unfold readOk; rw [hxl.out]; exact hv
    have hs1 := hide hr
    have hvv := hv
    rw [Bool.and_eq_true] at hvv
    obtain ⟨i0, i1⟩ := inR_iff.1 hvv.2
    have hva := hvv.1
    have hir := hvv.2
    clear hvv
    obtain ⟨j, rfl⟩ := Int.eq_ofNat_of_zero_le i0
    have hs2 := hide (show readV xs ys v (j : Int) = xs.getD j 0 from if_pos hr)
    clear hr
    have hj : (j : Int) < (n : Int) := by omega
    obtain ⟨ba, oa, rfl, hba, hcell⟩ := H.out.1.2.2 (by omega)
    have hcj := hcell j (by omega)
    clear hcell
    generalize xs.getD j 0 = y at hcj hs2
    go_enter Try.func16, Try.ntmps16
    go_wp2_with fail
    refine (cellIn_any K _ n c B m d xs ys v _ _ H.out (by simp; omega)).mono ?_
    rintro e w1 ⟨rfl, hb⟩
    have HZ := hide (hb0.out.trans (hb.mono (by simp)))
    have k0 := hb.cell (p := ⟨w.heap.size, 0, none⟩) (by simp)
    have k1 := (hb.cell (p := ⟨ba, oa + j, none⟩) (by show ba < (w.alloc _).heap.size; simp; omega)).trans hcj
    clear hb hcj
    go_wp2
    go_ret2
    exact ⟨by rw [hs1.out, hs2.out]; rfl, HZ.out⟩

set_option maxHeartbeats 1000000 in
theorem specRead_any (K : Nat) (A : Option Addr) (n c : Nat) (B : Option Addr) (m d : Nat) (xs ys : List Int) (v i : Int) (w : World) (h : Buf w K A n c B m d xs ys) (hK : K ≤ w.heap.size) :
    Calls Try.prog 15 #[.agg #[.slice A n c, .slice B m d, .int .i64 v], .int .i64 i] w fun e w' => e = .returned (.tuple #[.int .i64 (readV xs ys v i), .bool (readOk xs ys v i)]) ∧ Below w.heap.size w w' := by
  have hb0 := hide (((Below.refl w.heap.size w).alloc (Nat.le_refl _) (.cells #[.slice A n c, .slice B m d, .int .i64 v] 27)))
  have H := hide (h.below hb0.out hK)
  have hxl := hide h.1.1
  have hnn := h.2.2.1
  clear h
  cases hv : (validB xs ys v && inR i 0 ((n : Int) - 1))
  case false =>
    have hr : readOk xs ys v i = false := by unfold readOk; rw [hxl.out]; exact hv
    have hs1 := hide hr
    have hs2 := hide (show readV xs ys v i = 0 from if_neg (by rw [hr]; simp))
    clear hr
    cases hva : validB xs ys v
    case false =>
      go_enter Try.func15, Try.ntmps15
      go_wp2_with fail
      refine (specValidIn_any K _ n c B m d xs ys v _ H.out (by simp; omega)).mono ?_
      rintro e w1 ⟨rfl, hb⟩
      have HZ := hide (hb0.out.trans (hb.mono (by simp)))
      clear hb
      go_wp2
      go_ret2
      exact ⟨by rw [hs1.out, hs2.out]; rfl, HZ.out⟩
    case true =>
      have hir : inR i 0 ((n : Int) - 1) = false := by rw [hva] at hv; simpa using hv
      go_enter Try.func15, Try.ntmps15
      go_wp2_with fail
      refine (specValidIn_any K _ n c B m d xs ys v _ H.out (by simp; omega)).mono ?_
      rintro e w1 ⟨rfl, hb⟩
      have HZ := hide (hb0.out.trans (hb.mono (by simp)))
      have k0 := hb.cell (p := ⟨w.heap.size, 0, none⟩) (by simp)
      clear hb
      go_wp2_with (go_at_call 36; refine (inRange_any _ _ _ _).mono ?_; rintro e w' ⟨rfl, rfl⟩)
      go_ret2
      exact ⟨by rw [hs1.out, hs2.out]; rfl, HZ.out⟩
  case true =>
    have hr : readOk xs ys v i = true := by unfold readOk; rw [hxl.out]; exact hv
    have hs1 := hide hr
    have hvv := hv
    rw [Bool.and_eq_true] at hvv
    obtain ⟨i0, i1⟩ := inR_iff.1 hvv.2
    have hva := hvv.1
    have hir := hvv.2
    clear hvv
    obtain ⟨j, rfl⟩ := Int.eq_ofNat_of_zero_le i0
    have hs2 := hide (show readV xs ys v (j : Int) = xs.getD j 0 from if_pos hr)
    clear hr
    have hj : (j : Int) < (n : Int) := by omega
    obtain ⟨ba, oa, rfl, hba, hcell⟩ := H.out.1.2.2 (by omega)
    have hcj := hcell j (by omega)
    clear hcell
    generalize xs.getD j 0 = y at hcj hs2
    go_enter Try.func15, Try.ntmps15
    go_wp2_with fail
    refine (specValidIn_any K _ n c B m d xs ys v _ H.out (by simp; omega)).mono ?_
    rintro e w1 ⟨rfl, hb⟩
    have HZ := hide (hb0.out.trans (hb.mono (by simp)))
    have k0 := hb.cell (p := ⟨w.heap.size, 0, none⟩) (by simp)
    have k1 := (hb.cell (p := ⟨ba, oa + j, none⟩) (by show ba < (w.alloc _).heap.size; simp; omega)).trans hcj
    clear hb hcj
    go_wp2_with (go_at_call 36; refine (inRange_any _ _ _ _).mono ?_; rintro e w' ⟨rfl, rfl⟩)
    go_ret2
    exact ⟨by rw [hs1.out, hs2.out]; rfl, HZ.out⟩

theorem Own.rebase {E : TypeId} {k : Nat} {w : World} {base base' : Nat} {v : Value} {n : Nat} {xs : List Int} (h : Own E k w base v n xs) (hb : ∀ j, v.ownBlock = some j → base' ≤ j) : Own E k w base' v n xs := by
  refine ⟨h.1, ?_⟩
  rcases h.2 with h | ⟨g, cap, cur, e, h1, r⟩
  · exact .inl h
  · exact .inr ⟨g, cap, cur, e, hb g (by rw [e]; rfl), r⟩
/-- the loop's state: the list so far -/
def PendRel (w w1 : World) (xs ys : List Int) (k : Nat) (s3 : Value) (wr : World) : Prop := ∃ m, m ≤ k ∧ Own 3 1 wr (w.heap.size + 1) s3 m (pendTo xs ys k) ∧ Below w.heap.size w wr ∧ Below (w.heap.size + 1) w1 wr
set_option maxHeartbeats 3200000 in
theorem implPend_any (K : Nat) (A : Option Addr) (n c : Nat) (B : Option Addr) (m d : Nat) (xs ys : List Int) (v : Int) (w : World) (h : Buf w K A n c B m d xs ys) (hK : K ≤ w.heap.size) :
    Calls Try.prog 20 #[.agg #[.slice A n c, .slice B m d, .int .i64 v]] w (Made (pendS xs ys v) w) := by
  obtain ⟨i0, hi, hz0, hz1, hz2⟩ := info_parts int_info
  have hb0 := hide (((Below.refl w.heap.size w).alloc (Nat.le_refl _) (.cells #[.slice A n c, .slice B m d, .int .i64 v] 27)))
  have H := hide (h.below hb0.out hK)
  have hxl := hide h.1.1
  have hnn := h.2.2.1
  have hmm := h.2.2.2.1
  clear h
  cases hv : validB xs ys v
  case false =>
    have hs := hide (show pendS xs ys v = [] by simp [pendS, hv])
    go_enter Try.func20, Try.ntmps20
    go_wp2_with fail
    refine (implValid_any K A n c B m d xs ys v _ H.out (by simp; omega)).mono ?_
    rintro e w1 ⟨rfl, hb⟩
    have HZ := hide (hb0.out.trans (hb.mono (by simp)))
    clear hb
    go_wp2
    go_ret
    exact made_nilS hs.out HZ.out
  case true =>
    have hs := hide (show pendS xs ys v = pendTo xs ys n by rw [← hxl.out]; exact if_pos hv)
    obtain ⟨_, hyx, _, _, _, _⟩ := validB_iff.1 hv
    have hyl := hide (show ys.length = n by rw [hyx]; exact hxl.out)
    clear hyx
    go_enter Try.func20, Try.ntmps20
    go_wp2_with fail
    refine (implValid_any K A n c B m d xs ys v _ H.out (by simp; omega)).mono ?_
    rintro e w1 ⟨rfl, hb⟩
    have HZ := hide (hb0.out.trans (hb.mono (by simp)))
    have HA := hide (H.out.1.below hb (by simp; omega))
    have HB := hide (H.out.2.1.below hb (by simp; omega))
    have hmn : m = n := by have := H.out.2.1.1; have := hyl.out; omega
    subst hmn
    have hz1' : w.heap.size + 1 ≤ w1.heap.size := by have := hb.size; simpa using this
    have k0 : w1.cell? ⟨w.heap.size, 0, none⟩ = some (.slice A m c) := (hb.cell (p := ⟨w.heap.size, 0, none⟩) (by simp)).trans (by simp)
    have k1 : w1.cell? ⟨w.heap.size, 1, none⟩ = some (.slice B m d) := (hb.cell (p := ⟨w.heap.size, 1, none⟩) (by simp)).trans (by simp)
    clear hb H
    have hmk := mk_ints0 m (by omega)
    have n0 := fun X => (World.cell?_alloc_lt w1 X ⟨w.heap.size, 0, none⟩ (by show w.heap.size < w1.heap.size; omega)).trans k0
    go_wp2_with fail
    clear hv
    clear hmk n0
    have HS := hide (show PendRel w w1 xs ys 0 (.slice (some ⟨w1.heap.size, 0, none⟩) 0 m) (w1.alloc (.cells (madeCells #[.int .i64 0] m) 3)) from
      ⟨0, Nat.le_refl _, Own.made 3 1 w1 (madeCells #[.int .i64 0] m) m (w.heap.size + 1) hz1' (by omega) (by rw [size_madeCells, Nat.mul_one]), HZ.out.alloc (by omega) _, ⟨rfl, rfl, rfl, by simp, fun i hi => Below.heap_alloc _ _ _ (by omega)⟩⟩)
    generalize w1.alloc (.cells (madeCells #[.int .i64 0] m) 3) = W0 at HS ⊢
    go_loopw [3, 4, 5, 16] (fun s3 _ _ s16 wr => ∃ k : Nat, k ≤ m ∧ s16 = .int .i64 k ∧ Hid (PendRel w w1 xs ys k s3 wr)) (fun _ _ _ s16 _ => m - (intOf s16).toNat)
    case atStart => exact ⟨0, Nat.zero_le _, rfl, HS⟩
    case round =>
      obtain ⟨k, hk, rfl, R⟩ := hrel
      clear HS
      obtain ⟨j, hj, ho, hbw, hbx⟩ := R.out
      obtain ⟨A3, c3, hv3, hc1, hc2, _⟩ := ho.form
      subst hv3
      have HO2 := hide ho
      have HW := hide hbw
      have HX := hide hbx
      have hzx := hbx.size
      have hzw := hbw.size
      have q0 := (hbx.cell (p := ⟨w.heap.size, 0, none⟩) (by show w.heap.size < w.heap.size + 1; omega)).trans k0
      have q1 := (hbx.cell (p := ⟨w.heap.size, 1, none⟩) (by show w.heap.size < w.heap.size + 1; omega)).trans k1
      clear ho hbw hbx R
      by_cases hlt : k < m
      · obtain ⟨b1, o1, rfl, hb1, hcell1⟩ := HA.out.2.2 (by omega)
        obtain ⟨b2, o2, rfl, hb2, hcell2⟩ := HB.out.2.2 (by omega)
        have e1 := (HX.out.cell (p := ⟨b1, o1 + k, none⟩) (by show b1 < w.heap.size + 1; omega)).trans (hcell1 k hlt)
        have e2 := (HX.out.cell (p := ⟨b2, o2 + k, none⟩) (by show b2 < w.heap.size + 1; omega)).trans (hcell2 k hlt)
        have hlti : (k : Int) < (m : Int) := by omega
        have HT := hide (show pendTo xs ys (k + 1) = if xs.getD k 0 = ys.getD k 0 then pendTo xs ys k else pendTo xs ys k ++ [(k : Int)] from rfl)
        clear hcell1 hcell2
        generalize xs.getD k 0 = x at e1 HT
        generalize ys.getD k 0 = y at e2 HT
        by_cases hxy : x = y
        · subst hxy
          have D := hide (show PendRel w w1 xs ys (k + 1) (.slice A3 j c3) wr from ⟨j, by omega, by rw [HT.out, if_pos rfl]; exact HO2.out, HW.out, HX.out⟩)
          go_wp2
          go_roundw
          case rel => exact ⟨k + 1, by omega, by go_num, D⟩
          case measure => simp [intOf]; omega
        · have f1 : (x == y) = false := by simpa using hxy
          have f2 : (x != y) = true := by simpa using hxy
          have HN := hide (show pendTo xs ys (k + 1) = pendTo xs ys k ++ [(k : Int)] by rw [HT.out, if_neg hxy])
          go_wp2_with (at_builtin; refine wpList_push rfl (.tmp 28) (.tmp 30) 22 3 1 8 i0 _ rfl Try.underlying22 hi hz0 hz1 hz2 rfl (by omega) (by omega) wr (w.heap.size + 1) (.slice A3 j c3) j _ rfl HO2.out [(k : Int)] 1 1 rfl rfl (by omega) (by omega) ?_; intro v1 w1' ho1 hb1' hg1 hv1; have D := hide (show PendRel w w1 xs ys (k + 1) v1 w1' from ⟨j + 1, by omega, by rw [HN.out]; exact ho1, HW.out.trans (hb1'.mono (by omega)), HX.out.trans hb1'⟩); clear ho1 hb1' hg1 hv1)
          go_roundw
          case rel => exact ⟨k + 1, by omega, by go_num, D⟩
          case measure => simp [intOf]; omega
      · obtain rfl : k = m := by omega
        have D := hide (show Made (pendS xs ys v) w (.returned (.slice A3 j j)) wr from by
          obtain ⟨A4, c4, e4, _, _, hr4⟩ := HO2.out.form
          injection e4 with e5 e6 e7
          subst e5 e7
          rw [Nat.mul_one] at hr4
          rw [hs.out]
          exact ⟨A3, j, j, rfl, by omega, by omega, hr4.mono (by omega) (Nat.le_refl _), HW.out⟩)
        clear hs
        go_wp2
        go_ret
        exact D.out
set_option maxHeartbeats 3200000 in
theorem specPend_any (K : Nat) (A : Option Addr) (n c : Nat) (B : Option Addr) (m d : Nat) (xs ys : List Int) (v : Int) (w : World) (h : Buf w K A n c B m d xs ys) (hK : K ≤ w.heap.size) :
    Calls Try.prog 19 #[.agg #[.slice A n c, .slice B m d, .int .i64 v]] w (Made (pendS xs ys v) w) := by
  obtain ⟨i0, hi, hz0, hz1, hz2⟩ := info_parts int_info
  have hb0 := hide (((Below.refl w.heap.size w).alloc (Nat.le_refl _) (.cells #[.slice A n c, .slice B m d, .int .i64 v] 27)).alloc (by simp) (.cells #[] 3))
  have H := hide (h.below hb0.out hK)
  have hxl := hide h.1.1
  have hnn := h.2.2.1
  have hmm := h.2.2.2.1
  clear h
  cases hv : validB xs ys v
  case false =>
    have hs := hide (show pendS xs ys v = [] by simp [pendS, hv])
    go_enter Try.func19, Try.ntmps19
    go_wp2_with fail
    refine (specValidIn_any K A n c B m d xs ys v _ H.out (by simp; omega)).mono ?_
    rintro e w1 ⟨rfl, hb⟩
    have HZ := hide (hb0.out.trans (hb.mono (by simp; omega)))
    clear hb
    go_wp2
    go_ret
    exact made_nilS hs.out HZ.out
  case true =>
    have hs := hide (show pendS xs ys v = pendTo xs ys n by rw [← hxl.out]; exact if_pos hv)
    obtain ⟨_, hyx, _, _, _, _⟩ := validB_iff.1 hv
    have hyl := hide (show ys.length = n by rw [hyx]; exact hxl.out)
    clear hyx
    go_enter Try.func19, Try.ntmps19
    go_wp2_with fail
    refine (specValidIn_any K A n c B m d xs ys v _ H.out (by simp; omega)).mono ?_
    rintro e w1 ⟨rfl, hb⟩
    have HZ := hide (hb0.out.trans (hb.mono (by simp; omega)))
    have HA := hide (H.out.1.below hb (by simp; omega))
    have HB := hide (H.out.2.1.below hb (by simp; omega))
    have hmn : m = n := by have := H.out.2.1.1; have := hyl.out; omega
    subst hmn
    have hz1' : w.heap.size + 2 ≤ w1.heap.size := by have := hb.size; simpa using this
    have k0 : w1.cell? ⟨w.heap.size, 0, none⟩ = some (.slice A m c) := (hb.cell (p := ⟨w.heap.size, 0, none⟩) (by simp; omega)).trans (by simp)
    have k1 : w1.cell? ⟨w.heap.size, 1, none⟩ = some (.slice B m d) := (hb.cell (p := ⟨w.heap.size, 1, none⟩) (by simp; omega)).trans (by simp)
    have HO := hide ((Own.made 3 1 (w.alloc (.cells #[.slice A m c, .slice B m d, .int .i64 v] 27)) #[] 0 w.heap.size (by simp) (by omega) rfl).keep hb)
    clear hb H
    go_wp2_with fail
    clear hv
    have HS := hide (show PendRel w w1 xs ys 0 (.slice (some ⟨w.heap.size + 1, 0, none⟩) 0 0) w1 from
      ⟨0, Nat.le_refl _, by simpa [pendTo] using HO.out.rebase (base' := w.heap.size + 1) (by intro j hj; simp [Value.ownBlock] at hj; omega), HZ.out, Below.refl _ _⟩)
    go_loopw [3, 4] (fun s3 s4 wr => ∃ k : Nat, k ≤ m ∧ s4 = .int .i64 k ∧ Hid (PendRel w w1 xs ys k s3 wr)) (fun _ s4 _ => m - (intOf s4).toNat)
    case atStart => exact ⟨0, Nat.zero_le _, rfl, HS⟩
    case round =>
      obtain ⟨k, hk, rfl, R⟩ := hrel
      clear HS
      obtain ⟨j, hj, ho, hbw, hbx⟩ := R.out
      obtain ⟨A3, c3, hv3, hc1, hc2, _⟩ := ho.form
      subst hv3
      have HO2 := hide ho
      have HW := hide hbw
      have HX := hide hbx
      have hzx := hbx.size
      have hzw := hbw.size
      have q0 := (hbx.cell (p := ⟨w.heap.size, 0, none⟩) (by show w.heap.size < w.heap.size + 1; omega)).trans k0
      have q1 := (hbx.cell (p := ⟨w.heap.size, 1, none⟩) (by show w.heap.size < w.heap.size + 1; omega)).trans k1
      clear ho hbw hbx R
      by_cases hlt : k < m
      · obtain ⟨b1, o1, rfl, hb1, hcell1⟩ := HA.out.2.2 (by omega)
        obtain ⟨b2, o2, rfl, hb2, hcell2⟩ := HB.out.2.2 (by omega)
        have e1 := (HX.out.cell (p := ⟨b1, o1 + k, none⟩) (by show b1 < w.heap.size + 1; omega)).trans (hcell1 k hlt)
        have e2 := (HX.out.cell (p := ⟨b2, o2 + k, none⟩) (by show b2 < w.heap.size + 1; omega)).trans (hcell2 k hlt)
        have hlti : (k : Int) < (m : Int) := by omega
        have HT := hide (show pendTo xs ys (k + 1) = if xs.getD k 0 = ys.getD k 0 then pendTo xs ys k else pendTo xs ys k ++ [(k : Int)] from rfl)
        clear hcell1 hcell2
        generalize xs.getD k 0 = x at e1 HT
        generalize ys.getD k 0 = y at e2 HT
        by_cases hxy : x = y
        · subst hxy
          have D := hide (fun nq : Nat => (show PendRel w w1 xs ys (k + 1) (.slice A3 j c3) (wr.drewN nq) from ⟨j, by omega, by rw [HT.out, if_pos rfl]; exact HO2.out, below_drewN HW.out _, below_drewN HX.out _⟩))
          go_wp2
          go_quiet (fail)
          have D := hide (D.out nq)
          go_wp2
          go_roundw
          case rel => exact ⟨k + 1, by omega, by go_num, D⟩
          case measure => simp [intOf]; omega
        · have f1 : (x == y) = false := by simpa using hxy
          have f2 : (x != y) = true := by simpa using hxy
          have HN := hide (show pendTo xs ys (k + 1) = pendTo xs ys k ++ [(k : Int)] by rw [HT.out, if_neg hxy])
          go_wp2
          go_quiet (fail)
          go_wp2_with (at_builtin; refine wpList_push rfl (.tmp 27) (.tmp 29) 22 3 1 8 i0 _ rfl Try.underlying22 hi hz0 hz1 hz2 rfl (by omega) (by omega) (wr.drewN nq) (w.heap.size + 1) (.slice A3 j c3) j _ rfl HO2.out [(k : Int)] 1 1 rfl rfl (by omega) (by show w.heap.size + 1 ≤ wr.heap.size; omega) ?_; intro v1 w1' ho1 hb1' hg1 hv1; have D := hide (show PendRel w w1 xs ys (k + 1) v1 w1' from ⟨j + 1, by omega, by rw [HN.out]; exact ho1, (below_drewN HW.out nq).trans (hb1'.mono (by omega)), (below_drewN HX.out nq).trans hb1'⟩); clear ho1 hb1' hg1 hv1)
          go_roundw
          case rel => exact ⟨k + 1, by omega, by go_num, D⟩
          case measure => simp [intOf]; omega
      · obtain rfl : k = m := by omega
        have D := hide (show Made (pendS xs ys v) w (.returned (.slice A3 j c3)) wr from by
          obtain ⟨A4, c4, e4, _, _, hr4⟩ := HO2.out.form
          injection e4 with e5 e6 e7
          subst e5 e7
          rw [Nat.mul_one] at hr4
          rw [hs.out]
          exact ⟨A3, j, c3, rfl, by omega, by omega, hr4.mono (by omega) (Nat.le_refl _), HW.out⟩)
        clear hs
        go_wp2
        go_ret
        exact D.out
end Go.Proofs.Ytjaagekckbjhdaa
