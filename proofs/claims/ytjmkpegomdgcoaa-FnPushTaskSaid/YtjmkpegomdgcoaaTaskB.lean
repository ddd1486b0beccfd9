/- The library's functions that the program's queue calls: cloned, searched, clipped. Conditions: none. -/
import Derived.Test.YtjmkpegomdgcoaaTaskR
import Derived.Lib.SliceRun
namespace Go.Proofs.Ytjmkpegomdgcoaa
open Go.RowKit
set_option linter.unusedVariables false
set_option linter.unusedSimpArgs false
theorem Ints.reads3 {w : World} {B n : Nat} {a : Option Addr} {xs : List Int} (h : Ints .i64 w B a (n * 3) xs) : Reads w B 3 a n (iv xs) := by
  refine ⟨by rw [iv_length, h.1], fun hn => ?_⟩
  obtain ⟨b, off, rfl, hb, hc⟩ := h.2.2 (by omega)
  refine ⟨_, rfl, hb, fun j u hu => ?_⟩
  obtain ⟨hj, rfl⟩ := iv_get' hu
  have := hc j (by rw [← h.1]; exact hj)
  rw [← this]
  by_cases h0 : j = 0 <;> simp [Addr.add, h0]
def cmpI (x y : Int) : Int := if x < y then -1 else if y < x then 1 else 0
theorem isNaN_any (x : Int) (w : World) : Calls Try.prog 39 #[.int .i64 x] w fun e w' => e = .returned (.bool false) ∧ w = w' := by
  have h : (x != x) = false := by simp
  go_enter Try.func39, Try.ntmps39
  go_wp2
  go_ret
  exact ⟨rfl, rfl⟩
theorem compare_any (x y : Int) (w : World) : Calls Try.prog 33 #[.int .i64 x, .int .i64 y] w fun e w' => e = .returned (.int .i64 (cmpI x y)) ∧ w = w' := by
  unfold cmpI
  by_cases h1 : x < y
  · rw [if_pos h1]
    go_enter Try.func33, Try.ntmps33
    go_wp2_with (go_at_call 39; refine (isNaN_any _ _).mono ?_; rintro e w' ⟨rfl, rfl⟩)
    go_ret
    exact ⟨rfl, rfl⟩
  · rw [if_neg h1]
    by_cases h2 : y < x
    · rw [if_pos h2]
      go_enter Try.func33, Try.ntmps33
      go_wp2_with (go_at_call 39; refine (isNaN_any _ _).mono ?_; rintro e w' ⟨rfl, rfl⟩)
      go_ret
      exact ⟨rfl, rfl⟩
    · rw [if_neg h2]
      go_enter Try.func33, Try.ntmps33
      go_wp2_with (go_at_call 39; refine (isNaN_any _ _).mono ?_; rintro e w' ⟨rfl, rfl⟩)
      go_ret
      exact ⟨rfl, rfl⟩
theorem pushCmp_any (x y z id : Int) (w : World) : Calls Try.prog 32 #[.agg #[.int .i64 x, .int .i64 y, .int .i64 z], .int .i64 id] w fun e w' => e = .returned (.int .i64 (cmpI x id)) ∧ Below w.heap.size w w' := by
  have D := hide (show Below w.heap.size w (w.alloc (.cells #[.int .i64 x, .int .i64 y, .int .i64 z] 39)) from (Below.refl _ _).alloc (Nat.le_refl _) _)
  go_enter Try.func32, Try.ntmps32
  go_wp2_with (go_at_call 33; refine (compare_any _ _ _).mono ?_; rintro e w' ⟨rfl, rfl⟩)
  go_ret
  exact ⟨rfl, D.out⟩
/-- the place of a task, and whether it is there -/
def Found3 (ts : List Tk) (n : Nat) (id : Int) (w : World) (e : Ending) (w' : World) : Prop :=
  ∃ k : Nat, k ≤ n ∧ (∀ i, i < k → (tk ts i).id < id) ∧ (k < n → id ≤ (tk ts k).id) ∧ e = .returned (.tuple #[.int .i64 k, .bool (decide (k < n ∧ (tk ts k).id = id))]) ∧ Below w.heap.size w w'
set_option maxHeartbeats 2000000 in
theorem bsearch_any (B : Nat) (a : Option Addr) (n c : Nat) (ts : List Tk) (id : Int) (w : World) (hA : Ints .i64 w B a (n * 3) (flat ts)) (hB : B ≤ w.heap.size) (hn : n ≤ 1048577) (hasc : Asc ts) :
    Calls Try.prog 31 #[.slice a n c, .int .i64 id, .func (.func 32) #[] #[]] w (Found3 ts n id w) := by
  have eg : ∀ args w, (callFunc 32 args).run Try.prog w = .ok (.enter 32 args) w := enters_of Try.func32 (by kernel_rfl) rfl
  have HA := hide hA
  have hl := hide (show ts.length = n by have := hA.1; rw [flat_len] at this; omega)
  have HASC := hide (fun i j (h1 : i < j) (h2 : j < n) => asc_at hasc h1 (by rw [hl.out]; exact h2))
  clear hA hasc
  go_enter Try.func31, Try.ntmps31
  go_wp2
  go_loopw [9, 10] (fun s9 s10 wr => ∃ (i j : Nat) (W9 : World), i ≤ j ∧ j ≤ n ∧ s9 = .int .i64 i ∧ s10 = .int .i64 j ∧ W9 = wr ∧ Hid ((∀ q, q < i → (tk ts q).id < id) ∧ ∀ q, j ≤ q → q < n → id ≤ (tk ts q).id) ∧ Hid (Below w.heap.size w W9)) (fun s9 s10 _ => (intOf s10).toNat - (intOf s9).toNat)
  case atStart => exact ⟨0, n, w, by omega, by omega, rfl, rfl, rfl, hide ⟨fun q h => by omega, fun q h1 h2 => by omega⟩, hide (Below.refl _ _)⟩
  case round =>
    obtain ⟨i, j, W9, hij, hjn, rfl, rfl, rfl, HI, HB⟩ := hrel
    have hz9 := HB.out.size
    by_cases hlt : i < j
    · obtain ⟨h, hh⟩ : ∃ h, (i + j) / 2 = h := ⟨_, rfl⟩
      have e1 : ((i : Int) + (j : Int)) / 2 = (h : Int) := by omega
      have h1 : i ≤ h := by omega
      have h2 : h < j := by omega
      have h3 : h < n := by omega
      have h4 : (h : Int) < (n : Int) := by omega
      clear hh
      obtain ⟨b, off, rfl, hbB, hcell⟩ := (HA.out.below HB.out hB).2.2 (by omega)
      have c0 := hcell (h * 3) (by omega)
      have c1 := hcell (h * 3 + 1) (by omega)
      have c2 := hcell (h * 3 + 2) (by omega)
      obtain ⟨q0, q1, q2⟩ := flat_at ts h
      rw [q0] at c0; rw [q1] at c1; rw [q2] at c2
      rw [← Nat.add_assoc] at c1 c2
      have HLO := hide (fun (hx : (tk ts h).id < id) => (⟨fun q hq => by
        by_cases e : q = h
        · rw [e]; exact hx
        · exact Int.lt_trans (HASC.out q h (by omega) h3) hx, HI.out.2⟩ : (∀ q, q < h + 1 → (tk ts q).id < id) ∧ ∀ q, j ≤ q → q < n → id ≤ (tk ts q).id))
      have HHI := hide (fun (hx : ¬ (tk ts h).id < id) => (⟨HI.out.1, fun q hq1 hq2 => by
        by_cases e : q = h
        · rw [e]; omega
        · have := HASC.out h q (by omega) hq2; omega⟩ : (∀ q, q < i → (tk ts q).id < id) ∧ ∀ q, h ≤ q → q < n → id ≤ (tk ts q).id))
      clear q0 q1 q2 hcell HI
      generalize (tk ts h).rank = x1 at c1
      generalize (tk ts h).age = x2 at c2
      obtain ⟨x0, hx0⟩ : ∃ x0, (tk ts h).id = x0 := ⟨_, rfl⟩
      rw [hx0] at c0 HLO HHI
      clear hx0
      have hcall := pushCmp_any x0 x1 x2 id W9
      by_cases hx : x0 < id
      · have D := hide (HLO.out hx)
        rw [cmpI, if_pos hx] at hcall
        clear HLO HHI
        go_wp2_with (go_at_fn 32; refine hcall.mono ?_; rintro e w1 ⟨rfl, hb⟩; have HB1 := hide (HB.out.trans (hb.mono hz9)); clear hb)
        go_roundw
        case rel => exact ⟨h + 1, j, _, by omega, by omega, by go_num, rfl, rfl, D, HB1⟩
        case measure => simp [intOf]; omega
      · have D := hide (HHI.out hx)
        have hcv : ∃ v : Int, cmpI x0 id = v ∧ ¬ v < 0 := ⟨cmpI x0 id, rfl, by unfold cmpI; rw [if_neg hx]; split <;> omega⟩
        obtain ⟨v, hv, hv0⟩ := hcv
        rw [hv] at hcall
        clear HLO HHI hv
        go_wp2_with (go_at_fn 32; refine hcall.mono ?_; rintro e w1 ⟨rfl, hb⟩; have HB1 := hide (HB.out.trans (hb.mono hz9)); clear hb)
        go_roundw
        case rel => exact ⟨i, h, _, by omega, by omega, rfl, rfl, rfl, D, HB1⟩
        case measure => simp [intOf]; omega
    · obtain rfl : i = j := by omega
      have HF := hide (show ∀ W, Below w.heap.size w W → Found3 ts n id w (.returned (.tuple #[.int .i64 i, .bool (decide (i < n ∧ (tk ts i).id = id))])) W from fun W h => ⟨i, hjn, HI.out.1, fun h => HI.out.2 i (Nat.le_refl _) h, rfl, h⟩)
      by_cases hin : i < n
      · obtain ⟨b, off, rfl, hbB, hcell⟩ := (HA.out.below HB.out hB).2.2 (by omega)
        have c0 := hcell (i * 3) (by omega)
        have c1 := hcell (i * 3 + 1) (by omega)
        have c2 := hcell (i * 3 + 2) (by omega)
        obtain ⟨q0, q1, q2⟩ := flat_at ts i
        rw [q0] at c0; rw [q1] at c1; rw [q2] at c2
        rw [← Nat.add_assoc] at c1 c2
        have h4 : (i : Int) < (n : Int) := by omega
        have hge := HI.out.2 i (Nat.le_refl _) hin
        clear q0 q1 q2 hcell HI
        generalize (tk ts i).rank = x1 at c1
        generalize (tk ts i).age = x2 at c2
        generalize (tk ts i).id = x0 at c0 hge HF
        have hcall := pushCmp_any x0 x1 x2 id W9
        by_cases hx : x0 = id
        · rw [show cmpI x0 id = 0 by unfold cmpI; rw [if_neg (by omega), if_neg (by omega)]] at hcall
          have D := hide (fun W h => by have := HF.out W h; rw [show decide (i < n ∧ x0 = id) = true by simp; omega] at this; exact this : ∀ W, Below w.heap.size w W → Found3 ts n id w (.returned (.tuple #[.int .i64 i, .bool true])) W)
          clear HF hx
          go_wp2_with (go_at_fn 32; refine hcall.mono ?_; rintro e w1 ⟨rfl, hb⟩; have HB1 := hide (HB.out.trans (hb.mono hz9)); clear hb)
          go_ret2
          exact D.out _ HB1.out
        · rw [show cmpI x0 id = 1 by unfold cmpI; rw [if_neg (by omega), if_pos (by omega)]] at hcall
          have D := hide (fun W h => by have := HF.out W h; rw [show decide (i < n ∧ x0 = id) = false by simp; omega] at this; exact this : ∀ W, Below w.heap.size w W → Found3 ts n id w (.returned (.tuple #[.int .i64 i, .bool false])) W)
          clear HF hx
          go_wp2_with (go_at_fn 32; refine hcall.mono ?_; rintro e w1 ⟨rfl, hb⟩; have HB1 := hide (HB.out.trans (hb.mono hz9)); clear hb)
          go_ret2
          exact D.out _ HB1.out
      · have e5 : decide (i < n) = false := by simp; omega
        have e6 : decide ((i : Int) < (n : Int)) = false := by simp; omega
        have D := hide (show Found3 ts n id w (.returned (.tuple #[.int .i64 i, .bool false])) W9 from by have := HF.out W9 HB.out; rw [show decide (i < n ∧ (tk ts i).id = id) = false by simp; omega] at this; exact this)
        clear HF HI hin
        go_wp2
        go_ret2
        exact D.out
theorem clone_any (B : Nat) (a : Option Addr) (n c : Nat) (xs : List Int) (w : World) (hA : Ints .i64 w B a (n * 3) xs) (hB : B ≤ w.heap.size) (hn : n ≤ 1048577) :
    Calls Try.prog 30 #[.slice a n c] w fun e w' => ∃ A' c', e = .returned (.slice A' n c') ∧ Own 39 3 w' w.heap.size (.slice A' n c') n xs ∧ Below w.heap.size w w' := by
  obtain ⟨i0, hi, hz0, hz1, hz2⟩ := info_parts Task_info
  have q22 : ∀ (w : World) (a : Option Addr) (n c n' c' : Nat), (binOp .eql 25 (.slice a n c) (.slice none n' c')).run Try.prog w = .ok (.bool a.isNone) w := fun w a n c n' c' => Lib.run_eql_slice_nil w _ _ a n c n' c' Try.underlying25
  cases a with
  | none =>
    obtain rfl : n = 0 := by
      rcases Nat.eq_zero_or_pos n with h | h
      · exact h
      · obtain ⟨b, off, e, _⟩ := hA.2.2 (by omega)
        cases e
    obtain rfl : xs = [] := List.eq_nil_of_length_eq_zero (by have := hA.1; omega)
    have D := hide (show Own 39 3 w w.heap.size (.slice none 0 0) 0 [] from Own.nil _ _ _ _)
    clear hA
    go_enter Try.func30, Try.ntmps30
    go_wp2
    go_ret
    exact ⟨none, 0, rfl, D.out, Below.refl _ _⟩
  | some ad =>
    have hb0 : Below w.heap.size w (w.alloc (.cells #[] 39)) := (Below.refl _ _).alloc (Nat.le_refl _) _
    have HR := hide ((hA.below hb0 hB).reads3)
    have HO := hide (Own.made 39 3 w #[] 0 w.heap.size (Nat.le_refl _) (by omega) rfl)
    have HB := hide hb0
    clear hA hb0
    go_enter Try.func30, Try.ntmps30
    go_wp2_with (at_builtin; refine wpList_join rfl (.tmp 5) (.tmp 6) 25 39 3 24 i0 _ rfl Try.underlying25 hi hz0 hz1 hz2 rfl (by omega) (by omega) (w.alloc (.cells #[] 39)) w.heap.size (.slice (some ⟨w.heap.size, 0, none⟩) 0 0) 0 [] rfl HO.out B (some ad) xs n c rfl HR.out (by omega) (by simp) ?_; intro v1 w1 ho1 hb1 hg1 hv1; have D := hide (show ∃ A' c', v1 = .slice A' n c' ∧ Own 39 3 w1 w.heap.size v1 n xs ∧ Below w.heap.size w w1 from by rw [Nat.zero_add, List.nil_append] at ho1; obtain ⟨A', c', e, _⟩ := ho1.form; exact ⟨A', c', e, ho1, HB.out.trans hb1⟩); clear ho1 hb1 hg1 hv1)
    obtain ⟨A', c', rfl, h1, h2⟩ := D.out
    have D1 := hide h1
    have D2 := hide h2
    clear D h1 h2
    go_ret
    exact ⟨A', c', rfl, D1.out, D2.out⟩
end Go.Proofs.Ytjmkpegomdgcoaa
