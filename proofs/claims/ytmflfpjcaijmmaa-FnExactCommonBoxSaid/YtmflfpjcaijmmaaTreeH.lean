/- Trees: which boxes are dirty: the reference and the program. Conditions: none. -/
import Derived.Test.YtmflfpjcaijmmaaTreeG
namespace Go.Proofs.Ytmflfpjcaijmmaa
open Go.RowKit
set_option linter.unusedVariables false
set_option linter.unusedSimpArgs false
/-- the numbers ahead of k that p picks -/
def pickN (p : Nat → Bool) : Nat → List Int
  | 0 => []
  | k + 1 => pickN p k ++ (if p k then [(k : Int)] else [])
theorem pickN_yes {p : Nat → Bool} {k : Nat} (h : p k = true) : pickN p (k + 1) = pickN p k ++ [(k : Int)] := by rw [pickN, if_pos h]
theorem pickN_no {p : Nat → Bool} {k : Nat} (h : p k = false) : pickN p (k + 1) = pickN p k := by rw [pickN, h]; simp
theorem pickN_len (p : Nat → Bool) (k : Nat) : (pickN p k).length ≤ k := by
  induction k with
  | zero => exact Nat.le_refl _
  | succ k ih => rw [pickN, List.length_append]; split <;> simp <;> omega
theorem pickN_mem {p : Nat → Bool} {k : Nat} {x : Int} (h : x ∈ pickN p k) : 0 ≤ x ∧ x < k := by
  induction k with
  | zero => simp [pickN] at h
  | succ k ih =>
    rw [pickN] at h
    rcases List.mem_append.1 h with h | h
    · have := ih h; omega
    · split at h
      · simp at h; omega
      · simp at h
def covB (xs ms : List Int) (i : Nat) : Bool := ms.any (fun y => arnd xs y i)
def rootB (xs ms : List Int) (i : Nat) : Bool := decide ((i : Int) ∈ ms) && !(ms.any (fun y => y != (i : Int) && arnd xs y i))
noncomputable def marksV (xs : List Int) (n : Nat) (ms : List Int) : Bool := treeV xs n && (decide (ms.length ≤ 16) && inAll ms 0 ((n : Int) - 1))
noncomputable def pickL (p : List Int → List Int → Nat → Bool) (xs : List Int) (n : Nat) (ms : List Int) : List Int := if marksV xs n ms = true then pickN (p xs ms) n else []
theorem pickL_no {p : List Int → List Int → Nat → Bool} {xs : List Int} {n : Nat} {ms : List Int} (h : marksV xs n ms = false) : pickL p xs n ms = [] := by rw [pickL, h]; rfl
theorem pickL_yes {p : List Int → List Int → Nat → Bool} {xs : List Int} {n : Nat} {ms : List Int} (h : marksV xs n ms = true) : pickL p xs n ms = pickN (p xs ms) n := by rw [pickL, if_pos h]
theorem marksV_all {xs : List Int} {n : Nat} {ms : List Int} (h : marksV xs n ms = true) : TreeP xs n ∧ ms.length ≤ 16 ∧ ∀ x ∈ ms, 0 ≤ x ∧ x ≤ (n : Int) - 1 := by
  simp only [marksV, Bool.and_eq_true, decide_eq_true_eq] at h
  exact ⟨treeV_iff.1 h.1, h.2.1, inAll_iff.1 h.2.2⟩
theorem pickL_len {p : List Int → List Int → Nat → Bool} {xs : List Int} {n : Nat} {ms : List Int} : (pickL p xs n ms).length ≤ 17 := by
  cases h : marksV xs n ms
  · rw [pickL_no h]; simp
  · rw [pickL_yes h]
    have h1 := pickN_len (p xs ms) n
    have h2 := (marksV_all h).1.hi
    omega
set_option maxHeartbeats 1000000 in
/-- where the first is of which a function says yes, that may make memory of its own -/
theorem indexFn_any (g : Nat) (lb : Array Value) (eg : ∀ args w, (callFunc g args).run Try.prog w = .ok (.enter g args) w) (p : Int → Bool) (B : Nat) (a : Option Addr) (n c : Nat) (xs : List Int) (w : World)
    (hA : Ints .i64 w B a n xs) (hB : B ≤ w.heap.size) (hn : n ≤ 9223372036854775807) (hp : ∀ x, x ∈ xs → ∀ W, Below w.heap.size w W → Calls Try.prog g (#[.int .i64 x] ++ lb) W fun e w' => e = .returned (.bool (p x)) ∧ Below W.heap.size W w') :
    Calls Try.prog 62 #[.slice a n c, .func (.func g) #[] lb] w fun e w' => (∃ i : Int, (i = -1 ∧ xs.any p = false ∨ ∃ k : Nat, i = k ∧ k < n ∧ (xs.take k).any p = false ∧ p (xs.getD k 0) = true) ∧ e = .returned (.int .i64 i)) ∧ Below w.heap.size w w' := by
  have hl := hide hA.1
  have HA := hide (fun W (h : Below w.heap.size w W) => hA.below h hB)
  have HP := hide hp
  clear hA hp
  go_enter Try.func62, Try.ntmps62
  go_wp2
  go_loopw [5, 8] (fun _ s8 wr => ∃ (k : Nat) (W9 : World), k ≤ n ∧ s8 = .int .i64 k ∧ W9 = wr ∧ Hid ((xs.take k).any p = false) ∧ Hid (Below w.heap.size w W9)) (fun _ s8 _ => n - (intOf s8).toNat)
  case atStart => exact ⟨0, _, Nat.zero_le _, rfl, rfl, hide (by simp), hide (Below.refl _ _)⟩
  case round =>
    obtain ⟨k, W9, hk, rfl, rfl, HN, HB⟩ := hrel
    have hz9 := HB.out.size
    by_cases hlt : k < n
    · obtain ⟨b, off, rfl, _, hcell⟩ := (HA.out _ HB.out).2.2 (by omega)
      have hck := hcell k hlt
      have hkl : k < xs.length := by rw [hl.out]; exact hlt
      have hcall := HP.out (xs.getD k 0) (getD_mem hkl) W9 HB.out
      have HS := hide (any_take_succ (p := p) hkl)
      have hkn : (k : Int) < (n : Int) := by omega
      clear hcell
      obtain ⟨y, hy⟩ : ∃ y, xs.getD k 0 = y := ⟨_, rfl⟩
      have HY := hide hy
      rw [hy] at hck hcall
      clear hy hkl
      cases hq : p y with
      | true =>
        rw [hq] at hcall
        have D := hide (show ∃ i : Int, (i = -1 ∧ xs.any p = false ∨ ∃ k : Nat, i = k ∧ k < n ∧ (xs.take k).any p = false ∧ p (xs.getD k 0) = true) ∧ Ending.returned (.int .i64 (k : Int)) = .returned (.int .i64 i) from ⟨k, .inr ⟨k, rfl, hlt, HN.out, by rw [HY.out]; exact hq⟩, rfl⟩)
        clear hq HS HN
        go_wp2_with (go_at_fn g; refine hcall.mono ?_; rintro e w1 ⟨rfl, hb⟩; have HB1 := hide (HB.out.trans (hb.mono hz9)); clear hb)
        go_ret
        exact ⟨D.out, HB1.out⟩
      | false =>
        rw [hq] at hcall
        have D := hide (show (xs.take (k + 1)).any p = false by rw [HS.out, HN.out, HY.out, hq]; rfl)
        clear hq HS HN
        go_wp2_with (go_at_fn g; refine hcall.mono ?_; rintro e w1 ⟨rfl, hb⟩; have HB1 := hide (HB.out.trans (hb.mono hz9)); clear hb)
        go_roundw
        case rel => exact ⟨k + 1, _, by omega, by go_num, rfl, D, HB1⟩
        case measure => simp [intOf]; omega
    · obtain rfl : n = k := by omega
      have D := hide (show ∃ i : Int, (i = -1 ∧ xs.any p = false ∨ ∃ k : Nat, i = k ∧ k < n ∧ (xs.take k).any p = false ∧ p (xs.getD k 0) = true) ∧ Ending.returned (.int .i64 (-1)) = .returned (.int .i64 i) from ⟨-1, .inl ⟨rfl, by have h := HN.out; rw [← hl.out, List.take_length] at h; exact h⟩, rfl⟩)
      clear HN
      go_wp2
      go_ret
      exact ⟨D.out, HB.out⟩
theorem any_at {xs : List Int} {p : Int → Bool} {n k : Nat} (hl : xs.length = n) (hk : k < n) (h : p (xs.getD k 0) = true) : xs.any p = true := any_hit (by omega) h
theorem containsFn_any (g : Nat) (lb : Array Value) (eg : ∀ args w, (callFunc g args).run Try.prog w = .ok (.enter g args) w) (p : Int → Bool) (B : Nat) (a : Option Addr) (n c : Nat) (xs : List Int) (w : World)
    (hA : Ints .i64 w B a n xs) (hB : B ≤ w.heap.size) (hn : n ≤ 9223372036854775807) (hp : ∀ x, x ∈ xs → ∀ W, Below w.heap.size w W → Calls Try.prog g (#[.int .i64 x] ++ lb) W fun e w' => e = .returned (.bool (p x)) ∧ Below W.heap.size W w') :
    Calls Try.prog 44 #[.slice a n c, .func (.func g) #[] lb] w fun e w' => e = .returned (.bool (xs.any p)) ∧ Below w.heap.size w w' := by
  have hc := hide (indexFn_any g lb eg p B a n c xs w hA hB hn hp)
  have hl := hA.1
  clear hA hp
  go_enter Try.func44, Try.ntmps44
  go_wp2_with fail
  refine hc.out.mono ?_
  rintro e w' ⟨⟨i, hi, rfl⟩, hb⟩
  have HB := hide hb
  clear hb
  rcases hi with ⟨rfl, h⟩ | ⟨k, rfl, hk, _, h⟩
  · go_wp2
    go_ret
    exact ⟨ret_bool h.symm, HB.out⟩
  · have D := hide (any_at hl hk h)
    have hk0 : (0 : Int) ≤ (k : Int) := by omega
    clear h
    go_wp2
    go_ret
    exact ⟨ret_bool D.out.symm, HB.out⟩
set_option maxHeartbeats 1000000 in
theorem specMarks_any (B BM : Nat) (a am : Option Addr) (n c m0 cm : Nat) (xs ms : List Int) (w : World) (hA : Ints .i64 w B a (n * 9) xs) (hM : Ints .i64 w BM am m0 ms) (hB : B ≤ w.heap.size) (hBM : BM ≤ w.heap.size) (hn : n ≤ 1048577) (hm : m0 ≤ 1048577) :
    Calls Try.prog 41 #[.slice a n c, .slice am m0 cm] w fun e w' => e = .returned (.bool (marksV xs n ms)) ∧ Below w.heap.size w w' := by
  have hv := specValid_any B a n c xs w hA hB hn
  have e1 : IntKind.i64.wrap ((n : Int) - 1) = (n : Int) - 1 := IntWalk.i64_in _ (by omega)
  have HAL := hide (fun W (h : Below w.heap.size w W) => specAllIn_any BM am m0 cm ms 0 ((n : Int) - 1) W (hM.below h hBM) (by omega))
  have hl := hM.1
  clear hA hM
  cases h0 : treeV xs n
  case false =>
    rw [h0] at hv
    have D := hide (show marksV xs n ms = false by rw [marksV, h0]; rfl)
    go_enter Try.func41, Try.ntmps41
    go_wp2_with (go_at_call 32; refine hv.mono ?_; rintro e W1 ⟨rfl, hb⟩; have HB := hide hb; clear hb)
    go_ret
    exact ⟨ret_bool D.out.symm, HB.out⟩
  case true =>
    rw [h0] at hv
    by_cases h1 : m0 ≤ 16
    · have h1' : (m0 : Int) ≤ 16 := by omega
      have D := hide (show marksV xs n ms = inAll ms 0 ((n : Int) - 1) by rw [marksV, h0, hl]; simp [h1])
      clear h1
      go_enter Try.func41, Try.ntmps41
      go_wp2_with (first | (go_at_call 32; refine hv.mono ?_; rintro e W1 ⟨rfl, hb⟩; have HB := hide hb; clear hb) | (go_at_call 60; refine (HAL.out _ HB.out).mono ?_; rintro e W2 ⟨rfl, rfl⟩))
      go_ret
      exact ⟨ret_bool D.out.symm, HB.out⟩
    · have h1' : ¬ (m0 : Int) ≤ 16 := by omega
      have D := hide (show marksV xs n ms = false by rw [marksV, h0, hl]; simp [h1])
      clear h1
      go_enter Try.func41, Try.ntmps41
      go_wp2_with (go_at_call 32; refine hv.mono ?_; rintro e W1 ⟨rfl, hb⟩; have HB := hide hb; clear hb)
      go_ret
      exact ⟨ret_bool D.out.symm, HB.out⟩
set_option maxHeartbeats 1000000 in
theorem implMarks_any (B BM : Nat) (a am : Option Addr) (n c m0 cm : Nat) (xs ms : List Int) (w : World) (hA : Ints .i64 w B a (n * 9) xs) (hM : Ints .i64 w BM am m0 ms) (hB : B ≤ w.heap.size) (hBM : BM ≤ w.heap.size) (hn : n ≤ 1048577) (hm : m0 ≤ 1048577) :
    Calls Try.prog 43 #[.slice a n c, .slice am m0 cm] w fun e w' => e = .returned (.bool (marksV xs n ms)) ∧ Below w.heap.size w w' := by
  have hv := implValid_any B a n c xs w hA hB hn
  have e1 : IntKind.i64.wrap ((n : Int) - 1) = (n : Int) - 1 := IntWalk.i64_in _ (by omega)
  have HAL := hide (fun W (h : Below w.heap.size w W) => implAllIn_any BM am m0 cm ms 0 ((n : Int) - 1) W (hM.below h hBM) (by have := h.size; omega) (by omega))
  have hl := hM.1
  clear hA hM
  cases h0 : treeV xs n
  case false =>
    rw [h0] at hv
    have D := hide (show marksV xs n ms = false by rw [marksV, h0]; rfl)
    go_enter Try.func43, Try.ntmps43
    go_wp2_with (go_at_call 56; refine hv.mono ?_; rintro e W1 ⟨rfl, hb⟩; have HB := hide hb; clear hb)
    go_ret
    exact ⟨ret_bool D.out.symm, HB.out⟩
  case true =>
    rw [h0] at hv
    by_cases h1 : m0 ≤ 16
    · have h1' : (m0 : Int) ≤ 16 := by omega
      have D := hide (show marksV xs n ms = inAll ms 0 ((n : Int) - 1) by rw [marksV, h0, hl]; simp [h1])
      clear h1
      go_enter Try.func43, Try.ntmps43
      go_wp2_with (first | (go_at_call 56; refine hv.mono ?_; rintro e W1 ⟨rfl, hb⟩; have HB := hide hb; clear hb) | (go_at_call 61; refine (HAL.out _ HB.out).mono ?_; rintro e W2 ⟨rfl, hb⟩; have HB2 := hide (HB.out.trans (hb.mono HB.out.size)); clear hb))
      go_ret
      exact ⟨ret_bool D.out.symm, HB2.out⟩
    · have h1' : ¬ (m0 : Int) ≤ 16 := by omega
      have D := hide (show marksV xs n ms = false by rw [marksV, h0, hl]; simp [h1])
      clear h1
      go_enter Try.func43, Try.ntmps43
      go_wp2_with (go_at_call 56; refine hv.mono ?_; rintro e W1 ⟨rfl, hb⟩; have HB := hide hb; clear hb)
      go_ret
      exact ⟨ret_bool D.out.symm, HB.out⟩
set_option maxHeartbeats 2000000 in
theorem specCovered_any (B BM : Nat) (a am : Option Addr) (n c m0 cm : Nat) (xs ms : List Int) (w : World) (hA : Ints .i64 w B a (n * 9) xs) (hM : Ints .i64 w BM am m0 ms) (hB : B ≤ w.heap.size) (hBM : BM ≤ w.heap.size) (hn : n ≤ 1048577) (hm : m0 ≤ 1048577) (hT : TreeP xs n) (hpos : ∀ x ∈ ms, 0 ≤ x) :
    Calls Try.prog 42 #[.slice a n c, .slice am m0 cm] w (ListR (pickN (covB xs ms) n) w) := by
  obtain ⟨i0, hi0, hz0, hz1, hz2⟩ := info_parts int_info
  have HA := hide (fun W (h : Below w.heap.size w W) => hA.below h hB)
  have HM := hide (fun W (h : Below w.heap.size w W) => hM.below h hBM)
  have HL := hide hM.1
  have HT := hide hT
  have HPos := hide hpos
  have HS := hide (show Own 3 1 (w.alloc (.cells #[] 3)) w.heap.size (.slice (some ⟨w.heap.size, 0, none⟩) 0 0) 0 [] from Own.made 3 1 w #[] 0 w.heap.size (Nat.le_refl _) (by omega) rfl)
  have HB := hide (show Below w.heap.size w (w.alloc (.cells #[] 3)) from (Below.refl _ _).alloc (Nat.le_refl _) _)
  clear hA hM hT hpos
  go_enter Try.func42, Try.ntmps42
  go_wp2
  generalize w.alloc (.cells #[] 3) = W0 at HS HB ⊢
  go_loopw [5, 6, 7, 8] (fun s5 s6 _ _ wr => ∃ (k m c' : Nat) (A : Option Addr) (ys : List Int) (W9 : World), k ≤ n ∧ m ≤ k ∧ s5 = .slice A m c' ∧ s6 = .int .i64 k ∧ W9 = wr ∧ Hid (ys = pickN (covB xs ms) k) ∧ Hid (Own 3 1 W9 w.heap.size (.slice A m c') m ys) ∧ Hid (Below w.heap.size w W9)) (fun _ s6 _ _ _ => n - (intOf s6).toNat)
  case atStart => exact ⟨0, 0, 0, _, [], _, Nat.zero_le _, Nat.zero_le _, rfl, rfl, rfl, hide rfl, HS, HB⟩
  case round =>
    clear HS HB
    obtain ⟨k, m, c', A, ys, W9, hk, hmk, rfl, rfl, rfl, HY, HO, HB⟩ := hrel
    have hz9 := HB.out.size
    by_cases hlt : k < n
    · have hkn : (k : Int) < (n : Int) := by omega
      go_wp2
      go_loopw [7, 8] (fun s7 s8 wr => ∃ (b : Bool) (j : Nat), j ≤ m0 ∧ s7 = .bool b ∧ s8 = .int .i64 j ∧ W9 = wr ∧ Hid (b = (ms.take j).any (fun y => arnd xs y k))) (fun _ s8 _ => m0 - (intOf s8).toNat)
      case atStart => exact ⟨false, 0, Nat.zero_le _, rfl, rfl, by trivial, hide (by simp)⟩
      case round =>
        obtain ⟨b, j, hj, rfl, rfl, rfl, HD⟩ := hrel
        by_cases hjl : j < m0
        · have hjl' : (j : Int) < (m0 : Int) := by omega
          have hjm : j < ms.length := by rw [HL.out]; exact hjl
          have HN := hide (any_take_succ (p := fun y => arnd xs y k) hjm)
          obtain ⟨bm, om, rfl, hbm9, hcell⟩ := (HM.out _ HB.out).2.2 (by omega)
          have hcj := hcell j hjl
          have hyp := HPos.out _ (getD_mem hjm)
          generalize ms.getD j 0 = y at hcj hyp HN
          have HC := hide (specAround_any B a n c xs y k _ (HA.out _ HB.out) hn hlt HT.out.pre hyp)
          clear hcell hjm
          cases b with
          | true =>
            have D := hide (show true = (ms.take (j + 1)).any (fun y => arnd xs y k) by rw [HN.out, ← HD.out]; rfl)
            clear HN HD
            go_wp2
            go_roundw
            case rel => exact ⟨true, j + 1, by omega, rfl, by go_num, by trivial, D⟩
            case measure => simp [intOf]; omega
          | false =>
            have D := hide (show arnd xs y k = (ms.take (j + 1)).any (fun y => arnd xs y k) by rw [HN.out, ← HD.out]; rfl)
            clear HN HD
            go_wp2_with (go_at_call 37; refine HC.out.mono ?_; rintro e w' ⟨rfl, rfl⟩)
            go_roundw
            case rel => exact ⟨arnd xs y k, j + 1, by omega, rfl, by go_num, by trivial, D⟩
            case measure => simp [intOf]; omega
        · obtain rfl : m0 = j := by omega
          have D0 := hide (show b = covB xs ms k by have h := HD.out; rw [← HL.out, List.take_length] at h; exact h)
          clear HD
          cases b with
          | true =>
            have D := hide (show ys ++ [(k : Int)] = pickN (covB xs ms) (k + 1) by rw [pickN_yes D0.out.symm, HY.out])
            clear HY D0
            go_wp2_with (at_builtin; refine wpList_push rfl (.tmp 33) (.tmp 35) 31 3 1 8 i0 _ rfl Try.underlying31 hi0 hz0 hz1 hz2 rfl (by omega) (by omega) W9 w.heap.size (.slice A m c') m ys rfl HO.out [(k : Int)] 1 1 rfl rfl (by omega) hz9 ?_; intro v1 w1 ho1 hb1 hg1 hv1; obtain ⟨A1, c1, hvv1, _, _, _⟩ := ho1.form; subst hvv1; have HO1 := hide ho1; have HB1 := hide (HB.out.trans hb1); clear ho1 hb1 hg1 hv1)
            go_roundw
            case rel => exact ⟨k + 1, m + 1, _, _, _, _, by omega, by omega, rfl, by go_num, rfl, D, HO1, HB1⟩
            case measure => simp [intOf]; omega
          | false =>
            have D := hide (show ys = pickN (covB xs ms) (k + 1) by rw [pickN_no D0.out.symm, HY.out])
            clear HY D0
            go_wp2
            go_roundw
            case rel => exact ⟨k + 1, m, _, _, _, _, by omega, by omega, rfl, by go_num, rfl, D, HO, HB⟩
            case measure => simp [intOf]; omega
    · obtain rfl : n = k := by omega
      have D := hide (show ListR (pickN (covB xs ms) n) w (.returned (.slice A m c')) W9 by rw [← HY.out]; exact ListR.own HO.out HB.out)
      clear HY HO
      go_wp2
      go_ret
      exact D.out
theorem specDirty_any (B BM : Nat) (a am : Option Addr) (n c m0 cm : Nat) (xs ms : List Int) (w : World) (hA : Ints .i64 w B a (n * 9) xs) (hM : Ints .i64 w BM am m0 ms) (hB : B ≤ w.heap.size) (hBM : BM ≤ w.heap.size) (hn : n ≤ 1048577) (hm : m0 ≤ 1048577) :
    Calls Try.prog 25 #[.slice a n c, .slice am m0 cm] w (ListR (pickL covB xs n ms) w) := by
  have hv := specMarks_any B BM a am n c m0 cm xs ms w hA hM hB hBM hn hm
  have HA := hide (fun W (h : Below w.heap.size w W) => hA.below h hB)
  have HM := hide (fun W (h : Below w.heap.size w W) => hM.below h hBM)
  clear hA hM
  cases h0 : marksV xs n ms
  case false =>
    rw [h0] at hv
    have D := hide (pickL_no (p := covB) h0)
    go_enter Try.func25, Try.ntmps25
    go_wp2_with (go_at_call 41; refine hv.mono ?_; rintro e W1 ⟨rfl, hb⟩; have HB := hide hb; clear hb)
    go_ret
    exact ListR.nil D.out HB.out
  case true =>
    rw [h0] at hv
    have HQ := hide (pickL_yes (p := covB) h0)
    have ht := marksV_all h0
    have HI := hide (fun W (h : Below w.heap.size w W) => specCovered_any B BM a am n c m0 cm xs ms W (HA.out W h) (HM.out W h) (by have := h.size; omega) (by have := h.size; omega) hn hm ht.1 (fun x hx => (ht.2.2 x hx).1))
    clear h0 ht
    go_enter Try.func25, Try.ntmps25
    go_wp2_with (go_at_call 41; refine hv.mono ?_; rintro e W1 ⟨rfl, hb⟩; have HB := hide hb; clear hb)
    refine (HI.out _ HB.out).mono ?_
    rintro e W2 ⟨A, m, c', rfl, hr, hb⟩
    have D := hide (show ListR (pickL covB xs n ms) w (.returned (.slice A m c')) W2 by rw [HQ.out]; exact ⟨A, m, c', rfl, hr.mono HB.out.size (Nat.le_refl _), HB.out.trans (hb.mono HB.out.size)⟩)
    clear hr hb
    go_wp2
    go_ret
    exact D.out
end Go.Proofs.Ytmflfpjcaijmmaa
