/- SeenParts, the program's and the reference's: what they compute, at all arguments. Conditions: none. -/
import Derived.Test.YteomjfdoagklkaaSums
namespace Go.Proofs.Yteomjfdoagklkaa
open Go.RowKit
set_option linter.unusedVariables false

/-- a part from b on, of size y, is seen by the view v at a -/
def seenC (b y v a : Int) : Prop := 0 < y ∧ b < a + v ∧ a < b + y ∧ 0 < v
instance (b y v a : Int) : Decidable (seenC b y v a) := by unfold seenC; infer_instance
/-- the seen ones of the first k parts -/
def seenTo (v a : Int) (xs : List Int) : Nat → List Int
  | 0 => []
  | k + 1 => if seenC (sumI (xs.take k)) (xs.getD k 0) v a then seenTo v a xs k ++ [(k : Int)] else seenTo v a xs k
theorem seenTo_len (v a : Int) (xs : List Int) (k : Nat) : (seenTo v a xs k).length ≤ k := by
  induction k with
  | zero => exact Nat.le_refl _
  | succ k ih => simp only [seenTo]; split <;> (try rw [List.length_append, List.length_singleton]) <;> omega
def seenOk (xs : List Int) (v a : Int) : Bool := decide (xs.length ≤ 8) && (inAll xs 0 10000 && (inR v 0 200000 && inR a (-200000) 200000))
def seenS (xs : List Int) (v a : Int) : List Int := if seenOk xs v a = true then seenTo v a xs xs.length else []
theorem made_nil {w w' : World} {xs : List Int} (h : xs = []) (hb : Below w.heap.size w w') : Made xs w (.returned (.slice none 0 0)) w' := by
  subst h; exact ⟨none, 0, 0, rfl, Nat.le_refl _, by omega, Row.nil _ _ _ _ _, hb⟩
theorem seen_sum {xs : List Int} (h : inAll xs 0 10000 = true) (hn : xs.length ≤ 8) (k : Nat) : 0 ≤ sumI (xs.take k) ∧ sumI (xs.take k) ≤ 80000 := by
  rw [inAll_iff] at h
  have h0 : ∀ ys : List Int, (∀ y ∈ ys, 0 ≤ y ∧ y ≤ 10000) → 0 ≤ sumI ys ∧ sumI ys ≤ 10000 * ys.length := by
    intro ys
    induction ys with
    | nil => intro _; simp [sumI_nil]
    | cons y ys ih =>
      intro hy
      have h1 := hy y (by simp)
      have h2 := ih (fun z hz => hy z (by simp [hz]))
      rw [sumI_cons, List.length_cons]
      omega
  have h1 := h0 (xs.take k) (fun y hy => h y (List.mem_of_mem_take hy))
  have h2 : (xs.take k).length ≤ 8 := Nat.le_trans (List.length_take_le' _ _) hn
  omega

/-- the loop's state: the list so far, what was there unturned -/
def SeenRel (w : World) (v a : Int) (xs : List Int) (k : Nat) (s7 : Value) (wr : World) : Prop := ∃ m, m ≤ k ∧ Own 3 1 wr w.heap.size s7 m (seenTo v a xs k) ∧ Below w.heap.size w wr

theorem seen_done {w wr : World} {v a : Int} {xs : List Int} {A : Option Addr} {n c m : Nat} (h : Own 3 1 wr w.heap.size (.slice A n c) m (seenTo v a xs xs.length)) (hb : Below w.heap.size w wr) (hok : seenOk xs v a = true) (c' : Nat) (hc : n ≤ c') (hc' : c' ≤ 9223372036854775807) :
    Made (seenS xs v a) w (.returned (.slice A n c')) wr := by
  obtain ⟨A', c1, e, h1, h2, hr⟩ := h.form
  injection e with e1 e2 e3
  subst e1 e2 e3
  rw [Nat.mul_one] at hr
  refine ⟨_, _, _, rfl, hc, hc', ?_, hb⟩
  rw [show seenS xs v a = seenTo v a xs xs.length from if_pos hok]
  exact hr

set_option maxHeartbeats 2000000 in
theorem implSeen_any (B : Nat) (ad : Option Addr) (n c : Nat) (xs : List Int) (v a : Int) (w : World) (hA : Ints .i64 w B ad n xs) (hB : B ≤ w.heap.size) (hnc : n ≤ 1048576) :
    Calls Try.prog 24 #[.slice ad n c, .int .i64 v, .int .i64 a] w (Made (seenS xs v a) w) := by
  obtain ⟨i0, hi, hz0, hz1, hz2⟩ := info_parts int_info
  by_cases h8 : n ≤ 8
  case neg =>
    have D := hide (made_nil (w := w) (show seenS xs v a = [] from if_neg (by simp [seenOk, hA.1, h8])) (Below.refl _ _))
    clear hA
    go_enter Try.func24, Try.ntmps24
    go_wp2
    go_ret
    exact D.out
  case pos =>
    have hl := hide hA.1
    have HA := hide hA
    clear hA
    cases hall : inAll xs 0 10000
    case false =>
      have hs : Hid (seenS xs v a = []) := hide (if_neg (by simp [seenOk, hall]))
      go_enter Try.func24, Try.ntmps24
      go_wp2_with (go_at_call 43; refine (implAllIn_any B _ _ _ xs _ _ _ HA.out hB (by omega)).mono ?_; rintro e w1 ⟨rfl, hb⟩; have HB := hide hb; clear hb)
      go_ret
      exact made_nil hs.out HB.out
    case true =>
      cases hv : inR v 0 200000
      case false =>
        have hs : Hid (seenS xs v a = []) := hide (if_neg (by simp [seenOk, hv]))
        go_enter Try.func24, Try.ntmps24
        go_wp2_with (first
          | (go_at_call 43; refine (implAllIn_any B _ _ _ xs _ _ _ HA.out hB (by omega)).mono ?_; rintro e w1 ⟨rfl, hb⟩; have HB := hide hb; clear hb)
          | (go_at_call 44; refine (sizeOk_any _ _).mono ?_; rintro e w' ⟨rfl, rfl⟩))
        go_ret
        exact made_nil hs.out HB.out
      case true =>
        cases ha : inR a (-200000) 200000
        case false =>
          have hs : Hid (seenS xs v a = []) := hide (if_neg (by simp [seenOk, ha]))
          go_enter Try.func24, Try.ntmps24
          go_wp2_with (first
            | (go_at_call 43; refine (implAllIn_any B _ _ _ xs _ _ _ HA.out hB (by omega)).mono ?_; rintro e w1 ⟨rfl, hb⟩; have HB := hide hb; clear hb)
            | (go_at_call 44; refine (sizeOk_any _ _).mono ?_; rintro e w' ⟨rfl, rfl⟩)
            | (go_at_call 45; refine (placeOk_any _ _).mono ?_; rintro e w' ⟨rfl, rfl⟩))
          go_ret
          exact made_nil hs.out HB.out
        case true =>
          have hok := hide (show seenOk xs v a = true by simp [seenOk, hl.out, h8, hall, hv, ha])
          have hsum := hide (seen_sum hall (by have := hl.out; omega))
          have hel := hide (fun (k : Nat) (hk : k < xs.length) => inAll_iff.1 hall _ (getD_mem hk))
          obtain ⟨v0, v1⟩ := inR_iff.1 hv
          obtain ⟨a0, a1⟩ := inR_iff.1 ha
          go_enter Try.func24, Try.ntmps24
          go_wp2_with (first
            | (go_at_call 43; refine (implAllIn_any B _ _ _ xs _ _ _ HA.out hB (by omega)).mono ?_; rintro e w1 ⟨rfl, hb⟩; have HB := hide hb; have hz := hb.size; clear hb)
            | (go_at_call 44; refine (sizeOk_any _ _).mono ?_; rintro e w' ⟨rfl, rfl⟩)
            | (go_at_call 45; refine (placeOk_any _ _).mono ?_; rintro e w' ⟨rfl, rfl⟩))
          clear hv ha hall
          have HS := hide (show SeenRel w v a xs 0 (.slice (some ⟨w1.heap.size, 0, none⟩) 0 0) (w1.alloc (.cells #[] 3)) from
            ⟨0, Nat.le_refl _, (Own.made 3 1 w1 #[] 0 w.heap.size hz (by omega) rfl), HB.out.alloc hz _⟩)
          go_loopw [7, 8, 9, 10, 32] (fun s7 s8 _ _ s32 wr => ∃ k : Nat, k ≤ n ∧ s8 = .int .i64 (sumI (xs.take k)) ∧ s32 = .int .i64 k ∧ Hid (SeenRel w v a xs k s7 wr)) (fun _ _ _ _ s32 _ => n - (intOf s32).toNat)
          case atStart => exact ⟨0, Nat.zero_le _, rfl, rfl, HS⟩
          case round =>
            obtain ⟨k, hk, rfl, rfl, A⟩ := hrel
            clear HS HB
            obtain ⟨m, hm, ho, hbw⟩ := A.out
            obtain ⟨A7, c7, hv7, hc1, hc2, _⟩ := ho.form
            subst hv7
            have HO := hide ho
            have HW := hide hbw
            clear ho hbw A
            by_cases hlt : k < n
            · obtain ⟨b, off, rfl, hbB, hcell⟩ := HA.out.2.2 (by omega)
              have hck := (HW.out.cell (p := ⟨b, off + k, none⟩) (by show b < w.heap.size; omega)).trans (hcell k hlt)
              obtain ⟨s0, s1⟩ := hsum.out k
              obtain ⟨y0, y1⟩ := hel.out k (by have := hl.out; omega)
              have HN := hide (sumI_take_succ (xs := xs) (k := k) (by have := hl.out; omega))
              have HT := hide (show seenTo v a xs (k + 1) = if seenC (sumI (xs.take k)) (xs.getD k 0) v a then seenTo v a xs k ++ [(k : Int)] else seenTo v a xs k from rfl)
              clear hcell
              generalize xs.getD k 0 = y at hck y0 y1 HN HT
              obtain ⟨t, ht⟩ : ∃ t, sumI (xs.take k) = t := ⟨_, rfl⟩
              rw [ht] at s0 s1
              have HNt := hide (show sumI (xs.take (k + 1)) = t + y by rw [HN.out, ht])
              have HTt := hide (show seenTo v a xs (k + 1) = if seenC t y v a then seenTo v a xs k ++ [(k : Int)] else seenTo v a xs k by rw [HT.out, ht])
              clear HN HT
              have hzw := HW.out.size
              by_cases hc : seenC t y v a
              · have HX := hide (show seenTo v a xs (k + 1) = seenTo v a xs k ++ [(k : Int)] by rw [HTt.out, if_pos hc])
                obtain ⟨c1, c2, c3, c4⟩ := hc
                go_wp2_with (at_builtin; refine wpList_push rfl (.tmp 48) (.tmp 50) 32 3 1 8 i0 _ rfl Try.underlying32 hi hz0 hz1 hz2 rfl (by omega) (by omega) wr w.heap.size (.slice A7 m c7) m _ rfl HO.out [(k : Int)] 1 1 rfl rfl (by omega) hzw ?_; intro v1 w1' ho1 hb1 hg1 hv1; have D := hide (show SeenRel w v a xs (k + 1) v1 w1' from ⟨m + 1, by omega, by rw [HX.out]; exact ho1, HW.out.trans hb1⟩); clear ho1 hb1 hg1 hv1)
                all_goals
                  go_roundw
                  case rel => exact ⟨k + 1, by omega, by rw [HNt.out], by go_num, D⟩
                  case measure => simp [intOf]; omega
              · have D := hide (show SeenRel w v a xs (k + 1) (.slice A7 m c7) wr from ⟨m, by omega, by rw [HTt.out, if_neg hc]; exact HO.out, HW.out⟩)
                have hc' : y ≤ 0 ∨ a + v ≤ t ∨ t + y ≤ a ∨ v ≤ 0 := by unfold seenC at hc; omega
                clear hc
                go_wp2
                all_goals
                  go_roundw
                  case rel => exact ⟨k + 1, by omega, by rw [HNt.out], by go_num, D⟩
                  case measure => simp [intOf]; omega
            · obtain rfl : k = n := by omega
              have D := hide (seen_done (c' := m) (by rw [hl.out]; exact HO.out) HW.out hok.out (Nat.le_refl _) (by omega))
              clear hok hsum hel
              go_wp2_with (go_at_call 46; refine (clipInts_any _ _ _ _ hc1 (by unfold maxLen; omega)).mono ?_; rintro e w' ⟨rfl, rfl⟩)
              go_ret
              exact D.out

set_option maxHeartbeats 2000000 in
theorem specSeen_any (B : Nat) (ad : Option Addr) (n c : Nat) (xs : List Int) (v a : Int) (w : World) (hA : Ints .i64 w B ad n xs) (hB : B ≤ w.heap.size) (hnc : n ≤ 1048576) :
    Calls Try.prog 22 #[.slice ad n c, .int .i64 v, .int .i64 a] w (Made (seenS xs v a) w) := by
  obtain ⟨i0, hi, hz0, hz1, hz2⟩ := info_parts int_info
  have HB := hide (((Below.refl w.heap.size w).alloc (Nat.le_refl _) (.cells #[] 3)))
  by_cases h8 : n ≤ 8
  case neg =>
    have D := hide (made_nil (w := w) (show seenS xs v a = [] from if_neg (by simp [seenOk, hA.1, h8])) HB.out)
    clear hA
    go_enter Try.func22, Try.ntmps22
    go_wp2
    go_ret
    exact D.out
  case pos =>
    have hl := hide hA.1
    have HA := hide (hA.below HB.out hB)
    clear hA
    cases hall : inAll xs 0 10000
    case false =>
      have hs : Hid (seenS xs v a = []) := hide (if_neg (by simp [seenOk, hall]))
      go_enter Try.func22, Try.ntmps22
      go_wp2_with (go_at_call 42; refine (specAllIn_any B _ _ _ xs _ _ _ HA.out (by omega)).mono ?_; rintro e w1 ⟨rfl, rfl⟩)
      go_ret
      exact made_nil hs.out HB.out
    case true =>
      cases hv : inR v 0 200000
      case false =>
        have hs : Hid (seenS xs v a = []) := hide (if_neg (by simp [seenOk, hv]))
        go_enter Try.func22, Try.ntmps22
        go_wp2_with (first
          | (go_at_call 42; refine (specAllIn_any B _ _ _ xs _ _ _ HA.out (by omega)).mono ?_; rintro e w1 ⟨rfl, rfl⟩)
          | (go_at_call 33; refine (inRange_any _ _ _ _).mono ?_; rintro e w' ⟨rfl, rfl⟩))
        go_ret
        exact made_nil hs.out HB.out
      case true =>
        cases ha : inR a (-200000) 200000
        case false =>
          have hs : Hid (seenS xs v a = []) := hide (if_neg (by simp [seenOk, ha]))
          go_enter Try.func22, Try.ntmps22
          go_wp2_with (first
            | (go_at_call 42; refine (specAllIn_any B _ _ _ xs _ _ _ HA.out (by omega)).mono ?_; rintro e w1 ⟨rfl, rfl⟩)
            | (go_at_call 33; refine (inRange_any _ _ _ _).mono ?_; rintro e w' ⟨rfl, rfl⟩))
          go_ret
          exact made_nil hs.out HB.out
        case true =>
          have hok := hide (show seenOk xs v a = true by simp [seenOk, hl.out, h8, hall, hv, ha])
          have hsum := hide (seen_sum hall (by have := hl.out; omega))
          have hel := hide (fun (k : Nat) (hk : k < xs.length) => inAll_iff.1 hall _ (getD_mem hk))
          obtain ⟨v0, v1⟩ := inR_iff.1 hv
          obtain ⟨a0, a1⟩ := inR_iff.1 ha
          have HS := hide (show SeenRel w v a xs 0 (.slice (some ⟨w.heap.size, 0, none⟩) 0 0) (w.alloc (.cells #[] 3)) from
            ⟨0, Nat.le_refl _, (Own.made 3 1 w #[] 0 w.heap.size (Nat.le_refl _) (by omega) rfl), HB.out⟩)
          go_enter Try.func22, Try.ntmps22
          go_wp2_with (first
            | (go_at_call 42; refine (specAllIn_any B _ _ _ xs _ _ _ HA.out (by omega)).mono ?_; rintro e w1 ⟨rfl, rfl⟩)
            | (go_at_call 33; refine (inRange_any _ _ _ _).mono ?_; rintro e w' ⟨rfl, rfl⟩))
          clear hv ha hall
          go_loopw [7, 8, 9] (fun s7 s8 s9 wr => ∃ k : Nat, k ≤ n ∧ s8 = .int .i64 (sumI (xs.take k)) ∧ s9 = .int .i64 k ∧ Hid (SeenRel w v a xs k s7 wr)) (fun _ _ s9 _ => n - (intOf s9).toNat)
          case atStart => exact ⟨0, Nat.zero_le _, rfl, rfl, HS⟩
          case round =>
            obtain ⟨k, hk, rfl, rfl, A⟩ := hrel
            clear HS
            obtain ⟨m, hm, ho, hbw⟩ := A.out
            obtain ⟨A7, c7, hv7, hc1, hc2, _⟩ := ho.form
            subst hv7
            have HO := hide ho
            have HW := hide hbw
            clear ho hbw A
            by_cases hlt : k < n
            · obtain ⟨b, off, rfl, hbB, hcell'⟩ := HA.out.2.2 (by omega)
              have hcell := fun (i : Nat) hi => (HB.out.cell (p := ⟨b, off + i, none⟩) (by show b < w.heap.size; omega)).symm.trans (hcell' i hi)
              have hck := (HW.out.cell (p := ⟨b, off + k, none⟩) (by show b < w.heap.size; omega)).trans (hcell k hlt)
              obtain ⟨s0, s1⟩ := hsum.out k
              obtain ⟨y0, y1⟩ := hel.out k (by have := hl.out; omega)
              have HN := hide (sumI_take_succ (xs := xs) (k := k) (by have := hl.out; omega))
              have HT := hide (show seenTo v a xs (k + 1) = if seenC (sumI (xs.take k)) (xs.getD k 0) v a then seenTo v a xs k ++ [(k : Int)] else seenTo v a xs k from rfl)
              clear hcell hcell'
              generalize xs.getD k 0 = y at hck y0 y1 HN HT
              obtain ⟨t, ht⟩ : ∃ t, sumI (xs.take k) = t := ⟨_, rfl⟩
              rw [ht] at s0 s1
              have HNt := hide (show sumI (xs.take (k + 1)) = t + y by rw [HN.out, ht])
              have HTt := hide (show seenTo v a xs (k + 1) = if seenC t y v a then seenTo v a xs k ++ [(k : Int)] else seenTo v a xs k by rw [HT.out, ht])
              clear HN HT
              have hzw := HW.out.size
              by_cases hc : seenC t y v a
              · have HX := hide (show seenTo v a xs (k + 1) = seenTo v a xs k ++ [(k : Int)] by rw [HTt.out, if_pos hc])
                obtain ⟨c1, c2, c3, c4⟩ := hc
                go_wp2_with (at_builtin; refine wpList_push rfl (.tmp 49) (.tmp 51) 32 3 1 8 i0 _ rfl Try.underlying32 hi hz0 hz1 hz2 rfl (by omega) (by omega) wr w.heap.size (.slice A7 m c7) m _ rfl HO.out [(k : Int)] 1 1 rfl rfl (by omega) hzw ?_; intro v1 w1' ho1 hb1 hg1 hv1; have D := hide (show SeenRel w v a xs (k + 1) v1 w1' from ⟨m + 1, by omega, by rw [HX.out]; exact ho1, HW.out.trans hb1⟩); have hck' := (hb1.cell (p := ⟨b, off + k, none⟩) (by show b < w.heap.size; omega)).trans hck; clear ho1 hb1 hg1 hv1)
                all_goals
                  go_roundw
                  case rel => exact ⟨k + 1, by omega, by rw [HNt.out], by go_num, D⟩
                  case measure => simp [intOf]; omega
              · have D := hide (show SeenRel w v a xs (k + 1) (.slice A7 m c7) wr from ⟨m, by omega, by rw [HTt.out, if_neg hc]; exact HO.out, HW.out⟩)
                have hc' : y ≤ 0 ∨ a + v ≤ t ∨ t + y ≤ a ∨ v ≤ 0 := by unfold seenC at hc; omega
                clear hc
                go_wp2
                all_goals
                  go_roundw
                  case rel => exact ⟨k + 1, by omega, by rw [HNt.out], by go_num, D⟩
                  case measure => simp [intOf]; omega
            · obtain rfl : k = n := by omega
              have D := hide (seen_done (c' := c7) (by rw [hl.out]; exact HO.out) HW.out hok.out hc1 hc2)
              clear hok hsum hel
              go_wp2
              go_ret
              exact D.out

/-! ### plain facts on the seen parts -/
theorem seenS_len (xs : List Int) (v a : Int) : (seenS xs v a).length ≤ 8 := by
  unfold seenS
  split
  · rename_i h
    have h1 := seenTo_len v a xs xs.length
    simp [seenOk] at h
    omega
  · simp
theorem seenS_some {xs : List Int} {v a : Int} (h : (seenS xs v a).length ≠ 0) : seenOk xs v a = true ∧ seenS xs v a = seenTo v a xs xs.length := by
  unfold seenS at h ⊢
  by_cases hk : seenOk xs v a = true
  · rw [if_pos hk]; exact ⟨hk, rfl⟩
  · rw [if_neg hk] at h; simp at h
theorem seenOk_iff {xs : List Int} {v a : Int} : seenOk xs v a = true ↔ xs.length ≤ 8 ∧ inAll xs 0 10000 = true ∧ (0 ≤ v ∧ v ≤ 200000) ∧ -200000 ≤ a ∧ a ≤ 200000 := by
  simp [seenOk, inR]
theorem mem_seenTo {v a : Int} {xs : List Int} {k : Nat} {x : Int} : x ∈ seenTo v a xs k ↔ ∃ i : Nat, i < k ∧ x = i ∧ seenC (sumI (xs.take i)) (xs.getD i 0) v a := by
  induction k with
  | zero => simp [seenTo]
  | succ k ih =>
    simp only [seenTo]
    split
    · rename_i h
      rw [List.mem_append, ih]
      constructor
      · rintro (⟨i, h1, h2⟩ | h1)
        · exact ⟨i, by omega, h2⟩
        · exact ⟨k, by omega, by simpa using h1, h⟩
      · rintro ⟨i, h1, h2, h3⟩
        by_cases e : i = k
        · subst e; exact .inr (by simp [h2])
        · exact .inl ⟨i, by omega, h2, h3⟩
    · rename_i h
      rw [ih]
      constructor
      · rintro ⟨i, h1, h2⟩; exact ⟨i, by omega, h2⟩
      · rintro ⟨i, h1, h2, h3⟩
        by_cases e : i = k
        · subst e; exact absurd h3 h
        · exact ⟨i, by omega, h2, h3⟩
theorem hasI_seenTo {v a : Int} {xs : List Int} {n k : Nat} (hk : k < n) : hasI (seenTo v a xs n) (k : Int) = decide (seenC (sumI (xs.take k)) (xs.getD k 0) v a) := by
  by_cases h : seenC (sumI (xs.take k)) (xs.getD k 0) v a
  · rw [decide_eq_true h, hasI_iff]; exact mem_seenTo.2 ⟨k, hk, rfl, h⟩
  · rw [decide_eq_false h]
    simp only [hasI, decide_eq_false_iff_not]
    intro hm
    obtain ⟨i, _, h2, h3⟩ := mem_seenTo.1 hm
    have : i = k := by omega
    subst this
    exact h h3
/-- ascending -/
def Asc (ys : List Int) : Prop := ∀ i, i + 1 < ys.length → ys.getD i 0 < ys.getD (i + 1) 0
theorem Asc.snoc {ys : List Int} {x : Int} (h : Asc ys) (hx : ∀ y ∈ ys, y < x) : Asc (ys ++ [x]) := by
  intro i hi
  rw [List.length_append, List.length_singleton] at hi
  by_cases e : i + 1 < ys.length
  · have := h i e
    simpa [List.getD_eq_getElem?_getD, List.getElem?_append, e, show i < ys.length by omega] using this
  · have e1 : i + 1 = ys.length := by omega
    have h1 : (ys ++ [x]).getD (i + 1) 0 = x := by simp [List.getD_eq_getElem?_getD, e1]
    have h2 : (ys ++ [x]).getD i 0 = ys.getD i 0 := by simp [List.getD_eq_getElem?_getD, List.getElem?_append, show i < ys.length by omega]
    rw [h1, h2]
    exact hx _ (getD_mem (by omega))
theorem seenTo_asc (v a : Int) (xs : List Int) (k : Nat) : Asc (seenTo v a xs k) := by
  induction k with
  | zero => intro i hi; simp [seenTo] at hi
  | succ k ih =>
    simp only [seenTo]
    split
    · exact ih.snoc fun y hy => by obtain ⟨i, h1, h2, _⟩ := mem_seenTo.1 hy; omega
    · exact ih
theorem seenTo_wide {v a : Int} {xs : List Int} {k : Nat} {x : Int} (h : x ∈ seenTo v a xs k) : x ∈ seenTo (v + 50) a xs k := by
  obtain ⟨i, h1, h2, h3, h4, h5, h6⟩ := mem_seenTo.1 h
  exact mem_seenTo.2 ⟨i, h1, h2, h3, by omega, h5, by omega⟩
/-- how many of the first k are more than 0 -/
def posTo (xs : List Int) : Nat → Int
  | 0 => 0
  | k + 1 => if 0 < xs.getD k 0 then posTo xs k + 1 else posTo xs k
theorem posTo_bd (xs : List Int) (k : Nat) : 0 ≤ posTo xs k ∧ posTo xs k ≤ k := by
  induction k with
  | zero => simp [posTo]
  | succ k ih => simp only [posTo]; split <;> omega
theorem sum_ge {xs : List Int} (h : inAll xs 0 10000 = true) {k : Nat} (hk : k < xs.length) : sumI (xs.take k) + xs.getD k 0 ≤ sumI xs := by
  rw [← sumI_take_succ hk]
  conv => rhs; rw [← List.take_append_drop (k + 1) xs, sumI_append]
  have h0 : ∀ ys : List Int, (∀ y ∈ ys, 0 ≤ y) → 0 ≤ sumI ys := by
    intro ys
    induction ys with
    | nil => intro _; simp [sumI_nil]
    | cons y ys ih => intro hy; have h1 := hy y (by simp); have h2 := ih (fun z hz => hy z (by simp [hz])); rw [sumI_cons]; omega
  have := h0 (xs.drop (k + 1)) (fun y hy => (inAll_iff.1 h y (List.mem_of_mem_drop hy)).1)
  omega
theorem seen_all {xs : List Int} (h : inAll xs 0 10000 = true) (hn : xs.length ≤ 8) {k : Nat} (hk : k ≤ xs.length) : ((seenTo (sumI xs) 0 xs k).length : Int) = posTo xs k := by
  induction k with
  | zero => rfl
  | succ k ih =>
    have h1 := ih (by omega)
    have h2 := (seen_sum h hn k).1
    have h3 := sum_ge h (show k < xs.length by omega)
    have h4 := (inAll_iff.1 h _ (getD_mem (show k < xs.length by omega))).1
    by_cases hc : 0 < xs.getD k 0
    · have : seenC (sumI (xs.take k)) (xs.getD k 0) (sumI xs) 0 := ⟨hc, by omega, by omega, by omega⟩
      simp only [seenTo, posTo, if_pos this, if_pos hc, List.length_append, List.length_singleton]
      omega
    · have : ¬ seenC (sumI (xs.take k)) (xs.getD k 0) (sumI xs) 0 := fun hh => hc hh.1
      simp only [seenTo, posTo, if_neg this, if_neg hc]
      exact h1
theorem inAll_small {xs : List Int} {lo hi : Int} (h : inAll xs lo hi = true) (h1 : -1000000000 ≤ lo) (h2 : hi ≤ 1000000000) : Small 1000000000 xs := fun x hx => by
  have := inAll_iff.1 h x hx; omega
end Go.Proofs.Yteomjfdoagklkaa
