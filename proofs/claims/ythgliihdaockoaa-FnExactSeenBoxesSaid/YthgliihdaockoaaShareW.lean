/- The reference's share of a number by weights: the walk. Conditions: none. -/
import Derived.Test.YthgliihdaockoaaShareS
namespace Go.Proofs.Ythgliihdaockoaa
open Go.RowKit
set_option linter.unusedVariables false
set_option linter.unusedSimpArgs false
/-- two rows of the call's own -/
structure Two (w : World) (n : Nat) (f g : Nat → Int) (wr : World) : Prop where
  a : RowF wr w.heap.size n f
  b : RowF wr (w.heap.size + 1) n g
  below : Below w.heap.size w wr
  size : w.heap.size + 2 ≤ wr.heap.size
theorem two_start (w : World) (n : Nat) : Two w n (fun _ => 0) (fun _ => 0) ((w.alloc (.cells (madeCells #[.int .i64 0] n) 3)).alloc (.cells (madeCells #[.int .i64 0] n) 3)) where
  a := (rowF_alloc w n).belowS ((Below.refl _ _).alloc (Nat.le_refl _) _)
  b := by
    have h := rowF_alloc (w.alloc (.cells (madeCells #[.int .i64 0] n) 3)) n
    rw [show (w.alloc (.cells (madeCells #[.int .i64 0] n) 3)).heap.size = w.heap.size + 1 by simp] at h
    exact h
  below := ((Below.refl _ _).alloc (Nat.le_refl _) _).alloc (by simp) _
  size := by simp
theorem Two.putA {w wr : World} {n j : Nat} {f g : Nat → Int} (h : Two w n f g wr) (hj : j < n) (x : Int) : Two w n (fun i => if i = j then x else f i) g (wr.setCell ⟨w.heap.size, j, none⟩ (.int .i64 x)) where
  a := h.a.put hj x
  b := h.b.other (by show w.heap.size ≠ w.heap.size + 1; omega) _
  below := h.below.setCell (Nat.le_refl _) _
  size := by simpa [World.setCell] using h.size
theorem Two.putB {w wr : World} {n j : Nat} {f g : Nat → Int} (h : Two w n f g wr) (hj : j < n) (x : Int) : Two w n f (fun i => if i = j then x else g i) (wr.setCell ⟨w.heap.size + 1, j, none⟩ (.int .i64 x)) where
  a := h.a.other (by show w.heap.size + 1 ≠ w.heap.size; omega) _
  b := h.b.put hj x
  below := h.below.setCell (Nat.le_succ _) _
  size := by simpa [World.setCell] using h.size
theorem Two.congr {w wr : World} {n : Nat} {f g f' g' : Nat → Int} (h : Two w n f g wr) (hf : ∀ i, i < n → f i = f' i) (hg : ∀ i, i < n → g i = g' i) : Two w n f' g' wr :=
  ⟨h.a.congr hf, h.b.congr hg, h.below, h.size⟩
theorem Two.drewN {w wr : World} {n : Nat} {f g : Nat → Int} (h : Two w n f g wr) (m : Nat) : Two w n f g (wr.drewN m) :=
  ⟨h.a.drewN m, h.b.drewN m, below_drewN h.below m, h.size⟩
theorem Two.made {w wr : World} {n : Nat} {f g : Nat → Int} {xs : List Int} (h : Two w n f g wr) (hx : fl n f = xs) (hn : n ≤ 1099511627776) : Made xs w (.returned (.slice (some ⟨w.heap.size, 0, none⟩) n n)) wr :=
  ⟨_, n, n, rfl, Nat.le_refl _, by omega, hx ▸ h.a.row (Nat.le_refl _) (by have := h.size; omega), h.below⟩
/-- the first k of a function, then 0 -/
def upTo (f : Nat → Int) (k i : Nat) : Int := if i < k then f i else 0
theorem upTo_next (f : Nat → Int) (k i : Nat) : (if i = k then f k else upTo f k i) = upTo f (k + 1) i := by
  unfold upTo
  by_cases e : i = k
  · subst e; rw [if_pos rfl, if_pos (by omega)]
  · rw [if_neg e]
    by_cases h : i < k
    · rw [if_pos h, if_pos (by omega)]
    · rw [if_neg h, if_neg (by omega)]
theorem upTo_all (f : Nat → Int) {n i : Nat} (hi : i < n) : upTo f n i = f i := if_pos hi
theorem gone_zero (r : Nat → Int) (n i : Nat) : gone r n 0 i = r i := by simp [gone, topR_zero]
theorem given_zero (b r : Nat → Int) (n i : Nat) : given b r n 0 i = b i := by simp [given, topR_zero]
theorem gone_bd {r : Nat → Int} {n k i : Nat} (h : 0 ≤ r i ∧ r i ≤ 1000) : -1 ≤ gone r n k i ∧ gone r n k i ≤ 1000 := by
  unfold gone; split <;> omega
theorem given_bd {b r : Nat → Int} {n k i : Nat} (h : 0 ≤ b i ∧ b i ≤ 2000000) : 0 ≤ given b r n k i ∧ given b r n k i ≤ 2000001 := by
  unfold given; split <;> omega
theorem sort_lt {r : Nat → Int} {n k : Nat} (hk : k < n) : (sortR r n).getD k 0 < n := by
  have h1 : k < (sortR r n).length := by rw [sortR_len]; exact hk
  rw [List.getD_eq_getElem?_getD, List.getElem?_eq_getElem h1, Option.getD_some]
  exact sortR_lt.1 (List.getElem_mem _)

set_option maxHeartbeats 4000000 in
theorem specShare_any (B : Nat) (a : Option Addr) (n c : Nat) (ws : List Int) (s : Int) (w : World) (hA : Ints .i64 w B a n ws) (hB : B ≤ w.heap.size) (hn : n ≤ 8) (hw : WOk ws) (hs : 0 ≤ s ∧ s ≤ 200000) :
    Calls Try.prog 68 #[.int .i64 s, .slice a n c] w (Made (shareL s ws) w) := by
  have hmk := mk_ints n (by omega)
  have hl := hide hA.1
  have T0 := hide (two_start w n)
  have HA := hide (fun W (h : Below w.heap.size w W) => hA.below h hB)
  have HW := hide hw
  have HS0 := hide (show sumI ws = 0 → shareL s ws = fl n (fun _ => 0) from fun h => by
    rw [shareL, if_pos h, hl.out]
    apply List.ext_getElem
    · simp [fl]
    · intro i h1 h2; simp [fl])
  have hsum := hw.sum (by rw [hA.1]; exact hn)
  have hP := hide (fun (h : 0 < sumI ws) => (⟨fun i hi => base_bd hs hw h hi, fun i => rest_bd h i, left_bd h, fun k hk => sumF_base_bd hs hw h (by rw [hA.1]; exact hn) hk⟩ : (∀ i, i < ws.length → 0 ≤ baseW s ws i ∧ baseW s ws i ≤ 2000000) ∧ (∀ i, 0 ≤ restW s ws i ∧ restW s ws i ≤ sumI ws - 1) ∧ (0 ≤ leftW s ws ∧ leftW s ws < ws.length) ∧ ∀ k, k ≤ ws.length → 0 ≤ sumF (baseW s ws) (List.range k) ∧ sumF (baseW s ws) (List.range k) ≤ 16000000))
  have hprod := hide (fun (i : Nat) (hi : i < ws.length) => prod_bd hs (hw.at hi))
  have hfin := hide (fun (h : ¬ sumI ws = 0) => (show fl n (given (baseW s ws) (restW s ws) n (leftW s ws).toNat) = shareL s ws by rw [shareL, if_neg h, hl.out]; exact fl_congr fun i hi => by rw [shareAt, hl.out]; rfl))
  have hleft := hide (show leftW s ws = s - sumF (baseW s ws) (List.range n) by rw [leftW, hl.out])
  have hbr := hide (fun (h : 0 < sumI ws) (i : Nat) (hi : i < ws.length) => (⟨by rw [Int.tdiv_eq_ediv_of_nonneg (prod_bd hs (hw.at hi)).1]; rfl, by rw [Int.tmod_eq_emod_of_nonneg (prod_bd hs (hw.at hi)).1]; rfl⟩ : (s * ws.getD i 0).tdiv (sumI ws) = baseW s ws i ∧ (s * ws.getD i 0).tmod (sumI ws) = restW s ws i))
  have hsm := hw.small
  clear hA hw
  go_enter Try.func68, Try.ntmps68
  go_wp2_with fail
  refine (specSum_any B a n c ws _ (HA.out _ T0.out.below) (by omega) hsm).mono ?_
  rintro e w' ⟨rfl, rfl⟩
  clear hsm hmk
  generalize (w.alloc (.cells (madeCells #[.int .i64 0] n) 3)).alloc (.cells (madeCells #[.int .i64 0] n) 3) = W0 at T0 ⊢
  obtain ⟨S, hS⟩ : ∃ S, sumI ws = S := ⟨_, rfl⟩
  by_cases hS0 : S = 0
  · have D := hide (T0.out.made (HS0.out (hS.trans hS0)).symm (by omega))
    rw [hS] at hsum ⊢
    subst hS0
    clear hS
    go_wp2
    go_ret
    exact D.out
  · obtain ⟨hb1, hr1, ⟨hl0, hl1⟩, hsf⟩ := hP.out (by omega)
    have Hb1 := hide hb1
    have Hr1 := hide hr1
    have Hsf := hide hsf
    have Hbr := hide (hbr.out (by omega))
    have HFN := hide (hfin.out (by omega))
    clear hb1 hr1 hsf hP hbr hfin HS0
    obtain ⟨L, hL⟩ : ∃ L, (leftW s ws).toNat = L := ⟨_, rfl⟩
    have hLi : leftW s ws = (L : Int) := by omega
    rw [hL] at HFN
    have hLn : L < n := by have := hl.out; omega
    have HLI := hide hLi
    clear hl0 hl1 hL hLi
    rw [hS] at hsum Hr1 Hbr ⊢
    have HSS := hide hS
    clear hS
    have hS1 : 0 < S := by omega
    have hSn : (S == 0) = false := by simp; omega
    go_wp2
    go_loopw [8, 9] (fun s8 s9 wr => ∃ (k : Nat) (W9 : World), k ≤ n ∧ s8 = .int .i64 (s - sumF (baseW s ws) (List.range k)) ∧ s9 = .int .i64 k ∧ W9 = wr ∧ Hid (Two w n (upTo (baseW s ws) k) (upTo (restW s ws) k) W9)) (fun _ s9 _ => n - (intOf s9).toNat)
    case atStart => exact ⟨0, _, Nat.zero_le _, by rw [List.range_zero, sumF_nil, Int.sub_zero], rfl, rfl, hide (T0.out.congr (fun i _ => by simp [upTo]) (fun i _ => by simp [upTo]))⟩
    case round =>
      clear T0
      obtain ⟨k, W9, hk, rfl, rfl, rfl, A⟩ := hrel
      by_cases hlt : k < n
      · have hkl : k < ws.length := by have := hl.out; omega
        obtain ⟨b, off, rfl, hbB, hcell⟩ := (HA.out _ A.out.below).2.2 (by omega)
        have hx := hcell k hlt
        have hbx : b < w.heap.size := by omega
        obtain ⟨ha, hfa⟩ := A.out.a.cell hlt
        have hsz := A.out.size
        obtain ⟨p0, p1⟩ := hprod.out k hkl
        obtain ⟨q0, q1⟩ := Hb1.out k hkl
        obtain ⟨r0, r1⟩ := Hr1.out k
        obtain ⟨d1, d2⟩ := Hbr.out k hkl
        obtain ⟨f0, f1⟩ := Hsf.out k (by omega)
        have hnx := hide (sumF_range_succ (baseW s ws) k)
        have A1 := A.out.putA hlt (baseW s ws k)
        obtain ⟨hb, hfb⟩ := A1.b.cell hlt
        have hx1 := (World.cell?_setCell_other W9 ⟨w.heap.size, k, none⟩ ⟨b, off + k, none⟩ (.int .i64 (baseW s ws k)) (fun e => by injection e with e; omega)).trans hx
        have A2 := A1.putB hlt (restW s ws k)
        have hc1 := (A2.a.cell hlt).1
        rw [if_pos rfl] at hc1
        have D := hide (A2.congr (fun i _ => upTo_next (baseW s ws) k i) (fun i _ => upTo_next (restW s ws) k i))
        clear A A1 A2 hcell
        generalize ws.getD k 0 = y at hx hx1 p0 p1 d1 d2
        generalize baseW s ws k = q at *
        generalize restW s ws k = r at *
        generalize upTo (baseW s ws) k k = z1 at *
        generalize upTo (restW s ws) k k = z2 at *
        generalize hF : sumF (baseW s ws) (List.range k) = F at *
        have e1 : IntKind.i64.wrap (s * y) = s * y := IntWalk.i64_in _ (by omega)
        have e2 : IntKind.i64.wrap q = q := IntWalk.i64_in _ (by omega)
        have e3 : IntKind.i64.wrap r = r := IntWalk.i64_in _ (by omega)
        have e4 : IntKind.i64.wrap (s - F - q) = s - F - q := IntWalk.i64_in _ (by omega)
        go_wp2
        go_roundw
        case rel => exact ⟨k + 1, _, by omega, by rw [hnx.out]; exact congrArg _ (by omega), by go_num, rfl, D⟩
        case measure => simp [intOf]; omega
      · obtain rfl : k = n := by omega
        rw [← hleft.out, HLI.out]
        have A0 := hide (A.out.congr (f' := given (baseW s ws) (restW s ws) k 0) (g' := gone (restW s ws) k 0) (fun i hi => by rw [upTo_all _ hi, given_zero]) (fun i hi => by rw [upTo_all _ hi, gone_zero]))
        clear A
        go_wp2
        go_loopw [8] (fun s8 wr => ∃ (j : Nat) (W8 : World), j ≤ L ∧ s8 = .int .i64 ((L : Int) - j) ∧ W8 = wr ∧ Hid (Two w k (given (baseW s ws) (restW s ws) k j) (gone (restW s ws) k j) W8)) (fun s8 _ => (intOf s8).toNat)
        case atStart => exact ⟨0, _, Nat.zero_le _, by simp, rfl, A0⟩
        case round =>
          clear A0
          obtain ⟨j, W8, hj, rfl, rfl, A⟩ := hrel
          by_cases hlt2 : j < L
          · have hpos : (0 : Int) < (L : Int) - j := by omega
            go_wp2
            go_loopw [10, 11] (fun s10 s11 wr => ∃ (m i : Nat) (W7 : World), i ≤ k ∧ s10 = .int .i64 m ∧ s11 = .int .i64 i ∧ W7 = wr ∧ Hid (MaxTo (gone (restW s ws) k j) m i) ∧ Hid (Two w k (given (baseW s ws) (restW s ws) k j) (gone (restW s ws) k j) W7)) (fun _ s11 _ => k - (intOf s11).toNat)
            case atStart => exact ⟨0, 1, _, by omega, rfl, rfl, rfl, hide (maxTo_one _), A⟩
            case round =>
              clear A
              obtain ⟨m, i, W7, hi, rfl, rfl, rfl, HM, A⟩ := hrel
              have hmi := HM.out.1
              by_cases hlt3 : i < k
              · obtain ⟨ha, _⟩ := A.out.b.cell hlt3
                obtain ⟨hb, _⟩ := A.out.b.cell (show m < k by omega)
                have hmore := hide (fun h => HM.out.more h)
                have hsame := hide (fun h => HM.out.same h)
                have h3 : (i : Int) < (k : Int) := by omega
                have h4 : (m : Int) < (k : Int) := by omega
                have h5 : m < k := by omega
                clear HM
                generalize gone (restW s ws) k j i = x at ha hmore hsame
                generalize gone (restW s ws) k j m = y at hb hmore hsame
                by_cases hxy : y < x
                · have D := hide (hmore.out hxy)
                  clear hmore hsame
                  go_wp2
                  go_quiet (fail)
                  go_wp2
                  go_roundw
                  case rel => exact ⟨i, i + 1, _, by omega, rfl, by go_num, rfl, D, hide (A.out.drewN _)⟩
                  case measure => simp [intOf]; omega
                · have D := hide (hsame.out hxy)
                  clear hmore hsame
                  go_wp2
                  go_quiet (fail)
                  go_wp2
                  go_roundw
                  case rel => exact ⟨m, i + 1, _, by omega, rfl, by go_num, rfl, D, hide (A.out.drewN _)⟩
                  case measure => simp [intOf]; omega
              · obtain rfl : i = k := by omega
                have ht := maxTo_top (fun i' hi' => (Hr1.out i').1) (show j < i by omega) HM.out
                obtain ⟨ha, hfa⟩ := A.out.a.cell hmi
                have hg := given_bd (b := baseW s ws) (r := restW s ws) (n := i) (k := j) (Hb1.out m (by have := hl.out; omega))
                have A1 := A.out.putA hmi (given (baseW s ws) (restW s ws) i j m + 1)
                obtain ⟨hb, hfb⟩ := A1.b.cell hmi
                have A2 := A1.putB hmi (-1)
                have D := hide (A2.congr (f' := given (baseW s ws) (restW s ws) i (j + 1)) (g' := gone (restW s ws) i (j + 1)) (fun i' _ => by rw [ht]; exact given_next (by omega) i') (fun i' _ => by rw [ht]; exact gone_next (by omega) i'))
                clear ht A A1 A2 HM
                generalize given (baseW s ws) (restW s ws) i j m = v1 at *
                generalize gone (restW s ws) i j m = v2 at *
                have e1 : IntKind.i64.wrap (v1 + 1) = v1 + 1 := IntWalk.i64_in _ (by omega)
                have e2 : IntKind.i64.wrap ((L : Int) - j - 1) = (L : Int) - j - 1 := IntWalk.i64_in _ (by omega)
                go_wp2
                go_roundw
                case rel => exact ⟨j + 1, _, by omega, by congr 1; omega, rfl, D⟩
                case measure => simp [intOf]; omega
          · obtain rfl : j = L := by omega
            have D := hide (A.out.made HFN.out (by omega))
            have hz : ¬ (0 : Int) < (j : Int) - j := by omega
            clear A
            go_wp2
            go_ret
            exact D.out
end Go.Proofs.Ythgliihdaockoaa
