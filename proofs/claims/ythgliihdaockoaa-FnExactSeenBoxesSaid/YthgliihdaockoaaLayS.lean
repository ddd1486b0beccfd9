/- Layout: the reference's share, its slice as long as its list. Conditions: none. -/
import Derived.Test.YthgliihdaockoaaLayP
import Derived.ArgAppend
namespace Go.Proofs.Ythgliihdaockoaa
open Go.RowKit
set_option linter.unusedVariables false
set_option linter.unusedSimpArgs false
def MadeN (xs : List Int) (w : World) (e : Ending) (w' : World) : Prop :=
  ∃ (A : Option Addr) (n : Nat), e = .returned (.slice A n n) ∧ Row 3 w' w.heap.size w'.heap.size A n xs ∧ Below w.heap.size w w'
theorem Two.madeN {w wr : World} {n : Nat} {f g : Nat → Int} {xs : List Int} (h : Two w n f g wr) (hx : fl n f = xs) (hn : n ≤ 1099511627776) : MadeN xs w (.returned (.slice (some ⟨w.heap.size, 0, none⟩) n n)) wr :=
  ⟨_, n, rfl, hx ▸ h.a.row (Nat.le_refl _) (by have := h.size; omega), h.below⟩
/-- append to a slice that is full: the elements move to a row of the call's own -/
theorem wpList_grows {ops : Array Oper} {rest : List Oper} {o : Oper} {a : Act} {Q : Exit → Act → World → Prop} (hgd : o.guard = none) (s x : Operand)
    (ho : o.op = .call { callee := .builtin .append, args := #[s, x], argTypes := #[26, 26] }) (wr : World) (lo hi : Nat) (A : Option Addr) (n : Nat) (xs : List Int) (y : Int) (c : Nat)
    (hs : a.eval s = .slice A n n) (hr : Row 3 wr lo hi A n xs) (hn : 0 < n ∧ n ≤ 1000) (hx : a.eval x = .slice (some ⟨wr.heap.size, 0, none⟩) 1 c)
    (h : ∀ v' w', Own 3 1 w' (wr.heap.size + 1) v' (n + 1) (xs ++ [y]) → Below wr.heap.size wr w' → wpList Try.prog ops Q rest (a.put o.dst v') w') :
    wpList Try.prog ops Q (o :: rest) a (wr.alloc (.cells #[.int .i64 y] 3)) := by
  obtain ⟨i0, hi0, hz0, hz1, hz2⟩ := info_parts int_info
  obtain ⟨g, off, cur, rfl, h1, h2, h3, h4, h5⟩ := hr.2 hn.1
  have hr2 := hr.belowS ((Below.refl wr.heap.size wr).alloc (Nat.le_refl _) (.cells #[.int .i64 y] 3))
  obtain ⟨v', w', hrun, hown, hg⟩ := run_append_arg_grows (P := Try.prog) (w := wr.alloc (.cells #[.int .i64 y] 3)) 26 o.type 3 i0 (.int .i64 0) 1 8 Try.underlying26 hi0 hz0 hz1 hz2 rfl (by omega) ⟨g, off, none⟩ n n (iv xs) (by rw [iv_length, hr.1]; omega)
    (fun j u hj => by
      obtain ⟨hj1, rfl⟩ := iv_get' hj
      have hc := (hr2.cell j (by rw [hr.1] at hj1; exact hj1)).1
      rw [← hc]
      by_cases h0 : j = 0 <;> simp [Addr.add, h0])
    ⟨wr.heap.size, 0, none⟩ 1 c (iv [y]) rfl
    (fun j u hj => by
      obtain ⟨hj1, rfl⟩ := iv_get' hj
      obtain rfl : j = 0 := by simp at hj1; omega
      rw [show (⟨wr.heap.size, 0, none⟩ : Addr).add 0 = ⟨wr.heap.size, 0, none⟩ by simp [Addr.add], cell_of_row _ _ 0 _ _ (0, 0) (heap_alloc_new wr _)]; rfl)
    (by omega) (by unfold maxLen; omega) (by omega)
  refine wpList_plain hgd fun K hK => ?_
  unfold Oper.wp execOp
  simp only [ho, resolve, invoke, builtin, Sem.run_bind, Sem.run_pure, Result.andThen_ok, List.map_toArray, List.map_cons, List.map_nil, hs, hx, hrun]
  refine hK _ _ (h v' w' ?_ ?_)
  · rw [← iv_append] at hown
    have e : (wr.alloc (.cells #[.int .i64 y] 3)).heap.size = wr.heap.size + 1 := by simp
    rw [e] at hown
    exact hown
  · refine ((Below.refl wr.heap.size wr).alloc (Nat.le_refl _) (.cells #[.int .i64 y] 3)).trans ⟨hg.os, hg.tape, hg.output, hg.size, fun k hk => hg.block k (by simp; omega) (by simp)⟩
set_option maxHeartbeats 4000000 in
theorem specShareN_any (B : Nat) (a : Option Addr) (n c : Nat) (ws : List Int) (s : Int) (w : World) (hA : Ints .i64 w B a n ws) (hB : B ≤ w.heap.size) (hn : n ≤ 8) (hw : WOk ws) (hs : 0 ≤ s ∧ s ≤ 200000) :
    Calls Try.prog 68 #[.int .i64 s, .slice a n c] w (MadeN (shareL s ws) w) := by
  have hmk := mk_ints n (by omega)
  have hl := hide hA.1
  have T0 := hide (two_start w n)
  have HA := hide (fun W (h : Below w.heap.size w W) => hA.below h hB)
  have HW := hide hw
  have HS0 := hide (show sumI ws = 0 → shareL s ws = fl n (fun _ => 0) from fun h => by
    rw [shareL, if_pos h, hl.out]
    apply List.ext_getElem
    · simp [fl]
    · intro i h1 h2; simp [fl])
  have hsum := hw.sum (by rw [hA.1]; exact hn)
  have hP := hide (fun (h : 0 < sumI ws) => (⟨fun i hi => base_bd hs hw h hi, fun i => rest_bd h i, left_bd h, fun k hk => sumF_base_bd hs hw h (by rw [hA.1]; exact hn) hk⟩ : (∀ i, i < ws.length → 0 ≤ baseW s ws i ∧ baseW s ws i ≤ 2000000) ∧ (∀ i, 0 ≤ restW s ws i ∧ restW s ws i ≤ sumI ws - 1) ∧ (0 ≤ leftW s ws ∧ leftW s ws < ws.length) ∧ ∀ k, k ≤ ws.length → 0 ≤ sumF (baseW s ws) (List.range k) ∧ sumF (baseW s ws) (List.range k) ≤ 16000000))
  have hprod := hide (fun (i : Nat) (hi : i < ws.length) => prod_bd hs (hw.at hi))
  have hfin := hide (fun (h : ¬ sumI ws = 0) => (show fl n (given (baseW s ws) (restW s ws) n (leftW s ws).toNat) = shareL s ws by rw [shareL, if_neg h, hl.out]; exact fl_congr fun i hi => by rw [shareAt, hl.out]; rfl))
  have hleft := hide (show leftW s ws = s - sumF (baseW s ws) (List.range n) by rw [leftW, hl.out])
  have hbr := hide (fun (h : 0 < sumI ws) (i : Nat) (hi : i < ws.length) => (⟨by rw [Int.tdiv_eq_ediv_of_nonneg (prod_bd hs (hw.at hi)).1]; rfl, by rw [Int.tmod_eq_emod_of_nonneg (prod_bd hs (hw.at hi)).1]; rfl⟩ : (s * ws.getD i 0).tdiv (sumI ws) = baseW s ws i ∧ (s * ws.getD i 0).tmod (sumI ws) = restW s ws i))
  have hsm := hw.small
  clear hA hw
  go_enter Try.func68, Try.ntmps68
  go_wp2_with fail
  refine (specSum_any B a n c ws _ (HA.out _ T0.out.below) (by omega) hsm).mono ?_
  rintro e w' ⟨rfl, rfl⟩
  clear hsm hmk
  generalize (w.alloc (.cells (madeCells #[.int .i64 0] n) 3)).alloc (.cells (madeCells #[.int .i64 0] n) 3) = W0 at T0 ⊢
  obtain ⟨S, hS⟩ : ∃ S, sumI ws = S := ⟨_, rfl⟩
  by_cases hS0 : S = 0
  · have D := hide (T0.out.madeN (HS0.out (hS.trans hS0)).symm (by omega))
    rw [hS] at hsum ⊢
    subst hS0
    clear hS
    go_wp2
    go_ret
    exact D.out
  · obtain ⟨hb1, hr1, ⟨hl0, hl1⟩, hsf⟩ := hP.out (by omega)
    have Hb1 := hide hb1
    have Hr1 := hide hr1
    have Hsf := hide hsf
    have Hbr := hide (hbr.out (by omega))
    have HFN := hide (hfin.out (by omega))
    clear hb1 hr1 hsf hP hbr hfin HS0
    obtain ⟨L, hL⟩ : ∃ L, (leftW s ws).toNat = L := ⟨_, rfl⟩
    have hLi : leftW s ws = (L : Int) := by omega
    rw [hL] at HFN
    have hLn : L < n := by have := hl.out; omega
    have HLI := hide hLi
    clear hl0 hl1 hL hLi
    rw [hS] at hsum Hr1 Hbr ⊢
    have HSS := hide hS
    clear hS
    have hS1 : 0 < S := by omega
    have hSn : (S == 0) = false := by simp; omega
    go_wp2
    go_loopw [8, 9] (fun s8 s9 wr => ∃ (k : Nat) (W9 : World), k ≤ n ∧ s8 = .int .i64 (s - sumF (baseW s ws) (List.range k)) ∧ s9 = .int .i64 k ∧ W9 = wr ∧ Hid (Two w n (upTo (baseW s ws) k) (upTo (restW s ws) k) W9)) (fun _ s9 _ => n - (intOf s9).toNat)
    case atStart => exact ⟨0, _, Nat.zero_le _, by rw [List.range_zero, sumF_nil, Int.sub_zero], rfl, rfl, hide (T0.out.congr (fun i _ => by simp [upTo]) (fun i _ => by simp [upTo]))⟩
    case round =>
      clear T0
      obtain ⟨k, W9, hk, rfl, rfl, rfl, A⟩ := hrel
      by_cases hlt : k < n
      · have hkl : k < ws.length := by have := hl.out; omega
        obtain ⟨b, off, rfl, hbB, hcell⟩ := (HA.out _ A.out.below).2.2 (by omega)
        have hx := hcell k hlt
        have hbx : b < w.heap.size := by omega
        obtain ⟨ha, hfa⟩ := A.out.a.cell hlt
        have hsz := A.out.size
        obtain ⟨p0, p1⟩ := hprod.out k hkl
        obtain ⟨q0, q1⟩ := Hb1.out k hkl
        obtain ⟨r0, r1⟩ := Hr1.out k
        obtain ⟨d1, d2⟩ := Hbr.out k hkl
        obtain ⟨f0, f1⟩ := Hsf.out k (by omega)
        have hnx := hide (sumF_range_succ (baseW s ws) k)
        have A1 := A.out.putA hlt (baseW s ws k)
        obtain ⟨hb, hfb⟩ := A1.b.cell hlt
        have hx1 := (World.cell?_setCell_other W9 ⟨w.heap.size, k, none⟩ ⟨b, off + k, none⟩ (.int .i64 (baseW s ws k)) (fun e => by injection e with e; omega)).trans hx
        have A2 := A1.putB hlt (restW s ws k)
        have hc1 := (A2.a.cell hlt).1
        rw [if_pos rfl] at hc1
        have D := hide (A2.congr (fun i _ => upTo_next (baseW s ws) k i) (fun i _ => upTo_next (restW s ws) k i))
        clear A A1 A2 hcell
        generalize ws.getD k 0 = y at hx hx1 p0 p1 d1 d2
        generalize baseW s ws k = q at *
        generalize restW s ws k = r at *
        generalize upTo (baseW s ws) k k = z1 at *
        generalize upTo (restW s ws) k k = z2 at *
        generalize hF : sumF (baseW s ws) (List.range k) = F at *
        have e1 : IntKind.i64.wrap (s * y) = s * y := IntWalk.i64_in _ (by omega)
        have e2 : IntKind.i64.wrap q = q := IntWalk.i64_in _ (by omega)
        have e3 : IntKind.i64.wrap r = r := IntWalk.i64_in _ (by omega)
        have e4 : IntKind.i64.wrap (s - F - q) = s - F - q := IntWalk.i64_in _ (by omega)
        go_wp2
        go_roundw
        case rel => exact ⟨k + 1, _, by omega, by rw [hnx.out]; exact congrArg _ (by omega), by go_num, rfl, D⟩
        case measure => simp [intOf]; omega
      · obtain rfl : k = n := by omega
        rw [← hleft.out, HLI.out]
        have A0 := hide (A.out.congr (f' := given (baseW s ws) (restW s ws) k 0) (g' := gone (restW s ws) k 0) (fun i hi => by rw [upTo_all _ hi, given_zero]) (fun i hi => by rw [upTo_all _ hi, gone_zero]))
        clear A
        go_wp2
        go_loopw [8] (fun s8 wr => ∃ (j : Nat) (W8 : World), j ≤ L ∧ s8 = .int .i64 ((L : Int) - j) ∧ W8 = wr ∧ Hid (Two w k (given (baseW s ws) (restW s ws) k j) (gone (restW s ws) k j) W8)) (fun s8 _ => (intOf s8).toNat)
        case atStart => exact ⟨0, _, Nat.zero_le _, by simp, rfl, A0⟩
        case round =>
          clear A0
          obtain ⟨j, W8, hj, rfl, rfl, A⟩ := hrel
          by_cases hlt2 : j < L
          · have hpos : (0 : Int) < (L : Int) - j := by omega
            go_wp2
            go_loopw [10, 11] (fun s10 s11 wr => ∃ (m i : Nat) (W7 : World), i ≤ k ∧ s10 = .int .i64 m ∧ s11 = .int .i64 i ∧ W7 = wr ∧ Hid (MaxTo (gone (restW s ws) k j) m i) ∧ Hid (Two w k (given (baseW s ws) (restW s ws) k j) (gone (restW s ws) k j) W7)) (fun _ s11 _ => k - (intOf s11).toNat)
            case atStart => exact ⟨0, 1, _, by omega, rfl, rfl, rfl, hide (maxTo_one _), A⟩
            case round =>
              clear A
              obtain ⟨m, i, W7, hi, rfl, rfl, rfl, HM, A⟩ := hrel
              have hmi := HM.out.1
              by_cases hlt3 : i < k
              · obtain ⟨ha, _⟩ := A.out.b.cell hlt3
                obtain ⟨hb, _⟩ := A.out.b.cell (show m < k by omega)
                have hmore := hide (fun h => HM.out.more h)
                have hsame := hide (fun h => HM.out.same h)
                have h3 : (i : Int) < (k : Int) := by omega
                have h4 : (m : Int) < (k : Int) := by omega
                have h5 : m < k := by omega
                clear HM
                generalize gone (restW s ws) k j i = x at ha hmore hsame
                generalize gone (restW s ws) k j m = y at hb hmore hsame
                by_cases hxy : y < x
                · have D := hide (hmore.out hxy)
                  clear hmore hsame
                  go_wp2
                  go_quiet (fail)
                  go_wp2
                  go_roundw
                  case rel => exact ⟨i, i + 1, _, by omega, rfl, by go_num, rfl, D, hide (A.out.drewN _)⟩
                  case measure => simp [intOf]; omega
                · have D := hide (hsame.out hxy)
                  clear hmore hsame
                  go_wp2
                  go_quiet (fail)
                  go_wp2
                  go_roundw
                  case rel => exact ⟨m, i + 1, _, by omega, rfl, by go_num, rfl, D, hide (A.out.drewN _)⟩
                  case measure => simp [intOf]; omega
              · obtain rfl : i = k := by omega
                have ht := maxTo_top (fun i' hi' => (Hr1.out i').1) (show j < i by omega) HM.out
                obtain ⟨ha, hfa⟩ := A.out.a.cell hmi
                have hg := given_bd (b := baseW s ws) (r := restW s ws) (n := i) (k := j) (Hb1.out m (by have := hl.out; omega))
                have A1 := A.out.putA hmi (given (baseW s ws) (restW s ws) i j m + 1)
                obtain ⟨hb, hfb⟩ := A1.b.cell hmi
                have A2 := A1.putB hmi (-1)
                have D := hide (A2.congr (f' := given (baseW s ws) (restW s ws) i (j + 1)) (g' := gone (restW s ws) i (j + 1)) (fun i' _ => by rw [ht]; exact given_next (by omega) i') (fun i' _ => by rw [ht]; exact gone_next (by omega) i'))
                clear ht A A1 A2 HM
                generalize given (baseW s ws) (restW s ws) i j m = v1 at *
                generalize gone (restW s ws) i j m = v2 at *
                have e1 : IntKind.i64.wrap (v1 + 1) = v1 + 1 := IntWalk.i64_in _ (by omega)
                have e2 : IntKind.i64.wrap ((L : Int) - j - 1) = (L : Int) - j - 1 := IntWalk.i64_in _ (by omega)
                go_wp2
                go_roundw
                case rel => exact ⟨j + 1, _, by omega, by congr 1; omega, rfl, D⟩
                case measure => simp [intOf]; omega
          · obtain rfl : j = L := by omega
            have D := hide (A.out.madeN HFN.out (by omega))
            have hz : ¬ (0 : Int) < (j : Int) - j := by omega
            clear A
            go_wp2
            go_ret
            exact D.out
end Go.Proofs.Ythgliihdaockoaa
