/- Layout: flexible sizes: the program. Conditions: none. -/
import Derived.Test.YthgliihdaockoaaLayP
import Derived.BigRegion
namespace Go.Proofs.Ythgliihdaockoaa
open Go.RowKit
set_option linter.unusedVariables false
set_option linter.unusedSimpArgs false
theorem room1_any (P2 P5 b off bo oo m c co t : Nat) (o y : Int) (w : World) (h2 : w.cell? ⟨P2, 0, none⟩ = some (.slice (some ⟨b, off, none⟩) m c)) (h5 : w.cell? ⟨P5, 0, none⟩ = some (.slice (some ⟨bo, oo, none⟩) m co)) (ht : t < m) (hm : m ≤ 8)
    (hl : w.cell? ⟨b, off + t * 5 + 2, none⟩ = some (.int .i64 10000)) (hw : w.cell? ⟨b, off + t * 5 + 3, none⟩ = some (.int .i64 y)) (ho : w.cell? ⟨bo, oo + t, none⟩ = some (.int .i64 o)) (hob : 0 ≤ o ∧ o ≤ 10000) :
    Calls Try.prog 60 (#[.int .i64 t] ++ #[.pointer (some ⟨P2, 0, none⟩), .pointer (some ⟨P5, 0, none⟩)]) w fun e w' => e = .returned (.tuple #[.int .i64 (10000 - o), .int .i64 y]) ∧ Below w.heap.size w w' := by
  have ht' : (t : Int) < (m : Int) := by omega
  have HB := hide (show Below w.heap.size w w.drew from (Below.refl _ w).drew)
  show Calls Try.prog 60 #[.int .i64 t, .pointer (some ⟨P2, 0, none⟩), .pointer (some ⟨P5, 0, none⟩)] w _
  go_enter Try.func60, Try.ntmps60
  go_wp2
  go_region
  go_wp2
  exact bodyPost_ret (v := .tuple #[.int .i64 (10000 - o), .int .i64 y]) (by simp [results, Try.results60, go_sem]) rfl ⟨rfl, HB.out⟩
theorem room2_any (P2 P5 b off bo oo m c co t : Nat) (o y : Int) (w : World) (h2 : w.cell? ⟨P2, 0, none⟩ = some (.slice (some ⟨b, off, none⟩) m c)) (h5 : w.cell? ⟨P5, 0, none⟩ = some (.slice (some ⟨bo, oo, none⟩) m co)) (ht : t < m) (hm : m ≤ 8)
    (hl : w.cell? ⟨b, off + t * 5 + 1, none⟩ = some (.int .i64 0)) (hw : w.cell? ⟨b, off + t * 5 + 4, none⟩ = some (.int .i64 y)) (ho : w.cell? ⟨bo, oo + t, none⟩ = some (.int .i64 o)) (hob : 0 ≤ o ∧ o ≤ 10000) :
    Calls Try.prog 61 (#[.int .i64 t] ++ #[.pointer (some ⟨P5, 0, none⟩), .pointer (some ⟨P2, 0, none⟩)]) w fun e w' => e = .returned (.tuple #[.int .i64 o, .int .i64 y]) ∧ Below w.heap.size w w' := by
  have ht' : (t : Int) < (m : Int) := by omega
  have HB := hide (show Below w.heap.size w w.drew from (Below.refl _ w).drew)
  show Calls Try.prog 61 #[.int .i64 t, .pointer (some ⟨P5, 0, none⟩), .pointer (some ⟨P2, 0, none⟩)] w _
  go_enter Try.func61, Try.ntmps61
  go_wp2
  go_region
  go_wp2
  exact bodyPost_ret (v := .tuple #[.int .i64 o, .int .i64 y]) (by simp [results, Try.results61, go_sem]) rfl ⟨rfl, HB.out⟩
theorem Only.setNew {lo hi : Nat} {w wr : World} (h : Only lo hi w wr) {g o : Nat} (hg : w.heap.size ≤ g) (v : Value) : Only lo hi w (wr.setCell ⟨g, o, none⟩ v) :=
  ⟨h.os, h.tape, h.output, by simpa using h.size, fun k hk hne => by rw [Below.heap_setCell _ _ _ _ (by show k ≠ g; omega)]; exact h.block k hk hne⟩
/-- the blocks of a call of the program's flexed while it gathers the bases -/
structure FxA (w W : World) (a : Option Addr) (m c : Nat) (A : Option Addr) (t c' : Nat) (L : List Int) : Prop where
  below : Below w.heap.size w W
  b2 : W.heap[w.heap.size]? = some (.cells #[.slice a m c] 69 (0, 0))
  b5 : W.heap[w.heap.size + 1 + 1]? = some (.cells #[.slice A t c'] 26 (0, 0))
  own : Own 3 1 W (w.heap.size + 1) (.slice A t c') t L
  ne : ∀ j, (Value.slice A t c').ownBlock = some j → j ≠ w.heap.size + 1 + 1
section
variable {w W W' : World} {a A : Option Addr} {m c t c' : Nat} {L : List Int}
theorem FxA.sz (h : FxA w W a m c A t c' L) : w.heap.size + 3 ≤ W.heap.size := (Array.getElem?_eq_some_iff.1 h.b5).1
theorem FxA.later (h : FxA w W a m c A t c' L) (hb : Below W.heap.size W W') : FxA w W' a m c A t c' L where
  below := h.below.trans (hb.mono (by have := h.sz; omega))
  b2 := (hb.block _ (by have := h.sz; omega)).trans h.b2
  b5 := (hb.block _ (by have := h.sz; omega)).trans h.b5
  own := h.own.keep hb
  ne := h.ne
theorem FxA.start (w : World) (a : Option Addr) (m c : Nat) (hm : m ≤ 1099511627776) :
    FxA w (((w.alloc (.cells #[.slice a m c] 69)).alloc (.cells (madeCells #[.int .i64 0] m) 3)).alloc (.cells #[.slice (some ⟨w.heap.size + 1, 0, none⟩) 0 m] 26)) a m c (some ⟨w.heap.size + 1, 0, none⟩) 0 m [] where
  below := (((Below.refl _ _).alloc (Nat.le_refl _) _).alloc (by simp) _).alloc (by simp; omega) _
  b2 := by rw [heap_alloc_old _ _ (by simp; omega), heap_alloc_old _ _ (by simp)]; exact heap_alloc_new w _
  b5 := by have h := heap_alloc_new ((w.alloc (.cells #[.slice a m c] 69)).alloc (.cells (madeCells #[.int .i64 0] m) 3)) (.cells #[.slice (some ⟨w.heap.size + 1, 0, none⟩) 0 m] 26); simp only [World.size_alloc] at h; exact h
  own := by
    have h := (Own.made 3 1 (w.alloc (.cells #[.slice a m c] 69)) (madeCells #[.int .i64 0] m) m (w.heap.size + 1) (by simp) (by omega) (by rw [size_madeCells]; simp)).keep ((Below.refl _ _).alloc (Nat.le_refl _) (.cells #[.slice (some ⟨w.heap.size + 1, 0, none⟩) 0 m] 26))
    simp only [World.size_alloc] at h
    exact h
  ne := fun j hj => by simp [Value.ownBlock] at hj; omega
theorem FxA.c2 (h : FxA w W a m c A t c' L) : W.cell? ⟨w.heap.size, 0, none⟩ = some (.slice a m c) := by rw [cell_of_row _ _ 0 _ _ (0, 0) h.b2]; rfl
theorem FxA.c5 (h : FxA w W a m c A t c' L) : W.cell? ⟨w.heap.size + 1 + 1, 0, none⟩ = some (.slice A t c') := by rw [cell_of_row _ _ 0 _ _ (0, 0) h.b5]; rfl
theorem FxA.f5 (h : FxA w W a m c A t c' L) : W.frozen? ⟨w.heap.size + 1 + 1, 0, none⟩ = false := by simp [World.frozen?, h.b5]
theorem FxA.push {w1 : World} {A1 : Option Addr} {t1 c1 : Nat} {L1 : List Int} (h : FxA w W a m c A t c' L) (ho : Own 3 1 w1 (w.heap.size + 1) (.slice A1 t1 c1) t1 L1) (hg : W.grownBy w1 (Value.slice A t c').ownBlock)
    (hv : (Value.slice A1 t1 c1).ownBlock = (Value.slice A t c').ownBlock ∨ (Value.slice A1 t1 c1).ownBlock = some (W.heap.size + 1)) : FxA w (w1.setCell ⟨w.heap.size + 1 + 1, 0, none⟩ (.slice A1 t1 c1)) a m c A1 t1 c1 L1 := by
  have hz := h.sz
  have hne1 : ∀ j, (Value.slice A1 t1 c1).ownBlock = some j → j ≠ w.heap.size + 1 + 1 := fun j hj => by
    rcases hv with h1 | h1
    · exact h.ne j (h1.symm.trans hj)
    · rw [h1] at hj; injection hj with hj; omega
  have k2 := hg.block w.heap.size (by omega) (fun e => by have := (h.own.lt w.heap.size e.symm).1; omega)
  have k5 := hg.block (w.heap.size + 1 + 1) (by omega) (fun e => h.ne _ e.symm rfl)
  exact {
    below := (h.below.trans ((Own.below h.own (by omega) hg).mono (by omega))).setCell (p := ⟨w.heap.size + 1 + 1, 0, none⟩) (by show w.heap.size ≤ w.heap.size + 1 + 1; omega) _
    b2 := by rw [Below.heap_setCell _ _ _ _ (by show w.heap.size ≠ w.heap.size + 1 + 1; omega)]; exact k2.trans h.b2
    b5 := by simp [World.setCell, Array.getElem?_modify, k5.trans h.b5]
    own := ho.far (only_set w1 (w.heap.size + 1 + 1) 0 _) (.inr (fun e => hne1 _ e rfl))
    ne := hne1 }
end
/-- the weights that are found when t sizes have been asked -/
def wTo (dn : Bool) (wt out : Nat → Int) (t s : Nat) : Int := if s < t then (if 0 < farD dn (out s) then wt s else 0) else 0
theorem wTo_succ (dn : Bool) (wt out : Nat → Int) (t i : Nat) : (if i = t then (if 0 < farD dn (out t) then wt t else 0) else wTo dn wt out t i) = wTo dn wt out (t + 1) i := by
  unfold wTo
  by_cases e : i = t
  · subst e; rw [if_pos rfl, if_pos (Nat.lt_succ_self _)]
  · rw [if_neg e]
    by_cases e2 : i < t
    · rw [if_pos e2, if_pos (show i < t + 1 by omega)]
    · rw [if_neg e2, if_neg (show ¬ i < t + 1 by omega)]
theorem wTo_same {dn : Bool} {wt out : Nat → Int} {t : Nat} (h : ¬ 0 < farD dn (out t)) (i : Nat) : wTo dn wt out t i = wTo dn wt out (t + 1) i := by
  rw [← wTo_succ]
  by_cases e : i = t
  · subst e; rw [if_pos rfl, if_neg h]; unfold wTo; rw [if_neg (by omega)]
  · rw [if_neg e]
set_option maxRecDepth 100000 in
set_option maxHeartbeats 16000000 in
theorem implFlexed_any (B : Nat) (a : Option Addr) (m c : Nat) (base gr sr : Nat → Int) (space : Int) (w : World) (hA : Ints .i64 w B a (m * 5) (flexZ base gr sr m)) (hB : B ≤ w.heap.size) (hm : 1 ≤ m ∧ m ≤ 8)
    (hok : OutOk base m) (hg : WtOk gr m) (hs : WtOk sr m) (hsp : 0 ≤ space ∧ space ≤ 100000) :
    Calls Try.prog 46 #[.slice a m c, .int .i64 space] w (ListR (fl m (flexS base gr sr m space)) w) := by
  obtain ⟨i0, hi0, hz0, hz1, hz2⟩ := info_parts int_info
  have eg1 : ∀ args w, (callFunc 60 args).run Try.prog w = .ok (.enter 60 args) w := enters_of Try.func60 (by kernel_rfl) rfl
  have eg2 : ∀ args w, (callFunc 61 args).run Try.prog w = .ok (.enter 61 args) w := enters_of Try.func61 (by kernel_rfl) rfl
  have hmk0 := mk_ints0n m (by omega)
  have HA := hide (fun W (h : Below w.heap.size w W) => (hA.more hB).below h (Nat.le_refl _))
  have HOk := hide hok
  have HWG := hide hg
  have HWS := hide hs
  have hTs : 0 ≤ sumF base (List.range m) ∧ sumF base (List.range m) ≤ 80000 := by
    have h1 := sumF_nonneg (f := base) (l := List.range m) fun i hi => (hok i (List.mem_range.1 hi)).1
    have h2 := sumF_le (f := base) (l := List.range m) (M := 10000) fun i hi => (hok i (List.mem_range.1 hi)).2
    rw [List.length_range] at h2
    omega
  obtain ⟨T, hT⟩ : ∃ T, sumF base (List.range m) = T := ⟨_, rfl⟩
  rw [hT] at hTs
  have HT := hide hT
  obtain ⟨b, off, rfl, hb9, -⟩ := hA.flexAt (by omega)
  have HFx := hide (FxA.start w (some ⟨b, off, none⟩) m c (by omega))
  have g2 := HFx.out.c2
  have c20 : (w.alloc (.cells #[.slice (some ⟨b, off, none⟩) m c] 69)).cell? ⟨w.heap.size, 0, none⟩ = some (.slice (some ⟨b, off, none⟩) m c) := by simp [go_sem]
  clear hT hA hok hg hs
  go_enter Try.func46, Try.ntmps46
  go_wp2
  clear c20 g2
  generalize ((w.alloc (.cells #[.slice (some ⟨b, off, none⟩) m c] 69)).alloc (.cells (madeCells #[.int .i64 0] m) 3)).alloc (.cells #[.slice (some ⟨w.heap.size + 1, 0, none⟩) 0 m] 26) = W0 at HFx ⊢
  go_loopw [7, 25] (fun _ s25 wr => ∃ (t c' : Nat) (A : Option Addr) (W9 : World), t ≤ m ∧ s25 = .int .i64 t ∧ W9 = wr ∧ Hid (FxA w W9 (some ⟨b, off, none⟩) m c A t c' (fl t base))) (fun _ s25 _ => m - (intOf s25).toNat)
  case atStart => exact ⟨0, m, _, _, Nat.zero_le _, rfl, rfl, HFx⟩
  case round =>
    clear HFx
    obtain ⟨t, c', A, W9, htm, rfl, rfl, HFx⟩ := hrel
    have hz9 := HFx.out.sz
    by_cases hlt : t < m
    · have hlt' : (t : Int) < (m : Int) := by omega
      obtain ⟨b', off', eb, hb9', hcell⟩ := (HA.out _ HFx.out.below).flexAt (by omega)
      injection eb with eb
      injection eb with eb1 eb2
      subst eb1 eb2
      obtain ⟨c0, c1, c2, c3, c4⟩ := hcell t hlt
      clear hcell
      obtain ⟨x, hx⟩ : ∃ x, base t = x := ⟨_, rfl⟩
      obtain ⟨y3, hy3⟩ : ∃ y, gr t = y := ⟨_, rfl⟩
      obtain ⟨y4, hy4⟩ : ∃ y, sr t = y := ⟨_, rfl⟩
      have HX := hide hx
      rw [hx] at c0
      rw [hy3] at c3
      rw [hy4] at c4
      clear hx hy3 hy4
      have HFa := hide (HFx.out.later ((Below.refl _ _).alloc (Nat.le_refl _) (.cells #[.int .i64 x, .int .i64 0, .int .i64 10000, .int .i64 y3, .int .i64 y4] 72)))
      have g5 := HFa.out.c5
      have hza := HFa.out.sz
      have q0 : (W9.alloc (.cells #[.int .i64 x, .int .i64 0, .int .i64 10000, .int .i64 y3, .int .i64 y4] 72)).cell? ⟨W9.heap.size, 0, none⟩ = some (.int .i64 x) := by rw [cell_of_row _ _ 0 _ _ (0, 0) (heap_alloc_new W9 _)]; rfl
      clear HFx
      go_wp2_with (at_builtin; refine wpList_push rfl (.tmp 29) (.tmp 32) 26 3 1 8 i0 _ rfl Try.underlying26 hi0 hz0 hz1 hz2 rfl (by omega) (by omega) (W9.alloc (.cells #[.int .i64 x, .int .i64 0, .int .i64 10000, .int .i64 y3, .int .i64 y4] 72)) (w.heap.size + 1) (.slice A t c') t (fl t base) rfl HFa.out.own [x] 1 1 (by show Value.slice (some ⟨W9.heap.size + 1, 0, none⟩) 1 1 = _; simp) rfl (by omega) (by omega) ?_; intro v1 w1 ho1 hb1 hg1 hv1; obtain ⟨A1, cc1, hvv1, _, _, _⟩ := ho1.form; subst hvv1; have HP := hide (HFa.out.push ho1 hg1 hv1); have g6 := (World.cell?_of_block (a := ⟨w.heap.size + 1 + 1, 0, none⟩) (hg1.block (w.heap.size + 1 + 1) (by omega) (fun e => HFa.out.ne _ e.symm rfl))).trans g5; have f6 := (World.frozen?_of_block (a := ⟨w.heap.size + 1 + 1, 0, none⟩) (hg1.block (w.heap.size + 1 + 1) (by omega) (fun e => HFa.out.ne _ e.symm rfl))).trans HFa.out.f5; clear ho1 hb1 hg1 hv1)
      go_roundw
      case rel => exact ⟨t + 1, _, _, _, by omega, by go_num, rfl, by rw [fl_snoc, HX.out]; exact HP⟩
      case measure => simp [intOf]; omega
    · obtain rfl : m = t := by omega
      obtain ⟨Wm, rfl⟩ : ∃ Wm, Wm = W9 := ⟨_, rfl⟩
      obtain ⟨co, rfl⟩ : ∃ co, co = c' := ⟨_, rfl⟩
      obtain ⟨A', c'', e, hc1, hc2, hrow⟩ := HFx.out.own.form
      injection e with e1 e2 e3
      subst e1 e3
      rw [Nat.mul_one] at hrow
      obtain ⟨bo, oo, cur, rfl, hbo1, hbo2, hcur, hsz, hcc⟩ := hrow.2 (by omega)
      have hne2 := HFx.out.ne bo rfl
      have HRm := hide (show Row 3 Wm bo (bo + 1) (some ⟨bo, oo, none⟩) m (fl m base) from ⟨hrow.1, fun _ => ⟨bo, oo, cur, rfl, Nat.le_refl _, Nat.lt_succ_self _, hcur, hsz, hcc⟩⟩)
      have HOm0 := hide (Only.refl bo (bo + 1) Wm)
      have hsm : Small 1000000000 (fl m base) := fun x hx => by
        obtain ⟨i, hi, rfl⟩ := fl_mem hx
        have := HOk.out i hi
        omega
      have hsum := total_any (bo + 1) (some ⟨bo, oo, none⟩) m co (fl m base) Wm HRm.out.ints (by omega) hsm
      rw [show sumI (fl m base) = T from HT.out] at hsum
      have g5 := HFx.out.c5
      have HBx := hide (fun W (h : Only bo (bo + 1) Wm W) => (show W.cell? ⟨w.heap.size, 0, none⟩ = some (.slice (some ⟨b, off, none⟩) m c) ∧ W.cell? ⟨w.heap.size + 1 + 1, 0, none⟩ = some (.slice (some ⟨bo, oo, none⟩) m co) ∧ ∀ t, t < m → W.cell? ⟨b, off + t * 5, none⟩ = some (.int .i64 (base t)) ∧ W.cell? ⟨b, off + t * 5 + 1, none⟩ = some (.int .i64 0) ∧ W.cell? ⟨b, off + t * 5 + 2, none⟩ = some (.int .i64 10000) ∧ W.cell? ⟨b, off + t * 5 + 3, none⟩ = some (.int .i64 (gr t)) ∧ W.cell? ⟨b, off + t * 5 + 4, none⟩ = some (.int .i64 (sr t)) from by
        refine ⟨(World.cell?_of_block (h.block w.heap.size (by omega) (by omega))).trans HFx.out.c2, (World.cell?_of_block (h.block (w.heap.size + 1 + 1) (by omega) (by omega))).trans HFx.out.c5, ?_⟩
        obtain ⟨b', off', eb, hb9', hcell⟩ := (HA.out _ (HFx.out.below.trans ((h.below (B := w.heap.size) (by omega) (by omega))))).flexAt (by omega)
        injection eb with eb
        injection eb with eb1 eb2
        subst eb1 eb2
        exact hcell))
      have HFin := hide (fun (W : World) (L : List Int) (hr : Row 3 W bo (bo + 1) (some ⟨bo, oo, none⟩) m L) (h : Only bo (bo + 1) Wm W) => (show ListR L w (.returned (.slice (some ⟨bo, oo, none⟩) m co)) W from
        ⟨some ⟨bo, oo, none⟩, m, co, rfl, hr.mono (by omega) (by have := h.size; omega), HFx.out.below.trans (h.below (by omega) (by omega))⟩))
      clear hrow hcur hsz hcc hsm hc2
      by_cases hle : T ≤ space
      · have HW := HWG
        obtain ⟨left0, hleft⟩ : ∃ left0, space - T = left0 := ⟨_, rfl⟩
        have HRes := hide (show fl m (flexS base gr sr m space) = fl m (flexF false gr m (left0 + 1).toNat left0 base) by rw [← hleft]; unfold flexS; rw [HT.out, if_pos hle])
        have hl0 : 0 ≤ left0 ∧ left0 ≤ 180000 := by omega
        have hwr1 : IntKind.i64.wrap (space - T) = space - T := IntWalk.i64_in _ (by omega)
        have hneg : space - T = left0 := by omega
        have hcase : ¬ left0 < (0 : Int) := by omega
        have hpos : ¬ left0 < 0 := by omega
        rw [hneg] at hwr1
        clear hleft hle
        go_wp2_with (go_at_call 59; refine hsum.mono ?_; rintro e w' ⟨rfl, rfl⟩)
        clear g5 hsum
        go_loopw [8, 11, 12, 13, 14, 15, 16, 17, 18, 19] (fun s8 _ _ _ _ _ _ _ _ _ wr => ∃ (left : Int) (f : Nat) (out : Nat → Int) (W9 : World), 0 ≤ left ∧ left ≤ 200000 ∧ left < f ∧ s8 = .int .i64 left ∧ W9 = wr ∧ Hid (flexF false gr m f left out = flexF false gr m (left0 + 1).toNat left0 base) ∧ Hid (OutOk out m) ∧ Hid (Row 3 W9 bo (bo + 1) (some ⟨bo, oo, none⟩) m (fl m out)) ∧ Hid (Only bo (bo + 1) Wm W9)) (fun s8 _ _ _ _ _ _ _ _ _ _ => (intOf s8).toNat)
        case atStart => exact ⟨left0, (left0 + 1).toNat, base, _, hl0.1, by omega, by omega, rfl, rfl, hide rfl, HOk, HRm, HOm0⟩
        case round =>
          clear HRm HOm0 hl0
          obtain ⟨left, f, out, W9, hl0, hl2, hlf, rfl, rfl, HF, HK, HO, HR⟩ := hrel
          have hz9 := HR.out.size
          have k2 := (HBx.out _ HR.out).1
          have hg9 : bo < W9.heap.size := by omega
          have hmk := mk_ints m (by omega)
          have hG := hide (rowF_alloc W9 m)
          have hba := hide (show Below W9.heap.size W9 (W9.alloc (.cells (madeCells #[.int .i64 0] m) 3)) from (Below.refl _ _).alloc (Nat.le_refl _) _)
          have k2' := (HBx.out _ (HR.out.trans (Only.ofBelow hba.out))).1
          have HRx := hide (HR.out.trans (Only.ofBelow hba.out))
          have HOx := hide (HO.out.belowS hba.out)
          go_wp2
          clear k2 k2'
          generalize W9.alloc (.cells (madeCells #[.int .i64 0] m) 3) = Wx at hG hba HRx HOx ⊢
          obtain ⟨G, hGe⟩ : ∃ G, W9.heap.size = G := ⟨_, rfl⟩
          rw [hGe] at hG
          rw [hGe]
          have hGm : Wm.heap.size ≤ G := by omega
          clear hGe
          go_loopw [12, 13, 14, 50] (fun _ _ _ s50 wr => ∃ (t : Nat) (W8 : World), t ≤ m ∧ s50 = .int .i64 t ∧ W8 = wr ∧ Hid (RowF W8 G m (wTo false gr out t)) ∧ Hid (Row 3 W8 bo (bo + 1) (some ⟨bo, oo, none⟩) m (fl m out)) ∧ Hid (Only bo (bo + 1) Wm W8)) (fun _ _ _ s50 _ => m - (intOf s50).toNat)
          case atStart => exact ⟨0, _, Nat.zero_le _, rfl, rfl, hide (hG.out.congr fun i _ => by unfold wTo; rw [if_neg (by omega)]), HOx, HRx⟩
          case round =>
            clear hG hba HRx HOx
            obtain ⟨t, W8, htm, rfl, rfl, HG, HO8, HR8⟩ := hrel
            have hz8 := HR8.out.size
            by_cases hlt : t < m
            · have hlt' : (t : Int) < (m : Int) := by omega
              have hwc := ((HBx.out _ HR8.out).2.2 t hlt).2.2.2.1
              have hoc := (HO8.out.cell t hlt).1
              rw [fl_at out hlt] at hoc
              have hwy := HW.out t hlt
              have hoo := HK.out t hlt
              obtain ⟨y, hy⟩ : ∃ y, gr t = y := ⟨_, rfl⟩
              obtain ⟨o, ho⟩ : ∃ o, out t = o := ⟨_, rfl⟩
              have HYt := hide hy
              have HOt := hide ho
              rw [hy] at hwc hwy
              rw [ho] at hoc hoo
              clear hy ho
              have hroom := room1_any w.heap.size (w.heap.size + 1 + 1) b off bo oo m c co t o y W8 (HBx.out _ HR8.out).1 (HBx.out _ HR8.out).2.1 hlt hm.2 ((HBx.out _ HR8.out).2.2 t hlt).2.2.1 hwc hoc hoo
              clear hwc hoc
              by_cases hcd : 0 < (10000 - o)
              · have D := hide (fun i => (show (if i = t then y else wTo false gr out t i) = wTo false gr out (t + 1) i from by
                  rw [← wTo_succ, HOt.out, HYt.out, if_pos (show 0 < farD false o by unfold farD; rw [if_neg Bool.false_ne_true]; exact hcd)]))
                go_wp2_with (go_at_fn 60; refine hroom.mono ?_; rintro e Wd ⟨rfl, hb⟩; have HGd := hide (HG.out.belowS hb); have HOd := hide (HO8.out.belowS hb); have HRd := hide (HR8.out.trans (Only.ofBelow hb)); have hgc := (HGd.out.cell hlt).1; have hgf := (HGd.out.cell hlt).2; clear hb)
                go_roundw
                case rel => exact ⟨t + 1, _, by omega, by go_num, rfl, hide ((HGd.out.put hlt y).congr fun i _ => D.out i), hide (HOd.out.keep fun k h1 h2 _ => Below.heap_setCell _ _ _ _ (by show k ≠ G; omega)), hide (HRd.out.setNew hGm _)⟩
                case measure => simp [intOf]; omega
              · have D := hide (fun i => wTo_same (dn := false) (wt := gr) (out := out) (t := t) (by rw [HOt.out]; unfold farD; rw [if_neg Bool.false_ne_true]; exact hcd) i)
                go_wp2_with (go_at_fn 60; refine hroom.mono ?_; rintro e Wd ⟨rfl, hb⟩; have HGd := hide (HG.out.belowS hb); have HOd := hide (HO8.out.belowS hb); have HRd := hide (HR8.out.trans (Only.ofBelow hb)); clear hb)
                go_roundw
                case rel => exact ⟨t + 1, _, by omega, by go_num, rfl, hide (HGd.out.congr fun i _ => D.out i), HOd, HRd⟩
                case measure => simp [intOf]; omega
            · obtain rfl : m = t := by omega
              have hrw := (HG.out.congr (g := fun s => if 0 < farD false (out s) then gr s else 0) (fun i hi => by unfold wTo; rw [if_pos hi])).row (Nat.le_refl G) (Nat.lt_succ_self G)
              have hGs : G < W8.heap.size := HG.out.lt (by omega)
              have HSh := hide (implShare_any W8.heap.size (some ⟨G, 0, none⟩) m m (wD false gr out m) left W8 (hrw.ints.more (by omega)) (Nat.le_refl _) hm (wD_ok HW.out) ⟨hl0, hl2⟩)
              have HK3 := hide (stepD_ok (dn := false) (left := left) HW.out HK.out hl0)
              clear hrw HG
              go_wp2_with fail
              refine HSh.out.mono ?_
              rintro e W7 ⟨A9, n9, c9, rfl, hn9, hc9, hr9, hb7⟩
              obtain rfl : m = n9 := by have h1 := hr9.1; rw [shareL_len, wD_len] at h1; exact h1
              have HR7 := hide (HR8.out.trans (Only.ofBelow hb7))
              have HO7 := hide (HO8.out.belowS hb7)
              have hz7 := hb7.size
              have HM9 := hide hr9
              have hbo8 : bo < W8.heap.size := by omega
              have hsm : Small 1000000000 (shareL left (wD false gr out m)) := share_small HW.out hl0 hm.2 hl2
              have hsum := total_any W7.heap.size A9 m c9 (shareL left (wD false gr out m)) W7 hr9.ints (by omega) hsm
              clear hr9 hb7 HSh hn9 hc9 HR8 HO8
              obtain ⟨q0, hq0⟩ : ∃ q0, sumI (shareL left (wD false gr out m)) = q0 := ⟨_, rfl⟩
              rw [hq0] at hsum
              have HQ0 := hide hq0
              clear hq0 hsm
              obtain ⟨g, rfl⟩ : ∃ g, f = g + 1 := ⟨f - 1, by omega⟩
              by_cases hq : q0 = 0
              · have hq' : (q0 == 0) = true := by simpa using hq
                have D := hide (show Row 3 W7 bo (bo + 1) (some ⟨bo, oo, none⟩) m (fl m (flexF false gr m (left0 + 1).toNat left0 base)) by
                  rw [← HF.out, flexF, if_pos (by rw [HQ0.out]; exact hq)]
                  exact HO7.out)
                have DF := hide (show ListR (fl m (flexS base gr sr m space)) w (.returned (.slice (some ⟨bo, oo, none⟩) m co)) W7 from HFin.out _ _ (by rw [HRes.out]; exact D.out) HR7.out)
                have k5 := (HBx.out _ HR7.out).2.1
                clear hq HF HM9 D
                go_wp2_with (go_at_call 59; refine hsum.mono ?_; rintro e w' ⟨rfl, rfl⟩)
                go_ret
                exact DF.out
              · have hq' : (q0 == 0) = false := by simpa using hq
                have hrb := restD_bd (dn := false) (left := left) HW.out HK.out hl0 (by rw [HQ0.out]; exact hq)
                have HF2 := hide (show flexF false gr m g (restD false gr out m left) (stepD false gr out m left) = flexF false gr m (left0 + 1).toNat left0 base by
                  rw [← HF.out, flexF, if_neg (by rw [HQ0.out]; exact hq)])
                have HOm := hide (show Row 3 W7 bo (bo + 1) (some ⟨bo, oo, none⟩) m (fl m (midD false gr out m left 0)) by
                  rw [fl_congr (g := out) (fun i _ => by unfold midD; rw [if_neg (by omega)])]
                  exact HO7.out)
                have HM0 := hide (show midL false gr out m left 0 = left by simp [midL, sumF_nil])
                have HShb := hide (fun t (ht : t < m) => share_bd (dn := false) (out := out) HW.out hl0 ht)
                have HSh2 := hide (fun t (ht : t < m) => share_small (dn := false) (out := out) HW.out hl0 hm.2 hl2 _ (getD_mem (xs := shareL left (wD false gr out m)) (by rw [shareL_len, wD_len]; exact ht)))
                have HmL := hide (fun t (ht : t ≤ m) => midL_bd (dn := false) (left := left) HW.out HK.out hl0 ht)
                clear hq HF HQ0 HO7
                go_wp2_with (go_at_call 59; refine hsum.mono ?_; rintro e w' ⟨rfl, rfl⟩)
                clear hsum
                go_loopw [8, 16, 17, 18, 19, 75] (fun s8 _ _ _ _ s75 wr => ∃ (t : Nat) (Wc : World), t ≤ m ∧ s8 = .int .i64 (midL false gr out m left t) ∧ s75 = .int .i64 t ∧ Wc = wr ∧ Hid (Row 3 Wc bo (bo + 1) (some ⟨bo, oo, none⟩) m (fl m (midD false gr out m left t))) ∧ Hid (Row 3 Wc W8.heap.size W7.heap.size A9 m (shareL left (wD false gr out m))) ∧ Hid (Only bo (bo + 1) Wm Wc)) (fun _ _ _ _ _ s75 _ => m - (intOf s75).toNat)
                case atStart => exact ⟨0, _, Nat.zero_le _, by rw [HM0.out], rfl, rfl, HOm, HM9, HR7⟩
                case round =>
                  clear HOm HM9 HR7 HM0
                  obtain ⟨t, Wc, htm, rfl, rfl, rfl, HOm, HM9, HR8⟩ := hrel
                  have hzc := HR8.out.size
                  have hmb := HmL.out t htm
                  obtain ⟨L, hL⟩ : ∃ L, midL false gr out m left t = L := ⟨_, rfl⟩
                  rw [hL] at hmb
                  rw [hL]
                  have HLt := hide hL
                  clear hL
                  by_cases hlt : t < m
                  · have hlt' : (t : Int) < (m : Int) := by omega
                    have hwc := ((HBx.out _ HR8.out).2.2 t hlt).2.2.2.1
                    have hoc := (HOm.out.cell t hlt).1
                    rw [fl_at _ hlt] at hoc
                    obtain ⟨ag, aof, rfl, -, hsh⟩ := HM9.out.ints.2.2 (by omega)
                    have hc3 := hsh t hlt
                    have hoo := HK.out t hlt
                    have hss := HShb.out t hlt
                    have hss2 := HSh2.out t hlt
                    obtain ⟨o, ho⟩ : ∃ o, out t = o := ⟨_, rfl⟩
                    obtain ⟨y, hy⟩ : ∃ y, gr t = y := ⟨_, rfl⟩
                    obtain ⟨s, hs⟩ : ∃ s, (shareL left (wD false gr out m)).getD t 0 = s := ⟨_, rfl⟩
                    have HMid := hide (show midD false gr out m left t t = o from (if_neg (by omega)).trans ho)
                    rw [HMid.out] at hoc
                    rw [hy] at hwc
                    rw [hs] at hc3 hss hss2
                    rw [ho] at hoo
                    have HT := hide (show takeD false gr out m left t = min s (10000 - o) by unfold takeD farD; rw [hs, ho]; rw [if_neg Bool.false_ne_true])
                    have HO := hide ho
                    clear ho hs hy hsh
                    have hroom := room1_any w.heap.size (w.heap.size + 1 + 1) b off bo oo m c co t o y Wc (HBx.out _ HR8.out).1 (HBx.out _ HR8.out).2.1 hlt hm.2 ((HBx.out _ HR8.out).2.2 t hlt).2.2.1 hwc hoc hoo
                    have hsr : s ≤ 1000000000 := by omega
                    clear hss2 hwc hoc
                    by_cases hle : (10000 - o) < s
                    · have D := hide (show fl m (midD false gr out m left (t + 1)) = (fl m (midD false gr out m left t)).set t (o + (10000 - o)) by
                        rw [fl_set]
                        refine fl_congr fun j hj => ?_
                        by_cases e : j = t
                        · subst e; rw [if_pos rfl]; unfold midD; rw [if_pos (by omega)]; unfold stepD; rw [HO.out, HT.out]; rw [if_neg Bool.false_ne_true]; omega
                        · rw [if_neg e]; unfold midD; by_cases e2 : j < t
                          · rw [if_pos (by omega), if_pos e2]
                          · rw [if_neg (by omega), if_neg e2])
                      have D2 := hide (show midL false gr out m left (t + 1) = L - (10000 - o) by have h := HLt.out; unfold midL at h ⊢; rw [sumF_range_succ, HT.out]; omega)
                      clear HLt HT HO
                      go_wp2_with (go_at_fn 60; refine hroom.mono ?_; rintro e Wd ⟨rfl, hb⟩; have HRd := hide (HR8.out.trans (Only.ofBelow hb)); have HOd := hide (HOm.out.belowS hb); have HMd := hide (HM9.out.belowS hb); have k5 := (HBx.out _ HRd.out).2.1; have hoc1 := (HOd.out.cell t hlt).1; have hfo1 := (HOd.out.cell t hlt).2; rw [fl_at _ hlt, HMid.out] at hoc1; clear hb)
                      go_roundw
                      case rel => exact ⟨t + 1, _, by omega, by rw [D2.out], by go_num, rfl, by rw [D.out]; exact hide (HOd.out.put hlt (o + (10000 - o))), hide (HMd.out.keep fun k h1 _ _ => Below.heap_setCell _ _ _ _ (by show k ≠ bo; omega)), hide (HRd.out.set (Nat.le_refl _) (Nat.lt_succ_self _) _)⟩
                      case measure => simp [intOf]; omega
                    · have D := hide (show fl m (midD false gr out m left (t + 1)) = (fl m (midD false gr out m left t)).set t (o + s) by
                        rw [fl_set]
                        refine fl_congr fun j hj => ?_
                        by_cases e : j = t
                        · subst e; rw [if_pos rfl]; unfold midD; rw [if_pos (by omega)]; unfold stepD; rw [HO.out, HT.out]; rw [if_neg Bool.false_ne_true]; omega
                        · rw [if_neg e]; unfold midD; by_cases e2 : j < t
                          · rw [if_pos (by omega), if_pos e2]
                          · rw [if_neg (by omega), if_neg e2])
                      have D2 := hide (show midL false gr out m left (t + 1) = L - s by have h := HLt.out; unfold midL at h ⊢; rw [sumF_range_succ, HT.out]; omega)
                      clear HLt HT HO
                      go_wp2_with (go_at_fn 60; refine hroom.mono ?_; rintro e Wd ⟨rfl, hb⟩; have HRd := hide (HR8.out.trans (Only.ofBelow hb)); have HOd := hide (HOm.out.belowS hb); have HMd := hide (HM9.out.belowS hb); have k5 := (HBx.out _ HRd.out).2.1; have hoc1 := (HOd.out.cell t hlt).1; have hfo1 := (HOd.out.cell t hlt).2; rw [fl_at _ hlt, HMid.out] at hoc1; clear hb)
                      go_roundw
                      case rel => exact ⟨t + 1, _, by omega, by rw [D2.out], by go_num, rfl, by rw [D.out]; exact hide (HOd.out.put hlt (o + s)), hide (HMd.out.keep fun k h1 _ _ => Below.heap_setCell _ _ _ _ (by show k ≠ bo; omega)), hide (HRd.out.set (Nat.le_refl _) (Nat.lt_succ_self _) _)⟩
                      case measure => simp [intOf]; omega
                  · obtain rfl : m = t := by omega
                    have D := hide (show restD false gr out m left = L by rw [← HLt.out]; rfl)
                    have DO := hide (show Row 3 Wc bo (bo + 1) (some ⟨bo, oo, none⟩) m (fl m (stepD false gr out m left)) by
                      rw [← fl_congr (f := midD false gr out m left m) (fun j hj => by unfold midD; rw [if_pos hj])]; exact HOm.out)
                    rw [D.out] at hrb HF2
                    clear HLt HOm HM9
                    go_wp2
                    go_roundw
                    case rel => exact ⟨L, g, _, _, hrb.1, by omega, by omega, rfl, rfl, HF2, HK3, DO, HR8⟩
                    case measure => simp [intOf]; omega
      · have HW := HWS
        obtain ⟨left0, hleft⟩ : ∃ left0, T - space = left0 := ⟨_, rfl⟩
        have HRes := hide (show fl m (flexS base gr sr m space) = fl m (flexF true sr m (left0 + 1).toNat left0 base) by rw [← hleft]; unfold flexS; rw [HT.out, if_neg (by omega)])
        have hl0 : 0 ≤ left0 ∧ left0 ≤ 180000 := by omega
        have hwr1 : IntKind.i64.wrap (space - T) = space - T := IntWalk.i64_in _ (by omega)
        have hneg : space - T = -left0 := by omega
        have hcase : -left0 < (0 : Int) := by omega
        have hpos : (0 : Int) < left0 := by omega
        rw [hneg] at hwr1
        clear hleft hle
        go_wp2_with (go_at_call 59; refine hsum.mono ?_; rintro e w' ⟨rfl, rfl⟩)
        clear g5 hsum
        go_loopw [8, 11, 12, 13, 14, 15, 16, 17, 18, 19] (fun s8 _ _ _ _ _ _ _ _ _ wr => ∃ (left : Int) (f : Nat) (out : Nat → Int) (W9 : World), 0 ≤ left ∧ left ≤ 200000 ∧ left < f ∧ s8 = .int .i64 left ∧ W9 = wr ∧ Hid (flexF true sr m f left out = flexF true sr m (left0 + 1).toNat left0 base) ∧ Hid (OutOk out m) ∧ Hid (Row 3 W9 bo (bo + 1) (some ⟨bo, oo, none⟩) m (fl m out)) ∧ Hid (Only bo (bo + 1) Wm W9)) (fun s8 _ _ _ _ _ _ _ _ _ _ => (intOf s8).toNat)
        case atStart => exact ⟨left0, (left0 + 1).toNat, base, _, hl0.1, by omega, by omega, rfl, rfl, hide rfl, HOk, HRm, HOm0⟩
        case round =>
          clear HRm HOm0 hl0
          obtain ⟨left, f, out, W9, hl0, hl2, hlf, rfl, rfl, HF, HK, HO, HR⟩ := hrel
          have hz9 := HR.out.size
          have k2 := (HBx.out _ HR.out).1
          have hg9 : bo < W9.heap.size := by omega
          have hmk := mk_ints m (by omega)
          have hG := hide (rowF_alloc W9 m)
          have hba := hide (show Below W9.heap.size W9 (W9.alloc (.cells (madeCells #[.int .i64 0] m) 3)) from (Below.refl _ _).alloc (Nat.le_refl _) _)
          have k2' := (HBx.out _ (HR.out.trans (Only.ofBelow hba.out))).1
          have HRx := hide (HR.out.trans (Only.ofBelow hba.out))
          have HOx := hide (HO.out.belowS hba.out)
          go_wp2
          clear k2 k2'
          generalize W9.alloc (.cells (madeCells #[.int .i64 0] m) 3) = Wx at hG hba HRx HOx ⊢
          obtain ⟨G, hGe⟩ : ∃ G, W9.heap.size = G := ⟨_, rfl⟩
          rw [hGe] at hG
          rw [hGe]
          have hGm : Wm.heap.size ≤ G := by omega
          clear hGe
          go_loopw [12, 13, 14, 50] (fun _ _ _ s50 wr => ∃ (t : Nat) (W8 : World), t ≤ m ∧ s50 = .int .i64 t ∧ W8 = wr ∧ Hid (RowF W8 G m (wTo true sr out t)) ∧ Hid (Row 3 W8 bo (bo + 1) (some ⟨bo, oo, none⟩) m (fl m out)) ∧ Hid (Only bo (bo + 1) Wm W8)) (fun _ _ _ s50 _ => m - (intOf s50).toNat)
          case atStart => exact ⟨0, _, Nat.zero_le _, rfl, rfl, hide (hG.out.congr fun i _ => by unfold wTo; rw [if_neg (by omega)]), HOx, HRx⟩
          case round =>
            clear hG hba HRx HOx
            obtain ⟨t, W8, htm, rfl, rfl, HG, HO8, HR8⟩ := hrel
            have hz8 := HR8.out.size
            by_cases hlt : t < m
            · have hlt' : (t : Int) < (m : Int) := by omega
              have hwc := ((HBx.out _ HR8.out).2.2 t hlt).2.2.2.2
              have hoc := (HO8.out.cell t hlt).1
              rw [fl_at out hlt] at hoc
              have hwy := HW.out t hlt
              have hoo := HK.out t hlt
              obtain ⟨y, hy⟩ : ∃ y, sr t = y := ⟨_, rfl⟩
              obtain ⟨o, ho⟩ : ∃ o, out t = o := ⟨_, rfl⟩
              have HYt := hide hy
              have HOt := hide ho
              rw [hy] at hwc hwy
              rw [ho] at hoc hoo
              clear hy ho
              have hroom := room2_any w.heap.size (w.heap.size + 1 + 1) b off bo oo m c co t o y W8 (HBx.out _ HR8.out).1 (HBx.out _ HR8.out).2.1 hlt hm.2 ((HBx.out _ HR8.out).2.2 t hlt).2.1 hwc hoc hoo
              clear hwc hoc
              by_cases hcd : 0 < o
              · have D := hide (fun i => (show (if i = t then y else wTo true sr out t i) = wTo true sr out (t + 1) i from by
                  rw [← wTo_succ, HOt.out, HYt.out, if_pos (show 0 < farD true o by unfold farD; rw [if_pos rfl]; exact hcd)]))
                go_wp2_with (go_at_fn 61; refine hroom.mono ?_; rintro e Wd ⟨rfl, hb⟩; have HGd := hide (HG.out.belowS hb); have HOd := hide (HO8.out.belowS hb); have HRd := hide (HR8.out.trans (Only.ofBelow hb)); have hgc := (HGd.out.cell hlt).1; have hgf := (HGd.out.cell hlt).2; clear hb)
                go_roundw
                case rel => exact ⟨t + 1, _, by omega, by go_num, rfl, hide ((HGd.out.put hlt y).congr fun i _ => D.out i), hide (HOd.out.keep fun k h1 h2 _ => Below.heap_setCell _ _ _ _ (by show k ≠ G; omega)), hide (HRd.out.setNew hGm _)⟩
                case measure => simp [intOf]; omega
              · have D := hide (fun i => wTo_same (dn := true) (wt := sr) (out := out) (t := t) (by rw [HOt.out]; unfold farD; rw [if_pos rfl]; exact hcd) i)
                go_wp2_with (go_at_fn 61; refine hroom.mono ?_; rintro e Wd ⟨rfl, hb⟩; have HGd := hide (HG.out.belowS hb); have HOd := hide (HO8.out.belowS hb); have HRd := hide (HR8.out.trans (Only.ofBelow hb)); clear hb)
                go_roundw
                case rel => exact ⟨t + 1, _, by omega, by go_num, rfl, hide (HGd.out.congr fun i _ => D.out i), HOd, HRd⟩
                case measure => simp [intOf]; omega
            · obtain rfl : m = t := by omega
              have hrw := (HG.out.congr (g := fun s => if 0 < farD true (out s) then sr s else 0) (fun i hi => by unfold wTo; rw [if_pos hi])).row (Nat.le_refl G) (Nat.lt_succ_self G)
              have hGs : G < W8.heap.size := HG.out.lt (by omega)
              have HSh := hide (implShare_any W8.heap.size (some ⟨G, 0, none⟩) m m (wD true sr out m) left W8 (hrw.ints.more (by omega)) (Nat.le_refl _) hm (wD_ok HW.out) ⟨hl0, hl2⟩)
              have HK3 := hide (stepD_ok (dn := true) (left := left) HW.out HK.out hl0)
              clear hrw HG
              go_wp2_with fail
              refine HSh.out.mono ?_
              rintro e W7 ⟨A9, n9, c9, rfl, hn9, hc9, hr9, hb7⟩
              obtain rfl : m = n9 := by have h1 := hr9.1; rw [shareL_len, wD_len] at h1; exact h1
              have HR7 := hide (HR8.out.trans (Only.ofBelow hb7))
              have HO7 := hide (HO8.out.belowS hb7)
              have hz7 := hb7.size
              have HM9 := hide hr9
              have hbo8 : bo < W8.heap.size := by omega
              have hsm : Small 1000000000 (shareL left (wD true sr out m)) := share_small HW.out hl0 hm.2 hl2
              have hsum := total_any W7.heap.size A9 m c9 (shareL left (wD true sr out m)) W7 hr9.ints (by omega) hsm
              clear hr9 hb7 HSh hn9 hc9 HR8 HO8
              obtain ⟨q0, hq0⟩ : ∃ q0, sumI (shareL left (wD true sr out m)) = q0 := ⟨_, rfl⟩
              rw [hq0] at hsum
              have HQ0 := hide hq0
              clear hq0 hsm
              obtain ⟨g, rfl⟩ : ∃ g, f = g + 1 := ⟨f - 1, by omega⟩
              by_cases hq : q0 = 0
              · have hq' : (q0 == 0) = true := by simpa using hq
                have D := hide (show Row 3 W7 bo (bo + 1) (some ⟨bo, oo, none⟩) m (fl m (flexF true sr m (left0 + 1).toNat left0 base)) by
                  rw [← HF.out, flexF, if_pos (by rw [HQ0.out]; exact hq)]
                  exact HO7.out)
                have DF := hide (show ListR (fl m (flexS base gr sr m space)) w (.returned (.slice (some ⟨bo, oo, none⟩) m co)) W7 from HFin.out _ _ (by rw [HRes.out]; exact D.out) HR7.out)
                have k5 := (HBx.out _ HR7.out).2.1
                clear hq HF HM9 D
                go_wp2_with (go_at_call 59; refine hsum.mono ?_; rintro e w' ⟨rfl, rfl⟩)
                go_ret
                exact DF.out
              · have hq' : (q0 == 0) = false := by simpa using hq
                have hrb := restD_bd (dn := true) (left := left) HW.out HK.out hl0 (by rw [HQ0.out]; exact hq)
                have HF2 := hide (show flexF true sr m g (restD true sr out m left) (stepD true sr out m left) = flexF true sr m (left0 + 1).toNat left0 base by
                  rw [← HF.out, flexF, if_neg (by rw [HQ0.out]; exact hq)])
                have HOm := hide (show Row 3 W7 bo (bo + 1) (some ⟨bo, oo, none⟩) m (fl m (midD true sr out m left 0)) by
                  rw [fl_congr (g := out) (fun i _ => by unfold midD; rw [if_neg (by omega)])]
                  exact HO7.out)
                have HM0 := hide (show midL true sr out m left 0 = left by simp [midL, sumF_nil])
                have HShb := hide (fun t (ht : t < m) => share_bd (dn := true) (out := out) HW.out hl0 ht)
                have HSh2 := hide (fun t (ht : t < m) => share_small (dn := true) (out := out) HW.out hl0 hm.2 hl2 _ (getD_mem (xs := shareL left (wD true sr out m)) (by rw [shareL_len, wD_len]; exact ht)))
                have HmL := hide (fun t (ht : t ≤ m) => midL_bd (dn := true) (left := left) HW.out HK.out hl0 ht)
                clear hq HF HQ0 HO7
                go_wp2_with (go_at_call 59; refine hsum.mono ?_; rintro e w' ⟨rfl, rfl⟩)
                clear hsum
                go_loopw [8, 16, 17, 18, 19, 75] (fun s8 _ _ _ _ s75 wr => ∃ (t : Nat) (Wc : World), t ≤ m ∧ s8 = .int .i64 (midL true sr out m left t) ∧ s75 = .int .i64 t ∧ Wc = wr ∧ Hid (Row 3 Wc bo (bo + 1) (some ⟨bo, oo, none⟩) m (fl m (midD true sr out m left t))) ∧ Hid (Row 3 Wc W8.heap.size W7.heap.size A9 m (shareL left (wD true sr out m))) ∧ Hid (Only bo (bo + 1) Wm Wc)) (fun _ _ _ _ _ s75 _ => m - (intOf s75).toNat)
                case atStart => exact ⟨0, _, Nat.zero_le _, by rw [HM0.out], rfl, rfl, HOm, HM9, HR7⟩
                case round =>
                  clear HOm HM9 HR7 HM0
                  obtain ⟨t, Wc, htm, rfl, rfl, rfl, HOm, HM9, HR8⟩ := hrel
                  have hzc := HR8.out.size
                  have hmb := HmL.out t htm
                  obtain ⟨L, hL⟩ : ∃ L, midL true sr out m left t = L := ⟨_, rfl⟩
                  rw [hL] at hmb
                  rw [hL]
                  have HLt := hide hL
                  clear hL
                  by_cases hlt : t < m
                  · have hlt' : (t : Int) < (m : Int) := by omega
                    have hwc := ((HBx.out _ HR8.out).2.2 t hlt).2.2.2.2
                    have hoc := (HOm.out.cell t hlt).1
                    rw [fl_at _ hlt] at hoc
                    obtain ⟨ag, aof, rfl, -, hsh⟩ := HM9.out.ints.2.2 (by omega)
                    have hc3 := hsh t hlt
                    have hoo := HK.out t hlt
                    have hss := HShb.out t hlt
                    have hss2 := HSh2.out t hlt
                    obtain ⟨o, ho⟩ : ∃ o, out t = o := ⟨_, rfl⟩
                    obtain ⟨y, hy⟩ : ∃ y, sr t = y := ⟨_, rfl⟩
                    obtain ⟨s, hs⟩ : ∃ s, (shareL left (wD true sr out m)).getD t 0 = s := ⟨_, rfl⟩
                    have HMid := hide (show midD true sr out m left t t = o from (if_neg (by omega)).trans ho)
                    rw [HMid.out] at hoc
                    rw [hy] at hwc
                    rw [hs] at hc3 hss hss2
                    rw [ho] at hoo
                    have HT := hide (show takeD true sr out m left t = min s o by unfold takeD farD; rw [hs, ho]; rw [if_pos rfl])
                    have HO := hide ho
                    clear ho hs hy hsh
                    have hroom := room2_any w.heap.size (w.heap.size + 1 + 1) b off bo oo m c co t o y Wc (HBx.out _ HR8.out).1 (HBx.out _ HR8.out).2.1 hlt hm.2 ((HBx.out _ HR8.out).2.2 t hlt).2.1 hwc hoc hoo
                    have hsr : s ≤ 1000000000 := by omega
                    clear hss2 hwc hoc
                    by_cases hle : o < s
                    · have D := hide (show fl m (midD true sr out m left (t + 1)) = (fl m (midD true sr out m left t)).set t (o + -o) by
                        rw [fl_set]
                        refine fl_congr fun j hj => ?_
                        by_cases e : j = t
                        · subst e; rw [if_pos rfl]; unfold midD; rw [if_pos (by omega)]; unfold stepD; rw [HO.out, HT.out]; rw [if_pos rfl]; omega
                        · rw [if_neg e]; unfold midD; by_cases e2 : j < t
                          · rw [if_pos (by omega), if_pos e2]
                          · rw [if_neg (by omega), if_neg e2])
                      have D2 := hide (show midL true sr out m left (t + 1) = L - o by have h := HLt.out; unfold midL at h ⊢; rw [sumF_range_succ, HT.out]; omega)
                      clear HLt HT HO
                      go_wp2_with (go_at_fn 61; refine hroom.mono ?_; rintro e Wd ⟨rfl, hb⟩; have HRd := hide (HR8.out.trans (Only.ofBelow hb)); have HOd := hide (HOm.out.belowS hb); have HMd := hide (HM9.out.belowS hb); have k5 := (HBx.out _ HRd.out).2.1; have hoc1 := (HOd.out.cell t hlt).1; have hfo1 := (HOd.out.cell t hlt).2; rw [fl_at _ hlt, HMid.out] at hoc1; clear hb)
                      go_roundw
                      case rel => exact ⟨t + 1, _, by omega, by rw [D2.out], by go_num, rfl, by rw [D.out]; exact hide (HOd.out.put hlt (o + -o)), hide (HMd.out.keep fun k h1 _ _ => Below.heap_setCell _ _ _ _ (by show k ≠ bo; omega)), hide (HRd.out.set (Nat.le_refl _) (Nat.lt_succ_self _) _)⟩
                      case measure => simp [intOf]; omega
                    · have D := hide (show fl m (midD true sr out m left (t + 1)) = (fl m (midD true sr out m left t)).set t (o + -s) by
                        rw [fl_set]
                        refine fl_congr fun j hj => ?_
                        by_cases e : j = t
                        · subst e; rw [if_pos rfl]; unfold midD; rw [if_pos (by omega)]; unfold stepD; rw [HO.out, HT.out]; rw [if_pos rfl]; omega
                        · rw [if_neg e]; unfold midD; by_cases e2 : j < t
                          · rw [if_pos (by omega), if_pos e2]
                          · rw [if_neg (by omega), if_neg e2])
                      have D2 := hide (show midL true sr out m left (t + 1) = L - s by have h := HLt.out; unfold midL at h ⊢; rw [sumF_range_succ, HT.out]; omega)
                      clear HLt HT HO
                      go_wp2_with (go_at_fn 61; refine hroom.mono ?_; rintro e Wd ⟨rfl, hb⟩; have HRd := hide (HR8.out.trans (Only.ofBelow hb)); have HOd := hide (HOm.out.belowS hb); have HMd := hide (HM9.out.belowS hb); have k5 := (HBx.out _ HRd.out).2.1; have hoc1 := (HOd.out.cell t hlt).1; have hfo1 := (HOd.out.cell t hlt).2; rw [fl_at _ hlt, HMid.out] at hoc1; clear hb)
                      go_roundw
                      case rel => exact ⟨t + 1, _, by omega, by rw [D2.out], by go_num, rfl, by rw [D.out]; exact hide (HOd.out.put hlt (o + -s)), hide (HMd.out.keep fun k h1 _ _ => Below.heap_setCell _ _ _ _ (by show k ≠ bo; omega)), hide (HRd.out.set (Nat.le_refl _) (Nat.lt_succ_self _) _)⟩
                      case measure => simp [intOf]; omega
                  · obtain rfl : m = t := by omega
                    have D := hide (show restD true sr out m left = L by rw [← HLt.out]; rfl)
                    have DO := hide (show Row 3 Wc bo (bo + 1) (some ⟨bo, oo, none⟩) m (fl m (stepD true sr out m left)) by
                      rw [← fl_congr (f := midD true sr out m left m) (fun j hj => by unfold midD; rw [if_pos hj])]; exact HOm.out)
                    rw [D.out] at hrb HF2
                    clear HLt HOm HM9
                    go_wp2
                    go_roundw
                    case rel => exact ⟨L, g, _, _, hrb.1, by omega, by omega, rfl, rfl, HF2, HK3, DO, HR8⟩
                    case measure => simp [intOf]; omega
end Go.Proofs.Ythgliihdaockoaa
