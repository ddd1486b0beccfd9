/- Places in a grid, the program's and the reference's: what they compute, at all arguments. Conditions: none. -/
import Derived.Test.YtldmnpflcnmcpaaPlaceM
import Derived.Test.YtldmnpflcnmcpaaFrame
namespace Go.Proofs.Ytldmnpflcnmcpaa
open Go.RowKit
set_option linter.unusedVariables false

def okP (ws : List Int) (c : Int) : Bool := inR c 1 8 && (decide (ws.length ≤ 12) && inAll ws 1 c)
theorem okP_iff {ws : List Int} {c : Int} : okP ws c = true ↔ (1 ≤ c ∧ c ≤ 8) ∧ ws.length ≤ 12 ∧ Wid c ws := by
  simp only [okP, Bool.and_eq_true, inR_iff, decide_eq_true_eq, inAll_iff]
  exact Iff.rfl
/-- how many places there are -/
def lenP (ws : List Int) (c : Int) : Nat := if okP ws c = true then ws.length else 0
theorem lenP_le (ws : List Int) (c : Int) : lenP ws c ≤ 12 ∧ lenP ws c ≤ ws.length := by
  unfold lenP
  split
  · rename_i h; have := okP_iff.1 h; omega
  · omega
/-- a list of n lists of two numbers each, all in blocks between lo and hi, no two in one block -/
structure PL (w : World) (lo hi : Nat) (A : Option Addr) (n : Nat) (gs : List Nat) (R C : Nat → Int) : Prop where
  len : gs.length = n
  out : 0 < n → ∃ g off, A = some ⟨g, off, none⟩ ∧ lo ≤ g ∧ g < hi ∧ (∀ i, i < n → w.cell? ⟨g, off + i, none⟩ = some (.slice (some ⟨gs.getD i 0, 0, none⟩) 2 2)) ∧ ∀ i, i < n → gs.getD i 0 ≠ g
  inn : ∀ i, i < n → lo ≤ gs.getD i 0 ∧ gs.getD i 0 < hi ∧ Row 3 w (gs.getD i 0) (gs.getD i 0 + 1) (some ⟨gs.getD i 0, 0, none⟩) 2 [R i, C i]
  dis : ∀ i j, i < j → j < n → gs.getD i 0 ≠ gs.getD j 0
section
variable {w w' : World} {lo hi n : Nat} {A : Option Addr} {gs : List Nat} {R C : Nat → Int}
theorem PL.keep (h : PL w lo hi A n gs R C) (hk : ∀ k, lo ≤ k → k < hi → k < w.heap.size → w'.heap[k]? = w.heap[k]?) : PL w' lo hi A n gs R C where
  len := h.len
  out := fun hn => by
    obtain ⟨g, off, e, h1, h2, h3, h4⟩ := h.out hn
    refine ⟨g, off, e, h1, h2, fun i hi => ?_, h4⟩
    have h5 := cell_lt (h3 i hi)
    rw [← h3 i hi]
    exact World.cell?_of_block (w := w) (hk g h1 h2 h5)
  inn := fun i hi => by
    obtain ⟨h1, h2, h3⟩ := h.inn i hi
    exact ⟨h1, h2, h3.keep fun k k1 k2 k3 => hk k (by omega) (by omega) k3⟩
  dis := h.dis
theorem PL.below {B : Nat} (h : PL w lo hi A n gs R C) (hb : Below B w w') (hB : hi ≤ B) : PL w' lo hi A n gs R C := h.keep fun k _ h2 _ => hb.block k (by omega)
theorem PL.belowS (h : PL w lo hi A n gs R C) (hb : Below w.heap.size w w') : PL w' lo hi A n gs R C := h.keep fun k _ _ h3 => hb.block k h3
theorem PL.far {lo' hi' : Nat} (h : PL w lo hi A n gs R C) (ho : Only lo' hi' w w') (hd : hi ≤ lo' ∨ hi' ≤ lo) : PL w' lo hi A n gs R C := h.keep fun k h1 h2 h3 => ho.block k h3 (by omega)
theorem PL.mono {lo' hi' : Nat} (h : PL w lo hi A n gs R C) (h1 : lo' ≤ lo) (h2 : hi ≤ hi') : PL w lo' hi' A n gs R C where
  len := h.len
  out := fun hn => by
    obtain ⟨g, off, e, a, b, r⟩ := h.out hn
    exact ⟨g, off, e, by omega, by omega, r⟩
  inn := fun i hi => by
    obtain ⟨a, b, r⟩ := h.inn i hi
    exact ⟨by omega, by omega, r⟩
  dis := h.dis
theorem PL.congr {R' C' : Nat → Int} (h : PL w lo hi A n gs R C) (hR : ∀ i, i < n → R i = R' i) (hC : ∀ i, i < n → C i = C' i) : PL w lo hi A n gs R' C' where
  len := h.len
  out := h.out
  inn := fun i hi => by rw [← hR i hi, ← hC i hi]; exact h.inn i hi
  dis := h.dis
theorem PL.nil (w : World) (lo hi : Nat) (A : Option Addr) (R C : Nat → Int) : PL w lo hi A 0 [] R C :=
  ⟨rfl, fun h => by omega, fun i hi => by omega, fun i j _ h => by omega⟩
theorem PL.take (h : PL w lo hi A n gs R C) {m : Nat} (hm : m ≤ n) : PL w lo hi A m (gs.take m) R C := by
  have hg : ∀ i, i < m → (gs.take m).getD i 0 = gs.getD i 0 := fun i hi => by simp [List.getD_eq_getElem?_getD, hi]
  refine ⟨by rw [List.length_take, h.len]; omega, fun hn => ?_, fun i hi => ?_, fun i j hij hj => ?_⟩
  · obtain ⟨g, off, e, h1, h2, h3, h4⟩ := h.out (by omega)
    exact ⟨g, off, e, h1, h2, fun i hi => by rw [hg i hi]; exact h3 i (by omega), fun i hi => by rw [hg i hi]; exact h4 i (by omega)⟩
  · rw [hg i hi]; exact h.inn i (by omega)
  · rw [hg i (by omega), hg j hj]; exact h.dis i j hij (by omega)
end
/-- such a list is handed back, new -/
def MadeP (n : Nat) (R C : Nat → Int) (w : World) (e : Ending) (w' : World) : Prop :=
  ∃ (A : Option Addr) (c : Nat) (gs : List Nat), e = .returned (.slice A n c) ∧ n ≤ c ∧ c ≤ 9223372036854775807 ∧ PL w' w.heap.size w'.heap.size A n gs R C ∧ Below w.heap.size w w'
theorem madeP_nil {w w' : World} {n : Nat} (h : n = 0) (R C : Nat → Int) (hb : Below w.heap.size w w') : MadeP n R C w (.returned (.slice none 0 0)) w' := by
  subst h
  exact ⟨none, 0, [], rfl, Nat.le_refl _, by omega, PL.nil _ _ _ _ _ _, hb⟩

theorem ints_info : (Try.prog.info? 22).map (fun i => (i.zero, i.size, i.bytes)) = some (some (.slice none 0 0), 1, 24) := by kernel_rfl
theorem mk_lists0 (n : Nat) (hn : n ≤ 1099511627776) (w : World) :
    (Instr.makeSlice 27 (.int .i64 0) (.int .i64 (n : Int))).run Try.prog w = .ok (.slice (some ⟨w.heap.size, 0, none⟩) 0 n) (w.alloc (.cells (madeCells #[.slice none 0 0] n) 22)) := by
  obtain ⟨i0, hi, hz0, hz1, hz2⟩ := info_parts ints_info
  have h := run_make w 27 22 i0 (.slice none 0 0) Try.underlying27 hi hz0 .i64 .i64 0 n (by omega) (by omega) (by rw [hz2]; omega) (by omega)
  simpa [hz1, Value.cells] using h
def rowV (gs : List Nat) : List Value := gs.map fun g => .slice (some ⟨g, 0, none⟩) 2 2
theorem rowV_get {gs : List Nat} {i : Nat} (h : i < gs.length) : (rowV gs)[i]? = some (.slice (some ⟨gs.getD i 0, 0, none⟩) 2 2) := by simp [rowV, List.getD_eq_getElem?_getD, h]
theorem reads_newV (E : TypeId) (w : World) (m : Nat) (vs : List Value) (hl : vs.length = m) :
    Reads (w.alloc (.cells vs.toArray E)) (w.heap.size + 1) 1 (some ⟨w.heap.size, 0, none⟩) m vs :=
  ⟨by rw [hl, Nat.mul_one], fun _ => ⟨⟨w.heap.size, 0, none⟩, rfl, Nat.lt_succ_self _, fun j u hu => by
    have e : (⟨w.heap.size, 0, none⟩ : Addr).add j = ⟨w.heap.size, j, none⟩ := by by_cases hj : j = 0 <;> simp [Addr.add, hj]
    rw [e, cell_of_row _ _ j _ E (0, 0) (heap_alloc_new w _)]
    simpa using hu⟩⟩
/-- the list so far -/
def PlRel (w : World) (k : Nat) (R C : Nat → Int) (s : Value) (wr : World) : Prop :=
  ∃ gs : List Nat, gs.length = k ∧ wr.ownsRow w.heap.size 22 1 s k (rowV gs) ∧ (∀ i, i < k → w.heap.size ≤ gs.getD i 0 ∧ gs.getD i 0 < wr.heap.size ∧ Row 3 wr (gs.getD i 0) (gs.getD i 0 + 1) (some ⟨gs.getD i 0, 0, none⟩) 2 [R i, C i] ∧ s.ownBlock ≠ some (gs.getD i 0)) ∧
    (∀ i j, i < j → j < k → gs.getD i 0 ≠ gs.getD j 0) ∧ Below w.heap.size w wr
theorem PlRel.form {w wr : World} {k : Nat} {R C : Nat → Int} {s : Value} (h : PlRel w k R C s wr) : ∃ (A : Option Addr) (c : Nat), s = .slice A k c ∧ k ≤ c ∧ c ≤ 9223372036854775807 := by
  obtain ⟨gs, hl, ho, _⟩ := h
  rcases ho.2 with ⟨rfl, h0⟩ | ⟨g, cap, cur, rfl, hb, hg, hnc, hm, hs, ht⟩
  · subst h0
    exact ⟨none, 0, rfl, Nat.le_refl _, by omega⟩
  · exact ⟨_, _, rfl, hnc, hm⟩
theorem PlRel.made {w wr : World} {k c : Nat} {R C : Nat → Int} {A : Option Addr} (h : PlRel w k R C (.slice A k c) wr) : MadeP k R C w (.returned (.slice A k c)) wr := by
  obtain ⟨A', c', e, h1, h2⟩ := h.form
  injection e with e1 e2 e3
  subst e1 e3
  obtain ⟨gs, hl, ho, hin, hd, hb⟩ := h
  refine ⟨A, c, gs, rfl, h1, h2, ⟨hl, fun hn => ?_, fun i hi => ?_, hd⟩, hb⟩
  · rcases ho.2 with ⟨e, h0⟩ | ⟨g, cap, cur, e, hbg, hg, hnc, hm, hs, ht⟩
    · omega
    · injection e with e1 e2 e3
      refine ⟨g, 0, e1, hbg, (Array.getElem?_eq_some_iff.1 hg).1, fun i hi => ?_, fun i hi => ?_⟩
      · have h4 := rowV_get (gs := gs) (i := i) (by omega)
        rw [← ht, List.getElem?_take, if_pos (by omega)] at h4
        rw [Nat.zero_add, cell_of_row wr g i _ 22 (0, 0) hg, ← h4, Array.getElem?_toList]
      · intro he
        exact (hin i hi).2.2.2 (by rw [e1, he]; rfl)
  · obtain ⟨a1, a2, a3, _⟩ := hin i hi
    exact ⟨a1, a2, a3⟩
theorem PlRel.start (w w1 : World) (cur : Array Value) (cap : Nat) (R C : Nat → Int) (hb : Below w.heap.size w w1) (hc : cap ≤ 9223372036854775807) (hs : cur.size = cap) : PlRel w 0 R C (.slice (some ⟨w1.heap.size, 0, none⟩) 0 cap) (w1.alloc (.cells cur 22)) :=
  ⟨[], rfl, World.ownsRow_made w1 cur cap hb.size hc (by rw [hs, Nat.mul_one]), fun i hi => by omega, fun i j _ h => by omega, hb.alloc hb.size _⟩
/-- a place more -/
theorem PlRel.push {w wr w' : World} {k : Nat} {R C : Nat → Int} {s v' : Value} {gs : List Nat} (hl : gs.length = k) (ho : wr.ownsRow w.heap.size 22 1 s k (rowV gs))
    (hin : ∀ i, i < k → w.heap.size ≤ gs.getD i 0 ∧ gs.getD i 0 < wr.heap.size ∧ Row 3 wr (gs.getD i 0) (gs.getD i 0 + 1) (some ⟨gs.getD i 0, 0, none⟩) 2 [R i, C i] ∧ s.ownBlock ≠ some (gs.getD i 0))
    (hd : ∀ i j, i < j → j < k → gs.getD i 0 ≠ gs.getD j 0) (hb : Below w.heap.size w wr)
    (ho' : w'.ownsRow w.heap.size 22 1 v' (k + 1) (rowV gs ++ [.slice (some ⟨wr.heap.size, 0, none⟩) 2 2])) (hg : ((wr.alloc (.cells #[.int .i64 (R k), .int .i64 (C k)] 3)).alloc (.cells #[.slice (some ⟨wr.heap.size, 0, none⟩) 2 2] 22)).grownBy w' s.ownBlock)
    (hv : v'.ownBlock = s.ownBlock ∨ v'.ownBlock = some (wr.heap.size + 2)) : PlRel w (k + 1) R C v' w' := by
  have hsz : ((wr.alloc (.cells #[.int .i64 (R k), .int .i64 (C k)] 3)).alloc (.cells #[.slice (some ⟨wr.heap.size, 0, none⟩) 2 2] 22)).heap.size = wr.heap.size + 2 := by simp
  have hb2 : Below wr.heap.size wr ((wr.alloc (.cells #[.int .i64 (R k), .int .i64 (C k)] 3)).alloc (.cells #[.slice (some ⟨wr.heap.size, 0, none⟩) 2 2] 22)) := ((Below.refl _ _).alloc (Nat.le_refl _) _).alloc (by simp) _
  have hgw : wr.grownBy w' s.ownBlock := only_trans ⟨hb2.os, hb2.tape, hb2.output, hb2.size, fun i hi _ => hb2.block i hi⟩ hg
  have hlt := World.ownsRow.lt ho
  have hsl : s.ownBlock ≠ some wr.heap.size := fun e => by have := hlt _ e; omega
  have hwz := hg.size
  have hget1 : ∀ i, i < k → (gs ++ [wr.heap.size]).getD i 0 = gs.getD i 0 := fun i hi => by simp [List.getD_eq_getElem?_getD, List.getElem?_append_left (show i < gs.length by omega)]
  have hget2 : (gs ++ [wr.heap.size]).getD k 0 = wr.heap.size := by simp [List.getD_eq_getElem?_getD, ← hl]
  have hbn : Below w.heap.size w w' := hb.trans ⟨hgw.os, hgw.tape, hgw.output, hgw.size, fun i hi => hgw.block i (by have := hb.size; omega) (fun e => by have := hlt i e.symm; omega)⟩
  refine ⟨gs ++ [wr.heap.size], by rw [List.length_append, hl]; rfl, by rw [show rowV (gs ++ [wr.heap.size]) = rowV gs ++ [.slice (some ⟨wr.heap.size, 0, none⟩) 2 2] from List.map_append]; exact ho', fun i hi => ?_, fun i j hij hj => ?_, hbn⟩
  · by_cases e : i = k
    · subst e
      rw [hget2]
      refine ⟨hb.size, by omega, ⟨rfl, fun _ => ⟨wr.heap.size, 0, #[.int .i64 (R i), .int .i64 (C i)], rfl, Nat.le_refl _, Nat.lt_succ_self _, ?_, by simp, fun j hj => ?_⟩⟩, ?_⟩
      · refine (hg.block wr.heap.size (by omega) (Ne.symm hsl)).trans ((Below.heap_alloc _ _ _ (by simp)).trans (heap_alloc_new wr _))
      · rcases j with _ | _ | j
        · rfl
        · rfl
        · omega
      · rcases hv with hv | hv
        · rw [hv]; exact hsl
        · rw [hv]; intro e; injection e with e; omega
    · rw [hget1 i (by omega)]
      obtain ⟨a1, a2, a3, a4⟩ := hin i (by omega)
      refine ⟨a1, by omega, a3.keep fun j h1 h2 h3 => hgw.block j h3 (fun e => a4 (by rw [← e, show j = gs.getD i 0 by omega])), ?_⟩
      rcases hv with hv | hv
      · rw [hv]; exact a4
      · rw [hv]; intro e; injection e with e; omega
  · by_cases e : j = k
    · subst e
      rw [hget2, hget1 i hij]
      have := hin i hij
      omega
    · rw [hget1 i (by omega), hget1 j (by omega)]
      exact hd i j hij (by omega)
set_option maxHeartbeats 4000000 in
theorem implAuto_any (B : Nat) (a : Option Addr) (n c : Nat) (xs : List Int) (cc : Int) (w : World) (hA : Ints .i64 w B a n xs) (hB : B ≤ w.heap.size) (hn : n ≤ 1048576) :
    Calls Try.prog 19 #[.slice a n c, .int .i64 cc] w (MadeP (lenP xs cc) (plR xs cc) (plC xs cc) w) := by
  obtain ⟨j0, hj, hj0, hj1, hj2⟩ := info_parts ints_info
  have hl := hide hA.1
  have HA := hide hA
  clear hA
  cases hc1 : inR cc 1 8
  case false =>
    have hs := hide (show lenP xs cc = 0 from if_neg (by simp [okP, hc1]))
    go_enter Try.func19, Try.ntmps19
    go_wp2_with (go_at_call 37; refine (within_any _ _ _ _).mono ?_; rintro e w' ⟨rfl, rfl⟩)
    go_ret
    exact madeP_nil hs.out _ _ (Below.refl _ _)
  case true =>
    by_cases h12 : n ≤ 12
    case neg =>
      have hs := hide (show lenP xs cc = 0 from if_neg (by simp [okP, hl.out, h12]))
      go_enter Try.func19, Try.ntmps19
      go_wp2_with (go_at_call 37; refine (within_any _ _ _ _).mono ?_; rintro e w' ⟨rfl, rfl⟩)
      go_ret
      exact madeP_nil hs.out _ _ (Below.refl _ _)
    case pos =>
      cases hall : inAll xs 1 cc
      case false =>
        have hs := hide (show lenP xs cc = 0 from if_neg (by simp [okP, hall]))
        go_enter Try.func19, Try.ntmps19
        go_wp2_with (first
          | (go_at_call 37; refine (within_any _ _ _ _).mono ?_; rintro e w' ⟨rfl, rfl⟩)
          | (go_at_call 38; refine (implAllIn_any B _ _ _ xs _ _ _ HA.out hB (by omega)).mono ?_; rintro e w1 ⟨rfl, hb⟩; have HB := hide hb; have hz := hb.size; clear hb))
        go_ret
        exact madeP_nil hs.out _ _ HB.out
      case true =>
        have hok := hide (show okP xs cc = true by simp [okP, hc1, hall, hl.out, h12])
        obtain ⟨⟨c0, c8⟩, _, hw⟩ := okP_iff.1 hok.out
        have HD := hide (fun (k : Nat) (hk : k < xs.length) => hw.at hk)
        have HE := hide (fun (k : Nat) (hk : k ≤ xs.length) => end_bd (show 0 ≤ cc by omega) hw hk)
        have hs := hide (show lenP xs cc = n by rw [lenP, if_pos hok.out, hl.out])
        clear hw hok
        have hmk := mk_lists0 n (by omega)
        go_enter Try.func19, Try.ntmps19
        go_wp2_with (first
          | (go_at_call 37; refine (within_any _ _ _ _).mono ?_; rintro e w' ⟨rfl, rfl⟩)
          | (go_at_call 38; refine (implAllIn_any B _ _ _ xs _ _ _ HA.out hB (by omega)).mono ?_; rintro e w1 ⟨rfl, hb⟩; have HB := hide hb; have hz := hb.size; clear hb))
        have HS := hide (show PlRel w 0 (plR xs cc) (plC xs cc) (.slice (some ⟨w1.heap.size, 0, none⟩) 0 n) (w1.alloc (.cells (madeCells #[.slice none 0 0] n) 22)) from PlRel.start w w1 _ n _ _ HB.out (by omega) (by rw [size_madeCells]))
        go_loopw [5, 6, 7, 29] (fun s5 s6 s7 si wr => ∃ (k : Nat) (W9 : World), k ≤ n ∧ s6 = .int .i64 (endR xs cc k) ∧ s7 = .int .i64 (endC xs cc k) ∧ si = .int .i64 k ∧ W9 = wr ∧ Hid (PlRel w k (plR xs cc) (plC xs cc) s5 W9)) (fun _ _ _ si _ => n - (intOf si).toNat)
        case atStart => exact ⟨0, _, Nat.zero_le _, by rw [endR], by rw [endC], rfl, rfl, HS⟩
        case round =>
          clear HS
          obtain ⟨k, W9, hk, rfl, rfl, rfl, rfl, A⟩ := hrel
          obtain ⟨A7, c7, hv7, hc71, hc72⟩ := A.out.form
          subst hv7
          by_cases hlt : k < n
          · obtain ⟨gs, hgl, ho, hin, hd, hbw⟩ := A.out
            have hzw := hbw.size
            obtain ⟨bb, off, rfl, hbB, hcell⟩ := (HA.out.below hbw hB).2.2 (by omega)
            have hck := hcell k hlt
            obtain ⟨d0, d1⟩ := HD.out k (by have := hl.out; omega)
            obtain ⟨r0, r1, q0, q1⟩ := HE.out k (by have := hl.out; omega)
            have HR := hide (show plR xs cc k = rowOf cc (endR xs cc k) (endC xs cc k) (xs.getD k 0) from rfl)
            have HC := hide (show plC xs cc k = colOf cc (endC xs cc k) (xs.getD k 0) from rfl)
            have HR1 := hide (endR_succ xs cc k)
            have HC1 := hide (endC_succ xs cc k)
            have HO := hide ho
            have HIN := hide hin
            have HDD := hide hd
            have HW := hide hbw
            clear hcell ho hin hd hbw A
            generalize xs.getD k 0 = y at hck d0 d1 HR HC HC1
            obtain ⟨r, hr⟩ : ∃ r, endR xs cc k = r := ⟨_, rfl⟩
            obtain ⟨q, hq⟩ : ∃ q, endC xs cc k = q := ⟨_, rfl⟩
            rw [hr] at r0 r1 HR ⊢
            rw [hq] at q0 q1 HR HC ⊢
            clear hr hq
            by_cases hgt : cc < q + y
            · have HR2 := hide (show plR xs cc k = r + 1 by rw [HR.out, rowOf, if_pos hgt])
              have HC2 := hide (show plC xs cc k = 0 by rw [HC.out, colOf, if_pos hgt])
              have HOa := hide (show ((W9.alloc (.cells #[.int .i64 (r + 1), .int .i64 (0)] 3)).alloc (.cells #[.slice (some ⟨W9.heap.size, 0, none⟩) 2 2] 22)).ownsRow w.heap.size 22 1 (.slice A7 k c7) k (rowV gs) from World.ownsRow.alloc (World.ownsRow.alloc HO.out _) _)
              have HRd := hide (reads_newV 22 (W9.alloc (.cells #[.int .i64 (r + 1), .int .i64 (0)] 3)) 1 [.slice (some ⟨W9.heap.size, 0, none⟩) 2 2] rfl)
              go_wp2_with (at_builtin; refine wpList_append_any _ rfl (.tmp 40) (.tmp 44) 27 rfl w.heap.size 22 j0 _ 1 24 Try.underlying27 hj hj0 hj1 hj2 rfl (by omega) (.slice A7 k c7) k (rowV gs) rfl HOa.out (W9.heap.size + 1 + 1) (some ⟨W9.heap.size + 1, 0, none⟩) 1 1 [.slice (some ⟨W9.heap.size, 0, none⟩) 2 2] rfl (by simpa using HRd.out) (by simp [Value.oneCell']) (by unfold maxLen; omega) (by omega) (by simp; omega) ?_; intro v1 w1' ho1 hg1 hv1; have D := hide (show PlRel w (k + 1) (plR xs cc) (plC xs cc) v1 w1' from PlRel.push hgl HO.out HIN.out HDD.out HW.out ho1 (by rw [HR2.out, HC2.out]; exact hg1) (by simpa using hv1)); clear ho1 hg1 hv1)
              go_roundw
              case rel => exact ⟨k + 1, _, by omega, by rw [HR1.out, HR2.out], by rw [HC1.out, HC2.out]; simp, by go_num, rfl, D⟩
              case measure => simp [intOf]; omega
            · have HR2 := hide (show plR xs cc k = r by rw [HR.out, rowOf, if_neg hgt])
              have HC2 := hide (show plC xs cc k = q by rw [HC.out, colOf, if_neg hgt])
              have HOa := hide (show ((W9.alloc (.cells #[.int .i64 (r), .int .i64 (q)] 3)).alloc (.cells #[.slice (some ⟨W9.heap.size, 0, none⟩) 2 2] 22)).ownsRow w.heap.size 22 1 (.slice A7 k c7) k (rowV gs) from World.ownsRow.alloc (World.ownsRow.alloc HO.out _) _)
              have HRd := hide (reads_newV 22 (W9.alloc (.cells #[.int .i64 (r), .int .i64 (q)] 3)) 1 [.slice (some ⟨W9.heap.size, 0, none⟩) 2 2] rfl)
              go_wp2_with (at_builtin; refine wpList_append_any _ rfl (.tmp 40) (.tmp 44) 27 rfl w.heap.size 22 j0 _ 1 24 Try.underlying27 hj hj0 hj1 hj2 rfl (by omega) (.slice A7 k c7) k (rowV gs) rfl HOa.out (W9.heap.size + 1 + 1) (some ⟨W9.heap.size + 1, 0, none⟩) 1 1 [.slice (some ⟨W9.heap.size, 0, none⟩) 2 2] rfl (by simpa using HRd.out) (by simp [Value.oneCell']) (by unfold maxLen; omega) (by omega) (by simp; omega) ?_; intro v1 w1' ho1 hg1 hv1; have D := hide (show PlRel w (k + 1) (plR xs cc) (plC xs cc) v1 w1' from PlRel.push hgl HO.out HIN.out HDD.out HW.out ho1 (by rw [HR2.out, HC2.out]; exact hg1) (by simpa using hv1)); clear ho1 hg1 hv1)
              go_roundw
              case rel => exact ⟨k + 1, _, by omega, by rw [HR1.out, HR2.out], by rw [HC1.out, HC2.out], by go_num, rfl, D⟩
              case measure => simp [intOf]; omega
          · obtain rfl : k = n := by omega
            have D := hide (show MadeP (lenP xs cc) (plR xs cc) (plC xs cc) w (.returned (.slice A7 k c7)) W9 by rw [hs.out]; exact A.out.made)
            clear A
            generalize endR xs cc k = r
            generalize endC xs cc k = q
            go_wp2
            go_ret
            exact D.out
set_option maxHeartbeats 4000000 in
theorem specAuto_any (B : Nat) (a : Option Addr) (n c : Nat) (xs : List Int) (cc : Int) (w : World) (hA : Ints .i64 w B a n xs) (hB : B ≤ w.heap.size) (hn : n ≤ 1048576) :
    Calls Try.prog 18 #[.slice a n c, .int .i64 cc] w (MadeP (lenP xs cc) (plR xs cc) (plC xs cc) w) := by
  obtain ⟨j0, hj, hj0, hj1, hj2⟩ := info_parts ints_info
  have hl := hide hA.1
  have HA := hide hA
  have HB := hide ((Below.refl w.heap.size w).alloc (Nat.le_refl _) (.cells #[] 22))
  have HA1 := hide (hA.below HB.out hB)
  clear hA
  cases hc1 : inR cc 1 8
  case false =>
    have hs := hide (show lenP xs cc = 0 from if_neg (by simp [okP, hc1]))
    go_enter Try.func18, Try.ntmps18
    go_wp2_with (go_at_call 35; refine (inRange_any _ _ _ _).mono ?_; rintro e w' ⟨rfl, rfl⟩)
    go_ret
    exact madeP_nil hs.out _ _ HB.out
  case true =>
    by_cases h12 : n ≤ 12
    case neg =>
      have hs := hide (show lenP xs cc = 0 from if_neg (by simp [okP, hl.out, h12]))
      go_enter Try.func18, Try.ntmps18
      go_wp2_with (go_at_call 35; refine (inRange_any _ _ _ _).mono ?_; rintro e w' ⟨rfl, rfl⟩)
      go_ret
      exact madeP_nil hs.out _ _ HB.out
    case pos =>
      cases hall : inAll xs 1 cc
      case false =>
        have hs := hide (show lenP xs cc = 0 from if_neg (by simp [okP, hall]))
        go_enter Try.func18, Try.ntmps18
        go_wp2_with (first
          | (go_at_call 35; refine (inRange_any _ _ _ _).mono ?_; rintro e w' ⟨rfl, rfl⟩)
          | (go_at_call 36; refine (specAllIn_any B _ _ _ xs _ _ _ HA1.out (by omega)).mono ?_; rintro e w1 ⟨rfl, rfl⟩))
        go_ret
        exact madeP_nil hs.out _ _ HB.out
      case true =>
        have hok := hide (show okP xs cc = true by simp [okP, hc1, hall, hl.out, h12])
        obtain ⟨⟨c0, c8⟩, _, hw⟩ := okP_iff.1 hok.out
        have HD := hide (fun (k : Nat) (hk : k < xs.length) => hw.at hk)
        have HE := hide (fun (k : Nat) (hk : k ≤ xs.length) => end_bd (show 0 ≤ cc by omega) hw hk)
        have hs := hide (show lenP xs cc = n by rw [lenP, if_pos hok.out, hl.out])
        clear hw hok
        go_enter Try.func18, Try.ntmps18
        go_wp2_with (first
          | (go_at_call 35; refine (inRange_any _ _ _ _).mono ?_; rintro e w' ⟨rfl, rfl⟩)
          | (go_at_call 36; refine (specAllIn_any B _ _ _ xs _ _ _ HA1.out (by omega)).mono ?_; rintro e w1 ⟨rfl, rfl⟩))
        have HS := hide (show PlRel w 0 (plR xs cc) (plC xs cc) (.slice (some ⟨w.heap.size, 0, none⟩) 0 0) (w.alloc (.cells #[] 22)) from PlRel.start w w _ 0 _ _ (Below.refl _ _) (by omega) rfl)
        go_loopw [5, 6, 7, 8] (fun s5 s6 s7 si wr => ∃ (k : Nat) (W9 : World), k ≤ n ∧ s6 = .int .i64 (endR xs cc k) ∧ s7 = .int .i64 (endC xs cc k) ∧ si = .int .i64 k ∧ W9 = wr ∧ Hid (PlRel w k (plR xs cc) (plC xs cc) s5 W9)) (fun _ _ _ si _ => n - (intOf si).toNat)
        case atStart => exact ⟨0, _, Nat.zero_le _, by rw [endR], by rw [endC], rfl, rfl, HS⟩
        case round =>
          clear HS
          obtain ⟨k, W9, hk, rfl, rfl, rfl, rfl, A⟩ := hrel
          obtain ⟨A7, c7, hv7, hc71, hc72⟩ := A.out.form
          subst hv7
          by_cases hlt : k < n
          · obtain ⟨gs, hgl, ho, hin, hd, hbw⟩ := A.out
            have hzw := hbw.size
            obtain ⟨bb, off, rfl, hbB, hcell⟩ := (HA.out.below hbw hB).2.2 (by omega)
            have hck := hcell k hlt
            obtain ⟨d0, d1⟩ := HD.out k (by have := hl.out; omega)
            obtain ⟨r0, r1, q0, q1⟩ := HE.out k (by have := hl.out; omega)
            have HR := hide (show plR xs cc k = rowOf cc (endR xs cc k) (endC xs cc k) (xs.getD k 0) from rfl)
            have HC := hide (show plC xs cc k = colOf cc (endC xs cc k) (xs.getD k 0) from rfl)
            have HR1 := hide (endR_succ xs cc k)
            have HC1 := hide (endC_succ xs cc k)
            have HO := hide ho
            have HIN := hide hin
            have HDD := hide hd
            have HW := hide hbw
            clear hcell ho hin hd hbw A
            generalize xs.getD k 0 = y at hck d0 d1 HR HC HC1
            obtain ⟨r, hr⟩ : ∃ r, endR xs cc k = r := ⟨_, rfl⟩
            obtain ⟨q, hq⟩ : ∃ q, endC xs cc k = q := ⟨_, rfl⟩
            rw [hr] at r0 r1 HR ⊢
            rw [hq] at q0 q1 HR HC ⊢
            clear hr hq
            by_cases hgt : cc < q + y
            · have HR2 := hide (show plR xs cc k = r + 1 by rw [HR.out, rowOf, if_pos hgt])
              have HC2 := hide (show plC xs cc k = 0 by rw [HC.out, colOf, if_pos hgt])
              have HOa := hide (show ((W9.alloc (.cells #[.int .i64 (r + 1), .int .i64 (0)] 3)).alloc (.cells #[.slice (some ⟨W9.heap.size, 0, none⟩) 2 2] 22)).ownsRow w.heap.size 22 1 (.slice A7 k c7) k (rowV gs) from World.ownsRow.alloc (World.ownsRow.alloc HO.out _) _)
              have HRd := hide (reads_newV 22 (W9.alloc (.cells #[.int .i64 (r + 1), .int .i64 (0)] 3)) 1 [.slice (some ⟨W9.heap.size, 0, none⟩) 2 2] rfl)
              go_wp2_with (at_builtin; refine wpList_append_any _ rfl (.tmp 40) (.tmp 44) 27 rfl w.heap.size 22 j0 _ 1 24 Try.underlying27 hj hj0 hj1 hj2 rfl (by omega) (.slice A7 k c7) k (rowV gs) rfl HOa.out (W9.heap.size + 1 + 1) (some ⟨W9.heap.size + 1, 0, none⟩) 1 1 [.slice (some ⟨W9.heap.size, 0, none⟩) 2 2] rfl (by simpa using HRd.out) (by simp [Value.oneCell']) (by unfold maxLen; omega) (by omega) (by simp; omega) ?_; intro v1 w1' ho1 hg1 hv1; have D := hide (show PlRel w (k + 1) (plR xs cc) (plC xs cc) v1 w1' from PlRel.push hgl HO.out HIN.out HDD.out HW.out ho1 (by rw [HR2.out, HC2.out]; exact hg1) (by simpa using hv1)); obtain ⟨_, _, _, _, _, hbd⟩ := D.out; have hck2 := (hbd.cell (p := ⟨bb, off + k, none⟩) (by show bb < w.heap.size; omega)).trans ((HW.out.cell (p := ⟨bb, off + k, none⟩) (by show bb < w.heap.size; omega)).symm.trans hck); clear hbd; clear ho1 hg1 hv1)
              go_roundw
              case rel => exact ⟨k + 1, _, by omega, by rw [HR1.out, HR2.out], by rw [HC1.out, HC2.out]; simp, by go_num, rfl, D⟩
              case measure => simp [intOf]; omega
            · have HR2 := hide (show plR xs cc k = r by rw [HR.out, rowOf, if_neg hgt])
              have HC2 := hide (show plC xs cc k = q by rw [HC.out, colOf, if_neg hgt])
              have HOa := hide (show ((W9.alloc (.cells #[.int .i64 (r), .int .i64 (q)] 3)).alloc (.cells #[.slice (some ⟨W9.heap.size, 0, none⟩) 2 2] 22)).ownsRow w.heap.size 22 1 (.slice A7 k c7) k (rowV gs) from World.ownsRow.alloc (World.ownsRow.alloc HO.out _) _)
              have HRd := hide (reads_newV 22 (W9.alloc (.cells #[.int .i64 (r), .int .i64 (q)] 3)) 1 [.slice (some ⟨W9.heap.size, 0, none⟩) 2 2] rfl)
              go_wp2_with (at_builtin; refine wpList_append_any _ rfl (.tmp 40) (.tmp 44) 27 rfl w.heap.size 22 j0 _ 1 24 Try.underlying27 hj hj0 hj1 hj2 rfl (by omega) (.slice A7 k c7) k (rowV gs) rfl HOa.out (W9.heap.size + 1 + 1) (some ⟨W9.heap.size + 1, 0, none⟩) 1 1 [.slice (some ⟨W9.heap.size, 0, none⟩) 2 2] rfl (by simpa using HRd.out) (by simp [Value.oneCell']) (by unfold maxLen; omega) (by omega) (by simp; omega) ?_; intro v1 w1' ho1 hg1 hv1; have D := hide (show PlRel w (k + 1) (plR xs cc) (plC xs cc) v1 w1' from PlRel.push hgl HO.out HIN.out HDD.out HW.out ho1 (by rw [HR2.out, HC2.out]; exact hg1) (by simpa using hv1)); obtain ⟨_, _, _, _, _, hbd⟩ := D.out; have hck2 := (hbd.cell (p := ⟨bb, off + k, none⟩) (by show bb < w.heap.size; omega)).trans ((HW.out.cell (p := ⟨bb, off + k, none⟩) (by show bb < w.heap.size; omega)).symm.trans hck); clear hbd; clear ho1 hg1 hv1)
              go_roundw
              case rel => exact ⟨k + 1, _, by omega, by rw [HR1.out, HR2.out], by rw [HC1.out, HC2.out], by go_num, rfl, D⟩
              case measure => simp [intOf]; omega
          · obtain rfl : k = n := by omega
            have D := hide (show MadeP (lenP xs cc) (plR xs cc) (plC xs cc) w (.returned (.slice A7 k c7)) W9 by rw [hs.out]; exact A.out.made)
            clear A
            generalize endR xs cc k = r
            generalize endC xs cc k = q
            go_wp2
            go_ret
            exact D.out
def rowsS (ws : List Int) (c : Int) : Int := if okP ws c = true then rowsL ws c else -1
/-- the rows of the first k places -/
def rowTo (ws : List Int) (c : Int) : Nat → Int
  | 0 => 0
  | k + 1 => plR ws c k + 1
theorem rowTo_succ (ws : List Int) (c : Int) (k : Nat) : rowTo ws c (k + 1) = plR ws c k + 1 := rfl
theorem rowsL_to (ws : List Int) (c : Int) : rowsL ws c = rowTo ws c ws.length := by
  unfold rowsL
  generalize ws.length = n
  cases n with
  | zero => rfl
  | succ n => rw [if_neg (by omega), endR_succ]; rfl
set_option maxHeartbeats 2000000 in
theorem implRows_any (B : Nat) (a : Option Addr) (n c : Nat) (xs : List Int) (cc : Int) (w : World) (hA : Ints .i64 w B a n xs) (hB : B ≤ w.heap.size) (hn : n ≤ 1048576) :
    Calls Try.prog 16 #[.slice a n c, .int .i64 cc] w fun e w' => e = .returned (.int .i64 (rowsS xs cc)) ∧ Below w.heap.size w w' := by
  have hl := hide hA.1
  have HA := hide hA
  clear hA
  cases hc1 : inR cc 1 8
  case false =>
    have hs := hide (show rowsS xs cc = -1 from if_neg (by simp [okP, hc1]))
    go_enter Try.func16, Try.ntmps16
    go_wp2_with (go_at_call 37; refine (within_any _ _ _ _).mono ?_; rintro e w' ⟨rfl, rfl⟩)
    go_ret
    exact ⟨ret_int hs.out.symm, Below.refl _ _⟩
  case true =>
    by_cases h12 : n ≤ 12
    case neg =>
      have hs := hide (show rowsS xs cc = -1 from if_neg (by simp [okP, hl.out, h12]))
      go_enter Try.func16, Try.ntmps16
      go_wp2_with (go_at_call 37; refine (within_any _ _ _ _).mono ?_; rintro e w' ⟨rfl, rfl⟩)
      go_ret
      exact ⟨ret_int hs.out.symm, Below.refl _ _⟩
    case pos =>
      cases hall : inAll xs 1 cc
      case false =>
        have hs := hide (show rowsS xs cc = -1 from if_neg (by simp [okP, hall]))
        go_enter Try.func16, Try.ntmps16
        go_wp2_with (first
          | (go_at_call 37; refine (within_any _ _ _ _).mono ?_; rintro e w' ⟨rfl, rfl⟩)
          | (go_at_call 38; refine (implAllIn_any B _ _ _ xs _ _ _ HA.out hB (by omega)).mono ?_; rintro e w1 ⟨rfl, hb⟩; have HB := hide hb; have hz := hb.size; clear hb))
        go_ret
        exact ⟨ret_int hs.out.symm, HB.out⟩
      case true =>
        have hok := hide (show okP xs cc = true by simp [okP, hc1, hall, hl.out, h12])
        obtain ⟨⟨c0, c8⟩, _, hw⟩ := okP_iff.1 hok.out
        have HE := hide (fun (k : Nat) (hk : k < xs.length) => pl_bd (show 0 ≤ cc by omega) hw hk)
        have hs := hide (show lenP xs cc = n by rw [lenP, if_pos hok.out, hl.out])
        have hrs := hide (show rowsS xs cc = rowTo xs cc n by rw [rowsS, if_pos hok.out, rowsL_to, hl.out])
        clear hw hok
        go_enter Try.func16, Try.ntmps16
        go_wp2_with (first
          | (go_at_call 37; refine (within_any _ _ _ _).mono ?_; rintro e w' ⟨rfl, rfl⟩)
          | (go_at_call 38; refine (implAllIn_any B _ _ _ xs _ _ _ HA.out hB (by omega)).mono ?_; rintro e w1 ⟨rfl, hb⟩; have HB := hide hb; have hz := hb.size; clear hb))
        refine (implAuto_any B a n c xs cc _ (HA.out.below HB.out hB) (by omega) hn).mono ?_
        rintro e W2 ⟨P, Pc, gs, rfl, hP1, hP2, hPL, hb⟩
        have HPL := hide hPL
        have HW := hide hb
        have hzw := hb.size
        clear hPL hb hall
        rw [hs.out] at hP1 HPL ⊢
        go_wp2
        go_loop [5, 26] (fun s5 s26 => ∃ k : Nat, k ≤ n ∧ s5 = .int .i64 (rowTo xs cc k) ∧ s26 = .int .i64 k) (fun _ s26 => n - (intOf s26).toNat)
        case atStart => exact ⟨0, Nat.zero_le _, rfl, rfl⟩
        case round =>
          obtain ⟨k, hk, rfl, rfl⟩ := hrel
          by_cases hlt : k < n
          · obtain ⟨g, off, rfl, _, _, hcell, _⟩ := HPL.out.out (by omega)
            obtain ⟨_, _, hrow⟩ := HPL.out.inn k hlt
            have hck := hcell k hlt
            have hcr := (hrow.cell 0 (by omega)).1
            obtain ⟨r0, r1, q0, q1⟩ := HE.out k (by have := hl.out; omega)
            have HT := hide (rowTo_succ xs cc k)
            rw [show ([plR xs cc k, plC xs cc k].getD 0 0 : Int) = plR xs cc k from rfl, Nat.add_zero] at hcr
            clear hcell hrow q0 q1
            generalize gs.getD k 0 = gk at hck hcr
            generalize plR xs cc k = r at hcr r0 r1 HT
            generalize rowTo xs cc k = t
            go_wp2
            go_round
            case rel => exact ⟨k + 1, by omega, by rw [HT.out], by go_num⟩
            case measure => simp [intOf]; omega
          · obtain rfl : k = n := by omega
            have D := hide (show rowTo xs cc k = rowsS xs cc from hrs.out.symm)
            generalize rowTo xs cc k = t at D
            go_wp2
            go_ret
            exact ⟨ret_int D.out, HB.out.trans (HW.out.mono hz)⟩
set_option maxHeartbeats 2000000 in
theorem specRows_any (B : Nat) (a : Option Addr) (n c : Nat) (xs : List Int) (cc : Int) (w : World) (hA : Ints .i64 w B a n xs) (hB : B ≤ w.heap.size) (hn : n ≤ 1048576) :
    Calls Try.prog 14 #[.slice a n c, .int .i64 cc] w fun e w' => e = .returned (.int .i64 (rowsS xs cc)) ∧ Below w.heap.size w w' := by
  have hl := hide hA.1
  have HA := hide hA
  clear hA
  cases hc1 : inR cc 1 8
  case false =>
    have hs := hide (show rowsS xs cc = -1 from if_neg (by simp [okP, hc1]))
    go_enter Try.func14, Try.ntmps14
    go_wp2_with (go_at_call 35; refine (inRange_any _ _ _ _).mono ?_; rintro e w' ⟨rfl, rfl⟩)
    go_ret
    exact ⟨ret_int hs.out.symm, Below.refl _ _⟩
  case true =>
    by_cases h12 : n ≤ 12
    case neg =>
      have hs := hide (show rowsS xs cc = -1 from if_neg (by simp [okP, hl.out, h12]))
      go_enter Try.func14, Try.ntmps14
      go_wp2_with (go_at_call 35; refine (inRange_any _ _ _ _).mono ?_; rintro e w' ⟨rfl, rfl⟩)
      go_ret
      exact ⟨ret_int hs.out.symm, Below.refl _ _⟩
    case pos =>
      cases hall : inAll xs 1 cc
      case false =>
        have hs := hide (show rowsS xs cc = -1 from if_neg (by simp [okP, hall]))
        go_enter Try.func14, Try.ntmps14
        go_wp2_with (first
          | (go_at_call 35; refine (inRange_any _ _ _ _).mono ?_; rintro e w' ⟨rfl, rfl⟩)
          | (go_at_call 36; refine (specAllIn_any B _ _ _ xs _ _ _ HA.out (by omega)).mono ?_; rintro e w1 ⟨rfl, rfl⟩))
        go_ret
        exact ⟨ret_int hs.out.symm, Below.refl _ _⟩
      case true =>
        have hok := hide (show okP xs cc = true by simp [okP, hc1, hall, hl.out, h12])
        obtain ⟨⟨c0, c8⟩, _, hw⟩ := okP_iff.1 hok.out
        have HE := hide (fun (k : Nat) (hk : k < xs.length) => pl_bd (show 0 ≤ cc by omega) hw hk)
        have hs := hide (show lenP xs cc = n by rw [lenP, if_pos hok.out, hl.out])
        have hrs := hide (show rowsS xs cc = rowTo xs cc n by rw [rowsS, if_pos hok.out, rowsL_to, hl.out])
        clear hw hok
        go_enter Try.func14, Try.ntmps14
        go_wp2_with (first
          | (go_at_call 35; refine (inRange_any _ _ _ _).mono ?_; rintro e w' ⟨rfl, rfl⟩)
          | (go_at_call 36; refine (specAllIn_any B _ _ _ xs _ _ _ HA.out (by omega)).mono ?_; rintro e w1 ⟨rfl, rfl⟩))
        refine (specAuto_any B a n c xs cc _ HA.out (by omega) hn).mono ?_
        rintro e W2 ⟨P, Pc, gs, rfl, hP1, hP2, hPL, hb⟩
        have HPL := hide hPL
        have HW := hide hb
        have hzw := hb.size
        clear hPL hb hall
        rw [hs.out] at hP1 HPL ⊢
        by_cases hn0 : n = 0
        · subst hn0
          go_wp2
          go_ret
          exact ⟨ret_int hrs.out.symm, HW.out⟩
        · obtain ⟨j, rfl⟩ : ∃ j, n = j + 1 := ⟨n - 1, by omega⟩
          obtain ⟨g, off, rfl, _, _, hcell, _⟩ := HPL.out.out (by omega)
          obtain ⟨_, _, hrow⟩ := HPL.out.inn j (by omega)
          have hck := hcell j (by omega)
          have hcr := (hrow.cell 0 (by omega)).1
          obtain ⟨r0, r1, q0, q1⟩ := HE.out j (by have := hl.out; omega)
          have D := hide (show plR xs cc j + 1 = rowsS xs cc by rw [hrs.out, rowTo_succ])
          rw [show ([plR xs cc j, plC xs cc j].getD 0 0 : Int) = plR xs cc j from rfl, Nat.add_zero] at hcr
          clear hcell hrow q0 q1
          generalize gs.getD j 0 = gk at hck hcr
          generalize plR xs cc j = r at hcr r0 r1 D
          have q1 : ((j : Int) + 1 == 0) = false := by simp; omega
          have q2 : (j : Int) + 1 - 1 = (j : Int) := by omega
          go_wp2
          go_ret
          exact ⟨ret_int D.out, HW.out⟩
end Go.Proofs.Ytldmnpflcnmcpaa
