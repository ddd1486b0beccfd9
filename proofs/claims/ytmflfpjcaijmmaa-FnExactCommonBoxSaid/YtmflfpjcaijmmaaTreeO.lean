/- Trees: the innermost box around two: the program. Conditions: none. -/
import Derived.Test.YtmflfpjcaijmmaaTreeN
namespace Go.Proofs.Ytmflfpjcaijmmaa
open Go.RowKit Go.Shelf
set_option linter.unusedVariables false
set_option linter.unusedSimpArgs false
attribute [local go_sem] Oper.semAt_some
theorem keepsFrom_of {B : Nat} {W W' : World} (h : Below W.heap.size W W') : KeepsFrom B W W' := ⟨h.size, fun k o _ hk _ => (h.block k (Array.getElem?_eq_some_iff.1 hk).1).trans hk⟩
theorem upto_snd {U : List Int} {k : Nat} (hk : k ≤ U.length) : (upto (fromEnd U.reverse U.length) k).map Prod.snd = U.take k := by
  apply List.ext_getElem
  · simp [upto, hk]
  · intro i h1 h2
    have hi : i < U.length := by simp [upto] at h1; omega
    simp only [upto, List.map_map, List.getElem_map, List.getElem_range, Function.comp, List.getElem_take]
    rw [fromEnd_snd hi, List.getD_eq_getElem?_getD, List.getElem?_eq_getElem hi]; rfl
theorem upto_none {U : List Int} {q : Int → Bool} (h : ∀ p ∈ upto (fromEnd U.reverse U.length) U.length, q p.2 = false) : firstQ q U = -1 := by
  refine firstQ_none (fun x hx => ?_)
  have h1 := upto_snd (U := U) (Nat.le_refl _)
  rw [List.take_length] at h1
  rw [← h1] at hx
  obtain ⟨p, hp, rfl⟩ := List.mem_map.1 hx
  exact h p hp
theorem upto_hit {U : List Int} {q : Int → Bool} {k : Nat} {ini : List (Nat × Int)} {last : Nat × Int} (hk : k ≤ U.length) (e : upto (fromEnd U.reverse U.length) k = ini ++ [last]) (h : ∀ p ∈ ini, q p.2 = false) (hl : q last.2 = true) : firstQ q U = last.2 := by
  cases k with
  | zero => simp [upto] at e
  | succ k =>
    rw [upto_succ] at e
    obtain ⟨rfl, e5⟩ := List.append_inj' e rfl
    obtain rfl : fromEnd U.reverse U.length k = last := by simpa using e5
    rw [fromEnd_snd (by omega)] at hl ⊢
    refine firstQ_at (by omega) (fun x hx => ?_) hl
    rw [← upto_snd (by omega)] at hx
    obtain ⟨p, hp, rfl⟩ := List.mem_map.1 hx
    exact h p hp
set_option maxRecDepth 100000 in
set_option maxHeartbeats 4000000 in
theorem implCommon_any (B : Nat) (a : Option Addr) (n c : Nat) (xs : List Int) (x y : Int) (w : World) (hA : Ints .i64 w B a (n * 9) xs) (hB : B ≤ w.heap.size) (hn : n ≤ 1048577) :
    Calls Try.prog 18 #[.slice a n c, .int .i64 x, .int .i64 y] w fun e w' => e = .returned (.int .i64 (cmnR xs n x y)) ∧ Below w.heap.size w w' := by
  have hb0 : Below w.heap.size w (((w.alloc (.cells #[.slice a n c] 25)).alloc (.cells #[.int .i64 y] 3)).alloc (.cells #[.int .i64 0] 3)) := (((Below.refl _ _).alloc (Nat.le_refl _) _).alloc (by simp) _).alloc (by simp; omega) _
  have HB0 := hide hb0
  have HZ0 := hide (show (((w.alloc (.cells #[.slice a n c] 25)).alloc (.cells #[.int .i64 y] 3)).alloc (.cells #[.int .i64 0] 3)).heap.size = w.heap.size + 3 by simp)
  have c3 : (((w.alloc (.cells #[.slice a n c] 25)).alloc (.cells #[.int .i64 y] 3)).alloc (.cells #[.int .i64 0] 3)).cell? ⟨w.heap.size, 0, none⟩ = some (.slice a n c) := by simp [go_sem, World.cell?_alloc_past]
  have c5 : (((w.alloc (.cells #[.slice a n c] 25)).alloc (.cells #[.int .i64 y] 3)).alloc (.cells #[.int .i64 0] 3)).cell? ⟨w.heap.size + 1, 0, none⟩ = some (.int .i64 y) := by simp [go_sem, World.cell?_alloc_past]
  have c6 : (((w.alloc (.cells #[.slice a n c] 25)).alloc (.cells #[.int .i64 y] 3)).alloc (.cells #[.int .i64 0] 3)).cell? ⟨w.heap.size + 1 + 1, 0, none⟩ = some (.int .i64 0) ∧ (((w.alloc (.cells #[.slice a n c] 25)).alloc (.cells #[.int .i64 y] 3)).alloc (.cells #[.int .i64 0] 3)).frozen? ⟨w.heap.size + 1 + 1, 0, none⟩ = false := by
    have h := Boxed.new ((w.alloc (.cells #[.slice a n c] 25)).alloc (.cells #[.int .i64 y] 3)) 3 (.int .i64 0)
    simp only [World.size_alloc] at h
    exact ⟨h.cell, h.frozen⟩
  have HA := hide (fun W (h : Below (((w.alloc (.cells #[.slice a n c] 25)).alloc (.cells #[.int .i64 y] 3)).alloc (.cells #[.int .i64 0] 3)).heap.size (((w.alloc (.cells #[.slice a n c] 25)).alloc (.cells #[.int .i64 y] 3)).alloc (.cells #[.int .i64 0] 3)) W) => (hA.below hb0 hB).below h (by have := HZ0.out; omega))
  have HR := hide (Below.refl (((w.alloc (.cells #[.slice a n c] 25)).alloc (.cells #[.int .i64 y] 3)).alloc (.cells #[.int .i64 0] 3)).heap.size (((w.alloc (.cells #[.slice a n c] 25)).alloc (.cells #[.int .i64 y] 3)).alloc (.cells #[.int .i64 0] 3)))
  clear hb0 hA
  cases h0 : (treeV xs n && inR x 0 ((n : Int) - 1))
  case false =>
    have D := hide (cmnR_no1 (y := y) h0)
    go_enter Try.func18, Try.ntmps18
    go_wp2_with fail
    generalize ((w.alloc (.cells #[.slice a n c] 25)).alloc (.cells #[.int .i64 y] 3)).alloc (.cells #[.int .i64 0] 3) = W0 at HB0 HZ0 c3 c5 c6 HA HR ⊢
    have H3 := hide (fun W (h : Below W0.heap.size W0 W) => (h.cell (p := ⟨w.heap.size, 0, none⟩) (by show w.heap.size < W0.heap.size; have := HZ0.out; omega)).trans c3)
    have H5 := hide (fun W (h : Below W0.heap.size W0 W) => (h.cell (p := ⟨w.heap.size + 1, 0, none⟩) (by show w.heap.size + 1 < W0.heap.size; have := HZ0.out; omega)).trans c5)
    have H6 := hide (fun W (h : Below W0.heap.size W0 W) => (h.cell (p := ⟨w.heap.size + 1 + 1, 0, none⟩) (by show w.heap.size + 1 + 1 < W0.heap.size; have := HZ0.out; omega)).trans c6.1)
    have F6 := hide (fun W (h : Below W0.heap.size W0 W) => (World.frozen?_of_block (a := ⟨w.heap.size + 1 + 1, 0, none⟩) (h.block (w.heap.size + 1 + 1) (by have := HZ0.out; omega))).trans c6.2)
    have hv := boxIn_any B a n c xs x W0 (HA.out _ HR.out) (by have := HZ0.out; omega) hn
    rw [h0] at hv
    refine hv.mono ?_
    rintro e W1 ⟨rfl, hb⟩
    have HB1 := hide hb
    have hz1 := hb.size
    have HB := hide (HB0.out.trans (hb.mono (by have := HZ0.out; omega)))
    have g3 := H3.out _ hb
    have g5 := H5.out _ hb
    have g6 := H6.out _ hb
    have k6 := F6.out _ hb
    clear hb hv c3 c5 c6
    go_wp2
    exact bodyPost_ret (v := .int .i64 (-1)) (by simp [results, Try.results18, go_sem, g6]) rfl ⟨ret_int D.out.symm, HB.out.setCell (p := ⟨w.heap.size + 1 + 1, 0, none⟩) (by show w.heap.size ≤ w.heap.size + 1 + 1; omega) _⟩
  case true =>
    cases h1 : inR y 0 ((n : Int) - 1)
    case false =>
      have h2 := Bool.and_eq_true_iff.1 h0
      have D := hide (cmnR_no2 (xs := xs) (x := x) h1)
      have h1 : (treeV xs n && inR y 0 ((n : Int) - 1)) = false := by rw [h2.1, h1]; rfl
      clear h2
      go_enter Try.func18, Try.ntmps18
      go_wp2_with fail
      generalize ((w.alloc (.cells #[.slice a n c] 25)).alloc (.cells #[.int .i64 y] 3)).alloc (.cells #[.int .i64 0] 3) = W0 at HB0 HZ0 c3 c5 c6 HA HR ⊢
      have H3 := hide (fun W (h : Below W0.heap.size W0 W) => (h.cell (p := ⟨w.heap.size, 0, none⟩) (by show w.heap.size < W0.heap.size; have := HZ0.out; omega)).trans c3)
      have H5 := hide (fun W (h : Below W0.heap.size W0 W) => (h.cell (p := ⟨w.heap.size + 1, 0, none⟩) (by show w.heap.size + 1 < W0.heap.size; have := HZ0.out; omega)).trans c5)
      have H6 := hide (fun W (h : Below W0.heap.size W0 W) => (h.cell (p := ⟨w.heap.size + 1 + 1, 0, none⟩) (by show w.heap.size + 1 + 1 < W0.heap.size; have := HZ0.out; omega)).trans c6.1)
      have F6 := hide (fun W (h : Below W0.heap.size W0 W) => (World.frozen?_of_block (a := ⟨w.heap.size + 1 + 1, 0, none⟩) (h.block (w.heap.size + 1 + 1) (by have := HZ0.out; omega))).trans c6.2)
      have hv := boxIn_any B a n c xs x W0 (HA.out _ HR.out) (by have := HZ0.out; omega) hn
      rw [h0] at hv
      refine hv.mono ?_
      rintro e W1 ⟨rfl, hb⟩
      have HB1 := hide hb
      have hz1 := hb.size
      have HB := hide (HB0.out.trans (hb.mono (by have := HZ0.out; omega)))
      have g3 := H3.out _ hb
      have g5 := H5.out _ hb
      have g6 := H6.out _ hb
      have k6 := F6.out _ hb
      clear hb hv c3 c5 c6
      have hv2 := boxIn_any B a n c xs y W1 (HA.out _ HB1.out) (by have := HZ0.out; omega) hn
      rw [h1] at hv2
      clear g6 k6 HB
      go_wp2_with fail
      refine hv2.mono ?_
      rintro e W2 ⟨rfl, hb⟩
      have HB2 := hide (HB1.out.trans (hb.mono hz1))
      have hz2 := HB2.out.size
      have HB := hide (HB0.out.trans (HB2.out.mono (by have := HZ0.out; omega)))
      clear hb hv2 g3 g5 HB1
      have g3 := H3.out _ HB2.out
      have g5 := H5.out _ HB2.out
      have g6 := H6.out _ HB2.out
      have k6 := F6.out _ HB2.out
      go_wp2
      exact bodyPost_ret (v := .int .i64 (-1)) (by simp [results, Try.results18, go_sem, g6]) rfl ⟨ret_int D.out.symm, HB.out.setCell (p := ⟨w.heap.size + 1 + 1, 0, none⟩) (by show w.heap.size ≤ w.heap.size + 1 + 1; omega) _⟩
    case true =>
      have HQ := hide (cmnR_yes h0 h1)
      have h2 := Bool.and_eq_true_iff.1 h0
      have h1' : (treeV xs n && inR y 0 ((n : Int) - 1)) = true := by rw [h2.1, h1]; rfl
      have h3 := inR_iff.1 h2.2
      have h4 := inR_iff.1 h1
      have HT := hide (treeV_iff.1 h2.1)
      obtain ⟨q, rfl⟩ := Int.eq_ofNat_of_zero_le h3.1
      obtain ⟨r, rfl⟩ := Int.eq_ofNat_of_zero_le h4.1
      have hqn : q < n := by omega
      have hrn : r < n := by omega
      clear h2 h3 h4
      generalize hW0 : ((w.alloc (.cells #[.slice a n c] 25)).alloc (.cells #[.int .i64 (r : Int)] 3)).alloc (.cells #[.int .i64 0] 3) = W0 at HB0 HZ0 c3 c5 c6 HA HR
      have H3 := hide (fun W (h : Below W0.heap.size W0 W) => (h.cell (p := ⟨w.heap.size, 0, none⟩) (by show w.heap.size < W0.heap.size; have := HZ0.out; omega)).trans c3)
      have H5 := hide (fun W (h : Below W0.heap.size W0 W) => (h.cell (p := ⟨w.heap.size + 1, 0, none⟩) (by show w.heap.size + 1 < W0.heap.size; have := HZ0.out; omega)).trans c5)
      have H6 := hide (fun W (h : Below W0.heap.size W0 W) => (h.cell (p := ⟨w.heap.size + 1 + 1, 0, none⟩) (by show w.heap.size + 1 + 1 < W0.heap.size; have := HZ0.out; omega)).trans c6.1)
      have F6 := hide (fun W (h : Below W0.heap.size W0 W) => (World.frozen?_of_block (a := ⟨w.heap.size + 1 + 1, 0, none⟩) (h.block (w.heap.size + 1 + 1) (by have := HZ0.out; omega))).trans c6.2)
      have hv := boxIn_any B a n c xs (q : Int) W0 (HA.out _ HR.out) (by have := HZ0.out; omega) hn
      rw [h0] at hv
      have HV2 := hide (fun W (h : Below W0.heap.size W0 W) => boxIn_any B a n c xs (r : Int) W (HA.out W h) (by have := HZ0.out; have := h.size; omega) hn)
      rw [h1'] at HV2
      have HPA := hide (fun W (h : Below W0.heap.size W0 W) => path_any B a n c xs q W (HA.out W h) (by have := HZ0.out; have := h.size; omega) hn hqn (HT.out.pre.le (by omega)))
      clear h0 h1 h1' c5 HR
      refine (callsIn_wide (n := 6)).1 ?_
      refine callsIn_of_wp_marks Try.func18 rfl trivial ?_ rfl
      simp only [Try.ntmps18, List.size_toArray, List.length_cons, List.length_nil, Nat.reduceAdd, Nat.reduceSub, Array.replicate_succ, Array.replicate_zero, List.push_toArray, List.append_toArray, List.nil_append, List.cons_append]
      gi_wp2_with (first | (refine ⟨trivial, ?_⟩; gi_at_call 35; refine (callsIn_wide.2 hv).mono ?_; clear hv; rintro e W1 ⟨rfl, hb⟩; have HB1 := hide hb; have g3 := H3.out _ hb; have g5 := H5.out _ hb; clear hb) | (refine ⟨trivial, ?_⟩; gi_at_call 35; refine (callsIn_wide.2 (HV2.out _ HB1.out)).mono ?_; clear HV2; rintro e W2 ⟨rfl, hb⟩; have HB2 := hide (HB1.out.trans (hb.mono HB1.out.size)); have k3 := H3.out _ HB2.out; have k5 := H5.out _ HB2.out; clear hb) | (refine ⟨trivial, ?_⟩; gi_at_call 39; refine (callsIn_wide.2 (HPA.out _ HB2.out)).mono ?_; clear HPA; rintro e W3 ⟨A, m, hm, rfl, hr, hb⟩; have HB3 := hide (HB2.out.trans (hb.mono HB2.out.size)); have HRw := hide hr.ints; have HM := hide hm; clear hm hr hb) | (refine ⟨trivial, ?_⟩; gi_at_call 38; refine (back_in Fence.wide _ trivial rfl _ _ _ _).mono ?_; rintro e w' ⟨rfl, rfl⟩))
      clear g3 g5 k3 k5 HB1 c3 c6
      obtain ⟨U, hU⟩ : ∃ U, upN xs q = U := ⟨_, rfl⟩
      have HU := hide hU
      rw [hU] at HRw HM
      have hU17 : U.length ≤ 17 := by rw [← hU]; have := (upN_len HT.out.pre hqn).2; have := HT.out.hi; omega
      clear hU
      obtain rfl := HM.out
      clear HM
      have hz3 := HB3.out.size
      have bN := Boxed.new W3 31 (.slice A U.length U.length)
      have hbN : Below W3.heap.size W3 (W3.alloc (.cells #[.slice A U.length U.length] 31)) := (Below.refl _ _).alloc (Nat.le_refl _) _
      have hB0 : Below W0.heap.size W0 (W3.alloc (.cells #[.slice A U.length U.length] 31)) := HB3.out.trans (hbN.mono hz3)
      refine wpIn_rangeFunc_ownG rfl (by omega) (gf := 57) (lb := #[.pointer (some ⟨W3.heap.size, 0, none⟩)]) rfl trivial (enters_of Try.func57 (by kernel_rfl) rfl)
        (back_stops Fence.wide (6 - 1) trivial rfl (by omega) W3.heap.size (W3.heap.size + 1) W3.heap.size A U.length U.length U.reverse (by omega) _ (by omega) (by omega) (by simp) bN.cell (HRw.out.below hbN (Nat.le_refl _))) belowK_t (belowK_b (by simp)) (Below.refl _ _) (fun _ => rfl)
        (fun pre W => ((∀ p ∈ pre, arnd xs p.2 r = false) ∧ W.cell? ⟨w.heap.size, 0, none⟩ = some (.slice a n c) ∧ W.cell? ⟨w.heap.size + 1, 0, none⟩ = some (.int .i64 r) ∧ W.cell? ⟨w.heap.size + 1 + 1, 0, none⟩ = some (.int .i64 0) ∧ W.frozen? ⟨w.heap.size + 1 + 1, 0, none⟩ = false ∧ W3.heap.size + 1 ≤ W.heap.size) ∧ Below W0.heap.size W0 W)
        (fun c pre W => (c = .ret ∧ ∃ ini last, pre = ini ++ [last] ∧ (∀ p ∈ ini, arnd xs p.2 r = false) ∧ arnd xs last.2 r = true ∧ W.cell? ⟨w.heap.size + 1 + 1, 0, none⟩ = some (.int .i64 last.2)) ∧ Below w.heap.size w W)
        (OwnFrom.and (Go.Own.from (fun s A B row hs hg hr => ⟨hs.1, cell_kept hs.2.1 hg hr, cell_kept hs.2.2.1 hg hr, cell_kept hs.2.2.2.1 hg hr, (frozen_kept hs.2.2.2.1 hg hr).trans hs.2.2.2.2.1, Nat.le_trans hs.2.2.2.2.2 hg.size⟩) _) (ownFrom_below (Nat.le_refl _) (by simp; omega)))
        (fun c => OwnFrom.and (Go.Own.from (fun s A B row hs hg hr => by obtain ⟨hc, ini, last, e1, e2, e3, e4⟩ := hs; exact ⟨hc, ini, last, e1, e2, e3, cell_kept e4 hg hr⟩) _) (ownFrom_below (Nat.le_refl _) (by have := HZ0.out; simp; omega)))
        ⟨⟨by simp, H3.out _ hB0, H5.out _ hB0, H6.out _ hB0, F6.out _ hB0, by simp⟩, hB0⟩
        (fun x => { tmps := #[.slice a n c, .int .i64 q, .int .i64 r, .pointer (some ⟨w.heap.size, 0, none⟩), undef, .pointer (some ⟨w.heap.size + 1, 0, none⟩), .pointer (some ⟨w.heap.size + 1 + 1, 0, none⟩), undef, .int .i64 x.2, .slice a n c, .int .i64 q, .bool true, .bool false, .bool false, .slice a n c, .int .i64 r, .bool true, .bool false, .bool false, .slice a n c, .int .i64 q, .slice A U.length U.length, .func (.func 57) #[] #[.pointer (some ⟨W3.heap.size, 0, none⟩)], .int .i64 (x.1 : Int), .int .i64 x.2, undef, undef, undef, undef, undef], defers := [] }) ?assign ?body ?done ?stop
      case assign =>
        clear hW0
        intro l x W K hK
        gi_wp2
        exact hK
      case body =>
        clear hW0
        rintro l pre x W ⟨⟨hp, hc3, hc5, hc6, hf6, hszW⟩, hB1⟩ _
        have hwz := hB1.size
        have hc := implAround_any B a n c xs x.2 r W (HA.out W hB1) (by have := HZ0.out; omega) hn hrn HT.out.pre
        have HB1 := hide hB1
        have HP := hide hp
        clear hB1 hp bN hbN hB0
        obtain ⟨b, hb⟩ : ∃ b, arnd xs x.2 r = b := ⟨_, rfl⟩
        rw [hb] at hc
        have HBb := hide hb
        clear hb
        cases b with
        | true =>
          gi_wp2_with (refine ⟨trivial, ?_⟩; gi_at_call 40; refine (CallsIn.inRound l (callsIn_wide.2 hc)).mono ?_; clear hc; rintro e W' ⟨rfl, hb⟩; have HBb' := hide hb; have g6 := H6.out _ (HB1.out.trans (hb.mono hwz)); have gf6 := F6.out _ (HB1.out.trans (hb.mono hwz)); clear hb)
          exact ⟨(keepsFrom_of HBb'.out).trans ((KeepsOthers.setCell _ _ _).from _), ⟨rfl, pre, x, rfl, HP.out, HBb.out, World.cell?_setCell_same' _ _ _ (by rw [g6]; rfl)⟩, (HB0.out.trans ((HB1.out.trans (HBb'.out.mono hwz)).mono HB0.out.size)).setCell (p := ⟨w.heap.size + 1 + 1, 0, none⟩) (by show w.heap.size ≤ w.heap.size + 1 + 1; omega) _⟩
        | false =>
          gi_wp2_with (refine ⟨trivial, ?_⟩; gi_at_call 40; refine (CallsIn.inRound l (callsIn_wide.2 hc)).mono ?_; clear hc; rintro e W' ⟨rfl, hb⟩; have HBb' := hide hb; clear hb)
          have hBB := HB1.out.trans (HBb'.out.mono hwz)
          exact ⟨keepsFrom_of HBb'.out, HBb'.out.mono hszW, ⟨fun p hp' => (List.mem_append.1 hp').elim (HP.out p) (fun e => by simp at e; subst e; exact HBb.out), H3.out _ hBB, H5.out _ hBB, H6.out _ hBB, F6.out _ hBB, Nat.le_trans hszW HBb'.out.size⟩, hBB⟩
      case done =>
        rintro D ys W hD rfl ⟨⟨hne, _, _, hcr, hfr, _⟩, hB⟩ hK
        clear hW0
        have HD := hide (show cmnR xs n (q : Int) (r : Int) = -1 by rw [HQ.out, Int.toNat_natCast, Int.toNat_natCast, HU.out]; exact upto_none hne)
        clear hne bN hbN hB0
        gi_wp2
        have hK' := (KeepsOthers.setCell W ⟨w.heap.size + 1 + 1, 0, none⟩ (.int .i64 (-1))).same D _ hK rfl
        refine ⟨by simp, .inl ⟨_, _, rfl, run_takeDeferred hK', ?_⟩⟩
        have hc5 := cell_kept (World.cell?_setCell_same' W ⟨w.heap.size + 1 + 1, 0, none⟩ (.int .i64 (-1)) (by rw [hcr]; rfl)) (grownBy_putObj' _ D (.deferred none)) (fun r e => by cases e; exact ⟨_, hK', rfl⟩)
        refine ⟨.int .i64 (-1), ?_, ret_int HD.out.symm, ((HB0.out.trans (hB.mono HB0.out.size)).setCell (p := ⟨w.heap.size + 1 + 1, 0, none⟩) (by show w.heap.size ≤ w.heap.size + 1 + 1; omega) _).trans (belowK_b (w := w) (Nat.le_refl _) _ D _ _ (by simp at hD; have := HZ0.out; omega) hK' rfl rfl)⟩
        simp [results, Try.f18, go_sem, hc5]
      case stop =>
        rintro D c pre W hD ⟨k, hk, hpre⟩ ⟨⟨rfl, ini, last, e1, e2, e3, hcr⟩, hB⟩ hK
        clear hW0
        have HD := hide (show cmnR xs n (q : Int) (r : Int) = last.2 by rw [HQ.out, Int.toNat_natCast, Int.toNat_natCast, HU.out]; exact upto_hit hk (hpre.symm.trans e1) e2 e3)
        clear hpre e1 e2 e3 bN hbN hB0
        gi_wp2
        refine ⟨by simp, .inl ⟨_, _, rfl, run_takeDeferred hK, ?_⟩⟩
        have hc5 := cell_kept hcr (grownBy_putObj' _ D (.deferred none)) (fun r e => by cases e; exact ⟨_, hK, rfl⟩)
        refine ⟨.int .i64 last.2, ?_, ret_int HD.out.symm, hB.trans (belowK_b (w := w) (Nat.le_refl _) W D _ _ (by simp at hD; have := HZ0.out; omega) hK rfl rfl)⟩
        simp [results, Try.f18, go_sem, hc5]
end Go.Proofs.Ytmflfpjcaijmmaa
