/- Trees: which boxes are still dirty when one is clean: the reference and the program. Conditions: none. -/
import Derived.Test.YtmflfpjcaijmmaaTreeK
namespace Go.Proofs.Ytmflfpjcaijmmaa
open Go.RowKit
set_option linter.unusedVariables false
set_option linter.unusedSimpArgs false
theorem own_next {v v' : Value} {lo hi z : Nat} (h : ∀ j, v.ownBlock = some j → j < lo ∨ hi ≤ j) (hv : v'.ownBlock = v.ownBlock ∨ v'.ownBlock = some (z + 1)) (hz : hi ≤ z) : ∀ j, v'.ownBlock = some j → j < lo ∨ hi ≤ j := fun j e => by
  rcases hv with h1 | h1
  · exact h j (h1.symm.trans e)
  · rw [h1] at e; injection e with e; omega
noncomputable def cleanV (xs : List Int) (n : Nat) (ms : List Int) (i : Int) : Bool := marksV xs n ms && inR i 0 ((n : Int) - 1)
noncomputable def cleanL (xs : List Int) (n : Nat) (ms : List Int) (i : Int) : List Int := if cleanV xs n ms i = true then (pickN (rootB xs ms) n).filter (fun x => !arnd xs i x.toNat) else []
theorem cleanL_no {xs : List Int} {n : Nat} {ms : List Int} {i : Int} (h : cleanV xs n ms i = false) : cleanL xs n ms i = [] := by rw [cleanL, h]; rfl
theorem cleanL_yes {xs : List Int} {n : Nat} {ms : List Int} {i : Int} (h : cleanV xs n ms i = true) : cleanL xs n ms i = (pickN (rootB xs ms) n).filter (fun x => !arnd xs i x.toNat) := by rw [cleanL, if_pos h]
theorem cleanL_len {xs : List Int} {n : Nat} {ms : List Int} {i : Int} : (cleanL xs n ms i).length ≤ 17 := by
  cases h : cleanV xs n ms i
  · rw [cleanL_no h]; simp
  · rw [cleanL_yes h]
    have h1 := List.length_filter_le (fun x : Int => !arnd xs i x.toNat) (pickN (rootB xs ms) n)
    have h2 := pickN_len (rootB xs ms) n
    have h3 := (marksV_all (Bool.and_eq_true_iff.1 h).1).1.hi
    omega
/-- a slice that holds the list L, and a word -/
def CleanR (L : List Int) (ok : Bool) (w : World) (e : Ending) (w' : World) : Prop :=
  ∃ (A : Option Addr) (m c : Nat), e = .returned (.tuple #[.slice A m c, .bool ok]) ∧ Row 3 w' w.heap.size w'.heap.size A m L ∧ Below w.heap.size w w'
theorem CleanR.no {xs : List Int} {n : Nat} {ms : List Int} {i : Int} {w w' : World} (h : cleanV xs n ms i = false) (hb : Below w.heap.size w w') : CleanR (cleanL xs n ms i) (cleanV xs n ms i) w (.returned (.tuple #[.slice none 0 0, .bool false])) w' :=
  ⟨none, 0, 0, by rw [h], by rw [cleanL_no h]; exact Row.nil _ _ _ _ _, hb⟩
set_option maxHeartbeats 4000000 in
theorem specClean_any (B BM : Nat) (a am : Option Addr) (n c m0 cm : Nat) (xs ms : List Int) (i : Int) (w : World) (hA : Ints .i64 w B a (n * 9) xs) (hM : Ints .i64 w BM am m0 ms) (hB : B ≤ w.heap.size) (hBM : BM ≤ w.heap.size) (hn : n ≤ 1048577) (hm : m0 ≤ 1048577) :
    Calls Try.prog 30 #[.slice a n c, .slice am m0 cm, .int .i64 i] w (CleanR (cleanL xs n ms i) (cleanV xs n ms i) w) := by
  obtain ⟨i0, hi0, hz0, hz1, hz2⟩ := info_parts int_info
  have e1 : IntKind.i64.wrap ((n : Int) - 1) = (n : Int) - 1 := IntWalk.i64_in _ (by omega)
  have HA := hide (fun W (h : Below w.heap.size w W) => hA.below h hB)
  have HM := hide (fun W (h : Below w.heap.size w W) => hM.below h hBM)
  have HV := hide (fun W (h : Below w.heap.size w W) => specMarks_any B BM a am n c m0 cm xs ms W (HA.out W h) (HM.out W h) (by have := h.size; omega) (by have := h.size; omega) hn hm)
  have HO0 := hide (show Own 3 1 (w.alloc (.cells #[] 3)) w.heap.size (.slice (some ⟨w.heap.size, 0, none⟩) 0 0) 0 [] from Own.made 3 1 w #[] 0 w.heap.size (Nat.le_refl _) (by omega) rfl)
  have HB0 := hide (show Below w.heap.size w (w.alloc (.cells #[] 3)) from (Below.refl _ _).alloc (Nat.le_refl _) _)
  clear hA hM
  cases h0 : marksV xs n ms
  case false =>
    rw [h0] at HV
    have D := hide (show cleanV xs n ms i = false by rw [cleanV, h0]; rfl)
    go_enter Try.func30, Try.ntmps30
    go_wp2_with (go_at_call 41; refine (HV.out _ HB0.out).mono ?_; rintro e W1 ⟨rfl, hb⟩; have HB := hide (HB0.out.trans (hb.mono HB0.out.size)); have HO1 := hide (HO0.out.keep hb); clear hb)
    exact bodyPost_ret (v := .tuple #[.slice none 0 0, .bool false]) (by simp [results, Try.results30, go_sem]) rfl (CleanR.no D.out HB.out)
  case true =>
    rw [h0] at HV
    cases h1 : inR i 0 ((n : Int) - 1)
    case false =>
      have D := hide (show cleanV xs n ms i = false by rw [cleanV, h0, h1]; rfl)
      go_enter Try.func30, Try.ntmps30
      go_wp2_with (first | (go_at_call 41; refine (HV.out _ HB0.out).mono ?_; rintro e W1 ⟨rfl, hb⟩; have HB := hide (HB0.out.trans (hb.mono HB0.out.size)); have HO1 := hide (HO0.out.keep hb); clear hb) | (go_at_call 33; with_reducible refine (inRange_is h1 _).mono ?_; rintro e w' ⟨rfl, rfl⟩))
      exact bodyPost_ret (v := .tuple #[.slice none 0 0, .bool false]) (by simp [results, Try.results30, go_sem]) rfl (CleanR.no D.out HB.out)
    case true =>
      have HQ := hide (show cleanV xs n ms i = true by rw [cleanV, h0, h1]; rfl)
      have h2 := inR_iff.1 h1
      have hi0' : 0 ≤ i := h2.1
      have ht := marksV_all h0
      have HT := hide ht.1
      have hn16 := ht.1.hi
      have HR := hide (fun W (h : Below w.heap.size w W) => specRoots_any B BM a am n c m0 cm xs ms W (HA.out W h) (HM.out W h) (by have := h.size; omega) (by have := h.size; omega) hn hm ht.1 (fun x hx => (ht.2.2 x hx).1))
      clear h2 ht h0
      go_enter Try.func30, Try.ntmps30
      go_wp2_with (first | (go_at_call 41; refine (HV.out _ HB0.out).mono ?_; rintro e W1 ⟨rfl, hb⟩; have HB := hide (HB0.out.trans (hb.mono HB0.out.size)); have HO1 := hide (HO0.out.keep hb); clear hb) | (go_at_call 33; with_reducible refine (inRange_is h1 _).mono ?_; rintro e w' ⟨rfl, rfl⟩))
      clear h1
      refine (HR.out _ HB.out).mono ?_
      rintro e W2 ⟨A, m, c', rfl, hr, hb⟩
      have HO2 := hide (HO1.out.keep hb)
      have HB2 := hide (HB.out.trans (hb.mono HB.out.size))
      have hml : (pickN (rootB xs ms) n).length = m := hr.1
      have hmn : m ≤ n := by rw [← hml]; exact pickN_len _ _
      have HRw := hide hr
      have hzW1 := HB.out.size
      have HSp := hide (show ∀ j, some w.heap.size = some j → j < W1.heap.size ∨ W2.heap.size ≤ j from fun j e => .inl (by injection e with e; have := HO1.out.lt w.heap.size rfl; omega))
      have HX := hide (fun x (hx : x ∈ pickN (rootB xs ms) n) => pickN_mem hx)
      obtain ⟨L, hL⟩ : ∃ L, pickN (rootB xs ms) n = L := ⟨_, rfl⟩
      have HLe := hide hL
      rw [hL] at HRw HX hml
      have HML := hide hml
      clear hb hr HO0 HO1 HB HB0 HR HV HM hL hml
      go_wp2
      go_loopw [8, 10] (fun s8 s10 wr => ∃ (k mm cc : Nat) (AA : Option Addr) (ys : List Int) (W9 : World), k ≤ m ∧ mm ≤ k ∧ s8 = .slice AA mm cc ∧ s10 = .int .i64 k ∧ W9 = wr ∧ Hid (ys = (L.take k).filter (fun x => !arnd xs i x.toNat)) ∧ Hid (Own 3 1 W9 w.heap.size (.slice AA mm cc) mm ys) ∧ Hid (Below w.heap.size w W9) ∧ Hid (Row 3 W9 W1.heap.size W2.heap.size A m L) ∧ Hid (∀ j, (Value.slice AA mm cc).ownBlock = some j → j < W1.heap.size ∨ W2.heap.size ≤ j) ∧ W2.heap.size ≤ W9.heap.size) (fun _ s10 _ => m - (intOf s10).toNat)
      case atStart => exact ⟨0, 0, _, _, [], _, Nat.zero_le _, Nat.zero_le _, rfl, rfl, rfl, hide rfl, HO2, HB2, HRw, HSp, Nat.le_refl _⟩
      case round =>
        clear HO2 HB2 HRw HSp
        obtain ⟨k, mm, cc, AA, ys, W9, hk, hmk, rfl, rfl, rfl, HY, HO, HB, HRw, HSp, hzB⟩ := hrel
        have hz9 := HB.out.size
        by_cases hlt : k < m
        · have hkm : (k : Int) < (m : Int) := by omega
          obtain ⟨bl, ol, rfl, hbl9, hcell⟩ := HRw.out.ints.2.2 (by omega)
          have hck := hcell k hlt
          have hkL : k < L.length := by rw [HML.out]; exact hlt
          have hx := HX.out _ (getD_mem hkL)
          obtain ⟨r, hr⟩ : ∃ r : Nat, L.getD k 0 = r := ⟨(L.getD k 0).toNat, by omega⟩
          have HRr := hide hr
          rw [hr] at hck hx
          clear hr hcell
          have hrn : r < n := by omega
          have hc := specAround_any B a n c xs i r W9 (HA.out _ HB.out) hn hrn HT.out.pre hi0'
          obtain ⟨q, hq⟩ : ∃ q, arnd xs i r = q := ⟨_, rfl⟩
          rw [hq] at hc
          have hq2 : (!arnd xs i (L.getD k 0).toNat) = !q := by rw [HRr.out, Int.toNat_natCast, hq]
          have e : L.getD k 0 = L[k] := by rw [List.getD_eq_getElem?_getD, List.getElem?_eq_getElem hkL]; rfl
          cases q with
          | true =>
            have D := hide (show ys = (L.take (k + 1)).filter (fun x => !arnd xs i x.toNat) by
              rw [HY.out, List.take_succ_eq_append_getElem hkL, List.filter_append, List.filter_cons_of_neg (by rw [← e, hq2]; simp)]
              simp)
            clear HY hq hq2 e hx HRr
            go_wp2_with (go_at_call 37; refine hc.mono ?_; rintro e w' ⟨rfl, rfl⟩)
            go_roundw
            case rel => exact ⟨k + 1, mm, _, _, _, _, by omega, by omega, rfl, by go_num, rfl, D, HO, HB, HRw, HSp, hzB⟩
            case measure => simp [intOf]; omega
          | false =>
            have D := hide (show ys ++ [(r : Int)] = (L.take (k + 1)).filter (fun x => !arnd xs i x.toNat) by
              rw [HY.out, List.take_succ_eq_append_getElem hkL, List.filter_append, List.filter_cons_of_pos (by rw [← e, hq2]; simp), ← e, HRr.out]
              rfl)
            clear HY hq hq2 e hx HRr
            go_wp2_with (first | (go_at_call 37; refine hc.mono ?_; rintro e w' ⟨rfl, rfl⟩) | (at_builtin; refine wpList_push rfl (.tmp 41) (.tmp 46) 31 3 1 8 i0 _ rfl Try.underlying31 hi0 hz0 hz1 hz2 rfl (by omega) (by omega) W9 w.heap.size (.slice AA mm cc) mm ys rfl HO.out [(r : Int)] 1 1 rfl rfl (by omega) hz9 ?_; intro v1 w1 ho1 hb1 hg1 hv1; obtain ⟨A1, c1, hvv1, _, _, _⟩ := ho1.form; subst hvv1; have HO1 := hide ho1; have HB1 := hide (HB.out.trans hb1); have HRw1 := hide (HRw.out.keep (fun j h1 h2 h3 => hg1.block j h3 (fun e => by have := HSp.out j e.symm; omega))); have HSp1 := hide (own_next HSp.out hv1 (by omega)); have hz3 := hg1.size; clear ho1 hb1 hg1 hv1))
            go_roundw
            case rel => exact ⟨k + 1, mm + 1, _, _, _, _, by omega, by omega, rfl, by go_num, rfl, D, HO1, HB1, HRw1, HSp1, by omega⟩
            case measure => simp [intOf]; omega
        · obtain rfl : m = k := by omega
          have D := hide (show CleanR (cleanL xs n ms i) (cleanV xs n ms i) w (.returned (.tuple #[.slice AA mm cc, .bool true])) W9 by
            have h := HY.out
            rw [← HML.out, List.take_length] at h
            rw [cleanL_yes HQ.out, HLe.out, ← h]
            obtain ⟨A', m', c'', e, hr, hb⟩ := ListR.own HO.out HB.out
            injection e with e
            injection e with e1 e2 e3
            subst e1 e2 e3
            exact ⟨AA, mm, cc, by rw [HQ.out], hr, hb⟩)
          clear HY HO HRw HSp
          go_wp2
          exact bodyPost_ret (v := .tuple #[.slice AA mm cc, .bool true]) (by simp [results, Try.results30, go_sem]) rfl D.out
theorem cleanFn_any (P3 P5 : Nat) (B : Nat) (a : Option Addr) (n c : Nat) (xs : List Int) (i : Int) (x : Int) (w : World) (h3 : w.cell? ⟨P3, 0, none⟩ = some (.slice a n c)) (h5 : w.cell? ⟨P5, 0, none⟩ = some (.int .i64 i)) (hA : Ints .i64 w B a (n * 9) xs) (hB : B ≤ w.heap.size) (hn : n ≤ 1048577) (hx : 0 ≤ x ∧ x < n) (hp : Pre xs n) :
    Calls Try.prog 51 (#[.int .i64 x] ++ #[.pointer (some ⟨P3, 0, none⟩), .pointer (some ⟨P5, 0, none⟩)]) w fun e w' => e = .returned (.bool (arnd xs i x.toNat)) ∧ Below w.heap.size w w' := by
  obtain ⟨r, rfl⟩ := Int.eq_ofNat_of_zero_le hx.1
  have hc := implAround_any B a n c xs i r w hA hB hn (by omega) hp
  clear hA hp hx
  show Calls Try.prog 51 #[.int .i64 r, .pointer (some ⟨P3, 0, none⟩), .pointer (some ⟨P5, 0, none⟩)] w _
  go_enter Try.func51, Try.ntmps51
  go_wp2_with fail
  refine hc.mono ?_
  rintro e w' ⟨rfl, hb⟩
  have HB := hide hb
  clear hb h3 h5
  go_wp2
  go_ret
  exact ⟨rfl, HB.out⟩
set_option maxHeartbeats 4000000 in
theorem implClean_any (B BM : Nat) (a am : Option Addr) (n c m0 cm : Nat) (xs ms : List Int) (i : Int) (w : World) (hA : Ints .i64 w B a (n * 9) xs) (hM : Ints .i64 w BM am m0 ms) (hB : B ≤ w.heap.size) (hBM : BM ≤ w.heap.size) (hn : n ≤ 1048577) (hm : m0 ≤ 1048577) :
    Calls Try.prog 31 #[.slice a n c, .slice am m0 cm, .int .i64 i] w (CleanR (cleanL xs n ms i) (cleanV xs n ms i) w) := by
  have e1 : IntKind.i64.wrap ((n : Int) - 1) = (n : Int) - 1 := IntWalk.i64_in _ (by omega)
  have hb0 : Below w.heap.size w ((w.alloc (.cells #[.slice a n c] 25)).alloc (.cells #[.int .i64 i] 3)) := ((Below.refl _ _).alloc (Nat.le_refl _) _).alloc (by simp) _
  have HB0 := hide hb0
  have HZ0 := hide (show ((w.alloc (.cells #[.slice a n c] 25)).alloc (.cells #[.int .i64 i] 3)).heap.size = w.heap.size + 2 by simp)
  have c3 : ((w.alloc (.cells #[.slice a n c] 25)).alloc (.cells #[.int .i64 i] 3)).cell? ⟨w.heap.size, 0, none⟩ = some (.slice a n c) := by simp [go_sem, World.cell?_alloc_past]
  have c5 : ((w.alloc (.cells #[.slice a n c] 25)).alloc (.cells #[.int .i64 i] 3)).cell? ⟨w.heap.size + 1, 0, none⟩ = some (.int .i64 i) := by simp [go_sem]
  have HA := hide (fun W (h : Below ((w.alloc (.cells #[.slice a n c] 25)).alloc (.cells #[.int .i64 i] 3)).heap.size ((w.alloc (.cells #[.slice a n c] 25)).alloc (.cells #[.int .i64 i] 3)) W) => (hA.below hb0 hB).below h (by have := HZ0.out; omega))
  have HM := hide (fun W (h : Below ((w.alloc (.cells #[.slice a n c] 25)).alloc (.cells #[.int .i64 i] 3)).heap.size ((w.alloc (.cells #[.slice a n c] 25)).alloc (.cells #[.int .i64 i] 3)) W) => (hM.below hb0 hBM).below h (by have := HZ0.out; omega))
  have HR := hide (Below.refl ((w.alloc (.cells #[.slice a n c] 25)).alloc (.cells #[.int .i64 i] 3)).heap.size ((w.alloc (.cells #[.slice a n c] 25)).alloc (.cells #[.int .i64 i] 3)))
  clear hb0 hA hM
  cases h0 : marksV xs n ms
  case false =>
    have D := hide (show cleanV xs n ms i = false by rw [cleanV, h0]; rfl)
    go_enter Try.func31, Try.ntmps31
    go_wp2_with fail
    generalize (w.alloc (.cells #[.slice a n c] 25)).alloc (.cells #[.int .i64 i] 3) = W0 at HB0 HZ0 c3 c5 HA HM HR ⊢
    have H3 := hide (fun W (h : Below W0.heap.size W0 W) => (h.cell (p := ⟨w.heap.size, 0, none⟩) (by show w.heap.size < W0.heap.size; have := HZ0.out; omega)).trans c3)
    have H5 := hide (fun W (h : Below W0.heap.size W0 W) => (h.cell (p := ⟨w.heap.size + 1, 0, none⟩) (by show w.heap.size + 1 < W0.heap.size; have := HZ0.out; omega)).trans c5)
    have hv := implMarks_any B BM a am n c m0 cm xs ms W0 (HA.out _ HR.out) (HM.out _ HR.out) (by have := HZ0.out; omega) (by have := HZ0.out; omega) hn hm
    rw [h0] at hv
    refine hv.mono ?_
    rintro e W1 ⟨rfl, hb⟩
    have HB := hide (HB0.out.trans (hb.mono (by have := HZ0.out; omega)))
    have HBw := hide hb
    have g3 := H3.out _ hb
    have g5 := H5.out _ hb
    have hz1 := hb.size
    clear hb hv c3 c5
    clear g3 g5
    go_wp2
    exact bodyPost_ret (v := .tuple #[.slice none 0 0, .bool false]) (by simp [results, Try.results31, go_sem]) rfl (CleanR.no D.out HB.out)
  case true =>
    cases h1 : inR i 0 ((n : Int) - 1)
    case false =>
      have D := hide (show cleanV xs n ms i = false by rw [cleanV, h0, h1]; rfl)
      go_enter Try.func31, Try.ntmps31
      go_wp2_with fail
      generalize (w.alloc (.cells #[.slice a n c] 25)).alloc (.cells #[.int .i64 i] 3) = W0 at HB0 HZ0 c3 c5 HA HM HR ⊢
      have H3 := hide (fun W (h : Below W0.heap.size W0 W) => (h.cell (p := ⟨w.heap.size, 0, none⟩) (by show w.heap.size < W0.heap.size; have := HZ0.out; omega)).trans c3)
      have H5 := hide (fun W (h : Below W0.heap.size W0 W) => (h.cell (p := ⟨w.heap.size + 1, 0, none⟩) (by show w.heap.size + 1 < W0.heap.size; have := HZ0.out; omega)).trans c5)
      have hv := implMarks_any B BM a am n c m0 cm xs ms W0 (HA.out _ HR.out) (HM.out _ HR.out) (by have := HZ0.out; omega) (by have := HZ0.out; omega) hn hm
      rw [h0] at hv
      refine hv.mono ?_
      rintro e W1 ⟨rfl, hb⟩
      have HB := hide (HB0.out.trans (hb.mono (by have := HZ0.out; omega)))
      have HBw := hide hb
      have g3 := H3.out _ hb
      have g5 := H5.out _ hb
      have hz1 := hb.size
      clear hb hv c3 c5
      go_wp2_with (go_at_call 49; with_reducible refine (within_is h1 _).mono ?_; rintro e w' ⟨rfl, rfl⟩)
      exact bodyPost_ret (v := .tuple #[.slice none 0 0, .bool false]) (by simp [results, Try.results31, go_sem]) rfl (CleanR.no D.out HB.out)
    case true =>
      have HQ := hide (show cleanV xs n ms i = true by rw [cleanV, h0, h1]; rfl)
      have ht := marksV_all h0
      have HT := hide ht.1
      have HMs := hide (fun x (hx : x ∈ ms) => (ht.2.2 x hx).1)
      have hn16 := ht.1.hi
      clear ht
      go_enter Try.func31, Try.ntmps31
      go_wp2_with fail
      generalize (w.alloc (.cells #[.slice a n c] 25)).alloc (.cells #[.int .i64 i] 3) = W0 at HB0 HZ0 c3 c5 HA HM HR ⊢
      have H3 := hide (fun W (h : Below W0.heap.size W0 W) => (h.cell (p := ⟨w.heap.size, 0, none⟩) (by show w.heap.size < W0.heap.size; have := HZ0.out; omega)).trans c3)
      have H5 := hide (fun W (h : Below W0.heap.size W0 W) => (h.cell (p := ⟨w.heap.size + 1, 0, none⟩) (by show w.heap.size + 1 < W0.heap.size; have := HZ0.out; omega)).trans c5)
      have hv := implMarks_any B BM a am n c m0 cm xs ms W0 (HA.out _ HR.out) (HM.out _ HR.out) (by have := HZ0.out; omega) (by have := HZ0.out; omega) hn hm
      rw [h0] at hv
      refine hv.mono ?_
      rintro e W1 ⟨rfl, hb⟩
      have HB := hide (HB0.out.trans (hb.mono (by have := HZ0.out; omega)))
      have HBw := hide hb
      have g3 := H3.out _ hb
      have g5 := H5.out _ hb
      have hz1 := hb.size
      clear hb hv c3 c5
      clear h0
      go_wp2_with (go_at_call 49; with_reducible refine (within_is h1 _).mono ?_; rintro e w' ⟨rfl, rfl⟩)
      clear h1
      refine (implRoots_any B BM a am n c m0 cm xs ms W1 (HA.out _ HBw.out) (HM.out _ HBw.out) (by have := HZ0.out; omega) (by have := HZ0.out; omega) hn hm HT.out HMs.out).mono ?_
      rintro e W2 ⟨A, m, rfl, hr, hb⟩
      have hml : (pickN (rootB xs ms) n).length = m := hr.1
      have hmn : m ≤ n := by rw [← hml]; exact pickN_len _ _
      have hz2 := hb.size
      have HP := hide (fun W (h : Only W1.heap.size W2.heap.size W2 W) => (show Below W0.heap.size W0 W from HBw.out.trans ((hb.trans (h.below (Nat.le_refl _) hz2)).mono hz1)))
      have hcall := deleteFn_any 51 #[.pointer (some ⟨w.heap.size, 0, none⟩), .pointer (some ⟨w.heap.size + 1, 0, none⟩)] (enters_of Try.func51 (by kernel_rfl) rfl) (fun x => arnd xs i x.toNat) W1.heap.size W2.heap.size A m m (pickN (rootB xs ms) n) W2 hr (Nat.le_refl _) (Nat.le_refl _) (by omega)
        (fun x hx W hW => cleanFn_any w.heap.size (w.heap.size + 1) B a n c xs i x W (H3.out W (HP.out W hW)) (H5.out W (HP.out W hW)) (HA.out W (HP.out W hW)) (by have := HZ0.out; have := hW.size; omega) hn (pickN_mem hx) HT.out.pre)
      have HBb := hide hb
      clear hr hb g3 g5 hml
      go_wp2_with fail
      refine hcall.mono ?_
      rintro e W3 ⟨m', rfl, hr, ho, hmm⟩
      have D := hide (show CleanR (cleanL xs n ms i) (cleanV xs n ms i) w (.returned (.tuple #[.slice A m' m', .bool true])) W3 by
        rw [cleanL_yes HQ.out]
        exact ⟨A, m', m', by rw [HQ.out], hr.mono (by have := HB.out.size; omega) ho.size, HB.out.trans ((HBb.out.trans (ho.below (Nat.le_refl _) hz2)).mono HB.out.size)⟩)
      clear hr ho hcall
      go_wp2_with (go_at_call 46; refine (clipInts_any A m' m _ hmm (by unfold maxLen; omega)).mono ?_; rintro e w' ⟨rfl, rfl⟩)
      exact bodyPost_ret (v := .tuple #[.slice A m' m', .bool true]) (by simp [results, Try.results31, go_sem]) rfl D.out
end Go.Proofs.Ytmflfpjcaijmmaa
