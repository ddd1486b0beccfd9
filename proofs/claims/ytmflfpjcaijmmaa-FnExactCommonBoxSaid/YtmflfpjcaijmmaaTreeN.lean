/- Slices: the iterator over a slice from its end. Conditions: none. -/
import Derived.Test.YtmflfpjcaijmmaaTreeL
import Derived.RangeFuncNested
import Derived.RangeFuncBound
import Derived.RangeFuncCalls
import Derived.RangeFuncLeaves
import Derived.RangeFuncBox
import Derived.Shelf.Abstract
import Derived.WalkKit
import Derived.OwnWalkIn
import Derived.TacticsInMore
import Derived.LoopNIn
import Derived.LoopIn
namespace Go.Proofs.Ytmflfpjcaijmmaa
open Go.RowKit Go.Shelf
set_option linter.unusedVariables false
set_option linter.unusedSimpArgs false
attribute [local go_sem] Oper.semAt_some
/-- what has come when k rounds are over -/
def upto {α : Type} (f : Nat → α) (k : Nat) : List α := (List.range k).map f
theorem upto_succ {α : Type} (f : Nat → α) (k : Nat) : upto f (k + 1) = upto f k ++ [f k] := by simp [upto, List.range_succ]
theorem upto_length {α : Type} (f : Nat → α) (k : Nat) : (upto f k).length = k := by simp [upto]
/-- the j-th from the end, with its place -/
def fromEnd (zs : List Int) (m : Nat) (j : Nat) : Nat × Int := (m - 1 - j, zs[m - 1 - j]?.getD 0)
set_option maxRecDepth 100000 in
set_option maxHeartbeats 2000000 in
theorem back1_in (F : Fence) (n : Nat) (h8 : F.fn 57) (hro : F.round = none) (hn : 1 ≤ n) (l Bs n₀ b off len cap : Nat) (zs : List Int) (hreach : len * 8 ≤ 140737488351232) (hb : b < n₀) (J Jx : List (Nat × Int) → World → Prop)
    (hY : ∀ pre x W, J pre W → pre.length < len → YieldAt F (n - 1) Try.prog l #[.int .i64 (x.1 : Int), .int .i64 x.2] W fun e W' =>
      (e = .returned (.bool true) ∧ J (pre ++ [x]) W' ∧ Below n₀ W W') ∨ (e = .returned (.bool false) ∧ Jx (pre ++ [x]) W'))
    (W : World) (hBs' : Bs < n₀) (hBs : W.cell? ⟨Bs, 0, none⟩ = some (.slice (some ⟨b, off, none⟩) len cap)) (hc : ∀ j, j < len → W.cell? ⟨b, off + j, none⟩ = some (.int .i64 (zs[j]?.getD 0))) (h0 : J [] W) :
    CallsIn F n Try.prog 57 #[.func (.yield l) #[] #[], .pointer (some ⟨Bs, 0, none⟩)] W fun e W' => (∃ v, e = .returned v) ∧
      ((∃ ys, ys = upto (fromEnd zs len) len ∧ J ys W') ∨ (∃ pre, (∃ k, k ≤ len ∧ pre = upto (fromEnd zs len) k) ∧ Jx pre W')) := by
  refine callsIn_of_wp Try.func57 rfl h8 ?_ hro
  simp only [Try.ntmps57, List.size_toArray, List.length_cons, List.length_nil, Nat.reduceAdd, Nat.reduceSub, Array.replicate_succ, Array.replicate_zero, List.push_toArray, List.append_toArray, List.nil_append, List.cons_append]
  have e1 : IntKind.i64.wrap ((len : Int) - 1) = (len : Int) - 1 := IntWalk.i64_in _ (by omega)
  gi_wp2
  gi_loopw [3] (fun i wr => ∃ k : Nat, k ≤ len ∧ i = .int .i64 ((len : Int) - 1 - k) ∧ J (upto (fromEnd zs len) k) wr ∧ Below n₀ W wr)
    (fun i _ => (intOf i + 1).toNat)
  case atStart => exact ⟨0, Nat.zero_le _, by simp, h0, Below.refl _ _⟩
  case round =>
    obtain ⟨k, hk, rfl, hJs, hnx⟩ := hrel
    have hbx : wr.cell? ⟨Bs, 0, none⟩ = some (.slice (some ⟨b, off, none⟩) len cap) := (hnx.cell (p := ⟨Bs, 0, none⟩) hBs').trans hBs
    by_cases hlt : k < len
    · obtain ⟨t, ht⟩ : ∃ t : Nat, len - 1 - k = t := ⟨_, rfl⟩
      have htl : t < len := by omega
      have hti : (len : Int) - 1 - (k : Int) = (t : Int) := by omega
      have htl' : (t : Int) < (len : Int) := by omega
      have ht0 : (0 : Int) ≤ (t : Int) := by omega
      have hcx : wr.cell? ⟨b, off + t, none⟩ = some (.int .i64 (zs[t]?.getD 0)) := (hnx.cell (p := ⟨b, off + t, none⟩) hb).trans (hc t htl)
      obtain ⟨fn, tmps, assign, body, hy, hR⟩ := hY _ (t, zs[t]?.getD 0) wr hJs (by rw [upto_length]; exact hlt)
      dsimp only at hy
      have hf : upto (fromEnd zs len) k ++ [(t, zs[t]?.getD 0)] = upto (fromEnd zs len) (k + 1) := by rw [upto_succ, fromEnd, ht]
      rw [hti]
      have e2 : IntKind.i64.wrap ((t : Int) - 1) = (t : Int) - 1 := IntWalk.i64_in _ (by omega)
      clear ht
      gi_wp2
      refine hR.mono ?_
      rintro e W3 (⟨rfl, hJ3, hk3⟩ | ⟨rfl, hJx3⟩)
      · gi_wp2
        go_roundw
        case rel => exact ⟨k + 1, by omega, by rw [show (len : Int) - 1 - ((k + 1 : Nat) : Int) = (t : Int) - 1 by omega], by rw [← hf]; exact hJ3, hnx.trans hk3⟩
        case measure => simp [intOf] <;> omega
      · gi_wp2
        refine bodyPost_ret (results_none rfl _ _ _) rfl ?_
        exact ⟨⟨_, rfl⟩, .inr ⟨_, ⟨k + 1, by omega, hf⟩, hJx3⟩⟩
    · obtain rfl : k = len := by omega
      have hneg : ¬ (0 : Int) ≤ (k : Int) - 1 - (k : Int) := by omega
      gi_wp2
      go_end0
      exact ⟨⟨_, rfl⟩, .inl hJs⟩
set_option maxRecDepth 100000 in
set_option maxHeartbeats 1000000 in
theorem back1_nil_in (F : Fence) (n : Nat) (h8 : F.fn 57) (hro : F.round = none) (l Bs : Nat) (a : Option Addr) (cap : Nat) (J : List (Nat × Int) → World → Prop) (W : World) (hBs : W.cell? ⟨Bs, 0, none⟩ = some (.slice a 0 cap)) (h0 : J [] W) :
    CallsIn F n Try.prog 57 #[.func (.yield l) #[] #[], .pointer (some ⟨Bs, 0, none⟩)] W fun e W' => (∃ v, e = .returned v) ∧ J [] W' := by
  refine callsIn_of_wp Try.func57 rfl h8 ?_ hro
  simp only [Try.ntmps57, List.size_toArray, List.length_cons, List.length_nil, Nat.reduceAdd, Nat.reduceSub, Array.replicate_succ, Array.replicate_zero, List.push_toArray, List.append_toArray, List.nil_append, List.cons_append]
  have e1 : IntKind.i64.wrap ((0 : Int) - 1) = -1 := by decide
  have e2 : IntKind.i64.wrap (-1 : Int) = -1 := by decide
  gi_wp2
  gi_loopw [3] (fun i wr => i = .int .i64 (-1) ∧ J [] wr) (fun _ _ => 0)
  case atStart => exact ⟨rfl, h0⟩
  case round =>
    obtain ⟨rfl, hJs⟩ := hrel
    gi_wp2
    go_end0
    exact ⟨⟨_, rfl⟩, hJs⟩
theorem upto_zero {α : Type} (f : Nat → α) : upto f 0 = [] := rfl
/-- the iterator's contract, at a slice of ints that lies below n₀ -/
theorem back_stops (F : Fence) (n : Nat) (h8 : F.fn 57) (hro : F.round = none) (hn : 1 ≤ n) (Bs n₀ B : Nat) (a : Option Addr) (m cap : Nat) (zs : List Int) (hreach : m * 8 ≤ 140737488351232) (w : World) (hBs : Bs < n₀) (hB : B ≤ n₀) (hn₀ : n₀ ≤ w.heap.size)
    (hc : w.cell? ⟨Bs, 0, none⟩ = some (.slice a m cap)) (hI : Ints .i64 w B a m zs) :
    SeqStopsK F n Try.prog 57 #[.pointer (some ⟨Bs, 0, none⟩)] (fun x : Nat × Int => #[Value.int .i64 (x.1 : Int), Value.int .i64 x.2]) (Below n₀) (fun ys => ys = upto (fromEnd zs m) m)
      (fun pre => ∃ k, k ≤ m ∧ pre = upto (fromEnd zs m) k) m w := fun l J Jx W hW _ _ hY h0 => by
  have hc' := (hW.cell (p := ⟨Bs, 0, none⟩) (by show Bs < w.heap.size; omega)).trans hc
  rcases Nat.eq_zero_or_pos m with rfl | hm
  · exact (back1_nil_in F n h8 hro l Bs a cap J W hc' h0).mono fun e W' ⟨he, hj⟩ => ⟨he, .inl ⟨_, rfl, hj⟩⟩
  · obtain ⟨b, off, rfl, hb, hcs⟩ := hI.2.2 hm
    refine (back1_in F n h8 hro hn l Bs n₀ b off m cap zs hreach (by omega) J Jx hY W hBs hc' (fun j hj => ?_) h0)
    rw [hW.cell (p := ⟨b, off + j, none⟩) (by show b < w.heap.size; omega), hcs j hj, List.getD_eq_getElem?_getD]
set_option maxHeartbeats 1000000 in
theorem back_in (F : Fence) (n : Nat) (h5 : F.fn 38) (hro : F.round = none) (a : Option Addr) (len cap : Nat) (w : World) :
    CallsIn F n Try.prog 38 #[.slice a len cap] w fun e w' => e = .returned (.func (.func 57) #[] #[.pointer (some ⟨w.heap.size, 0, none⟩)]) ∧ w' = w.alloc (.cells #[.slice a len cap] 31) := by
  refine callsIn_of_wp Try.func38 rfl h5 ?_ hro
  simp only [Try.ntmps38, List.size_toArray, List.length_cons, List.length_nil, Nat.reduceAdd, Nat.reduceSub, Array.replicate_succ, Array.replicate_zero, List.push_toArray, List.append_toArray, List.nil_append, List.cons_append]
  gi_wp2
  go_ret
  exact ⟨rfl, rfl⟩
/-- the first of a list of which q says yes, or -1 -/
def firstQ (q : Int → Bool) (L : List Int) : Int := (L.find? q).getD (-1)
theorem firstQ_yes {q : Int → Bool} {x : Int} {L : List Int} (h : q x = true) : firstQ q (x :: L) = x := by rw [firstQ, List.find?_cons_of_pos h]; rfl
theorem firstQ_no {q : Int → Bool} {x : Int} {L : List Int} (h : q x = false) : firstQ q (x :: L) = firstQ q L := by rw [firstQ, List.find?_cons_of_neg (by rw [h]; exact Bool.false_ne_true)]; rfl
theorem firstQ_none {q : Int → Bool} {L : List Int} (h : ∀ x ∈ L, q x = false) : firstQ q L = -1 := by
  rw [firstQ, List.find?_eq_none.2 (fun x hx => by rw [h x hx]; exact Bool.false_ne_true)]; rfl
theorem firstQ_at {q : Int → Bool} {L : List Int} {k : Nat} (hk : k < L.length) (h : ∀ x ∈ L.take k, q x = false) (hq : q (L.getD k 0) = true) : firstQ q L = L.getD k 0 := by
  induction L generalizing k with
  | nil => simp at hk
  | cons y L ih =>
    cases k with
    | zero => exact firstQ_yes hq
    | succ k =>
      rw [firstQ_no (h y (by simp))]
      exact ih (k := k) (by simpa using hk) (fun x hx => h x (by simp [hx])) hq
/-- a reversed list read from its end -/
theorem fromEnd_snd {U : List Int} {j : Nat} (hj : j < U.length) : (fromEnd U.reverse U.length j).2 = U.getD j 0 := by
  show U.reverse[U.length - 1 - j]?.getD 0 = U.getD j 0
  rw [List.getElem?_reverse (by omega), List.getD_eq_getElem?_getD, show U.length - 1 - (U.length - 1 - j) = j by omega]
noncomputable def cmnR (xs : List Int) (n : Nat) (x y : Int) : Int := if (treeV xs n && inR x 0 ((n : Int) - 1)) = true ∧ inR y 0 ((n : Int) - 1) = true then firstQ (fun z => arnd xs z y.toNat) (upN xs x.toNat) else -1
theorem cmnR_no1 {xs : List Int} {n : Nat} {x y : Int} (h : (treeV xs n && inR x 0 ((n : Int) - 1)) = false) : cmnR xs n x y = -1 := by rw [cmnR, if_neg (fun h1 => by rw [h] at h1; cases h1.1)]
theorem cmnR_no2 {xs : List Int} {n : Nat} {x y : Int} (h : inR y 0 ((n : Int) - 1) = false) : cmnR xs n x y = -1 := by rw [cmnR, if_neg (fun h1 => by rw [h] at h1; cases h1.2)]
theorem cmnR_yes {xs : List Int} {n : Nat} {x y : Int} (h : (treeV xs n && inR x 0 ((n : Int) - 1)) = true) (h2 : inR y 0 ((n : Int) - 1) = true) : cmnR xs n x y = firstQ (fun z => arnd xs z y.toNat) (upN xs x.toNat) := by rw [cmnR, if_pos ⟨h, h2⟩]
theorem root_mem {xs : List Int} {k i : Nat} (hp : Pre xs k) (hi : i < k) : (0 : Int) ∈ upN xs i := by
  induction i using Nat.strongRecOn with
  | _ i ih =>
    by_cases hneg : par xs i < 0
    · have h0 := (hp i hi).2.2
      obtain rfl : i = 0 := by omega
      rw [upN_root hneg]; simp
    · obtain ⟨q, hqq⟩ : ∃ q : Nat, par xs i = q := ⟨(par xs i).toNat, by omega⟩
      have h2 := (hp i hi).2.1
      rw [upN_step hp hi hqq]
      exact List.mem_cons_of_mem _ (ih q (by omega) (by omega))
set_option maxHeartbeats 2000000 in
theorem specCommon_any (B : Nat) (a : Option Addr) (n c : Nat) (xs : List Int) (x y : Int) (w : World) (hA : Ints .i64 w B a (n * 9) xs) (hB : B ≤ w.heap.size) (hn : n ≤ 1048577) :
    Calls Try.prog 17 #[.slice a n c, .int .i64 x, .int .i64 y] w fun e w' => e = .returned (.int .i64 (cmnR xs n x y)) ∧ Below w.heap.size w w' := by
  have hv := specValid_any B a n c xs w hA hB hn
  have e1 : IntKind.i64.wrap ((n : Int) - 1) = (n : Int) - 1 := IntWalk.i64_in _ (by omega)
  have HA := hide (fun W (h : Below w.heap.size w W) => hA.below h hB)
  clear hA
  cases h0 : treeV xs n
  case false =>
    rw [h0] at hv
    have D := hide (cmnR_no1 (xs := xs) (n := n) (x := x) (y := y) (by rw [h0]; rfl))
    go_enter Try.func17, Try.ntmps17
    go_wp2_with (go_at_call 32; refine hv.mono ?_; rintro e W1 ⟨rfl, hb⟩; have HB := hide hb; clear hb)
    go_ret
    exact ⟨ret_int D.out.symm, HB.out⟩
  case true =>
    rw [h0] at hv
    cases h1 : inR x 0 ((n : Int) - 1)
    case false =>
      have D := hide (cmnR_no1 (xs := xs) (n := n) (x := x) (y := y) (by rw [h0, h1]; rfl))
      go_enter Try.func17, Try.ntmps17
      go_wp2_with (first | (go_at_call 32; refine hv.mono ?_; rintro e W1 ⟨rfl, hb⟩; have HB := hide hb; clear hb) | (go_at_call 33; with_reducible refine (inRange_is h1 _).mono ?_; rintro e w' ⟨rfl, rfl⟩))
      go_ret
      exact ⟨ret_int D.out.symm, HB.out⟩
    case true =>
      cases h2 : inR y 0 ((n : Int) - 1)
      case false =>
        have D := hide (cmnR_no2 (xs := xs) (n := n) (x := x) (y := y) h2)
        go_enter Try.func17, Try.ntmps17
        go_wp2_with (first | (go_at_call 32; refine hv.mono ?_; rintro e W1 ⟨rfl, hb⟩; have HB := hide hb; clear hb) | (go_at_call 33; with_reducible refine (inRange_is h1 _).mono ?_; rintro e w' ⟨rfl, rfl⟩) | (go_at_call 33; with_reducible refine (inRange_is h2 _).mono ?_; rintro e w' ⟨rfl, rfl⟩))
        go_ret
        exact ⟨ret_int D.out.symm, HB.out⟩
      case true =>
        have HQ := hide (cmnR_yes (xs := xs) (n := n) (x := x) (y := y) (by rw [h0, h1]; rfl) h2)
        have h3 := inR_iff.1 h1
        have h4 := inR_iff.1 h2
        obtain ⟨q, rfl⟩ := Int.eq_ofNat_of_zero_le h3.1
        obtain ⟨r, rfl⟩ := Int.eq_ofNat_of_zero_le h4.1
        have hqn : q < n := by omega
        have hrn : r < n := by omega
        have HT := hide (treeV_iff.1 h0)
        clear h3 h4 h0
        go_enter Try.func17, Try.ntmps17
        go_wp2_with (first | (go_at_call 32; refine hv.mono ?_; rintro e W1 ⟨rfl, hb⟩; have HB := hide hb; clear hb) | (go_at_call 33; with_reducible refine (inRange_is h1 _).mono ?_; rintro e w' ⟨rfl, rfl⟩) | (go_at_call 33; with_reducible refine (inRange_is h2 _).mono ?_; rintro e w' ⟨rfl, rfl⟩))
        clear hv h1 h2
        go_loopw [1] (fun s1 wr => ∃ (p : Nat), p < n ∧ s1 = .int .i64 p ∧ W1 = wr ∧ Hid (firstQ (fun z => arnd xs z r) (upN xs p) = firstQ (fun z => arnd xs z r) (upN xs q))) (fun s1 _ => (intOf s1).toNat)
        case atStart => exact ⟨q, hqn, rfl, rfl, hide rfl⟩
        case round =>
          obtain ⟨p, hpn, rfl, rfl, HD⟩ := hrel
          have hc := specAround_any B a n c xs (p : Int) r W1 (HA.out _ HB.out) hn hrn HT.out.pre (by omega)
          obtain ⟨b, hb⟩ : ∃ b, arnd xs (p : Int) r = b := ⟨_, rfl⟩
          rw [hb] at hc
          cases b with
          | true =>
            have D := hide (show firstQ (fun z => arnd xs z r) (upN xs q) = (p : Int) by rw [← HD.out, upN_rest HT.out.pre hpn]; exact firstQ_yes hb)
            clear hb HD
            go_wp2_with (go_at_call 37; refine hc.mono ?_; rintro e w' ⟨rfl, rfl⟩)
            go_ret
            exact ⟨ret_int (HQ.out.trans D.out).symm, HB.out⟩
          | false =>
            have hp0 : p ≠ 0 := fun h => by
              subst h
              have h1 := root_mem HT.out.pre hrn
              rw [arnd, decide_eq_false_iff_not] at hb
              exact hb h1
            have hpr := HT.out.pre p hpn
            obtain ⟨t, ht⟩ : ∃ t : Nat, par xs p = t := ⟨(par xs p).toNat, by omega⟩
            have htp : t < p := by omega
            have htn : t < n := by omega
            have hpn' : (p : Int) < (n : Int) := by omega
            have D := hide (show firstQ (fun z => arnd xs z r) (upN xs t) = firstQ (fun z => arnd xs z r) (upN xs q) by rw [← HD.out, upN_step HT.out.pre hpn ht]; exact (firstQ_no hb).symm)
            obtain ⟨b9, off, rfl, hb9, h1, -⟩ := (HA.out _ HB.out).fldAt (by omega)
            have hc0 := h1 p hpn
            rw [ht] at hc0
            clear hb HD hpr ht h1 hp0
            go_wp2_with (go_at_call 37; refine hc.mono ?_; rintro e w' ⟨rfl, rfl⟩)
            go_roundw
            case rel => exact ⟨t, htn, rfl, by trivial, D⟩
            case measure => simp [intOf]; omega
end Go.Proofs.Ytmflfpjcaijmmaa
