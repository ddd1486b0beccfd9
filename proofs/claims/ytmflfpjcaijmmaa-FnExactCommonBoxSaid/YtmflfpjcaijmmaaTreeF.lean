/- Trees: the box from which on to lay out anew, and the next leaf: the reference and the program. Conditions: none. -/
import Derived.Test.YtmflfpjcaijmmaaTreeE
namespace Go.Proofs.Ytmflfpjcaijmmaa
open Go.RowKit
set_option linter.unusedVariables false
set_option linter.unusedSimpArgs false
/-- the first box from p on upwards that is no block -/
def lroot (xs : List Int) : Nat → Int → Int
  | 0, _ => 0
  | f + 1, p => if p ≤ 0 then 0 else if fld xs p.toNat 1 = 1 then lroot xs f (par xs p.toNat) else p
def sroot (xs : List Int) (f : Nat) (i : Int) : Int := if i ≤ 0 then 0 else lroot xs f (par xs i.toNat)
noncomputable def layR (xs : List Int) (n : Nat) (i : Int) : Int := if (treeV xs n && inR i 0 ((n : Int) - 1)) = true then sroot xs n i else -1
theorem layR_no {xs : List Int} {n : Nat} {i : Int} (h : (treeV xs n && inR i 0 ((n : Int) - 1)) = false) : layR xs n i = -1 := by rw [layR, h]; rfl
theorem layR_yes {xs : List Int} {n : Nat} {i : Int} (h : (treeV xs n && inR i 0 ((n : Int) - 1)) = true) : layR xs n i = sroot xs n i := by rw [layR, if_pos h]
theorem sroot_zero (xs : List Int) (f : Nat) : sroot xs f 0 = 0 := by simp [sroot]
theorem sroot_pos {xs : List Int} {f p r : Nat} (hp : 0 < p) (h : par xs p = r) : sroot xs f p = lroot xs f r := by
  rw [sroot, if_neg (by omega), Int.toNat_natCast, h]
theorem lroot_on {xs : List Int} {f r : Nat} (h : fld xs r 1 = 1) : lroot xs (f + 1) r = sroot xs f r := by
  rw [lroot, sroot]
  split
  · rfl
  · rw [Int.toNat_natCast, if_pos h]
theorem lroot_off {xs : List Int} {f r : Nat} (h : fld xs r 1 ≠ 1) : lroot xs (f + 1) r = r := by
  rw [lroot]
  split
  · omega
  · rw [Int.toNat_natCast, if_neg h]
theorem lroot_neg {xs : List Int} {f : Nat} {p : Int} (h : p ≤ 0) : lroot xs f p = 0 := by
  cases f with
  | zero => rfl
  | succ f => rw [lroot, if_pos h]
/-- the first leaf among the m boxes from number k on behind box q -/
def nleaf (xs : List Int) (n q : Nat) : Nat → Nat → Int
  | 0, _ => -1
  | m + 1, k => if fld xs ((q + 1 + k) % n) 1 = 0 then ((q + 1 + k) % n : Nat) else nleaf xs n q m (k + 1)
noncomputable def leafR (xs : List Int) (n : Nat) (i : Int) : Int := if (treeV xs n && inR i 0 ((n : Int) - 1)) = true then nleaf xs n i.toNat n 0 else -1
theorem leafR_no {xs : List Int} {n : Nat} {i : Int} (h : (treeV xs n && inR i 0 ((n : Int) - 1)) = false) : leafR xs n i = -1 := by rw [leafR, h]; rfl
theorem leafR_yes {xs : List Int} {n : Nat} {i : Int} (h : (treeV xs n && inR i 0 ((n : Int) - 1)) = true) : leafR xs n i = nleaf xs n i.toNat n 0 := by rw [leafR, if_pos h]
set_option maxHeartbeats 2000000 in
theorem specLayout_any (B : Nat) (a : Option Addr) (n c : Nat) (xs : List Int) (i : Int) (w : World) (hA : Ints .i64 w B a (n * 9) xs) (hB : B ≤ w.heap.size) (hn : n ≤ 1048577) :
    Calls Try.prog 11 #[.slice a n c, .int .i64 i] w fun e w' => e = .returned (.int .i64 (layR xs n i)) ∧ Below w.heap.size w w' := by
  have hv := specValid_any B a n c xs w hA hB hn
  have e1 : IntKind.i64.wrap ((n : Int) - 1) = (n : Int) - 1 := IntWalk.i64_in _ (by omega)
  have HA := hide (fun W (h : Below w.heap.size w W) => hA.below h hB)
  clear hA
  cases h0 : treeV xs n
  case false =>
    rw [h0] at hv
    have D := hide (layR_no (xs := xs) (n := n) (i := i) (by rw [h0]; rfl))
    go_enter Try.func11, Try.ntmps11
    go_wp2_with (go_at_call 32; refine hv.mono ?_; rintro e W1 ⟨rfl, hb⟩; have HB := hide hb; clear hb)
    go_ret
    exact ⟨ret_int D.out.symm, HB.out⟩
  case true =>
    rw [h0] at hv
    cases h1 : inR i 0 ((n : Int) - 1)
    case false =>
      have D := hide (layR_no (xs := xs) (n := n) (i := i) (by rw [h0, h1]; rfl))
      go_enter Try.func11, Try.ntmps11
      go_wp2_with (first | (go_at_call 32; refine hv.mono ?_; rintro e W1 ⟨rfl, hb⟩; have HB := hide hb; clear hb) | (go_at_call 33; with_reducible refine (inRange_is h1 _).mono ?_; rintro e w' ⟨rfl, rfl⟩))
      go_ret
      exact ⟨ret_int D.out.symm, HB.out⟩
    case true =>
      have HQ := hide (layR_yes (xs := xs) (n := n) (i := i) (by rw [h0, h1]; rfl))
      have h2 := inR_iff.1 h1
      obtain ⟨q, rfl⟩ := Int.eq_ofNat_of_zero_le h2.1
      have hqn : q < n := by omega
      have HT := hide (treeV_iff.1 h0)
      clear h2 h0
      go_enter Try.func11, Try.ntmps11
      go_wp2_with (first | (go_at_call 32; refine hv.mono ?_; rintro e W1 ⟨rfl, hb⟩; have HB := hide hb; clear hb) | (go_at_call 33; with_reducible refine (inRange_is h1 _).mono ?_; rintro e w' ⟨rfl, rfl⟩))
      clear hv h1
      go_loopw [1] (fun s1 wr => ∃ (p f : Nat), p < n ∧ p ≤ f ∧ s1 = .int .i64 p ∧ W1 = wr ∧ Hid (sroot xs f p = sroot xs n q)) (fun s1 _ => (intOf s1).toNat)
      case atStart => exact ⟨q, n, hqn, by omega, rfl, rfl, hide rfl⟩
      case round =>
        obtain ⟨p, f, hpn, hpf, rfl, rfl, HD⟩ := hrel
        by_cases hp0 : p = 0
        · subst hp0
          have D := hide (HD.out.symm.trans (sroot_zero xs f))
          clear HD
          go_wp2
          go_ret
          exact ⟨ret_int (HQ.out.trans D.out).symm, HB.out⟩
        · have hp0' : (0 : Int) < (p : Int) := by omega
          have hpr := HT.out.pre p hpn
          obtain ⟨r, hr⟩ : ∃ r : Nat, par xs p = r := ⟨(par xs p).toNat, by omega⟩
          have hrp : r < p := by omega
          obtain ⟨g, rfl⟩ : ∃ g, f = g + 1 := ⟨f - 1, by omega⟩
          obtain ⟨b, off, rfl, hb9, h1, h2⟩ := (HA.out _ HB.out).fldAt (by omega)
          have hc0 := h1 p hpn
          have hc1 := h2 r 1 (by omega) (by omega)
          have HS := hide (HD.out.symm.trans (sroot_pos (by omega) hr))
          rw [hr] at hc0
          have hrn : r < n := by omega
          have hrn' : (r : Int) < (n : Int) := by omega
          have hpn' : (p : Int) < (n : Int) := by omega
          clear h1 h2 HD hpr hr
          obtain ⟨z, hz⟩ : ∃ z, fld xs r 1 = z := ⟨_, rfl⟩
          have HZ := hide hz
          rw [hz] at hc1
          clear hz
          by_cases hz : z = 1
          · have hz' : (z != 1) = false := by simpa using hz
            have D := hide ((HS.out.trans (lroot_on (HZ.out.trans hz))).symm)
            clear hz HS HZ
            go_wp2
            go_roundw
            case rel => exact ⟨r, g, hrn, by omega, rfl, by trivial, D⟩
            case measure => simp [intOf]; omega
          · have hz' : (z != 1) = true := by simpa using hz
            have D := hide (HS.out.trans (lroot_off (fun h => hz (HZ.out.symm.trans h))))
            clear hz HS HZ
            go_wp2
            go_ret
            exact ⟨ret_int (HQ.out.trans D.out).symm, HB.out⟩
set_option maxHeartbeats 2000000 in
theorem implLayout_any (B : Nat) (a : Option Addr) (n c : Nat) (xs : List Int) (i : Int) (w : World) (hA : Ints .i64 w B a (n * 9) xs) (hB : B ≤ w.heap.size) (hn : n ≤ 1048577) :
    Calls Try.prog 13 #[.slice a n c, .int .i64 i] w fun e w' => e = .returned (.int .i64 (layR xs n i)) ∧ Below w.heap.size w w' := by
  have hv := boxIn_any B a n c xs i w hA hB hn
  have HA := hide (fun W (h : Below w.heap.size w W) => hA.below h hB)
  clear hA
  cases h0 : (treeV xs n && inR i 0 ((n : Int) - 1))
  case false =>
    rw [h0] at hv
    have D := hide (layR_no h0)
    go_enter Try.func13, Try.ntmps13
    go_wp2_with (go_at_call 35; refine hv.mono ?_; rintro e W1 ⟨rfl, hb⟩; have HB := hide hb; clear hb)
    go_ret
    exact ⟨ret_int D.out.symm, HB.out⟩
  case true =>
    rw [h0] at hv
    have HQ := hide (layR_yes h0)
    have h2 := Bool.and_eq_true_iff.1 h0
    have HT := hide (treeV_iff.1 h2.1)
    have h3 := inR_iff.1 h2.2
    obtain ⟨q, rfl⟩ := Int.eq_ofNat_of_zero_le h3.1
    have hqn : q < n := by omega
    clear h2 h3 h0
    obtain ⟨p, hp⟩ : ∃ p, par xs q = p := ⟨_, rfl⟩
    have HP := hide hp
    have hpr := HT.out.pre q hqn
    rw [hp] at hpr
    clear hp
    have hp1 : -1 ≤ p := hpr.1
    have hp2 : p < q := hpr.2.1
    obtain ⟨b, off, rfl, hb9, h1, -⟩ := (HA.out _ (Below.refl _ w)).fldAt (by omega)
    have HC := hide (fun W (h : Below w.heap.size w W) => (h.cell (p := ⟨b, off + q * 9, none⟩) (by show b < w.heap.size; omega)).trans (h1 q hqn))
    clear h1
    have hqn' : (q : Int) < (n : Int) := by omega
    have HS := hide (show lroot xs n p = sroot xs n q by
      by_cases h : q = 0
      · subst h
        exact (lroot_neg (by omega)).trans (sroot_zero xs n).symm
      · rw [sroot, if_neg (by omega), Int.toNat_natCast, HP.out])
    have HJ := hide (show 0 < p → ∃ j, 0 < j ∧ j < n ∧ par xs j = p from fun h => ⟨q, by omega, hqn, HP.out⟩)
    clear hpr
    go_enter Try.func13, Try.ntmps13
    go_wp2_with (go_at_call 35; refine hv.mono ?_; rintro e W1 ⟨rfl, hb⟩; have HB := hide hb; have hc0 := HC.out _ HB.out; rw [HP.out] at hc0; clear hb)
    clear hv
    go_loopw [1] (fun s1 wr => ∃ (p : Int) (f : Nat), -1 ≤ p ∧ p < n ∧ p < f ∧ s1 = .int .i64 p ∧ W1 = wr ∧ Hid (lroot xs f p = sroot xs n q) ∧ Hid (0 < p → ∃ j, 0 < j ∧ j < n ∧ par xs j = p)) (fun s1 _ => (intOf s1).toNat)
    case atStart => exact ⟨p, n, hp1, by omega, by omega, rfl, rfl, HS, HJ⟩
    case round =>
      clear hp1 hp2 hc0 HC HP HS HJ
      obtain ⟨p, f, hp1, hpn, hpf, rfl, rfl, HD, HJ⟩ := hrel
      by_cases hp0 : p ≤ 0
      · have hp0' : ¬ (0 : Int) < p := by omega
        have D := hide (HD.out.symm.trans (lroot_neg hp0))
        clear HD hp0
        go_wp2
        go_ret
        exact ⟨ret_int (HQ.out.trans D.out).symm, HB.out⟩
      · obtain ⟨r, rfl⟩ := Int.eq_ofNat_of_zero_le (show 0 ≤ p by omega)
        have hp0' : (0 : Int) < (r : Int) := by omega
        have hrn : r < n := by omega
        obtain ⟨g, rfl⟩ : ∃ g, f = g + 1 := ⟨f - 1, by omega⟩
        obtain ⟨b', off', eb, hb9', h1, h2⟩ := (HA.out _ HB.out).fldAt (by omega)
        injection eb with eb
        injection eb with eb1 eb2
        subst eb1 eb2
        have hc0 := h1 r hrn
        have hc1 := h2 r 1 hrn (by omega)
        obtain ⟨j, hj0, hjn, hj⟩ := HJ.out (by omega)
        have hleaf := HT.out.leaf j hj0 hjn
        rw [hj, Int.toNat_natCast] at hleaf
        have hbox := HT.out.box r hrn
        have hkind : 0 ≤ fld xs r 1 ∧ fld xs r 1 ≤ 3 := by
          simp only [boxB, box9, Bool.and_eq_true, inR_iff] at hbox
          exact hbox.1
        have hpr := HT.out.pre r hrn
        have hrn' : (r : Int) < (n : Int) := hpn
        clear h1 h2 hbox hj hp1 HJ
        obtain ⟨y, hy⟩ : ∃ y, par xs r = y := ⟨_, rfl⟩
        have HY := hide hy
        rw [hy] at hc0 hpr
        clear hy
        have hy1 : -1 ≤ y := hpr.1
        have hy2 : y < (r : Int) := hpr.2.1
        obtain ⟨z, hz⟩ : ∃ z, fld xs r 1 = z := ⟨_, rfl⟩
        have HZ := hide hz
        rw [hz] at hc1 hleaf hkind
        clear hz hpr
        by_cases hz : z = 1
        · have HJ := hide (show 0 < y → ∃ j, 0 < j ∧ j < n ∧ par xs j = y from fun h => ⟨r, by omega, hrn, HY.out⟩)
          have D := hide (show lroot xs g y = sroot xs n q by
            have h1 := (HD.out.symm.trans (lroot_on (HZ.out.trans hz))).symm
            rw [sroot, if_neg (by omega), Int.toNat_natCast, HY.out] at h1
            exact h1)
          subst hz
          clear HD HZ hleaf hkind
          go_wp2
          go_roundw
          case rel => exact ⟨y, g, hy1, by omega, by omega, rfl, by trivial, D, HJ⟩
          case measure => simp [intOf]; omega
        · have D := hide (HD.out.symm.trans (lroot_off (fun h => hz (HZ.out.symm.trans h))))
          by_cases hz2 : z = 2
          · subst hz2
            clear HD HZ hleaf hkind hz
            go_wp2
            go_ret
            exact ⟨ret_int (HQ.out.trans D.out).symm, HB.out⟩
          · obtain rfl : z = 3 := by omega
            clear HD HZ hleaf hkind hz hz2
            go_wp2
            go_ret
            exact ⟨ret_int (HQ.out.trans D.out).symm, HB.out⟩
set_option maxHeartbeats 2000000 in
theorem specLeaf_any (B : Nat) (a : Option Addr) (n c : Nat) (xs : List Int) (i : Int) (w : World) (hA : Ints .i64 w B a (n * 9) xs) (hB : B ≤ w.heap.size) (hn : n ≤ 1048577) :
    Calls Try.prog 15 #[.slice a n c, .int .i64 i] w fun e w' => e = .returned (.int .i64 (leafR xs n i)) ∧ Below w.heap.size w w' := by
  have hv := specValid_any B a n c xs w hA hB hn
  have e1 : IntKind.i64.wrap ((n : Int) - 1) = (n : Int) - 1 := IntWalk.i64_in _ (by omega)
  have HA := hide (fun W (h : Below w.heap.size w W) => hA.below h hB)
  clear hA
  cases h0 : treeV xs n
  case false =>
    rw [h0] at hv
    have D := hide (leafR_no (xs := xs) (n := n) (i := i) (by rw [h0]; rfl))
    go_enter Try.func15, Try.ntmps15
    go_wp2_with (go_at_call 32; refine hv.mono ?_; rintro e W1 ⟨rfl, hb⟩; have HB := hide hb; clear hb)
    go_ret
    exact ⟨ret_int D.out.symm, HB.out⟩
  case true =>
    rw [h0] at hv
    cases h1 : inR i 0 ((n : Int) - 1)
    case false =>
      have D := hide (leafR_no (xs := xs) (n := n) (i := i) (by rw [h0, h1]; rfl))
      go_enter Try.func15, Try.ntmps15
      go_wp2_with (first | (go_at_call 32; refine hv.mono ?_; rintro e W1 ⟨rfl, hb⟩; have HB := hide hb; clear hb) | (go_at_call 33; with_reducible refine (inRange_is h1 _).mono ?_; rintro e w' ⟨rfl, rfl⟩))
      go_ret
      exact ⟨ret_int D.out.symm, HB.out⟩
    case true =>
      have HQ := hide (leafR_yes (xs := xs) (n := n) (i := i) (by rw [h0, h1]; rfl))
      have h2 := inR_iff.1 h1
      obtain ⟨q, rfl⟩ := Int.eq_ofNat_of_zero_le h2.1
      have hqn : q < n := by omega
      have HT := hide (treeV_iff.1 h0)
      clear h2 h0
      go_enter Try.func15, Try.ntmps15
      go_wp2_with (first | (go_at_call 32; refine hv.mono ?_; rintro e W1 ⟨rfl, hb⟩; have HB := hide hb; clear hb) | (go_at_call 33; with_reducible refine (inRange_is h1 _).mono ?_; rintro e w' ⟨rfl, rfl⟩))
      clear hv h1
      go_loopw [5] (fun s5 wr => ∃ (k : Nat), k ≤ n ∧ s5 = .int .i64 (k + 1) ∧ W1 = wr ∧ Hid (nleaf xs n q (n - k) k = nleaf xs n q n 0)) (fun s5 _ => n + 1 - (intOf s5).toNat)
      case atStart => exact ⟨0, by omega, rfl, rfl, hide rfl⟩
      case round =>
        obtain ⟨k, hk, rfl, rfl, HD⟩ := hrel
        by_cases hlt : k < n
        · have hkn : (k : Int) < (n : Int) := by omega
          obtain ⟨t, ht⟩ : ∃ t, (q + 1 + k) % n = t := ⟨_, rfl⟩
          have htn : t < n := by rw [← ht]; exact Nat.mod_lt _ (by omega)
          have htn' : (t : Int) < (n : Int) := by omega
          have e2 : Int.tmod ((q : Int) + 1 + (k : Int)) (n : Int) = (t : Int) := by
            rw [Int.tmod_eq_emod_of_nonneg (by omega), ← ht]; simp
          have e3 : Int.tmod ((q : Int) + ((k : Int) + 1)) (n : Int) = (t : Int) := by
            rw [← e2]; congr 1; omega
          have hn0 : ((n : Int) == 0) = false := by simp; omega
          have hn1 : ¬ (n : Int) = 0 := by omega
          have hn2 : ¬ n = 0 := by omega
          have e5 : IntKind.i64.wrap (t : Int) = (t : Int) := IntWalk.i64_in _ (by omega)
          obtain ⟨b, off, rfl, hb9, h1, h2⟩ := (HA.out _ HB.out).fldAt (by omega)
          have hc1 := h2 t 1 htn (by omega)
          clear h1 h2
          obtain ⟨z, hz⟩ : ∃ z, fld xs t 1 = z := ⟨_, rfl⟩
          have HZ := hide hz
          rw [hz] at hc1
          clear hz
          have HS := hide (show nleaf xs n q n 0 = if z = 0 then (t : Int) else nleaf xs n q (n - (k + 1)) (k + 1) by
            rw [← HD.out, show n - k = (n - (k + 1)) + 1 by omega, nleaf, ht, HZ.out])
          clear HD HZ ht
          by_cases hz : z = 0
          · have D := hide (HS.out.trans (if_pos hz))
            subst hz
            clear HS
            go_wp2
            go_ret
            exact ⟨ret_int (HQ.out.trans D.out).symm, HB.out⟩
          · have hz' : (z == 0) = false := by simpa using hz
            have D := hide (HS.out.trans (if_neg hz)).symm
            clear HS hz
            go_wp2
            go_roundw
            case rel => exact ⟨k + 1, by omega, by go_num, by trivial, D⟩
            case measure => simp [intOf]; omega
        · obtain rfl : n = k := by omega
          have D := hide (show nleaf xs n q n 0 = -1 by rw [← HD.out, Nat.sub_self]; rfl)
          clear HD
          go_wp2
          go_ret
          exact ⟨ret_int (HQ.out.trans D.out).symm, HB.out⟩
set_option maxHeartbeats 2000000 in
theorem implLeaf_any (B : Nat) (a : Option Addr) (n c : Nat) (xs : List Int) (i : Int) (w : World) (hA : Ints .i64 w B a (n * 9) xs) (hB : B ≤ w.heap.size) (hn : n ≤ 1048577) :
    Calls Try.prog 16 #[.slice a n c, .int .i64 i] w fun e w' => e = .returned (.int .i64 (leafR xs n i)) ∧ Below w.heap.size w w' := by
  have hv := boxIn_any B a n c xs i w hA hB hn
  have HA := hide (fun W (h : Below w.heap.size w W) => hA.below h hB)
  clear hA
  cases h0 : (treeV xs n && inR i 0 ((n : Int) - 1))
  case false =>
    rw [h0] at hv
    have D := hide (leafR_no h0)
    go_enter Try.func16, Try.ntmps16
    go_wp2_with (go_at_call 35; refine hv.mono ?_; rintro e W1 ⟨rfl, hb⟩; have HB := hide hb; clear hb)
    go_ret
    exact ⟨ret_int D.out.symm, HB.out⟩
  case true =>
    rw [h0] at hv
    have HQ := hide (leafR_yes h0)
    have h2 := Bool.and_eq_true_iff.1 h0
    have HT := hide (treeV_iff.1 h2.1)
    have h3 := inR_iff.1 h2.2
    obtain ⟨q, rfl⟩ := Int.eq_ofNat_of_zero_le h3.1
    have hqn : q < n := by omega
    clear h2 h3 h0
    go_enter Try.func16, Try.ntmps16
    go_wp2_with (go_at_call 35; refine hv.mono ?_; rintro e W1 ⟨rfl, hb⟩; have HB := hide hb; clear hb)
    clear hv
    go_loopw [13] (fun s13 wr => ∃ (k : Nat), k ≤ n ∧ s13 = .int .i64 k ∧ W1 = wr ∧ Hid (nleaf xs n q (n - k) k = nleaf xs n q n 0)) (fun s13 _ => n - (intOf s13).toNat)
    case atStart => exact ⟨0, by omega, rfl, rfl, hide rfl⟩
    case round =>
      obtain ⟨k, hk, rfl, rfl, HD⟩ := hrel
      by_cases hlt : k < n
      · have hkn : (k : Int) < (n : Int) := by omega
        obtain ⟨t, ht⟩ : ∃ t, (q + 1 + k) % n = t := ⟨_, rfl⟩
        have htn : t < n := by rw [← ht]; exact Nat.mod_lt _ (by omega)
        have htn' : (t : Int) < (n : Int) := by omega
        have e2 : Int.tmod ((q : Int) + 1 + (k : Int)) (n : Int) = (t : Int) := by
          rw [Int.tmod_eq_emod_of_nonneg (by omega), ← ht]; simp
        have e3 : Int.tmod ((q : Int) + ((k : Int) + 1)) (n : Int) = (t : Int) := by
          rw [← e2]; congr 1; omega
        have hn0 : ((n : Int) == 0) = false := by simp; omega
        have hn1 : ¬ (n : Int) = 0 := by omega
        have hn2 : ¬ n = 0 := by omega
        have e5 : IntKind.i64.wrap (t : Int) = (t : Int) := IntWalk.i64_in _ (by omega)
        obtain ⟨b, off, rfl, hb9, h1, h2⟩ := (HA.out _ HB.out).fldAt (by omega)
        have hc1 := h2 t 1 htn (by omega)
        clear h1 h2
        obtain ⟨z, hz⟩ : ∃ z, fld xs t 1 = z := ⟨_, rfl⟩
        have HZ := hide hz
        rw [hz] at hc1
        clear hz
        have HS := hide (show nleaf xs n q n 0 = if z = 0 then (t : Int) else nleaf xs n q (n - (k + 1)) (k + 1) by
          rw [← HD.out, show n - k = (n - (k + 1)) + 1 by omega, nleaf, ht, HZ.out])
        clear HD HZ ht
        by_cases hz : z = 0
        · have D := hide (HS.out.trans (if_pos hz))
          subst hz
          clear HS
          go_wp2
          go_ret
          exact ⟨ret_int (HQ.out.trans D.out).symm, HB.out⟩
        · have hz' : (z == 0) = false := by simpa using hz
          have D := hide (HS.out.trans (if_neg hz)).symm
          clear HS hz
          go_wp2
          go_roundw
          case rel => exact ⟨k + 1, by omega, by go_num, by trivial, D⟩
          case measure => simp [intOf]; omega
      · obtain rfl : n = k := by omega
        have D := hide (show nleaf xs n q n 0 = -1 by rw [← HD.out, Nat.sub_self]; rfl)
        clear HD
        go_wp2
        go_ret
        exact ⟨ret_int (HQ.out.trans D.out).symm, HB.out⟩
end Go.Proofs.Ytmflfpjcaijmmaa
