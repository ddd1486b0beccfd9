/- Trees: paths, and what lies around what: the reference and the program. Conditions: none. -/
import Derived.Test.YtmflfpjcaijmmaaTreeF
namespace Go.Proofs.Ytmflfpjcaijmmaa
open Go.RowKit
set_option linter.unusedVariables false
set_option linter.unusedSimpArgs false
theorem Own.new (E : TypeId) (w : World) (ys : List Int) (base : Nat) (hb : base ≤ w.heap.size) (hm : ys.length ≤ maxLen) : Own E 1 (w.alloc (.cells (iv ys).toArray E)) base (.slice (some ⟨w.heap.size, 0, none⟩) ys.length ys.length) ys.length ys :=
  ⟨by rw [iv_length, Nat.mul_one], .inr ⟨w.heap.size, ys.length, (iv ys).toArray, rfl, hb, heap_alloc_new w _, Nat.le_refl _, hm, by simp [iv], by rw [Nat.mul_one]; exact List.take_of_length_le (by simp [iv])⟩⟩
/-- a slice that holds the list L, in blocks of the call's own -/
def ListR (L : List Int) (w : World) (e : Ending) (w' : World) : Prop :=
  ∃ (A : Option Addr) (m c : Nat), e = .returned (.slice A m c) ∧ Row 3 w' w.heap.size w'.heap.size A m L ∧ Below w.heap.size w w'
theorem ListR.nil {L : List Int} {w w' : World} (h : L = []) (hb : Below w.heap.size w w') : ListR L w (.returned (.slice none 0 0)) w' := ⟨none, 0, 0, rfl, by rw [h]; exact Row.nil _ _ _ _ _, hb⟩
theorem ListR.own {L : List Int} {w w' : World} {A : Option Addr} {m c : Nat} (h : Own 3 1 w' w.heap.size (.slice A m c) m L) (hb : Below w.heap.size w w') : ListR L w (.returned (.slice A m c)) w' := by
  obtain ⟨A', c', e, _, _, hr⟩ := h.form
  injection e with e1 e2 e3
  subst e1 e3
  rw [Nat.mul_one] at hr
  exact ⟨A, m, c, rfl, hr, hb⟩
theorem upN_rest {xs : List Int} {k i : Nat} (hp : Pre xs k) (hi : i < k) : upN xs i = (i : Int) :: rest xs (par xs i) := by
  rw [rest]
  by_cases h : par xs i < 0
  · rw [if_pos h, upN_root h]
  · obtain ⟨r, hr⟩ : ∃ r : Nat, par xs i = r := ⟨(par xs i).toNat, by omega⟩
    rw [if_neg h, hr, Int.toNat_natCast, upN_step hp hi hr]
noncomputable def pathL (xs : List Int) (n : Nat) (i : Int) : List Int := if (treeV xs n && inR i 0 ((n : Int) - 1)) = true then (upN xs i.toNat).reverse else []
theorem pathL_no {xs : List Int} {n : Nat} {i : Int} (h : (treeV xs n && inR i 0 ((n : Int) - 1)) = false) : pathL xs n i = [] := by rw [pathL, h]; rfl
theorem pathL_yes {xs : List Int} {n : Nat} {i : Int} (h : (treeV xs n && inR i 0 ((n : Int) - 1)) = true) : pathL xs n i = (upN xs i.toNat).reverse := by rw [pathL, if_pos h]
set_option maxHeartbeats 2000000 in
theorem specPathTo_any (B : Nat) (a : Option Addr) (n c : Nat) (xs : List Int) (i : Int) (w : World) (hA : Ints .i64 w B a (n * 9) xs) (hB : B ≤ w.heap.size) (hn : n ≤ 1048577) :
    Calls Try.prog 19 #[.slice a n c, .int .i64 i] w (ListR (pathL xs n i) w) := by
  have hv := specValid_any B a n c xs w hA hB hn
  have e1 : IntKind.i64.wrap ((n : Int) - 1) = (n : Int) - 1 := IntWalk.i64_in _ (by omega)
  have HA := hide (fun W (h : Below w.heap.size w W) => hA.below h hB)
  clear hA
  cases h0 : treeV xs n
  case false =>
    rw [h0] at hv
    have D := hide (pathL_no (xs := xs) (n := n) (i := i) (by rw [h0]; rfl))
    go_enter Try.func19, Try.ntmps19
    go_wp2_with (go_at_call 32; refine hv.mono ?_; rintro e W1 ⟨rfl, hb⟩; have HB := hide hb; clear hb)
    go_ret
    exact ListR.nil D.out HB.out
  case true =>
    rw [h0] at hv
    cases h1 : inR i 0 ((n : Int) - 1)
    case false =>
      have D := hide (pathL_no (xs := xs) (n := n) (i := i) (by rw [h0, h1]; rfl))
      go_enter Try.func19, Try.ntmps19
      go_wp2_with (first | (go_at_call 32; refine hv.mono ?_; rintro e W1 ⟨rfl, hb⟩; have HB := hide hb; clear hb) | (go_at_call 33; with_reducible refine (inRange_is h1 _).mono ?_; rintro e w' ⟨rfl, rfl⟩))
      go_ret
      exact ListR.nil D.out HB.out
    case true =>
      have HQ := hide (pathL_yes (xs := xs) (n := n) (i := i) (by rw [h0, h1]; rfl))
      have h2 := inR_iff.1 h1
      obtain ⟨q, rfl⟩ := Int.eq_ofNat_of_zero_le h2.1
      have hqn : q < n := by omega
      have HT := hide (treeV_iff.1 h0)
      clear h2 h0
      go_enter Try.func19, Try.ntmps19
      go_wp2_with (first | (go_at_call 32; refine hv.mono ?_; rintro e W1 ⟨rfl, hb⟩; have HB := hide hb; clear hb) | (go_at_call 33; with_reducible refine (inRange_is h1 _).mono ?_; rintro e w' ⟨rfl, rfl⟩))
      clear hv h1
      have hq0 := (HT.out.pre 0 (by omega)).1
      have hq1 := (HT.out.pre 0 (by omega)).2.1
      have HP0 := hide (show par xs 0 = -1 by omega)
      clear hq0 hq1
      have hn16 := HT.out.hi
      obtain ⟨i0, hi0, hz0, hz1, hz2⟩ := info_parts int_info
      have HO := hide (show Own 3 1 (W1.alloc (.cells #[.int .i64 (q : Int)] 3)) w.heap.size (.slice (some ⟨W1.heap.size, 0, none⟩) 1 1) 1 [(q : Int)] from Own.new 3 W1 [(q : Int)] w.heap.size HB.out.size (by unfold maxLen; simp))
      have HBa := hide (show Below w.heap.size w (W1.alloc (.cells #[.int .i64 (q : Int)] 3)) from HB.out.alloc HB.out.size _)
      have HY := hide (show ([(q : Int)] : List Int).reverse ++ rest xs (par xs q) = upN xs q from (upN_rest HT.out.pre hqn).symm)
      generalize W1.alloc (.cells #[.int .i64 (q : Int)] 3) = W2 at HO HBa ⊢
      generalize W1.heap.size = z1 at HO ⊢
      go_loopw [1, 5] (fun s1 s5 wr => ∃ (p m c' : Nat) (A : Option Addr) (ys : List Int) (W9 : World), p < n ∧ m + p ≤ q + 1 ∧ s1 = .int .i64 p ∧ s5 = .slice A m c' ∧ W9 = wr ∧ Hid (ys.reverse ++ rest xs (par xs p) = upN xs q) ∧ Hid (Own 3 1 W9 w.heap.size (.slice A m c') m ys) ∧ Hid (Below w.heap.size w W9)) (fun s1 _ _ => (intOf s1).toNat)
      case atStart => exact ⟨q, 1, 1, _, _, _, hqn, by omega, rfl, rfl, rfl, HY, HO, HBa⟩
      case round =>
        clear HY HO HBa HB
        obtain ⟨p, m, c', A, ys, W9, hpn, hmp, rfl, rfl, rfl, HY, HO, HB⟩ := hrel
        have hz9 := HB.out.size
        by_cases hp0 : p = 0
        · subst hp0
          have hys : ys = (upN xs q).reverse := by
            have h := HY.out
            rw [HP0.out, rest, if_pos (by omega), List.append_nil] at h
            rw [← h, List.reverse_reverse]
          subst hys
          have D := hide (show ListR (pathL xs n q) w (.returned (.slice A m c')) W9 by rw [HQ.out]; exact ListR.own HO.out HB.out)
          clear HY HO HB
          go_wp2
          go_ret
          exact D.out
        · have hp0' : (0 : Int) < (p : Int) := by omega
          have hpr := HT.out.pre p hpn
          obtain ⟨r, hr⟩ : ∃ r : Nat, par xs p = r := ⟨(par xs p).toNat, by omega⟩
          have hrp : r < p := by omega
          have hrn : r < n := by omega
          have hpn' : (p : Int) < (n : Int) := by omega
          obtain ⟨b, off, rfl, hb9, h1, -⟩ := (HA.out _ HB.out).fldAt (by omega)
          have hc0 := h1 p hpn
          have D := hide (show ([(r : Int)] ++ ys).reverse ++ rest xs (par xs r) = upN xs q by
            have h1 : rest xs (par xs p) = (r : Int) :: rest xs (par xs r) := by
              rw [hr]
              show (if (r : Int) < 0 then [] else upN xs (r : Int).toNat) = _
              rw [if_neg (by omega), Int.toNat_natCast, upN_rest HT.out.pre hrn]
            rw [← HY.out, List.reverse_append, List.append_assoc, h1]; rfl)
          rw [hr] at hc0
          clear h1 hpr hr HY
          have HN := hide (show Own 3 1 (W9.alloc (.cells #[.int .i64 (r : Int)] 3)) w.heap.size (.slice (some ⟨W9.heap.size, 0, none⟩) 1 1) 1 [(r : Int)] from Own.new 3 W9 [(r : Int)] w.heap.size hz9 (by unfold maxLen; simp))
          have hba : Below W9.heap.size W9 (W9.alloc (.cells #[.int .i64 (r : Int)] 3)) := (Below.refl _ _).alloc (Nat.le_refl _) _
          have HB0 := hide (HB.out.trans (hba.mono hz9))
          have HR := hide (Reads.of_own (show World.ownsRow _ _ _ _ _ _ _ from HO.out.keep hba))
          have hz0' := HB0.out.size
          clear hba HO
          go_wp2_with (at_builtin; refine wpList_join rfl (.tmp 27) (.tmp 28) 31 3 1 8 i0 _ rfl Try.underlying31 hi0 hz0 hz1 hz2 rfl (by omega) (by omega) (W9.alloc (.cells #[.int .i64 (r : Int)] 3)) w.heap.size (.slice (some ⟨W9.heap.size, 0, none⟩) 1 1) 1 [(r : Int)] rfl HN.out _ A ys m c' rfl HR.out (by omega) hz0' ?_; intro v1 w1 ho1 hb1 hg1 hv1; obtain ⟨A1, c1, hvv1, _, _, _⟩ := ho1.form; subst hvv1; have HO1 := hide ho1; have HB1 := hide (HB0.out.trans hb1); clear ho1 hb1 hg1 hv1)
          go_roundw
          case rel => exact ⟨r, 1 + m, _, _, _, _, hrn, by omega, rfl, rfl, rfl, D, HO1, HB1⟩
          case measure => simp [intOf]; omega
set_option maxHeartbeats 2000000 in
theorem implPathTo_any (B : Nat) (a : Option Addr) (n c : Nat) (xs : List Int) (i : Int) (w : World) (hA : Ints .i64 w B a (n * 9) xs) (hB : B ≤ w.heap.size) (hn : n ≤ 1048577) :
    Calls Try.prog 20 #[.slice a n c, .int .i64 i] w (ListR (pathL xs n i) w) := by
  have hv := boxIn_any B a n c xs i w hA hB hn
  have HA := hide (fun W (h : Below w.heap.size w W) => hA.below h hB)
  clear hA
  cases h0 : (treeV xs n && inR i 0 ((n : Int) - 1))
  case false =>
    rw [h0] at hv
    have D := hide (pathL_no h0)
    go_enter Try.func20, Try.ntmps20
    go_wp2_with (go_at_call 35; refine hv.mono ?_; rintro e W1 ⟨rfl, hb⟩; have HB := hide hb; clear hb)
    go_ret
    exact ListR.nil D.out HB.out
  case true =>
    rw [h0] at hv
    have HQ := hide (pathL_yes h0)
    have h2 := Bool.and_eq_true_iff.1 h0
    have HT := hide (treeV_iff.1 h2.1)
    have h3 := inR_iff.1 h2.2
    obtain ⟨q, rfl⟩ := Int.eq_ofNat_of_zero_le h3.1
    have hqn : q < n := by omega
    clear h2 h3 h0
    have HPK := hide (fun W (h : Below w.heap.size w W) => path_any B a n c xs q W (HA.out W h) (by have := h.size; omega) hn hqn (HT.out.pre.le (by omega)))
    go_enter Try.func20, Try.ntmps20
    go_wp2_with (go_at_call 35; refine hv.mono ?_; rintro e W1 ⟨rfl, hb⟩; have HB := hide hb; clear hb)
    refine (HPK.out _ HB.out).mono ?_
    rintro e W2 ⟨A, m, hm, rfl, hr, hb⟩
    have D := hide (show ListR (pathL xs n q) w (.returned (.slice A m m)) W2 by rw [HQ.out]; exact ⟨A, m, m, rfl, hr.mono HB.out.size (Nat.le_refl _), HB.out.trans (hb.mono HB.out.size)⟩)
    clear hr hb hm
    go_wp2
    go_ret
    exact D.out
theorem upN_le {xs : List Int} {k i : Nat} (hp : Pre xs k) (hi : i < k) {a : Int} (ha : a ∈ upN xs i) : a ≤ i := by
  induction i using Nat.strongRecOn with
  | _ i ih =>
    by_cases hneg : par xs i < 0
    · rw [upN_root hneg] at ha
      simp at ha; omega
    · obtain ⟨q, hqq⟩ : ∃ q : Nat, par xs i = q := ⟨(par xs i).toNat, by omega⟩
      have h2 := (hp i hi).2.1
      rw [upN_step hp hi hqq] at ha
      rcases List.mem_cons.1 ha with h | h
      · omega
      · have := ih q (by omega) (by omega) h; omega
theorem upN_head {xs : List Int} {k i : Nat} (hp : Pre xs k) (hi : i < k) : (i : Int) ∈ upN xs i := by rw [upN_rest hp hi]; exact List.mem_cons_self
/-- is box a around box i -/
def arnd (xs : List Int) (a : Int) (i : Nat) : Bool := decide (a ∈ upN xs i)
theorem arnd_rev {xs : List Int} {a : Int} {i : Nat} : decide (a ∈ (upN xs i).reverse) = arnd xs a i := by simp [arnd]
theorem arnd_eq {xs : List Int} {k i : Nat} {a : Int} (hp : Pre xs k) (hi : i < k) (h : (i : Int) ≤ a) : ((i : Int) == a) = arnd xs a i := by
  rw [arnd]
  by_cases e : (i : Int) = a
  · subst e; simp [upN_head hp hi]
  · have : a ∉ upN xs i := fun hm => by have := upN_le hp hi hm; omega
    simp [this, e]
theorem arnd_step {xs : List Int} {k i r : Nat} {a : Int} (hp : Pre xs k) (hi : i < k) (h : a < (i : Int)) (hr : par xs i = r) : arnd xs a r = arnd xs a i := by
  have h1 : a ≠ (i : Int) := by omega
  have h2 : a ∈ upN xs i ↔ a ∈ upN xs r := by rw [upN_step hp hi hr, List.mem_cons]; simp [h1]
  simp [arnd, h2]
set_option maxHeartbeats 1000000 in
theorem specAround_any (B : Nat) (a : Option Addr) (n c : Nat) (xs : List Int) (y : Int) (i : Nat) (w : World) (hA : Ints .i64 w B a (n * 9) xs) (hn : n ≤ 1048577) (hi : i < n) (hp : Pre xs n) (hy : 0 ≤ y) :
    Calls Try.prog 37 #[.slice a n c, .int .i64 y, .int .i64 i] w fun e w' => e = .returned (.bool (arnd xs y i)) ∧ w = w' := by
  obtain ⟨b, off, rfl, hb9, h1, -⟩ := hA.fldAt (by omega)
  have HC := hide h1
  have HP := hide hp
  clear hA h1 hp
  go_enter Try.func37, Try.ntmps37
  go_wp2
  go_loopw [2] (fun s2 wr => ∃ (p : Nat), p < n ∧ s2 = .int .i64 p ∧ w = wr ∧ Hid (arnd xs y p = arnd xs y i)) (fun s2 _ => (intOf s2).toNat)
  case atStart => exact ⟨i, hi, rfl, by trivial, hide rfl⟩
  case round =>
    obtain ⟨p, hpn, rfl, rfl, HD⟩ := hrel
    by_cases hlt : y < (p : Int)
    · have hc0 := HC.out p hpn
      have hpr := HP.out p hpn
      obtain ⟨r, hr⟩ : ∃ r : Nat, par xs p = r := ⟨(par xs p).toNat, by omega⟩
      have hrp : r < p := by omega
      have hpn' : (p : Int) < (n : Int) := by omega
      have D := hide ((arnd_step HP.out hpn hlt hr).trans HD.out)
      rw [hr] at hc0
      clear hpr hr HD
      go_wp2
      go_roundw
      case rel => exact ⟨r, by omega, rfl, by trivial, D⟩
      case measure => simp [intOf]; omega
    · have D := hide ((arnd_eq HP.out hpn (by omega)).trans HD.out)
      clear HD
      go_wp2
      go_ret
      exact ⟨ret_bool D.out, rfl⟩
theorem implAround_any (B : Nat) (a : Option Addr) (n c : Nat) (xs : List Int) (y : Int) (i : Nat) (w : World) (hA : Ints .i64 w B a (n * 9) xs) (hB : B ≤ w.heap.size) (hn : n ≤ 1048577) (hi : i < n) (hp : Pre xs n) :
    Calls Try.prog 40 #[.slice a n c, .int .i64 y, .int .i64 i] w fun e w' => e = .returned (.bool (arnd xs y i)) ∧ Below w.heap.size w w' := by
  have hpath := path_any B a n c xs i w hA hB hn hi (hp.le (by omega))
  have hlen := (upN_len hp hi).2
  clear hA
  go_enter Try.func40, Try.ntmps40
  go_wp2_with fail
  refine hpath.mono ?_
  rintro e W1 ⟨A, m, hm, rfl, hr, hb⟩
  have hm' : m ≤ 1099511627776 := by omega
  have HR := hide hr.ints
  have HB := hide hb
  clear hr hb hm
  go_wp2_with fail
  refine (containsInt_is arnd_rev HR.out hm').mono ?_
  rintro e w' ⟨rfl, rfl⟩
  go_wp2
  go_ret
  exact ⟨rfl, HB.out⟩
end Go.Proofs.Ytmflfpjcaijmmaa
