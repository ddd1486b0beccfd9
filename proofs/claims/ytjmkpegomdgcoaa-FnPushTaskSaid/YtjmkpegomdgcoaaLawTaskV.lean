/- The law FnValidTasks. Conditions: none. -/
import Derived.Test.YtjmkpegomdgcoaaDrawK
import Derived.Deep.RegionHeld3
namespace Go.Proofs.Ytjmkpegomdgcoaa
open Go.RowKit
set_option linter.unusedVariables false
set_option linter.unusedSimpArgs false
def DrawsK1 (w : World) (e : Ending) (w' : World) : Prop :=
  ∃ (A : Option Addr) (n c : Nat) (ts : List Tk), e = .returned (.slice A n c) ∧ n ≤ 11 ∧ n ≤ c ∧ c ≤ 9223372036854775807 ∧ Row 39 w' w.heap.size w'.heap.size A (n * 3) (flat ts) ∧ Below w.heap.size w w'
theorem DK.row {w W : World} {R p n c : Nat} {A : Option Addr} (h : DK w R p n (.slice A n c) W) : ∃ ts : List Tk, n ≤ c ∧ c ≤ 9223372036854775807 ∧ Row 39 W w.heap.size W.heap.size A (n * 3) (flat ts) := by
  obtain ⟨ts, h1, h2⟩ := h.own
  obtain ⟨A', c', e, a1, a2, hr⟩ := h2.form
  injection e with e1 e2 e3
  subst e1 e3
  exact ⟨ts, a1, a2, hr⟩
theorem below_grownK {w w1 w' : World} {R : Nat} (h : Below w.heap.size w w1) (hg : w1.grownBy w' (some R)) (hR : w.heap.size ≤ R) : Below w.heap.size w w' :=
  h.trans ⟨hg.os, hg.tape, hg.output, hg.size, fun i hi => hg.block i (by have := h.size; omega) (fun e => by injection e with e; omega)⟩
theorem drawValidT_any (A : Option Addr) (n c : Nat) (zs : List Int) (w : World) (hA : Ints .u8 w w.heap.size A n zs) (hnc : n ≤ c) : Calls Try.prog 14 #[.slice A n c] w (DrawsK1 w) := by
  go_enter Try.func14, Try.ntmps14
  go_wp2_with fail
  refine (newReader_any A n c zs _ hA hnc).mono ?_
  rintro e W0 ⟨R, hR, hR', rfl, hr, hb⟩
  clear hA
  have hbz := hb.size
  go_wp2_with fail
  refine (anyTasks_any R 0 W0 hr (by omega)).mono ?_
  rintro e W1 ⟨A1, n1, c1, rfl, hk, hn1⟩
  obtain ⟨ts, a1, a2, hrow⟩ := hk.row
  have D := hide (show DrawsK1 w (.returned (.slice A1 n1 c1)) W1 from ⟨_, _, _, ts, rfl, hn1, a1, a2, hrow.mono (by omega) (Nat.le_refl _), below_grownK hb hk.grown (by omega)⟩)
  clear hr hk hrow hb
  go_wp2
  go_ret
  exact D.out
theorem pair_take_drop {ts : List Tk} {k : Nat} (h : validT ts = true) : validT (ts.take k ++ ts.drop (k + 1)) = true := by
  rw [validT_iff] at h ⊢
  have hs : (ts.take k ++ ts.drop (k + 1)).Sublist ts := by
    have h1 : (ts.drop (k + 1)).Sublist (ts.drop k) := by
      rw [← List.drop_drop]
      exact List.drop_sublist _ _
    have h2 := List.Sublist.append (List.Sublist.refl (ts.take k)) h1
    rwa [List.take_append_drop] at h2
  exact ⟨fun t ht => h.1 t (hs.subset ht), h.2.1.sublist hs, Nat.le_trans hs.length_le h.2.2⟩
theorem Ints.readsT {w : World} {B n : Nat} {a : Option Addr} {xs : List Int} (h : Ints .i64 w B a (n * 3) xs) : Reads w B 3 a n (iv xs) := by
  refine ⟨by rw [iv_length, h.1], fun hn => ?_⟩
  obtain ⟨b, off, rfl, hb, hc⟩ := h.2.2 (by omega)
  refine ⟨_, rfl, hb, fun j u hu => ?_⟩
  obtain ⟨hj, rfl⟩ := iv_get' hu
  have := hc j (by rw [← h.1]; exact hj)
  rw [← this]
  by_cases h0 : j = 0 <;> simp [Addr.add, h0]
set_option maxRecDepth 100000 in
set_option maxHeartbeats 4000000 in
theorem walk_FnValidTasks (a0 : Option Addr) (len cap : Nat) (zs : List Int) (w : World) (h0 : Ints .u8 w w.heap.size a0 len zs) (hc : len ≤ cap) :
    Calls Try.prog 4 #[.slice a0 len cap] w fun e w' => e = .returned (.bool true) ∧ Below w.heap.size w w' := by
  obtain ⟨i0, hi, hz0', hz1', hz2'⟩ := info_parts Task_info
  by_cases hl0 : len ≤ 1048576
  case neg =>
    go_enter Try.func4, Try.ntmps4
    go_wp2
    go_ret
    exact ⟨rfl, Below.refl _ _⟩
  case pos =>
    go_enter Try.func4, Try.ntmps4
    go_wp2_with fail
    refine (drawValidT_any a0 len cap zs _ h0 hc).mono ?_
    rintro e W0 ⟨A, n, c, ts, rfl, hn9, hnc, hcm, hrow, hb0⟩
    clear h0
    have L_0 := hide hrow.ints
    have B_0 := hide hb0
    have hz0 := hb0.size
    have hl := hide (show ts.length = n by have := hrow.1; rw [flat_len] at this; omega)
    clear hrow hb0
    go_wp2_with fail
    refine (implValid_any W0.heap.size A _ c ts _ L_0.out (by omega) (by omega)).mono ?_
    rintro e W1 ⟨rfl, hb⟩
    have hz1 := hb.size
    have L_1 := hide (L_0.out.below hb (by omega))
    have B_1 := hide (B_0.out.trans (hb.mono (by omega)))
    clear hb L_0 B_0
    go_wp2_with fail
    refine (specValid_any W0.heap.size A _ c ts _ L_1.out (by omega) (by omega)).mono ?_
    rintro e W2 ⟨rfl, hb⟩
    have hz2 := hb.size
    have L_2 := hide (L_1.out.below hb (by omega))
    have B_2 := hide (B_1.out.trans (hb.mono (by omega)))
    clear hb L_1 B_1
    cases hk : validT ts
    case false =>
      have HK := hide hk
      have z0 : (false != false) = false := rfl
      clear hk
      go_wp2_with fail
      refine (specValid_any W0.heap.size A _ c ts _ L_2.out (by omega) (by omega)).mono ?_
      rintro e W3 ⟨rfl, hb⟩
      try rw [HK.out]
      have hz3 := hb.size
      have L_3 := hide (L_2.out.below hb (by omega))
      have B_3 := hide (B_2.out.trans (hb.mono (by omega)))
      clear hb L_2 B_2
      go_wp2
      go_ret
      exact ⟨rfl, B_3.out⟩
    case true =>
      have HK := hide hk
      clear hk
      by_cases h2 : n = 0
      · subst h2
        go_wp2_with fail
        refine (specValid_any W0.heap.size A _ c ts _ L_2.out (by omega) (by omega)).mono ?_
        rintro e W3 ⟨rfl, hb⟩
        try rw [HK.out]
        have hz3 := hb.size
        have L_3 := hide (L_2.out.below hb (by omega))
        have B_3 := hide (B_2.out.trans (hb.mono (by omega)))
        clear hb L_2 B_2
        go_wp2
        go_ret
        exact ⟨rfl, B_3.out⟩
      · have h2' : ((n : Int) == 0) = false := by simp; omega
        have hn1 : 1 ≤ n := by omega
        have hn0 : ¬ (n : Int) = 0 := by omega
        obtain ⟨k, hk⟩ : ∃ k, len % n = k := ⟨_, rfl⟩
        have hkn : k < n := by rw [← hk]; exact Nat.mod_lt _ (by omega)
        have e0 : ((len : Int)).tmod (n : Int) = (k : Int) := by rw [← hk]; rfl
        obtain ⟨m, hm⟩ : ∃ m, k + 1 = m := ⟨_, rfl⟩
        have e1 : IntKind.i64.wrap ((k : Int) + 1) = (m : Int) := by rw [IntWalk.i64_in _ (by omega)]; omega
        have HM := hide hm
        have HN9 := hide (show n ≤ 11 ∧ k < n from ⟨hn9, hkn⟩)
        have hv2 := hide (pair_take_drop (k := k) HK.out)
        obtain ⟨b, off, rfl, _, _⟩ := L_2.out.2.2 (by omega)
        have R2 := hide (fun W (h : Below W0.heap.size W2 W) => ((L_2.out.below h (Nat.le_refl _)).readsT).cut (k := m) (cap := c) (by omega) hnc)
        have HO1 := hide (show (W2.drew.alloc (.cells #[] 39)).ownsRow W2.heap.size 39 3 (.slice (some ⟨W2.heap.size, 0, none⟩) 0 0) 0 (iv []) from Own.made 39 3 W2.drew #[] 0 W2.heap.size (Nat.le_refl _) (by omega) rfl)
        have hb1 : Below W2.heap.size W2 (W2.drew.alloc (.cells #[] 39)) := ((Below.refl _ _).drew).alloc (Nat.le_refl _) _
        have HR1 := hide ((((L_2.out.below (hb1.mono (show W0.heap.size ≤ W2.heap.size by omega)) (Nat.le_refl _)).le (show k * 3 ≤ n * 3 by omega)).readsT : Reads (W2.drew.alloc (.cells #[] 39)) W0.heap.size 3 (some ⟨b, off, none⟩) k (iv ((flat ts).take (k * 3)))))
        have HF1 := hide (fun (v1 : Value) (w1 : World) (ho : w1.ownsRow W2.heap.size 39 3 v1 (0 + k) (iv [] ++ iv ((flat ts).take (k * 3)))) (hg : (W2.drew.alloc (.cells #[] 39)).grownBy w1 (Value.slice (some ⟨W2.heap.size, 0, none⟩) 0 0).ownBlock) =>
          (by
            rw [Nat.zero_add, show iv [] = [] from rfl, List.nil_append] at ho
            obtain ⟨A1, c1, e1, _⟩ := Own.form (show Own 39 3 w1 W2.heap.size v1 k ((flat ts).take (k * 3)) from ho)
            exact ⟨A1, c1, e1, by rw [← e1]; exact ho, hb1.trans ⟨hg.os, hg.tape, hg.output, hg.size, fun i hi => hg.block i (by have := hb1.size; omega) (fun e => by simp only [Value.ownBlock] at e; injection e with e; omega)⟩⟩ : ∃ A1 c1, v1 = .slice A1 k c1 ∧ w1.ownsRow W2.heap.size 39 3 (.slice A1 k c1) k (iv ((flat ts).take (k * 3))) ∧ Below W2.heap.size W2 w1))
        have HF2 := hide (fun (v2 : Value) (w2 w1 : World) (A1 : Option Addr) (c1 : Nat) (hbw : Below W2.heap.size W2 w1) (ho1 : w1.ownsRow W2.heap.size 39 3 (.slice A1 k c1) k (iv ((flat ts).take (k * 3)))) (ho : w2.ownsRow W2.heap.size 39 3 v2 (k + (n - m)) (iv ((flat ts).take (k * 3)) ++ (iv (flat ts)).drop (m * 3))) (hg : w1.grownBy w2 (Value.slice A1 k c1).ownBlock) =>
          (by
            have e0 : iv ((flat ts).take (k * 3)) ++ (iv (flat ts)).drop (m * 3) = iv (flat (ts.take k ++ ts.drop (k + 1))) := by
              rw [← hm, flat_append, ← flat_take, ← flat_drop, iv_append, show iv ((flat ts).drop ((k + 1) * 3)) = (iv (flat ts)).drop ((k + 1) * 3) by simp [iv, List.map_drop]]
            rw [e0, show k + (n - m) = n - 1 by omega] at ho
            obtain ⟨A2, c2, e2, _, _, hr⟩ := Own.form (show Own 39 3 w2 W2.heap.size v2 (n - 1) (flat (ts.take k ++ ts.drop (k + 1))) from ho)
            have h3 := implValid_any w2.heap.size A2 (n - 1) c2 (ts.take k ++ ts.drop (k + 1)) w2 hr.ints (Nat.le_refl _) (by omega)
            rw [hv2.out] at h3
            exact ⟨A2, c2, e2, h3, hbw.trans (Own.below (show Own 39 3 w1 W2.heap.size (.slice A1 k c1) k ((flat ts).take (k * 3)) from ho1) hbw.size hg)⟩ : ∃ A2 c2, v2 = .slice A2 (n - 1) c2 ∧ Calls Try.prog 12 #[.slice A2 (n - 1) c2] w2 (fun e w' => e = .returned (.bool true) ∧ Below w2.heap.size w2 w') ∧ Below W2.heap.size W2 w2))
        have k1 : k ≤ c := by omega
        have k2 : (k : Int) ≤ (c : Int) := by omega
        have j3 : (n : Int) ≤ (c : Int) := by omega
        have j5 : (0 : Int) ≤ (k : Int) := by omega
        have j6 : (m : Int) ≤ (n : Int) := by omega
        have j7 : m ≤ n := by omega
        have hm1 : 1 ≤ m := by omega
        by_cases hck : c = m
        · obtain rfl : m = n := by omega
          subst hck
          have HRX := hide (fun w1 (h : Reads w1 W0.heap.size 3 (if c = c then some ⟨b, off, none⟩ else (some ⟨b, off, none⟩ : Option Addr).map (·.add (c * 3))) (c - c) ((iv (flat ts)).drop (c * 3))) => (by rw [if_pos rfl, Nat.sub_self] at h; exact h : Reads w1 W0.heap.size 3 (some ⟨b, off, none⟩) 0 ((iv (flat ts)).drop (c * 3))))
          have HF3 := hide (fun (v2 : Value) (w2 w1 : World) (A1 : Option Addr) (c1 : Nat) (hbw : Below W2.heap.size W2 w1) (ho1 : w1.ownsRow W2.heap.size 39 3 (.slice A1 k c1) k (iv ((flat ts).take (k * 3)))) (ho : w2.ownsRow W2.heap.size 39 3 v2 (k + 0) (iv ((flat ts).take (k * 3)) ++ (iv (flat ts)).drop (c * 3))) (hg : w1.grownBy w2 (Value.slice A1 k c1).ownBlock) => HF2.out v2 w2 w1 A1 c1 hbw ho1 (by rw [Nat.sub_self]; exact ho) hg)
          clear HF2
          clear hk h2 hb1 hm hn9 hkn j6 j7
          go_wp2_with fail
          go_region_held3 (fun w' => True) (first | go_keep | trivial) (first
            | (refine step_append_any _ (by rfl) _ _ _ (by rfl) W2.heap.size 39 i0 _ 3 24 Try.underlying25 hi hz0' hz1' hz2' rfl (by omega) (.slice (some ⟨W2.heap.size, 0, none⟩) 0 0) 0 (iv []) (by rfl) HO1.out W0.heap.size (some ⟨b, off, none⟩) k c (iv ((flat ts).take (k * 3))) (by rfl) HR1.out (iv_one _) (by have := HN9.out; unfold maxLen; omega) (by have := HN9.out; omega) (by simp) ?_; intro v1 w1 ho1 hg1 hv1; obtain ⟨A1, c1, he1, ho1', hbw1⟩ := HF1.out v1 w1 ho1 hg1; subst he1; clear ho1 hv1; have HR2 := HRX.out w1 (R2.out w1 (hbw1.mono (by omega))))
            | (refine step_append_any _ (by rfl) _ _ _ (by rfl) W2.heap.size 39 i0 _ 3 24 Try.underlying25 hi hz0' hz1' hz2' rfl (by omega) (.slice A1 k c1) k (iv ((flat ts).take (k * 3))) (by rfl) ho1' W0.heap.size (some ⟨b, off, none⟩) 0 0 ((iv (flat ts)).drop (c * 3)) (by rfl) HR2 (fun u hu => iv_one _ u (List.mem_of_mem_drop hu)) (by have := HN9.out; unfold maxLen; omega) (by have := HN9.out; omega) (by have := hbw1.size; omega) ?_; intro v2 w2 ho2 hg2 hv2; obtain ⟨A2, c2, he2, hcall, hbw2⟩ := HF3.out v2 w2 w1 A1 c1 hbw1 ho1' ho2 hg2; subst he2; clear ho2 hg2 hv2)
            | (go_at_call 12; refine Calls.mono hcall ?_; intro e w3 hh; obtain ⟨he, hb3⟩ := hh; subst he))
          have D := hide (B_2.out.trans ((hbw2.trans (hb3.mono hbw2.size)).mono (by omega)))
          clear hcall hbw1 hbw2 hb3 ho1'
          go_wp2
          go_ret
          exact ⟨rfl, D.out⟩
        · have HRX := hide (fun w1 (h : Reads w1 W0.heap.size 3 (if c = m then some ⟨b, off, none⟩ else (some ⟨b, off, none⟩ : Option Addr).map (·.add (m * 3))) (n - m) ((iv (flat ts)).drop (m * 3))) => (by rw [if_neg hck] at h; rw [Option.map_some, show (⟨b, off, none⟩ : Addr).add (m * 3) = ⟨b, off + m * 3, none⟩ by simp [Addr.add]; omega] at h; exact h : Reads w1 W0.heap.size 3 (some ⟨b, off + m * 3, none⟩) (n - m) ((iv (flat ts)).drop (m * 3))))
          clear hk h2 hb1 hm hn9 hkn
          go_wp2_with fail
          go_region_held3 (fun w' => True) (first | go_keep | trivial) (first
            | (refine step_append_any _ (by rfl) _ _ _ (by rfl) W2.heap.size 39 i0 _ 3 24 Try.underlying25 hi hz0' hz1' hz2' rfl (by omega) (.slice (some ⟨W2.heap.size, 0, none⟩) 0 0) 0 (iv []) (by rfl) HO1.out W0.heap.size (some ⟨b, off, none⟩) k c (iv ((flat ts).take (k * 3))) (by rfl) HR1.out (iv_one _) (by have := HN9.out; unfold maxLen; omega) (by have := HN9.out; omega) (by simp) ?_; intro v1 w1 ho1 hg1 hv1; obtain ⟨A1, c1, he1, ho1', hbw1⟩ := HF1.out v1 w1 ho1 hg1; subst he1; clear ho1 hv1; have HR2 := HRX.out w1 (R2.out w1 (hbw1.mono (by omega))))
            | (refine step_append_any _ (by rfl) _ _ _ (by rfl) W2.heap.size 39 i0 _ 3 24 Try.underlying25 hi hz0' hz1' hz2' rfl (by omega) (.slice A1 k c1) k (iv ((flat ts).take (k * 3))) (by rfl) ho1' W0.heap.size (some ⟨b, off + m * 3, none⟩) (n - m) (c - m) ((iv (flat ts)).drop (m * 3)) (by rfl) HR2 (fun u hu => iv_one _ u (List.mem_of_mem_drop hu)) (by have := HN9.out; unfold maxLen; omega) (by have := HN9.out; omega) (by have := hbw1.size; omega) ?_; intro v2 w2 ho2 hg2 hv2; obtain ⟨A2, c2, he2, hcall, hbw2⟩ := HF2.out v2 w2 w1 A1 c1 hbw1 ho1' ho2 hg2; subst he2; clear ho2 hg2 hv2)
            | (go_at_call 12; refine Calls.mono hcall ?_; intro e w3 hh; obtain ⟨he, hb3⟩ := hh; subst he))
          have D := hide (B_2.out.trans ((hbw2.trans (hb3.mono hbw2.size)).mono (by omega)))
          clear hcall hbw1 hbw2 hb3 ho1'
          go_wp2
          go_ret
          exact ⟨rfl, D.out⟩
end Go.Proofs.Ytjmkpegomdgcoaa
