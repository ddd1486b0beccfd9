/- The law FnValidTracks. Conditions: none. -/
import Derived.Test.YtelokjobhfhhfaaTrackP
import Derived.Test.YtelokjobhfhhfaaDrawT
import Derived.BigQuiet
namespace Go.Proofs.Ytelokjobhfhhfaa
open Go.RowKit
set_option linter.unusedVariables false
set_option linter.unusedSimpArgs false
set_option maxRecDepth 100000 in
set_option maxHeartbeats 4000000 in
theorem walk_FnValidTracks (a0 : Option Addr) (len cap : Nat) (zs : List Int) (w : World) (h0 : Ints .u8 w w.heap.size a0 len zs) (hc : len ≤ cap) :
    Calls Try.prog 3 #[.slice a0 len cap] w fun e w' => e = .returned (.bool true) ∧ Below w.heap.size w w' := by
  by_cases hl : len ≤ 1048576
  case neg =>
    go_enter Try.func3, Try.ntmps3
    go_wp2
    go_ret
    exact ⟨rfl, Below.refl _ _⟩
  case pos =>
    go_enter Try.func3, Try.ntmps3
    go_wp2_with fail
    refine (drawValidTr_any a0 len cap zs _ h0 hc).mono ?_
    rintro e W0 ⟨A, n, c, xs, rfl, hn9, hnc, hcm, hrow, hb0⟩
    clear h0
    have L_0 := hide hrow.ints
    have B_0 := hide hb0
    have hz0 := hb0.size
    clear hrow hb0
    go_wp2_with fail
    refine (implValidTr_any W0.heap.size A n c xs _ L_0.out (by omega) (by omega)).mono ?_
    rintro e W1 ⟨rfl, hb⟩
    have hz1 := hb.size
    have L_1 := hide (L_0.out.below hb (by omega))
    have B_1 := hide (B_0.out.trans (hb.mono (by omega)))
    clear hb L_0 B_0
    go_wp2_with fail
    refine (specValidTr_any W0.heap.size A n c xs _ L_1.out (by omega) (by omega)).mono ?_
    rintro e W2 ⟨rfl, hb⟩
    have hz2 := hb.size
    have L_2 := hide (L_1.out.below hb (by omega))
    have B_2 := hide (B_1.out.trans (hb.mono (by omega)))
    clear hb L_1 B_1
    cases hk : validTr xs n
    case false =>
      have HK := hide hk
      have z0 : (false != false) = false := rfl
      clear hk
      go_wp2_with fail
      refine (specValidTr_any W0.heap.size A n c xs _ L_2.out (by omega) (by omega)).mono ?_
      rintro e W3 ⟨rfl, hb⟩
      try rw [HK.out]
      have hz3 := hb.size
      have L_3 := hide (L_2.out.below hb (by omega))
      have B_3 := hide (B_2.out.trans (hb.mono (by omega)))
      clear hb L_2 B_2
      go_wp2
      go_ret
      exact ⟨rfl, B_3.out⟩
    case true =>
      have HK := hide hk
      clear hk
      by_cases h2 : n < 2
      · have h2' : (n : Int) < 2 := by omega
        go_wp2_with fail
        refine (specValidTr_any W0.heap.size A n c xs _ L_2.out (by omega) (by omega)).mono ?_
        rintro e W3 ⟨rfl, hb⟩
        try rw [HK.out]
        have hz3 := hb.size
        have L_3 := hide (L_2.out.below hb (by omega))
        have B_3 := hide (B_2.out.trans (hb.mono (by omega)))
        clear hb L_2 B_2
        go_wp2
        go_ret
        exact ⟨rfl, B_3.out⟩
      · have h2' : ¬ (n : Int) < 2 := by omega
        obtain ⟨k, hk⟩ : ∃ k, n = k + 1 := ⟨n - 1, by omega⟩
        obtain ⟨b, off, rfl, _, hcl⟩ := L_2.out.2.2 (by omega)
        have hT := hide (show validTr (xs.take (k * 2)) k = true from by
          rw [validTr_iff]
          have h := validTr_iff.1 HK.out
          refine ⟨by omega, fun i hi => ?_⟩
          have h1 := h.2 i (by omega)
          rw [show (xs.take (k * 2)).getD (i * 2) 0 = xs.getD (i * 2) 0 by simp [List.getD_eq_getElem?_getD, show i * 2 < k * 2 by omega], show (xs.take (k * 2)).getD (i * 2 + 1) 0 = xs.getD (i * 2 + 1) 0 by simp [List.getD_eq_getElem?_getD, show i * 2 + 1 < k * 2 by omega]]
          exact h1)
        have hD := hide (show validTr (xs.drop 2) k = true from by
          rw [validTr_iff]
          have h := validTr_iff.1 HK.out
          refine ⟨by omega, fun i hi => ?_⟩
          have h1 := h.2 (i + 1) (by omega)
          rw [show (xs.drop 2).getD (i * 2) 0 = xs.getD ((i + 1) * 2) 0 by simp only [List.getD_eq_getElem?_getD, List.getElem?_drop]; rw [show 2 + i * 2 = (i + 1) * 2 by omega], show (xs.drop 2).getD (i * 2 + 1) 0 = xs.getD ((i + 1) * 2 + 1) 0 by simp only [List.getD_eq_getElem?_getD, List.getElem?_drop]; rw [show 2 + (i * 2 + 1) = (i + 1) * 2 + 1 by omega]]
          exact h1)
        have hxl := L_2.out.1
        have V1 := hide (fun W (h : Below W2.heap.size W2 W) => (by have h1 := implValidTr_any W0.heap.size (some ⟨b, off, none⟩) k c (xs.take (k * 2)) W ((L_2.out.below h (by omega)).le (show k * 2 ≤ n * 2 by omega)) (by have := h.size; omega) (by omega); rw [hT.out] at h1; exact h1 : Calls Try.prog 12 #[.slice (some ⟨b, off, none⟩) k c] W fun e w' => e = .returned (.bool true) ∧ Below W.heap.size W w'))
        have V2 := hide (fun W (h : Below W2.heap.size W2 W) => (by
          have h2 : Ints .i64 W W0.heap.size (some ⟨b, off + 2, none⟩) (k * 2) (xs.drop 2) := ⟨by rw [List.length_drop, hxl]; omega, (fun h => by cases h), fun _ => by
            obtain ⟨b', off', e, hb', hc'⟩ := (L_2.out.below h (by omega)).2.2 (by omega)
            injection e with e; injection e with e1 e2; subst e1 e2
            refine ⟨b, off + 2, rfl, hb', fun i hi => ?_⟩
            have h3 := hc' (2 + i) (by omega)
            rw [← Nat.add_assoc] at h3
            rw [h3]
            simp [List.getD_eq_getElem?_getD, List.getElem?_drop]⟩
          have h1 := implValidTr_any W0.heap.size (some ⟨b, off + 2, none⟩) k (c - 1) (xs.drop 2) W h2 (by have := h.size; omega) (by omega); rw [hD.out] at h1; exact h1 : Calls Try.prog 12 #[.slice (some ⟨b, off + 2, none⟩) k (c - 1)] W fun e w' => e = .returned (.bool true) ∧ Below W.heap.size W w'))
        have e1 : IntKind.i64.wrap ((n : Int) - 1) = (k : Int) := by rw [IntWalk.i64_in _ (by omega)]; omega
        have k1 : k ≤ c := by omega
        have k2 : (k : Int) ≤ (c : Int) := by omega
        have k3 : ¬ c = 1 := by omega
        have k4 : n - 1 = k := by omega
        have k5 : 1 ≤ n := by omega
        have k6 : (1 : Int) ≤ (n : Int) := by omega
        clear hcl hT hD hxl hk
        go_wp2_with fail
        refine (V1.out W2 (Below.refl _ _)).mono ?_
        rintro e WA ⟨rfl, hb⟩
        have HA1 := hide hb
        clear hb
        go_wp2_with fail
        refine (V2.out WA HA1.out).mono ?_
        rintro e WB ⟨rfl, hb⟩
        have HB1 := hide (B_2.out.trans ((HA1.out.trans (hb.mono HA1.out.size)).mono (by omega)))
        clear hb
        go_wp2
        go_ret
        exact ⟨rfl, HB1.out⟩
end Go.Proofs.Ytelokjobhfhhfaa
