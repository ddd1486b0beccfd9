/- The law FnAutoPlacesPrefix. Conditions: none. -/
import Derived.Test.YtldmnpflcnmcpaaLawPlace
namespace Go.Proofs.Ytldmnpflcnmcpaa
open Go.RowKit
set_option linter.unusedVariables false
set_option maxRecDepth 100000 in
set_option maxHeartbeats 8000000 in
theorem walk_FnAutoPlacesPrefix (a0 : Option Addr) (len cap : Nat) (zs : List Int) (w : World) (h0 : Ints .u8 w w.heap.size a0 len zs) (hc : len ≤ cap) :
    Calls Try.prog 7 #[.slice a0 len cap] w fun e w' => e = .returned (.bool true) ∧ Below w.heap.size w w' := by
  by_cases hl : len ≤ 1048576
  case neg =>
    go_enter Try.func7, Try.ntmps7
    go_wp2
    go_ret
    exact ⟨rfl, Below.refl _ _⟩
  case pos =>
    go_enter Try.func7, Try.ntmps7
    go_wp2_with fail
    refine (drawAuto_any a0 len cap zs _ h0 hc).mono ?_
    rintro e W0 ⟨A, n, c, xs, cc, rfl, hc0, hc9, hn15, hnc, hcm, rX, hb0⟩
    clear h0
    have hX_0 := hide rX.ints
    have hB_0 := hide hb0
    have hz0 := hb0.size
    have hxl := hide rX.1
    have hNb := lenP_le xs cc
    have hN := hide (fun h : 0 < lenP xs cc => lenP_ok h)
    have hNt := hide (fun (h : lenP xs cc = xs.length) (m : Nat) (hm : m ≤ xs.length) => lenP_take (m := m) h hm)
    clear rX hb0
    go_wp2_with fail
    refine (implAuto_any W0.heap.size A n c xs cc _ hX_0.out (by omega) (by omega)).mono ?_
    rintro e W1 ⟨P, Pc, gs, rfl, hP1, hP2, hP, hb⟩
    have hP_1 := hide hP
    clear hP
    have hX_1 := hide (hX_0.out.below hb (by omega))
    have hB_1 := hide (hB_0.out.trans (hb.mono (by omega)))
    have hz1 := hb.size
    clear hb hX_0 hB_0
    go_wp2_with fail
    refine (specAuto_any W0.heap.size A n c xs cc _ hX_1.out (by omega) (by omega)).mono ?_
    rintro e W2 ⟨Q, Qc, hs, rfl, hQ1, hQ2, hQ, hb⟩
    have hQ_2 := hide hQ
    clear hQ
    have hX_2 := hide (hX_1.out.below hb (by omega))
    have hP_2 := hide (hP_1.out.below hb (by omega))
    have hB_2 := hide (hB_1.out.trans (hb.mono (by omega)))
    have hz2 := hb.size
    clear hb hX_1 hP_1 hB_1
    generalize hNe : lenP xs cc = N at hP1 hQ1 hP_2 hQ_2 hNb hN hNt ⊢
    have HNE := hide hNe
    clear hNe
    go_wp2_with fail
    refine (eqLists_any W0.heap.size W1.heap.size W1.heap.size W2.heap.size P Q N Pc Qc gs hs _ _ _ hP_2.out hQ_2.out (by omega)).mono ?_
    rintro e W3 ⟨rfl, hb⟩
    clear hQ_2
    have hX_3 := hide (hX_2.out.below hb (by omega))
    have hP_3 := hide (hP_2.out.below hb (by omega))
    have hB_3 := hide (hB_2.out.trans (hb.mono (by omega)))
    have hz3 := hb.size
    clear hb hX_2 hP_2 hB_2
    by_cases hnN : N = n
    case neg =>
      have hN0 : N = 0 := by
        rcases Nat.eq_zero_or_pos N with h | h
        · exact h
        · have h1 := (hN.out h).2; have h2 := hxl.out; omega
      subst hN0
      have hnn : ((0 : Int) != (n : Int)) = true := by simp; omega
      go_wp2_with fail
      refine (specAuto_any W0.heap.size A n c xs cc _ hX_3.out (by omega) (by omega)).mono ?_
      rintro e W4 ⟨Q, Qc, hs, rfl, hQ1, hQ2, hQ, hb⟩
      have hQ_4 := hide hQ
      clear hQ
      rw [HNE.out] at hQ1 hQ_4 ⊢
      have hX_4 := hide (hX_3.out.below hb (by omega))
      have hP_4 := hide (hP_3.out.below hb (by omega))
      have hB_4 := hide (hB_3.out.trans (hb.mono (by omega)))
      have hz4 := hb.size
      clear hb hX_3 hP_3 hB_3
      go_wp2_with fail
      refine (eqLists_any W0.heap.size W1.heap.size W3.heap.size W4.heap.size P Q 0 Pc Qc gs hs _ _ _ hP_4.out hQ_4.out (by omega)).mono ?_
      rintro e W5 ⟨rfl, hb⟩
      clear hQ_4
      have hX_5 := hide (hX_4.out.below hb (by omega))
      have hP_5 := hide (hP_4.out.below hb (by omega))
      have hB_5 := hide (hB_4.out.trans (hb.mono (by omega)))
      have hz5 := hb.size
      clear hb hX_4 hP_4 hB_4
      go_wp2
      go_ret
      exact ⟨rfl, hB_5.out⟩
    case pos =>
      subst hnN
      have hnn : ((N : Int) != (N : Int)) = false := by simp
      obtain ⟨m, hm⟩ : ∃ m, N / 2 = m := ⟨_, rfl⟩
      have hq : ((N : Int)).tdiv 2 = (m : Int) := by rw [← hm]; rfl
      have hmN : m ≤ N := by omega
      have hmc : m ≤ c := by omega
      have hmP : m ≤ Pc := by omega
      have hmc' : (m : Int) ≤ (c : Int) := by omega
      have hmP' : (m : Int) ≤ (Pc : Int) := by omega
      have hXt := hide (hX_3.out.le hmN)
      have hPt := hide (hP_3.out.take hmN)
      have hPd := hide (show PL W3.drew W0.heap.size W1.heap.size P m (gs.take m) (plR xs cc) (plC xs cc) from hPt.out.belowS ((Below.refl _ _).drew))
      have hTk := hide (show lenP (xs.take m) cc = m from hNt.out hxl.out.symm m (by rw [hxl.out]; exact hmN))
      have hPc := hide (fun (W : World) (lo hi : Nat) (A : Option Addr) (gs : List Nat) (h : PL W lo hi A m gs (plR (xs.take m) cc) (plC (xs.take m) cc)) => h.congr (R' := plR xs cc) (C' := plC xs cc) (fun i hi => (pl_take hi).1) (fun i hi => (pl_take hi).2))
      clear hm
      have hC1 := hide (implAuto_any W0.heap.size A m c (xs.take m) cc W3.drew (show Ints .i64 W3.drew W0.heap.size A m (xs.take m) from hXt.out) (by show W0.heap.size ≤ W3.heap.size; omega) (by omega))
      have hC2 := hide (fun (W4 : World) (P' : Option Addr) (Pc' : Nat) (gs' : List Nat) (hP' : PL W4 W3.drew.heap.size W4.heap.size P' (lenP (xs.take m) cc) gs' (plR (xs.take m) cc) (plC (xs.take m) cc)) (hb : Below W3.drew.heap.size W3.drew W4) =>
        eqLists_any W3.heap.size W4.heap.size W0.heap.size W1.heap.size P' P m Pc' Pc gs' (gs.take m) (plR xs cc) (plC xs cc) W4 (hPc.out _ _ _ _ _ (by rw [hTk.out] at hP'; exact hP')) (hPd.out.belowS hb) (by omega))
      go_wp2_with fail
      go_region_held3 (fun w' => True) (first | go_keep | trivial) (first
        | (go_at_call 19; have h9 := hC1.out; refine Calls.mono h9 ?_; intro e W4 hh; obtain ⟨P', Pc', gs', he, hP1', hP2', hP', hb⟩ := hh; subst he; have hK := hC2.out W4 P' Pc' gs' hP' hb; rw [hTk.out])
        | (go_at_call 25; refine Calls.mono hK ?_; intro e W5 hh; obtain ⟨he, hb'⟩ := hh; subst he))
      have D := hide (hB_3.out.trans (((show Below W3.heap.size W3 W4 from (Below.refl _ _).drew.trans (show Below W3.heap.size W3.drew W4 from hb)).trans (hb'.mono hb.size)).mono (by omega)))
      go_wp2
      go_ret
      exact ⟨rfl, D.out⟩
end Go.Proofs.Ytldmnpflcnmcpaa
