/- The program's share of a number by weights. Conditions: none. -/
import Derived.Test.YthgliihdaockoaaShareU
namespace Go.Proofs.Ythgliihdaockoaa
open Go.RowKit
set_option linter.unusedVariables false
set_option linter.unusedSimpArgs false
theorem mk_ints0n (n : Nat) (hn : n ≤ 1099511627776) (w : World) :
    (Instr.makeSlice 26 (.int .i64 0) (.int .i64 (n : Int))).run Try.prog w = .ok (.slice (some ⟨w.heap.size, 0, none⟩) 0 n) (w.alloc (.cells (madeCells #[.int .i64 0] n) 3)) := by
  obtain ⟨i0, hi, hz0, hz1, hz2⟩ := info_parts int_info
  have h := run_make w 26 3 i0 (.int .i64 0) Try.underlying26 hi hz0 .i64 .i64 0 n (by omega) (by omega) (by rw [hz2]; omega) (by omega)
  simpa [hz1, Value.cells] using h
theorem fl_succ (k : Nat) (f : Nat → Int) : fl (k + 1) f = fl k f ++ [f k] := by unfold fl; rw [List.range_succ, List.map_append]; rfl
theorem own_rowF {W : World} {base n : Nat} {v : Value} {f : Nat → Int} (h : Own 3 1 W base v n (fl n f)) (hn : 0 < n) :
    ∃ g cap, v = .slice (some ⟨g, 0, none⟩) n cap ∧ base ≤ g ∧ g < W.heap.size ∧ n ≤ cap ∧ cap ≤ 9223372036854775807 ∧ RowF W g n f := by
  rcases h.2 with ⟨rfl, h0⟩ | ⟨g, cap, cur, rfl, hb, hg, hnc, hm, hs, ht⟩
  · omega
  · refine ⟨g, cap, rfl, hb, (Array.getElem?_eq_some_iff.1 hg).1, hnc, hm, fl_len _ _, fun _ => ⟨g, 0, cur, rfl, Nat.le_refl _, Nat.lt_succ_self _, hg, by rw [hs]; omega, fun i hi => ?_⟩⟩
    have h1 := iv_get (xs := fl n f) (i := i) (by rw [fl_len]; exact hi)
    rw [← ht, List.getElem?_take, if_pos (by omega)] at h1
    rw [Nat.zero_add, ← h1, Array.getElem?_toList]
theorem quietSh {P : Program} {f : FuncId} {args : Array Value} {w : World} {n : Nat} {v : Value}
    (h : Calls P f args (w.drewN n) fun e w' => e = .returned v ∧ w.drewN n = w') : Calls P f args (w.drewN n) fun e w'' => e = .returned v ∧ ∃ m, w'' = w.drewN m :=
  h.mono fun _ _ ⟨he, hm⟩ => ⟨he, n, hm.symm⟩
theorem sortStable_any (r : Nat → Int) (n g c gf : Nat) (lb : Array Value) (eg : ∀ args w, (callFunc gf args).run Try.prog w = .ok (.enter gf args) w) (w : World) (hn : 1 ≤ n ∧ n ≤ 8) (hnc : n ≤ c) (hR : RowF w g n (fun q => (q : Nat)))
    (hcmp : ∀ W, w.grownBy W (some g) → Cmps r n gf lb W) :
    Calls Try.prog 69 #[.slice (some ⟨g, 0, none⟩) n c, .func (.func gf) #[] lb] w (Sorted r n g w) := by
  have HI := hide (stable_any r n g c gf lb eg w hn hnc hR hcmp)
  clear hR hcmp
  go_enter Try.func69, Try.ntmps69
  go_wp2_with fail
  refine HI.out.mono ?_
  rintro e w1 ⟨rfl, hR1, hg1⟩
  have D := hide (show Sorted r n g w (.returned (.tuple #[])) w1 from ⟨rfl, hR1, hg1⟩)
  clear hR1 hg1 HI
  go_wp2
  exact bodyPost_ret (v := .tuple #[]) (by simp [results, Try.results69, go_sem]) rfl D.out
set_option maxHeartbeats 1000000 in
theorem shareCmp_any (p2 p3 p6 B : Nat) (a : Option Addr) (n c : Nat) (ws : List Int) (s : Int) (w : World) (hA : Ints .i64 w B a n ws) (hn : n ≤ 8) (hw : WOk ws) (hs : 0 ≤ s ∧ s ≤ 200000) (hS : 0 < sumI ws)
    (h2 : w.cell? ⟨p2, 0, none⟩ = some (.int .i64 s)) (h3 : w.cell? ⟨p3, 0, none⟩ = some (.slice a n c)) (h6 : w.cell? ⟨p6, 0, none⟩ = some (.int .i64 (sumI ws))) (i k : Nat) (hi : i < n) (hk : k < n) :
    Calls Try.prog 70 #[.int .i64 i, .int .i64 k, .pointer (some ⟨p2, 0, none⟩), .pointer (some ⟨p3, 0, none⟩), .pointer (some ⟨p6, 0, none⟩)] w fun e w' => e = .returned (.int .i64 (cmpI (restW s ws k) (restW s ws i))) ∧ ∃ m, w' = w.drewN m := by
  have hl := hA.1
  obtain ⟨b, off, rfl, _, hcell⟩ := hA.2.2 (by omega)
  have ci := hcell i hi
  have ck := hcell k hk
  have pi := prod_bd hs (hw.at (i := i) (by omega))
  have pk := prod_bd hs (hw.at (i := k) (by omega))
  have ri : (s * ws.getD i 0).tmod (sumI ws) = restW s ws i := by rw [Int.tmod_eq_emod_of_nonneg pi.1]; rfl
  have rk : (s * ws.getD k 0).tmod (sumI ws) = restW s ws k := by rw [Int.tmod_eq_emod_of_nonneg pk.1]; rfl
  have bi := rest_bd (s := s) hS i
  have bk := rest_bd (s := s) hS k
  have hsum := hw.sum (by omega)
  have ei : (i : Int) < (n : Int) := by omega
  have ek : (k : Int) < (n : Int) := by omega
  clear hcell hA hw
  generalize ws.getD i 0 = x at *
  generalize ws.getD k 0 = y at *
  generalize restW s ws i = r1 at *
  generalize restW s ws k = r2 at *
  generalize sumI ws = S at *
  have w1 : IntKind.i64.wrap (s * x) = s * x := IntWalk.i64_in _ (by omega)
  have w2 : IntKind.i64.wrap (s * y) = s * y := IntWalk.i64_in _ (by omega)
  have w3 : IntKind.i64.wrap r1 = r1 := IntWalk.i64_in _ (by omega)
  have w4 : IntKind.i64.wrap r2 = r2 := IntWalk.i64_in _ (by omega)
  have z0 : ¬ S = 0 := by omega
  have z1 : (S == 0) = false := by simp; omega
  clear pi pk bi bk hsum hl hS
  go_enter Try.func70, Try.ntmps70
  go_wp2
  go_quiet ((go_at_call 71; exact quietSh (compare_any r2 r1 _)))
  go_wp2
  go_ret
  exact ⟨rfl, _, rfl⟩
end Go.Proofs.Ythgliihdaockoaa
